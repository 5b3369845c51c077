/- Lists of ints: 'small', both 'Total', 'Same'. -/
import Derived.Test.YtokenlecnbploaaRows
import Derived.Test.YtokenlecnbploaaBase
import Derived.Deep.QuietTactic
import Derived.BigQuiet
import Derived.IntWalk
namespace Go.Proofs.Ytokenlecnbploaa
open Go.RowKit

def ints (zs : List Int) : List Value := zs.map (.int .i64)
theorem ints_get {zs : List Int} {k : Nat} {z : Int} (h : zs[k]? = some z) : (ints zs)[k]? = some (.int .i64 z) := by simp [ints, h]
theorem ints_len (zs : List Int) : (ints zs).length = zs.length := by simp [ints]
theorem ints_snoc (zs : List Int) (z : Int) : ints zs ++ [.int .i64 z] = ints (zs ++ [z]) := by simp [ints]
theorem Ei : ElemT Try.prog 39 3 1 8 := elemT_of (by kernel_rfl) (z := .int .i64 0) (by kernel_rfl) rfl (by decide) (by decide)
theorem one_int (z : Int) : ∀ u ∈ [Value.int .i64 z], u.oneCell' = true := by intro u hu; simp at hu; subst hu; rfl
/-- v reads as the list zs of ints. -/
def Ri (B : Nat) (w : World) (v : Value) (zs : List Int) : Prop := Rd B w 1 v zs.length (ints zs)
theorem ri_of_owns {w : World} {base e : Nat} {v : Value} {zs : List Int} (h : w.ownsRow base e 1 v zs.length (ints zs)) : Ri w.heap.size w v zs := rd_of_owns h

def smallL (zs : List Int) : List Int := (zs.take 60).map (· % 1024)
theorem smallL_snoc (zs : List Int) (k : Nat) (z : Int) (hz : zs[k]? = some z) (hk : k < 60) : smallL (zs.take (k + 1)) = smallL (zs.take k) ++ [z % 1024] := by
  unfold smallL
  rw [List.take_take, List.take_take, show min 60 (k+1) = k+1 by omega, show min 60 k = k by omega, List.take_add_one, hz]
  simp
theorem smallL_len (zs : List Int) : (smallL zs).length = min zs.length 60 := by unfold smallL; simp; omega
theorem smallL_take (zs : List Int) (k : Nat) (hk : k = zs.length ∨ k = 60) : smallL (zs.take k) = smallL zs := by
  unfold smallL; rcases hk with rfl | rfl; simp; rw [List.take_take, Nat.min_self]
theorem smallL_bd (zs : List Int) : ∀ z ∈ smallL zs, 0 ≤ z ∧ z ≤ 1023 := by
  intro z hz; unfold smallL at hz; obtain ⟨y, _, rfl⟩ := List.mem_map.1 hz; omega

set_option maxRecDepth 100000 in
set_option maxHeartbeats 400000 in
theorem small_any (v : Value) (zs : List Int) (w : World) (hR : Ri w.heap.size w v zs) :
    Calls Try.prog 20 #[v] w fun e w' => ∃ va, e = .returned va ∧ Below w.heap.size w w' ∧ w'.ownsRow w.heap.size 3 1 va (smallL zs).length (ints (smallL zs)) := by
  obtain ⟨a, cap, rfl, hcap, hmax, hxl, hcells⟩ := hR
  unfold maxLen at hmax
  clear hxl
  go_enter Try.func20, Try.ntmps20
  go_wp2
  go_loopw [3, 4] (fun va i wr => ∃ k : Nat, k ≤ zs.length ∧ k ≤ 60 ∧ i = .int .i64 k ∧ Below w.heap.size w wr ∧ wr.ownsRow w.heap.size 3 1 va k (ints (smallL (zs.take k)))) (fun _ i _ => zs.length - (intOf i).toNat)
  case atStart => exact ⟨0, Nat.zero_le _, Nat.zero_le _, rfl, Below.refl _ _, World.ownsRow_nil _ _ _ _⟩
  case round =>
    obtain ⟨k, hk, hk2, rfl, hB, ha⟩ := hrel
    have hBs := hB.size
    by_cases hlt : k < zs.length ∧ k < 60
    · obtain ⟨hlt, h60⟩ := hlt
      obtain ⟨z, hz⟩ : ∃ z, zs[k]? = some z := ⟨zs[k], by simp [hlt]⟩
      obtain ⟨b, off, rfl, hbl, hc⟩ := hcells (by omega)
      have hd : wr.cell? ⟨b, off + k, none⟩ = some (.int .i64 z) := cell_later hB (hc _ _ (ints_get hz))
      have HG := Lib.hid (smallL_snoc zs k z hz h60)
      have hbit := and1023 z
      clear hz hc hcells
      go_wp2_with (at_builtin; refine wpList_app1 _ rfl (.tmp 15) _ _ rfl Ei _ _ _ rfl ha _ _ [.int .i64 (z % 1024)] rfl (by decide) rfl (one_int _) (by omega) hB.size ?_; intro g1 cap1 w1 ho1 hg1 hf1; have hB1 := below_app hB hBs ha (Nat.le_refl _) hg1)
      go_roundw
      case rel => exact ⟨k + 1, by omega, by omega, by go_num, hB1, by rw [HG.out, ← ints_snoc]; exact ho1⟩
      case measure => simp [intOf]; omega
    · have HT := Lib.hid (smallL_take zs k (by omega))
      have HL := Lib.hid (show (smallL zs).length = k by rw [smallL_len zs]; omega)
      rw [HT.out] at ha
      have HA := Lib.hid ha
      clear ha hcells
      by_cases hlt2 : k < zs.length
      all_goals
        go_wp2
        go_ret
        exact ⟨u3, rfl, hB, by rw [HL.out]; exact HA.out⟩

def totalL (zs : List Int) : Int := zs.foldl (· + ·) 0 + 2 * ((zs.length - 1 : Nat) : Int)
def sumL (zs : List Int) : Int := zs.foldl (· + ·) 0
theorem sumL_snoc (zs : List Int) (z : Int) : sumL (zs ++ [z]) = sumL zs + z := by simp [sumL]
theorem take_snoc' {α : Type} {zs : List α} {k : Nat} {z : α} (h : zs[k]? = some z) : zs.take (k + 1) = zs.take k ++ [z] := by rw [List.take_add_one, h]; rfl
def narrow (zs : List Int) : Prop := zs.length ≤ 1048576 ∧ ∀ z ∈ zs, 0 ≤ z ∧ z ≤ 1048576
theorem sumL_bd {zs : List Int} (h : narrow zs) : ∀ k, k ≤ zs.length → 0 ≤ sumL (zs.take k) ∧ sumL (zs.take k) ≤ 1048576 * k := by
  intro k
  induction k with
  | zero => intro _; simp [sumL]
  | succ k ih =>
    intro hk
    obtain ⟨h1, h2⟩ := ih (by omega)
    have hz : zs[k]? = some zs[k] := List.getElem?_eq_getElem (by omega)
    obtain ⟨w1, w2⟩ := h.2 zs[k] (List.getElem_mem _)
    rw [take_snoc' hz, sumL_snoc]
    omega
def partL (zs : List Int) (k : Nat) : Int := sumL (zs.take k) + 2 * ((k - 1 : Nat) : Int)

set_option maxRecDepth 100000 in
set_option maxHeartbeats 400000 in
theorem refTotal_any (v : Value) (zs : List Int) (w : World) (hR : Ri w.heap.size w v zs) (hn : narrow zs) :
    Calls Try.prog 27 #[v] w fun e w' => e = .returned (.int .i64 (totalL zs)) ∧ w = w' := by
  obtain ⟨a, cap, rfl, hcap, hmax, hxl, hcells⟩ := hR
  unfold maxLen at hmax
  have hlen := hn.1
  clear hxl
  go_enter Try.func27, Try.ntmps27
  go_wp2
  go_loop [3, 4] (fun n i => ∃ k : Nat, k ≤ zs.length ∧ i = .int .i64 k ∧ n = .int .i64 (partL zs k)) (fun _ i => zs.length - (intOf i).toNat)
  case atStart => exact ⟨0, Nat.zero_le _, rfl, rfl⟩
  case round =>
    obtain ⟨k, hk, rfl, rfl⟩ := hrel
    obtain ⟨s1, s2⟩ := sumL_bd hn k hk
    by_cases hlt : k < zs.length
    · obtain ⟨z, hz⟩ : ∃ z, zs[k]? = some z := ⟨zs[k], by simp [hlt]⟩
      obtain ⟨b, off, rfl, hbl, hc⟩ := hcells (by omega)
      obtain ⟨z1, z2⟩ := hn.2 z (List.mem_of_getElem? hz)
      have hd : w.cell? ⟨b, off + k, none⟩ = some (.int .i64 z) := hc _ _ (ints_get hz)
      have hp : partL zs (k + 1) = sumL (zs.take k) + z + 2 * (k : Int) := by unfold partL; rw [take_snoc' hz, sumL_snoc]; simp
      have hp0 : partL zs k = sumL (zs.take k) + 2 * ((k - 1 : Nat) : Int) := rfl
      generalize partL zs k = P at *
      generalize sumL (zs.take k) = S at *
      have HP := Lib.hid hp
      have hP1 : 0 ≤ P := by omega
      have hP2 : P ≤ 1152921504606846976 := by omega
      have HP0 := Lib.hid hp0
      clear hz hc hcells hp hp0
      by_cases h0 : (0 : Int) < k
      all_goals
        go_wp2
        go_round
        case rel => exact ⟨k + 1, by omega, by go_num, by rw [HP.out]; have := HP0.out; congr 1; omega⟩
        case measure => simp [intOf]; omega
    · have hkl : k = zs.length := by omega
      subst hkl
      have hT := Lib.hid (show partL zs zs.length = totalL zs by unfold partL totalL sumL; rw [List.take_length])
      clear hcells
      go_wp2
      go_ret
      exact ⟨ret_int hT.out, rfl⟩
end Go.Proofs.Ytokenlecnbploaa
