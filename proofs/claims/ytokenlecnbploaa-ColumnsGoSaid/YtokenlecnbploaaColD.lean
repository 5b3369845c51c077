/- The document's Plan. -/
import Derived.Test.YtokenlecnbploaaColC
namespace Go.Proofs.Ytokenlecnbploaa
open Go.RowKit

theorem ceil_iff (n rows c : Nat) (hr : 0 < rows) : c < (n + rows - 1) / rows ↔ c * rows < n := by
  rw [← Nat.succ_le_iff, Nat.le_div_iff_mul_le hr, Nat.succ_mul]
  omega

def partMax (zs : List Int) (frm j : Nat) : Int := maxL ((zs.drop frm).take j)
theorem partMax_snoc (zs : List Int) (frm j : Nat) (z : Int) (h : zs[frm + j]? = some z) : partMax zs frm (j + 1) = max (partMax zs frm j) z := by
  unfold partMax
  rw [take_snoc' (z := z) (by rw [List.getElem?_drop]; exact h), maxL_snoc]

set_option maxRecDepth 100000 in
set_option maxHeartbeats 1000000 in
theorem refPlan_any (v : Value) (zs : List Int) (rows : Nat) (w : World) (hR : Ri w.heap.size w v zs) (hlen : zs.length ≤ 1048576) (hr : 0 < rows) (hr2 : rows ≤ 1048576) :
    Calls Try.prog 25 #[v, .int .i64 rows] w fun e w' => ∃ vw, e = .returned vw ∧ Below w.heap.size w w' ∧ w'.ownsRow w.heap.size 3 1 vw (planL zs rows).length (ints (planL zs rows)) := by
  obtain ⟨a, cap, rfl, hcap, hmax, hxl, hcells⟩ := hR
  unfold maxLen at hmax
  clear hxl
  go_enter Try.func25, Try.ntmps25
  go_wp2
  go_loopw [5, 6] (fun vo fr wr => ∃ c : Nat, c ≤ (zs.length + rows - 1) / rows ∧ fr = .int .i64 ((c * rows : Nat) : Int) ∧ Below w.heap.size w wr ∧ wr.ownsRow w.heap.size 3 1 vo c (ints ((planL zs rows).take c))) (fun _ fr _ => zs.length + rows - (intOf fr).toNat)
  case atStart => exact ⟨0, Nat.zero_le _, by simp, Below.refl _ _, World.ownsRow_nil _ _ _ _⟩
  case round =>
    obtain ⟨c, hc, rfl, hB, ho⟩ := hrel
    have hBs := hB.size
    have hiff := ceil_iff zs.length rows c hr
    obtain ⟨f, hf⟩ : ∃ f, f = c * rows := ⟨_, rfl⟩
    rw [← hf] at hiff ⊢
    have HF := Lib.hid hf
    clear hf
    by_cases hlt : f < zs.length
    · have hcl : c < (zs.length + rows - 1) / rows := hiff.2 hlt
      have hcc : (zs.length + rows - 1) / rows ≤ zs.length + rows - 1 := Nat.div_le_self _ _
      have hpl := planL_get zs rows c hcl
      have HP := Lib.hid (take_snoc' hpl)
      clear hiff hpl
      obtain ⟨wo, rfl⟩ : ∃ wo : World, wo = wr := ⟨_, rfl⟩
      go_wp2
      go_loop [7, 8] (fun m i => ∃ j : Nat, j ≤ rows ∧ f + j ≤ zs.length ∧ i = .int .i64 ((f + j : Nat) : Int) ∧ m = .int .i64 (partMax zs f j)) (fun _ i => zs.length - (intOf i).toNat)
      case atStart => exact ⟨0, Nat.zero_le _, by omega, rfl, rfl⟩
      case round =>
        obtain ⟨j, hj1, hj2, rfl, rfl⟩ := hrel
        by_cases hin : j < rows ∧ f + j < zs.length
        · obtain ⟨hin1, hin2⟩ := hin
          obtain ⟨z, hzk⟩ : ∃ z, zs[f + j]? = some z := ⟨zs[f + j], by simp [hin2]⟩
          obtain ⟨b, off, rfl, hbl, hcq⟩ := hcells (by omega)
          have hd : wo.cell? ⟨b, off + (f + j), none⟩ = some (.int .i64 z) := cell_later hB (hcq _ _ (ints_get hzk))
          have HM := Lib.hid (partMax_snoc zs f j z hzk)
          clear hcells hcq hzk
          generalize partMax zs f j = m at *
          by_cases hcmp : m < z
          all_goals
            go_wp2
            go_round
            case rel => exact ⟨j + 1, by omega, by omega, by go_num, by rw [HM.out]; congr 1; omega⟩
            case measure => simp [intOf]; omega
        · have hfin := Lib.hid (show partMax zs f j = maxL (chunk zs rows c) by
            unfold partMax chunk
            rw [← HF.out]
            rcases (show j = rows ∨ f + j = zs.length by omega) with h | h
            · rw [h]
            · rw [List.take_of_length_le (by simp; omega), List.take_of_length_le (by simp; omega)])
          have HO := Lib.hid ho
          clear hcells
          by_cases hj : j < rows
          all_goals
            have hB' := HO.out
            go_wp2_with (at_builtin; refine wpList_app1 _ rfl (.tmp 40) _ _ rfl Ei _ _ _ rfl hB' _ _ [.int .i64 (partMax zs f j)] rfl (by decide) rfl (one_int _) (by omega) hB.size ?_; intro g1 cap1 w1 ho1 hg1 hf1; have hB1 := below_app hB hBs hB' (Nat.le_refl _) hg1)
            refine ⟨⟨c + 1, by omega, ?_, hB1, ?_⟩, by simp [intOf]; omega⟩
            · rw [Nat.succ_mul, ← HF.out]; go_num
            · rw [HP.out, ← ints_snoc, ← hfin.out]; exact ho1
    · have hcl : c = (zs.length + rows - 1) / rows := by
        have : ¬ c < (zs.length + rows - 1) / rows := fun h => hlt (hiff.1 h)
        omega
      have hpl : (planL zs rows).length = c := by rw [planL_len]; exact hcl.symm
      rw [List.take_of_length_le (by omega)] at ho
      have HO := Lib.hid ho
      have HL := Lib.hid hpl
      clear ho hcells hpl hcl hiff
      go_wp2
      go_ret
      exact ⟨u5, rfl, hB, by rw [HL.out]; exact HO.out⟩
end Go.Proofs.Ytokenlecnbploaa
