/- 'Total' of a plan; 'Same' of two lists that are the same. -/
import Derived.Test.YtokenlecnbploaaColA
namespace Go.Proofs.Ytokenlecnbploaa
open Go.RowKit

set_option maxRecDepth 100000 in
set_option maxHeartbeats 400000 in
theorem total_any (r : Int) (v : Value) (zs : List Int) (w : World) (hR : Ri w.heap.size w v zs) (hn : narrow zs) :
    Calls Try.prog 22 #[.agg #[.int .i64 r, v]] w fun e w' => e = .returned (.int .i64 (totalL zs)) ∧ Below w.heap.size w w' := by
  obtain ⟨a, cap, rfl, hcap, hmax, hxl, hcells⟩ := hR
  unfold maxLen at hmax
  have hlen := hn.1
  clear hxl
  go_enter Try.func22, Try.ntmps22
  go_wp2
  go_loop [3, 9] (fun n i => ∃ k : Nat, k ≤ zs.length ∧ i = .int .i64 k ∧ n = .int .i64 (partL zs k)) (fun _ i => zs.length - (intOf i).toNat)
  case atStart => exact ⟨0, Nat.zero_le _, rfl, rfl⟩
  case round =>
    obtain ⟨k, hk, rfl, rfl⟩ := hrel
    obtain ⟨s1, s2⟩ := sumL_bd hn k hk
    by_cases hlt : k < zs.length
    · obtain ⟨z, hz⟩ : ∃ z, zs[k]? = some z := ⟨zs[k], by simp [hlt]⟩
      obtain ⟨b, off, rfl, hbl, hc⟩ := hcells (by omega)
      obtain ⟨z1, z2⟩ := hn.2 z (List.mem_of_getElem? hz)
      have hd : w.cell? ⟨b, off + k, none⟩ = some (.int .i64 z) := hc _ _ (ints_get hz)
      have hp : partL zs (k + 1) = sumL (zs.take k) + z + 2 * (k : Int) := by unfold partL; rw [take_snoc' hz, sumL_snoc]; simp
      have hp0 : partL zs k = sumL (zs.take k) + 2 * ((k - 1 : Nat) : Int) := rfl
      generalize partL zs k = P at *
      generalize sumL (zs.take k) = S at *
      have HP := Lib.hid hp
      have hP1 : 0 ≤ P := by omega
      have hP2 : P ≤ 1152921504606846976 := by omega
      have HP0 := Lib.hid hp0
      clear hz hc hcells hp hp0
      by_cases h0 : (0 : Int) < k
      all_goals
        go_wp2
        go_round
        case rel => exact ⟨k + 1, by omega, by go_num, by rw [HP.out]; have := HP0.out; congr 1; omega⟩
        case measure => simp [intOf]; omega
    · have hkl : k = zs.length := by omega
      subst hkl
      have hT := Lib.hid (show partL zs zs.length = totalL zs by unfold partL totalL sumL; rw [List.take_length])
      clear hcells
      go_wp2
      go_ret
      exact ⟨ret_int hT.out, (Below.refl _ _).alloc (Nat.le_refl _) _⟩

set_option maxRecDepth 100000 in
set_option maxHeartbeats 400000 in
theorem sameInts_eq (v u : Value) (zs : List Int) (w : World) (hv : Ri w.heap.size w v zs) (hu : Ri w.heap.size w u zs) :
    Calls Try.prog 26 #[v, u] w fun e w' => e = .returned (.bool true) ∧ Below w.heap.size w w' := by
  obtain ⟨a, cap, rfl, hcap, hmax, hxl, hcells⟩ := hv
  obtain ⟨a', cap', rfl, hcap', hmax', hxl', hcells'⟩ := hu
  unfold maxLen at hmax hmax'
  clear hxl hxl'
  go_enter Try.func26, Try.ntmps26
  go_wp2
  go_loopw [5] (fun i wr => ∃ k : Nat, k ≤ zs.length ∧ i = .int .i64 k ∧ Below w.heap.size w wr) (fun i _ => zs.length - (intOf i).toNat)
  case atStart => exact ⟨0, Nat.zero_le _, rfl, Below.refl _ _⟩
  case round =>
    obtain ⟨k, hk, rfl, hB⟩ := hrel
    by_cases hlt : k < zs.length
    · obtain ⟨z, hz⟩ : ∃ z, zs[k]? = some z := ⟨zs[k], by simp [hlt]⟩
      obtain ⟨b, off, rfl, hbl, hc⟩ := hcells (by omega)
      obtain ⟨b', off', rfl, hbl', hc'⟩ := hcells' (by omega)
      have hd : wr.cell? ⟨b, off + k, none⟩ = some (.int .i64 z) := cell_later hB (hc _ _ (ints_get hz))
      have hd' : wr.cell? ⟨b', off' + k, none⟩ = some (.int .i64 z) := cell_later hB (hc' _ _ (ints_get hz))
      have hkl : (k : Int) < zs.length := by omega
      clear hcells hcells' hc hc' hz
      go_wp2
      go_quiet (fail)
      go_wp2
      go_roundw
      case rel => exact ⟨k + 1, by omega, by go_num, below_drewN hB _⟩
      case measure => simp [intOf]; omega
    · clear hcells hcells'
      go_wp2
      go_ret
      exact ⟨rfl, hB⟩
end Go.Proofs.Ytokenlecnbploaa
