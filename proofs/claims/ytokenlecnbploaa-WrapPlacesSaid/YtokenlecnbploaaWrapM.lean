/- The law WrapPlaces: the walk. -/
import Derived.Test.YtokenlecnbploaaWrapL
namespace Go.Proofs.Ytokenlecnbploaa
open Go.RowKit Go.ChangeShapes
set_option maxRecDepth 100000 in
set_option maxHeartbeats 1000000 in
theorem wrapPlaces_any (v : Value) (l : List Gl) (cols : Int) (w : World) (hR : Rs w.heap.size w genc 2 v l) (hcm : cols ≤ 9223372036854775807) :
    Calls Try.prog 3 #[v, .int .i64 cols] w fun e w' => e = .returned (.bool true) ∧ Below w.heap.size w w' := by
  have hlen : (fewl l).length ≤ 1073741824 := by rw [fewl_length]; omega
  have hthin := fewl_thin l
  go_enter Try.func3, Try.ntmps3
  go_wp2_with fail
  refine (few_any v l w hR).mono ?_
  rintro e w1 ⟨va, vb, rfl, hB1, ha, hb⟩
  go_wp2_with fail
  refine (place_any va (fewl l) cols w1 (rd_of_owns ha) hlen hcm hthin).mono ?_
  rintro e w2 ⟨vs, rfl, hB2, hs, _⟩
  go_wp2_with fail
  refine (refPlace_any vb (fewl l) cols w2 ((rd_of_owns hb).below hB2 (Nat.le_refl _) |>.mono hB2.size) hlen hcm hthin).mono ?_
  rintro e w3 ⟨vx, rfl, hB3, hx⟩
  have hsR := (rd_of_owns hs).below hB3 (Nat.le_refl _)
  have hxR := rd_of_owns hx
  have hB : Below w.heap.size w w3 := below_trans' (below_trans' hB1 hB2) hB3
  clear ha hb hs hx hB1 hB2 hB3 hthin
  generalize spotsL cols (fewl l) = sp at *
  obtain ⟨sa, scap, rfl, hsc1, hsc2, hsl, hsc⟩ := hsR
  obtain ⟨xa, xcap, rfl, hxc1, hxc2, hxl, hxc⟩ := hxR
  unfold maxLen at hsc2
  clear hsl hxl
  go_wp2_with fail
  go_loopw [9] (fun i wr => ∃ k : Nat, k ≤ sp.length ∧ i = .int .i64 k ∧ Below w3.heap.size w3 wr) (fun i _ => sp.length - (intOf i).toNat)
  case atStart => exact ⟨0, Nat.zero_le _, rfl, Below.refl _ _⟩
  case round =>
    obtain ⟨k, hk, rfl, hBr⟩ := hrel
    by_cases hlt : k < sp.length
    · obtain ⟨s, hg⟩ : ∃ s, sp[k]? = some s := ⟨sp[k], by simp [hlt]⟩
      obtain ⟨b, off, rfl, hbl, hcc⟩ := hsc (by omega)
      obtain ⟨b', off', rfl, hbl', hcc'⟩ := hxc (by omega)
      have d1 : wr.cell? ⟨b, off + k * 2, none⟩ = some (.int .i64 s.1) := cell_later hBr (flat_cell senc_len hcc hg 0 rfl)
      have d2 : wr.cell? ⟨b, off + k * 2 + 1, none⟩ = some (.int .i64 s.2) := cell_later hBr (flat_cell senc_len hcc hg 1 rfl)
      have d3 : wr.cell? ⟨b', off' + k * 2, none⟩ = some (.int .i64 s.1) := cell_later hBr (flat_cell senc_len hcc' hg 0 rfl)
      have d4 : wr.cell? ⟨b', off' + k * 2 + 1, none⟩ = some (.int .i64 s.2) := cell_later hBr (flat_cell senc_len hcc' hg 1 rfl)
      have hkl : (k : Int) < sp.length := by omega
      clear hsc hxc hcc hcc' hg
      go_wp2
      go_quiet (fail)
      go_wp2
      go_roundw
      case rel => exact ⟨k + 1, by omega, by go_num, below_drewN hBr _⟩
      case measure => simp [intOf]; omega
    · clear hsc hxc
      go_wp2_with (go_at_call 17; refine (awake28_any _).mono ?_; rintro e w' ⟨rfl, hB4⟩)
      go_ret
      exact ⟨rfl, below_trans' (below_trans' hB hBr) hB4⟩
end Go.Proofs.Ytokenlecnbploaa
