/- The walk of ColumnsFit. -/
import Derived.Test.YtokenlecnbploaaColF
namespace Go.Proofs.Ytokenlecnbploaa
open Go.RowKit

set_option maxRecDepth 100000 in
set_option maxHeartbeats 1000000 in
theorem columnsFit_any (v : Value) (l : List Int) (cols : Int) (w : World) (hR : Ri w.heap.size w v l) :
    Calls Try.prog 6 #[v, .int .i64 cols] w fun e w' => e = .returned (.bool true) ∧ Below w.heap.size w w' := by
  have hn := smallL_narrow l
  go_enter Try.func6, Try.ntmps6
  go_wp2_with fail
  refine (small_any v l w hR).mono ?_
  rintro e w1 ⟨va, rfl, hB1, ho⟩
  generalize smallL l = zs at *
  obtain ⟨sa, sc, rfl⟩ := slice_of_owns ho
  have HO := Lib.hid ho
  clear ho
  rcases Nat.eq_zero_or_pos zs.length with h0 | h0
  · obtain rfl : zs = [] := List.eq_nil_of_length_eq_zero h0
    clear h0
    go_wp2_with fail
    refine (fit_nil _ cols _ (ri_of_owns HO.out)).mono ?_
    rintro e w2 ⟨rfl, hB2⟩
    have ht : ((totalL []) == 0) = true := by decide
    go_wp2_with (first | (go_at_call 22; refine (total_any _ _ [] _ (Rd.nil _ _ _) ⟨by simp, by simp⟩).mono ?_; rintro e w3 ⟨rfl, hB3⟩) | (go_at_call 23; refine (awake45_any _).mono ?_; rintro e w4 ⟨rfl, hB4⟩))
    go_ret
    exact ⟨rfl, below_trans' (below_trans' (below_new (below_trans' hB1 hB2) _) hB3) hB4⟩
  · have hb0 : ((zs.length : Int) == 0) = false := by simp; intro h; rw [h] at h0; simp at h0
    go_wp2_with fail
    refine (fit_some _ zs cols _ (ri_of_owns HO.out) hn h0).mono ?_
    rintro e w2 ⟨R, vw, rfl, hB2, hfit, hop⟩
    obtain ⟨pa, pc, rfl⟩ := slice_of_owns hop
    have HF := Lib.hid hfit
    have HP := Lib.hid hop
    have hR1 := hfit.1
    have hR2 := hfit.2.1
    have hlen := hn.1
    have hnar := planL_narrow hn R (by omega)
    clear hfit hop
    have hz3 := Lib.hid (owns_stays HO.out hB2)
    go_wp2_with fail
    refine (refFit_some _ zs cols _ (ri_of_owns (hz3.out.alloc _)) hn h0).mono ?_
    rintro e w3 ⟨S, rfl, hB3, hfit2⟩
    obtain rfl := isFit_unique HF.out hfit2
    clear hfit2
    have hb23 : Below w2.heap.size w2 w3 := ((Below.refl _ w2).alloc (Nat.le_refl _) _).trans (hB3.mono (by simp))
    have hz4 := Lib.hid (owns_stays hz3.out hb23)
    have hp4 := Lib.hid (owns_stays HP.out hb23)
    have c0 : w3.cell? ⟨w2.heap.size, 0, none⟩ = some (.int .i64 R) := (hB3.cell (p := ⟨w2.heap.size, 0, none⟩) (by show w2.heap.size < _; simp)).trans (by go_simp)
    have c1 : w3.cell? ⟨w2.heap.size, 1, none⟩ = some (.slice pa (planL zs R).length pc) := (hB3.cell (p := ⟨w2.heap.size, 1, none⟩) (by show w2.heap.size < _; simp)).trans (by go_simp)
    go_wp2_with fail
    refine (refPlan_any _ zs R _ (ri_of_owns hz4.out) hlen (by omega) (by omega)).mono ?_
    rintro e w4 ⟨vq, rfl, hB4, hoq⟩
    have c2 : w4.cell? ⟨w2.heap.size, 0, none⟩ = some (.int .i64 R) := (hB4.cell (p := ⟨w2.heap.size, 0, none⟩) (World.block_lt_of_cell? w3 _ c0)).trans c0
    have c3 : w4.cell? ⟨w2.heap.size, 1, none⟩ = some (.slice pa (planL zs R).length pc) := (hB4.cell (p := ⟨w2.heap.size, 1, none⟩) (World.block_lt_of_cell? w3 _ c1)).trans c1
    clear c0 c1
    have hp5 := Lib.hid (owns_stays hp4.out hB4)
    have HQ := Lib.hid hoq
    clear hoq
    go_wp2_with fail
    refine (sameInts_eq _ _ (planL zs R) _ (ri_of_owns hp5.out) (ri_of_owns HQ.out)).mono ?_
    rintro e w5 ⟨rfl, hB5⟩
    have c4 : w5.cell? ⟨w2.heap.size, 0, none⟩ = some (.int .i64 R) := (hB5.cell (p := ⟨w2.heap.size, 0, none⟩) (World.block_lt_of_cell? w4 _ c2)).trans c2
    have c5 : w5.cell? ⟨w2.heap.size, 1, none⟩ = some (.slice pa (planL zs R).length pc) := (hB5.cell (p := ⟨w2.heap.size, 1, none⟩) (World.block_lt_of_cell? w4 _ c3)).trans c3
    clear c2 c3
    have hp6 := Lib.hid (owns_stays hp5.out hB5)
    have hq6 := Lib.hid (owns_stays HQ.out hB5)
    go_wp2_with fail
    refine (total_any _ _ (planL zs R) _ (ri_of_owns hp6.out) hnar).mono ?_
    rintro e w6 ⟨rfl, hB6⟩
    have hq7 := Lib.hid (owns_stays hq6.out hB6)
    go_wp2_with fail
    refine (refTotal_any _ (planL zs R) _ (ri_of_owns hq7.out) hnar).mono ?_
    rintro e w7 ⟨rfl, rfl⟩
    go_wp2_with (go_at_call 23; refine (awake45_any _).mono ?_; rintro e w8 ⟨rfl, hB8⟩)
    go_ret
    exact ⟨rfl, below_trans' (below_trans' (below_trans' (below_trans' (below_trans' (below_trans' hB1 hB2) hb23) hB4) hB5) hB6) hB8⟩
end Go.Proofs.Ytokenlecnbploaa
