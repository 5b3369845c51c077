/- The walk of ColumnsFew. -/
import Derived.Test.YtokenlecnbploaaColG
namespace Go.Proofs.Ytokenlecnbploaa
open Go.RowKit

theorem planL_all (zs : List Int) (h : 0 < zs.length) : (planL zs zs.length).length = 1 := by
  rw [planL_len]
  exact Nat.div_eq_of_lt_le (by omega) (by omega)

set_option maxRecDepth 100000 in
set_option maxHeartbeats 1000000 in
theorem columnsFew_any (v : Value) (l : List Int) (cols : Int) (w : World) (hR : Ri w.heap.size w v l) :
    Calls Try.prog 7 #[v, .int .i64 cols] w fun e w' => e = .returned (.bool true) ∧ Below w.heap.size w w' := by
  have hn := smallL_narrow l
  go_enter Try.func7, Try.ntmps7
  go_wp2_with fail
  refine (small_any v l w hR).mono ?_
  rintro e w1 ⟨va, rfl, hB1, ho⟩
  generalize smallL l = zs at *
  obtain ⟨sa, sc, rfl⟩ := slice_of_owns ho
  have HO := Lib.hid ho
  clear ho
  rcases Nat.eq_zero_or_pos zs.length with h0 | h0
  · obtain rfl : zs = [] := List.eq_nil_of_length_eq_zero h0
    clear h0
    go_wp2_with fail
    refine (fit_nil _ cols _ (ri_of_owns HO.out)).mono ?_
    rintro e w2 ⟨rfl, hB2⟩
    go_wp2_with fail
    refine (total_any _ _ [] _ (Rd.nil _ _ _) ⟨by simp, by simp⟩).mono ?_
    rintro e w3 ⟨rfl, hB3⟩
    have c0 : w3.cell? ⟨w2.heap.size, 0, none⟩ = some (.int .i64 0) := (hB3.cell (p := ⟨w2.heap.size, 0, none⟩) (by show w2.heap.size < _; simp)).trans (by go_simp)
    have c1 : w3.cell? ⟨w2.heap.size, 1, none⟩ = some (.slice none 0 0) := (hB3.cell (p := ⟨w2.heap.size, 1, none⟩) (by show w2.heap.size < _; simp)).trans (by go_simp)
    have hB := below_trans' (below_new (below_trans' hB1 hB2) _) hB3
    clear hB1 hB2 hB3
    by_cases ht : cols < totalL []
    all_goals
      go_wp2_with fail
      go_loop [6] (fun i => i = .int .i64 1) (fun _ => 0)
      case atStart => rfl
      case round =>
        subst hrel
        go_wp2_with (go_at_call 23; refine (awake45_any _).mono ?_; rintro e w4 ⟨rfl, hB4⟩)
        go_ret
        exact ⟨rfl, below_trans' hB hB4⟩
  · go_wp2_with fail
    refine (fit_some _ zs cols _ (ri_of_owns HO.out) hn h0).mono ?_
    rintro e w2 ⟨R, vw, rfl, hB2, hfit, hop⟩
    obtain ⟨pa, pc, rfl⟩ := slice_of_owns hop
    obtain ⟨hR1, hR2, hR3, hR4⟩ := hfit
    have HF := Lib.hid hR3
    have HP := Lib.hid hop
    have hlen := hn.1
    have hnar := planL_narrow hn R (by omega)
    clear hR3 hop
    have hz3 := Lib.hid (owns_stays HO.out hB2)
    have hbig : cols < totalL (planL zs R) → (planL zs R).length = 1 := fun h => by
      have : R = zs.length := by
        rcases Nat.lt_or_ge R zs.length with h1 | h1
        · have := hR4 h1; omega
        · omega
      rw [this]; exact planL_all zs h0
    have HB := Lib.hid hbig
    clear hbig hR4
    go_wp2_with fail
    refine (total_any _ _ (planL zs R) _ (ri_of_owns (HP.out.alloc _)) hnar).mono ?_
    rintro e w3 ⟨rfl, hB3⟩
    have hb23 : Below w2.heap.size w2 w3 := ((Below.refl _ w2).alloc (Nat.le_refl _) _).trans (hB3.mono (by simp))
    have c0 : w3.cell? ⟨w2.heap.size, 0, none⟩ = some (.int .i64 R) := (hB3.cell (p := ⟨w2.heap.size, 0, none⟩) (by show w2.heap.size < _; simp)).trans (by go_simp)
    have c1 : w3.cell? ⟨w2.heap.size, 1, none⟩ = some (.slice pa (planL zs R).length pc) := (hB3.cell (p := ⟨w2.heap.size, 1, none⟩) (by show w2.heap.size < _; simp)).trans (by go_simp)
    have hz4 := Lib.hid (owns_stays hz3.out hb23)
    have hB := below_trans' (below_trans' hB1 hB2) hb23
    clear hB1 hB2 hB3 hb23
    by_cases ht : cols < totalL (planL zs R)
    · have hl2 : ¬ ((1 : Int) < ((planL zs R).length : Int)) := by have := HB.out ht; omega
      have hl3 : decide ((1 : Int) < ((planL zs R).length : Int)) = false := by simpa using hl2
      go_wp2_with fail
      go_loopw [6] (fun i wr => ∃ r : Nat, 1 ≤ r ∧ r ≤ R ∧ i = .int .i64 r ∧ Below w3.heap.size w3 wr) (fun i _ => R - (intOf i).toNat)
      case atStart => exact ⟨1, Nat.le_refl _, hR1, rfl, Below.refl _ _⟩
      case round =>
        obtain ⟨r, hr1, hr2, rfl, hBr⟩ := hrel
        have d0 : wr.cell? ⟨w2.heap.size, 0, none⟩ = some (.int .i64 R) := cell_later hBr c0
        by_cases hlt : r < R
        · have hnar2 := planL_narrow hn r (by omega)
          have hbad := HF.out r hr1 hlt
          have hz5 := Lib.hid (owns_stays hz4.out hBr)
          have hnb : ¬ totalL (planL zs r) ≤ cols := by omega
          go_wp2_with fail
          refine (refPlan_any _ zs r _ (ri_of_owns hz5.out) hlen (by omega) (by omega)).mono ?_
          rintro e w4 ⟨vq, rfl, hB4, hoq⟩
          have HQ := Lib.hid hoq
          clear hoq
          go_wp2_with fail
          refine (refTotal_any _ (planL zs r) _ (ri_of_owns HQ.out) hnar2).mono ?_
          rintro e w5 ⟨rfl, rfl⟩
          go_wp2
          go_roundw
          case rel => exact ⟨r + 1, by omega, by omega, by go_num, below_trans' hBr hB4⟩
          case measure => simp [intOf]; omega
        · have : r = R := by omega
          subst this
          go_wp2_with (go_at_call 23; refine (awake45_any _).mono ?_; rintro e w4 ⟨rfl, hB4⟩)
          go_ret
          exact ⟨rfl, below_trans' (below_trans' hB hBr) hB4⟩
    · skip
      go_wp2_with fail
      go_loopw [6] (fun i wr => ∃ r : Nat, 1 ≤ r ∧ r ≤ R ∧ i = .int .i64 r ∧ Below w3.heap.size w3 wr) (fun i _ => R - (intOf i).toNat)
      case atStart => exact ⟨1, Nat.le_refl _, hR1, rfl, Below.refl _ _⟩
      case round =>
        obtain ⟨r, hr1, hr2, rfl, hBr⟩ := hrel
        have d0 : wr.cell? ⟨w2.heap.size, 0, none⟩ = some (.int .i64 R) := cell_later hBr c0
        by_cases hlt : r < R
        · have hnar2 := planL_narrow hn r (by omega)
          have hbad := HF.out r hr1 hlt
          have hz5 := Lib.hid (owns_stays hz4.out hBr)
          have hnb : ¬ totalL (planL zs r) ≤ cols := by omega
          go_wp2_with fail
          refine (refPlan_any _ zs r _ (ri_of_owns hz5.out) hlen (by omega) (by omega)).mono ?_
          rintro e w4 ⟨vq, rfl, hB4, hoq⟩
          have HQ := Lib.hid hoq
          clear hoq
          go_wp2_with fail
          refine (refTotal_any _ (planL zs r) _ (ri_of_owns HQ.out) hnar2).mono ?_
          rintro e w5 ⟨rfl, rfl⟩
          go_wp2
          go_roundw
          case rel => exact ⟨r + 1, by omega, by omega, by go_num, below_trans' hBr hB4⟩
          case measure => simp [intOf]; omega
        · have : r = R := by omega
          subst this
          go_wp2_with (go_at_call 23; refine (awake45_any _).mono ?_; rintro e w4 ⟨rfl, hB4⟩)
          go_ret
          exact ⟨rfl, below_trans' (below_trans' hB hBr) hB4⟩
end Go.Proofs.Ytokenlecnbploaa
