/- Joined texts: UtbC. -/
import Derived.Test.YthlpelfogplomaaGreatZeaa
import Derived.Test.YthlpelfogplomaaGreatZfac
/- UnitsTabs: its walk. -/
namespace Go.Proofs.YthlpelfogplomaaGreat
open Go.RowKit

theorem fin41t {w w1 : World} (h1 : Below w.heap.size w w1) : Calls Tryz.prog 24 #[] w1 fun e w' => e = .returned (.bool true) ∧ Below w.heap.size w w' := by
  refine (awake41_any w1).mono ?_
  rintro e w' ⟨rfl, hB⟩
  exact ⟨rfl, below_trans' h1 hB⟩
set_option maxRecDepth 100000 in
theorem tabRows_any : ∃ R : List Rw, RFacts R ∧ (tabOf R).b 9 = 3 ∧ ∀ w, Calls Tryz.prog 9 #[] w (LitPost R w) :=
  ⟨((((((((rowsFn Tryz.f31) ++ rowsFn Tryz.f32) ++ rowsFn Tryz.f33) ++ rowsFn Tryz.f34) ++ rowsFn Tryz.f35) ++ rowsFn Tryz.f36) ++ rowsFn Tryz.f37) ++ rowsFn Tryz.f38), rfacts_of (by kernel_rfl) (by kernel_rfl) (by kernel_rfl) (by kernel_rfl) (by kernel_rfl) (by kernel_rfl), of_decide_eq_true (by kernel_rfl), fun w => apiRows_of _ _ _ _ _ _ _ _ (of_decide_eq_true (by kernel_rfl)) (of_decide_eq_true (by kernel_rfl)) (of_decide_eq_true (by kernel_rfl)) (of_decide_eq_true (by kernel_rfl)) (of_decide_eq_true (by kernel_rfl)) (of_decide_eq_true (by kernel_rfl)) (of_decide_eq_true (by kernel_rfl)) (of_decide_eq_true (by kernel_rfl)) classes_any pairs_any outs_any breaks_any picts_any conjs_any wides_any letters_any w⟩
set_option maxRecDepth 100000 in
theorem utabs_err {w : World} {tv : Value} {a : Option Addr} {n c : Nat} (stop : Int) (h : ¬ (1 ≤ stop ∧ stop ≤ 1000)) : Calls Tryz.prog 21 #[tv, .slice a n c, .int .i64 stop] w fun e w' => e = .returned (.tuple #[.slice none 0 0, .int .i64 1]) ∧ Below w.heap.size w w' := by
  by_cases h1 : stop < 1
  · clear h
    go_enter Tryz.func21, Tryz.ntmps21
    go_wp2_with fail
    go_ret2
    exact ⟨rfl, .refl _ _⟩
  · have q1 : decide (stop < 1) = false := decide_eq_false h1
    have q2 : stop > 1000 := by omega
    clear h h1
    go_enter Tryz.func21, Tryz.ntmps21
    go_wp2_with fail
    go_ret2
    exact ⟨rfl, .refl _ _⟩
set_option maxRecDepth 100000 in
theorem rtabs_err {w : World} {tv : Value} {a : Option Addr} {n c : Nat} (stop : Int) (h : ¬ (1 ≤ stop ∧ stop ≤ 1000)) : Calls Tryz.prog 22 #[tv, .slice a n c, .int .i64 stop] w fun e w' => e = .returned (.tuple #[.slice none 0 0, .int .i64 1]) ∧ Below w.heap.size w w' := by
  by_cases h1 : stop < 1
  · clear h
    go_enter Tryz.func22, Tryz.ntmps22
    go_wp2_with fail
    go_ret2
    exact ⟨rfl, .refl _ _⟩
  · have q1 : decide (stop < 1) = false := decide_eq_false h1
    have q2 : stop > 1000 := by omega
    clear h h1
    go_enter Tryz.func22, Tryz.ntmps22
    go_wp2_with fail
    go_ret2
    exact ⟨rfl, .refl _ _⟩
theorem runes_none (w : World) : RunesIn w (.slice none 0 0) [] := Rd.nil _ _ _
set_option maxRecDepth 100000 in
set_option maxHeartbeats 8000000 in
theorem unitsTabs_any (v0 : Value) (l0 : List Int) (stop : Int) (w : World) (hl : RunesIn w v0 l0) (hok : RunesOk l0) :
    Calls Tryz.prog 5 #[v0, .int .i64 stop] w fun e w' => e = .returned (.bool true) ∧ Below w.heap.size w w' := by
  obtain ⟨R, HFc, H9c, hrows⟩ := tabRows_any
  have HF := Lib.hid HFc
  have H9 := Lib.hid H9c
  have HRows := Lib.hid hrows
  have HTk := Lib.hid HFc.seg.tab
  have HFew := Lib.hid (few_any hl 40)
  clear HFc hrows hl H9c
  obtain ⟨l, hll⟩ : ∃ l, l = l0.take 40 := ⟨_, rfl⟩
  rw [← hll] at HFew
  have HOk := Lib.hid (show RunesOk l by rw [hll]; exact hok.take 40)
  have hlen : l.length ≤ 40 := by rw [hll, List.length_take]; omega
  clear hll hok
  go_enter Tryz.func5, Tryz.ntmps5
  go_wp2_with fail
  refine HFew.out.mono ?_
  rintro e w' ⟨⟨sv, rfl, hS⟩, rfl⟩
  have HS := Lib.hid hS
  obtain ⟨sl, cap, rfl, _, _, _⟩ := runes_cells hS
  clear hS HFew
  go_wp2_with fail
  refine (HRows.out w).mono ?_
  rintro e w1 ⟨v, rfl, hB1, hR1⟩
  have HB1 := Lib.hid hB1
  have HR1 := Lib.hid hR1
  have HS1 := Lib.hid (HS.out.below hB1)
  clear hB1 hR1 HS
  go_wp2_with fail
  refine (build_tb v R w1 HR1.out HF.out.ok).mono ?_
  rintro e w2 ⟨tp, rfl, hB2, hT⟩
  have HT2 := Lib.hid hT
  have HR2 := Lib.hid (HR1.out.below hB2)
  have HS2 := Lib.hid (HS1.out.below hB2)
  have HB2 := Lib.hid (below_trans' HB1.out hB2)
  clear hB2 hT HB1 HR1 HS1
  by_cases hst : 1 ≤ stop ∧ stop ≤ 1000
  · have hSz : szL (clus (tabOf R) l) = l.length := by rw [szL_flat, clus_flat (tabOf R) l.length l (Nat.le_refl _)]
    have htl : (tabsL R stop 0 (clus (tabOf R) l)).length ≤ 40000 := by
      have h1 := tabsL_len (R := R) hst.1 (clus (tabOf R) l) 0
      rw [hSz] at h1
      have h2 := Int.mul_le_mul (show (l.length : Int) ≤ 40 by omega) hst.2 (show (0 : Int) ≤ stop by omega) (by omega)
      omega
    have HOkt := Lib.hid (show RunesOk (tabsL R stop 0 (clus (tabOf R) l)) from tabsL_ok _ _ (fun c hc x hx => HOk.out x (clus_mem (tabOf R) l.length l (Nat.le_refl _) c hc x hx)))
    have HAg := Lib.hid (tabs_again (stop := stop) (s := l) HTk.out H9.out)
    have HU := Lib.hid (fun (W : World) (h1 : Tb R W tp) (h2 : RunesIn W (.slice sl l.length cap) l) => utabs_any hst.1 hst.2 h1 h2 HOk.out (by omega) (by omega))
    have HRt := Lib.hid (fun (W : World) (h1 : RowsIn W v R) (h2 : RunesIn W (.slice sl l.length cap) l) => rtabs_any hst.1 hst.2 HTk.out h1 h2 HOk.out (by omega) (by omega))
    generalize tabsL R stop 0 (clus (tabOf R) l) = t at htl HOkt HAg HU HRt
    have HSt := Lib.hid hst
    clear hSz hst
    go_wp2_with fail
    refine (HU.out w2 HT2.out HS2.out).mono ?_
    rintro e w3 ⟨u, rfl, hB3, hA⟩
    have HA3 := Lib.hid hA
    obtain ⟨ua, uc, rfl, _, _, _⟩ := runes_cells hA
    have HT3 := Lib.hid (HT2.out.below hB3)
    have HR3 := Lib.hid (HR2.out.below hB3)
    have HS3 := Lib.hid (HS2.out.below hB3)
    have HB3 := Lib.hid (below_trans' HB2.out hB3)
    clear hB3 hA HT2 HR2 HS2 HB2
    go_wp2_with fail
    refine (HRt.out w3 HR3.out HS3.out).mono ?_
    rintro e w4 ⟨u2, rfl, hB4, hA2⟩
    have HA24 := Lib.hid hA2
    obtain ⟨ub, ud, rfl, _, _, _⟩ := runes_cells hA2
    have HT4 := Lib.hid (HT3.out.below hB4)
    have HA4 := Lib.hid (HA3.out.below hB4)
    have HB4 := Lib.hid (below_trans' HB3.out hB4)
    clear hB4 hA2 HT3 HR3 HS3 HB3 HA3
    go_wp2_with fail
    refine (same_runes HA4.out HA24.out).mono ?_
    rintro e w5 ⟨rfl, hB5⟩
    rw [show decide (t = t) = true by simp]
    have HT5 := Lib.hid (HT4.out.below hB5)
    have HA5 := Lib.hid (HA4.out.below hB5)
    have HB5 := Lib.hid (below_trans' HB4.out hB5)
    clear hB5 HB4 HA4 HT4 HA24
    go_wp2_with fail
    refine (utabs_any HSt.out.1 HSt.out.2 HT5.out HA5.out HOkt.out (by omega) (by rw [HAg.out]; omega)).mono ?_
    rintro e w6 ⟨u3, rfl, hB6, hA3⟩
    rw [HAg.out] at hA3
    have HA36 := Lib.hid hA3
    obtain ⟨uf, ug, rfl, _, _, _⟩ := runes_cells hA3
    have HA6 := Lib.hid (HA5.out.below hB6)
    have HB6 := Lib.hid (below_trans' HB5.out hB6)
    clear hB6 hA3 HB5 HA5 HT5
    go_wp2_with fail
    refine (same_runes HA6.out HA36.out).mono ?_
    rintro e w7 ⟨rfl, hB7⟩
    rw [show decide (t = t) = true by simp]
    have HB7 := Lib.hid (below_trans' HB6.out hB7)
    clear hB7
    go_wp2_with fail
    refine (fin41t HB7.out).mono ?_
    rintro e w8 ⟨rfl, hB8⟩
    go_wp2_with fail
    go_ret
    exact ⟨rfl, hB8⟩
  · have HU := Lib.hid (fun W : World => utabs_err (w := W) (tv := .pointer (some ⟨tp, 0, none⟩)) (a := sl) (n := l.length) (c := cap) stop hst)
    have HRt := Lib.hid (fun W : World => rtabs_err (w := W) (tv := v) (a := sl) (n := l.length) (c := cap) stop hst)
    clear hst HT2 HS2
    go_wp2_with fail
    refine (HU.out w2).mono ?_
    rintro e w3 ⟨rfl, hB3⟩
    have HB3 := Lib.hid (below_trans' HB2.out hB3)
    clear hB3
    go_wp2_with fail
    refine (HRt.out w3).mono ?_
    rintro e w4 ⟨rfl, hB4⟩
    have HB4 := Lib.hid (below_trans' HB3.out hB4)
    clear hB4
    go_wp2_with fail
    refine (same_runes (runes_none w4) (runes_none w4)).mono ?_
    rintro e w5 ⟨rfl, hB5⟩
    have HB5 := Lib.hid (below_trans' HB4.out hB5)
    rw [show decide (([] : List Int) = []) = true by simp]
    clear hB5
    go_wp2_with fail
    refine (fin41t HB5.out).mono ?_
    rintro e w8 ⟨rfl, hB8⟩
    go_wp2_with fail
    go_ret
    exact ⟨rfl, hB8⟩
end Go.Proofs.YthlpelfogplomaaGreat
