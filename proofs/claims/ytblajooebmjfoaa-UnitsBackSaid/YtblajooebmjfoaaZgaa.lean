/- Joined texts: UnitH. -/
import Derived.Test.YtblajooebmjfoaaZfaa
/- UnitsBack: its walk. -/
namespace Go.Proofs.Ytblajooebmjfoaa
open Go.RowKit

theorem atP_next {R : List Rw} {s : List Int} (H : (tabOf R).Ok) {j : Nat} (hj : j ≤ s.length) : ∃ m, j ≤ m ∧ m ≤ s.length ∧ atP (PLs R s) 0 ((j : Int) + 1) = PL R s m := by
  have e : atP (PLs R s) 0 ((j : Int) + 1) = lastLe (PLs R s) 0 ((j : Int) + 1) := rfl
  rw [e]
  rcases Nat.lt_or_ge j s.length with h | h
  · refine ⟨j + 1, by omega, h, ?_⟩
    have := last_at (R := R) (s := s) H (k := 0) (i := j + 1) h (fun j' h1 _ => scalars_up h1)
    exact this
  · have hjn : j = s.length := by omega
    subst hjn
    refine ⟨s.length, Nat.le_refl _, Nat.le_refl _, ?_⟩
    have hc : cntLe (PLs R s) 0 ((s.length : Int) + 1) = s.length + 1 := by
      refine cnt_eq ⟨by rw [PLs_len]; omega, fun q p hq hp => ?_, fun q p hq hp => ?_⟩
      · rw [PLs_get (by omega)] at hp
        cases hp
        show (q : Int) ≤ _
        omega
      · have := (List.getElem?_eq_some_iff.1 hp).1
        rw [PLs_len] at this
        omega
    unfold lastLe
    rw [hc, if_neg (by omega), Nat.add_sub_cancel, PLs_get (Nat.le_refl _)]
    rfl
theorem endP_PLs {R : List Rw} {s : List Int} : endP (PLs R s) = PL R s s.length := by
  unfold endP
  rw [PLs_len, Nat.add_sub_cancel, PLs_get (Nat.le_refl _)]
  rfl
set_option maxRecDepth 100000 in
set_option maxHeartbeats 8000000 in
theorem unitsBack_any (v0 : Value) (l0 : List Int) (i : Int) (w : World) (hl : RunesIn w v0 l0) (hok : RunesOk l0) :
    Calls Try.prog 9 #[v0, .int .i64 i] w fun e w' => e = .returned (.bool true) ∧ Below w.heap.size w w' := by
  obtain ⟨R, HFc, hrows⟩ := apiRows_any
  have HF := Lib.hid HFc
  have HRows := Lib.hid hrows
  have HTk := Lib.hid HFc.seg.tab
  have HFew := Lib.hid (few_any hl 60)
  clear HFc hrows hl
  obtain ⟨l, hll⟩ : ∃ l, l = l0.take 60 := ⟨_, rfl⟩
  rw [← hll] at HFew
  have HOk := Lib.hid (show RunesOk l by rw [hll]; exact hok.take 60)
  have hlen : l.length ≤ 60 := by rw [hll, List.length_take]; omega
  clear hll hok
  go_enter Try.func9, Try.ntmps9
  go_wp2_with fail
  refine HFew.out.mono ?_
  rintro e w' ⟨⟨sv, rfl, hS⟩, rfl⟩
  have HS := Lib.hid hS
  obtain ⟨sl, cap, rfl, _, _, _⟩ := runes_cells hS
  clear hS HFew
  go_wp2_with fail
  refine (HRows.out w).mono ?_
  rintro e w1 ⟨v, rfl, hB1, hR1⟩
  have HB1 := Lib.hid hB1
  have HR1 := Lib.hid hR1
  have HS1 := Lib.hid (HS.out.below hB1)
  clear hB1 hR1 HS
  go_wp2_with fail
  refine (build_tb v R w1 HR1.out HF.out.ok).mono ?_
  rintro e w2 ⟨tp, rfl, hB2, hT⟩
  have HT2 := Lib.hid hT
  have HS2 := Lib.hid (HS1.out.below hB2)
  have HB2 := Lib.hid (below_trans' HB1.out hB2)
  clear hB2 hT HB1 HR1 HS1
  go_wp2_with fail
  refine (uof_any HTk.out HT2.out HS2.out HOk.out (by omega)).mono ?_
  rintro e w3 ⟨u, rfl, hB3, hM⟩
  have HPw := Lib.hid (PLs_mono (s := l) HTk.out)
  have hLl : (PLs R l).length ≤ 1114112 := by rw [PLs_len]; omega
  have HLast := Lib.hid (show ∀ j, j ≤ l.length → ∀ k, k < 3 → lastLe (PLs R l) k (psN (PL R l j) k) = PL R l j by
    intro j hj k hk
    refine last_at HTk.out hj fun j' h1 h2 => ?_
    match k with
    | 0 => exact scalars_up h1
    | 1 => exact bytes_up h1 h2
    | 2 => exact units_up h1 h2)
  have HM3 := Lib.hid hM
  obtain ⟨mv, rfl, hR⟩ := hM
  obtain ⟨sa, sc, he, _, _⟩ := ps_shape hR
  rw [PLs_len] at he
  subst he
  have HB3 := Lib.hid (below_trans' HB2.out hB3)
  have hb4 := below1 w3 (.cells #[.slice sa (l.length + 1) sc] 64)
  have HM4 := Lib.hid (HM3.out.below hb4)
  have HB4 := Lib.hid (below_trans' HB3.out hb4)
  have c0 := row_cells (i := 0) (heap_alloc_new w3 (.cells #[.slice sa (l.length + 1) sc] 64)) rfl
  clear hB3 hR HB2 HB3 HM3 HT2 HS2 hb4
  obtain ⟨x1, hx1⟩ : ∃ x1, x1 = i.tmod ((l.length : Int) + 1) := ⟨_, rfl⟩
  have b1 : x1 < (l.length : Int) + 1 := by rw [hx1]; exact Int.tmod_lt_of_pos i (by omega)
  have b2 : -((l.length : Int) + 1) < x1 := by
    rcases Int.le_total 0 i with h | h
    · have := Int.tmod_nonneg ((l.length : Int) + 1) h; omega
    · have h1 := Int.tmod_lt_of_pos (-i) (b := (l.length : Int) + 1) (by omega)
      rw [Int.neg_tmod] at h1
      omega
  obtain ⟨j, hj⟩ : ∃ j : Nat, (j : Int) = (x1 + (l.length : Int) + 1).tmod ((l.length : Int) + 1) := by
    have := Int.tmod_nonneg ((l.length : Int) + 1) (a := x1 + (l.length : Int) + 1) (by omega)
    exact ⟨((x1 + (l.length : Int) + 1).tmod ((l.length : Int) + 1)).toNat, by omega⟩
  have hjn : j ≤ l.length := by
    have := Int.tmod_lt_of_pos (x1 + (l.length : Int) + 1) (b := (l.length : Int) + 1) (by omega)
    omega
  have e1 := IntWalk.i64_in ((l.length : Int) + 1) (by omega)
  have e2 := IntWalk.i64_in x1 (by omega)
  have e3 := IntWalk.i64_in (x1 + (l.length : Int)) (by omega)
  have e4 := IntWalk.i64_in (x1 + (l.length : Int) + 1) (by omega)
  have e5 := IntWalk.i64_in (j : Int) (by omega)
  have hne : ¬ (l.length : Int) + 1 = 0 := by omega
  have hne1 : ¬ (l.length : Int) + 1 = -1 := by omega
  have q1 := hx1.symm
  have q2 := hj.symm
  have HP0 := Lib.hid (show atP (PLs R l) 0 (j : Int) = PL R l j from HLast.out j hjn 0 (by decide))
  have HT1 := Lib.hid (show turnN (PLs R l) 1 (psN (PL R l j) 1) 0 = (j : Int) by
    have h1 : atP (PLs R l) 1 (psN (PL R l j) 1) = PL R l j := HLast.out j hjn 1 (by decide)
    show psN (atP (PLs R l) 1 (psN (PL R l j) 1)) 0 = (j : Int)
    rw [h1]; rfl)
  have HT2 := Lib.hid (show turnN (PLs R l) 2 (psN (PL R l j) 2) 0 = (j : Int) by
    have h1 : atP (PLs R l) 2 (psN (PL R l j) 2) = PL R l j := HLast.out j hjn 2 (by decide)
    show psN (atP (PLs R l) 2 (psN (PL R l j) 2)) 0 = (j : Int)
    rw [h1]; rfl)
  obtain ⟨m, hjm, hmn, hQ⟩ := atP_next HTk.out hjn
  have HQ := Lib.hid hQ
  have HQge := Lib.hid (show ∀ k, psN (PL R l j) k ≤ psN (PL R l m) k from PL_le HTk.out hjm hmn)
  have HEge := Lib.hid (show ∀ k, psN (PL R l j) k ≤ psN (endP (PLs R l)) k by rw [endP_PLs]; exact PL_le HTk.out hjn (Nat.le_refl _))
  obtain ⟨E, hE⟩ : ∃ E, E = endP (PLs R l) := ⟨_, rfl⟩
  rw [← hE] at HEge
  have HE := Lib.hid hE.symm
  have hPj0 : psN (PL R l j) 0 = (j : Int) := rfl
  generalize PL R l m = Q at HQ HQge
  generalize PL R l j = P at HP0 HT1 HT2 HQge HEge hPj0
  obtain ⟨p0, p1, p2, p3, p4⟩ := P
  have hPj0 : p0 = (j : Int) := hPj0
  subst hPj0
  clear hx1 hj hQ hE
  go_wp2_with fail
  generalize w3.alloc (.cells #[.slice sa (l.length + 1) sc] 64) = w4 at c0 HM4 HB4 ⊢
  generalize w3.heap.size = xb at c0 ⊢
  refine (uat_any 0 (j : Int) HM4.out HPw.out hLl).mono ?_
  rintro e w5 ⟨rfl, hB5⟩
  rw [HP0.out, show kindOk 0 = true from rfl]
  unfold psV
  have hb6 := below1 w5 (.cells #[.int .i64 (j : Int), .int .i64 p1, .int .i64 p2, .int .i64 p3, .int .i64 p4] 67)
  have HRp := Lib.hid (heap_alloc_new w5 (.cells #[.int .i64 (j : Int), .int .i64 p1, .int .i64 p2, .int .i64 p3, .int .i64 p4] 67))
  have c0 := cell_later hb6 (cell_later hB5 c0)
  have HM6 := Lib.hid ((HM4.out.below hB5).below hb6)
  have HB6 := Lib.hid (below_trans' (below_trans' HB4.out hB5) hb6)
  clear hB5 hb6 HM4 HB4 HP0
  have d0 := row_cells (i := 0) HRp.out rfl
  have d1 := row_cells (i := 1) HRp.out rfl
  have d2 := row_cells (i := 2) HRp.out rfl
  go_wp2_with fail
  generalize w5.alloc (.cells #[.int .i64 (j : Int), .int .i64 p1, .int .i64 p2, .int .i64 p3, .int .i64 p4] 67) = w6 at c0 d0 d1 d2 HRp HM6 HB6 ⊢
  generalize w5.heap.size = pb at d0 d1 d2 HRp ⊢
  refine (uturn_any 1 p1 0 HM6.out HPw.out hLl).mono ?_
  rintro e w7 ⟨rfl, hB7⟩
  rw [show turnN (PLs R l) 1 p1 0 = (j : Int) from HT1.out, show (kindOk 1 && kindOk 0) = true from rfl]
  have c0 := cell_later hB7 c0
  have d0 := cell_later hB7 d0
  have d1 := cell_later hB7 d1
  have d2 := cell_later hB7 d2
  have HRp7 := Lib.hid ((hB7.block _ (row_len HRp.out)).trans HRp.out)
  have HM7 := Lib.hid (HM6.out.below hB7)
  have HB7 := Lib.hid (below_trans' HB6.out hB7)
  clear hB7 HM6 HB6 HRp HT1
  go_wp2_with fail
  refine (uturn_any 2 p2 0 HM7.out HPw.out hLl).mono ?_
  rintro e w8 ⟨rfl, hB8⟩
  rw [show turnN (PLs R l) 2 p2 0 = (j : Int) from HT2.out, show (kindOk 2 && kindOk 0) = true from rfl]
  have c0 := cell_later hB8 c0
  have d0 := cell_later hB8 d0
  have d1 := cell_later hB8 d1
  have d2 := cell_later hB8 d2
  have HRp8 := Lib.hid ((hB8.block _ (row_len HRp7.out)).trans HRp7.out)
  have HM8 := Lib.hid (HM7.out.below hB8)
  have HB8 := Lib.hid (below_trans' HB7.out hB8)
  have e6 := IntWalk.i64_in ((j : Int) + 1) (by omega)
  clear hB8 HM7 HB7 HRp7 HT2
  go_wp2_with fail
  refine (uat_any 0 ((j : Int) + 1) HM8.out HPw.out hLl).mono ?_
  rintro e w9 ⟨rfl, hB9⟩
  rw [HQ.out, show kindOk 0 = true from rfl]
  obtain ⟨q0', q1', q2', q3', q4'⟩ := Q
  unfold psV
  have hb10 := below1 w9 (.cells #[.int .i64 q0', .int .i64 q1', .int .i64 q2', .int .i64 q3', .int .i64 q4'] 67)
  have HRq := Lib.hid (heap_alloc_new w9 (.cells #[.int .i64 q0', .int .i64 q1', .int .i64 q2', .int .i64 q3', .int .i64 q4'] 67))
  have C0 := Lib.hid (cell_later hb10 (cell_later hB9 c0))
  have HRp9 := (hB9.block _ (row_len HRp8.out)).trans HRp8.out
  have HRp := Lib.hid ((hb10.block _ (row_len HRp9)).trans HRp9)
  have HM10 := Lib.hid ((HM8.out.below hB9).below hb10)
  have HB10 := Lib.hid (below_trans' (below_trans' HB8.out hB9) hb10)
  clear hB9 hb10 HM8 HB8 HRp8 HRp9 c0 d0 d1 d2
  go_wp2_with fail
  generalize w9.alloc (.cells #[.int .i64 q0', .int .i64 q1', .int .i64 q2', .int .i64 q3', .int .i64 q4'] 67) = w10 at C0 HRp HRq HM10 HB10 ⊢
  generalize w9.heap.size = qb at HRq ⊢
  go_loopw [14] (fun kv wr => ∃ k : Nat, k ≤ 5 ∧ kv = .int .i64 ((k : Nat) : Int) ∧ Below w10.heap.size w10 wr) (fun kv _ => 5 - (intOf kv).toNat)
  case atStart => exact ⟨0, by decide, rfl, .refl _ _⟩
  case round =>
    obtain ⟨k, hk, rfl, hB⟩ := hrel
    have HBr := Lib.hid hB
    by_cases hlt : k < 5
    · have c0 := cell_later hB C0.out
      have HMr := Lib.hid (HM10.out.below hB)
      have dp := row_cells ((hB.block _ (row_len HRp.out)).trans HRp.out) (psV_at ((j : Int), p1, p2, p3, p4) hlt)
      have dq := row_cells ((hB.block _ (row_len HRq.out)).trans HRq.out) (psV_at (q0', q1', q2', q3', q4') hlt)
      have hge := HQge.out k
      have hle := HEge.out k
      have hE5 := psV_at E hlt
      have HLen := Lib.hid (fun (W : World) (h : MapIn W (.agg #[.slice sa (l.length + 1) sc]) (PLs R l)) => ulen_any h)
      rw [HE.out] at HLen
      generalize psN ((j : Int), p1, p2, p3, p4) k = x at dp hge hle
      generalize psN (q0', q1', q2', q3', q4') k = y at dq hge
      generalize psN E k = z at hle hE5
      have hE5' := fun W => run_index1 (P := Try.prog) W (t := 67) (e := 3) (n := 5) (by kernel_rfl) hlt Try.sizeOf3 Try.isAgg3 hE5
      have s0 : (k : Int) < 5 := by omega
      have s1 : (0 : Int) ≤ (k : Int) := by omega
      have s2 : decide (y < x) = false := decide_eq_false (by omega)
      have s3 : decide (x > z) = false := decide_eq_false (by omega)
      clear hB hge hle hlt hE5
      go_upto_region 13 with fail
      go_region_held3 (fun w' => w'.cell? ⟨qb, k, none⟩ = some (.int .i64 y) ∧ w'.cell? ⟨pb, k, none⟩ = some (.int .i64 x) ∧ w'.cell? ⟨xb, 0, none⟩ = some (.slice sa (l.length + 1) sc)) (first | exact ⟨f0, f1, f2⟩ | exact ⟨dq, dp, c0⟩ | go_keep)
        (first
          | (go_at_call 37; refine (HLen.out _ (show MapIn (wr.drewN 1) _ _ from HMr.out)).mono ?_; rintro e w11 ⟨rfl, hB11⟩; unfold psV; have f0 := cell_later hB11 (show (wr.drewN 1).cell? _ = _ from dq); have f1 := cell_later hB11 (show (wr.drewN 1).cell? _ = _ from dp); have f2 := cell_later hB11 (show (wr.drewN 1).cell? _ = _ from c0); have HB11 := Lib.hid ((below_dN HBr.out 1).trans (hB11.mono (below_dN HBr.out 1).size)); clear hB11)
          | fail)
      all_goals
        go_wp2_with fail
        go_roundw
        case rel => exact ⟨k + 1, by omega, by go_num, HB11.out⟩
        case measure => simp [intOf] <;> omega
    · have hke : k = 5 := by omega
      subst hke
      clear hB hlt hk
      go_wp2_with fail
      refine (fin41 (below_trans' HB10.out HBr.out)).mono ?_
      rintro e w9 ⟨rfl, hB9⟩
      go_wp2_with fail
      go_ret
      exact ⟨rfl, hB9⟩
end Go.Proofs.Ytblajooebmjfoaa
