/- Joined texts: TabD RefU Awake TabE RefV UcdT UcdC UcdD UcdE UcdF OpenB OpenR. -/
import Derived.Deep.RegionHeld3
import Derived.Test.YtamgngkiegbglaaChecked
import Derived.Test.YtamgngkiegbglaaRows
import Derived.Test.YtamgngkiegbglaaZaay
import Derived.Test.YtamgngkiegbglaaZaaa
import Derived.Test.YtamgngkiegbglaaZaau
/- Tables: what they tell of a scalar. -/
namespace Go.Proofs.Ytamgngkiegbglaa
open Go.RowKit

section
variable {R : List Rw} {B : Nat} {w : World} {tp cb gb jb fb pb : Nat}
set_option maxRecDepth 100000 in
theorem pict_any (h : TabT R B w tp cb gb jb fb pb) (hB : B ≤ w.heap.size) (r : Int) (b1 : -2147483648 ≤ r) (b2 : r ≤ 2147483647) :
    Calls Try.prog 32 #[.pointer (some ⟨tp, 0, none⟩), .int .i32 r] w fun e w' => e = .returned (.bool (decide (ofA R 5 r = 1))) ∧ Below w.heap.size w w' := by
  have hc := h.c3
  have HT := Lib.hid h.t3
  have e1 := IntWalk.i64_in r (by omega)
  have HF := Lib.hid (show (flgR R r).pict = decide (ofA R 5 r = 1) from rfl)
  go_enter Try.func32, Try.ntmps32
  go_wp2_with fail
  refine (get_flags (flgR R) B fb r w HT.out hB).mono ?_
  rintro e w' ⟨rfl, hB1⟩
  rw [flgR_get]
  have HB1 := Lib.hid hB1
  clear hB1
  generalize flgR R r = fl at HF ⊢
  unfold aggF
  go_wp2_with fail
  refine upon_run (run_field1 w' Try.underlying88 rfl Try.isAgg4 rfl) ?_
  go_wp2_with fail
  go_ret
  exact ⟨ret_b (by rw [← HF.out]), HB1.out⟩
set_option maxRecDepth 100000 in
theorem wide_any (h : TabT R B w tp cb gb jb fb pb) (hB : B ≤ w.heap.size) (r : Int) (b1 : -2147483648 ≤ r) (b2 : r ≤ 2147483647) :
    Calls Try.prog 33 #[.pointer (some ⟨tp, 0, none⟩), .int .i32 r] w fun e w' => e = .returned (.bool (decide (ofA R 7 r = 1))) ∧ Below w.heap.size w w' := by
  have hc := h.c3
  have HT := Lib.hid h.t3
  have e1 := IntWalk.i64_in r (by omega)
  have HF := Lib.hid (show (flgR R r).wide = decide (ofA R 7 r = 1) from rfl)
  go_enter Try.func33, Try.ntmps33
  go_wp2_with fail
  refine (get_flags (flgR R) B fb r w HT.out hB).mono ?_
  rintro e w' ⟨rfl, hB1⟩
  rw [flgR_get]
  have HB1 := Lib.hid hB1
  clear hB1
  generalize flgR R r = fl at HF ⊢
  unfold aggF
  go_wp2_with fail
  refine upon_run (run_field1 w' Try.underlying88 rfl Try.isAgg4 rfl) ?_
  go_wp2_with fail
  go_ret
  exact ⟨ret_b (by rw [← HF.out]), HB1.out⟩
set_option maxRecDepth 100000 in
theorem letter_any (h : TabT R B w tp cb gb jb fb pb) (hB : B ≤ w.heap.size) (r : Int) (b1 : -2147483648 ≤ r) (b2 : r ≤ 2147483647) :
    Calls Try.prog 34 #[.pointer (some ⟨tp, 0, none⟩), .int .i32 r] w fun e w' => e = .returned (.bool (decide (ofA R 8 r = 1))) ∧ Below w.heap.size w w' := by
  have hc := h.c3
  have HT := Lib.hid h.t3
  have e1 := IntWalk.i64_in r (by omega)
  have HF := Lib.hid (show (flgR R r).letter = decide (ofA R 8 r = 1) from rfl)
  go_enter Try.func34, Try.ntmps34
  go_wp2_with fail
  refine (get_flags (flgR R) B fb r w HT.out hB).mono ?_
  rintro e w' ⟨rfl, hB1⟩
  rw [flgR_get]
  have HB1 := Lib.hid hB1
  clear hB1
  generalize flgR R r = fl at HF ⊢
  unfold aggF
  go_wp2_with fail
  refine upon_run (run_field1 w' Try.underlying88 rfl Try.isAgg4 rfl) ?_
  go_wp2_with fail
  go_ret
  exact ⟨ret_b (by rw [← HF.out]), HB1.out⟩
set_option maxRecDepth 100000 in
theorem break_any (h : TabT R B w tp cb gb jb fb pb) (r : Int) (b1 : -2147483648 ≤ r) (b2 : r ≤ 2147483647) :
    Calls Try.prog 28 #[.pointer (some ⟨tp, 0, none⟩), .int .i32 r] w fun e w' => e = .returned (.int .i64 (brkR R r)) ∧ Below w.heap.size w w' := by
  have hc := h.c1
  have HT := Lib.hid h.t1
  have e1 := IntWalk.i64_in r (by omega)
  by_cases hr : 44032 ≤ r ∧ r ≤ 55203
  · have q1 : r ≥ 44032 := hr.1
    have q2 : r ≤ 55203 := hr.2
    have e3 := IntWalk.i32_in (r - 44032) (by omega)
    have e4 : (r - 44032).tmod 28 = (r - 44032) % 28 := Int.tmod_eq_emod_of_nonneg (by omega)
    by_cases hm : (r - 44032) % 28 = 0
    · have HV := Lib.hid (show brkR R r = 12 by unfold brkR; rw [if_pos hr, if_pos hm])
      clear hr
      go_enter Try.func28, Try.ntmps28
      go_wp2_with fail
      go_ret
      exact ⟨by rw [HV.out]; rfl, .refl _ _⟩
    · have HV := Lib.hid (show brkR R r = 13 by unfold brkR; rw [if_pos hr, if_neg hm])
      clear hr
      go_enter Try.func28, Try.ntmps28
      go_wp2_with fail
      go_ret
      exact ⟨by rw [HV.out]; rfl, .refl _ _⟩
  · have HV := Lib.hid (show brkR R r = ofA R 4 r by unfold brkR; rw [if_neg hr])
    by_cases hlo : r < 44032
    · have q1 : decide (r ≥ 44032) = false := by rw [decide_eq_false_iff_not]; omega
      clear hr hlo
      go_enter Try.func28, Try.ntmps28
      go_wp2_with fail
      refine (get_int (ofA R 4) B gb r w HT.out).mono ?_
      rintro e w' ⟨rfl, n, rfl⟩
      rw [ofA_get]
      go_wp2_with fail
      go_ret
      exact ⟨by rw [HV.out]; rfl, below_dN (.refl _ _) n⟩
    · have q1 : r ≥ 44032 := by omega
      have q2 : decide (r ≤ 55203) = false := by rw [decide_eq_false_iff_not]; omega
      clear hr hlo
      go_enter Try.func28, Try.ntmps28
      go_wp2_with fail
      refine (get_int (ofA R 4) B gb r w HT.out).mono ?_
      rintro e w' ⟨rfl, n, rfl⟩
      rw [ofA_get]
      go_wp2_with fail
      go_ret
      exact ⟨by rw [HV.out]; rfl, below_dN (.refl _ _) n⟩
set_option maxRecDepth 100000 in
theorem conj_any (h : TabT R B w tp cb gb jb fb pb) (hB : B ≤ w.heap.size) (r : Int) (b1 : -2147483648 ≤ r) (b2 : r ≤ 2147483647) :
    Calls Try.prog 30 #[.pointer (some ⟨tp, 0, none⟩), .int .i32 r] w fun e w' => e = .returned (.int .i64 (conjR R r)) ∧ Below w.heap.size w w' := by
  have hc := h.c2
  have HT := Lib.hid h
  have e1 := IntWalk.i64_in r (by omega)
  go_enter Try.func30, Try.ntmps30
  go_wp2_with fail
  refine (get_int (ofA R 6) B jb r w HT.out.t2).mono ?_
  rintro e w1 ⟨rfl, n, rfl⟩
  rw [ofA_get]
  have hB1 : Below w.heap.size w (w.drewN n) := below_dN (.refl _ _) n
  have HB1 := Lib.hid hB1
  have HT1 := Lib.hid (HT.out.below hB1 hB)
  clear hB1
  generalize w.drewN n = w1 at HB1 HT1 ⊢
  by_cases hk : ofA R 6 r = 0
  · have HV := Lib.hid (show conjR R r = if (brkR R r = 4 ∨ brkR R r = 5) ∧ r ≠ 8204 then 3 else 0 by unfold conjR; rw [if_neg (by simp [hk])])
    go_wp2_with fail
    refine (break_any HT1.out r b1 b2).mono ?_
    rintro e w2 ⟨rfl, hB2⟩
    have HB2 := Lib.hid (below_trans' HB1.out hB2)
    clear hB2
    obtain ⟨x, hx⟩ : ∃ x, x = brkR R r := ⟨_, rfl⟩
    rw [← hx] at HV ⊢
    clear hx
    by_cases h4 : x = 4
    · by_cases hz : r = 8204
      · have e5 : (r == 8204) = true := by simpa using hz
        have HV2 := Lib.hid (show conjR R r = 0 by rw [HV.out, if_neg (by simp [hz])])
        clear hk
        go_wp2_with fail
        go_ret
        exact ⟨by rw [HV2.out]; rfl, HB2.out⟩
      · have e5 : (r == 8204) = false := by simpa using hz
        have HV2 := Lib.hid (show conjR R r = 3 by rw [HV.out, if_pos ⟨.inl h4, hz⟩])
        clear hk
        go_wp2_with fail
        go_ret
        exact ⟨by rw [HV2.out]; rfl, HB2.out⟩
    · have e4 : (x == 4) = false := by simpa using h4
      by_cases h5 : x = 5
      · by_cases hz : r = 8204
        · have e5 : (r == 8204) = true := by simpa using hz
          have HV2 := Lib.hid (show conjR R r = 0 by rw [HV.out, if_neg (by simp [hz])])
          clear hk
          go_wp2_with fail
          go_ret
          exact ⟨by rw [HV2.out]; rfl, HB2.out⟩
        · have e5 : (r == 8204) = false := by simpa using hz
          have HV2 := Lib.hid (show conjR R r = 3 by rw [HV.out, if_pos ⟨.inr h5, hz⟩])
          clear hk
          go_wp2_with fail
          go_ret
          exact ⟨by rw [HV2.out]; rfl, HB2.out⟩
      · have e5 : (x == 5) = false := by simpa using h5
        have HV2 := Lib.hid (show conjR R r = 0 by rw [HV.out, if_neg (by rintro ⟨h | h, _⟩; exact h4 h; exact h5 h)])
        clear hk
        go_wp2_with fail
        go_ret
        exact ⟨by rw [HV2.out]; rfl, HB2.out⟩
  · have HV := Lib.hid (show conjR R r = ofA R 6 r by unfold conjR; rw [if_pos hk])
    have e5 : (ofA R 6 r == 0) = false := by simpa using hk
    go_wp2_with fail
    go_ret
    exact ⟨by rw [HV.out]; rfl, HB1.out⟩
end
section
variable {R : List Rw} {cur : Int} {B : Nat} {w : World} {tp cb gb jb fb pb mb sb : Nat} {f : Pr → Option Int} {g : Int → Option Bool}
set_option maxRecDepth 100000 in
theorem second_any (h : TabW R cur B w tp cb gb jb fb pb mb sb f g) (r : Int) (b1 : -2147483648 ≤ r) (b2 : r ≤ 2147483647) :
    Calls Try.prog 24 #[.pointer (some ⟨tp, 0, none⟩), .int .i32 r] w fun e w' => e = .returned (.bool ((g r).getD false)) ∧ Below w.heap.size w w' := by
  have hc := h.c6
  have hl := run_look key32 h.s.fn Try.underlying72 (Try.zeroValue4 w) false r (wf32_of ⟨b1, b2⟩)
  unfold i32V at hl
  cases hg : g r with
  | none =>
    rw [hg] at hl
    dsimp only at hl
    rw [if_neg (by decide)] at hl
    go_enter Try.func24, Try.ntmps24
    go_wp2_with fail
    go_ret
    exact ⟨rfl, .refl _ _⟩
  | some b =>
    rw [hg] at hl
    dsimp only at hl
    rw [if_neg (by decide)] at hl
    unfold boolV at hl
    go_enter Try.func24, Try.ntmps24
    go_wp2_with fail
    go_ret
    exact ⟨rfl, .refl _ _⟩
set_option maxRecDepth 100000 in
theorem compose_any (h : TabW R cur B w tp cb gb jb fb pb mb sb f g) (a b : Int) (b1 : -2147483648 ≤ a ∧ a ≤ 2147483647) (b2 : -2147483648 ≤ b ∧ b ≤ 2147483647) :
    Calls Try.prog 17 #[.pointer (some ⟨tp, 0, none⟩), .int .i32 a, .int .i32 b] w fun e w' => e = .returned (.tuple #[.int .i32 (if b = 0 then 0 else (f (a, b)).getD 0), .bool (if b = 0 then false else (f (a, b)).isSome)]) ∧ Below w.heap.size w w' := by
  have hc := h.c5
  have hl := run_look keyV_pair h.m.fn Try.underlying71 (Try.zeroValue21 w) true (a, b) ⟨wf32_of b1, wf32_of b2⟩
  unfold aggP at hl
  by_cases hb : b = 0
  · subst hb
    go_enter Try.func17, Try.ntmps17
    go_wp2_with fail
    go_ret2
    exact ⟨rfl, .refl _ _⟩
  · have e1 : (b == 0) = false := by simpa using hb
    rw [if_neg hb, if_neg hb]
    cases hf : f (a, b) with
    | none =>
      rw [hf] at hl
      dsimp only at hl
      rw [if_pos rfl] at hl
      go_enter Try.func17, Try.ntmps17
      go_wp2_with fail
      go_ret2
      exact ⟨rfl, .refl _ _⟩
    | some r =>
      rw [hf] at hl
      dsimp only at hl
      rw [if_pos rfl] at hl
      unfold i32V at hl
      go_enter Try.func17, Try.ntmps17
      go_wp2_with fail
      go_ret2
      exact ⟨rfl, .refl _ _⟩
end
end Go.Proofs.Ytamgngkiegbglaa

/- The document's answers: Break, Conj, Out. -/
namespace Go.Proofs.Ytamgngkiegbglaa
open Go.RowKit

set_option maxRecDepth 100000 in
theorem rbreak_any (v : Value) (R : List Rw) (r : Int) (w : World) (hR : RowsIn w v R) (b1 : -2147483648 ≤ r) (b2 : r ≤ 2147483647) :
    Calls Try.prog 29 #[v, .int .i32 r] w fun e w' => e = .returned (.int .i64 (brkR R r)) ∧ w = w' := by
  by_cases hr : 44032 ≤ r ∧ r ≤ 55203
  · have q1 : r ≥ 44032 := hr.1
    have q2 : r ≤ 55203 := hr.2
    have e3 := IntWalk.i32_in (r - 44032) (by omega)
    have e4 : (r - 44032).tmod 28 = (r - 44032) % 28 := Int.tmod_eq_emod_of_nonneg (by omega)
    by_cases hm : (r - 44032) % 28 = 0
    · have HV := Lib.hid (show brkR R r = 12 by unfold brkR; rw [if_pos hr, if_pos hm])
      clear hr
      go_enter Try.func29, Try.ntmps29
      go_wp2_with fail
      go_ret
      exact ⟨by rw [HV.out]; rfl, rfl⟩
    · have HV := Lib.hid (show brkR R r = 13 by unfold brkR; rw [if_pos hr, if_neg hm])
      clear hr
      go_enter Try.func29, Try.ntmps29
      go_wp2_with fail
      go_ret
      exact ⟨by rw [HV.out]; rfl, rfl⟩
  · have HV := Lib.hid (show brkR R r = ofA R 4 r by unfold brkR; rw [if_neg hr])
    by_cases hlo : r < 44032
    · have q1 : decide (r ≥ 44032) = false := by rw [decide_eq_false_iff_not]; omega
      clear hr hlo
      go_enter Try.func29, Try.ntmps29
      go_wp2_with fail
      refine (of_any v R 4 r w hR b1 b2).mono ?_
      rintro e w' ⟨rfl, rfl⟩
      go_wp2_with fail
      go_ret
      exact ⟨by rw [HV.out]; rfl, rfl⟩
    · have q1 : r ≥ 44032 := by omega
      have q2 : decide (r ≤ 55203) = false := by rw [decide_eq_false_iff_not]; omega
      clear hr hlo
      go_enter Try.func29, Try.ntmps29
      go_wp2_with fail
      refine (of_any v R 4 r w hR b1 b2).mono ?_
      rintro e w' ⟨rfl, rfl⟩
      go_wp2_with fail
      go_ret
      exact ⟨by rw [HV.out]; rfl, rfl⟩
set_option maxRecDepth 100000 in
theorem rconj_any (v : Value) (R : List Rw) (r : Int) (w : World) (hR : RowsIn w v R) (b1 : -2147483648 ≤ r) (b2 : r ≤ 2147483647) :
    Calls Try.prog 31 #[v, .int .i32 r] w fun e w' => e = .returned (.int .i64 (conjR R r)) ∧ w = w' := by
  go_enter Try.func31, Try.ntmps31
  go_wp2_with fail
  refine (of_any v R 6 r w hR b1 b2).mono ?_
  rintro e w' ⟨rfl, rfl⟩
  by_cases hk : ofA R 6 r = 0
  · have HV := Lib.hid (show conjR R r = if (brkR R r = 4 ∨ brkR R r = 5) ∧ r ≠ 8204 then 3 else 0 by unfold conjR; rw [if_neg (by simp [hk])])
    go_wp2_with fail
    refine (rbreak_any v R r w hR b1 b2).mono ?_
    rintro e w' ⟨rfl, rfl⟩
    obtain ⟨x, hx⟩ : ∃ x, x = brkR R r := ⟨_, rfl⟩
    rw [← hx] at HV ⊢
    clear hx
    by_cases h4 : x = 4
    · by_cases hz : r = 8204
      · have e5 : (r == 8204) = true := by simpa using hz
        have HV2 := Lib.hid (show conjR R r = 0 by rw [HV.out, if_neg (by simp [hz])])
        clear hk
        go_wp2_with fail
        go_ret
        exact ⟨by rw [HV2.out]; rfl, rfl⟩
      · have e5 : (r == 8204) = false := by simpa using hz
        have HV2 := Lib.hid (show conjR R r = 3 by rw [HV.out, if_pos ⟨.inl h4, hz⟩])
        clear hk
        go_wp2_with fail
        go_ret
        exact ⟨by rw [HV2.out]; rfl, rfl⟩
    · have e4 : (x == 4) = false := by simpa using h4
      by_cases h5 : x = 5
      · by_cases hz : r = 8204
        · have e5 : (r == 8204) = true := by simpa using hz
          have HV2 := Lib.hid (show conjR R r = 0 by rw [HV.out, if_neg (by simp [hz])])
          clear hk
          go_wp2_with fail
          go_ret
          exact ⟨by rw [HV2.out]; rfl, rfl⟩
        · have e5 : (r == 8204) = false := by simpa using hz
          have HV2 := Lib.hid (show conjR R r = 3 by rw [HV.out, if_pos ⟨.inr h5, hz⟩])
          clear hk
          go_wp2_with fail
          go_ret
          exact ⟨by rw [HV2.out]; rfl, rfl⟩
      · have e5 : (x == 5) = false := by simpa using h5
        have HV2 := Lib.hid (show conjR R r = 0 by rw [HV.out, if_neg (by rintro ⟨h | h, _⟩; exact h4 h; exact h5 h)])
        clear hk
        go_wp2_with fail
        go_ret
        exact ⟨by rw [HV2.out]; rfl, rfl⟩
  · have HV := Lib.hid (show conjR R r = ofA R 6 r by unfold conjR; rw [if_pos hk])
    have e5 : (ofA R 6 r == 0) = false := by simpa using hk
    go_wp2_with fail
    go_ret
    exact ⟨by rw [HV.out]; rfl, rfl⟩
/-- below a pair's own numbers -/
theorem pairA_rng (R : List Rw) (r : Int) : (-2147483648 ≤ (pairA R r).1 ∧ (pairA R r).1 ≤ 2147483647) ∧ (-2147483648 ≤ (pairA R r).2.1 ∧ (pairA R r).2.1 ≤ 2147483647) := by
  unfold pairA
  cases fnd R 2 r with
  | none => exact ⟨⟨by decide, by decide⟩, ⟨by decide, by decide⟩⟩
  | some x =>
    dsimp only
    split
    · exact ⟨⟨by decide, by decide⟩, ⟨by decide, by decide⟩⟩
    · exact ⟨wrap32_rng _, wrap32_rng _⟩
set_option maxRecDepth 100000 in
set_option maxHeartbeats 1000000 in
theorem rout_any (v : Value) (R : List Rw) (r : Int) (w : World) (hR : RowsIn w v R) (b1 : -2147483648 ≤ r) (b2 : r ≤ 2147483647) :
    Calls Try.prog 23 #[v, .int .i32 r] w fun e w' => e = .returned (.bool (outA R r)) ∧ ∃ q, w' = w.drewN q := by
  have HO := Lib.hid (show outA R r = ((pairA R r).2.2 && (decide ((pairA R r).2.1 = 0) || (decide (ofA R 3 r = 1) || (decide (ofA R 1 r ≠ 0) || decide (ofA R 1 (pairA R r).1 ≠ 0))))) by unfold outA; simp only [Bool.or_assoc])
  have hrng := pairA_rng R r
  go_enter Try.func23, Try.ntmps23
  go_wp2_with fail
  refine (rpair_any v R r w hR b1 b2).mono ?_
  rintro e w' ⟨rfl, q, rfl⟩
  obtain ⟨hr1, hr2⟩ := hrng
  generalize pairA R r = p at HO hr1 hr2 ⊢
  obtain ⟨p1, p2, p3⟩ := p
  dsimp only at HO hr1 hr2 ⊢
  have HR2 := Lib.hid (hR.drewN q)
  clear hR
  cases p3 with
  | false =>
    go_wp2_with fail
    go_ret
    exact ⟨ret_b (by rw [HO.out]; rfl), q, rfl⟩
  | true =>
    by_cases hb0 : p2 = 0
    · rw [decide_eq_true hb0] at HO
      have q0 : (p2 == 0) = true := by simpa using hb0
      go_wp2_with fail
      go_ret
      exact ⟨ret_b (by rw [HO.out]; rfl), q, rfl⟩
    · rw [decide_eq_false hb0] at HO
      have q0 : (p2 == 0) = false := by simpa using hb0
      go_wp2_with fail
      refine (of_any v R 3 r _ HR2.out b1 b2).mono ?_
      rintro e w' ⟨rfl, rfl⟩
      by_cases h3 : ofA R 3 r = 1
      · rw [decide_eq_true h3] at HO
        have q3 : (ofA R 3 r == 1) = true := by simpa using h3
        go_wp2_with fail
        go_ret
        exact ⟨ret_b (by rw [HO.out]; rfl), q, rfl⟩
      · rw [decide_eq_false h3] at HO
        have q3 : (ofA R 3 r == 1) = false := by simpa using h3
        go_wp2_with fail
        refine (of_any v R 1 r _ HR2.out b1 b2).mono ?_
        rintro e w' ⟨rfl, rfl⟩
        by_cases hc : ofA R 1 r = 0
        · rw [show decide (ofA R 1 r ≠ 0) = false by simp [hc]] at HO
          have q4 : (ofA R 1 r == 0) = true := by simpa using hc
          go_wp2_with fail
          refine (of_any v R 1 p1 _ HR2.out hr1.1 hr1.2).mono ?_
          rintro e w' ⟨rfl, rfl⟩
          by_cases hd : ofA R 1 p1 = 0
          · rw [show decide (ofA R 1 p1 ≠ 0) = false by simp [hd]] at HO
            have q5 : (ofA R 1 p1 == 0) = true := by simpa using hd
            go_wp2_with fail
            go_ret
            exact ⟨ret_b (by rw [HO.out]; first | rfl | simp [bne, hd, q5]), q, rfl⟩
          · rw [show decide (ofA R 1 p1 ≠ 0) = true by simp [hd]] at HO
            have q5 : (ofA R 1 p1 == 0) = false := by simpa using hd
            go_wp2_with fail
            go_ret
            exact ⟨ret_b (by rw [HO.out]; first | rfl | simp [bne, q5]), q, rfl⟩
        · rw [show decide (ofA R 1 r ≠ 0) = true by simp [hc]] at HO
          have q4 : (ofA R 1 r == 0) = false := by simpa using hc
          go_wp2_with fail
          go_ret
          exact ⟨ret_b (by rw [HO.out]; first | rfl | simp [bne, hc, q4]), q, rfl⟩
end Go.Proofs.Ytamgngkiegbglaa

/- Chapter 4's examples. -/
namespace Go.Proofs.Ytamgngkiegbglaa
open Go.RowKit

theorem wrap32_id {n : Int} (h0 : 0 ≤ n) (h1 : n ≤ 1114111) : wrap32 n = n := by unfold wrap32; omega
/-- what a row of pairs says -/
theorem RFacts.pair {R : List Rw} (h : RFacts R) {r : Int} {x : Rw} (hx : fnd R 2 r = some x) : x ∈ R ∧ x.k = 2 ∧ x.f = r ∧ pairR R r = (x.a, x.b) ∧ 1 ≤ x.a ∧ x.a ≤ 1114111 ∧ 0 ≤ x.b ∧ x.b ≤ 1114111 ∧ 0 ≤ r ∧ r ≤ 1114111 := by
  obtain ⟨h1, h2, h3, h4, h5, h6⟩ := fnd_mem hx
  obtain ⟨p1, p2, p3, p4, p5, p6, p7, p8⟩ := h.prs x h1 h2
  refine ⟨h1, h2, by omega, ?_, p4, p5, p6, p7, h5, h6⟩
  unfold pairR
  rw [hx]
  dsimp only
  rw [wrap32_id (by omega) p5, wrap32_id p6 p7]
theorem RFacts.made {R : List Rw} (h : RFacts R) {f : Pr → Option Int} {g : Int → Option Bool} (hm : MadeOn R 1114112 f g) : f (101, 769) = some 233 := by
  refine (hm.f _ _).2 ⟨?_, by decide, h.p233, h.o233, fun r' hd hl hp => ?_⟩
  · cases hx : fnd R 2 233 with
    | some x => exact ⟨x, hx⟩
    | none =>
      have := h.p233
      unfold pairR at this
      rw [hx] at this
      cases this
  · obtain ⟨x, hx⟩ := hd
    obtain ⟨h1, h2, h3, h4, _⟩ := h.pair hx
    rw [h4] at hp
    have e1 : x.a = 101 := congrArg Prod.fst hp
    have e2 : x.b = 769 := congrArg Prod.snd hp
    have := h.one x h1 h2 e1 e2
    omega
set_option maxRecDepth 100000 in
set_option maxHeartbeats 1000000 in
theorem awake_any (w : World) : Calls Try.prog 19 #[] w fun e w' => e = .returned (.bool true) ∧ Below w.heap.size w w' := by
  obtain ⟨R, HFc, hrows⟩ := apiRows_any
  have HF := Lib.hid HFc
  have HRows := Lib.hid hrows
  clear HFc hrows
  go_enter Try.func19, Try.ntmps19
  go_wp2_with fail
  refine (HRows.out w).mono ?_
  rintro e w1 ⟨v, rfl, hB1, hR1⟩
  have HB1 := Lib.hid hB1
  go_wp2_with fail
  refine (build_any v R w1 hR1 HF.out.ok).mono ?_
  rintro e w2 ⟨tp, cb, gb, jb, fb, pb, mb, sb, f, g, rfl, hB2, htp, hT⟩
  have HT := Lib.hid hT
  have HB2 := Lib.hid (below_trans' HB1.out hB2)
  clear hB1 hR1 hB2 hT htp
  go_wp2_with fail
  refine (pair_any HT.out.t HT.out.big 233 (by decide) (by decide)).mono ?_
  rintro e w3 ⟨rfl, hB3⟩
  rw [show pairOk R 233 = true by unfold pairOk; rw [HF.out.p233]; decide, HF.out.p233]
  have HT3 := Lib.hid (HT.out.below hB3)
  have HB3 := Lib.hid (below_trans' HB2.out hB3)
  clear hB3
  dsimp only
  go_wp2_with fail
  refine (compose_any HT3.out 101 769 (by decide) (by decide)).mono ?_
  rintro e w4 ⟨rfl, hB4⟩
  rw [HF.out.made HT3.out.on]
  have HT4 := Lib.hid (HT3.out.below hB4)
  have HB4 := Lib.hid (below_trans' HB3.out hB4)
  clear hB4
  rw [if_neg (by decide), if_neg (by decide)]
  dsimp only [Option.getD, Option.isSome]
  go_wp2_with fail
  refine (class_any HT4.out.t 769 (by decide) (by decide)).mono ?_
  rintro e w5 ⟨rfl, hB5⟩
  rw [HF.out.c769]
  have HT5 := Lib.hid (HT4.out.below hB5)
  have HB5 := Lib.hid (below_trans' HB4.out hB5)
  clear hB5
  go_wp2_with fail
  refine (out_any HT5.out.t HT5.out.big 8491 (by decide) (by decide)).mono ?_
  rintro e w6 ⟨rfl, hB6⟩
  rw [HF.out.o8491]
  have HT6 := Lib.hid (HT5.out.below hB6)
  have HB6 := Lib.hid (below_trans' HB5.out hB6)
  clear hB6
  go_wp2_with fail
  refine (break_any HT6.out.t 44032 (by decide) (by decide)).mono ?_
  rintro e w7 ⟨rfl, hB7⟩
  have HB7 := Lib.hid (below_trans' HB6.out hB7)
  clear hB7
  rw [show brkR R 44032 = 12 by unfold brkR; rw [if_pos (by decide), if_pos (by decide)]]
  go_wp2_with fail
  go_ret
  exact ⟨rfl, HB7.out⟩
end Go.Proofs.Ytamgngkiegbglaa

/- Tables of rows, as later layers use them: one fact of the world, and what each question answers. -/
namespace Go.Proofs.Ytamgngkiegbglaa
open Go.RowKit

/-- tp points at the tables of R -/
def Tb (R : List Rw) (w : World) (tp : Nat) : Prop := ∃ B cb gb jb fb pb mb sb f g, TabW R 1114112 B w tp cb gb jb fb pb mb sb f g
theorem Tb.below {R : List Rw} {w w' : World} {tp : Nat} (h : Tb R w tp) (hb : Below w.heap.size w w') : Tb R w' tp :=
  let ⟨B, cb, gb, jb, fb, pb, mb, sb, f, g, h⟩ := h
  ⟨B, cb, gb, jb, fb, pb, mb, sb, f, g, h.below hb⟩
def I32 (r : Int) : Prop := -2147483648 ≤ r ∧ r ≤ 2147483647
/-- a slice of scalars reads as l -/
def runeE (n : Int) : List Value := [.int .i32 n]
theorem runeE_len (n : Int) : (runeE n).length = 1 := rfl
def RunesIn (w : World) (v : Value) (l : List Int) : Prop := Rs w.heap.size w runeE 1 v l
theorem RunesIn.below {w w' : World} {v : Value} {l : List Int} (h : RunesIn w v l) (hb : Below w.heap.size w w') : RunesIn w' v l := (Rd.below h hb (Nat.le_refl _)).mono hb.size
theorem RunesIn.drewN {w : World} {v : Value} {l : List Int} (h : RunesIn w v l) (n : Nat) : RunesIn (w.drewN n) v l := h
theorem runes_cells {w : World} {v : Value} {l : List Int} (h : RunesIn w v l) : ∃ a cap, v = .slice a l.length cap ∧ l.length ≤ cap ∧ cap ≤ maxLen ∧ (0 < l.length → ∃ b off, a = some ⟨b, off, none⟩ ∧ b < w.heap.size ∧ ∀ k x, l[k]? = some x → w.cell? ⟨b, off + k, none⟩ = some (.int .i32 x)) := by
  obtain ⟨a, cap, rfl, h1, h2, h3, h4⟩ := h
  refine ⟨a, cap, rfl, h1, h2, fun hn => ?_⟩
  obtain ⟨b, off, rfl, hb, hq⟩ := h4 hn
  refine ⟨b, off, rfl, hb, fun k x hx => ?_⟩
  have := flat_cell runeE_len hq hx 0 rfl
  simpa using this
theorem rune_cell {w : World} {v : Value} {l : List Int} (h : RunesIn w v l) {k : Nat} {x : Int} (hx : l[k]? = some x) : ∃ b off cap, v = .slice (some ⟨b, off, none⟩) l.length cap ∧ cap ≤ maxLen ∧ l.length ≤ cap ∧ k < l.length ∧ b < w.heap.size ∧ w.cell? ⟨b, off + k, none⟩ = some (.int .i32 x) := by
  have hk := (List.getElem?_eq_some_iff.1 hx).1
  obtain ⟨a, cap, rfl, h1, h2, h3⟩ := runes_cells h
  obtain ⟨b, off, rfl, hb, hq⟩ := h3 (by omega)
  exact ⟨b, off, cap, rfl, h2, h1, hk, hb, hq k x hx⟩
def RunesOk (l : List Int) : Prop := ∀ x ∈ l, I32 x
theorem RunesOk.get {l : List Int} (h : RunesOk l) {k : Nat} {x : Int} (hx : l[k]? = some x) : I32 x := h x (List.mem_of_getElem? hx)

section
variable {R : List Rw} {w : World} {tp : Nat}
theorem build_tb (v : Value) (R : List Rw) (w : World) (hR : RowsIn w v R) (hok : RowsOk R) : Calls Try.prog 16 #[v] w fun e w' => ∃ tp, e = .returned (.pointer (some ⟨tp, 0, none⟩)) ∧ Below w.heap.size w w' ∧ Tb R w' tp := by
  refine (build_any v R w hR hok).mono ?_
  rintro e w' ⟨tp, cb, gb, jb, fb, pb, mb, sb, f, g, rfl, hB, _, hT⟩
  exact ⟨tp, rfl, hB, _, cb, gb, jb, fb, pb, mb, sb, f, g, hT⟩
theorem Tb.class (h : Tb R w tp) (r : Int) (hr : I32 r) : Calls Try.prog 26 #[.pointer (some ⟨tp, 0, none⟩), .int .i32 r] w fun e w' => e = .returned (.int .i64 (ofA R 1 r)) ∧ Below w.heap.size w w' :=
  let ⟨_, _, _, _, _, _, _, _, _, _, h⟩ := h
  class_any h.t r hr.1 hr.2
theorem Tb.pair (h : Tb R w tp) (r : Int) (hr : I32 r) : Calls Try.prog 20 #[.pointer (some ⟨tp, 0, none⟩), .int .i32 r] w fun e w' => e = .returned (.tuple #[.int .i32 (pairR R r).1, .int .i32 (pairR R r).2, .bool (pairOk R r)]) ∧ Below w.heap.size w w' :=
  let ⟨_, _, _, _, _, _, _, _, _, _, h⟩ := h
  pair_any h.t h.big r hr.1 hr.2
theorem Tb.outs (h : Tb R w tp) (r : Int) (hr : I32 r) : Calls Try.prog 21 #[.pointer (some ⟨tp, 0, none⟩), .int .i32 r] w fun e w' => e = .returned (.bool (outT R r)) ∧ Below w.heap.size w w' :=
  let ⟨_, _, _, _, _, _, _, _, _, _, h⟩ := h
  out_any h.t h.big r hr.1 hr.2
theorem Tb.pict (h : Tb R w tp) (r : Int) (hr : I32 r) : Calls Try.prog 32 #[.pointer (some ⟨tp, 0, none⟩), .int .i32 r] w fun e w' => e = .returned (.bool ((tabOf R).p r)) ∧ Below w.heap.size w w' :=
  let ⟨_, _, _, _, _, _, _, _, _, _, h⟩ := h
  pict_any h.t h.big r hr.1 hr.2
theorem Tb.wide (h : Tb R w tp) (r : Int) (hr : I32 r) : Calls Try.prog 33 #[.pointer (some ⟨tp, 0, none⟩), .int .i32 r] w fun e w' => e = .returned (.bool (decide (ofA R 7 r = 1))) ∧ Below w.heap.size w w' :=
  let ⟨_, _, _, _, _, _, _, _, _, _, h⟩ := h
  wide_any h.t h.big r hr.1 hr.2
theorem Tb.letter (h : Tb R w tp) (r : Int) (hr : I32 r) : Calls Try.prog 34 #[.pointer (some ⟨tp, 0, none⟩), .int .i32 r] w fun e w' => e = .returned (.bool (decide (ofA R 8 r = 1))) ∧ Below w.heap.size w w' :=
  let ⟨_, _, _, _, _, _, _, _, _, _, h⟩ := h
  letter_any h.t h.big r hr.1 hr.2
theorem Tb.break (h : Tb R w tp) (r : Int) (hr : I32 r) : Calls Try.prog 28 #[.pointer (some ⟨tp, 0, none⟩), .int .i32 r] w fun e w' => e = .returned (.int .i64 ((tabOf R).b r)) ∧ Below w.heap.size w w' :=
  let ⟨_, _, _, _, _, _, _, _, _, _, h⟩ := h
  break_any h.t r hr.1 hr.2
theorem Tb.conj (h : Tb R w tp) (r : Int) (hr : I32 r) : Calls Try.prog 30 #[.pointer (some ⟨tp, 0, none⟩), .int .i32 r] w fun e w' => e = .returned (.int .i64 ((tabOf R).c r)) ∧ Below w.heap.size w w' :=
  let ⟨_, _, _, _, _, _, _, _, _, _, h⟩ := h
  conj_any h.t h.big r hr.1 hr.2
/-- which pairs are composed, which scalars may be second -/
theorem Tb.made (h : Tb R w tp) : ∃ (f : Pr → Option Int) (g : Int → Option Bool), MadeOn R 1114112 f g ∧ (∀ w', Below w.heap.size w w' → ∀ r, I32 r → Calls Try.prog 24 #[.pointer (some ⟨tp, 0, none⟩), .int .i32 r] w' fun e w'' => e = .returned (.bool ((g r).getD false)) ∧ Below w'.heap.size w' w'') ∧
    (∀ w', Below w.heap.size w w' → ∀ a b, I32 a → I32 b → Calls Try.prog 17 #[.pointer (some ⟨tp, 0, none⟩), .int .i32 a, .int .i32 b] w' fun e w'' => e = .returned (.tuple #[.int .i32 (if b = 0 then 0 else (f (a, b)).getD 0), .bool (if b = 0 then false else (f (a, b)).isSome)]) ∧ Below w'.heap.size w' w'') := by
  obtain ⟨B, cb, gb, jb, fb, pb, mb, sb, f, g, h⟩ := h
  exact ⟨f, g, h.on, fun w' hb r hr => second_any (h.below hb) r hr.1 hr.2, fun w' hb a b ha hb' => compose_any (h.below hb) a b ha hb'⟩
end
end Go.Proofs.Ytamgngkiegbglaa

/- Compose and Second of the document, plainly: of the given rows they are what the tables made. -/
namespace Go.Proofs.Ytamgngkiegbglaa
open Go.RowKit

theorem RFacts.pairA_eq {R : List Rw} (h : RFacts R) (r : Int) : pairA R r = ((pairR R r).1, (pairR R r).2, pairOk R r) := by
  cases hx : fnd R 2 r with
  | none => unfold pairOk pairR pairA; rw [hx]; rfl
  | some x =>
    obtain ⟨h1, h2, h3, h4, h5, h6, h7, h8, h9, h10⟩ := h.pair hx
    have e : pairA R r = (wrap32 x.a, wrap32 x.b, true) := by unfold pairA; rw [hx]; dsimp only; rw [if_neg (by omega)]
    rw [e, wrap32_id (by omega) h6, wrap32_id h7 h8]
    unfold pairOk
    rw [h4]
    have : (x.a, x.b) ≠ ((0, 0) : Pr) := fun e => by have := congrArg Prod.fst e; dsimp only at this; omega
    simp [this]
theorem RFacts.outA_eq {R : List Rw} (h : RFacts R) (r : Int) : outA R r = outT R r := by
  unfold outA outT
  rw [h.pairA_eq r]
/-- what a row of pairs does to what was found -/
def compStep (R : List Rw) (a b : Int) (q : Int × Bool) (x : Rw) : Int × Bool :=
  if x.k = 2 ∧ x.a = a ∧ x.b = b ∧ b ≠ 0 ∧ pairA R (wrap32 x.f) = (a, b, true) ∧ outA R (wrap32 x.f) = false ∧ (q.2 = false ∨ wrap32 x.f < q.1) then (wrap32 x.f, true) else q
def refComp (R : List Rw) (a b : Int) : Int × Bool := R.foldl (compStep R a b) (0, false)
def secRw (R : List Rw) (r : Int) (x : Rw) : Bool := decide (x.k = 2 ∧ x.b = r ∧ r ≠ 0 ∧ outA R (wrap32 x.f) = false)
def CompP (R : List Rw) (a b : Int) (x : Rw) : Prop := x.k = 2 ∧ x.a = a ∧ x.b = b ∧ b ≠ 0 ∧ outT R x.f = false
theorem comp_inv {R : List Rw} (h : RFacts R) (a b : Int) : ∀ (l done : List Rw) (q : Int × Bool), (∀ x ∈ l, x ∈ R) →
    ((q = (0, false) ∧ ∀ x ∈ done, ¬ CompP R a b x) ∨ (q.2 = true ∧ ∃ x ∈ done, x ∈ R ∧ CompP R a b x ∧ q.1 = x.f ∧ ∀ y ∈ done, CompP R a b y → q.1 ≤ y.f)) →
    ((l.foldl (compStep R a b) q = (0, false) ∧ ∀ x ∈ done ++ l, ¬ CompP R a b x) ∨ ((l.foldl (compStep R a b) q).2 = true ∧ ∃ x ∈ done ++ l, x ∈ R ∧ CompP R a b x ∧ (l.foldl (compStep R a b) q).1 = x.f ∧ ∀ y ∈ done ++ l, CompP R a b y → (l.foldl (compStep R a b) q).1 ≤ y.f))
  | [], done, q, _, hq => by simpa using hq
  | x :: l, done, q, hl, hq => by
    rw [List.foldl_cons, show done ++ x :: l = (done ++ [x]) ++ l by simp]
    have hx := hl x (List.mem_cons_self ..)
    refine comp_inv h a b l (done ++ [x]) _ (fun y hy => hl y (List.mem_cons_of_mem _ hy)) ?_
    by_cases hp : CompP R a b x
    · obtain ⟨p1, p2, p3, p4, p5⟩ := id hp
      obtain ⟨q1, q2, q3, q4, q5, q6, q7, q8⟩ := h.prs x hx p1
      have hw : wrap32 x.f = x.f := wrap32_id q2 q3
      have hpa : pairA R x.f = (a, b, true) := by
        obtain ⟨_, _, _, e4, _⟩ := h.pair q8
        rw [h.pairA_eq, e4]
        have : (x.a, x.b) ≠ ((0, 0) : Pr) := fun e => by have := congrArg Prod.fst e; dsimp only at this; omega
        unfold pairOk
        rw [e4, p2, p3]
        rw [p2, p3] at this
        simp [this]
      have hst : compStep R a b q x = if q.2 = false ∨ x.f < q.1 then (x.f, true) else q := by
        unfold compStep
        rw [hw, hpa, h.outA_eq, p5]
        by_cases hc : q.2 = false ∨ x.f < q.1
        · rw [if_pos hc, if_pos ⟨p1, p2, p3, p4, rfl, rfl, hc⟩]
        · rw [if_neg hc, if_neg (fun e => hc e.2.2.2.2.2.2)]
      rw [hst]
      right
      by_cases hc : q.2 = false ∨ x.f < q.1
      · rw [if_pos hc]
        refine ⟨rfl, x, by simp, hx, hp, rfl, fun y hy hyp => ?_⟩
        rcases List.mem_append.1 hy with hy | hy
        · rcases hq with ⟨rfl, hn⟩ | ⟨hq2, z, hz, hzR, hzp, hz1, hmin⟩
          · exact absurd hyp (hn y hy)
          · have := hmin y hy hyp
            rcases hc with hc | hc
            · rw [hq2] at hc; cases hc
            · dsimp only; omega
        · have : y = x := by simpa using hy
          subst this; exact Int.le_refl _
      · rw [if_neg hc]
        have hc2 : q.2 = true ∧ ¬ x.f < q.1 := ⟨by cases e : q.2 with
          | true => rfl
          | false => exact absurd (.inl e) hc, fun e => hc (.inr e)⟩
        rcases hq with ⟨rfl, hn⟩ | ⟨hq2, z, hz, hzR, hzp, hz1, hmin⟩
        · exact absurd hc2.1 (by decide)
        · refine ⟨hq2, z, by simp [hz], hzR, hzp, hz1, fun y hy hyp => ?_⟩
          rcases List.mem_append.1 hy with hy | hy
          · exact hmin y hy hyp
          · have : y = x := by simpa using hy
            subst this; have := hc2.2; omega
    · have hst : compStep R a b q x = q := by
        unfold compStep
        rw [if_neg]
        rintro ⟨p1, p2, p3, p4, p5, p6, _⟩
        obtain ⟨q1, q2, q3, _⟩ := h.prs x hx p1
        rw [wrap32_id q2 q3, h.outA_eq] at p6
        exact hp ⟨p1, p2, p3, p4, p6⟩
      rw [hst]
      rcases hq with ⟨rfl, hn⟩ | ⟨hq2, z, hz, hzR, hzp, hz1, hmin⟩
      · left
        refine ⟨rfl, fun y hy => ?_⟩
        rcases List.mem_append.1 hy with hy | hy
        · exact hn y hy
        · have : y = x := by simpa using hy
          subst this; exact hp
      · right
        refine ⟨hq2, z, by simp [hz], hzR, hzp, hz1, fun y hy hyp => ?_⟩
        rcases List.mem_append.1 hy with hy | hy
        · exact hmin y hy hyp
        · have : y = x := by simpa using hy
          subst this; exact absurd hyp hp
theorem dom_lt {R : List Rw} {r : Int} (h : dom R r) : 0 ≤ r ∧ r < 1114112 := by
  obtain ⟨x, hx⟩ := h
  obtain ⟨_, _, _, _, h5, h6⟩ := fnd_mem hx
  omega
/-- what the document composes is what the tables made -/
theorem RFacts.comp {R : List Rw} (h : RFacts R) {f : Pr → Option Int} {g : Int → Option Bool} (hm : MadeOn R 1114112 f g) (a b : Int) : refComp R a b = ((if b = 0 then 0 else (f (a, b)).getD 0), (if b = 0 then false else (f (a, b)).isSome)) := by
  have hinv := comp_inv h a b R [] (0, false) (fun x hx => hx) (.inl ⟨rfl, fun x hx => by cases hx⟩)
  rw [List.nil_append] at hinv
  unfold refComp
  generalize R.foldl (compStep R a b) (0, false) = q at hinv
  by_cases hb : b = 0
  · rw [if_pos hb, if_pos hb]
    rcases hinv with ⟨e, _⟩ | ⟨_, x, _, _, hp, _⟩
    · exact e
    · exact absurd hb hp.2.2.2.1
  · rw [if_neg hb, if_neg hb]
    rcases hinv with ⟨rfl, hn⟩ | ⟨hq2, x, hxm, hxR, hp, hq1, hmin⟩
    · cases hf : f (a, b) with
      | none => rfl
      | some r =>
        obtain ⟨⟨x, hx⟩, h2, h3, h4, _⟩ := (hm.f _ _).1 hf
        obtain ⟨m1, m2, m3, m4, _⟩ := h.pair hx
        rw [m4] at h3
        refine absurd ⟨m2, congrArg Prod.fst h3, congrArg Prod.snd h3, hb, by rw [m3]; exact h4⟩ (hn x m1)
    · obtain ⟨p1, p2, p3, p4, p5⟩ := hp
      obtain ⟨q1, q2, q3, q4, q5, q6, q7, q8⟩ := h.prs x hxR p1
      obtain ⟨_, _, _, e4, _⟩ := h.pair q8
      have hf : f (a, b) = some x.f := (hm.f _ _).2 ⟨⟨x, q8⟩, by omega, by rw [e4, p2, p3], p5, fun r' hd hl hpr => by
        obtain ⟨y, hy⟩ := hd
        obtain ⟨m1, m2, m3, m4, _⟩ := h.pair hy
        rw [m4] at hpr
        cases ho : outT R r' with
        | true => rfl
        | false =>
          have := hmin y m1 ⟨m2, congrArg Prod.fst hpr, congrArg Prod.snd hpr, hb, by rw [m3]; exact ho⟩
          omega⟩
      rw [hf]
      obtain ⟨u1, u2⟩ := q
      dsimp only at hq1 hq2
      rw [hq1, hq2]; rfl
theorem RFacts.second {R : List Rw} (h : RFacts R) {f : Pr → Option Int} {g : Int → Option Bool} (hm : MadeOn R 1114112 f g) (r : Int) : R.any (secRw R r) = (g r).getD false := by
  rw [Bool.eq_iff_iff]
  constructor
  · intro ha
    obtain ⟨x, hx, hs⟩ := List.any_eq_true.1 ha
    obtain ⟨p1, p2, p3, p4⟩ := of_decide_eq_true hs
    obtain ⟨q1, q2, q3, q4, q5, q6, q7, q8⟩ := h.prs x hx p1
    obtain ⟨_, _, _, e4, _⟩ := h.pair q8
    rw [wrap32_id q2 q3, h.outA_eq] at p4
    rw [(hm.g r true).2 ⟨rfl, x.f, ⟨x, q8⟩, by omega, by rw [e4]; exact p2, p4⟩]; rfl
  · intro hg
    cases hgr : g r with
    | none => rw [hgr] at hg; cases hg
    | some b =>
      obtain ⟨_, q, ⟨x, hx⟩, h2, h3, h4⟩ := (hm.g r b).1 hgr
      obtain ⟨m1, m2, m3, m4, m5, m6, m7, m8, m9, m10⟩ := h.pair hx
      rw [m4] at h3
      dsimp only at h3
      refine List.any_eq_true.2 ⟨x, m1, decide_eq_true ⟨m2, h3, ?_, by rw [wrap32_id (by omega) (by omega), h.outA_eq, m3]; exact h4⟩⟩
      intro h0
      rw [← h3] at h0
      unfold outT pairOk at h4
      rw [m4, h0] at h4
      have : (x.a, (0 : Int)) ≠ ((0, 0) : Pr) := fun e => by have := congrArg Prod.fst e; dsimp only at this; omega
      simp [this] at h4
set_option maxRecDepth 100000 in
set_option maxHeartbeats 4000000 in
theorem rcompose_any {R : List Rw} (HF : RFacts R) (v : Value) (a b : Int) (w : World) (hR : RowsIn w v R) (ha : I32 a) (hb : I32 b) :
    Calls Try.prog 18 #[v, .int .i32 a, .int .i32 b] w fun e w' => e = .returned (.tuple #[.int .i32 (refComp R a b).1, .bool (refComp R a b).2]) ∧ Below w.heap.size w w' := by
  have HFh := Lib.hid HF
  have HRh := Lib.hid hR
  have HV := Lib.hid (show refComp R a b = R.foldl (compStep R a b) (0, false) from rfl)
  obtain ⟨sl, cap, hv, hcap, hmax, _, _⟩ := hR
  subst hv
  unfold maxLen at hmax
  have ea := IntWalk.i64_in a (by unfold I32 at ha; omega)
  have eb := IntWalk.i64_in b (by unfold I32 at hb; omega)
  have HA := Lib.hid ha
  have HBb := Lib.hid hb
  clear HF ha hb
  go_enter Try.func18, Try.ntmps18
  go_wp2_with fail
  go_loopw [8, 9, 10] (fun f8 k9 iv wr => ∃ (k : Nat) (q : Int × Bool), k ≤ R.length ∧ iv = .int .i64 ((k : Nat) : Int) ∧ f8 = .int .i32 q.1 ∧ k9 = .bool q.2 ∧ Below w.heap.size w wr ∧ (R.drop k).foldl (compStep R a b) q = R.foldl (compStep R a b) (0, false)) (fun _ _ iv _ => R.length - (intOf iv).toNat)
  case atStart => exact ⟨0, (0, false), Nat.zero_le _, rfl, rfl, rfl, .refl _ _, rfl⟩
  case round =>
    obtain ⟨k, q, hk, rfl, rfl, rfl, hB, hq⟩ := hrel
    obtain ⟨q1, q2⟩ := q
    dsimp only
    have HB := Lib.hid hB
    have HQ := Lib.hid hq
    clear hB hq
    by_cases hlt : k < R.length
    · obtain ⟨x, hx⟩ : ∃ x, R[k]? = some x := ⟨R[k], List.getElem?_eq_getElem hlt⟩
      have HRw := HRh.out.below HB.out
      obtain ⟨b0, off, cap', hv, _, _, _, d0, d1, d2, d3, d4⟩ := rows_cells HRw hx
      cases hv
      have HRw := Lib.hid HRw
      have HD := Lib.hid (show (R.drop (k + 1)).foldl (compStep R a b) (compStep R a b (q1, q2) x) = R.foldl (compStep R a b) (0, false) by
        rw [← HQ.out, List.drop_eq_getElem_cons hlt, List.foldl_cons, show R[k] = x from by rw [List.getElem?_eq_getElem hlt] at hx; injection hx])
      have HM := Lib.hid (List.mem_of_getElem? hx)
      clear hx
      have HSk := Lib.hid (fun (h : ¬ (x.k = 2 ∧ x.a = a ∧ x.b = b ∧ b ≠ 0 ∧ pairA R (wrap32 x.f) = (a, b, true) ∧ outA R (wrap32 x.f) = false ∧ (q2 = false ∨ wrap32 x.f < q1))) => show (R.drop (k + 1)).foldl (compStep R a b) (q1, q2) = R.foldl (compStep R a b) (0, false) by
        have h2 := HD.out
        unfold compStep at h2
        rw [if_neg h] at h2
        exact h2)
      by_cases h1 : x.k = 2
      · have t1 : (x.k != 2) = false := by simpa using h1
        by_cases h2 : x.a = a
        · have t2 : (x.a != a) = false := by simpa using h2
          by_cases h3 : x.b = b
          · have t3 : (x.b != b) = false := by simpa using h3
            by_cases h4 : b = 0
            · have t4 : (b == 0) = true := by simpa using h4
              have HN := Lib.hid (HSk.out (by rintro ⟨_, _, _, h, _⟩; exact h h4))
              clear h1 h2 h3 h4
              go_wp2_with fail
              go_roundw
              case rel => exact ⟨k + 1, (q1, _), by omega, by go_num, rfl, rfl, HB.out, HN.out⟩
              case measure => simp [intOf]; omega
            · have t4 : (b == 0) = false := by simpa using h4
              have hcut : 0 ≤ x.f ∧ x.f ≤ 1114111 := by
                obtain ⟨_, p1, p2, _⟩ := HFh.out.prs x HM.out h1
                exact ⟨p1, p2⟩
              have ew : wrap32 x.f = x.f := wrap32_id hcut.1 hcut.2
              have ei := IntWalk.i32_in x.f (by omega)
              rw [ew] at HSk
              have HC := Lib.hid (show pairA R x.f = (a, b, true) → outA R x.f = false → (q2 = false ∨ x.f < q1) → (R.drop (k + 1)).foldl (compStep R a b) (x.f, true) = R.foldl (compStep R a b) (0, false) from fun u1 u2 u3 => by
                have h5 := HD.out
                unfold compStep at h5
                rw [ew, if_pos ⟨h1, h2, h3, h4, u1, u2, u3⟩] at h5
                exact h5)
              clear h1 h2 h3 h4 ew
              go_wp2_with fail
              refine (rpair_any _ R x.f wr HRw.out (by omega) (by omega)).mono ?_
              rintro e w' ⟨rfl, n1, rfl⟩
              have HRw2 := Lib.hid (HRw.out.drewN n1)
              have HB2 := Lib.hid (below_dN HB.out n1)
              have HB1 := Lib.hid HB.out
              clear HRw HB
              generalize pairA R x.f = y at HC HSk ⊢
              obtain ⟨y1, y2, y3⟩ := y
              dsimp only
              cases y3 with
              | false =>
                have HN := Lib.hid (HSk.out (by rintro ⟨_, _, _, _, h, _⟩; cases h))
                go_wp2_with fail
                go_roundw
                case rel => exact ⟨k + 1, (q1, _), by omega, by go_num, rfl, rfl, HB2.out, HN.out⟩
                case measure => simp [intOf]; omega
              | true =>
                by_cases g1 : y1 = a
                · by_cases g2 : y2 = b
                  · have s1 : (y1 == a) = true := by simpa using g1
                    have s2 : (y2 == b) = true := by simpa using g2
                    subst g1
                    subst g2
                    go_wp2_with fail
                    refine (rout_any _ R x.f _ HRw2.out (by omega) (by omega)).mono ?_
                    rintro e w' ⟨rfl, n2, rfl⟩
                    have HB3 := Lib.hid (show Below w.heap.size w (wr.drewN (n1 + n2)) from below_dN HB1.out (n1 + n2))
                    clear HB2
                    cases ho : outA R x.f with
                    | true =>
                      have HN := Lib.hid (HSk.out (by rintro ⟨_, _, _, _, _, h, _⟩; rw [ho] at h; cases h))
                      go_wp2_with fail
                      go_roundw
                      case rel => exact ⟨k + 1, (q1, _), by omega, by go_num, rfl, rfl, HB3.out, HN.out⟩
                      case measure => simp [intOf]; omega
                    | false =>
                      cases q2 with
                      | false =>
                        have HN := Lib.hid (HC.out (by trivial) (by trivial) (.inl rfl))
                        go_wp2_with fail
                        go_roundw
                        case rel => exact ⟨k + 1, (x.f, true), by omega, by go_num, rfl, rfl, HB3.out, HN.out⟩
                        case measure => simp [intOf]; omega
                      | true =>
                        by_cases hl : x.f < q1
                        · have HN := Lib.hid (HC.out (by trivial) (by trivial) (.inr hl))
                          go_wp2_with fail
                          go_roundw
                          case rel => exact ⟨k + 1, (x.f, true), by omega, by go_num, rfl, rfl, HB3.out, HN.out⟩
                          case measure => simp [intOf]; omega
                        · have HN := Lib.hid (HSk.out (fun h => by have h6 := h.2.2.2.2.2.2; rcases h6 with h6 | h6; cases h6; exact hl h6))
                          have tl : decide (x.f < q1) = false := decide_eq_false hl
                          clear hl
                          go_wp2_with fail
                          go_roundw
                          case rel => exact ⟨k + 1, (q1, _), by omega, by go_num, rfl, rfl, HB3.out, HN.out⟩
                          case measure => simp [intOf]; omega
                  · have s1 : (y1 == a) = true := by simpa using g1
                    have s2 : (y2 == b) = false := by simpa using g2
                    have HN := Lib.hid (HSk.out (by rintro ⟨_, _, _, _, h, _⟩; exact g2 (congrArg (fun p => p.2.1) h)))
                    clear g1 g2
                    go_wp2_with fail
                    go_roundw
                    case rel => exact ⟨k + 1, (q1, _), by omega, by go_num, rfl, rfl, HB2.out, HN.out⟩
                    case measure => simp [intOf]; omega
                · have s1 : (y1 == a) = false := by simpa using g1
                  have HN := Lib.hid (HSk.out (by rintro ⟨_, _, _, _, h, _⟩; exact g1 (congrArg (fun p => p.1) h)))
                  clear g1
                  go_wp2_with fail
                  go_roundw
                  case rel => exact ⟨k + 1, (q1, _), by omega, by go_num, rfl, rfl, HB2.out, HN.out⟩
                  case measure => simp [intOf]; omega
          · have t3 : (x.b != b) = true := by simpa using h3
            have HN := Lib.hid (HSk.out (by rintro ⟨_, _, h, _⟩; exact h3 h))
            clear h1 h2 h3
            go_wp2_with fail
            go_roundw
            case rel => exact ⟨k + 1, (q1, _), by omega, by go_num, rfl, rfl, HB.out, HN.out⟩
            case measure => simp [intOf]; omega
        · have t2 : (x.a != a) = true := by simpa using h2
          have HN := Lib.hid (HSk.out (by rintro ⟨_, h, _⟩; exact h2 h))
          clear h1 h2
          go_wp2_with fail
          go_roundw
          case rel => exact ⟨k + 1, (q1, _), by omega, by go_num, rfl, rfl, HB.out, HN.out⟩
          case measure => simp [intOf]; omega
      · have t1 : (x.k != 2) = true := by simpa using h1
        have HN := Lib.hid (HSk.out (by rintro ⟨h, _⟩; exact h1 h))
        clear h1
        go_wp2_with fail
        go_roundw
        case rel => exact ⟨k + 1, (q1, _), by omega, by go_num, rfl, rfl, HB.out, HN.out⟩
        case measure => simp [intOf]; omega
    · have hke : k = R.length := by omega
      subst hke
      have HE := Lib.hid (show refComp R a b = (q1, q2) by rw [HV.out, ← HQ.out, List.drop_length]; rfl)
      clear hlt hk
      go_wp2_with fail
      go_ret2
      exact ⟨by rw [HE.out]; rfl, HB.out⟩
set_option maxRecDepth 100000 in
set_option maxHeartbeats 4000000 in
theorem rsecond_any {R : List Rw} (HF : RFacts R) (v : Value) (r : Int) (w : World) (hR : RowsIn w v R) (hr : I32 r) :
    Calls Try.prog 25 #[v, .int .i32 r] w fun e w' => e = .returned (.bool (R.any (secRw R r))) ∧ Below w.heap.size w w' := by
  have HFh := Lib.hid HF
  have HRh := Lib.hid hR
  obtain ⟨sl, cap, hv, hcap, hmax, _, _⟩ := hR
  subst hv
  unfold maxLen at hmax
  have er := IntWalk.i64_in r (by unfold I32 at hr; omega)
  clear HF hr
  go_enter Try.func25, Try.ntmps25
  go_wp2_with fail
  go_loopw [5] (fun iv wr => ∃ k : Nat, k ≤ R.length ∧ iv = .int .i64 ((k : Nat) : Int) ∧ Below w.heap.size w wr ∧ (R.drop k).any (secRw R r) = R.any (secRw R r)) (fun iv _ => R.length - (intOf iv).toNat)
  case atStart => exact ⟨0, Nat.zero_le _, rfl, .refl _ _, rfl⟩
  case round =>
    obtain ⟨k, hk, rfl, hB, hq⟩ := hrel
    have HB := Lib.hid hB
    have HQ := Lib.hid hq
    clear hB hq
    by_cases hlt : k < R.length
    · obtain ⟨x, hx⟩ : ∃ x, R[k]? = some x := ⟨R[k], List.getElem?_eq_getElem hlt⟩
      have HRw := HRh.out.below HB.out
      obtain ⟨b0, off, cap', hv, _, _, _, d0, d1, d2, d3, d4⟩ := rows_cells HRw hx
      cases hv
      have HRw := Lib.hid HRw
      have HD := Lib.hid (show (secRw R r x || (R.drop (k + 1)).any (secRw R r)) = R.any (secRw R r) by
        rw [← HQ.out, List.drop_eq_getElem_cons hlt, List.any_cons, show R[k] = x from by rw [List.getElem?_eq_getElem hlt] at hx; injection hx])
      have HM := Lib.hid (List.mem_of_getElem? hx)
      clear hx
      have HSk := Lib.hid (fun (h : ¬ (x.k = 2 ∧ x.b = r ∧ r ≠ 0 ∧ outA R (wrap32 x.f) = false)) => show (R.drop (k + 1)).any (secRw R r) = R.any (secRw R r) by
        have h2 := HD.out
        unfold secRw at h2
        rw [decide_eq_false h] at h2
        exact h2)
      by_cases h1 : x.k = 2
      · have t1 : (x.k == 2) = true := by simpa using h1
        by_cases h2 : x.b = r
        · have t2 : (x.b == r) = true := by simpa using h2
          by_cases h4 : r = 0
          · have t4 : (r != 0) = false := by simpa using h4
            have HN := Lib.hid (HSk.out (by rintro ⟨_, _, h, _⟩; exact h h4))
            clear h1 h2 h4
            go_wp2_with fail
            go_roundw
            case rel => exact ⟨k + 1, by omega, by go_num, HB.out, HN.out⟩
            case measure => simp [intOf]; omega
          · have t4 : (r != 0) = true := by simpa using h4
            have hcut : 0 ≤ x.f ∧ x.f ≤ 1114111 := by
              obtain ⟨_, p1, p2, _⟩ := HFh.out.prs x HM.out h1
              exact ⟨p1, p2⟩
            have ew : wrap32 x.f = x.f := wrap32_id hcut.1 hcut.2
            have ei := IntWalk.i32_in x.f (by omega)
            rw [ew] at HSk
            have HC := Lib.hid (fun (u : outA R x.f = false) => show R.any (secRw R r) = true by
              rw [← HD.out]
              unfold secRw
              rw [decide_eq_true ⟨h1, h2, h4, by rw [ew]; exact u⟩]; rfl)
            clear h1 h2 h4 ew
            go_wp2_with fail
            refine (rout_any _ R x.f _ HRw.out (by omega) (by omega)).mono ?_
            rintro e w' ⟨rfl, n2, rfl⟩
            have HB3 := Lib.hid (below_dN HB.out n2)
            clear HB
            cases ho : outA R x.f with
            | true =>
              have HN := Lib.hid (HSk.out (by rintro ⟨_, _, _, h⟩; rw [ho] at h; cases h))
              go_wp2_with fail
              go_roundw
              case rel => exact ⟨k + 1, by omega, by go_num, HB3.out, HN.out⟩
              case measure => simp [intOf]; omega
            | false =>
              have HN := Lib.hid (HC.out ho)
              go_wp2_with fail
              go_ret
              exact ⟨ret_b HN.out.symm, HB3.out⟩
        · have t2 : (x.b == r) = false := by simpa using h2
          have HN := Lib.hid (HSk.out (by rintro ⟨_, h, _⟩; exact h2 h))
          clear h1 h2
          go_wp2_with fail
          go_roundw
          case rel => exact ⟨k + 1, by omega, by go_num, HB.out, HN.out⟩
          case measure => simp [intOf]; omega
      · have t1 : (x.k == 2) = false := by simpa using h1
        have HN := Lib.hid (HSk.out (by rintro ⟨h, _⟩; exact h1 h))
        clear h1
        go_wp2_with fail
        go_roundw
        case rel => exact ⟨k + 1, by omega, by go_num, HB.out, HN.out⟩
        case measure => simp [intOf]; omega
    · have hke : k = R.length := by omega
      subst hke
      have HE := Lib.hid (show R.any (secRw R r) = false by rw [← HQ.out, List.drop_length]; rfl)
      clear hlt hk
      go_wp2_with fail
      go_ret
      exact ⟨ret_b HE.out.symm, HB.out⟩
end Go.Proofs.Ytamgngkiegbglaa

/- UcdTells, UcdPairs, UcdComposes: their walks. -/
namespace Go.Proofs.Ytamgngkiegbglaa
open Go.RowKit

theorem fin04 {w w1 : World} (h1 : Below w.heap.size w w1) : Calls Try.prog 19 #[] w1 fun e w' => e = .returned (.bool true) ∧ Below w.heap.size w w' := by
  refine (awake_any w1).mono ?_
  rintro e w' ⟨rfl, hB⟩
  exact ⟨rfl, below_trans' h1 hB⟩
set_option maxRecDepth 100000 in
set_option maxHeartbeats 4000000 in
theorem ucdTells_any (v0 : Value) (l : List Int) (w : World) (hl : RunesIn w v0 l) (hok : RunesOk l) :
    Calls Try.prog 5 #[v0] w fun e w' => e = .returned (.bool true) ∧ Below w.heap.size w w' := by
  obtain ⟨R, HFc, hrows⟩ := apiRows_any
  have HF := Lib.hid HFc
  have HRows := Lib.hid hrows
  have HL := Lib.hid hl
  obtain ⟨sl, cap, rfl, hcap, hmax, _⟩ := runes_cells hl
  unfold maxLen at hmax
  clear HFc hrows
  go_enter Try.func5, Try.ntmps5
  go_wp2_with fail
  refine (HRows.out w).mono ?_
  rintro e w1 ⟨v, rfl, hB1, hR1⟩
  have HB1 := Lib.hid hB1
  go_wp2_with fail
  refine (build_tb v R w1 hR1 HF.out.ok).mono ?_
  rintro e w2 ⟨tp, rfl, hB2, hT⟩
  have HT2 := Lib.hid hT
  have HR2 := Lib.hid (hR1.below hB2)
  have HB2 := Lib.hid (below_trans' HB1.out hB2)
  have HL2 := Lib.hid (HL.out.below HB2.out)
  clear hB1 hR1 hB2 hT HB1 hl HL
  go_wp2_with fail
  go_loopw [5] (fun iv wr => ∃ k : Nat, k ≤ l.length ∧ iv = .int .i64 ((k : Nat) : Int) ∧ Below w2.heap.size w2 wr) (fun iv _ => l.length - (intOf iv).toNat)
  case atStart => exact ⟨0, Nat.zero_le _, rfl, .refl _ _⟩
  case round =>
    obtain ⟨k, hk, rfl, hB⟩ := hrel
    have HB := Lib.hid hB
    have HT := Lib.hid (HT2.out.below hB)
    have HR := Lib.hid (HR2.out.below hB)
    have HLr := Lib.hid (HL2.out.below hB)
    clear hB
    by_cases hlt : k < l.length
    · by_cases h60 : k < 60
      · obtain ⟨x, hx⟩ : ∃ x, l[k]? = some x := ⟨l[k], List.getElem?_eq_getElem hlt⟩
        have HI := Lib.hid (hok.get hx)
        obtain ⟨b0, off, cap', hv, _, _, _, _, d0⟩ := rune_cell HLr.out hx
        cases hv
        clear hx
        go_wp2_with fail
        refine (HT.out.class x HI.out).mono ?_
        rintro e w3 ⟨rfl, hB3⟩
        have HT3 := Lib.hid (HT.out.below hB3)
        have HR3 := Lib.hid (HR.out.below hB3)
        have HB3 := Lib.hid (HB.out.trans (hB3.mono HB.out.size))
        clear hB3 HT HR HB d0
        go_wp2_with fail
        refine (of_any v R 1 x w3 HR3.out HI.out.1 HI.out.2).mono ?_
        rintro e w' ⟨rfl, rfl⟩
        go_wp2_with fail
        refine (HT3.out.break x HI.out).mono ?_
        rintro e w4 ⟨rfl, hB4⟩
        rw [show (tabOf R).b x = brkR R x from rfl]
        have HT4 := Lib.hid (HT3.out.below hB4)
        have HR4 := Lib.hid (HR3.out.below hB4)
        have HB4 := Lib.hid (HB3.out.trans (hB4.mono HB3.out.size))
        clear hB4 HT3 HR3 HB3
        go_wp2_with fail
        refine (rbreak_any v R x w4 HR4.out HI.out.1 HI.out.2).mono ?_
        rintro e w' ⟨rfl, rfl⟩
        go_wp2_with fail
        refine (HT4.out.conj x HI.out).mono ?_
        rintro e w5 ⟨rfl, hB5⟩
        rw [show (tabOf R).c x = conjR R x from rfl]
        have HT5 := Lib.hid (HT4.out.below hB5)
        have HR5 := Lib.hid (HR4.out.below hB5)
        have HB5 := Lib.hid (HB4.out.trans (hB5.mono HB4.out.size))
        clear hB5 HT4 HR4 HB4
        go_wp2_with fail
        refine (rconj_any v R x w5 HR5.out HI.out.1 HI.out.2).mono ?_
        rintro e w' ⟨rfl, rfl⟩
        go_wp2_with fail
        refine (HT5.out.pict x HI.out).mono ?_
        rintro e w6 ⟨rfl, hB6⟩
        rw [show (tabOf R).p x = (ofA R 5 x == 1) from rfl]
        have HT6 := Lib.hid (HT5.out.below hB6)
        have HR6 := Lib.hid (HR5.out.below hB6)
        have HB6 := Lib.hid (HB5.out.trans (hB6.mono HB5.out.size))
        clear hB6 HT5 HR5 HB5
        go_wp2_with fail
        refine (of_any v R 5 x w6 HR6.out HI.out.1 HI.out.2).mono ?_
        rintro e w' ⟨rfl, rfl⟩
        go_wp2_with fail
        refine (HT6.out.wide x HI.out).mono ?_
        rintro e w7 ⟨rfl, hB7⟩
        rw [show decide (ofA R 7 x = 1) = (ofA R 7 x == 1) from rfl]
        have HT7 := Lib.hid (HT6.out.below hB7)
        have HR7 := Lib.hid (HR6.out.below hB7)
        have HB7 := Lib.hid (HB6.out.trans (hB7.mono HB6.out.size))
        clear hB7 HT6 HR6 HB6
        go_wp2_with fail
        refine (of_any v R 7 x w7 HR7.out HI.out.1 HI.out.2).mono ?_
        rintro e w' ⟨rfl, rfl⟩
        go_wp2_with fail
        refine (HT7.out.letter x HI.out).mono ?_
        rintro e w8 ⟨rfl, hB8⟩
        rw [show decide (ofA R 8 x = 1) = (ofA R 8 x == 1) from rfl]
        have HT8 := Lib.hid (HT7.out.below hB8)
        have HR8 := Lib.hid (HR7.out.below hB8)
        have HB8 := Lib.hid (HB7.out.trans (hB8.mono HB7.out.size))
        clear hB8 HT7 HR7 HB7
        go_wp2_with fail
        refine (of_any v R 8 x w8 HR8.out HI.out.1 HI.out.2).mono ?_
        rintro e w' ⟨rfl, rfl⟩
        go_wp2_with fail
        go_roundw
        case rel => exact ⟨k + 1, by omega, by go_num, HB8.out⟩
        case measure => simp [intOf]; omega
      · have q2 : decide ((k : Int) < 60) = false := by rw [decide_eq_false_iff_not]; omega
        clear h60
        go_wp2_with fail
        refine (fin04 (below_trans' HB2.out HB.out)).mono ?_
        rintro e w9 ⟨rfl, hB9⟩
        go_wp2_with fail
        go_ret
        exact ⟨rfl, hB9⟩
    · have hke : k = l.length := by omega
      subst hke
      clear hlt hk
      go_wp2_with fail
      refine (fin04 (below_trans' HB2.out HB.out)).mono ?_
      rintro e w9 ⟨rfl, hB9⟩
      go_wp2_with fail
      go_ret
      exact ⟨rfl, hB9⟩
end Go.Proofs.Ytamgngkiegbglaa

/- UcdComposes: its walk. -/
namespace Go.Proofs.Ytamgngkiegbglaa
open Go.RowKit

theorem Tb.compose {R : List Rw} {tp : Nat} {w : World} (h : Tb R w tp) (HF : RFacts R) (a b : Int) (ha : I32 a) (hb : I32 b) : Calls Try.prog 17 #[.pointer (some ⟨tp, 0, none⟩), .int .i32 a, .int .i32 b] w fun e w' => e = .returned (.tuple #[.int .i32 (refComp R a b).1, .bool (refComp R a b).2]) ∧ Below w.heap.size w w' := by
  obtain ⟨f, g, hm, _, hc⟩ := h.made
  rw [HF.comp hm a b]
  exact hc w (.refl _ _) a b ha hb
theorem Tb.second {R : List Rw} {tp : Nat} {w : World} (h : Tb R w tp) (HF : RFacts R) (r : Int) (hr : I32 r) : Calls Try.prog 24 #[.pointer (some ⟨tp, 0, none⟩), .int .i32 r] w fun e w' => e = .returned (.bool (R.any (secRw R r))) ∧ Below w.heap.size w w' := by
  obtain ⟨f, g, hm, hs, _⟩ := h.made
  rw [HF.second hm r]
  exact hs w (.refl _ _) r hr
theorem Tb.comp_cases {R : List Rw} {tp : Nat} {w : World} (h : Tb R w tp) (HF : RFacts R) (a b : Int) : refComp R a b = (0, false) ∨ ∃ r, refComp R a b = (r, true) ∧ I32 r ∧ pairR R r = (a, b) ∧ pairOk R r = true ∧ outT R r = false := by
  obtain ⟨f, g, hm, _, _⟩ := h.made
  rw [HF.comp hm a b]
  by_cases hb0 : b = 0
  · rw [if_pos hb0, if_pos hb0]; exact .inl rfl
  · rw [if_neg hb0, if_neg hb0]
    cases hf : f (a, b) with
    | none => exact .inl rfl
    | some r =>
      obtain ⟨hd, _, hp, ho, _⟩ := (hm.f _ _).1 hf
      have hr := dom_lt hd
      refine .inr ⟨r, rfl, by unfold I32; omega, hp, ?_, ho⟩
      obtain ⟨x, hx⟩ := hd
      obtain ⟨_, _, _, e4, e5, _⟩ := HF.pair hx
      unfold pairOk
      rw [e4]
      exact decide_eq_true (fun e => by have := congrArg Prod.fst e; dsimp only at this; omega)
set_option maxRecDepth 100000 in
set_option maxHeartbeats 4000000 in
theorem ucdComposes_any (a b : Int) (w : World) (ha : I32 a) (hb : I32 b) :
    Calls Try.prog 3 #[.int .i32 a, .int .i32 b] w fun e w' => e = .returned (.bool true) ∧ Below w.heap.size w w' := by
  obtain ⟨R, HFc, hrows⟩ := apiRows_any
  have HF := Lib.hid HFc
  have HRows := Lib.hid hrows
  have HA := Lib.hid ha
  have HBb := Lib.hid hb
  clear HFc hrows ha hb
  go_enter Try.func3, Try.ntmps3
  go_wp2_with fail
  refine (HRows.out w).mono ?_
  rintro e w1 ⟨v, rfl, hB1, hR1⟩
  have HB1 := Lib.hid hB1
  go_wp2_with fail
  refine (build_tb v R w1 hR1 HF.out.ok).mono ?_
  rintro e w2 ⟨tp, rfl, hB2, hT⟩
  have HT2 := Lib.hid hT
  have HR2 := Lib.hid (hR1.below hB2)
  have HB2 := Lib.hid (below_trans' HB1.out hB2)
  clear hB1 hR1 hB2 hT HB1
  have HC := Lib.hid (HT2.out.comp_cases HF.out a b)
  have hcall1 := HT2.out.compose HF.out a b HA.out HBb.out
  have hcall2 := fun w3 hR3 => rcompose_any HF.out v a b w3 hR3 HA.out HBb.out
  generalize refComp R a b = q at HC hcall1 hcall2
  have HCall1 := Lib.hid hcall1
  have HCall2 := Lib.hid hcall2
  clear hcall1 hcall2
  rcases HC.out with rfl | ⟨r, rfl, hI, hp, hk, ho⟩
  · go_wp2_with fail
    refine HCall1.out.mono ?_
    rintro e w3 ⟨rfl, hB3⟩
    have HR3 := Lib.hid (HR2.out.below hB3)
    have HB3 := Lib.hid (below_trans' HB2.out hB3)
    clear hB3 HT2 HR2 HB2
    go_wp2_with fail
    refine (HCall2.out w3 HR3.out).mono ?_
    rintro e w4 ⟨rfl, hB4⟩
    have HB4 := Lib.hid (below_trans' HB3.out hB4)
    clear hB4 HR3 HB3
    go_wp2_with fail
    refine (fin04 HB4.out).mono ?_
    rintro e w9 ⟨rfl, hB9⟩
    go_wp2_with fail
    go_ret
    exact ⟨rfl, hB9⟩
  · have HI := Lib.hid hI
    have HP := Lib.hid hp
    have HK := Lib.hid hk
    have HO := Lib.hid ho
    clear hI hp hk ho
    go_wp2_with fail
    refine HCall1.out.mono ?_
    rintro e w3 ⟨rfl, hB3⟩
    have HT3 := Lib.hid (HT2.out.below hB3)
    have HR3 := Lib.hid (HR2.out.below hB3)
    have HB3 := Lib.hid (below_trans' HB2.out hB3)
    clear hB3 HT2 HR2 HB2
    go_wp2_with fail
    refine (HCall2.out w3 HR3.out).mono ?_
    rintro e w4 ⟨rfl, hB4⟩
    have HT4 := Lib.hid (HT3.out.below hB4)
    have HB4 := Lib.hid (below_trans' HB3.out hB4)
    clear hB4 HT3 HR3 HB3
    go_wp2_with fail
    refine (HT4.out.pair r HI.out).mono ?_
    rintro e w5 ⟨rfl, hB5⟩
    have HT5 := Lib.hid (HT4.out.below hB5)
    have HB5 := Lib.hid (below_trans' HB4.out hB5)
    clear hB5 HT4 HB4
    rw [HP.out, HK.out]
    dsimp only
    go_wp2_with fail
    refine (HT5.out.outs r HI.out).mono ?_
    rintro e w6 ⟨rfl, hB6⟩
    have HB6 := Lib.hid (below_trans' HB5.out hB6)
    clear hB6 HT5 HB5
    rw [HO.out]
    go_wp2_with fail
    refine (fin04 HB6.out).mono ?_
    rintro e w9 ⟨rfl, hB9⟩
    go_wp2_with fail
    go_ret
    exact ⟨rfl, hB9⟩
end Go.Proofs.Ytamgngkiegbglaa

/- UcdPairs: its walk. -/
namespace Go.Proofs.Ytamgngkiegbglaa
open Go.RowKit

theorem Tb.drewN {R : List Rw} {w : World} {tp : Nat} (h : Tb R w tp) (n : Nat) : Tb R (w.drewN n) tp := h.below (below_dN (.refl _ _) n)
theorem ret_t {a b a' b' : Int} {c c' : Bool} (h1 : a = a') (h2 : b = b') (h3 : c = c') : Ending.returned (.tuple #[.int .i32 a, .int .i32 b, .bool c]) = .returned (.tuple #[.int .i32 a', .int .i32 b', .bool c']) := by rw [h1, h2, h3]
set_option maxRecDepth 100000 in
set_option maxHeartbeats 4000000 in
theorem ucdPairs_any (v0 : Value) (l : List Int) (w : World) (hl : RunesIn w v0 l) (hok : RunesOk l) :
    Calls Try.prog 4 #[v0] w fun e w' => e = .returned (.bool true) ∧ Below w.heap.size w w' := by
  obtain ⟨R, HFc, hrows⟩ := apiRows_any
  have HF := Lib.hid HFc
  have HRows := Lib.hid hrows
  have HL := Lib.hid hl
  obtain ⟨sl, cap, rfl, hcap, hmax, _⟩ := runes_cells hl
  unfold maxLen at hmax
  clear HFc hrows
  go_enter Try.func4, Try.ntmps4
  go_wp2_with fail
  refine (HRows.out w).mono ?_
  rintro e w1 ⟨v, rfl, hB1, hR1⟩
  have HB1 := Lib.hid hB1
  go_wp2_with fail
  refine (build_tb v R w1 hR1 HF.out.ok).mono ?_
  rintro e w2 ⟨tp, rfl, hB2, hT⟩
  have HT2 := Lib.hid hT
  have HR2 := Lib.hid (hR1.below hB2)
  have HB2 := Lib.hid (below_trans' HB1.out hB2)
  have HL2 := Lib.hid (HL.out.below HB2.out)
  clear hB1 hR1 hB2 hT HB1 hl HL
  go_wp2_with fail
  go_loopw [5] (fun iv wr => ∃ k : Nat, k ≤ l.length ∧ iv = .int .i64 ((k : Nat) : Int) ∧ Below w2.heap.size w2 wr) (fun iv _ => l.length - (intOf iv).toNat)
  case atStart => exact ⟨0, Nat.zero_le _, rfl, .refl _ _⟩
  case round =>
    obtain ⟨k, hk, rfl, hB⟩ := hrel
    have HB := Lib.hid hB
    have HT := Lib.hid (HT2.out.below hB)
    have HR := Lib.hid (HR2.out.below hB)
    have HLr := Lib.hid (HL2.out.below hB)
    clear hB
    by_cases hlt : k < l.length
    · by_cases h60 : k < 60
      · obtain ⟨x, hx⟩ : ∃ x, l[k]? = some x := ⟨l[k], List.getElem?_eq_getElem hlt⟩
        have HI := Lib.hid (hok.get hx)
        obtain ⟨b0, off, cap', hv, _, _, _, _, d0⟩ := rune_cell HLr.out hx
        cases hv
        clear hx
        have hP1 := fun w (h : Tb R w tp) => h.pair x HI.out
        have hP2 := fun w (h : RowsIn w v R) => rpair_any v R x w h HI.out.1 HI.out.2
        rw [HF.out.pairA_eq x] at hP2
        dsimp only at hP2
        have hO1 := fun w (h : Tb R w tp) => h.outs x HI.out
        have hO2 := fun w (h : RowsIn w v R) => rout_any v R x w h HI.out.1 HI.out.2
        rw [HF.out.outA_eq x] at hO2
        have hS1 := fun w (h : Tb R w tp) => h.second HF.out x HI.out
        have hS2 := fun w (h : RowsIn w v R) => rsecond_any HF.out v x w h HI.out
        generalize (pairR R x).1 = p1 at hP1 hP2
        generalize (pairR R x).2 = p2 at hP1 hP2
        generalize pairOk R x = p3 at hP1 hP2
        generalize outT R x = ob at hO1 hO2
        generalize R.any (secRw R x) = sb at hS1 hS2
        have HP1 := Lib.hid hP1
        have HP2 := Lib.hid hP2
        have HO1 := Lib.hid hO1
        have HO2 := Lib.hid hO2
        have HS1 := Lib.hid hS1
        have HS2 := Lib.hid hS2
        clear hP1 hP2 hO1 hO2 hS1 hS2
        go_wp2_with fail
        refine (HP1.out wr HT.out).mono ?_
        rintro e w3 ⟨rfl, hB3⟩
        have HT3 := Lib.hid (HT.out.below hB3)
        have HR3 := Lib.hid (HR.out.below hB3)
        have HB3 := Lib.hid (HB.out.trans (hB3.mono HB.out.size))
        have d3 : w3.cell? ⟨b0, off + k, none⟩ = some (.int .i32 x) := cell_later hB3 d0
        clear hB3 HT HR HB d0
        go_wp2_with fail
        refine (HP2.out w3 HR3.out).mono ?_
        rintro e w4 ⟨rfl, n4, rfl⟩
        have HT4 := Lib.hid (HT3.out.drewN n4)
        have HR4 := Lib.hid (HR3.out.drewN n4)
        have HB4 := Lib.hid (below_dN HB3.out n4)
        have d4 : (w3.drewN n4).cell? ⟨b0, off + k, none⟩ = some (.int .i32 x) := d3
        clear HT3 HR3 HB3 d3
        generalize w3.drewN n4 = w4 at HT4 HR4 HB4 d4 ⊢
        go_wp2_with fail
        have HC1 := Lib.hid (HO1.out w4.drew (HT4.out.drewN 1))
        go_region_held3 (fun w' => w'.cell? ⟨b0, off + k, none⟩ = some (.int .i32 x)) (first | exact p5 | exact p6 | exact p7 | exact p8 | go_keep)
          (first
            | (go_at_call 21; refine HC1.out.mono ?_; rintro e w5 ⟨rfl, hB5⟩; have p5 : w5.cell? ⟨b0, off + k, none⟩ = some (.int .i32 x) := cell_later hB5 (show w4.drew.cell? _ = _ from d4); have HT5 := Lib.hid ((HT4.out.drewN 1).below hB5); have HR5 := Lib.hid ((HR4.out.drewN 1).below hB5); have HB5 := Lib.hid ((below_dN HB4.out 1).trans (hB5.mono (below_dN HB4.out 1).size)); clear hB5)
            | (go_at_call 23; refine (HO2.out _ HR5.out).mono ?_; rintro e w6 ⟨rfl, n6, rfl⟩; have p6 := p5)
            | (go_at_call 24; refine (HS1.out _ (HT5.out.drewN n6)).mono ?_; rintro e w7 ⟨rfl, hB7⟩; have p7 : w7.cell? ⟨b0, off + k, none⟩ = some (.int .i32 x) := cell_later hB7 (show (w5.drewN n6).cell? _ = _ from p5); have HR7 := Lib.hid ((HR5.out.drewN n6).below hB7); have HB7 := Lib.hid ((below_dN HB5.out n6).trans (hB7.mono (below_dN HB5.out n6).size)); clear hB7)
            | (go_at_call 25; refine (HS2.out _ HR7.out).mono ?_; rintro e w8 ⟨rfl, hB8⟩; have p8 : w8.cell? ⟨b0, off + k, none⟩ = some (.int .i32 x) := cell_later hB8 p7; have HB8 := Lib.hid (HB7.out.trans (hB8.mono HB7.out.size)); clear hB8)
            | fail)
        all_goals go_wp2_with fail
        all_goals go_roundw
        case rel => exact ⟨k + 1, by omega, by go_num, HB8.out⟩
        case measure => simp [intOf] <;> omega
      · have q2 : decide ((k : Int) < 60) = false := by rw [decide_eq_false_iff_not]; omega
        clear h60
        go_wp2_with fail
        refine (fin04 (below_trans' HB2.out HB.out)).mono ?_
        rintro e w9 ⟨rfl, hB9⟩
        go_wp2_with fail
        go_ret
        exact ⟨rfl, hB9⟩
    · have hke : k = l.length := by omega
      subst hke
      clear hlt hk
      go_wp2_with fail
      refine (fin04 (below_trans' HB2.out HB.out)).mono ?_
      rintro e w9 ⟨rfl, hB9⟩
      go_wp2_with fail
      go_ret
      exact ⟨rfl, hB9⟩
end Go.Proofs.Ytamgngkiegbglaa

/- UcdNone: its walk; UcdRows: its walk. -/
namespace Go.Proofs.Ytamgngkiegbglaa
open Go.RowKit

set_option maxRecDepth 100000 in
theorem pair_nil (r : Int) (w : World) : Calls Try.prog 20 #[.pointer none, .int .i32 r] w fun e w' => e = .returned (.tuple #[.int .i32 0, .int .i32 0, .bool false]) ∧ w = w' := by
  go_enter Try.func20, Try.ntmps20
  go_wp2_with fail
  go_ret3
  exact ⟨rfl, rfl⟩
set_option maxRecDepth 100000 in
theorem compose_nil (r q : Int) (w : World) : Calls Try.prog 17 #[.pointer none, .int .i32 r, .int .i32 q] w fun e w' => e = .returned (.tuple #[.int .i32 0, .bool false]) ∧ w = w' := by
  go_enter Try.func17, Try.ntmps17
  go_wp2_with fail
  go_ret2
  exact ⟨rfl, rfl⟩
set_option maxRecDepth 100000 in
theorem class_nil (r : Int) (w : World) : Calls Try.prog 26 #[.pointer none, .int .i32 r] w fun e w' => e = .returned (.int .i64 0) ∧ w = w' := by
  go_enter Try.func26, Try.ntmps26
  go_wp2_with fail
  go_ret
  exact ⟨rfl, rfl⟩
set_option maxRecDepth 100000 in
theorem conj_nil (r : Int) (w : World) : Calls Try.prog 30 #[.pointer none, .int .i32 r] w fun e w' => e = .returned (.int .i64 0) ∧ w = w' := by
  go_enter Try.func30, Try.ntmps30
  go_wp2_with fail
  go_ret
  exact ⟨rfl, rfl⟩
set_option maxRecDepth 100000 in
theorem pict_nil (r : Int) (w : World) : Calls Try.prog 32 #[.pointer none, .int .i32 r] w fun e w' => e = .returned (.bool false) ∧ w = w' := by
  go_enter Try.func32, Try.ntmps32
  go_wp2_with fail
  go_ret
  exact ⟨rfl, rfl⟩
set_option maxRecDepth 100000 in
theorem wide_nil (r : Int) (w : World) : Calls Try.prog 33 #[.pointer none, .int .i32 r] w fun e w' => e = .returned (.bool false) ∧ w = w' := by
  go_enter Try.func33, Try.ntmps33
  go_wp2_with fail
  go_ret
  exact ⟨rfl, rfl⟩
set_option maxRecDepth 100000 in
theorem letter_nil (r : Int) (w : World) : Calls Try.prog 34 #[.pointer none, .int .i32 r] w fun e w' => e = .returned (.bool false) ∧ w = w' := by
  go_enter Try.func34, Try.ntmps34
  go_wp2_with fail
  go_ret
  exact ⟨rfl, rfl⟩
set_option maxRecDepth 100000 in
theorem second_nil (r : Int) (w : World) : Calls Try.prog 24 #[.pointer none, .int .i32 r] w fun e w' => e = .returned (.bool false) ∧ w = w' := by
  go_enter Try.func24, Try.ntmps24
  go_wp2_with fail
  go_ret
  exact ⟨rfl, rfl⟩
set_option maxRecDepth 100000 in
theorem out_nil (r : Int) (w : World) : Calls Try.prog 21 #[.pointer none, .int .i32 r] w fun e w' => e = .returned (.bool false) ∧ w = w' := by
  go_enter Try.func21, Try.ntmps21
  go_wp2_with fail
  refine (pair_nil r w).mono ?_
  rintro e w' ⟨rfl, rfl⟩
  go_wp2_with fail
  go_ret
  exact ⟨rfl, rfl⟩
theorem ofA_nil (k r : Int) : ofA [] k r = 0 := by
  unfold ofA fnd
  split
  · rename_i h; split at h <;> cases h
  · rfl
set_option maxRecDepth 100000 in
theorem break_nil (r : Int) (w : World) (b1 : -2147483648 ≤ r) (b2 : r ≤ 2147483647) : Calls Try.prog 28 #[.pointer none, .int .i32 r] w fun e w' => e = .returned (.int .i64 (brkR [] r)) ∧ w = w' := by
  by_cases hr : 44032 ≤ r ∧ r ≤ 55203
  · have q1 : r ≥ 44032 := hr.1
    have q2 : r ≤ 55203 := hr.2
    have e3 := IntWalk.i32_in (r - 44032) (by omega)
    have e4 : (r - 44032).tmod 28 = (r - 44032) % 28 := Int.tmod_eq_emod_of_nonneg (by omega)
    by_cases hm : (r - 44032) % 28 = 0
    · have HV := Lib.hid (show brkR [] r = 12 by unfold brkR; rw [if_pos hr, if_pos hm])
      clear hr
      go_enter Try.func28, Try.ntmps28
      go_wp2_with fail
      go_ret
      exact ⟨by rw [HV.out]; rfl, rfl⟩
    · have HV := Lib.hid (show brkR [] r = 13 by unfold brkR; rw [if_pos hr, if_neg hm])
      clear hr
      go_enter Try.func28, Try.ntmps28
      go_wp2_with fail
      go_ret
      exact ⟨by rw [HV.out]; rfl, rfl⟩
  · have HV := Lib.hid (show brkR [] r = 0 by unfold brkR; rw [if_neg hr, ofA_nil])
    by_cases hlo : r < 44032
    · have q1 : decide (r ≥ 44032) = false := by rw [decide_eq_false_iff_not]; omega
      clear hr hlo
      go_enter Try.func28, Try.ntmps28
      go_wp2_with fail
      go_ret
      exact ⟨by rw [HV.out]; rfl, rfl⟩
    · have q1 : r ≥ 44032 := by omega
      have q2 : decide (r ≤ 55203) = false := by rw [decide_eq_false_iff_not]; omega
      clear hr hlo
      go_enter Try.func28, Try.ntmps28
      go_wp2_with fail
      go_ret
      exact ⟨by rw [HV.out]; rfl, rfl⟩

set_option maxRecDepth 100000 in
set_option maxHeartbeats 4000000 in
theorem ucdNone_any (r q : Int) (w : World) (hr : I32 r) (_ : I32 q) :
    Calls Try.prog 7 #[.int .i32 r, .int .i32 q] w fun e w' => e = .returned (.bool true) ∧ Below w.heap.size w w' := by
  have hBr := break_nil r w hr.1 hr.2
  have hRf := rbreak_any (.slice none 0 0) [] r w (Rd.nil _ _ _) hr.1 hr.2
  by_cases hs : r < 44032 ∨ 55203 < r
  · rw [show brkR [] r = 0 by unfold brkR; rw [if_neg (by omega), ofA_nil]] at hBr
    have HBr := Lib.hid hBr
    clear hBr hRf
    by_cases h1 : r < 44032
    · clear hs
      go_enter Try.func7, Try.ntmps7
      go_wp2_with fail
      refine (pair_nil r w).mono ?_
      rintro e w' ⟨rfl, rfl⟩
      go_wp2_with fail
      refine (compose_nil r q w).mono ?_
      rintro e w' ⟨rfl, rfl⟩
      go_wp2_with fail
      refine HBr.out.mono ?_
      rintro e w' ⟨rfl, rfl⟩
      go_wp2_with fail
      refine (class_nil r w).mono ?_
      rintro e w' ⟨rfl, rfl⟩
      go_wp2_with fail
      refine (conj_nil r w).mono ?_
      rintro e w' ⟨rfl, rfl⟩
      go_wp2_with fail
      refine (pict_nil r w).mono ?_
      rintro e w' ⟨rfl, rfl⟩
      go_wp2_with fail
      refine (wide_nil r w).mono ?_
      rintro e w' ⟨rfl, rfl⟩
      go_wp2_with fail
      refine (letter_nil r w).mono ?_
      rintro e w' ⟨rfl, rfl⟩
      go_wp2_with fail
      refine (out_nil r w).mono ?_
      rintro e w' ⟨rfl, rfl⟩
      go_wp2_with fail
      refine (second_nil r w).mono ?_
      rintro e w' ⟨rfl, rfl⟩
      go_wp2_with fail
      refine (fin04 (.refl _ w)).mono ?_
      rintro e w9 ⟨rfl, hB9⟩
      go_wp2_with fail
      go_ret
      exact ⟨rfl, hB9⟩
    · have q1 : decide (r < 44032) = false := decide_eq_false h1
      have q2 : r > 55203 := by omega
      clear hs h1
      go_enter Try.func7, Try.ntmps7
      go_wp2_with fail
      refine (pair_nil r w).mono ?_
      rintro e w' ⟨rfl, rfl⟩
      go_wp2_with fail
      refine (compose_nil r q w).mono ?_
      rintro e w' ⟨rfl, rfl⟩
      go_wp2_with fail
      refine HBr.out.mono ?_
      rintro e w' ⟨rfl, rfl⟩
      go_wp2_with fail
      refine (class_nil r w).mono ?_
      rintro e w' ⟨rfl, rfl⟩
      go_wp2_with fail
      refine (conj_nil r w).mono ?_
      rintro e w' ⟨rfl, rfl⟩
      go_wp2_with fail
      refine (pict_nil r w).mono ?_
      rintro e w' ⟨rfl, rfl⟩
      go_wp2_with fail
      refine (wide_nil r w).mono ?_
      rintro e w' ⟨rfl, rfl⟩
      go_wp2_with fail
      refine (letter_nil r w).mono ?_
      rintro e w' ⟨rfl, rfl⟩
      go_wp2_with fail
      refine (out_nil r w).mono ?_
      rintro e w' ⟨rfl, rfl⟩
      go_wp2_with fail
      refine (second_nil r w).mono ?_
      rintro e w' ⟨rfl, rfl⟩
      go_wp2_with fail
      refine (fin04 (.refl _ w)).mono ?_
      rintro e w9 ⟨rfl, hB9⟩
      go_wp2_with fail
      go_ret
      exact ⟨rfl, hB9⟩
  · have q1 : decide (r < 44032) = false := by rw [decide_eq_false_iff_not]; omega
    have q2 : decide (r > 55203) = false := by rw [decide_eq_false_iff_not]; omega
    generalize brkR [] r = n at hBr hRf
    have HBr := Lib.hid hBr
    have HRf := Lib.hid hRf
    clear hBr hRf hs
    go_enter Try.func7, Try.ntmps7
    go_wp2_with fail
    refine (pair_nil r w).mono ?_
    rintro e w' ⟨rfl, rfl⟩
    go_wp2_with fail
    refine (compose_nil r q w).mono ?_
    rintro e w' ⟨rfl, rfl⟩
    go_wp2_with fail
    refine HBr.out.mono ?_
    rintro e w' ⟨rfl, rfl⟩
    go_wp2_with fail
    refine HRf.out.mono ?_
    rintro e w' ⟨rfl, rfl⟩
    go_wp2_with fail
    refine (class_nil r w).mono ?_
    rintro e w' ⟨rfl, rfl⟩
    go_wp2_with fail
    refine (conj_nil r w).mono ?_
    rintro e w' ⟨rfl, rfl⟩
    go_wp2_with fail
    refine (pict_nil r w).mono ?_
    rintro e w' ⟨rfl, rfl⟩
    go_wp2_with fail
    refine (wide_nil r w).mono ?_
    rintro e w' ⟨rfl, rfl⟩
    go_wp2_with fail
    refine (letter_nil r w).mono ?_
    rintro e w' ⟨rfl, rfl⟩
    go_wp2_with fail
    refine (out_nil r w).mono ?_
    rintro e w' ⟨rfl, rfl⟩
    go_wp2_with fail
    refine (second_nil r w).mono ?_
    rintro e w' ⟨rfl, rfl⟩
    go_wp2_with fail
    refine (fin04 (.refl _ w)).mono ?_
    rintro e w9 ⟨rfl, hB9⟩
    go_wp2_with fail
    go_ret
    exact ⟨rfl, hB9⟩
end Go.Proofs.Ytamgngkiegbglaa

/- UcdRows: its walk. -/
namespace Go.Proofs.Ytamgngkiegbglaa
open Go.RowKit

theorem rows_take {w : World} {a : Option Addr} {cap : Nat} {R : List Rw} (h : RowsIn w (.slice a R.length cap) R) {k : Nat} (hk : k ≤ R.length) : RowsIn w (.slice a k cap) (R.take k) := by
  obtain ⟨a', cap', hv, h1, h2, h3, h4⟩ := h
  cases hv
  have hl : (R.take k).length = k := by rw [List.length_take]; omega
  refine ⟨a, cap, by rw [hl], by omega, h2, by rw [flat_len renc_len], fun hn => ?_⟩
  obtain ⟨b, off, e, hb, hq⟩ := h4 (by omega)
  refine ⟨b, off, e, hb, fun j u hu => hq j u ?_⟩
  obtain ⟨i, x, hx, m, hm, rfl, hu'⟩ := flat_index renc_len (R.take k) j u hu
  have hx' : R[i]? = some x := by
    rw [List.getElem?_take] at hx
    split at hx
    · exact hx
    · cases hx
  exact flat_get renc_len R i x m u hx' hu'
set_option maxRecDepth 100000 in
set_option maxHeartbeats 8000000 in
theorem ucdRows_any (v0 : Value) (R : List Rw) (r : Int) (w : World) (hR : RowsIn w v0 R) (hok : RowsOk R) (hr : I32 r) :
    Calls Try.prog 6 #[v0, .int .i32 r] w fun e w' => e = .returned (.bool true) ∧ Below w.heap.size w w' := by
  have HI := Lib.hid hr
  obtain ⟨sl0, cap0, hv0, hcap0, hmax0, _, hcells0⟩ := id hR
  subst hv0
  unfold maxLen at hmax0
  by_cases h30 : 30 < R.length
  · obtain ⟨b0, off0, rfl, _, _⟩ := hcells0 (by omega)
    obtain ⟨Q, hQ⟩ : ∃ Q, Q = R.take 30 := ⟨_, rfl⟩
    have HOk := Lib.hid (show RowsOk Q by rw [hQ]; exact fun x hx => hok x (List.mem_of_mem_take hx))
    have hql : Q.length = 30 := by rw [hQ, List.length_take]; omega
    have HQ := Lib.hid (show RowsIn w (.slice (some ⟨b0, off0, none⟩) 30 cap0) Q by rw [hQ]; exact rows_take hR (by omega))
    clear hQ hok hR hcells0 hr
    have q0 : (R.length : Int) > 30 := by omega
    have q1 : (30 : Int) ≤ (cap0 : Int) := by omega
    go_enter Try.func6, Try.ntmps6
    go_wp2_with fail
    clear q0 q1 h30 hcap0 hmax0
    obtain ⟨sl, cap, hv, hcap, hmax, _, _⟩ := HQ.out
    injection hv with e1 e2 e3
    subst e1
    subst e3
    clear e2
    unfold maxLen at hmax
    go_loopw [5] (fun iv wr => ∃ k : Nat, k ≤ 30 ∧ iv = .int .i64 ((k : Nat) : Int) ∧ Below w.heap.size w wr) (fun iv _ => 30 - (intOf iv).toNat)
    case atStart => exact ⟨0, Nat.zero_le _, rfl, .refl _ _⟩
    case round =>
      obtain ⟨k, hk, rfl, hB⟩ := hrel
      have HB := Lib.hid hB
      have HR := Lib.hid (HQ.out.below hB)
      clear hB
      by_cases hlt : k < 30
      · obtain ⟨x, hx⟩ : ∃ x, Q[k]? = some x := ⟨Q[k]'(by omega), List.getElem?_eq_getElem (by omega)⟩
        obtain ⟨b0, off, cap', hv, _, _, _, d0, d1, d2, d3, d4⟩ := rows_cells HR.out hx
        injection hv with e1 e2 e3
        cases e1
        cases e3
        clear e2
        have q1 : (0 : Int) ≤ (k : Int) := by omega
        have q2 : (k : Int) < 30 := by omega
        clear hx
        by_cases h1 : x.k = 2
        · have t1 : (x.k == 2) = true := by simpa using h1
          clear h1
          by_cases h2 : x.t = x.f
          · have t2 : (x.t != x.f) = false := by simpa using h2
            clear h2
            go_wp2_with fail
            go_quiet (fail)
            go_wp2_with fail
            go_roundw
            case rel => exact ⟨k + 1, by omega, by go_num, below_dN HB.out _⟩
            case measure => simp [intOf] <;> omega
          · have t2 : (x.t != x.f) = true := by simpa using h2
            clear h2
            go_wp2_with fail
            go_quiet (fail)
            go_wp2_with fail
            refine (fin04 (below_dN HB.out _)).mono ?_
            rintro e w9 ⟨rfl, hB9⟩
            go_wp2_with fail
            go_ret
            exact ⟨rfl, hB9⟩
        · have t1 : (x.k == 2) = false := by simpa using h1
          clear h1
          go_wp2_with fail
          go_quiet (fail)
          go_wp2_with fail
          go_roundw
          case rel => exact ⟨k + 1, by omega, by go_num, below_dN HB.out _⟩
          case measure => simp [intOf] <;> omega
      · have hke : k = 30 := by omega
        subst hke
        clear hlt hk
        go_wp2_with fail
        refine (build_tb _ Q wr HR.out HOk.out).mono ?_
        rintro e w2 ⟨tp, rfl, hB2, hT⟩
        have HT2 := Lib.hid hT
        have HR2 := Lib.hid (HR.out.below hB2)
        have HB2 := Lib.hid (HB.out.trans (hB2.mono HB.out.size))
        clear hB2 hT HR HB
        go_wp2_with fail
        refine (HT2.out.class r HI.out).mono ?_
        rintro e w3 ⟨rfl, hB3⟩
        have HT3 := Lib.hid (HT2.out.below hB3)
        have HR3 := Lib.hid (HR2.out.below hB3)
        have HB3 := Lib.hid (HB2.out.trans (hB3.mono HB2.out.size))
        clear hB3 HT2 HR2 HB2
        go_wp2_with fail
        refine (of_any _ Q 1 r _ HR3.out HI.out.1 HI.out.2).mono ?_
        rintro e w' ⟨rfl, rfl⟩
        go_wp2_with fail
        refine (HT3.out.break r HI.out).mono ?_
        rintro e w4 ⟨rfl, hB4⟩
        rw [show (tabOf Q).b r = brkR Q r from rfl]
        have HT4 := Lib.hid (HT3.out.below hB4)
        have HR4 := Lib.hid (HR3.out.below hB4)
        have HB4 := Lib.hid (HB3.out.trans (hB4.mono HB3.out.size))
        clear hB4 HT3 HR3 HB3
        go_wp2_with fail
        refine (rbreak_any _ Q r _ HR4.out HI.out.1 HI.out.2).mono ?_
        rintro e w' ⟨rfl, rfl⟩
        go_wp2_with fail
        refine (HT4.out.conj r HI.out).mono ?_
        rintro e w5 ⟨rfl, hB5⟩
        rw [show (tabOf Q).c r = conjR Q r from rfl]
        have HT5 := Lib.hid (HT4.out.below hB5)
        have HR5 := Lib.hid (HR4.out.below hB5)
        have HB5 := Lib.hid (HB4.out.trans (hB5.mono HB4.out.size))
        clear hB5 HT4 HR4 HB4
        go_wp2_with fail
        refine (rconj_any _ Q r _ HR5.out HI.out.1 HI.out.2).mono ?_
        rintro e w' ⟨rfl, rfl⟩
        go_wp2_with fail
        refine (HT5.out.pict r HI.out).mono ?_
        rintro e w6 ⟨rfl, hB6⟩
        rw [show (tabOf Q).p r = (ofA Q 5 r == 1) from rfl]
        have HT6 := Lib.hid (HT5.out.below hB6)
        have HR6 := Lib.hid (HR5.out.below hB6)
        have HB6 := Lib.hid (HB5.out.trans (hB6.mono HB5.out.size))
        clear hB6 HT5 HR5 HB5
        go_wp2_with fail
        refine (of_any _ Q 5 r _ HR6.out HI.out.1 HI.out.2).mono ?_
        rintro e w' ⟨rfl, rfl⟩
        go_wp2_with fail
        refine (HT6.out.wide r HI.out).mono ?_
        rintro e w7 ⟨rfl, hB7⟩
        rw [show decide (ofA Q 7 r = 1) = (ofA Q 7 r == 1) from rfl]
        have HT7 := Lib.hid (HT6.out.below hB7)
        have HR7 := Lib.hid (HR6.out.below hB7)
        have HB7 := Lib.hid (HB6.out.trans (hB7.mono HB6.out.size))
        clear hB7 HT6 HR6 HB6
        go_wp2_with fail
        refine (of_any _ Q 7 r _ HR7.out HI.out.1 HI.out.2).mono ?_
        rintro e w' ⟨rfl, rfl⟩
        go_wp2_with fail
        refine (HT7.out.letter r HI.out).mono ?_
        rintro e w8 ⟨rfl, hB8⟩
        rw [show decide (ofA Q 8 r = 1) = (ofA Q 8 r == 1) from rfl]
        have HT8 := Lib.hid (HT7.out.below hB8)
        have HR8 := Lib.hid (HR7.out.below hB8)
        have HB8 := Lib.hid (HB7.out.trans (hB8.mono HB7.out.size))
        clear hB8 HT7 HR7 HB7
        go_wp2_with fail
        refine (of_any _ Q 8 r _ HR8.out HI.out.1 HI.out.2).mono ?_
        rintro e w' ⟨rfl, rfl⟩
        go_wp2_with fail
        refine (fin04 HB8.out).mono ?_
        rintro e w9 ⟨rfl, hB9⟩
        go_wp2_with fail
        go_ret
        exact ⟨rfl, hB9⟩
  · obtain ⟨Q, hQ⟩ : ∃ Q, Q = R := ⟨_, rfl⟩
    subst hQ
    have HOk := Lib.hid hok
    have HQ := Lib.hid hR
    clear hok hR hcells0 hr
    have q0 : decide ((Q.length : Int) > 30) = false := by rw [decide_eq_false_iff_not]; omega
    go_enter Try.func6, Try.ntmps6
    go_wp2_with fail
    clear q0 h30 hcap0 hmax0
    obtain ⟨sl, cap, hv, hcap, hmax, _, _⟩ := HQ.out
    injection hv with e1 e2 e3
    subst e1
    subst e3
    clear e2
    unfold maxLen at hmax
    go_loopw [5] (fun iv wr => ∃ k : Nat, k ≤ Q.length ∧ iv = .int .i64 ((k : Nat) : Int) ∧ Below w.heap.size w wr) (fun iv _ => Q.length - (intOf iv).toNat)
    case atStart => exact ⟨0, Nat.zero_le _, rfl, .refl _ _⟩
    case round =>
      obtain ⟨k, hk, rfl, hB⟩ := hrel
      have HB := Lib.hid hB
      have HR := Lib.hid (HQ.out.below hB)
      clear hB
      by_cases hlt : k < Q.length
      · obtain ⟨x, hx⟩ : ∃ x, Q[k]? = some x := ⟨Q[k], List.getElem?_eq_getElem hlt⟩
        obtain ⟨b0, off, cap', hv, _, _, _, d0, d1, d2, d3, d4⟩ := rows_cells HR.out hx
        injection hv with e1 e2 e3
        cases e1
        cases e3
        clear e2
        have q1 : (0 : Int) ≤ (k : Int) := by omega
        have q2 : (k : Int) < (Q.length : Int) := by omega
        clear hx
        by_cases h1 : x.k = 2
        · have t1 : (x.k == 2) = true := by simpa using h1
          clear h1
          by_cases h2 : x.t = x.f
          · have t2 : (x.t != x.f) = false := by simpa using h2
            clear h2
            go_wp2_with fail
            go_quiet (fail)
            go_wp2_with fail
            go_roundw
            case rel => exact ⟨k + 1, by omega, by go_num, below_dN HB.out _⟩
            case measure => simp [intOf] <;> omega
          · have t2 : (x.t != x.f) = true := by simpa using h2
            clear h2
            go_wp2_with fail
            go_quiet (fail)
            go_wp2_with fail
            refine (fin04 (below_dN HB.out _)).mono ?_
            rintro e w9 ⟨rfl, hB9⟩
            go_wp2_with fail
            go_ret
            exact ⟨rfl, hB9⟩
        · have t1 : (x.k == 2) = false := by simpa using h1
          clear h1
          go_wp2_with fail
          go_quiet (fail)
          go_wp2_with fail
          go_roundw
          case rel => exact ⟨k + 1, by omega, by go_num, below_dN HB.out _⟩
          case measure => simp [intOf] <;> omega
      · have hke : k = Q.length := by omega
        subst hke
        clear hlt hk
        go_wp2_with fail
        refine (build_tb _ Q wr HR.out HOk.out).mono ?_
        rintro e w2 ⟨tp, rfl, hB2, hT⟩
        have HT2 := Lib.hid hT
        have HR2 := Lib.hid (HR.out.below hB2)
        have HB2 := Lib.hid (HB.out.trans (hB2.mono HB.out.size))
        clear hB2 hT HR HB
        go_wp2_with fail
        refine (HT2.out.class r HI.out).mono ?_
        rintro e w3 ⟨rfl, hB3⟩
        have HT3 := Lib.hid (HT2.out.below hB3)
        have HR3 := Lib.hid (HR2.out.below hB3)
        have HB3 := Lib.hid (HB2.out.trans (hB3.mono HB2.out.size))
        clear hB3 HT2 HR2 HB2
        go_wp2_with fail
        refine (of_any _ Q 1 r _ HR3.out HI.out.1 HI.out.2).mono ?_
        rintro e w' ⟨rfl, rfl⟩
        go_wp2_with fail
        refine (HT3.out.break r HI.out).mono ?_
        rintro e w4 ⟨rfl, hB4⟩
        rw [show (tabOf Q).b r = brkR Q r from rfl]
        have HT4 := Lib.hid (HT3.out.below hB4)
        have HR4 := Lib.hid (HR3.out.below hB4)
        have HB4 := Lib.hid (HB3.out.trans (hB4.mono HB3.out.size))
        clear hB4 HT3 HR3 HB3
        go_wp2_with fail
        refine (rbreak_any _ Q r _ HR4.out HI.out.1 HI.out.2).mono ?_
        rintro e w' ⟨rfl, rfl⟩
        go_wp2_with fail
        refine (HT4.out.conj r HI.out).mono ?_
        rintro e w5 ⟨rfl, hB5⟩
        rw [show (tabOf Q).c r = conjR Q r from rfl]
        have HT5 := Lib.hid (HT4.out.below hB5)
        have HR5 := Lib.hid (HR4.out.below hB5)
        have HB5 := Lib.hid (HB4.out.trans (hB5.mono HB4.out.size))
        clear hB5 HT4 HR4 HB4
        go_wp2_with fail
        refine (rconj_any _ Q r _ HR5.out HI.out.1 HI.out.2).mono ?_
        rintro e w' ⟨rfl, rfl⟩
        go_wp2_with fail
        refine (HT5.out.pict r HI.out).mono ?_
        rintro e w6 ⟨rfl, hB6⟩
        rw [show (tabOf Q).p r = (ofA Q 5 r == 1) from rfl]
        have HT6 := Lib.hid (HT5.out.below hB6)
        have HR6 := Lib.hid (HR5.out.below hB6)
        have HB6 := Lib.hid (HB5.out.trans (hB6.mono HB5.out.size))
        clear hB6 HT5 HR5 HB5
        go_wp2_with fail
        refine (of_any _ Q 5 r _ HR6.out HI.out.1 HI.out.2).mono ?_
        rintro e w' ⟨rfl, rfl⟩
        go_wp2_with fail
        refine (HT6.out.wide r HI.out).mono ?_
        rintro e w7 ⟨rfl, hB7⟩
        rw [show decide (ofA Q 7 r = 1) = (ofA Q 7 r == 1) from rfl]
        have HT7 := Lib.hid (HT6.out.below hB7)
        have HR7 := Lib.hid (HR6.out.below hB7)
        have HB7 := Lib.hid (HB6.out.trans (hB7.mono HB6.out.size))
        clear hB7 HT6 HR6 HB6
        go_wp2_with fail
        refine (of_any _ Q 7 r _ HR7.out HI.out.1 HI.out.2).mono ?_
        rintro e w' ⟨rfl, rfl⟩
        go_wp2_with fail
        refine (HT7.out.letter r HI.out).mono ?_
        rintro e w8 ⟨rfl, hB8⟩
        rw [show decide (ofA Q 8 r = 1) = (ofA Q 8 r == 1) from rfl]
        have HT8 := Lib.hid (HT7.out.below hB8)
        have HR8 := Lib.hid (HR7.out.below hB8)
        have HB8 := Lib.hid (HB7.out.trans (hB8.mono HB7.out.size))
        clear hB8 HT7 HR7 HB7
        go_wp2_with fail
        refine (of_any _ Q 8 r _ HR8.out HI.out.1 HI.out.2).mono ?_
        rintro e w' ⟨rfl, rfl⟩
        go_wp2_with fail
        refine (fin04 HB8.out).mono ?_
        rintro e w9 ⟨rfl, hB9⟩
        go_wp2_with fail
        go_ret
        exact ⟨rfl, hB9⟩
end Go.Proofs.Ytamgngkiegbglaa

/- Closed facts of this program that every law's last step asks; how its arguments are read. -/
namespace Go.Proofs.Ytamgngkiegbglaa
open Go.RowKit Go.ChangeShapes Go.WideShapes Go.ChangeAt

theorem Try.own0 : ownKnob Try.prog.godebug = none := by kernel_rfl
theorem Try.laidOut0 : laidOutB Try.prog = true := by kernel_rfl
theorem wf64 {n : Int} (h : (Lit.int .i64 n).wf = true) : -9223372036854775808 ≤ n ∧ n ≤ 9223372036854775807 := by
  simp only [Lit.wf, Bool.and_eq_true, decide_eq_true_eq] at h
  exact h
theorem i32_of_wf {n : Int} (h : (Lit.int .i32 n).wf = true) : I32 n := by
  simp only [Lit.wf, Bool.and_eq_true, decide_eq_true_eq] at h
  exact h
end Go.Proofs.Ytamgngkiegbglaa

/- How a row is read. -/
namespace Go.Proofs.Ytamgngkiegbglaa
open Go.RowKit Go.ChangeShapes Go.WideShapes Go.ChangeAt

set_option maxRecDepth 100000 in
theorem reads_row : Reads Try.prog 42 renc (fun x => (Lit.int .i64 x.a).wf = true ∧ (Lit.int .i64 x.b).wf = true) := by
  intro H enc0 w base spare held fuel cs x h
  obtain ⟨xs, n, _, _, hlen, hxl, hf⟩ := DataW.trod_struct Try.underlying42 h
  have hxl2 : xs.length = 5 := hxl
  have a0 := hf 0 _ rfl
  have a1 := hf 1 _ rfl
  have a2 := hf 2 _ rfl
  have a3 := hf 3 _ rfl
  have a4 := hf 4 _ rfl
  rw [List.getElem?_eq_getElem (by omega)] at a0 a1 a2 a3 a4
  obtain ⟨y0, e0, _⟩ := reads_int (k := .i64) Try.underlying3 _ _ _ _ _ _ _ _ _ a0
  obtain ⟨y1, e1, _⟩ := reads_int (k := .i64) Try.underlying3 _ _ _ _ _ _ _ _ _ a1
  obtain ⟨y2, e2, _⟩ := reads_int (k := .i64) Try.underlying3 _ _ _ _ _ _ _ _ _ a2
  obtain ⟨y3, e3, k3⟩ := reads_int (k := .i64) Try.underlying3 _ _ _ _ _ _ _ _ _ a3
  obtain ⟨y4, e4, k4⟩ := reads_int (k := .i64) Try.underlying3 _ _ _ _ _ _ _ _ _ a4
  have c3 : Try.prog.cellsOf 3 = 1 := by kernel_rfl
  have c58 : Try.prog.cellsOf 42 = 5 := by kernel_rfl
  have e0' : List.take (Try.prog.cellsOf 3) (List.drop 0 cs) = [.int .i64 y0] := e0
  have e1' : List.take (Try.prog.cellsOf 3) (List.drop 1 cs) = [.int .i64 y1] := e1
  have e2' : List.take (Try.prog.cellsOf 3) (List.drop 2 cs) = [.int .i64 y2] := e2
  have e3' : List.take (Try.prog.cellsOf 3) (List.drop 3 cs) = [.int .i64 y3] := e3
  have e4' : List.take (Try.prog.cellsOf 3) (List.drop 4 cs) = [.int .i64 y4] := e4
  rw [c3] at e0' e1' e2' e3' e4'
  rw [c58] at hlen
  refine ⟨⟨y0, y1, y2, y3, y4⟩, ?_, k3, k4⟩
  clear hf a0 a1 a2 a3 a4 e0 e1 e2 e3 e4 h
  match cs, hlen with
  | [b0, b1, b2, b3, b4], _ =>
    simp at e0' e1' e2' e3' e4'
    rw [e0', e1', e2', e3', e4']
    rfl
end Go.Proofs.Ytamgngkiegbglaa
