/- Joined texts: TabD TabE OpenB RefU. -/
import Derived.Test.YtkeainhjghdfcaaGreatChecked
import Derived.Test.YtkeainhjghdfcaaGreatRows
import Derived.Test.YtkeainhjghdfcaaGreatZaav
import Derived.Test.YtkeainhjghdfcaaGreatZaaa
/- Tables: what they tell of a scalar. -/
namespace Go.Proofs.YtkeainhjghdfcaaGreat
open Go.RowKit

section
variable {R : List Rw} {B : Nat} {w : World} {tp cb gb jb fb pb : Nat}
set_option maxRecDepth 100000 in
theorem pict_any (h : TabT R B w tp cb gb jb fb pb) (hB : B ≤ w.heap.size) (r : Int) (b1 : -2147483648 ≤ r) (b2 : r ≤ 2147483647) :
    Calls Tryz.prog 156 #[.pointer (some ⟨tp, 0, none⟩), .int .i32 r] w fun e w' => e = .returned (.bool (decide (ofA R 5 r = 1))) ∧ Below w.heap.size w w' := by
  have hc := h.c3
  have HT := Lib.hid h.t3
  have e1 := IntWalk.i64_in r (by omega)
  have HF := Lib.hid (show (flgR R r).pict = decide (ofA R 5 r = 1) from rfl)
  go_enter Tryz.func156, Tryz.ntmps156
  go_wp2_with fail
  refine (get_flags (flgR R) B fb r w HT.out hB).mono ?_
  rintro e w' ⟨rfl, hB1⟩
  rw [flgR_get]
  have HB1 := Lib.hid hB1
  clear hB1
  generalize flgR R r = fl at HF ⊢
  unfold aggF
  go_wp2_with fail
  refine upon_run (run_field1 w' Tryz.underlying194 rfl Tryz.isAgg4 rfl) ?_
  go_wp2_with fail
  go_ret
  exact ⟨ret_b (by rw [← HF.out]), HB1.out⟩
set_option maxRecDepth 100000 in
theorem wide_any (h : TabT R B w tp cb gb jb fb pb) (hB : B ≤ w.heap.size) (r : Int) (b1 : -2147483648 ≤ r) (b2 : r ≤ 2147483647) :
    Calls Tryz.prog 183 #[.pointer (some ⟨tp, 0, none⟩), .int .i32 r] w fun e w' => e = .returned (.bool (decide (ofA R 7 r = 1))) ∧ Below w.heap.size w w' := by
  have hc := h.c3
  have HT := Lib.hid h.t3
  have e1 := IntWalk.i64_in r (by omega)
  have HF := Lib.hid (show (flgR R r).wide = decide (ofA R 7 r = 1) from rfl)
  go_enter Tryz.func183, Tryz.ntmps183
  go_wp2_with fail
  refine (get_flags (flgR R) B fb r w HT.out hB).mono ?_
  rintro e w' ⟨rfl, hB1⟩
  rw [flgR_get]
  have HB1 := Lib.hid hB1
  clear hB1
  generalize flgR R r = fl at HF ⊢
  unfold aggF
  go_wp2_with fail
  refine upon_run (run_field1 w' Tryz.underlying194 rfl Tryz.isAgg4 rfl) ?_
  go_wp2_with fail
  go_ret
  exact ⟨ret_b (by rw [← HF.out]), HB1.out⟩
set_option maxRecDepth 100000 in
theorem break_any (h : TabT R B w tp cb gb jb fb pb) (r : Int) (b1 : -2147483648 ≤ r) (b2 : r ≤ 2147483647) :
    Calls Tryz.prog 151 #[.pointer (some ⟨tp, 0, none⟩), .int .i32 r] w fun e w' => e = .returned (.int .i64 (brkR R r)) ∧ Below w.heap.size w w' := by
  have hc := h.c1
  have HT := Lib.hid h.t1
  have e1 := IntWalk.i64_in r (by omega)
  by_cases hr : 44032 ≤ r ∧ r ≤ 55203
  · have q1 : r ≥ 44032 := hr.1
    have q2 : r ≤ 55203 := hr.2
    have e3 := IntWalk.i32_in (r - 44032) (by omega)
    have e4 : (r - 44032).tmod 28 = (r - 44032) % 28 := Int.tmod_eq_emod_of_nonneg (by omega)
    by_cases hm : (r - 44032) % 28 = 0
    · have HV := Lib.hid (show brkR R r = 12 by unfold brkR; rw [if_pos hr, if_pos hm])
      clear hr
      go_enter Tryz.func151, Tryz.ntmps151
      go_wp2_with fail
      go_ret
      exact ⟨by rw [HV.out]; rfl, .refl _ _⟩
    · have HV := Lib.hid (show brkR R r = 13 by unfold brkR; rw [if_pos hr, if_neg hm])
      clear hr
      go_enter Tryz.func151, Tryz.ntmps151
      go_wp2_with fail
      go_ret
      exact ⟨by rw [HV.out]; rfl, .refl _ _⟩
  · have HV := Lib.hid (show brkR R r = ofA R 4 r by unfold brkR; rw [if_neg hr])
    by_cases hlo : r < 44032
    · have q1 : decide (r ≥ 44032) = false := by rw [decide_eq_false_iff_not]; omega
      clear hr hlo
      go_enter Tryz.func151, Tryz.ntmps151
      go_wp2_with fail
      refine (get_int (ofA R 4) B gb r w HT.out).mono ?_
      rintro e w' ⟨rfl, n, rfl⟩
      rw [ofA_get]
      go_wp2_with fail
      go_ret
      exact ⟨by rw [HV.out]; rfl, below_dN (.refl _ _) n⟩
    · have q1 : r ≥ 44032 := by omega
      have q2 : decide (r ≤ 55203) = false := by rw [decide_eq_false_iff_not]; omega
      clear hr hlo
      go_enter Tryz.func151, Tryz.ntmps151
      go_wp2_with fail
      refine (get_int (ofA R 4) B gb r w HT.out).mono ?_
      rintro e w' ⟨rfl, n, rfl⟩
      rw [ofA_get]
      go_wp2_with fail
      go_ret
      exact ⟨by rw [HV.out]; rfl, below_dN (.refl _ _) n⟩
set_option maxRecDepth 100000 in
theorem conj_any (h : TabT R B w tp cb gb jb fb pb) (hB : B ≤ w.heap.size) (r : Int) (b1 : -2147483648 ≤ r) (b2 : r ≤ 2147483647) :
    Calls Tryz.prog 157 #[.pointer (some ⟨tp, 0, none⟩), .int .i32 r] w fun e w' => e = .returned (.int .i64 (conjR R r)) ∧ Below w.heap.size w w' := by
  have hc := h.c2
  have HT := Lib.hid h
  have e1 := IntWalk.i64_in r (by omega)
  go_enter Tryz.func157, Tryz.ntmps157
  go_wp2_with fail
  refine (get_int (ofA R 6) B jb r w HT.out.t2).mono ?_
  rintro e w1 ⟨rfl, n, rfl⟩
  rw [ofA_get]
  have hB1 : Below w.heap.size w (w.drewN n) := below_dN (.refl _ _) n
  have HB1 := Lib.hid hB1
  have HT1 := Lib.hid (HT.out.below hB1 hB)
  clear hB1
  generalize w.drewN n = w1 at HB1 HT1 ⊢
  by_cases hk : ofA R 6 r = 0
  · have HV := Lib.hid (show conjR R r = if (brkR R r = 4 ∨ brkR R r = 5) ∧ r ≠ 8204 then 3 else 0 by unfold conjR; rw [if_neg (by simp [hk])])
    go_wp2_with fail
    refine (break_any HT1.out r b1 b2).mono ?_
    rintro e w2 ⟨rfl, hB2⟩
    have HB2 := Lib.hid (below_trans' HB1.out hB2)
    clear hB2
    obtain ⟨x, hx⟩ : ∃ x, x = brkR R r := ⟨_, rfl⟩
    rw [← hx] at HV ⊢
    clear hx
    by_cases h4 : x = 4
    · by_cases hz : r = 8204
      · have e5 : (r == 8204) = true := by simpa using hz
        have HV2 := Lib.hid (show conjR R r = 0 by rw [HV.out, if_neg (by simp [hz])])
        clear hk
        go_wp2_with fail
        go_ret
        exact ⟨by rw [HV2.out]; rfl, HB2.out⟩
      · have e5 : (r == 8204) = false := by simpa using hz
        have HV2 := Lib.hid (show conjR R r = 3 by rw [HV.out, if_pos ⟨.inl h4, hz⟩])
        clear hk
        go_wp2_with fail
        go_ret
        exact ⟨by rw [HV2.out]; rfl, HB2.out⟩
    · have e4 : (x == 4) = false := by simpa using h4
      by_cases h5 : x = 5
      · by_cases hz : r = 8204
        · have e5 : (r == 8204) = true := by simpa using hz
          have HV2 := Lib.hid (show conjR R r = 0 by rw [HV.out, if_neg (by simp [hz])])
          clear hk
          go_wp2_with fail
          go_ret
          exact ⟨by rw [HV2.out]; rfl, HB2.out⟩
        · have e5 : (r == 8204) = false := by simpa using hz
          have HV2 := Lib.hid (show conjR R r = 3 by rw [HV.out, if_pos ⟨.inr h5, hz⟩])
          clear hk
          go_wp2_with fail
          go_ret
          exact ⟨by rw [HV2.out]; rfl, HB2.out⟩
      · have e5 : (x == 5) = false := by simpa using h5
        have HV2 := Lib.hid (show conjR R r = 0 by rw [HV.out, if_neg (by rintro ⟨h | h, _⟩; exact h4 h; exact h5 h)])
        clear hk
        go_wp2_with fail
        go_ret
        exact ⟨by rw [HV2.out]; rfl, HB2.out⟩
  · have HV := Lib.hid (show conjR R r = ofA R 6 r by unfold conjR; rw [if_pos hk])
    have e5 : (ofA R 6 r == 0) = false := by simpa using hk
    go_wp2_with fail
    go_ret
    exact ⟨by rw [HV.out]; rfl, HB1.out⟩
end
section
variable {R : List Rw} {cur : Int} {B : Nat} {w : World} {tp cb gb jb fb pb mb sb : Nat} {f : Pr → Option Int} {g : Int → Option Bool}
end
end Go.Proofs.YtkeainhjghdfcaaGreat

/- Tables of rows, as later layers use them: one fact of the world, and what each question answers. -/
namespace Go.Proofs.YtkeainhjghdfcaaGreat
open Go.RowKit

/-- tp points at the tables of R -/
def Tb (R : List Rw) (w : World) (tp : Nat) : Prop := ∃ B cb gb jb fb pb mb sb f g, TabW R 1114112 B w tp cb gb jb fb pb mb sb f g
theorem Tb.below {R : List Rw} {w w' : World} {tp : Nat} (h : Tb R w tp) (hb : Below w.heap.size w w') : Tb R w' tp :=
  let ⟨B, cb, gb, jb, fb, pb, mb, sb, f, g, h⟩ := h
  ⟨B, cb, gb, jb, fb, pb, mb, sb, f, g, h.below hb⟩
def I32 (r : Int) : Prop := -2147483648 ≤ r ∧ r ≤ 2147483647
/-- a slice of scalars reads as l -/
def runeE (n : Int) : List Value := [.int .i32 n]
theorem runeE_len (n : Int) : (runeE n).length = 1 := rfl
def RunesIn (w : World) (v : Value) (l : List Int) : Prop := Rs w.heap.size w runeE 1 v l
theorem RunesIn.below {w w' : World} {v : Value} {l : List Int} (h : RunesIn w v l) (hb : Below w.heap.size w w') : RunesIn w' v l := (Rd.below h hb (Nat.le_refl _)).mono hb.size
theorem RunesIn.drewN {w : World} {v : Value} {l : List Int} (h : RunesIn w v l) (n : Nat) : RunesIn (w.drewN n) v l := h
theorem runes_cells {w : World} {v : Value} {l : List Int} (h : RunesIn w v l) : ∃ a cap, v = .slice a l.length cap ∧ l.length ≤ cap ∧ cap ≤ maxLen ∧ (0 < l.length → ∃ b off, a = some ⟨b, off, none⟩ ∧ b < w.heap.size ∧ ∀ k x, l[k]? = some x → w.cell? ⟨b, off + k, none⟩ = some (.int .i32 x)) := by
  obtain ⟨a, cap, rfl, h1, h2, h3, h4⟩ := h
  refine ⟨a, cap, rfl, h1, h2, fun hn => ?_⟩
  obtain ⟨b, off, rfl, hb, hq⟩ := h4 hn
  refine ⟨b, off, rfl, hb, fun k x hx => ?_⟩
  have := flat_cell runeE_len hq hx 0 rfl
  simpa using this
theorem rune_cell {w : World} {v : Value} {l : List Int} (h : RunesIn w v l) {k : Nat} {x : Int} (hx : l[k]? = some x) : ∃ b off cap, v = .slice (some ⟨b, off, none⟩) l.length cap ∧ cap ≤ maxLen ∧ l.length ≤ cap ∧ k < l.length ∧ b < w.heap.size ∧ w.cell? ⟨b, off + k, none⟩ = some (.int .i32 x) := by
  have hk := (List.getElem?_eq_some_iff.1 hx).1
  obtain ⟨a, cap, rfl, h1, h2, h3⟩ := runes_cells h
  obtain ⟨b, off, rfl, hb, hq⟩ := h3 (by omega)
  exact ⟨b, off, cap, rfl, h2, h1, hk, hb, hq k x hx⟩
def RunesOk (l : List Int) : Prop := ∀ x ∈ l, I32 x
theorem RunesOk.get {l : List Int} (h : RunesOk l) {k : Nat} {x : Int} (hx : l[k]? = some x) : I32 x := h x (List.mem_of_getElem? hx)

section
variable {R : List Rw} {w : World} {tp : Nat}
theorem build_tb (v : Value) (R : List Rw) (w : World) (hR : RowsIn w v R) (hok : RowsOk R) : Calls Tryz.prog 19 #[v] w fun e w' => ∃ tp, e = .returned (.pointer (some ⟨tp, 0, none⟩)) ∧ Below w.heap.size w w' ∧ Tb R w' tp := by
  refine (build_any v R w hR hok).mono ?_
  rintro e w' ⟨tp, cb, gb, jb, fb, pb, mb, sb, f, g, rfl, hB, _, hT⟩
  exact ⟨tp, rfl, hB, _, cb, gb, jb, fb, pb, mb, sb, f, g, hT⟩
theorem Tb.class (h : Tb R w tp) (r : Int) (hr : I32 r) : Calls Tryz.prog 120 #[.pointer (some ⟨tp, 0, none⟩), .int .i32 r] w fun e w' => e = .returned (.int .i64 (ofA R 1 r)) ∧ Below w.heap.size w w' :=
  let ⟨_, _, _, _, _, _, _, _, _, _, h⟩ := h
  class_any h.t r hr.1 hr.2
theorem Tb.pair (h : Tb R w tp) (r : Int) (hr : I32 r) : Calls Tryz.prog 118 #[.pointer (some ⟨tp, 0, none⟩), .int .i32 r] w fun e w' => e = .returned (.tuple #[.int .i32 (pairR R r).1, .int .i32 (pairR R r).2, .bool (pairOk R r)]) ∧ Below w.heap.size w w' :=
  let ⟨_, _, _, _, _, _, _, _, _, _, h⟩ := h
  pair_any h.t h.big r hr.1 hr.2
theorem Tb.outs (h : Tb R w tp) (r : Int) (hr : I32 r) : Calls Tryz.prog 70 #[.pointer (some ⟨tp, 0, none⟩), .int .i32 r] w fun e w' => e = .returned (.bool (outT R r)) ∧ Below w.heap.size w w' :=
  let ⟨_, _, _, _, _, _, _, _, _, _, h⟩ := h
  out_any h.t h.big r hr.1 hr.2
theorem Tb.pict (h : Tb R w tp) (r : Int) (hr : I32 r) : Calls Tryz.prog 156 #[.pointer (some ⟨tp, 0, none⟩), .int .i32 r] w fun e w' => e = .returned (.bool ((tabOf R).p r)) ∧ Below w.heap.size w w' :=
  let ⟨_, _, _, _, _, _, _, _, _, _, h⟩ := h
  pict_any h.t h.big r hr.1 hr.2
theorem Tb.wide (h : Tb R w tp) (r : Int) (hr : I32 r) : Calls Tryz.prog 183 #[.pointer (some ⟨tp, 0, none⟩), .int .i32 r] w fun e w' => e = .returned (.bool (decide (ofA R 7 r = 1))) ∧ Below w.heap.size w w' :=
  let ⟨_, _, _, _, _, _, _, _, _, _, h⟩ := h
  wide_any h.t h.big r hr.1 hr.2
theorem Tb.break (h : Tb R w tp) (r : Int) (hr : I32 r) : Calls Tryz.prog 151 #[.pointer (some ⟨tp, 0, none⟩), .int .i32 r] w fun e w' => e = .returned (.int .i64 ((tabOf R).b r)) ∧ Below w.heap.size w w' :=
  let ⟨_, _, _, _, _, _, _, _, _, _, h⟩ := h
  break_any h.t r hr.1 hr.2
theorem Tb.conj (h : Tb R w tp) (r : Int) (hr : I32 r) : Calls Tryz.prog 157 #[.pointer (some ⟨tp, 0, none⟩), .int .i32 r] w fun e w' => e = .returned (.int .i64 ((tabOf R).c r)) ∧ Below w.heap.size w w' :=
  let ⟨_, _, _, _, _, _, _, _, _, _, h⟩ := h
  conj_any h.t h.big r hr.1 hr.2
end
end Go.Proofs.YtkeainhjghdfcaaGreat

/- Closed facts of this program that every law's last step asks; how its arguments are read. -/
namespace Go.Proofs.YtkeainhjghdfcaaGreat
open Go.RowKit Go.ChangeShapes Go.WideShapes Go.ChangeAt

theorem Tryz.own0 : ownKnob Tryz.prog.godebug = none := by kernel_rfl
theorem Tryz.laidOut0 : laidOutB Tryz.prog = true := by kernel_rfl
theorem wf64 {n : Int} (h : (Lit.int .i64 n).wf = true) : -9223372036854775808 ≤ n ∧ n ≤ 9223372036854775807 := by
  simp only [Lit.wf, Bool.and_eq_true, decide_eq_true_eq] at h
  exact h
theorem i32_of_wf {n : Int} (h : (Lit.int .i32 n).wf = true) : I32 n := by
  simp only [Lit.wf, Bool.and_eq_true, decide_eq_true_eq] at h
  exact h
end Go.Proofs.YtkeainhjghdfcaaGreat

/- The document's answers: Break, Conj, Out. -/
namespace Go.Proofs.YtkeainhjghdfcaaGreat
open Go.RowKit

set_option maxRecDepth 100000 in
theorem rbreak_any (v : Value) (R : List Rw) (r : Int) (w : World) (hR : RowsIn w v R) (b1 : -2147483648 ≤ r) (b2 : r ≤ 2147483647) :
    Calls Tryz.prog 125 #[v, .int .i32 r] w fun e w' => e = .returned (.int .i64 (brkR R r)) ∧ w = w' := by
  by_cases hr : 44032 ≤ r ∧ r ≤ 55203
  · have q1 : r ≥ 44032 := hr.1
    have q2 : r ≤ 55203 := hr.2
    have e3 := IntWalk.i32_in (r - 44032) (by omega)
    have e4 : (r - 44032).tmod 28 = (r - 44032) % 28 := Int.tmod_eq_emod_of_nonneg (by omega)
    by_cases hm : (r - 44032) % 28 = 0
    · have HV := Lib.hid (show brkR R r = 12 by unfold brkR; rw [if_pos hr, if_pos hm])
      clear hr
      go_enter Tryz.func125, Tryz.ntmps125
      go_wp2_with fail
      go_ret
      exact ⟨by rw [HV.out]; rfl, rfl⟩
    · have HV := Lib.hid (show brkR R r = 13 by unfold brkR; rw [if_pos hr, if_neg hm])
      clear hr
      go_enter Tryz.func125, Tryz.ntmps125
      go_wp2_with fail
      go_ret
      exact ⟨by rw [HV.out]; rfl, rfl⟩
  · have HV := Lib.hid (show brkR R r = ofA R 4 r by unfold brkR; rw [if_neg hr])
    by_cases hlo : r < 44032
    · have q1 : decide (r ≥ 44032) = false := by rw [decide_eq_false_iff_not]; omega
      clear hr hlo
      go_enter Tryz.func125, Tryz.ntmps125
      go_wp2_with fail
      refine (of_any v R 4 r w hR b1 b2).mono ?_
      rintro e w' ⟨rfl, rfl⟩
      go_wp2_with fail
      go_ret
      exact ⟨by rw [HV.out]; rfl, rfl⟩
    · have q1 : r ≥ 44032 := by omega
      have q2 : decide (r ≤ 55203) = false := by rw [decide_eq_false_iff_not]; omega
      clear hr hlo
      go_enter Tryz.func125, Tryz.ntmps125
      go_wp2_with fail
      refine (of_any v R 4 r w hR b1 b2).mono ?_
      rintro e w' ⟨rfl, rfl⟩
      go_wp2_with fail
      go_ret
      exact ⟨by rw [HV.out]; rfl, rfl⟩
set_option maxRecDepth 100000 in
theorem rconj_any (v : Value) (R : List Rw) (r : Int) (w : World) (hR : RowsIn w v R) (b1 : -2147483648 ≤ r) (b2 : r ≤ 2147483647) :
    Calls Tryz.prog 172 #[v, .int .i32 r] w fun e w' => e = .returned (.int .i64 (conjR R r)) ∧ w = w' := by
  go_enter Tryz.func172, Tryz.ntmps172
  go_wp2_with fail
  refine (of_any v R 6 r w hR b1 b2).mono ?_
  rintro e w' ⟨rfl, rfl⟩
  by_cases hk : ofA R 6 r = 0
  · have HV := Lib.hid (show conjR R r = if (brkR R r = 4 ∨ brkR R r = 5) ∧ r ≠ 8204 then 3 else 0 by unfold conjR; rw [if_neg (by simp [hk])])
    go_wp2_with fail
    refine (rbreak_any v R r w hR b1 b2).mono ?_
    rintro e w' ⟨rfl, rfl⟩
    obtain ⟨x, hx⟩ : ∃ x, x = brkR R r := ⟨_, rfl⟩
    rw [← hx] at HV ⊢
    clear hx
    by_cases h4 : x = 4
    · by_cases hz : r = 8204
      · have e5 : (r == 8204) = true := by simpa using hz
        have HV2 := Lib.hid (show conjR R r = 0 by rw [HV.out, if_neg (by simp [hz])])
        clear hk
        go_wp2_with fail
        go_ret
        exact ⟨by rw [HV2.out]; rfl, rfl⟩
      · have e5 : (r == 8204) = false := by simpa using hz
        have HV2 := Lib.hid (show conjR R r = 3 by rw [HV.out, if_pos ⟨.inl h4, hz⟩])
        clear hk
        go_wp2_with fail
        go_ret
        exact ⟨by rw [HV2.out]; rfl, rfl⟩
    · have e4 : (x == 4) = false := by simpa using h4
      by_cases h5 : x = 5
      · by_cases hz : r = 8204
        · have e5 : (r == 8204) = true := by simpa using hz
          have HV2 := Lib.hid (show conjR R r = 0 by rw [HV.out, if_neg (by simp [hz])])
          clear hk
          go_wp2_with fail
          go_ret
          exact ⟨by rw [HV2.out]; rfl, rfl⟩
        · have e5 : (r == 8204) = false := by simpa using hz
          have HV2 := Lib.hid (show conjR R r = 3 by rw [HV.out, if_pos ⟨.inr h5, hz⟩])
          clear hk
          go_wp2_with fail
          go_ret
          exact ⟨by rw [HV2.out]; rfl, rfl⟩
      · have e5 : (x == 5) = false := by simpa using h5
        have HV2 := Lib.hid (show conjR R r = 0 by rw [HV.out, if_neg (by rintro ⟨h | h, _⟩; exact h4 h; exact h5 h)])
        clear hk
        go_wp2_with fail
        go_ret
        exact ⟨by rw [HV2.out]; rfl, rfl⟩
  · have HV := Lib.hid (show conjR R r = ofA R 6 r by unfold conjR; rw [if_pos hk])
    have e5 : (ofA R 6 r == 0) = false := by simpa using hk
    go_wp2_with fail
    go_ret
    exact ⟨by rw [HV.out]; rfl, rfl⟩
/-- below a pair's own numbers -/
theorem pairA_rng (R : List Rw) (r : Int) : (-2147483648 ≤ (pairA R r).1 ∧ (pairA R r).1 ≤ 2147483647) ∧ (-2147483648 ≤ (pairA R r).2.1 ∧ (pairA R r).2.1 ≤ 2147483647) := by
  unfold pairA
  cases fnd R 2 r with
  | none => exact ⟨⟨by decide, by decide⟩, ⟨by decide, by decide⟩⟩
  | some x =>
    dsimp only
    split
    · exact ⟨⟨by decide, by decide⟩, ⟨by decide, by decide⟩⟩
    · exact ⟨wrap32_rng _, wrap32_rng _⟩
end Go.Proofs.YtkeainhjghdfcaaGreat
