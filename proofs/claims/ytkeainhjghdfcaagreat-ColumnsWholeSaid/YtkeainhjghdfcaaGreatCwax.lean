/- Joined texts: TabD TabE RefU SegB SegC SegD OpenB. -/
import Derived.Deep.RegionHeld3
import Derived.Deep.DeepCutAuto
import Derived.Test.YtkeainhjghdfcaaGreatChecked
import Derived.Test.YtkeainhjghdfcaaGreatRows
import Derived.Test.YtkeainhjghdfcaaGreatCwaw
import Derived.Test.YtkeainhjghdfcaaGreatCwaa
import Derived.Test.YtkeainhjghdfcaaGreatCwab

/- Tables: what they tell of a scalar. -/
namespace Go.Proofs.YtkeainhjghdfcaaGreat
open Go.RowKit

section
variable {R : List Rw} {B : Nat} {w : World} {tp cb gb jb fb pb : Nat}
set_option maxRecDepth 100000 in
theorem pict_any (h : TabT R B w tp cb gb jb fb pb) (hB : B ≤ w.heap.size) (r : Int) (b1 : -2147483648 ≤ r) (b2 : r ≤ 2147483647) :
    Calls Tryz.prog 156 #[.pointer (some ⟨tp, 0, none⟩), .int .i32 r] w fun e w' => e = .returned (.bool (decide (ofA R 5 r = 1))) ∧ Below w.heap.size w w' := by
  have hc := h.c3
  have HT := Lib.hid h.t3
  have e1 := IntWalk.i64_in r (by omega)
  have HF := Lib.hid (show (flgR R r).pict = decide (ofA R 5 r = 1) from rfl)
  go_enter Tryz.func156, Tryz.ntmps156
  go_wp2_with fail
  refine (get_flags (flgR R) B fb r w HT.out hB).mono ?_
  rintro e w' ⟨rfl, hB1⟩
  rw [flgR_get]
  have HB1 := Lib.hid hB1
  clear hB1
  generalize flgR R r = fl at HF ⊢
  unfold aggF
  go_wp2_with fail
  refine upon_run (run_field1 w' Tryz.underlying194 rfl Tryz.isAgg4 rfl) ?_
  go_wp2_with fail
  go_ret
  exact ⟨ret_b (by rw [← HF.out]), HB1.out⟩
set_option maxRecDepth 100000 in
theorem wide_any (h : TabT R B w tp cb gb jb fb pb) (hB : B ≤ w.heap.size) (r : Int) (b1 : -2147483648 ≤ r) (b2 : r ≤ 2147483647) :
    Calls Tryz.prog 183 #[.pointer (some ⟨tp, 0, none⟩), .int .i32 r] w fun e w' => e = .returned (.bool (decide (ofA R 7 r = 1))) ∧ Below w.heap.size w w' := by
  have hc := h.c3
  have HT := Lib.hid h.t3
  have e1 := IntWalk.i64_in r (by omega)
  have HF := Lib.hid (show (flgR R r).wide = decide (ofA R 7 r = 1) from rfl)
  go_enter Tryz.func183, Tryz.ntmps183
  go_wp2_with fail
  refine (get_flags (flgR R) B fb r w HT.out hB).mono ?_
  rintro e w' ⟨rfl, hB1⟩
  rw [flgR_get]
  have HB1 := Lib.hid hB1
  clear hB1
  generalize flgR R r = fl at HF ⊢
  unfold aggF
  go_wp2_with fail
  refine upon_run (run_field1 w' Tryz.underlying194 rfl Tryz.isAgg4 rfl) ?_
  go_wp2_with fail
  go_ret
  exact ⟨ret_b (by rw [← HF.out]), HB1.out⟩
set_option maxRecDepth 100000 in
theorem break_any (h : TabT R B w tp cb gb jb fb pb) (r : Int) (b1 : -2147483648 ≤ r) (b2 : r ≤ 2147483647) :
    Calls Tryz.prog 151 #[.pointer (some ⟨tp, 0, none⟩), .int .i32 r] w fun e w' => e = .returned (.int .i64 (brkR R r)) ∧ Below w.heap.size w w' := by
  have hc := h.c1
  have HT := Lib.hid h.t1
  have e1 := IntWalk.i64_in r (by omega)
  by_cases hr : 44032 ≤ r ∧ r ≤ 55203
  · have q1 : r ≥ 44032 := hr.1
    have q2 : r ≤ 55203 := hr.2
    have e3 := IntWalk.i32_in (r - 44032) (by omega)
    have e4 : (r - 44032).tmod 28 = (r - 44032) % 28 := Int.tmod_eq_emod_of_nonneg (by omega)
    by_cases hm : (r - 44032) % 28 = 0
    · have HV := Lib.hid (show brkR R r = 12 by unfold brkR; rw [if_pos hr, if_pos hm])
      clear hr
      go_enter Tryz.func151, Tryz.ntmps151
      go_wp2_with fail
      go_ret
      exact ⟨by rw [HV.out]; rfl, .refl _ _⟩
    · have HV := Lib.hid (show brkR R r = 13 by unfold brkR; rw [if_pos hr, if_neg hm])
      clear hr
      go_enter Tryz.func151, Tryz.ntmps151
      go_wp2_with fail
      go_ret
      exact ⟨by rw [HV.out]; rfl, .refl _ _⟩
  · have HV := Lib.hid (show brkR R r = ofA R 4 r by unfold brkR; rw [if_neg hr])
    by_cases hlo : r < 44032
    · have q1 : decide (r ≥ 44032) = false := by rw [decide_eq_false_iff_not]; omega
      clear hr hlo
      go_enter Tryz.func151, Tryz.ntmps151
      go_wp2_with fail
      refine (get_int (ofA R 4) B gb r w HT.out).mono ?_
      rintro e w' ⟨rfl, n, rfl⟩
      rw [ofA_get]
      go_wp2_with fail
      go_ret
      exact ⟨by rw [HV.out]; rfl, below_dN (.refl _ _) n⟩
    · have q1 : r ≥ 44032 := by omega
      have q2 : decide (r ≤ 55203) = false := by rw [decide_eq_false_iff_not]; omega
      clear hr hlo
      go_enter Tryz.func151, Tryz.ntmps151
      go_wp2_with fail
      refine (get_int (ofA R 4) B gb r w HT.out).mono ?_
      rintro e w' ⟨rfl, n, rfl⟩
      rw [ofA_get]
      go_wp2_with fail
      go_ret
      exact ⟨by rw [HV.out]; rfl, below_dN (.refl _ _) n⟩
set_option maxRecDepth 100000 in
theorem conj_any (h : TabT R B w tp cb gb jb fb pb) (hB : B ≤ w.heap.size) (r : Int) (b1 : -2147483648 ≤ r) (b2 : r ≤ 2147483647) :
    Calls Tryz.prog 157 #[.pointer (some ⟨tp, 0, none⟩), .int .i32 r] w fun e w' => e = .returned (.int .i64 (conjR R r)) ∧ Below w.heap.size w w' := by
  have hc := h.c2
  have HT := Lib.hid h
  have e1 := IntWalk.i64_in r (by omega)
  go_enter Tryz.func157, Tryz.ntmps157
  go_wp2_with fail
  refine (get_int (ofA R 6) B jb r w HT.out.t2).mono ?_
  rintro e w1 ⟨rfl, n, rfl⟩
  rw [ofA_get]
  have hB1 : Below w.heap.size w (w.drewN n) := below_dN (.refl _ _) n
  have HB1 := Lib.hid hB1
  have HT1 := Lib.hid (HT.out.below hB1 hB)
  clear hB1
  generalize w.drewN n = w1 at HB1 HT1 ⊢
  by_cases hk : ofA R 6 r = 0
  · have HV := Lib.hid (show conjR R r = if (brkR R r = 4 ∨ brkR R r = 5) ∧ r ≠ 8204 then 3 else 0 by unfold conjR; rw [if_neg (by simp [hk])])
    go_wp2_with fail
    refine (break_any HT1.out r b1 b2).mono ?_
    rintro e w2 ⟨rfl, hB2⟩
    have HB2 := Lib.hid (below_trans' HB1.out hB2)
    clear hB2
    obtain ⟨x, hx⟩ : ∃ x, x = brkR R r := ⟨_, rfl⟩
    rw [← hx] at HV ⊢
    clear hx
    by_cases h4 : x = 4
    · by_cases hz : r = 8204
      · have e5 : (r == 8204) = true := by simpa using hz
        have HV2 := Lib.hid (show conjR R r = 0 by rw [HV.out, if_neg (by simp [hz])])
        clear hk
        go_wp2_with fail
        go_ret
        exact ⟨by rw [HV2.out]; rfl, HB2.out⟩
      · have e5 : (r == 8204) = false := by simpa using hz
        have HV2 := Lib.hid (show conjR R r = 3 by rw [HV.out, if_pos ⟨.inl h4, hz⟩])
        clear hk
        go_wp2_with fail
        go_ret
        exact ⟨by rw [HV2.out]; rfl, HB2.out⟩
    · have e4 : (x == 4) = false := by simpa using h4
      by_cases h5 : x = 5
      · by_cases hz : r = 8204
        · have e5 : (r == 8204) = true := by simpa using hz
          have HV2 := Lib.hid (show conjR R r = 0 by rw [HV.out, if_neg (by simp [hz])])
          clear hk
          go_wp2_with fail
          go_ret
          exact ⟨by rw [HV2.out]; rfl, HB2.out⟩
        · have e5 : (r == 8204) = false := by simpa using hz
          have HV2 := Lib.hid (show conjR R r = 3 by rw [HV.out, if_pos ⟨.inr h5, hz⟩])
          clear hk
          go_wp2_with fail
          go_ret
          exact ⟨by rw [HV2.out]; rfl, HB2.out⟩
      · have e5 : (x == 5) = false := by simpa using h5
        have HV2 := Lib.hid (show conjR R r = 0 by rw [HV.out, if_neg (by rintro ⟨h | h, _⟩; exact h4 h; exact h5 h)])
        clear hk
        go_wp2_with fail
        go_ret
        exact ⟨by rw [HV2.out]; rfl, HB2.out⟩
  · have HV := Lib.hid (show conjR R r = ofA R 6 r by unfold conjR; rw [if_pos hk])
    have e5 : (ofA R 6 r == 0) = false := by simpa using hk
    go_wp2_with fail
    go_ret
    exact ⟨by rw [HV.out]; rfl, HB1.out⟩
end
section
variable {R : List Rw} {cur : Int} {B : Nat} {w : World} {tp cb gb jb fb pb mb sb : Nat} {f : Pr → Option Int} {g : Int → Option Bool}
end
end Go.Proofs.YtkeainhjghdfcaaGreat

/- Tables of rows, as later layers use them: one fact of the world, and what each question answers. -/
namespace Go.Proofs.YtkeainhjghdfcaaGreat
open Go.RowKit

/-- tp points at the tables of R -/
def Tb (R : List Rw) (w : World) (tp : Nat) : Prop := ∃ B cb gb jb fb pb mb sb f g, TabW R 1114112 B w tp cb gb jb fb pb mb sb f g
theorem Tb.below {R : List Rw} {w w' : World} {tp : Nat} (h : Tb R w tp) (hb : Below w.heap.size w w') : Tb R w' tp :=
  let ⟨B, cb, gb, jb, fb, pb, mb, sb, f, g, h⟩ := h
  ⟨B, cb, gb, jb, fb, pb, mb, sb, f, g, h.below hb⟩
def I32 (r : Int) : Prop := -2147483648 ≤ r ∧ r ≤ 2147483647
/-- a slice of scalars reads as l -/
def runeE (n : Int) : List Value := [.int .i32 n]
theorem runeE_len (n : Int) : (runeE n).length = 1 := rfl
def RunesIn (w : World) (v : Value) (l : List Int) : Prop := Rs w.heap.size w runeE 1 v l
theorem RunesIn.below {w w' : World} {v : Value} {l : List Int} (h : RunesIn w v l) (hb : Below w.heap.size w w') : RunesIn w' v l := (Rd.below h hb (Nat.le_refl _)).mono hb.size
theorem RunesIn.drewN {w : World} {v : Value} {l : List Int} (h : RunesIn w v l) (n : Nat) : RunesIn (w.drewN n) v l := h
theorem runes_cells {w : World} {v : Value} {l : List Int} (h : RunesIn w v l) : ∃ a cap, v = .slice a l.length cap ∧ l.length ≤ cap ∧ cap ≤ maxLen ∧ (0 < l.length → ∃ b off, a = some ⟨b, off, none⟩ ∧ b < w.heap.size ∧ ∀ k x, l[k]? = some x → w.cell? ⟨b, off + k, none⟩ = some (.int .i32 x)) := by
  obtain ⟨a, cap, rfl, h1, h2, h3, h4⟩ := h
  refine ⟨a, cap, rfl, h1, h2, fun hn => ?_⟩
  obtain ⟨b, off, rfl, hb, hq⟩ := h4 hn
  refine ⟨b, off, rfl, hb, fun k x hx => ?_⟩
  have := flat_cell runeE_len hq hx 0 rfl
  simpa using this
theorem rune_cell {w : World} {v : Value} {l : List Int} (h : RunesIn w v l) {k : Nat} {x : Int} (hx : l[k]? = some x) : ∃ b off cap, v = .slice (some ⟨b, off, none⟩) l.length cap ∧ cap ≤ maxLen ∧ l.length ≤ cap ∧ k < l.length ∧ b < w.heap.size ∧ w.cell? ⟨b, off + k, none⟩ = some (.int .i32 x) := by
  have hk := (List.getElem?_eq_some_iff.1 hx).1
  obtain ⟨a, cap, rfl, h1, h2, h3⟩ := runes_cells h
  obtain ⟨b, off, rfl, hb, hq⟩ := h3 (by omega)
  exact ⟨b, off, cap, rfl, h2, h1, hk, hb, hq k x hx⟩
def RunesOk (l : List Int) : Prop := ∀ x ∈ l, I32 x
theorem RunesOk.get {l : List Int} (h : RunesOk l) {k : Nat} {x : Int} (hx : l[k]? = some x) : I32 x := h x (List.mem_of_getElem? hx)

section
variable {R : List Rw} {w : World} {tp : Nat}
theorem build_tb (v : Value) (R : List Rw) (w : World) (hR : RowsIn w v R) (hok : RowsOk R) : Calls Tryz.prog 19 #[v] w fun e w' => ∃ tp, e = .returned (.pointer (some ⟨tp, 0, none⟩)) ∧ Below w.heap.size w w' ∧ Tb R w' tp := by
  refine (build_any v R w hR hok).mono ?_
  rintro e w' ⟨tp, cb, gb, jb, fb, pb, mb, sb, f, g, rfl, hB, _, hT⟩
  exact ⟨tp, rfl, hB, _, cb, gb, jb, fb, pb, mb, sb, f, g, hT⟩
theorem Tb.pair (h : Tb R w tp) (r : Int) (hr : I32 r) : Calls Tryz.prog 118 #[.pointer (some ⟨tp, 0, none⟩), .int .i32 r] w fun e w' => e = .returned (.tuple #[.int .i32 (pairR R r).1, .int .i32 (pairR R r).2, .bool (pairOk R r)]) ∧ Below w.heap.size w w' :=
  let ⟨_, _, _, _, _, _, _, _, _, _, h⟩ := h
  pair_any h.t h.big r hr.1 hr.2
theorem Tb.pict (h : Tb R w tp) (r : Int) (hr : I32 r) : Calls Tryz.prog 156 #[.pointer (some ⟨tp, 0, none⟩), .int .i32 r] w fun e w' => e = .returned (.bool ((tabOf R).p r)) ∧ Below w.heap.size w w' :=
  let ⟨_, _, _, _, _, _, _, _, _, _, h⟩ := h
  pict_any h.t h.big r hr.1 hr.2
theorem Tb.wide (h : Tb R w tp) (r : Int) (hr : I32 r) : Calls Tryz.prog 183 #[.pointer (some ⟨tp, 0, none⟩), .int .i32 r] w fun e w' => e = .returned (.bool (decide (ofA R 7 r = 1))) ∧ Below w.heap.size w w' :=
  let ⟨_, _, _, _, _, _, _, _, _, _, h⟩ := h
  wide_any h.t h.big r hr.1 hr.2
theorem Tb.break (h : Tb R w tp) (r : Int) (hr : I32 r) : Calls Tryz.prog 151 #[.pointer (some ⟨tp, 0, none⟩), .int .i32 r] w fun e w' => e = .returned (.int .i64 ((tabOf R).b r)) ∧ Below w.heap.size w w' :=
  let ⟨_, _, _, _, _, _, _, _, _, _, h⟩ := h
  break_any h.t r hr.1 hr.2
theorem Tb.conj (h : Tb R w tp) (r : Int) (hr : I32 r) : Calls Tryz.prog 157 #[.pointer (some ⟨tp, 0, none⟩), .int .i32 r] w fun e w' => e = .returned (.int .i64 ((tabOf R).c r)) ∧ Below w.heap.size w w' :=
  let ⟨_, _, _, _, _, _, _, _, _, _, h⟩ := h
  conj_any h.t h.big r hr.1 hr.2
end
end Go.Proofs.YtkeainhjghdfcaaGreat

/- The document's answers: Break, Conj, Out. -/
namespace Go.Proofs.YtkeainhjghdfcaaGreat
open Go.RowKit

set_option maxRecDepth 100000 in
theorem rbreak_any (v : Value) (R : List Rw) (r : Int) (w : World) (hR : RowsIn w v R) (b1 : -2147483648 ≤ r) (b2 : r ≤ 2147483647) :
    Calls Tryz.prog 125 #[v, .int .i32 r] w fun e w' => e = .returned (.int .i64 (brkR R r)) ∧ w = w' := by
  by_cases hr : 44032 ≤ r ∧ r ≤ 55203
  · have q1 : r ≥ 44032 := hr.1
    have q2 : r ≤ 55203 := hr.2
    have e3 := IntWalk.i32_in (r - 44032) (by omega)
    have e4 : (r - 44032).tmod 28 = (r - 44032) % 28 := Int.tmod_eq_emod_of_nonneg (by omega)
    by_cases hm : (r - 44032) % 28 = 0
    · have HV := Lib.hid (show brkR R r = 12 by unfold brkR; rw [if_pos hr, if_pos hm])
      clear hr
      go_enter Tryz.func125, Tryz.ntmps125
      go_wp2_with fail
      go_ret
      exact ⟨by rw [HV.out]; rfl, rfl⟩
    · have HV := Lib.hid (show brkR R r = 13 by unfold brkR; rw [if_pos hr, if_neg hm])
      clear hr
      go_enter Tryz.func125, Tryz.ntmps125
      go_wp2_with fail
      go_ret
      exact ⟨by rw [HV.out]; rfl, rfl⟩
  · have HV := Lib.hid (show brkR R r = ofA R 4 r by unfold brkR; rw [if_neg hr])
    by_cases hlo : r < 44032
    · have q1 : decide (r ≥ 44032) = false := by rw [decide_eq_false_iff_not]; omega
      clear hr hlo
      go_enter Tryz.func125, Tryz.ntmps125
      go_wp2_with fail
      refine (of_any v R 4 r w hR b1 b2).mono ?_
      rintro e w' ⟨rfl, rfl⟩
      go_wp2_with fail
      go_ret
      exact ⟨by rw [HV.out]; rfl, rfl⟩
    · have q1 : r ≥ 44032 := by omega
      have q2 : decide (r ≤ 55203) = false := by rw [decide_eq_false_iff_not]; omega
      clear hr hlo
      go_enter Tryz.func125, Tryz.ntmps125
      go_wp2_with fail
      refine (of_any v R 4 r w hR b1 b2).mono ?_
      rintro e w' ⟨rfl, rfl⟩
      go_wp2_with fail
      go_ret
      exact ⟨by rw [HV.out]; rfl, rfl⟩
set_option maxRecDepth 100000 in
theorem rconj_any (v : Value) (R : List Rw) (r : Int) (w : World) (hR : RowsIn w v R) (b1 : -2147483648 ≤ r) (b2 : r ≤ 2147483647) :
    Calls Tryz.prog 172 #[v, .int .i32 r] w fun e w' => e = .returned (.int .i64 (conjR R r)) ∧ w = w' := by
  go_enter Tryz.func172, Tryz.ntmps172
  go_wp2_with fail
  refine (of_any v R 6 r w hR b1 b2).mono ?_
  rintro e w' ⟨rfl, rfl⟩
  by_cases hk : ofA R 6 r = 0
  · have HV := Lib.hid (show conjR R r = if (brkR R r = 4 ∨ brkR R r = 5) ∧ r ≠ 8204 then 3 else 0 by unfold conjR; rw [if_neg (by simp [hk])])
    go_wp2_with fail
    refine (rbreak_any v R r w hR b1 b2).mono ?_
    rintro e w' ⟨rfl, rfl⟩
    obtain ⟨x, hx⟩ : ∃ x, x = brkR R r := ⟨_, rfl⟩
    rw [← hx] at HV ⊢
    clear hx
    by_cases h4 : x = 4
    · by_cases hz : r = 8204
      · have e5 : (r == 8204) = true := by simpa using hz
        have HV2 := Lib.hid (show conjR R r = 0 by rw [HV.out, if_neg (by simp [hz])])
        clear hk
        go_wp2_with fail
        go_ret
        exact ⟨by rw [HV2.out]; rfl, rfl⟩
      · have e5 : (r == 8204) = false := by simpa using hz
        have HV2 := Lib.hid (show conjR R r = 3 by rw [HV.out, if_pos ⟨.inl h4, hz⟩])
        clear hk
        go_wp2_with fail
        go_ret
        exact ⟨by rw [HV2.out]; rfl, rfl⟩
    · have e4 : (x == 4) = false := by simpa using h4
      by_cases h5 : x = 5
      · by_cases hz : r = 8204
        · have e5 : (r == 8204) = true := by simpa using hz
          have HV2 := Lib.hid (show conjR R r = 0 by rw [HV.out, if_neg (by simp [hz])])
          clear hk
          go_wp2_with fail
          go_ret
          exact ⟨by rw [HV2.out]; rfl, rfl⟩
        · have e5 : (r == 8204) = false := by simpa using hz
          have HV2 := Lib.hid (show conjR R r = 3 by rw [HV.out, if_pos ⟨.inr h5, hz⟩])
          clear hk
          go_wp2_with fail
          go_ret
          exact ⟨by rw [HV2.out]; rfl, rfl⟩
      · have e5 : (x == 5) = false := by simpa using h5
        have HV2 := Lib.hid (show conjR R r = 0 by rw [HV.out, if_neg (by rintro ⟨h | h, _⟩; exact h4 h; exact h5 h)])
        clear hk
        go_wp2_with fail
        go_ret
        exact ⟨by rw [HV2.out]; rfl, rfl⟩
  · have HV := Lib.hid (show conjR R r = ofA R 6 r by unfold conjR; rw [if_pos hk])
    have e5 : (ofA R 6 r == 0) = false := by simpa using hk
    go_wp2_with fail
    go_ret
    exact ⟨by rw [HV.out]; rfl, rfl⟩
end Go.Proofs.YtkeainhjghdfcaaGreat

/- The document's rules of clusters: conjoined, pictured, flagged, Begins. -/
namespace Go.Proofs.YtkeainhjghdfcaaGreat
open Go.RowKit

theorem ret_i {a b : Int} (h : a = b) : Ending.returned (.int .i64 a) = .returned (.int .i64 b) := by rw [h]
section
variable {R : List Rw} {s : List Int} {w : World} {v sv : Value}
theorem rbrk_t (r : Int) (hR : RowsIn w v R) (hr : I32 r) : Calls Tryz.prog 125 #[v, .int .i32 r] w fun e w' => e = .returned (.int .i64 ((tabOf R).b r)) ∧ w = w' := rbreak_any v R r w hR hr.1 hr.2
theorem rcnj_t (r : Int) (hR : RowsIn w v R) (hr : I32 r) : Calls Tryz.prog 172 #[v, .int .i32 r] w fun e w' => e = .returned (.int .i64 ((tabOf R).c r)) ∧ w = w' := rconj_any v R r w hR hr.1 hr.2
theorem rof_t (k r : Int) (hR : RowsIn w v R) (hr : I32 r) : Calls Tryz.prog 142 #[v, .int .i64 k, .int .i32 r] w fun e w' => e = .returned (.int .i64 (ofA R k r)) ∧ w = w' := of_any v R k r w hR hr.1 hr.2

theorem take_rev_succ {j : Nat} {x : Int} (h : s[j]? = some x) : (s.take (j + 1)).reverse = x :: (s.take j).reverse := take_succ_rev h
set_option maxRecDepth 100000 in
set_option maxHeartbeats 2000000 in
theorem conjoined_any (i : Nat) (x : Int) (hR : RowsIn w v R) (hs : RunesIn w sv s) (ok : RunesOk s) (hx : s[i]? = some x) (_ : s.length ≤ 1000000) :
    Calls Tryz.prog 129 #[v, sv, .int .i64 i] w fun e w' => e = .returned (.bool (decide ((tabOf R).c x = 2) && conjBack (tabOf R) false (s.take i).reverse)) ∧ w = w' := by
  have HRh := Lib.hid hR
  have HOk := Lib.hid ok
  have HS := Lib.hid hs
  have hIx := ok.get hx
  obtain ⟨b, off, cap, hv, hc1, hc2, hi, hbl, d0⟩ := rune_cell hs hx
  subst hv
  unfold maxLen at hc1
  have q0 : (0 : Int) ≤ (i : Int) := by omega
  have q1 : (i : Int) < (s.length : Int) := by omega
  have q2 := IntWalk.i64_in ((i : Int) - 1) (by omega)
  clear hR ok hs
  generalize hT : (tabOf R).c x = cx
  by_cases h2 : cx = 2
  · have e2 : (cx != 2) = false := by simpa using h2
    have HC2 := Lib.hid h2
    have HTx := Lib.hid hT
    have HI := Lib.hid hIx
    clear h2 hT hIx
    go_enter Tryz.func129, Tryz.ntmps129
    go_wp2_with fail
    refine (rcnj_t x HRh.out HI.out).mono ?_
    rintro e w' ⟨rfl, rfl⟩
    rw [HTx.out]
    clear d0
    go_wp2_with fail
    go_loop [7, 8] (fun lv kv => ∃ (j : Nat) (lk : Bool) (m : Int), j ≤ i ∧ kv = .int .i64 m ∧ m = (j : Int) - 1 ∧ lv = .bool lk ∧ conjBack (tabOf R) lk (s.take j).reverse = conjBack (tabOf R) false (s.take i).reverse) (fun _ kv => (intOf kv + 1).toNat)
    case atStart => exact ⟨i, false, _, Nat.le_refl _, rfl, rfl, rfl, rfl⟩
    case round =>
      obtain ⟨j, lk, m, hj, rfl, hm, rfl, hE⟩ := hrel
      have HE := Lib.hid hE
      clear hE
      rcases j with _ | j
      · have hm' : m = -1 := by omega
        subst hm'
        have HV := Lib.hid (show conjBack (tabOf R) false (s.take i).reverse = false by rw [← HE.out]; rfl)
        clear hm
        go_wp2
        go_ret
        exact ⟨ret_b (by rw [HV.out]; simp [HC2.out]), rfl⟩
      · have hm' : m = (j : Int) := by omega
        subst hm'
        clear hm
        obtain ⟨y, hy⟩ : ∃ y, s[j]? = some y := ⟨s[j], List.getElem?_eq_getElem (by omega)⟩
        obtain ⟨b', off', cap', hv, _, _, _, _, d1⟩ := rune_cell HS.out hy
        cases hv
        have HIy := Lib.hid (HOk.out.get hy)
        have HD := Lib.hid (take_rev_succ hy)
        have k0 : (0 : Int) ≤ (j : Int) := by omega
        have k1 : (j : Int) < (s.length : Int) := by omega
        have k2 := IntWalk.i64_in ((j : Int) - 1) (by omega)
        have HS1 := Lib.hid (show conjBack (tabOf R) lk (s.take (j + 1)).reverse = if (tabOf R).c y = 2 then lk else if (tabOf R).c y = 0 then false else if (tabOf R).c y = 1 then conjBack (tabOf R) true (s.take j).reverse else conjBack (tabOf R) lk (s.take j).reverse by rw [HD.out]; rfl)
        clear hy
        go_wp2_with fail
        refine (rcnj_t y HRh.out HIy.out).mono ?_
        rintro e w' ⟨rfl, rfl⟩
        generalize (tabOf R).c y = cy at HS1 ⊢
        by_cases y2 : cy = 2
        · have e2 : (cy == 2) = true := by simpa using y2
          have HV := Lib.hid (show conjBack (tabOf R) false (s.take i).reverse = lk by rw [← HE.out, HS1.out, if_pos y2])
          clear y2
          go_wp2_with fail
          go_ret
          exact ⟨ret_b (by rw [HV.out]; simp [HC2.out]), rfl⟩
        · have e2 : (cy == 2) = false := by simpa using y2
          have Y2 := Lib.hid y2
          clear y2
          by_cases y0 : cy = 0
          · have e0 : (cy == 0) = true := by simpa using y0
            have HV := Lib.hid (show conjBack (tabOf R) false (s.take i).reverse = false by rw [← HE.out, HS1.out, if_neg Y2.out, if_pos y0])
            clear y0
            go_wp2_with fail
            go_ret
            exact ⟨ret_b (by rw [HV.out]; simp [HC2.out]), rfl⟩
          · have e0 : (cy == 0) = false := by simpa using y0
            have Y0 := Lib.hid y0
            clear y0
            by_cases y1 : cy = 1
            · have e1 : (cy == 1) = true := by simpa using y1
              have HV := Lib.hid (show conjBack (tabOf R) true (s.take j).reverse = conjBack (tabOf R) false (s.take i).reverse by rw [← HE.out, HS1.out, if_neg Y2.out, if_neg Y0.out, if_pos y1])
              clear y1
              go_wp2_with fail
              go_round
              case rel => exact ⟨j, true, _, by omega, rfl, rfl, rfl, HV.out⟩
              case measure => simp [intOf] <;> omega
            · have e1 : (cy == 1) = false := by simpa using y1
              have HV := Lib.hid (show conjBack (tabOf R) lk (s.take j).reverse = conjBack (tabOf R) false (s.take i).reverse by rw [← HE.out, HS1.out, if_neg Y2.out, if_neg Y0.out, if_neg y1])
              clear y1
              go_wp2_with fail
              go_round
              case rel => exact ⟨j, lk, _, by omega, rfl, rfl, rfl, HV.out⟩
              case measure => simp [intOf] <;> omega
  · have e2 : (cx != 2) = true := by simpa using h2
    have HC2 := Lib.hid h2
    have HTx := Lib.hid hT
    have HI := Lib.hid hIx
    clear h2 hT hIx
    go_enter Tryz.func129, Tryz.ntmps129
    go_wp2_with fail
    refine (rcnj_t x HRh.out HI.out).mono ?_
    rintro e w' ⟨rfl, rfl⟩
    rw [HTx.out]
    go_wp2_with fail
    go_ret
    exact ⟨ret_b (by rw [decide_eq_false HC2.out]; rfl), rfl⟩
set_option maxRecDepth 100000 in
set_option maxHeartbeats 2000000 in
theorem pictured_any (i : Nat) (x y : Int) (hR : RowsIn w v R) (hs : RunesIn w sv s) (ok : RunesOk s) (hx : s[i + 1]? = some x) (hy : s[i]? = some y) (_ : s.length ≤ 1000000) :
    Calls Tryz.prog 130 #[v, sv, .int .i64 (i + 1)] w fun e w' => e = .returned (.bool ((tabOf R).p x && (decide ((tabOf R).b y = 5) && pictBack (tabOf R) (s.take i).reverse))) ∧ w = w' := by
  have HRh := Lib.hid hR
  have HOk := Lib.hid ok
  have HS := Lib.hid hs
  have HIx := Lib.hid (ok.get hx)
  have HIy := Lib.hid (ok.get hy)
  obtain ⟨b, off, cap, hv, hc1, hc2, hi, hbl, d0⟩ := rune_cell hs hx
  subst hv
  obtain ⟨b', off', cap', hv, _, _, hi', _, d1⟩ := rune_cell hs hy
  cases hv
  unfold maxLen at hc1
  have q0 : (0 : Int) ≤ (i : Int) + 1 := by omega
  have q1 : (i : Int) + 1 < (s.length : Int) := by omega
  have q3 : (0 : Int) ≤ (i : Int) := by omega
  have q4 : (i : Int) < (s.length : Int) := by omega
  have q5 : (i : Int) + 1 - 2 = (i : Int) - 1 := by omega
  have q6 : (i : Int) + 1 - 1 = (i : Int) := by omega
  have q2 := IntWalk.i64_in ((i : Int) - 1) (by omega)
  clear hR ok hs hx hy
  have HPx := Lib.hid (show (tabOf R).p x = decide (ofA R 5 x = 1) from rfl)
  generalize (tabOf R).p x = px at HPx ⊢
  generalize hb5 : (tabOf R).b y = by5
  have HB5 := Lib.hid hb5
  clear hb5
  by_cases h1 : ofA R 5 x = 1
  · have e1 : (ofA R 5 x != 1) = false := by simpa using h1
    have HPT := Lib.hid (show px = true by rw [HPx.out, decide_eq_true h1])
    clear h1
    by_cases h5 : by5 = 5
    · have e5 : (by5 != 5) = false := by simpa using h5
      have HD5 := Lib.hid (decide_eq_true h5)
      clear h5
      go_enter Tryz.func130, Tryz.ntmps130
      go_wp2_with fail
      refine (rof_t 5 x HRh.out HIx.out).mono ?_
      rintro e w' ⟨rfl, rfl⟩
      go_wp2_with fail
      refine (rbrk_t y HRh.out HIy.out).mono ?_
      rintro e w' ⟨rfl, rfl⟩
      rw [HB5.out]
      clear d0 d1
      go_wp2_with fail
      go_loop [7] (fun kv => ∃ (j : Nat) (m : Int), j ≤ i ∧ kv = .int .i64 m ∧ m = (j : Int) - 1 ∧ pictBack (tabOf R) (s.take j).reverse = pictBack (tabOf R) (s.take i).reverse) (fun kv => (intOf kv + 1).toNat)
      case atStart => exact ⟨i, _, Nat.le_refl _, rfl, rfl, rfl⟩
      case round =>
        obtain ⟨j, m, hj, rfl, hm, hE⟩ := hrel
        have HE := Lib.hid hE
        clear hE
        rcases j with _ | j
        · have hm' : m = -1 := by omega
          subst hm'
          have HV := Lib.hid (show pictBack (tabOf R) (s.take i).reverse = false by rw [← HE.out]; rfl)
          clear hm
          go_wp2
          go_ret
          exact ⟨ret_b (by rw [HV.out]; simp), rfl⟩
        · have hm' : m = (j : Int) := by omega
          subst hm'
          clear hm
          obtain ⟨z, hz⟩ : ∃ y, s[j]? = some y := ⟨s[j], List.getElem?_eq_getElem (by omega)⟩
          obtain ⟨b', off', cap', hv, _, _, _, _, d2⟩ := rune_cell HS.out hz
          cases hv
          have HIz := Lib.hid (HOk.out.get hz)
          have HD := Lib.hid (take_rev_succ hz)
          have k0 : (0 : Int) ≤ (j : Int) := by omega
          have k1 : (j : Int) < (s.length : Int) := by omega
          have k2 := IntWalk.i64_in ((j : Int) - 1) (by omega)
          have HS1 := Lib.hid (show pictBack (tabOf R) (s.take (j + 1)).reverse = if (tabOf R).p z then true else if (tabOf R).b z ≠ 4 then false else pictBack (tabOf R) (s.take j).reverse by rw [HD.out]; rfl)
          have HPz := Lib.hid (show (tabOf R).p z = decide (ofA R 5 z = 1) from rfl)
          generalize hbz : (tabOf R).b z = bz at HS1
          have HBz := Lib.hid hbz
          clear hz hbz
          go_wp2_with fail
          refine (rof_t 5 z HRh.out HIz.out).mono ?_
          rintro e w' ⟨rfl, rfl⟩
          by_cases h1 : ofA R 5 z = 1
          · have e1' : (ofA R 5 z == 1) = true := by simpa using h1
            have HV := Lib.hid (show pictBack (tabOf R) (s.take i).reverse = true by rw [← HE.out, HS1.out, HPz.out, decide_eq_true h1]; rfl)
            clear h1
            go_wp2_with fail
            go_ret
            exact ⟨ret_b (by rw [HV.out, HPT.out, HD5.out]; rfl), rfl⟩
          · have e1' : (ofA R 5 z == 1) = false := by simpa using h1
            have HS2 := Lib.hid (show pictBack (tabOf R) (s.take i).reverse = if bz ≠ 4 then false else pictBack (tabOf R) (s.take j).reverse by rw [← HE.out, HS1.out, HPz.out, decide_eq_false h1]; rfl)
            clear h1
            go_wp2_with fail
            refine (rbrk_t z HRh.out HIz.out).mono ?_
            rintro e w' ⟨rfl, rfl⟩
            rw [HBz.out]
            by_cases h4 : bz = 4
            · have e4 : (bz != 4) = false := by simpa using h4
              have HV := Lib.hid (show pictBack (tabOf R) (s.take j).reverse = pictBack (tabOf R) (s.take i).reverse by rw [HS2.out, if_neg (by simp [h4])])
              clear h4
              go_wp2_with fail
              go_round
              case rel => exact ⟨j, _, by omega, rfl, rfl, HV.out⟩
              case measure => simp [intOf] <;> omega
            · have e4 : (bz != 4) = true := by simpa using h4
              have HV := Lib.hid (show pictBack (tabOf R) (s.take i).reverse = false by rw [HS2.out, if_pos h4])
              clear h4
              go_wp2_with fail
              go_ret
              exact ⟨ret_b (by rw [HV.out]; simp), rfl⟩
    · have e5 : (by5 != 5) = true := by simpa using h5
      have HD5 := Lib.hid (decide_eq_false h5)
      clear h5
      go_enter Tryz.func130, Tryz.ntmps130
      go_wp2_with fail
      refine (rof_t 5 x HRh.out HIx.out).mono ?_
      rintro e w' ⟨rfl, rfl⟩
      go_wp2_with fail
      refine (rbrk_t y HRh.out HIy.out).mono ?_
      rintro e w' ⟨rfl, rfl⟩
      rw [HB5.out]
      go_wp2_with fail
      go_ret
      exact ⟨ret_b (by rw [HD5.out]; simp), rfl⟩
  · have e1 : (ofA R 5 x != 1) = true := by simpa using h1
    have HPT := Lib.hid (show px = false by rw [HPx.out, decide_eq_false h1])
    clear h1
    go_enter Tryz.func130, Tryz.ntmps130
    go_wp2_with fail
    refine (rof_t 5 x HRh.out HIx.out).mono ?_
    rintro e w' ⟨rfl, rfl⟩
    go_wp2_with fail
    go_ret
    exact ⟨ret_b (by rw [HPT.out]; simp), rfl⟩
set_option maxRecDepth 100000 in
set_option maxHeartbeats 2000000 in
theorem flagged_any (i : Nat) (x : Int) (hR : RowsIn w v R) (hs : RunesIn w sv s) (ok : RunesOk s) (hx : s[i]? = some x) (_ : s.length ≤ 1000000) :
    Calls Tryz.prog 131 #[v, sv, .int .i64 i] w fun e w' => e = .returned (.bool (decide ((tabOf R).b x = 6) && decide (flagBack (tabOf R) (s.take i).reverse % 2 = 1))) ∧ w = w' := by
  have HRh := Lib.hid hR
  have HOk := Lib.hid ok
  have HS := Lib.hid hs
  have HIx := Lib.hid (ok.get hx)
  obtain ⟨b, off, cap, hv, hc1, hc2, hi, hbl, d0⟩ := rune_cell hs hx
  subst hv
  unfold maxLen at hc1
  have q0 : (0 : Int) ≤ (i : Int) := by omega
  have q1 : (i : Int) < (s.length : Int) := by omega
  have q2 := IntWalk.i64_in ((i : Int) - 1) (by omega)
  clear hR ok hs hx
  generalize hT : (tabOf R).b x = bx
  have HTx := Lib.hid hT
  clear hT
  by_cases h2 : bx = 6
  · have e2 : (bx != 6) = false := by simpa using h2
    have HC2 := Lib.hid h2
    clear h2
    go_enter Tryz.func131, Tryz.ntmps131
    go_wp2_with fail
    refine (rbrk_t x HRh.out HIx.out).mono ?_
    rintro e w' ⟨rfl, rfl⟩
    rw [HTx.out]
    clear d0
    go_wp2_with fail
    go_loop [7, 8] (fun nv kv => ∃ (j n : Nat) (m : Int), j ≤ i ∧ n + j ≤ i ∧ kv = .int .i64 m ∧ m = (j : Int) - 1 ∧ nv = .int .i64 ((n : Nat) : Int) ∧ n + flagBack (tabOf R) (s.take j).reverse = flagBack (tabOf R) (s.take i).reverse) (fun _ kv => (intOf kv + 1).toNat)
    case atStart => exact ⟨i, 0, _, Nat.le_refl _, by omega, rfl, rfl, rfl, by omega⟩
    case round =>
      obtain ⟨j, n, m, hj, hn, rfl, hm, rfl, hE⟩ := hrel
      have HE := Lib.hid hE
      clear hE
      have r1 : (n : Int).tmod 2 = (n : Int) % 2 := Int.tmod_eq_emod_of_nonneg (by omega)
      have HFin : n = flagBack (tabOf R) (s.take i).reverse → ((n : Int) % 2 == 1) = decide (flagBack (tabOf R) (s.take i).reverse % 2 = 1) := fun h => by
        rw [← h]
        by_cases hp : n % 2 = 1
        · have : (n : Int) % 2 = 1 := by omega
          simp [hp, this]
        · have : ¬ (n : Int) % 2 = 1 := by omega
          simp [hp, this]
      have HFin := Lib.hid HFin
      rcases j with _ | j
      · have hm' : m = -1 := by omega
        subst hm'
        have HV := Lib.hid (HFin.out (by have := HE.out; simp only [List.take_zero, List.reverse_nil, flagBack] at this; omega))
        clear hm
        go_wp2
        go_ret
        exact ⟨ret_b (by rw [← HV.out, HC2.out]; simp), rfl⟩
      · have hm' : m = (j : Int) := by omega
        subst hm'
        clear hm
        obtain ⟨y, hy⟩ : ∃ y, s[j]? = some y := ⟨s[j], List.getElem?_eq_getElem (by omega)⟩
        obtain ⟨b', off', cap', hv, _, _, _, _, d1⟩ := rune_cell HS.out hy
        cases hv
        have HIy := Lib.hid (HOk.out.get hy)
        have HD := Lib.hid (take_rev_succ hy)
        have k0 : (0 : Int) ≤ (j : Int) := by omega
        have k1 : (j : Int) < (s.length : Int) := by omega
        have k2 := IntWalk.i64_in ((j : Int) - 1) (by omega)
        have HS1 := Lib.hid (show flagBack (tabOf R) (s.take (j + 1)).reverse = if (tabOf R).b y = 6 then flagBack (tabOf R) (s.take j).reverse + 1 else 0 by rw [HD.out]; rfl)
        clear hy
        go_wp2_with fail
        refine (rbrk_t y HRh.out HIy.out).mono ?_
        rintro e w' ⟨rfl, rfl⟩
        generalize (tabOf R).b y = cy at HS1 ⊢
        by_cases y2 : cy = 6
        · have e2 : (cy == 6) = true := by simpa using y2
          have HV := Lib.hid (show n + 1 + flagBack (tabOf R) (s.take j).reverse = flagBack (tabOf R) (s.take i).reverse by rw [← HE.out, HS1.out, if_pos y2]; omega)
          clear y2
          go_wp2_with fail
          go_round
          case rel => exact ⟨j, n + 1, _, by omega, by omega, rfl, rfl, by go_num, HV.out⟩
          case measure => simp [intOf] <;> omega
        · have e2 : (cy == 6) = false := by simpa using y2
          have HV := Lib.hid (HFin.out (by rw [← HE.out, HS1.out, if_neg y2]; omega))
          clear y2
          go_wp2_with fail
          go_ret
          exact ⟨ret_b (by rw [← HV.out, HC2.out]; simp), rfl⟩
  · have e2 : (bx != 6) = true := by simpa using h2
    have HC2 := Lib.hid h2
    clear h2
    go_enter Tryz.func131, Tryz.ntmps131
    go_wp2_with fail
    refine (rbrk_t x HRh.out HIx.out).mono ?_
    rintro e w' ⟨rfl, rfl⟩
    rw [HTx.out]
    go_wp2_with fail
    go_ret
    exact ⟨ret_b (by rw [decide_eq_false HC2.out]; rfl), rfl⟩
set_option maxRecDepth 100000 in
theorem hard_any (b : Int) (w : World) : Calls Tryz.prog 127 #[.int .i64 b] w fun e w' => e = .returned (.bool (hardB b)) ∧ w = w' := by
  have HV := Lib.hid (show hardB b = ((b == 3) || ((b == 1) || (b == 2))) by unfold hardB; rw [Bool.or_assoc]; rfl)
  by_cases b3 : b = 3
  · have e3 : (b == 3) = true := by simpa using b3
    clear b3
    go_enter Tryz.func127, Tryz.ntmps127
    go_wp2_with fail
    go_ret
    exact ⟨ret_b (by rw [HV.out, e3]; rfl), rfl⟩
  · have e3 : (b == 3) = false := by simpa using b3
    by_cases b1 : b = 1
    · have e1 : (b == 1) = true := by simpa using b1
      clear b3 b1
      go_enter Tryz.func127, Tryz.ntmps127
      go_wp2_with fail
      go_ret
      exact ⟨ret_b (by rw [HV.out, e1, e3]; rfl), rfl⟩
    · have e1 : (b == 1) = false := by simpa using b1
      clear b3 b1
      go_enter Tryz.func127, Tryz.ntmps127
      go_wp2_with fail
      go_ret
      exact ⟨ret_b (by rw [HV.out, e1, e3]; simp), rfl⟩
set_option maxRecDepth 100000 in
set_option maxHeartbeats 2000000 in
theorem hangul_any (a b : Int) (w : World) : Calls Tryz.prog 128 #[.int .i64 a, .int .i64 b] w fun e w' => e = .returned (.bool (hangulB a b)) ∧ w = w' := by
  by_cases a9 : a = 9
  · subst a9
    by_cases b9 : b = 9
    · subst b9
      have HV := Lib.hid (show hangulB 9 9 = true by unfold hangulB; simp [*])

      go_enter Tryz.func128, Tryz.ntmps128
      go_wp2_with fail
      go_ret
      exact ⟨ret_b (by first | (simp [HV.out]; done) | (rw [HV.out]; rfl)), rfl⟩
    have nb9 : (b == 9) = false := by simpa using b9
    by_cases b10 : b = 10
    · subst b10
      have HV := Lib.hid (show hangulB 9 10 = true by unfold hangulB; simp [*])

      go_enter Tryz.func128, Tryz.ntmps128
      go_wp2_with fail
      go_ret
      exact ⟨ret_b (by first | (simp [HV.out]; done) | (rw [HV.out]; rfl)), rfl⟩
    have nb10 : (b == 10) = false := by simpa using b10
    by_cases b12 : b = 12
    · subst b12
      have HV := Lib.hid (show hangulB 9 12 = true by unfold hangulB; simp [*])

      go_enter Tryz.func128, Tryz.ntmps128
      go_wp2_with fail
      go_ret
      exact ⟨ret_b (by first | (simp [HV.out]; done) | (rw [HV.out]; rfl)), rfl⟩
    have nb12 : (b == 12) = false := by simpa using b12
    by_cases b13 : b = 13
    · subst b13
      have HV := Lib.hid (show hangulB 9 13 = true by unfold hangulB; simp [*])

      go_enter Tryz.func128, Tryz.ntmps128
      go_wp2_with fail
      go_ret
      exact ⟨ret_b (by first | (simp [HV.out]; done) | (rw [HV.out]; rfl)), rfl⟩
    have nb13 : (b == 13) = false := by simpa using b13
    have HV := Lib.hid (show hangulB 9 b = false by unfold hangulB; simp [*])
    clear b9 b10 b12 b13
    go_enter Tryz.func128, Tryz.ntmps128
    go_wp2_with fail
    go_ret
    exact ⟨ret_b (by first | (simp [HV.out]; done) | (rw [HV.out]; rfl)), rfl⟩
  have na9 : (a == 9) = false := by simpa using a9
  by_cases a12 : a = 12
  · subst a12
    by_cases b10 : b = 10
    · subst b10
      have HV := Lib.hid (show hangulB 12 10 = true by unfold hangulB; simp [*])

      go_enter Tryz.func128, Tryz.ntmps128
      go_wp2_with fail
      go_ret
      exact ⟨ret_b (by first | (simp [HV.out]; done) | (rw [HV.out]; rfl)), rfl⟩
    have nb10 : (b == 10) = false := by simpa using b10
    by_cases b11 : b = 11
    · subst b11
      have HV := Lib.hid (show hangulB 12 11 = true by unfold hangulB; simp [*])

      go_enter Tryz.func128, Tryz.ntmps128
      go_wp2_with fail
      go_ret
      exact ⟨ret_b (by first | (simp [HV.out]; done) | (rw [HV.out]; rfl)), rfl⟩
    have nb11 : (b == 11) = false := by simpa using b11
    have HV := Lib.hid (show hangulB 12 b = false by unfold hangulB; simp [*])
    clear b10 b11
    go_enter Tryz.func128, Tryz.ntmps128
    go_wp2_with fail
    go_ret
    exact ⟨ret_b (by first | (simp [HV.out]; done) | (rw [HV.out]; rfl)), rfl⟩
  have na12 : (a == 12) = false := by simpa using a12
  by_cases a10 : a = 10
  · subst a10
    by_cases b10 : b = 10
    · subst b10
      have HV := Lib.hid (show hangulB 10 10 = true by unfold hangulB; simp [*])

      go_enter Tryz.func128, Tryz.ntmps128
      go_wp2_with fail
      go_ret
      exact ⟨ret_b (by first | (simp [HV.out]; done) | (rw [HV.out]; rfl)), rfl⟩
    have nb10 : (b == 10) = false := by simpa using b10
    by_cases b11 : b = 11
    · subst b11
      have HV := Lib.hid (show hangulB 10 11 = true by unfold hangulB; simp [*])

      go_enter Tryz.func128, Tryz.ntmps128
      go_wp2_with fail
      go_ret
      exact ⟨ret_b (by first | (simp [HV.out]; done) | (rw [HV.out]; rfl)), rfl⟩
    have nb11 : (b == 11) = false := by simpa using b11
    have HV := Lib.hid (show hangulB 10 b = false by unfold hangulB; simp [*])
    clear b10 b11
    go_enter Tryz.func128, Tryz.ntmps128
    go_wp2_with fail
    go_ret
    exact ⟨ret_b (by first | (simp [HV.out]; done) | (rw [HV.out]; rfl)), rfl⟩
  have na10 : (a == 10) = false := by simpa using a10
  by_cases a13 : a = 13
  · subst a13
    have HV := Lib.hid (show hangulB 13 b = decide (b = 11) by unfold hangulB; simp [*])

    go_enter Tryz.func128, Tryz.ntmps128
    go_wp2_with fail
    go_ret
    exact ⟨ret_b (by first | (simp [HV.out]; done) | (rw [HV.out]; rfl)), rfl⟩
  have na13 : (a == 13) = false := by simpa using a13
  by_cases a11 : a = 11
  · subst a11
    have HV := Lib.hid (show hangulB 11 b = decide (b = 11) by unfold hangulB; simp [*])

    go_enter Tryz.func128, Tryz.ntmps128
    go_wp2_with fail
    go_ret
    exact ⟨ret_b (by first | (simp [HV.out]; done) | (rw [HV.out]; rfl)), rfl⟩
  have na11 : (a == 11) = false := by simpa using a11
  have HV := Lib.hid (show hangulB a b = false by unfold hangulB; simp [*])
  clear a9 a12 a10 a13 a11
  go_enter Tryz.func128, Tryz.ntmps128
  go_wp2_with fail
  go_ret
  exact ⟨ret_b (by first | (simp [HV.out]; done) | (rw [HV.out]; rfl)), rfl⟩
end
end Go.Proofs.YtkeainhjghdfcaaGreat

/- The document's Begins, Starts, Next. -/
namespace Go.Proofs.YtkeainhjghdfcaaGreat
open Go.RowKit

section
variable {R : List Rw} {s : List Int} {w : World} {v sv : Value}
set_option maxRecDepth 100000 in
set_option maxHeartbeats 4000000 in
theorem begins_zero (hs : s ≠ []) : Calls Tryz.prog 85 #[v, sv, .int .i64 0] w fun e w' => e = .returned (.bool (begAt (tabOf R) s 0)) ∧ ∃ q, w' = w.drewN q := by
  have HV := Lib.hid (begAt_zero (tabOf R) hs)
  go_enter Tryz.func85, Tryz.ntmps85
  go_wp2_with fail
  go_ret
  exact ⟨ret_b HV.out.symm, 0, rfl⟩
set_option maxRecDepth 100000 in
set_option maxHeartbeats 4000000 in
theorem begins_succ (i : Nat) (hR : RowsIn w v R) (hs : RunesIn w sv s) (ok : RunesOk s) (hi : i + 1 < s.length) (_ : s.length ≤ 1000000) :
    Calls Tryz.prog 85 #[v, sv, .int .i64 (i + 1)] w fun e w' => e = .returned (.bool (begAt (tabOf R) s (i + 1))) ∧ ∃ q, w' = w.drewN q := by
  obtain ⟨x, hx⟩ : ∃ x, s[i + 1]? = some x := ⟨_, List.getElem?_eq_getElem hi⟩
  obtain ⟨y, hy⟩ : ∃ x, s[i]? = some x := ⟨_, List.getElem?_eq_getElem (by omega : i < s.length)⟩
  have HRh := Lib.hid hR
  have HIx := Lib.hid (ok.get hx)
  have HIy := Lib.hid (ok.get hy)
  have HCj := Lib.hid (fun n => show Calls Tryz.prog 129 #[v, sv, .int .i64 ((i : Int) + 1)] (w.drewN n) _ from conjoined_any (w := w.drewN n) (i + 1) x (hR.drewN n) (hs.drewN n) ok hx (by omega))
  have HPc := Lib.hid (fun n => pictured_any (w := w.drewN n) i x y (hR.drewN n) (hs.drewN n) ok hx hy (by omega))
  have HFg := Lib.hid (fun n => show Calls Tryz.prog 131 #[v, sv, .int .i64 ((i : Int) + 1)] (w.drewN n) _ from flagged_any (w := w.drewN n) (i + 1) x (hR.drewN n) (hs.drewN n) ok hx (by omega))
  have HV := Lib.hid (show begAt (tabOf R) s (i + 1) = begB (tabOf R) (s.take (i + 1)).reverse x by unfold begAt; rw [hx])
  obtain ⟨b, off, cap, hv, hc1, hc2, _, _, d0⟩ := rune_cell hs hx
  subst hv
  obtain ⟨b', off', cap', hv, _, _, _, _, d1⟩ := rune_cell hs hy
  cases hv
  unfold maxLen at hc1
  have HV2 := Lib.hid (show begB (tabOf R) (s.take (i + 1)).reverse x = if (tabOf R).b y = 1 ∧ (tabOf R).b x = 2 then false else if hardB ((tabOf R).b y) || hardB ((tabOf R).b x) then true
    else if hangulB ((tabOf R).b y) ((tabOf R).b x) || decide ((tabOf R).b x = 4) || decide ((tabOf R).b x = 5) || decide ((tabOf R).b x = 8) || decide ((tabOf R).b y = 7) then false
    else !(decide ((tabOf R).c x = 2) && conjBack (tabOf R) false (s.take (i + 1)).reverse) && !((tabOf R).p x && (decide ((tabOf R).b y = 5) && pictBack (tabOf R) (s.take i).reverse)) && !(decide ((tabOf R).b x = 6) && decide (flagBack (tabOf R) (s.take (i + 1)).reverse % 2 = 1)) by
    rw [take_succ_rev hy]; rfl)
  have q0 : (0 : Int) ≤ (i : Int) + 1 := by omega
  have q1 : (i : Int) + 1 < (s.length : Int) := by omega
  have q3 : (0 : Int) ≤ (i : Int) := by omega
  have q4 : (i : Int) < (s.length : Int) := by omega
  have q5 : ((i : Int) + 1 == 0) = false := by simp; omega
  have q6 : (i : Int) + 1 - 1 = (i : Int) := by omega
  have q7 := IntWalk.i64_in (i : Int) (by omega)
  clear hR hs ok hx hy hi
  have HB := Lib.hid (fun r (hr : I32 r) => rbrk_t (w := w.drewN 1) r (HRh.out.drewN 1) hr)
  go_enter Tryz.func85, Tryz.ntmps85
  go_wp2_with fail
  go_region_held3 (fun w' => w'.cell? ⟨b, off + i, none⟩ = some (.int .i32 y) ∧ w'.cell? ⟨b, off + (i + 1), none⟩ = some (.int .i32 x)) (first | exact ⟨d1, d0⟩ | go_keep)
    (first
      | (go_at_call 125; refine (HB.out _ (by first | exact HIy.out | exact HIx.out)).mono ?_; rintro e w' ⟨rfl, rfl⟩)
      | fail)
  generalize (tabOf R).b x = bx at HV2 HPc HFg ⊢
  generalize (tabOf R).b y = b_y at HV2 HPc ⊢
  generalize (decide ((tabOf R).c x = 2) && conjBack (tabOf R) false (s.take (i + 1)).reverse) = cj at HV2 HCj
  generalize ((tabOf R).p x && (decide (b_y = 5) && pictBack (tabOf R) (s.take i).reverse)) = pc at HV2 HPc
  generalize (decide (bx = 6) && decide (flagBack (tabOf R) (s.take (i + 1)).reverse % 2 = 1)) = fg at HV2 HFg
  clear d0 d1
  go_upto_region 4 with fail
  go_cut [29] (fun s29 wx => s29 = .bool (decide (b_y = 1) && decide (bx = 2)) ∧ wx = w.drewN 1)
  case first =>
    by_cases y1 : b_y = 1
    · have e1 : (b_y == 1) = true := by simpa using y1
      have Y1 := Lib.hid y1
      clear y1
      go_wp2_with fail
      go_meet
      exact ⟨by rw [decide_eq_true Y1.out]; rfl, rfl⟩
    · have e1 : (b_y == 1) = false := by simpa using y1
      have Y1 := Lib.hid y1
      clear y1
      go_wp2_with fail
      go_meet
      exact ⟨by rw [decide_eq_false Y1.out]; rfl, rfl⟩
  case rest =>
  obtain ⟨rfl, rfl⟩ := hcut
  have HV3 := Lib.hid (show begAt (tabOf R) s (i + 1) = if (decide (b_y = 1) && decide (bx = 2)) = true then false else if hardB b_y || hardB bx then true else if hangulB b_y bx || decide (bx = 4) || decide (bx = 5) || decide (bx = 8) || decide (b_y = 7) then false else !cj && !pc && !fg by
    rw [HV.out, HV2.out]
    by_cases h : b_y = 1 ∧ bx = 2
    · rw [if_pos h, if_pos (by simp [h.1, h.2])]
    · rw [if_neg h, show (decide (b_y = 1) && decide (bx = 2)) = false by simpa using h, if_neg Bool.false_ne_true])
  generalize (decide (b_y = 1) && decide (bx = 2)) = c1 at HV3 ⊢
  cases c1 with
  | true =>
    go_wp2_with fail
    go_ret
    exact ⟨ret_b (by rw [HV3.out]; rfl), 1, rfl⟩
  | false =>
    go_upto_region 6 with fail
    go_cut [35] (fun s35 wx => s35 = .bool (hardB b_y || hardB bx) ∧ wx = w.drewN 1)
    case first =>
      go_wp2_with fail
      refine (hard_any b_y _).mono ?_
      rintro e w' ⟨rfl, rfl⟩
      cases hh : hardB b_y with
      | true =>
        have HH := Lib.hid hh
        clear hh
        go_wp2_with fail
        go_meet
        exact ⟨by rw [HH.out]; rfl, rfl⟩
      | false =>
        have HH := Lib.hid hh
        clear hh
        go_wp2_with fail
        refine (hard_any bx _).mono ?_
        rintro e w' ⟨rfl, rfl⟩
        go_wp2_with fail
        go_meet
        exact ⟨by rw [HH.out]; rfl, rfl⟩
    case rest =>
    obtain ⟨rfl, rfl⟩ := hcut
    generalize (hardB b_y || hardB bx) = c2 at HV3 ⊢
    cases c2 with
    | true =>
      go_wp2_with fail
      go_ret
      exact ⟨ret_b (by rw [HV3.out]; rfl), 1, rfl⟩
    | false =>
      go_upto_region 8 with fail
      go_cut [54] (fun s54 wx => s54 = .bool (hangulB b_y bx || decide (bx = 4) || decide (bx = 5) || decide (bx = 8) || decide (b_y = 7)) ∧ wx = w.drewN 1)
      case first =>
        go_wp2_with fail
        refine (hangul_any b_y bx _).mono ?_
        rintro e w' ⟨rfl, rfl⟩
        cases hh : hangulB b_y bx with
        | true =>
          have HH := Lib.hid hh
          clear hh
          go_wp2_with fail
          go_meet
          exact ⟨by simp [HH.out], rfl⟩
        | false =>
          have HH := Lib.hid hh
          clear hh
          by_cases x4 : bx = 4
          · have e4 : (bx == 4) = true := by simpa using x4
            have X4 := Lib.hid x4
            clear x4
            go_wp2_with fail
            go_meet
            exact ⟨by simp [X4.out], rfl⟩
          · have e4 : (bx == 4) = false := by simpa using x4
            have X4 := Lib.hid x4
            clear x4
            by_cases x5 : bx = 5
            · have e5 : (bx == 5) = true := by simpa using x5
              have X5 := Lib.hid x5
              clear x5
              go_wp2_with fail
              go_meet
              exact ⟨by simp [X5.out], rfl⟩
            · have e5 : (bx == 5) = false := by simpa using x5
              have X5 := Lib.hid x5
              clear x5
              by_cases x8 : bx = 8
              · have e8 : (bx == 8) = true := by simpa using x8
                have X8 := Lib.hid x8
                clear x8
                go_wp2_with fail
                go_meet
                exact ⟨by simp [X8.out], rfl⟩
              · have e8 : (bx == 8) = false := by simpa using x8
                have X8 := Lib.hid x8
                clear x8
                go_wp2_with fail
                go_meet
                exact ⟨by simp [HH.out, X4.out, X5.out, X8.out, Bool.beq_eq_decide_eq], rfl⟩
      case rest =>
      obtain ⟨rfl, rfl⟩ := hcut
      generalize (hangulB b_y bx || decide (bx = 4) || decide (bx = 5) || decide (bx = 8) || decide (b_y = 7)) = c3 at HV3 ⊢
      cases c3 with
      | true =>
        go_wp2_with fail
        go_ret
        exact ⟨ret_b (by rw [HV3.out]; rfl), 1, rfl⟩
      | false =>
        go_wp2_with fail
        refine (HCj.out 1).mono ?_
        rintro e w' ⟨rfl, rfl⟩
        cases cj with
        | true =>
          go_wp2_with fail
          go_ret
          exact ⟨ret_b (by rw [HV3.out]; rfl), 1, rfl⟩
        | false =>
          go_wp2_with fail
          refine (HPc.out 1).mono ?_
          rintro e w' ⟨rfl, rfl⟩
          cases pc with
          | true =>
            go_wp2_with fail
            go_ret
            exact ⟨ret_b (by rw [HV3.out]; rfl), 1, rfl⟩
          | false =>
            go_wp2_with fail
            refine (HFg.out 1).mono ?_
            rintro e w' ⟨rfl, rfl⟩
            go_wp2_with fail
            go_ret
            exact ⟨ret_b (by rw [HV3.out]; rfl), 1, rfl⟩
theorem begins_any (i : Nat) (hR : RowsIn w v R) (hs : RunesIn w sv s) (ok : RunesOk s) (hi : i < s.length) (hl : s.length ≤ 1000000) :
    Calls Tryz.prog 85 #[v, sv, .int .i64 (i : Nat)] w fun e w' => e = .returned (.bool (begAt (tabOf R) s i)) ∧ ∃ q, w' = w.drewN q := by
  cases i with
  | zero => exact begins_zero (by intro h; rw [h] at hi; cases hi)
  | succ i => exact begins_succ i hR hs ok hi hl
end
end Go.Proofs.YtkeainhjghdfcaaGreat

/- The document's Starts, Next; lists of numbers compared. -/
namespace Go.Proofs.YtkeainhjghdfcaaGreat
open Go.RowKit

/-- a slice of numbers reads as l -/
def nE (n : Nat) : List Value := [.int .i64 ((n : Nat) : Int)]
def IntsIn (w : World) (v : Value) (l : List Nat) : Prop := Rs w.heap.size w nE 1 v l
theorem IntsIn.below {w w' : World} {v : Value} {l : List Nat} (h : IntsIn w v l) (hb : Below w.heap.size w w') : IntsIn w' v l := (Rd.below h hb (Nat.le_refl _)).mono hb.size
theorem IntsIn.drewN {w : World} {v : Value} {l : List Nat} (h : IntsIn w v l) (n : Nat) : IntsIn (w.drewN n) v l := h
theorem ints_of_owns {w : World} {base e : Nat} {v : Value} {l : List Nat} (h : w.ownsRow base e 1 v l.length (l.flatMap nE)) : IntsIn w v l := rd_of_owns h
theorem nE_one (k : Nat) : ∀ u ∈ nE k, u.oneCell' = true := by intro u hu; simp [nE] at hu; subst hu; rfl
theorem EI : ElemT Tryz.prog 75 3 1 8 := elemT_of (by kernel_rfl) (z := .int .i64 0) (by kernel_rfl) rfl (by decide) (by decide)
section
variable {R : List Rw} {s : List Int} {w : World} {v sv : Value}
set_option maxRecDepth 100000 in
set_option maxHeartbeats 4000000 in
theorem rnext_any (i : Nat) (hR : RowsIn w v R) (hs : RunesIn w sv s) (ok : RunesOk s) (hi : i < s.length) (hl : s.length ≤ 1000000) :
    Calls Tryz.prog 124 #[v, sv, .int .i64 (i : Nat)] w fun e w' => e = .returned (.int .i64 ((i + 1 + fnb (tabOf R) (s.take (i + 1)).reverse (s.drop (i + 1)) : Nat) : Int)) ∧ Below w.heap.size w w' := by
  have HR := Lib.hid hR
  have HS := Lib.hid hs
  have HOk := Lib.hid ok
  obtain ⟨sl, cap, rfl, hcap, hmax, _⟩ := runes_cells hs
  unfold maxLen at hmax
  have q0 := IntWalk.i64_in ((i : Int) + 1) (by omega)
  clear hR hs ok
  go_enter Tryz.func124, Tryz.ntmps124
  go_wp2_with fail
  go_loopw [7] (fun iv wr => ∃ k : Nat, i + 1 ≤ k ∧ k ≤ s.length ∧ iv = .int .i64 ((k : Nat) : Int) ∧ Below w.heap.size w wr ∧ k + fnb (tabOf R) (s.take k).reverse (s.drop k) = i + 1 + fnb (tabOf R) (s.take (i + 1)).reverse (s.drop (i + 1))) (fun iv _ => s.length - (intOf iv).toNat)
  case atStart => exact ⟨i + 1, Nat.le_refl _, hi, by go_num, .refl _ _, rfl⟩
  case round =>
    obtain ⟨k, hik, hk, rfl, hB, hE⟩ := hrel
    have HB := Lib.hid hB
    have HE := Lib.hid hE
    clear hB hE
    by_cases hlt : k < s.length
    · have hx : s[k]? = some s[k] := List.getElem?_eq_getElem hlt
      have HD := Lib.hid (show fnb (tabOf R) (s.take k).reverse (s.drop k) = if begAt (tabOf R) s k then 0 else fnb (tabOf R) (s.take (k + 1)).reverse (s.drop (k + 1)) + 1 by
        rw [drop_of_get hx, take_succ_rev hx]; unfold begAt; rw [hx]; rfl)
      have HCall := Lib.hid (begins_any k (HR.out.below HB.out) (HS.out.below HB.out) HOk.out hlt hl)
      clear hx
      go_wp2_with fail
      refine HCall.out.mono ?_
      rintro e w1 ⟨rfl, n1, rfl⟩
      cases hb : begAt (tabOf R) s k with
      | true =>
        have HN := Lib.hid (show i + 1 + fnb (tabOf R) (s.take (i + 1)).reverse (s.drop (i + 1)) = k by rw [← HE.out, HD.out, hb]; rfl)
        clear hb
        go_wp2_with fail
        go_ret
        exact ⟨by rw [HN.out]; rfl, below_dN HB.out n1⟩
      | false =>
        have HN := Lib.hid (show k + 1 + fnb (tabOf R) (s.take (k + 1)).reverse (s.drop (k + 1)) = i + 1 + fnb (tabOf R) (s.take (i + 1)).reverse (s.drop (i + 1)) by rw [← HE.out, HD.out, hb, if_neg Bool.false_ne_true]; omega)
        clear hb
        go_wp2_with fail
        go_roundw
        case rel => exact ⟨k + 1, by omega, by omega, by go_num, below_dN HB.out n1, HN.out⟩
        case measure => simp [intOf] <;> omega
    · have hke : k = s.length := by omega
      subst hke
      have HN := Lib.hid (show i + 1 + fnb (tabOf R) (s.take (i + 1)).reverse (s.drop (i + 1)) = s.length by rw [← HE.out, List.drop_length]; rfl)
      clear hlt hk
      go_wp2_with fail
      go_ret
      exact ⟨by rw [HN.out]; rfl, HB.out⟩
end
end Go.Proofs.YtkeainhjghdfcaaGreat

/- Closed facts of this program that every law's last step asks; how its arguments are read. -/
namespace Go.Proofs.YtkeainhjghdfcaaGreat
open Go.RowKit Go.ChangeShapes Go.WideShapes Go.ChangeAt

theorem Tryz.own0 : ownKnob Tryz.prog.godebug = none := by kernel_rfl
theorem Tryz.laidOut0 : laidOutB Tryz.prog = true := by kernel_rfl
theorem i32_of_wf {n : Int} (h : (Lit.int .i32 n).wf = true) : I32 n := by
  simp only [Lit.wf, Bool.and_eq_true, decide_eq_true_eq] at h
  exact h
end Go.Proofs.YtkeainhjghdfcaaGreat
