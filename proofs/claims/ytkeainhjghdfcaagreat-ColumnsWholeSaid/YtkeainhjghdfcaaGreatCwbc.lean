/- Joined texts: ApiD. -/
import Derived.Test.YtkeainhjghdfcaaGreatCwbb
import Derived.Test.YtkeainhjghdfcaaGreatCwas
import Derived.Test.YtkeainhjghdfcaaGreatCwaa

/- The given rows: what is so of them. -/
namespace Go.Proofs.YtkeainhjghdfcaaGreat
open Go.RowKit

def sameRw (x y : Rw) : Bool := decide (x.k = y.k) && (decide (x.f = y.f) && (decide (x.t = y.t) && (decide (x.a = y.a) && decide (x.b = y.b))))
theorem sameRw_eq {x y : Rw} (h : sameRw x y = true) : x = y := by
  obtain ⟨a, b, c, d, e⟩ := x
  obtain ⟨a', b', c', d', e'⟩ := y
  simp only [sameRw, Bool.and_eq_true, decide_eq_true_eq] at h
  obtain ⟨rfl, rfl, rfl, rfl, rfl⟩ := h
  rfl
def okRw (x : Rw) : Bool := (Lit.int .i64 x.a).wf && (Lit.int .i64 x.b).wf
def prRw (R : List Rw) (x : Rw) : Bool := decide (x.k ≠ 2) || (decide (x.f = x.t) && (decide (0 ≤ x.f) && (decide (x.f ≤ 1114111) && (decide (1 ≤ x.a) && (decide (x.a ≤ 1114111) && (decide (0 ≤ x.b) && (decide (x.b ≤ 1114111) && match fnd R 2 x.f with
  | some y => sameRw y x
  | none => false)))))))
def oneRw (x : Rw) : Bool := decide (x.k ≠ 2) || (decide (x.a ≠ 101) || (decide (x.b ≠ 769) || decide (x.f = 233)))
def awakeR (R : List Rw) : Bool := decide (pairR R 233 = (101, 769)) && (!outT R 233 && (decide (ofA R 1 769 = 230) && outT R 8491))
/-- a row's numbers have no part in how scalars go with neighbours -/
def apartR (R : List Rw) (x : Rw) : Bool := (decide (x.t < 44032) || decide (55203 < x.f)) && R.all fun y => decide (y.k ≠ 4) || (decide (x.t < y.f) || decide (y.t < x.f))
def segRw (R : List Rw) (x : Rw) : Bool := (decide (x.k ≠ 5) || (decide (x.a ≠ 1) || apartR R x)) && (decide (x.k ≠ 6) || ((decide (x.a = 2) && apartR R x) || (decide (x.a = 1) && (decide (x.f = x.t) && decide (brkR R x.f = 4)))))
theorem apartR_brk {R : List Rw} {x : Rw} {r : Int} (h : apartR R x = true) (h1 : x.f ≤ r) (h2 : r ≤ x.t) : brkR R r = 0 := by
  simp only [apartR, Bool.and_eq_true, Bool.or_eq_true, decide_eq_true_eq] at h
  unfold brkR
  rw [if_neg (by omega)]
  unfold ofA
  cases hy : fnd R 4 r with
  | none => rfl
  | some y =>
    obtain ⟨m1, m2, m3, m4, _⟩ := fnd_mem hy
    have := List.all_eq_true.1 h.2 y m1
    simp only [Bool.or_eq_true, decide_eq_true_eq, ne_eq] at this
    omega
theorem tabOk_of {R : List Rw} (h : R.all (segRw R) = true) : (tabOf R).Ok := by
  refine ⟨fun r hr => ?_, fun r => ?_⟩
  · have h1 : ofA R 5 r = 1 := of_decide_eq_true hr
    unfold ofA at h1
    cases hx : fnd R 5 r with
    | none => rw [hx] at h1; cases h1
    | some x =>
      rw [hx] at h1
      dsimp only at h1
      obtain ⟨m1, m2, m3, m4, _⟩ := fnd_mem hx
      have := List.all_eq_true.1 h x m1
      simp only [segRw, Bool.and_eq_true, Bool.or_eq_true, decide_eq_true_eq, ne_eq] at this
      rcases this.1 with e | e | e
      · exact absurd m2 e
      · exact absurd h1 e
      · exact apartR_brk e m3 m4
  · show conjR R r = 0 ∨ (conjR R r = 1 ∧ brkR R r = 4) ∨ (conjR R r = 2 ∧ brkR R r = 0) ∨ (conjR R r = 3 ∧ (brkR R r = 4 ∨ brkR R r = 5))
    cases hx : fnd R 6 r with
    | none =>
      have e : ofA R 6 r = 0 := by unfold ofA; rw [hx]
      unfold conjR
      rw [e, if_neg (by decide)]
      by_cases hq : (brkR R r = 4 ∨ brkR R r = 5) ∧ r ≠ 8204
      · rw [if_pos hq]; exact .inr (.inr (.inr ⟨rfl, hq.1⟩))
      · rw [if_neg hq]; exact .inl rfl
    | some x =>
      have e : ofA R 6 r = x.a := by unfold ofA; rw [hx]
      obtain ⟨m1, m2, m3, m4, _⟩ := fnd_mem hx
      have := List.all_eq_true.1 h x m1
      simp only [segRw, Bool.and_eq_true, Bool.or_eq_true, decide_eq_true_eq, ne_eq] at this
      unfold conjR
      rw [e]
      rcases this.2 with q | ⟨q1, q2⟩ | ⟨q1, q2, q3⟩
      · exact absurd m2 q
      · rw [if_pos (by omega), q1]; exact .inr (.inr (.inl ⟨rfl, apartR_brk q2 m3 m4⟩))
      · have : r = x.f := by omega
        rw [if_pos (by omega), q1, this]; exact .inr (.inl ⟨rfl, q3⟩)
/-- chapter 10's and 11's examples -/
def segEx (R : List Rw) : Bool := decide (starts (tabOf R) [101, 769, 97] = [0, 2]) && (decide (starts (tabOf R) [127462, 127463, 127462] = [0, 2]) && (decide (starts (tabOf R) [128104, 8205, 128104] = [0]) && (decide (starts (tabOf R) [2325, 2381, 2325] = [0]) && decide (starts (tabOf R) [97, 127462, 127463, 127464] = [0, 1, 3]))))
structure SFacts (R : List Rw) : Prop where
  tab : (tabOf R).Ok
  ex1 : starts (tabOf R) [101, 769, 97] = [0, 2]
  ex2 : starts (tabOf R) [127462, 127463, 127462] = [0, 2]
  ex3 : starts (tabOf R) [128104, 8205, 128104] = [0]
  ex4 : starts (tabOf R) [2325, 2381, 2325] = [0]
  ex5 : starts (tabOf R) [97, 127462, 127463, 127464] = [0, 1, 3]
structure RFacts (R : List Rw) : Prop where
  ok : RowsOk R
  prs : ∀ x ∈ R, x.k = 2 → x.f = x.t ∧ 0 ≤ x.f ∧ x.f ≤ 1114111 ∧ 1 ≤ x.a ∧ x.a ≤ 1114111 ∧ 0 ≤ x.b ∧ x.b ≤ 1114111 ∧ fnd R 2 x.f = some x
  one : ∀ x ∈ R, x.k = 2 → x.a = 101 → x.b = 769 → x.f = 233
  p233 : pairR R 233 = (101, 769)
  o233 : outT R 233 = false
  c769 : ofA R 1 769 = 230
  o8491 : outT R 8491 = true
  seg : SFacts R
theorem rfacts_of {R : List Rw} (h1 : R.all okRw = true) (h2 : R.all (prRw R) = true) (h3 : R.all oneRw = true) (h4 : awakeR R = true) (h5 : R.all (segRw R) = true) (h6 : segEx R = true) : RFacts R := by
  simp only [awakeR, Bool.and_eq_true, decide_eq_true_eq, Bool.not_eq_true'] at h4
  obtain ⟨a1, a2, a3, a4⟩ := h4
  simp only [segEx, Bool.and_eq_true, decide_eq_true_eq] at h6
  obtain ⟨x1, x2, x3, x4, x5⟩ := h6
  refine ⟨fun x hx => ?_, fun x hx hk => ?_, fun x hx hk ha hb => ?_, a1, a2, a3, a4, tabOk_of h5, x1, x2, x3, x4, x5⟩
  · have := List.all_eq_true.1 h1 x hx
    simpa [okRw] using this
  · have := List.all_eq_true.1 h2 x hx
    simp only [prRw, hk, Bool.or_eq_true, Bool.and_eq_true, decide_eq_true_eq] at this
    rcases this with h | ⟨b1, b2, b3, b4, b5, b6, b7, b8⟩
    · exact absurd rfl h
    · refine ⟨b1, b2, b3, b4, b5, b6, b7, ?_⟩
      cases hf : fnd R 2 x.f with
      | none => rw [hf] at b8; cases b8
      | some y => rw [hf] at b8; rw [sameRw_eq b8]
  · have := List.all_eq_true.1 h3 x hx
    simp only [oneRw, hk, ha, hb, Bool.or_eq_true, decide_eq_true_eq] at this
    rcases this with h | h | h | h
    · exact absurd rfl h
    · exact absurd rfl h
    · exact absurd rfl h
    · exact h
end Go.Proofs.YtkeainhjghdfcaaGreat
