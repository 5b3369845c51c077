/- Joined texts: TokA TokG TokB BackP BackA BackB BackC BackD BackQ WordP WordA. -/
import Derived.Deep.RegionHeld3
import Derived.WalkMore
import Derived.ScopeJumps
import Derived.Test.YthlpelfogplomaaZeaa
import Derived.Test.YthlpelfogplomaaZaaw
import Derived.Test.YthlpelfogplomaaZaac
import Derived.Test.YthlpelfogplomaaZaaa
import Derived.Test.YthlpelfogplomaaZcaa
import Derived.Test.YthlpelfogplomaaZbac
import Derived.Test.YthlpelfogplomaaZaba
/- word: blank, bare, Quote. -/
namespace Go.Proofs.Ythlpelfogplomaa
open Go.RowKit

set_option maxRecDepth 100000 in
theorem wblank_any (r : Int) (w : World) : Calls Try.prog 53 #[.int .i32 r] w fun e w' => e = .returned (.bool (blkR r)) ∧ w = w' := by
  by_cases h : r = 32
  · subst h
    go_enter Try.func53, Try.ntmps53
    go_wp2_with fail
    go_ret
    exact ⟨rfl, rfl⟩
  · have g1 : (r == 32) = false := by simpa using h
    have HV := Lib.hid (show blkR r = (r == 9) by unfold blkR; rw [g1, Bool.false_or])
    clear h
    go_enter Try.func53, Try.ntmps53
    go_wp2_with fail
    go_ret
    exact ⟨by rw [HV.out]; rfl, rfl⟩
set_option maxRecDepth 100000 in
set_option maxHeartbeats 4000000 in
theorem bare_any (r : Int) (w : World) : Calls Try.prog 56 #[.int .i32 r] w fun e w' => e = .returned (.bool (bareR r)) ∧ w = w' := by
  have h0 : r ≤ 44 ∨ (45 ≤ r ∧ r ≤ 45) ∨ (46 ≤ r ∧ r ≤ 46) ∨ (47 ≤ r ∧ r ≤ 47) ∨ (48 ≤ r ∧ r ≤ 57) ∨ (58 ≤ r ∧ r ≤ 64) ∨ (65 ≤ r ∧ r ≤ 90) ∨ (91 ≤ r ∧ r ≤ 94) ∨ (95 ≤ r ∧ r ≤ 95) ∨ (96 ≤ r ∧ r ≤ 96) ∨ (97 ≤ r ∧ r ≤ 122) ∨ 123 ≤ r := by omega
  rcases h0 with h | h | h | h | h | h | h | h | h | h | h | h
  · have HV := Lib.hid (show bareR r = false by unfold bareR; rw [Bool.eq_false_iff]; intro h; simp at h; omega)
    have g97 : decide (r ≥ 97) = false := decide_eq_false (by omega)
    have g65 : decide (r ≥ 65) = false := decide_eq_false (by omega)
    have g48 : decide (r ≥ 48) = false := decide_eq_false (by omega)
    have l122 : r ≤ 122 := by omega
    have l90 : r ≤ 90 := by omega
    have l57 : r ≤ 57 := by omega
    have e45 : (r == 45) = false := by rw [beq_eq_false_iff_ne]; omega
    have e95 : (r == 95) = false := by rw [beq_eq_false_iff_ne]; omega
    have e46 : (r == 46) = false := by rw [beq_eq_false_iff_ne]; omega
    have e47 : (r == 47) = false := by rw [beq_eq_false_iff_ne]; omega
    clear h
    go_enter Try.func56, Try.ntmps56
    go_wp2_with fail
    go_ret
    exact ⟨by rw [HV.out]; rfl, rfl⟩
  · have HV := Lib.hid (show bareR r = true by unfold bareR; simp; omega)
    obtain rfl : r = 45 := by omega
    clear h
    go_enter Try.func56, Try.ntmps56
    go_wp2_with fail
    go_ret
    exact ⟨by rw [HV.out]; rfl, rfl⟩
  · have HV := Lib.hid (show bareR r = true by unfold bareR; simp; omega)
    obtain rfl : r = 46 := by omega
    clear h
    go_enter Try.func56, Try.ntmps56
    go_wp2_with fail
    go_ret
    exact ⟨by rw [HV.out]; rfl, rfl⟩
  · have HV := Lib.hid (show bareR r = true by unfold bareR; simp; omega)
    obtain rfl : r = 47 := by omega
    clear h
    go_enter Try.func56, Try.ntmps56
    go_wp2_with fail
    go_ret
    exact ⟨by rw [HV.out]; rfl, rfl⟩
  · have HV := Lib.hid (show bareR r = true by unfold bareR; simp; omega)
    have g97 : decide (r ≥ 97) = false := decide_eq_false (by omega)
    have g65 : decide (r ≥ 65) = false := decide_eq_false (by omega)
    have g48 : r ≥ 48 := by omega
    have l122 : r ≤ 122 := by omega
    have l90 : r ≤ 90 := by omega
    have l57 : r ≤ 57 := by omega
    have e45 : (r == 45) = false := by rw [beq_eq_false_iff_ne]; omega
    have e95 : (r == 95) = false := by rw [beq_eq_false_iff_ne]; omega
    have e46 : (r == 46) = false := by rw [beq_eq_false_iff_ne]; omega
    have e47 : (r == 47) = false := by rw [beq_eq_false_iff_ne]; omega
    clear h
    go_enter Try.func56, Try.ntmps56
    go_wp2_with fail
    go_ret
    exact ⟨by rw [HV.out]; rfl, rfl⟩
  · have HV := Lib.hid (show bareR r = false by unfold bareR; rw [Bool.eq_false_iff]; intro h; simp at h; omega)
    have g97 : decide (r ≥ 97) = false := decide_eq_false (by omega)
    have g65 : decide (r ≥ 65) = false := decide_eq_false (by omega)
    have g48 : r ≥ 48 := by omega
    have l122 : r ≤ 122 := by omega
    have l90 : r ≤ 90 := by omega
    have l57 : decide (r ≤ 57) = false := decide_eq_false (by omega)
    have e45 : (r == 45) = false := by rw [beq_eq_false_iff_ne]; omega
    have e95 : (r == 95) = false := by rw [beq_eq_false_iff_ne]; omega
    have e46 : (r == 46) = false := by rw [beq_eq_false_iff_ne]; omega
    have e47 : (r == 47) = false := by rw [beq_eq_false_iff_ne]; omega
    clear h
    go_enter Try.func56, Try.ntmps56
    go_wp2_with fail
    go_ret
    exact ⟨by rw [HV.out]; rfl, rfl⟩
  · have HV := Lib.hid (show bareR r = true by unfold bareR; simp; omega)
    have g97 : decide (r ≥ 97) = false := decide_eq_false (by omega)
    have g65 : r ≥ 65 := by omega
    have g48 : r ≥ 48 := by omega
    have l122 : r ≤ 122 := by omega
    have l90 : r ≤ 90 := by omega
    have l57 : decide (r ≤ 57) = false := decide_eq_false (by omega)
    have e45 : (r == 45) = false := by rw [beq_eq_false_iff_ne]; omega
    have e95 : (r == 95) = false := by rw [beq_eq_false_iff_ne]; omega
    have e46 : (r == 46) = false := by rw [beq_eq_false_iff_ne]; omega
    have e47 : (r == 47) = false := by rw [beq_eq_false_iff_ne]; omega
    clear h
    go_enter Try.func56, Try.ntmps56
    go_wp2_with fail
    go_ret
    exact ⟨by rw [HV.out]; rfl, rfl⟩
  · have HV := Lib.hid (show bareR r = false by unfold bareR; rw [Bool.eq_false_iff]; intro h; simp at h; omega)
    have g97 : decide (r ≥ 97) = false := decide_eq_false (by omega)
    have g65 : r ≥ 65 := by omega
    have g48 : r ≥ 48 := by omega
    have l122 : r ≤ 122 := by omega
    have l90 : decide (r ≤ 90) = false := decide_eq_false (by omega)
    have l57 : decide (r ≤ 57) = false := decide_eq_false (by omega)
    have e45 : (r == 45) = false := by rw [beq_eq_false_iff_ne]; omega
    have e95 : (r == 95) = false := by rw [beq_eq_false_iff_ne]; omega
    have e46 : (r == 46) = false := by rw [beq_eq_false_iff_ne]; omega
    have e47 : (r == 47) = false := by rw [beq_eq_false_iff_ne]; omega
    clear h
    go_enter Try.func56, Try.ntmps56
    go_wp2_with fail
    go_ret
    exact ⟨by rw [HV.out]; rfl, rfl⟩
  · have HV := Lib.hid (show bareR r = true by unfold bareR; simp; omega)
    obtain rfl : r = 95 := by omega
    clear h
    go_enter Try.func56, Try.ntmps56
    go_wp2_with fail
    go_ret
    exact ⟨by rw [HV.out]; rfl, rfl⟩
  · have HV := Lib.hid (show bareR r = false by unfold bareR; rw [Bool.eq_false_iff]; intro h; simp at h; omega)
    obtain rfl : r = 96 := by omega
    clear h
    go_enter Try.func56, Try.ntmps56
    go_wp2_with fail
    go_ret
    exact ⟨by rw [HV.out]; rfl, rfl⟩
  · have HV := Lib.hid (show bareR r = true by unfold bareR; simp; omega)
    have g97 : r ≥ 97 := by omega
    have g65 : r ≥ 65 := by omega
    have g48 : r ≥ 48 := by omega
    have l122 : r ≤ 122 := by omega
    have l90 : decide (r ≤ 90) = false := decide_eq_false (by omega)
    have l57 : decide (r ≤ 57) = false := decide_eq_false (by omega)
    have e45 : (r == 45) = false := by rw [beq_eq_false_iff_ne]; omega
    have e95 : (r == 95) = false := by rw [beq_eq_false_iff_ne]; omega
    have e46 : (r == 46) = false := by rw [beq_eq_false_iff_ne]; omega
    have e47 : (r == 47) = false := by rw [beq_eq_false_iff_ne]; omega
    clear h
    go_enter Try.func56, Try.ntmps56
    go_wp2_with fail
    go_ret
    exact ⟨by rw [HV.out]; rfl, rfl⟩
  · have HV := Lib.hid (show bareR r = false by unfold bareR; rw [Bool.eq_false_iff]; intro h; simp at h; omega)
    have g97 : r ≥ 97 := by omega
    have g65 : r ≥ 65 := by omega
    have g48 : r ≥ 48 := by omega
    have l122 : decide (r ≤ 122) = false := decide_eq_false (by omega)
    have l90 : decide (r ≤ 90) = false := decide_eq_false (by omega)
    have l57 : decide (r ≤ 57) = false := decide_eq_false (by omega)
    have e45 : (r == 45) = false := by rw [beq_eq_false_iff_ne]; omega
    have e95 : (r == 95) = false := by rw [beq_eq_false_iff_ne]; omega
    have e46 : (r == 46) = false := by rw [beq_eq_false_iff_ne]; omega
    have e47 : (r == 47) = false := by rw [beq_eq_false_iff_ne]; omega
    clear h
    go_enter Try.func56, Try.ntmps56
    go_wp2_with fail
    go_ret
    exact ⟨by rw [HV.out]; rfl, rfl⟩
end Go.Proofs.Ythlpelfogplomaa

/- Tokens: rows of them. -/
namespace Go.Proofs.Ythlpelfogplomaa
open Go.RowKit

def tkE (t : Int × Int × Value) : List Value := [.int .i64 t.1, .int .i64 t.2.1, t.2.2]
theorem tkE_len (t : Int × Int × Value) : (tkE t).length = 3 := rfl
theorem owns_keptP {P : Nat → Prop} {w w' : World} {base e size n : Nat} {v : Value} {xs : List Value} (h : w.ownsRow base e size v n xs) (K : Kept P w w') (hP : ∀ j, P j → j < base) : w'.ownsRow base e size v n xs := by
  refine ⟨h.1, ?_⟩
  rcases h.2 with h2 | ⟨g, cap, cur, hv, h1, h2, h3⟩
  · exact .inl h2
  · refine .inr ⟨g, cap, cur, hv, h1, ?_, h3⟩
    rw [K.block g (Array.getElem?_eq_some_iff.1 h2).1 (fun hp => by have := hP g hp; omega)]
    exact h2
/-- tokens, a row of the call's own; so is what each means -/
def TksIn (T : TypeId) (w : World) (base : Nat) (v : Value) (L : List Tk) : Prop :=
  ∃ ts : List (Int × Int × Value), ts.length = L.length ∧ w.ownsRow base T 3 v ts.length (ts.flatMap tkE) ∧
    ∀ (i : Nat) (k : Tk), L[i]? = some k → ∃ tv, ts[i]? = some ((k.1 : Int), (k.2.1 : Int), tv) ∧ w.ownsRow base 21 1 tv k.2.2.length (k.2.2.flatMap runeE)
section
variable {T : TypeId} {w w' : World} {base : Nat} {v : Value} {L : List Tk}
theorem TksIn.nil (T : TypeId) (w : World) (base : Nat) : TksIn T w base (.slice none 0 0) [] := ⟨[], rfl, World.ownsRow_nil _ _ _ _, fun i k h => by simp at h⟩
theorem TksIn.later (h : TksIn T w base v L) (hB : Below w.heap.size w w') : TksIn T w' base v L := by
  obtain ⟨ts, h1, h2, h3⟩ := h
  exact ⟨ts, h1, owns_stays h2 hB, fun i k hk => by obtain ⟨tv, h4, h5⟩ := h3 i k hk; exact ⟨tv, h4, owns_stays h5 hB⟩⟩
theorem TksIn.keep {P : Nat → Prop} (h : TksIn T w base v L) (K : Kept P w w') (hP : ∀ j, P j → j < base) : TksIn T w' base v L := by
  obtain ⟨ts, h1, h2, h3⟩ := h
  exact ⟨ts, h1, owns_keptP h2 K hP, fun i k hk => by obtain ⟨tv, h4, h5⟩ := h3 i k hk; exact ⟨tv, h4, owns_keptP h5 K hP⟩⟩
theorem TksIn.lower (h : TksIn T w base v L) {b' : Nat} (hb : b' ≤ base) : TksIn T w b' v L := by
  obtain ⟨ts, h1, h2, h3⟩ := h
  exact ⟨ts, h1, owns_lower h2 hb, fun i k hk => by obtain ⟨tv, h4, h5⟩ := h3 i k hk; exact ⟨tv, h4, owns_lower h5 hb⟩⟩
theorem TksIn.shape (h : TksIn T w base v L) : ∃ a cap, v = .slice a L.length cap := by
  obtain ⟨ts, h1, h2, _⟩ := h
  obtain ⟨a, cap, rfl⟩ := slice_of_owns h2
  exact ⟨a, cap, by rw [h1]⟩
theorem TksIn.push {f t : Nat} {tv v7 : Value} {a : List Int} {ts : List (Int × Int × Value)} {w7 : World} (h1 : ts.length = L.length) (h2 : w.ownsRow base T 3 v ts.length (ts.flatMap tkE))
    (h3 : ∀ (i : Nat) (k : Tk), L[i]? = some k → ∃ tv, ts[i]? = some ((k.1 : Int), (k.2.1 : Int), tv) ∧ w.ownsRow base 21 1 tv k.2.2.length (k.2.2.flatMap runeE))
    (hT : T ≠ 21) (htv : w.ownsRow base 21 1 tv a.length (a.flatMap runeE)) (ho : w7.ownsRow base T 3 v7 (ts.length + 1) (ts.flatMap tkE ++ tkE ((f : Int), (t : Int), tv))) (hg : w.grownBy w7 v.ownBlock) :
    TksIn T w7 base v7 (L ++ [(f, t, a)]) := by
  refine ⟨ts ++ [((f : Int), (t : Int), tv)], by rw [List.length_append, List.length_append, h1]; rfl, ?_, ?_⟩
  · rw [List.length_append, List.flatMap_append, show [((f : Int), (t : Int), tv)].flatMap tkE = tkE ((f : Int), (t : Int), tv) by simp]
    exact ho
  · intro i k hk
    by_cases hi : i < L.length
    · rw [List.getElem?_append_left hi] at hk
      obtain ⟨u, h4, h5⟩ := h3 i k hk
      exact ⟨u, by rw [List.getElem?_append_left (by omega)]; exact h4, owns_kept_types h2 h5 hT hg⟩
    · rw [List.getElem?_append_right (by omega)] at hk
      have h0 : i - L.length = 0 := by
        cases he : i - L.length with
        | zero => rfl
        | succ m => rw [he] at hk; simp at hk
      rw [h0] at hk
      have hk' : (f, t, a) = k := by simpa using hk
      subst hk'
      exact ⟨tv, by rw [List.getElem?_append_right (by omega), h1, h0]; rfl, owns_kept_types h2 htv hT hg⟩
theorem TksIn.get (h : TksIn T w base v L) {i : Nat} {k : Tk} (hk : L[i]? = some k) : ∃ g cap tv, v = .slice (some ⟨g, 0, none⟩) L.length cap ∧ w.cell? ⟨g, i * 3, none⟩ = some (.int .i64 (k.1 : Int)) ∧ w.cell? ⟨g, i * 3 + 1, none⟩ = some (.int .i64 (k.2.1 : Int)) ∧ w.cell? ⟨g, i * 3 + 2, none⟩ = some tv ∧ RunesIn w tv k.2.2 := by
  obtain ⟨ts, h1, h2, h3⟩ := h
  obtain ⟨tv, h4, h5⟩ := h3 i k hk
  have hi : i < L.length := (List.getElem?_eq_some_iff.1 hk).1
  obtain ⟨g, cap, rfl, _, _⟩ := ownBlock_of_owns h2 (by omega)
  have hc : ∀ (j : Nat) (u : Value), (ts.flatMap tkE)[j]? = some u → w.cell? ⟨g, j, none⟩ = some u := fun j u hu => by
    have := h2.cells (g := g) rfl j u hu
    rwa [addr_add] at this
  refine ⟨g, cap, tv, by rw [h1], hc _ _ ?_, hc _ _ ?_, hc _ _ ?_, rd_of_owns h5⟩
  · exact flat_get tkE_len ts i _ 0 _ h4 rfl
  · exact flat_get tkE_len ts i _ 1 _ h4 rfl
  · exact flat_get tkE_len ts i _ 2 _ h4 rfl
end
/-- what is told of tokens -/
def SplPost (T : TypeId) (s : List Int) (w : World) (e : Ending) (w' : World) : Prop := ∃ (v : Value) (n : Int) (ok : Bool), e = .returned (.tuple #[v, .int .i64 n, .bool ok]) ∧ Below w.heap.size w w' ∧
  match splS s.length [] s with
  | .ok L => ok = true ∧ n = 0 ∧ TksIn T w' w.heap.size v L
  | .error p => ok = false ∧ n = ((p : Nat) : Int) ∧ v = .slice none 0 0
end Go.Proofs.Ythlpelfogplomaa

/- word.Quote: its walk. -/
namespace Go.Proofs.Ythlpelfogplomaa
open Go.RowKit

section
variable {s : List Int} {w : World} {sv : Value}
set_option maxRecDepth 100000 in
set_option maxHeartbeats 8000000 in
theorem wquote_any (hs : RunesIn w sv s) (hl : s.length ≤ 100000) :
    Calls Try.prog 20 #[sv] w fun e w' => ∃ u, e = .returned u ∧ Below w.heap.size w w' ∧ RunesIn w' u (quoteF s) := by
  have HS := Lib.hid hs
  obtain ⟨sl, cap, rfl, hcap, hmax, hxx⟩ := runes_cells hs
  unfold maxLen at hmax
  clear hs hxx
  obtain ⟨b0, hb0⟩ : ∃ b0, b0 = decide (0 < s.length) := ⟨_, rfl⟩
  have HB0 := Lib.hid hb0
  have g0 : decide ((s.length : Int) > 0) = b0 := by rw [hb0]; rw [decide_eq_decide]; omega
  have g0n : decide (0 < s.length) = b0 := hb0.symm
  clear hb0
  go_enter Try.func20, Try.ntmps20
  go_wp2_with fail
  go_loopw [3, 14] (fun pv iv wr => ∃ (k : Nat) (b : Bool), k ≤ s.length ∧ pv = .bool b ∧ iv = .int .i64 ((k : Nat) : Int) ∧ Below w.heap.size w wr ∧ b = (b0 && (s.take k).all bareR)) (fun _ iv _ => s.length - (intOf iv).toNat)
  case atStart => exact ⟨0, b0, Nat.zero_le _, rfl, rfl, .refl _ _, by simp⟩
  case round =>
    obtain ⟨k, b, hk, rfl, rfl, hB, hb⟩ := hrel
    have HB := Lib.hid hB
    have HBb := Lib.hid hb
    by_cases hlt : k < s.length
    · obtain ⟨x, hx⟩ : ∃ x, s[k]? = some x := ⟨s[k], List.getElem?_eq_getElem hlt⟩
      have HN := Lib.hid (show (b0 && (s.take (k + 1)).all bareR) = (b && bareR x) by
        rw [List.take_add_one, hx, List.all_append, ← Bool.and_assoc, ← hb]
        simp)
      obtain ⟨rb, roff, _, hv, _, _, _, _, l0⟩ := rune_cell (HS.out.below hB) hx
      cases hv
      have e1 := IntWalk.i64_in ((k : Int) + 1) (by omega)
      have s0 : (k : Int) < (s.length : Int) := by omega
      have HBr := Lib.hid (bare_any x)
      clear hB hb hx hlt
      cases b
      · have HN2 := Lib.hid (show false = (b0 && (s.take (k + 1)).all bareR) by rw [HN.out]; rfl)
        go_wp2_with fail
        go_roundw
        case rel => exact ⟨k + 1, false, by omega, rfl, by go_num, HB.out, HN2.out⟩
        case measure => simp [intOf] <;> omega
      · obtain ⟨bx, hbx⟩ : ∃ bx, bx = bareR x := ⟨_, rfl⟩
        have HN2 := Lib.hid (show bx = (b0 && (s.take (k + 1)).all bareR) by rw [HN.out, hbx]; rfl)
        rw [← hbx] at HBr
        clear hbx
        go_wp2_with fail
        refine (HBr.out _).mono ?_
        rintro e w' ⟨rfl, rfl⟩
        go_wp2_with fail
        go_roundw
        case rel => exact ⟨k + 1, bx, by omega, rfl, by go_num, HB.out, HN2.out⟩
        case measure => simp [intOf] <;> omega
    · have hke : k = s.length := by omega
      have HBe := Lib.hid (show b = (b0 && s.all bareR) by rw [hb, hke, List.take_length])
      have s0 : ¬ k < s.length := hlt
      have HSr := Lib.hid (HS.out.below hB)
      have hbs := hB.size
      clear hB hb hlt hke
      cases b
      · have HQ := Lib.hid (show quoteF s = [39] ++ s.flatMap qOf ++ [39] by
          unfold quoteF
          rw [if_neg]
          rintro ⟨h1, h2⟩
          have h3 := HBe.out
          rw [h2, Bool.and_true, HB0.out] at h3
          have h4 : 0 < s.length := List.length_pos_iff.2 h1
          rw [decide_eq_true h4] at h3
          cases h3)
        go_upto_region 10 with fail
        have HO1 := Lib.hid (owns_lit wr #[.int .i32 39] 21 (base := w.heap.size) (size := 1) (n := 1) rfl (by decide) hbs)
        have hb1 := below1 wr (.cells #[.int .i32 39] 21)
        have HB1 := Lib.hid (HB.out.trans (hb1.mono hbs))
        generalize wr.alloc (.cells #[.int .i32 39] 21) = w1 at HO1 hb1 HB1 ⊢
        generalize wr.heap.size = gb at HO1 ⊢
        clear hb1
        go_wp2_with fail
        go_loopw [6, 30] (fun ov iv wr => ∃ (k : Nat) (o : List Int), k ≤ s.length ∧ iv = .int .i64 ((k : Nat) : Int) ∧ Below w.heap.size w wr ∧ wr.ownsRow w.heap.size 21 1 ov o.length (o.flatMap runeE) ∧ o = [39] ++ (s.take k).flatMap qOf ∧ o.length ≤ 1 + 4 * k) (fun _ iv _ => s.length - (intOf iv).toNat)
        case atStart => exact ⟨0, [39], Nat.zero_le _, rfl, HB1.out, HO1.out, rfl, by simp⟩
        case round =>
          obtain ⟨k, o, hk, rfl, hB, hO, ho, hol⟩ := hrel
          have HB := Lib.hid hB
          have HO := Lib.hid hO
          have HOe := Lib.hid ho
          obtain ⟨pa, pc, rfl⟩ := slice_of_owns hO
          have hbs := hB.size
          by_cases hlt : k < s.length
          · obtain ⟨x, hx⟩ : ∃ x, s[k]? = some x := ⟨s[k], List.getElem?_eq_getElem hlt⟩
            have HN := Lib.hid (show [39] ++ (s.take (k + 1)).flatMap qOf = o ++ qOf x by
              rw [List.take_add_one, hx, List.flatMap_append, ← List.append_assoc, ← ho]
              simp)
            obtain ⟨rb, roff, _, hv, _, _, _, _, l0⟩ := rune_cell (HS.out.below hB) hx
            cases hv
            have e1 := IntWalk.i64_in ((k : Int) + 1) (by omega)
            have s0 : (k : Int) < (s.length : Int) := by omega
            have hbig : (o.length + 4) * 4 ≤ 140737488355328 := by omega
            have hbig1 : (o.length + 1) * 4 ≤ 140737488355328 := by omega
            clear hB hO ho hx hlt
            by_cases h39 : x = 39
            · subst h39
              go_wp2_with (at_builtin; go_loud (refine wpList_app1 _ rfl (.tmp 36) (.tmp 37) _ rfl ER _ _ _ rfl HO.out 4 4 (([39, 92, 39, 39] : List Int).flatMap runeE) rfl (by decide) rfl (runeE_one _) hbig hbs ?_); intro g cp7 w7 ho7 hg7 hf7; have HB7 := Lib.hid (below_app HB.out hbs HO.out (Nat.le_refl _) hg7); have HO7 := Lib.hid ho7; clear ho7 hg7 hf7)
              go_roundw
              case rel => exact ⟨k + 1, o ++ [39, 92, 39, 39], by omega, by go_num, HB7.out, by rw [List.length_append, List.flatMap_append]; exact HO7.out, by rw [HN.out]; rfl, by rw [List.length_append]; simp; omega⟩
              case measure => simp [intOf] <;> omega
            · have g9 : (x == 39) = false := by simpa using h39
              have HQx := Lib.hid (show qOf x = [x] by unfold qOf; rw [if_neg h39])
              clear h39
              go_wp2_with (at_builtin; go_loud (refine wpList_app1 _ rfl (.tmp 39) (.tmp 41) _ rfl ER _ _ _ rfl HO.out 1 1 (runeE x) rfl (by decide) rfl (by intro u hu; simp [runeE] at hu; subst hu; rfl) hbig1 hbs ?_); intro g cp7 w7 ho7 hg7 hf7; have HB7 := Lib.hid (below_app HB.out hbs HO.out (Nat.le_refl _) hg7); have HO7 := Lib.hid ho7; clear ho7 hg7 hf7)
              go_roundw
              case rel => exact ⟨k + 1, o ++ [x], by omega, by go_num, HB7.out, by rw [List.length_append, flat_snoc]; exact HO7.out, by rw [HN.out, HQx.out], by rw [List.length_append]; simp; omega⟩
              case measure => simp [intOf] <;> omega
          · have hke : k = s.length := by omega
            have HQe := Lib.hid (show o ++ [39] = quoteF s by rw [HQ.out, ho, hke, List.take_length])
            have s0 : ¬ k < s.length := hlt
            have hbig1 : (o.length + 1) * 4 ≤ 140737488355328 := by omega
            clear hB hO ho hlt hke
            go_wp2_with (at_builtin; go_loud (refine wpList_app1 _ rfl (.tmp 44) (.tmp 45) _ rfl ER _ _ _ rfl HO.out 1 1 (runeE 39) rfl (by decide) rfl (by intro u hu; simp [runeE] at hu; subst hu; rfl) hbig1 hbs ?_); intro g cp7 w7 ho7 hg7 hf7; have HB7 := Lib.hid (below_app HB.out hbs HO.out (Nat.le_refl _) hg7); have HO7 := Lib.hid ho7; clear ho7 hg7 hf7)
            go_ret
            exact ⟨_, rfl, HB7.out, by rw [← HQe.out]; exact rd_of_owns (base := w.heap.size) (e := 21) (by rw [List.length_append, flat_snoc]; exact HO7.out)⟩
      · have HQ := Lib.hid (show quoteF s = s by
          unfold quoteF
          have h3 := HBe.out
          have h4 := Bool.and_eq_true_iff.1 h3.symm
          rw [if_pos]
          refine ⟨fun e => ?_, h4.2⟩
          have h5 := h4.1
          rw [HB0.out, decide_eq_true_eq, e] at h5
          simp at h5)
        have hbig : (0 + s.length) * 4 ≤ 140737488355328 := by omega
        go_wp2_with (at_builtin; go_loud (refine wpList_app_rd _ rfl (.const (.slice none 0 0)) (.tmp 25) _ rfl ER (.slice none 0 0) 0 [] rfl (World.ownsRow_nil wr w.heap.size 21 1) _ _ _ rfl HSr.out (runeE_one _) hbig hbs ?_); intro v7 w7 ho7 hg7; have HB7 := Lib.hid (below_app HB.out hbs (World.ownsRow_nil wr w.heap.size 21 1) (Nat.le_refl _) hg7); have HO7 := Lib.hid (show w7.ownsRow w.heap.size 21 1 v7 s.length (s.flatMap runeE) by simpa using ho7); clear ho7 hg7)
        go_ret
        exact ⟨_, rfl, HB7.out, by rw [HQ.out]; exact rd_of_owns HO7.out⟩
end
end Go.Proofs.Ythlpelfogplomaa

/- Boundaries around a place, plainly. -/
namespace Go.Proofs.Ythlpelfogplomaa

def isB (T : Tab) (s : List Int) (i : Nat) : Bool := decide (i = s.length) || begAt T s i
/-- the last boundary that is not behind a place -/
def floorB (T : Tab) (s : List Int) : Nat → Nat
  | 0 => 0
  | i + 1 => if isB T s (i + 1) then i + 1 else floorB T s i
/-- the first one that is not ahead of it -/
def ceilB (T : Tab) (s : List Int) (i : Nat) : Nat := i + fnb T (s.take i).reverse (s.drop i)
def floorI (T : Tab) (s : List Int) (a : Int) : Nat := if a ≤ 0 then 0 else if (s.length : Int) ≤ a then s.length else floorB T s a.toNat
def ceilI (T : Tab) (s : List Int) (a : Int) : Nat := if a ≤ 0 then 0 else if (s.length : Int) ≤ a then s.length else ceilB T s a.toNat
theorem isB_len (T : Tab) (s : List Int) : isB T s s.length = true := by simp [isB]
theorem isB_lt {T : Tab} {s : List Int} {i : Nat} (h : i < s.length) : isB T s i = begAt T s i := by
  unfold isB
  rw [decide_eq_false (by omega), Bool.false_or]
theorem floorB_eq {T : Tab} {s : List Int} {f : Nat} : ∀ {a : Nat}, f ≤ a → (f = 0 ∨ isB T s f = true) → (∀ j, f < j → j ≤ a → isB T s j = false) → floorB T s a = f
  | 0, h, _, _ => by simp only [floorB]; omega
  | a + 1, h, hf, hn => by
    simp only [floorB]
    by_cases he : f = a + 1
    · subst he
      rcases hf with hf | hf
      · omega
      · rw [hf, if_pos rfl]
    · rw [hn (a + 1) (by omega) (Nat.le_refl _), if_neg Bool.false_ne_true]
      exact floorB_eq (by omega) hf fun j h1 h2 => hn j h1 (by omega)
theorem floorB_le (T : Tab) (s : List Int) : ∀ a, floorB T s a ≤ a
  | 0 => Nat.le_refl _
  | a + 1 => by
    simp only [floorB]
    split
    · exact Nat.le_refl _
    · have := floorB_le T s a; omega
theorem floorB_is (T : Tab) (s : List Int) : ∀ a, floorB T s a = 0 ∨ isB T s (floorB T s a) = true
  | 0 => .inl rfl
  | a + 1 => by
    simp only [floorB]
    split
    · rename_i h; exact .inr h
    · exact floorB_is T s a
theorem floorB_none (T : Tab) (s : List Int) : ∀ a j, floorB T s a < j → j ≤ a → isB T s j = false
  | 0, j, h1, h2 => by omega
  | a + 1, j, h1, h2 => by
    simp only [floorB] at h1
    split at h1
    · omega
    · rename_i h
      by_cases hj : j = a + 1
      · subst hj; exact eq_false_of_ne_true h
      · exact floorB_none T s a j h1 (by omega)
theorem ceilB_spec (T : Tab) (s : List Int) {i : Nat} (h : i ≤ s.length) : (∀ j, i ≤ j → j < ceilB T s i → begAt T s j = false) ∧ ceilB T s i ≤ s.length ∧ (ceilB T s i = s.length ∨ begAt T s (ceilB T s i) = true) := fnb_spec T s _ i rfl h
theorem ceilB_eq {T : Tab} {s : List Int} {i c : Nat} (h : i ≤ s.length) (hic : i ≤ c) (hn : ∀ j, i ≤ j → j < c → begAt T s j = false) (hc : c ≤ s.length) (hb : c = s.length ∨ begAt T s c = true) : ceilB T s i = c := by
  obtain ⟨h1, h2, h3⟩ := ceilB_spec T s h
  have hge : i ≤ ceilB T s i := Nat.le_add_right _ _
  rcases Nat.lt_trichotomy (ceilB T s i) c with h4 | h4 | h4
  · rcases h3 with h3 | h3
    · omega
    · rw [hn _ hge h4] at h3; cases h3
  · exact h4
  · rcases hb with hb | hb
    · omega
    · rw [h1 c hic h4] at hb; cases hb
theorem ceilB_step {T : Tab} {s : List Int} {k : Nat} (hk : k < s.length) : ceilB T s k = if begAt T s k then k else ceilB T s (k + 1) := by
  have hx : s[k]? = some s[k] := List.getElem?_eq_getElem hk
  generalize s[k] = x at hx
  unfold ceilB begAt
  rw [drop_of_get hx, take_succ_rev hx, hx]
  simp only [fnb]
  split <;> omega
theorem ceilB_len (T : Tab) (s : List Int) : ceilB T s s.length = s.length := by unfold ceilB; rw [List.drop_length]; rfl
/-- from the last boundary not behind a place, that is ahead of it, the next one is the first not ahead of it -/
theorem ceil_of_floor {T : Tab} (H : T.Ok) {s : List Int} {a : Nat} (ha : a < s.length) (hf : floorB T s a < a) : ceilB T s a = floorB T s a + nx T (s.drop (floorB T s a)) := by
  have hb : begAt T s (floorB T s a) = true := by
    rcases floorB_is T s a with h | h
    · rw [h]; exact begAt_zero T (fun e => by rw [e] at ha; cases ha)
    · rwa [isB_lt (by omega)] at h
  obtain ⟨h1, h2, h3, h4⟩ := nx_spec H hb
  have h5 := floorB_none T s a
  refine ceilB_eq (Nat.le_of_lt ha) ?_ (fun j h6 h7 => h3 j (by omega) h7) h2 h4
  rcases Nat.lt_or_ge (floorB T s a + nx T (s.drop (floorB T s a))) a with h6 | h6
  · have h8 := h5 _ h1 (Nat.le_of_lt h6)
    rw [isB_lt (by omega)] at h8
    rcases h4 with h4 | h4
    · omega
    · rw [h8] at h4; cases h4
  · exact h6
theorem floorI_nonpos {T : Tab} {s : List Int} {a : Int} (h : a ≤ 0) : floorI T s a = 0 := by unfold floorI; rw [if_pos h]
theorem floorI_big {T : Tab} {s : List Int} {a : Int} (h : ¬ a ≤ 0) (h2 : (s.length : Int) ≤ a) : floorI T s a = s.length := by unfold floorI; rw [if_neg h, if_pos h2]
theorem floorI_mid {T : Tab} {s : List Int} {a : Nat} (h : 0 < a) (h2 : a < s.length) : floorI T s (a : Int) = floorB T s a := by unfold floorI; rw [if_neg (by omega), if_neg (by omega)]; rfl
theorem ceilI_nonpos {T : Tab} {s : List Int} {a : Int} (h : a ≤ 0) : ceilI T s a = 0 := by unfold ceilI; rw [if_pos h]
theorem ceilI_big {T : Tab} {s : List Int} {a : Int} (h : ¬ a ≤ 0) (h2 : (s.length : Int) ≤ a) : ceilI T s a = s.length := by unfold ceilI; rw [if_neg h, if_pos h2]
theorem ceilI_mid {T : Tab} {s : List Int} {a : Nat} (h : 0 < a) (h2 : a < s.length) : ceilI T s (a : Int) = ceilB T s a := by unfold ceilI; rw [if_neg (by omega), if_neg (by omega)]; rfl
theorem floorI_le (T : Tab) (s : List Int) (a : Int) : floorI T s a ≤ s.length := by
  unfold floorI
  split
  · exact Nat.zero_le _
  · split
    · exact Nat.le_refl _
    · have := floorB_le T s a.toNat; omega
theorem floorI_self {T : Tab} {s : List Int} {a : Int} : ¬ a ≤ 0 → a < s.length → (floorI T s a : Int) ≤ a := fun h1 h2 => by
  unfold floorI
  rw [if_neg h1, if_neg (by omega)]
  have := floorB_le T s a.toNat; omega
end Go.Proofs.Ythlpelfogplomaa

/- back: hangs, sure. -/
namespace Go.Proofs.Ythlpelfogplomaa
open Go.RowKit

section
variable {R : List Rw} {s : List Int} {w : World} {sv : Value} {tp : Nat}
set_option maxRecDepth 100000 in
set_option maxHeartbeats 4000000 in
theorem hangs_any (a r : Int) (hT : Tb R w tp) (ha : I32 a) (hr : I32 r) :
    Calls Try.prog 148 #[.pointer (some ⟨tp, 0, none⟩), .int .i32 a, .int .i32 r] w fun e w' => e = .returned (.bool (hangsB (tabOf R) a r)) ∧ Below w.heap.size w w' := by
  have HT := Lib.hid hT
  have HA := Lib.hid ha
  have HR := Lib.hid hr
  have HV := Lib.hid (show hangsB (tabOf R) a r = if (tabOf R).b r = 6 then decide ((tabOf R).b a = 6) else if (tabOf R).b r = 0 then (decide ((tabOf R).b a = 5) && (tabOf R).p r) || (decide ((tabOf R).c r = 2) && (decide ((tabOf R).c a ≠ 0) && decide ((tabOf R).c a ≠ 2))) else false from rfl)
  clear hT ha hr
  go_enter Try.func148, Try.ntmps148
  go_wp2_with fail
  refine (HT.out.break r HR.out).mono ?_
  rintro e w1 ⟨rfl, hB1⟩
  have HT1 := Lib.hid (HT.out.below hB1)
  have HB1 := Lib.hid hB1
  clear hB1 HT
  generalize (tabOf R).b r = br at HV ⊢
  by_cases b6 : br = 6
  · have e6 : (br == 6) = true := by simpa using b6
    have HV2 := Lib.hid (show hangsB (tabOf R) a r = decide ((tabOf R).b a = 6) by rw [HV.out, if_pos b6])
    clear b6
    go_wp2_with fail
    refine (HT1.out.break a HA.out).mono ?_
    rintro e w2 ⟨rfl, hB2⟩
    have HB2 := Lib.hid (below_trans' HB1.out hB2)
    clear hB2
    go_wp2_with fail
    go_ret
    exact ⟨ret_b (by rw [HV2.out]; rfl), HB2.out⟩
  · have e6 : (br == 6) = false := by simpa using b6
    by_cases b0 : br = 0
    · have e0 : (br == 0) = true := by simpa using b0
      have HV2 := Lib.hid (show hangsB (tabOf R) a r = ((decide ((tabOf R).b a = 5) && (tabOf R).p r) || (decide ((tabOf R).c r = 2) && (decide ((tabOf R).c a ≠ 0) && decide ((tabOf R).c a ≠ 2)))) by rw [HV.out, if_neg b6, if_pos b0])
      clear b6 b0
      go_wp2_with fail
      refine (HT1.out.break a HA.out).mono ?_
      rintro e w2 ⟨rfl, hB2⟩
      have HT2 := Lib.hid (HT1.out.below hB2)
      have HB2 := Lib.hid (below_trans' HB1.out hB2)
      clear hB2 HT1 HB1
      generalize (tabOf R).b a = ba at HV2 ⊢
      by_cases b5 : ba = 5
      · have e5 : (ba == 5) = true := by simpa using b5
        rw [decide_eq_true b5, Bool.true_and] at HV2
        clear b5
        go_wp2_with fail
        refine (HT2.out.pict r HR.out).mono ?_
        rintro e w3 ⟨rfl, hB3⟩
        have HT3 := Lib.hid (HT2.out.below hB3)
        have HB3 := Lib.hid (below_trans' HB2.out hB3)
        clear hB3 HT2 HB2
        generalize (tabOf R).p r = pr at HV2 ⊢
        cases pr with
        | true =>
          go_wp2_with fail
          go_ret
          exact ⟨ret_b (by rw [HV2.out]; rfl), HB3.out⟩
        | false =>
          rw [Bool.false_or] at HV2
          go_wp2_with fail
          refine (HT3.out.conj r HR.out).mono ?_
          rintro e w4 ⟨rfl, hB4⟩
          have HT4 := Lib.hid (HT3.out.below hB4)
          have HB4 := Lib.hid (below_trans' HB3.out hB4)
          clear hB4 HT3 HB3
          generalize (tabOf R).c r = cr at HV2 ⊢
          by_cases c2 : cr = 2
          · have f2 : (cr == 2) = true := by simpa using c2
            rw [decide_eq_true c2, Bool.true_and] at HV2
            clear c2
            go_wp2_with fail
            refine (HT4.out.conj a HA.out).mono ?_
            rintro e w5 ⟨rfl, hB5⟩
            have HT5 := Lib.hid (HT4.out.below hB5)
            have HB5 := Lib.hid (below_trans' HB4.out hB5)
            clear hB5 HT4 HB4
            have hcall := HT5.out.conj a HA.out
            generalize (tabOf R).c a = ca at HV2 hcall ⊢
            have HC5 := Lib.hid hcall
            clear hcall
            by_cases c0 : ca = 0
            · have f0 : (ca != 0) = false := by simpa using c0
              have HV3 := Lib.hid (show hangsB (tabOf R) a r = false by rw [HV2.out, c0]; rfl)
              clear c0
              go_wp2_with fail
              go_ret
              exact ⟨ret_b (by rw [HV3.out]), HB5.out⟩
            · have f0 : (ca != 0) = true := by simpa using c0
              have HV3 := Lib.hid (show hangsB (tabOf R) a r = decide (ca ≠ 2) by rw [HV2.out, decide_eq_true c0, Bool.true_and])
              clear c0
              go_wp2_with fail
              refine HC5.out.mono ?_
              rintro e w6 ⟨rfl, hB6⟩
              have HB6 := Lib.hid (below_trans' HB5.out hB6)
              clear hB6
              go_wp2_with fail
              go_ret
              exact ⟨ret_b (by rw [HV3.out]; simp [bne]; rfl), HB6.out⟩
          · have f2 : (cr == 2) = false := by simpa using c2
            rw [decide_eq_false c2, Bool.false_and] at HV2
            clear c2
            go_wp2_with fail
            go_ret
            exact ⟨ret_b (by rw [HV2.out]), HB4.out⟩
      · have e5 : (ba == 5) = false := by simpa using b5
        rw [decide_eq_false b5, Bool.false_and, Bool.false_or] at HV2
        clear b5
        have HT3 := Lib.hid HT2.out
        have HB3 := Lib.hid HB2.out
        go_wp2_with fail
        refine (HT3.out.conj r HR.out).mono ?_
        rintro e w4 ⟨rfl, hB4⟩
        have HT4 := Lib.hid (HT3.out.below hB4)
        have HB4 := Lib.hid (below_trans' HB3.out hB4)
        clear hB4 HT3 HB3
        generalize (tabOf R).c r = cr at HV2 ⊢
        by_cases c2 : cr = 2
        · have f2 : (cr == 2) = true := by simpa using c2
          rw [decide_eq_true c2, Bool.true_and] at HV2
          clear c2
          go_wp2_with fail
          refine (HT4.out.conj a HA.out).mono ?_
          rintro e w5 ⟨rfl, hB5⟩
          have HT5 := Lib.hid (HT4.out.below hB5)
          have HB5 := Lib.hid (below_trans' HB4.out hB5)
          clear hB5 HT4 HB4
          have hcall := HT5.out.conj a HA.out
          generalize (tabOf R).c a = ca at HV2 hcall ⊢
          have HC5 := Lib.hid hcall
          clear hcall
          by_cases c0 : ca = 0
          · have f0 : (ca != 0) = false := by simpa using c0
            have HV3 := Lib.hid (show hangsB (tabOf R) a r = false by rw [HV2.out, c0]; rfl)
            clear c0
            go_wp2_with fail
            go_ret
            exact ⟨ret_b (by rw [HV3.out]), HB5.out⟩
          · have f0 : (ca != 0) = true := by simpa using c0
            have HV3 := Lib.hid (show hangsB (tabOf R) a r = decide (ca ≠ 2) by rw [HV2.out, decide_eq_true c0, Bool.true_and])
            clear c0
            go_wp2_with fail
            refine HC5.out.mono ?_
            rintro e w6 ⟨rfl, hB6⟩
            have HB6 := Lib.hid (below_trans' HB5.out hB6)
            clear hB6
            go_wp2_with fail
            go_ret
            exact ⟨ret_b (by rw [HV3.out]; simp [bne]; rfl), HB6.out⟩
        · have f2 : (cr == 2) = false := by simpa using c2
          rw [decide_eq_false c2, Bool.false_and] at HV2
          clear c2
          go_wp2_with fail
          go_ret
          exact ⟨ret_b (by rw [HV2.out]), HB4.out⟩
    · have e0 : (br == 0) = false := by simpa using b0
      have HV2 := Lib.hid (show hangsB (tabOf R) a r = false by rw [HV.out, if_neg b6, if_neg b0])
      clear b6 b0
      go_wp2_with fail
      go_ret
      exact ⟨ret_b (by rw [HV2.out]), HB1.out⟩
end
end Go.Proofs.Ythlpelfogplomaa

/- back.sure. -/
namespace Go.Proofs.Ythlpelfogplomaa
open Go.RowKit

section
variable {R : List Rw} {s : List Int} {w : World} {sv : Value} {tp : Nat}
set_option maxRecDepth 100000 in
set_option maxHeartbeats 16000000 in
theorem sure_any (a : Nat) (H : (tabOf R).Ok) (hT : Tb R w tp) (hs : RunesIn w sv s) (ok : RunesOk s) (ha : a < s.length) (hl : s.length ≤ 1000000) :
    Calls Try.prog 125 #[.pointer (some ⟨tp, 0, none⟩), sv, .int .i64 (a : Nat)] w fun e w' => (∃ q : Nat, e = .returned (.int .i64 (q : Nat)) ∧ q ≤ a ∧ begAt (tabOf R) s q = true) ∧ Below w.heap.size w w' := by
  have HT := Lib.hid hT
  have HS := Lib.hid hs
  have HOk := Lib.hid ok
  have HTb := Lib.hid H
  obtain ⟨sl, cap, rfl, hcap, hmax, hcells⟩ := runes_cells hs
  unfold maxLen at hmax
  obtain ⟨b0, off, rfl, _, _⟩ := hcells (by omega)
  clear hT hs ok hcells H
  go_enter Try.func125, Try.ntmps125
  go_wp2_with fail
  go_loopw [2] (fun iv wr => ∃ k : Nat, k ≤ a ∧ iv = .int .i64 ((k : Nat) : Int) ∧ Below w.heap.size w wr) (fun iv _ => (intOf iv).toNat)
  case atStart => exact ⟨a, Nat.le_refl _, rfl, .refl _ _⟩
  case round =>
    obtain ⟨k, hk, rfl, hB⟩ := hrel
    have HB := Lib.hid hB
    clear hB
    rcases k with _ | k
    · have HV := Lib.hid (begAt_zero (tabOf R) (s := s) (fun e => by rw [e] at ha; cases ha))
      go_wp2_with fail
      go_ret
      exact ⟨⟨0, rfl, Nat.zero_le _, HV.out⟩, HB.out⟩
    · obtain ⟨x, hx⟩ : ∃ x, s[k]? = some x := ⟨s[k], List.getElem?_eq_getElem (by omega)⟩
      obtain ⟨y, hy⟩ : ∃ x, s[k + 1]? = some x := ⟨s[k + 1], List.getElem?_eq_getElem (by omega)⟩
      have HIx := Lib.hid (HOk.out.get hx)
      have HIy := Lib.hid (HOk.out.get hy)
      obtain ⟨b1, off1, cap1, hv, _, _, _, _, dx⟩ := rune_cell (HS.out.below HB.out) hx
      cases hv
      obtain ⟨b1, off1, cap1, hv, _, _, _, _, dy⟩ := rune_cell (HS.out.below HB.out) hy
      cases hv
      have HSure := Lib.hid (fun (h1 : cutB (tabOf R) (nextSt (tabOf R) St0 x) y = true) (h2 : hangsB (tabOf R) x y = false) => show begAt (tabOf R) s (k + 1) = true by
        unfold begAt
        rw [hy, take_succ_rev hx]
        exact two_sure HTb.out _ h1 h2)
      have e1 : (((k + 1 : Nat) : Int)) = (k : Int) + 1 := by omega
      have r0 : (k : Int) + 1 > 0 := by omega
      have r1 : (k : Int) + 1 - 1 = (k : Int) := by omega
      have r2 := IntWalk.i64_in (k : Int) (by omega)
      have r3 : (0 : Int) ≤ (k : Int) := by omega
      have r4 : (k : Int) < (s.length : Int) := by omega
      have r5 : (0 : Int) ≤ (k : Int) + 1 := by omega
      have r6 : (k : Int) + 1 < (s.length : Int) := by omega
      have hbl : b0 < wr.heap.size := World.block_lt_of_cell? wr _ dx
      have HBz := Lib.hid (HB.out.alloc HB.out.size (.cells #[.bool false, .int .i64 0, .int .i64 0, .int .i64 0, .bool false] 216))
      have gx : (wr.alloc (.cells #[.bool false, .int .i64 0, .int .i64 0, .int .i64 0, .bool false] 216)).cell? ⟨b0, off + k, none⟩ = some (.int .i32 x) := (World.cell?_of_block (Below.heap_alloc _ _ _ hbl)).trans dx
      have gy : (wr.alloc (.cells #[.bool false, .int .i64 0, .int .i64 0, .int .i64 0, .bool false] 216)).cell? ⟨b0, off + (k + 1), none⟩ = some (.int .i32 y) := (World.cell?_of_block (Below.heap_alloc _ _ _ hbl)).trans dy
      have hz : stRow (wr.alloc (.cells #[.bool false, .int .i64 0, .int .i64 0, .int .i64 0, .bool false] 216)) wr.heap.size ⟨false, 0, 0, 0, false⟩ := heap_alloc_new wr _
      have HZ := Lib.hid hz
      have HCall := Lib.hid (step_any St0 x (wr.alloc (.cells #[.bool false, .int .i64 0, .int .i64 0, .int .i64 0, .bool false] 216)).drew ((HT.out.below HBz.out).below (below_dN (.refl _ _) 1)) HIx.out)
      have HX := Lib.hid hx
      have HY := Lib.hid hy
      clear hx hy dx dy
      go_wp2_with fail
      have c0 : (wr.alloc (.cells #[.bool false, .int .i64 0, .int .i64 0, .int .i64 0, .bool false] 216)).cell? ⟨wr.heap.size, 0, none⟩ = some (.bool false) := row_cells hz rfl
      have c1 : (wr.alloc (.cells #[.bool false, .int .i64 0, .int .i64 0, .int .i64 0, .bool false] 216)).cell? ⟨wr.heap.size, 1, none⟩ = some (.int .i64 0) := row_cells hz rfl
      have c2 : (wr.alloc (.cells #[.bool false, .int .i64 0, .int .i64 0, .int .i64 0, .bool false] 216)).cell? ⟨wr.heap.size, 2, none⟩ = some (.int .i64 0) := row_cells hz rfl
      have c3 : (wr.alloc (.cells #[.bool false, .int .i64 0, .int .i64 0, .int .i64 0, .bool false] 216)).cell? ⟨wr.heap.size, 3, none⟩ = some (.int .i64 0) := row_cells hz rfl
      have c4 : (wr.alloc (.cells #[.bool false, .int .i64 0, .int .i64 0, .int .i64 0, .bool false] 216)).cell? ⟨wr.heap.size, 4, none⟩ = some (.bool false) := row_cells hz rfl
      unfold stV at HCall
      dsimp only [St0] at HCall
      have HSure2 := HSure.out
      unfold St0 at HSure2
      generalize hn : nextSt (tabOf R) ⟨false, 0, 0, 0, false⟩ x = n at HSure2 HCall
      obtain ⟨s0, s1, s2, s3, s4⟩ := n
      generalize cutB (tabOf R) ⟨false, 0, 0, 0, false⟩ x = cu0 at HCall
      have HSure := Lib.hid HSure2
      clear hn HSure2
      refine wp_region_held_drew (S := fun w' => w'.cell? ⟨b0, off + k, none⟩ = some (.int .i32 x)) (by kernel_rfl) gx (fun hHeld => ?_)
      refine hd_take 1 rfl (by kernel_rfl) (by kernel_rfl) (by kernel_rfl) (fun _ _ _ h => h) (by rfl) (by intro w hSw; (try dsimp only at hSw); go_split_ands; go_simp; first | done | with_reducible rfl) hHeld ?_
      simp only [Act.put, List.setIfInBounds_toArray, List.set_cons_zero, List.set_cons_succ]
      refine hd_take 2 rfl (by kernel_rfl) (by kernel_rfl) (by kernel_rfl) (fun _ _ _ h => h) (by rfl) (by intro w hSw; (try dsimp only at hSw); go_split_ands; go_simp; first | done | with_reducible rfl) hHeld ?_
      simp only [Act.put, List.setIfInBounds_toArray, List.set_cons_zero, List.set_cons_succ]
      refine hd_take 3 rfl (by kernel_rfl) (by kernel_rfl) (by kernel_rfl) (fun _ _ _ h => h) (by rfl) (by intro w hSw; (try dsimp only at hSw); go_split_ands; go_simp; first | done | with_reducible rfl) hHeld ?_
      simp only [Act.put, List.setIfInBounds_toArray, List.set_cons_zero, List.set_cons_succ]
      refine hd_take 4 rfl (by kernel_rfl) (by kernel_rfl) (by kernel_rfl) (fun _ _ _ h => h) (by rfl) (by intro w hSw; (try dsimp only at hSw); go_split_ands; go_simp; first | done | with_reducible rfl) hHeld ?_
      simp only [Act.put, List.setIfInBounds_toArray, List.set_cons_zero, List.set_cons_succ]
      refine hd_take 5 rfl (by kernel_rfl) (by kernel_rfl) (by kernel_rfl) (fun _ _ _ h => h) (by rfl) (by intro w hSw; (try dsimp only at hSw); go_split_ands; go_simp; first | done | with_reducible rfl) hHeld ?_
      simp only [Act.put, List.setIfInBounds_toArray, List.set_cons_zero, List.set_cons_succ]
      refine hd_take 6 rfl (by kernel_rfl) (by kernel_rfl) (by kernel_rfl) (fun _ _ _ h => h) (by rfl) (by intro w hSw; (try dsimp only at hSw); go_split_ands; go_simp; first | done | with_reducible rfl) hHeld ?_
      simp only [Act.put, List.setIfInBounds_toArray, List.set_cons_zero, List.set_cons_succ]
      refine hd_step 0 (by kernel_rfl) rfl (fun K hK => ?_)
      go_simp
      refine hK.out _ _ gx (fun hHeld => ?_)
      clear hK K
      try simp only [Act.put, List.setIfInBounds_toArray, List.set_cons_zero, List.set_cons_succ]
      refine hd_step 7 (by kernel_rfl) rfl (fun K hK => ?_)
      go_simp
      go_at_call 124
      refine HCall.out.mono ?_
      rintro e w5 ⟨rfl, hB5⟩
      have px := cell_later hB5 (show (wr.alloc (.cells #[.bool false, .int .i64 0, .int .i64 0, .int .i64 0, .bool false] 216)).drew.cell? _ = _ from gx)
      have py := cell_later hB5 (show (wr.alloc (.cells #[.bool false, .int .i64 0, .int .i64 0, .int .i64 0, .bool false] 216)).drew.cell? _ = _ from gy)
      have hz5 := stRow.kept (show stRow (wr.alloc (.cells #[.bool false, .int .i64 0, .int .i64 0, .int .i64 0, .bool false] 216)).drew wr.heap.size _ from HZ.out) hB5
      have z0 : w5.cell? ⟨wr.heap.size, 0, none⟩ = some (.bool false) := row_cells hz5 rfl
      have z1 : w5.cell? ⟨wr.heap.size, 1, none⟩ = some (.int .i64 0) := row_cells hz5 rfl
      have z2 : w5.cell? ⟨wr.heap.size, 2, none⟩ = some (.int .i64 0) := row_cells hz5 rfl
      have z3 : w5.cell? ⟨wr.heap.size, 3, none⟩ = some (.int .i64 0) := row_cells hz5 rfl
      have z4 : w5.cell? ⟨wr.heap.size, 4, none⟩ = some (.bool false) := row_cells hz5 rfl
      have y0 := row_warm hz5 0
      have y1 := row_warm hz5 1
      have y2 := row_warm hz5 2
      have y3 := row_warm hz5 3
      have y4 := row_warm hz5 4
      have HZ5 := Lib.hid hz5
      have HB5 := Lib.hid ((below_dN HBz.out 1).trans (hB5.mono (below_dN HBz.out 1).size))
      have hne : wr.heap.size ≠ b0 := by omega
      clear hz5 hB5
      go_wp2_with fail
      refine hK.out _ _ px (fun hHeld => ?_)
      clear hK K
      try simp only [Act.put, List.setIfInBounds_toArray, List.set_cons_zero, List.set_cons_succ]
      refine hd_take 8 rfl (by kernel_rfl) (by kernel_rfl) (by kernel_rfl) (fun _ _ _ h => h) (by rfl) (by intro w hSw; (try dsimp only at hSw); go_split_ands; go_simp; first | done | with_reducible rfl) hHeld ?_
      simp only [Act.put, List.setIfInBounds_toArray, List.set_cons_zero, List.set_cons_succ]
      refine hd_take 9 rfl (by kernel_rfl) (by kernel_rfl) (by kernel_rfl) (fun _ _ _ h => h) (by rfl) (by intro w hSw; (try dsimp only at hSw); go_split_ands; go_simp; first | done | with_reducible rfl) hHeld ?_
      simp only [Act.put, List.setIfInBounds_toArray, List.set_cons_zero, List.set_cons_succ]
      refine hd_take 10 rfl (by kernel_rfl) (by kernel_rfl) (by kernel_rfl) (fun _ _ _ h => h) (by rfl) (by intro w hSw; (try dsimp only at hSw); go_split_ands; go_simp; first | done | with_reducible rfl) hHeld ?_
      simp only [Act.put, List.setIfInBounds_toArray, List.set_cons_zero, List.set_cons_succ]
      refine hd_step 11 (by kernel_rfl) rfl (fun K hK => ?_)
      go_simp
      refine hK.out _ _ (set5_other px hne) (fun hHeld => ?_)
      clear hK K
      try simp only [Act.put, List.setIfInBounds_toArray, List.set_cons_zero, List.set_cons_succ]
      refine wpAnyH_done (by kernel_rfl) ?_ _
      have hR : stRow (((((w5.setCell ⟨wr.heap.size, 0, none⟩ (.bool s0)).setCell ⟨wr.heap.size, 1, none⟩ (.int .i64 s1)).setCell ⟨wr.heap.size, 2, none⟩ (.int .i64 s2)).setCell ⟨wr.heap.size, 3, none⟩ (.int .i64 s3)).setCell ⟨wr.heap.size, 4, none⟩ (.bool s4)) wr.heap.size ⟨s0, s1, s2, s3, s4⟩ := stRow_set HZ5.out ⟨s0, s1, s2, s3, s4⟩
      have HRs := Lib.hid hR
      have hB4 : Below w.heap.size w (((((w5.setCell ⟨wr.heap.size, 0, none⟩ (.bool s0)).setCell ⟨wr.heap.size, 1, none⟩ (.int .i64 s1)).setCell ⟨wr.heap.size, 2, none⟩ (.int .i64 s2)).setCell ⟨wr.heap.size, 3, none⟩ (.int .i64 s3)).setCell ⟨wr.heap.size, 4, none⟩ (.bool s4)) := below_set5 HB5.out HB.out.size
      have HB4 := Lib.hid hB4
      have dx : (((((w5.setCell ⟨wr.heap.size, 0, none⟩ (.bool s0)).setCell ⟨wr.heap.size, 1, none⟩ (.int .i64 s1)).setCell ⟨wr.heap.size, 2, none⟩ (.int .i64 s2)).setCell ⟨wr.heap.size, 3, none⟩ (.int .i64 s3)).setCell ⟨wr.heap.size, 4, none⟩ (.bool s4)).cell? ⟨b0, off + k, none⟩ = some (.int .i32 x) := set5_other px hne
      have d0 : (((((w5.setCell ⟨wr.heap.size, 0, none⟩ (.bool s0)).setCell ⟨wr.heap.size, 1, none⟩ (.int .i64 s1)).setCell ⟨wr.heap.size, 2, none⟩ (.int .i64 s2)).setCell ⟨wr.heap.size, 3, none⟩ (.int .i64 s3)).setCell ⟨wr.heap.size, 4, none⟩ (.bool s4)).cell? ⟨b0, off + (k + 1), none⟩ = some (.int .i32 y) := set5_other py hne
      clear hHeld px py z0 z1 z2 z3 z4 y0 y1 y2 y3 y4 c0 c1 c2 c3 c4 gx gy hz HZ HZ5 HB5 HBz HCall hB4 hne hbl
      generalize (((((w5.setCell ⟨wr.heap.size, 0, none⟩ (.bool s0)).setCell ⟨wr.heap.size, 1, none⟩ (.int .i64 s1)).setCell ⟨wr.heap.size, 2, none⟩ (.int .i64 s2)).setCell ⟨wr.heap.size, 3, none⟩ (.int .i64 s3)).setCell ⟨wr.heap.size, 4, none⟩ (.bool s4)) = w4 at hR HRs HB4 dx d0 ⊢
      generalize wr.heap.size = n1 at hR HRs ⊢
      go_wp2_with fail
      have c0 : w4.cell? ⟨n1, 0, none⟩ = some (.bool s0) := row_cells hR rfl
      have c1 : w4.cell? ⟨n1, 1, none⟩ = some (.int .i64 s1) := row_cells hR rfl
      have c2 : w4.cell? ⟨n1, 2, none⟩ = some (.int .i64 s2) := row_cells hR rfl
      have c3 : w4.cell? ⟨n1, 3, none⟩ = some (.int .i64 s3) := row_cells hR rfl
      have c4 : w4.cell? ⟨n1, 4, none⟩ = some (.bool s4) := row_cells hR rfl
      have HBz := Lib.hid (HB4.out.alloc HB4.out.size (.cells #[.bool false, .int .i64 0, .int .i64 0, .int .i64 0, .bool false] 216))
      have HCall := Lib.hid (step_any ⟨s0, s1, s2, s3, s4⟩ y (w4.alloc (.cells #[.bool false, .int .i64 0, .int .i64 0, .int .i64 0, .bool false] 216)).drew ((HT.out.below HBz.out).below (below_dN (.refl _ _) 1)) HIy.out)
      have HCallA := Lib.hid (step_any ⟨s0, s1, s2, s3, s4⟩ y w4.drew ((HT.out.below HB4.out).below (below_dN (.refl _ _) 1)) HIy.out)
      have hsl := HRs.out.lt
      have hdl : b0 < w4.heap.size := World.block_lt_of_cell? w4 _ d0
      have g0 : (w4.alloc (.cells #[.bool false, .int .i64 0, .int .i64 0, .int .i64 0, .bool false] 216)).drew.cell? ⟨n1, 0, none⟩ = some (.bool s0) := (World.cell?_of_block (Below.heap_alloc _ _ _ hsl)).trans c0
      have g1 : (w4.alloc (.cells #[.bool false, .int .i64 0, .int .i64 0, .int .i64 0, .bool false] 216)).drew.cell? ⟨n1, 1, none⟩ = some (.int .i64 s1) := (World.cell?_of_block (Below.heap_alloc _ _ _ hsl)).trans c1
      have g2 : (w4.alloc (.cells #[.bool false, .int .i64 0, .int .i64 0, .int .i64 0, .bool false] 216)).drew.cell? ⟨n1, 2, none⟩ = some (.int .i64 s2) := (World.cell?_of_block (Below.heap_alloc _ _ _ hsl)).trans c2
      have g3 : (w4.alloc (.cells #[.bool false, .int .i64 0, .int .i64 0, .int .i64 0, .bool false] 216)).drew.cell? ⟨n1, 3, none⟩ = some (.int .i64 s3) := (World.cell?_of_block (Below.heap_alloc _ _ _ hsl)).trans c3
      have g4 : (w4.alloc (.cells #[.bool false, .int .i64 0, .int .i64 0, .int .i64 0, .bool false] 216)).drew.cell? ⟨n1, 4, none⟩ = some (.bool s4) := (World.cell?_of_block (Below.heap_alloc _ _ _ hsl)).trans c4
      have g5 : (w4.alloc (.cells #[.bool false, .int .i64 0, .int .i64 0, .int .i64 0, .bool false] 216)).drew.cell? ⟨b0, off + (k + 1), none⟩ = some (.int .i32 y) := (World.cell?_of_block (Below.heap_alloc _ _ _ hdl)).trans d0
      have HG := Lib.hid (show stRow (w4.alloc (.cells #[.bool false, .int .i64 0, .int .i64 0, .int .i64 0, .bool false] 216)).drew n1 ⟨s0, s1, s2, s3, s4⟩ from (Below.heap_alloc _ _ _ hsl).trans HRs.out)
      have HZ := Lib.hid (show stRow (w4.alloc (.cells #[.bool false, .int .i64 0, .int .i64 0, .int .i64 0, .bool false] 216)).drew w4.heap.size ⟨false, 0, 0, 0, false⟩ from heap_alloc_new w4 _)
      have hne1 : w4.heap.size ≠ n1 := by omega
      have hne2 : w4.heap.size ≠ b0 := by omega
      clear hR
      unfold stV at HCall HCallA
      dsimp only at HCall HCallA
      generalize hn : nextSt (tabOf R) ⟨s0, s1, s2, s3, s4⟩ y = n at HSure HCall HCallA
      obtain ⟨m0, m1, m2, m3, m4⟩ := n
      generalize hc : cutB (tabOf R) ⟨s0, s1, s2, s3, s4⟩ y = cu at HSure HCall HCallA
      clear hn hc
      go_wp2_with fail
      refine wp_region_held_drew (S := fun w' => w'.cell? ⟨n1, 0, none⟩ = some (.bool s0) ∧ w'.cell? ⟨n1, 1, none⟩ = some (.int .i64 s1) ∧ w'.cell? ⟨n1, 2, none⟩ = some (.int .i64 s2) ∧ w'.cell? ⟨n1, 3, none⟩ = some (.int .i64 s3) ∧ w'.cell? ⟨n1, 4, none⟩ = some (.bool s4) ∧ w'.cell? ⟨b0, off + (k + 1), none⟩ = some (.int .i32 y)) (by kernel_rfl) ⟨c0, c1, c2, c3, c4, d0⟩ (fun hHeld => ?_)
      refine hd_take 0 rfl (by kernel_rfl) (by kernel_rfl) (by kernel_rfl) (fun _ _ _ h => h) (by rfl) (by intro w hSw; (try dsimp only at hSw); go_split_ands; go_simp; first | done | with_reducible rfl) hHeld ?_
      simp only [Act.put, List.setIfInBounds_toArray, List.set_cons_zero, List.set_cons_succ]
      refine hd_take 1 rfl (by kernel_rfl) (by kernel_rfl) (by kernel_rfl) (fun _ _ _ h => h) (by rfl) (by intro w hSw; (try dsimp only at hSw); go_split_ands; go_simp; first | done | with_reducible rfl) hHeld ?_
      simp only [Act.put, List.setIfInBounds_toArray, List.set_cons_zero, List.set_cons_succ]
      refine hd_take 2 rfl (by kernel_rfl) (by kernel_rfl) (by kernel_rfl) (fun _ _ _ h => h) (by rfl) (by intro w hSw; (try dsimp only at hSw); go_split_ands; go_simp; first | done | with_reducible rfl) hHeld ?_
      simp only [Act.put, List.setIfInBounds_toArray, List.set_cons_zero, List.set_cons_succ]
      refine hd_take 3 rfl (by kernel_rfl) (by kernel_rfl) (by kernel_rfl) (fun _ _ _ h => h) (by rfl) (by intro w hSw; (try dsimp only at hSw); go_split_ands; go_simp; first | done | with_reducible rfl) hHeld ?_
      simp only [Act.put, List.setIfInBounds_toArray, List.set_cons_zero, List.set_cons_succ]
      refine hd_take 4 rfl (by kernel_rfl) (by kernel_rfl) (by kernel_rfl) (fun _ _ _ h => h) (by rfl) (by intro w hSw; (try dsimp only at hSw); go_split_ands; go_simp; first | done | with_reducible rfl) hHeld ?_
      simp only [Act.put, List.setIfInBounds_toArray, List.set_cons_zero, List.set_cons_succ]
      refine hd_take 5 rfl (by kernel_rfl) (by kernel_rfl) (by kernel_rfl) (fun _ _ _ h => h) (by rfl) (by intro w hSw; (try dsimp only at hSw); go_split_ands; go_simp; first | done | with_reducible rfl) hHeld ?_
      simp only [Act.put, List.setIfInBounds_toArray, List.set_cons_zero, List.set_cons_succ]
      refine hd_two 6 10 (by kernel_rfl) rfl rfl (fun K hK => ?_) (fun K hK => ?_)
      case' refine_1 =>
        go_simp
        go_at_call 124
        refine HCallA.out.mono ?_
        rintro e w5 ⟨rfl, hB5⟩
        have p0 := cell_later hB5 (show w4.drew.cell? _ = _ from c0)
        have p1 := cell_later hB5 (show w4.drew.cell? _ = _ from c1)
        have p2 := cell_later hB5 (show w4.drew.cell? _ = _ from c2)
        have p3 := cell_later hB5 (show w4.drew.cell? _ = _ from c3)
        have p4 := cell_later hB5 (show w4.drew.cell? _ = _ from c4)
        have p5 := cell_later hB5 (show w4.drew.cell? _ = _ from d0)
        have hs5 : w4.heap.size ≤ w5.heap.size := hB5.size
        have HB5 := Lib.hid ((below_dN HB4.out 1).trans (hB5.mono (below_dN HB4.out 1).size))
        have HR5 := Lib.hid (stRow.kept (show stRow w4.drew n1 _ from HRs.out) hB5)
        clear hB5
        go_wp2_with fail
        refine hK.out _ _ ⟨p0, p1, p2, p3, p4, p5⟩ (fun hHeld => ?_)
        clear hK K
        try simp only [Act.put, List.setIfInBounds_toArray, List.set_cons_zero, List.set_cons_succ]
        refine hd_take 7 rfl (by kernel_rfl) (by kernel_rfl) (by kernel_rfl) (fun _ _ _ h => h) (by rfl) (by intro w hSw; (try dsimp only at hSw); go_split_ands; go_simp; first | done | with_reducible rfl) hHeld ?_
        simp only [Act.put, List.setIfInBounds_toArray, List.set_cons_zero, List.set_cons_succ]
        refine hd_take 8 rfl (by kernel_rfl) (by kernel_rfl) (by kernel_rfl) (fun _ _ _ h => h) (by rfl) (by intro w hSw; (try dsimp only at hSw); go_split_ands; go_simp; first | done | with_reducible rfl) hHeld ?_
        simp only [Act.put, List.setIfInBounds_toArray, List.set_cons_zero, List.set_cons_succ]
        refine hd_take 9 rfl (by kernel_rfl) (by kernel_rfl) (by kernel_rfl) (fun _ _ _ h => h) (by rfl) (by intro w hSw; (try dsimp only at hSw); go_split_ands; go_simp; first | done | with_reducible rfl) hHeld ?_
        simp only [Act.put, List.setIfInBounds_toArray, List.set_cons_zero, List.set_cons_succ]
        refine hd_step 10 (by kernel_rfl) rfl (fun K hK => ?_)
        go_simp
        have v0 := (World.cell?_of_block (Below.heap_alloc w5 (.cells #[.bool false, .int .i64 0, .int .i64 0, .int .i64 0, .bool false] 216) _ (Nat.lt_of_lt_of_le hsl hs5))).trans p0
        have v1 := (World.cell?_of_block (Below.heap_alloc w5 (.cells #[.bool false, .int .i64 0, .int .i64 0, .int .i64 0, .bool false] 216) _ (Nat.lt_of_lt_of_le hsl hs5))).trans p1
        have v2 := (World.cell?_of_block (Below.heap_alloc w5 (.cells #[.bool false, .int .i64 0, .int .i64 0, .int .i64 0, .bool false] 216) _ (Nat.lt_of_lt_of_le hsl hs5))).trans p2
        have v3 := (World.cell?_of_block (Below.heap_alloc w5 (.cells #[.bool false, .int .i64 0, .int .i64 0, .int .i64 0, .bool false] 216) _ (Nat.lt_of_lt_of_le hsl hs5))).trans p3
        have v4 := (World.cell?_of_block (Below.heap_alloc w5 (.cells #[.bool false, .int .i64 0, .int .i64 0, .int .i64 0, .bool false] 216) _ (Nat.lt_of_lt_of_le hsl hs5))).trans p4
        have v5 := (World.cell?_of_block (Below.heap_alloc w5 (.cells #[.bool false, .int .i64 0, .int .i64 0, .int .i64 0, .bool false] 216) _ (Nat.lt_of_lt_of_le hdl hs5))).trans p5
        refine hK.out _ _ ⟨v0, v1, v2, v3, v4, v5⟩ (fun hHeld => ?_)
        clear hK K
        try simp only [Act.put, List.setIfInBounds_toArray, List.set_cons_zero, List.set_cons_succ]
        have hz : stRow (w5.alloc (.cells #[.bool false, .int .i64 0, .int .i64 0, .int .i64 0, .bool false] 216)) w5.heap.size ⟨false, 0, 0, 0, false⟩ := heap_alloc_new w5 _
        have z0 : (w5.alloc (.cells #[.bool false, .int .i64 0, .int .i64 0, .int .i64 0, .bool false] 216)).cell? ⟨w5.heap.size, 0, none⟩ = some (.bool false) := row_cells hz rfl
        have z1 : (w5.alloc (.cells #[.bool false, .int .i64 0, .int .i64 0, .int .i64 0, .bool false] 216)).cell? ⟨w5.heap.size, 1, none⟩ = some (.int .i64 0) := row_cells hz rfl
        have z2 : (w5.alloc (.cells #[.bool false, .int .i64 0, .int .i64 0, .int .i64 0, .bool false] 216)).cell? ⟨w5.heap.size, 2, none⟩ = some (.int .i64 0) := row_cells hz rfl
        have z3 : (w5.alloc (.cells #[.bool false, .int .i64 0, .int .i64 0, .int .i64 0, .bool false] 216)).cell? ⟨w5.heap.size, 3, none⟩ = some (.int .i64 0) := row_cells hz rfl
        have z4 : (w5.alloc (.cells #[.bool false, .int .i64 0, .int .i64 0, .int .i64 0, .bool false] 216)).cell? ⟨w5.heap.size, 4, none⟩ = some (.bool false) := row_cells hz rfl
        have y0 := row_warm hz 0
        have y1 := row_warm hz 1
        have y2 := row_warm hz 2
        have y3 := row_warm hz 3
        have y4 := row_warm hz 4
        refine hd_step 11 (by kernel_rfl) rfl (fun K hK => ?_)
        go_simp
        refine hK.out _ _ ⟨(World.cell?_of_block (Below.heap_alloc w5 _ _ (Nat.lt_of_lt_of_le hsl hs5))).trans p0, (World.cell?_of_block (Below.heap_alloc w5 _ _ (Nat.lt_of_lt_of_le hsl hs5))).trans p1, (World.cell?_of_block (Below.heap_alloc w5 _ _ (Nat.lt_of_lt_of_le hsl hs5))).trans p2, (World.cell?_of_block (Below.heap_alloc w5 _ _ (Nat.lt_of_lt_of_le hsl hs5))).trans p3, (World.cell?_of_block (Below.heap_alloc w5 _ _ (Nat.lt_of_lt_of_le hsl hs5))).trans p4, (World.cell?_of_block (Below.heap_alloc w5 _ _ (Nat.lt_of_lt_of_le hdl hs5))).trans p5⟩ (fun hHeld => ?_)
        clear hK K
        try simp only [Act.put, List.setIfInBounds_toArray, List.set_cons_zero, List.set_cons_succ]
        refine hd_step 12 (by kernel_rfl) rfl (fun K hK => ?_)
        go_simp
        refine hK.out _ _ ⟨(World.cell?_of_block (Below.heap_alloc w5 _ _ (Nat.lt_of_lt_of_le hsl hs5))).trans p0, (World.cell?_of_block (Below.heap_alloc w5 _ _ (Nat.lt_of_lt_of_le hsl hs5))).trans p1, (World.cell?_of_block (Below.heap_alloc w5 _ _ (Nat.lt_of_lt_of_le hsl hs5))).trans p2, (World.cell?_of_block (Below.heap_alloc w5 _ _ (Nat.lt_of_lt_of_le hsl hs5))).trans p3, (World.cell?_of_block (Below.heap_alloc w5 _ _ (Nat.lt_of_lt_of_le hsl hs5))).trans p4, (World.cell?_of_block (Below.heap_alloc w5 _ _ (Nat.lt_of_lt_of_le hdl hs5))).trans p5⟩ (fun hHeld => ?_)
        clear hK K
        try simp only [Act.put, List.setIfInBounds_toArray, List.set_cons_zero, List.set_cons_succ]
        refine wpAnyH_done (by kernel_rfl) ?_ _
        have hNf : stRow (w5.alloc (.cells #[.bool m0, .int .i64 m1, .int .i64 m2, .int .i64 m3, .bool m4] 216)) w5.heap.size ⟨m0, m1, m2, m3, m4⟩ := heap_alloc_new w5 _
        have hSf : stRow (w5.alloc (.cells #[.bool m0, .int .i64 m1, .int .i64 m2, .int .i64 m3, .bool m4] 216)) n1 ⟨s0, s1, s2, s3, s4⟩ := (Below.heap_alloc _ _ _ (Nat.lt_of_lt_of_le hsl hs5)).trans HR5.out
        have hBf := HB5.out.alloc HB5.out.size (.cells #[.bool m0, .int .i64 m1, .int .i64 m2, .int .i64 m3, .bool m4] 216)
        have hDf := (World.cell?_of_block (Below.heap_alloc w5 (.cells #[.bool m0, .int .i64 m1, .int .i64 m2, .int .i64 m3, .bool m4] 216) _ (Nat.lt_of_lt_of_le hdl hs5))).trans p5
        clear hz z0 z1 z2 z3 z4 y0 y1 y2 y3 y4 v0 v1 v2 v3 v4 v5 HB5 HR5 hHeld p0 p1 p2 p3 p4 p5 hs5
        generalize w5.alloc (.cells #[.bool m0, .int .i64 m1, .int .i64 m2, .int .i64 m3, .bool m4] 216) = wf at hNf hSf hBf hDf ⊢
        generalize w5.heap.size = nb at hNf ⊢
      case' refine_2 =>
        go_simp
        refine hK.out _ _ ⟨g0, g1, g2, g3, g4, g5⟩ (fun hHeld => ?_)
        clear hK K
        try simp only [Act.put, List.setIfInBounds_toArray, List.set_cons_zero, List.set_cons_succ]
        refine hd_step 6 (by kernel_rfl) rfl (fun K hK => ?_)
        go_simp
        go_at_call 124
        refine HCall.out.mono ?_
        rintro e w5 ⟨rfl, hB5⟩
        have p0 := cell_later hB5 g0
        have p1 := cell_later hB5 g1
        have p2 := cell_later hB5 g2
        have p3 := cell_later hB5 g3
        have p4 := cell_later hB5 g4
        have p5 := cell_later hB5 g5
        have hz := HZ.out.kept hB5
        have z0 : w5.cell? ⟨w4.heap.size, 0, none⟩ = some (.bool false) := row_cells hz rfl
        have z1 : w5.cell? ⟨w4.heap.size, 1, none⟩ = some (.int .i64 0) := row_cells hz rfl
        have z2 : w5.cell? ⟨w4.heap.size, 2, none⟩ = some (.int .i64 0) := row_cells hz rfl
        have z3 : w5.cell? ⟨w4.heap.size, 3, none⟩ = some (.int .i64 0) := row_cells hz rfl
        have z4 : w5.cell? ⟨w4.heap.size, 4, none⟩ = some (.bool false) := row_cells hz rfl
        have y0 := row_warm hz 0
        have y1 := row_warm hz 1
        have y2 := row_warm hz 2
        have y3 := row_warm hz 3
        have y4 := row_warm hz 4
        have HZ5 := Lib.hid hz
        have HB5 := Lib.hid ((below_dN HBz.out 1).trans (hB5.mono (below_dN HBz.out 1).size))
        have HR5 := Lib.hid (HG.out.kept hB5)
        clear hz hB5
        go_wp2_with fail
        refine hK.out _ _ ⟨p0, p1, p2, p3, p4, p5⟩ (fun hHeld => ?_)
        clear hK K
        try simp only [Act.put, List.setIfInBounds_toArray, List.set_cons_zero, List.set_cons_succ]
        refine hd_take 7 rfl (by kernel_rfl) (by kernel_rfl) (by kernel_rfl) (fun _ _ _ h => h) (by rfl) (by intro w hSw; (try dsimp only at hSw); go_split_ands; go_simp; first | done | with_reducible rfl) hHeld ?_
        simp only [Act.put, List.setIfInBounds_toArray, List.set_cons_zero, List.set_cons_succ]
        refine hd_take 8 rfl (by kernel_rfl) (by kernel_rfl) (by kernel_rfl) (fun _ _ _ h => h) (by rfl) (by intro w hSw; (try dsimp only at hSw); go_split_ands; go_simp; first | done | with_reducible rfl) hHeld ?_
        simp only [Act.put, List.setIfInBounds_toArray, List.set_cons_zero, List.set_cons_succ]
        refine hd_take 9 rfl (by kernel_rfl) (by kernel_rfl) (by kernel_rfl) (fun _ _ _ h => h) (by rfl) (by intro w hSw; (try dsimp only at hSw); go_split_ands; go_simp; first | done | with_reducible rfl) hHeld ?_
        simp only [Act.put, List.setIfInBounds_toArray, List.set_cons_zero, List.set_cons_succ]
        refine hd_step 11 (by kernel_rfl) rfl (fun K hK => ?_)
        go_simp
        refine hK.out _ _ ⟨set5_other p0 hne1, set5_other p1 hne1, set5_other p2 hne1, set5_other p3 hne1, set5_other p4 hne1, set5_other p5 hne2⟩ (fun hHeld => ?_)
        clear hK K
        try simp only [Act.put, List.setIfInBounds_toArray, List.set_cons_zero, List.set_cons_succ]
        refine hd_step 12 (by kernel_rfl) rfl (fun K hK => ?_)
        go_simp
        refine hK.out _ _ ⟨set5_other p0 hne1, set5_other p1 hne1, set5_other p2 hne1, set5_other p3 hne1, set5_other p4 hne1, set5_other p5 hne2⟩ (fun hHeld => ?_)
        clear hK K
        try simp only [Act.put, List.setIfInBounds_toArray, List.set_cons_zero, List.set_cons_succ]
        refine wpAnyH_done (by kernel_rfl) ?_ _
        have hNf : stRow (((((w5.setCell ⟨w4.heap.size, 0, none⟩ (.bool m0)).setCell ⟨w4.heap.size, 1, none⟩ (.int .i64 m1)).setCell ⟨w4.heap.size, 2, none⟩ (.int .i64 m2)).setCell ⟨w4.heap.size, 3, none⟩ (.int .i64 m3)).setCell ⟨w4.heap.size, 4, none⟩ (.bool m4)) w4.heap.size ⟨m0, m1, m2, m3, m4⟩ := stRow_set HZ5.out ⟨m0, m1, m2, m3, m4⟩
        have hSf : stRow (((((w5.setCell ⟨w4.heap.size, 0, none⟩ (.bool m0)).setCell ⟨w4.heap.size, 1, none⟩ (.int .i64 m1)).setCell ⟨w4.heap.size, 2, none⟩ (.int .i64 m2)).setCell ⟨w4.heap.size, 3, none⟩ (.int .i64 m3)).setCell ⟨w4.heap.size, 4, none⟩ (.bool m4)) n1 ⟨s0, s1, s2, s3, s4⟩ := stRow_far HR5.out (fun e => hne1 e.symm)
        have hBf : Below w.heap.size w (((((w5.setCell ⟨w4.heap.size, 0, none⟩ (.bool m0)).setCell ⟨w4.heap.size, 1, none⟩ (.int .i64 m1)).setCell ⟨w4.heap.size, 2, none⟩ (.int .i64 m2)).setCell ⟨w4.heap.size, 3, none⟩ (.int .i64 m3)).setCell ⟨w4.heap.size, 4, none⟩ (.bool m4)) := below_set5 HB5.out HB4.out.size
        have hDf : (((((w5.setCell ⟨w4.heap.size, 0, none⟩ (.bool m0)).setCell ⟨w4.heap.size, 1, none⟩ (.int .i64 m1)).setCell ⟨w4.heap.size, 2, none⟩ (.int .i64 m2)).setCell ⟨w4.heap.size, 3, none⟩ (.int .i64 m3)).setCell ⟨w4.heap.size, 4, none⟩ (.bool m4)).cell? ⟨b0, off + (k + 1), none⟩ = some (.int .i32 y) := set5_other p5 hne2
        clear z0 z1 z2 z3 z4 y0 y1 y2 y3 y4 HB5 HR5 HZ5 hHeld p0 p1 p2 p3 p4 p5
        generalize (((((w5.setCell ⟨w4.heap.size, 0, none⟩ (.bool m0)).setCell ⟨w4.heap.size, 1, none⟩ (.int .i64 m1)).setCell ⟨w4.heap.size, 2, none⟩ (.int .i64 m2)).setCell ⟨w4.heap.size, 3, none⟩ (.int .i64 m3)).setCell ⟨w4.heap.size, 4, none⟩ (.bool m4)) = wf at hNf hSf hBf hDf ⊢
        generalize w4.heap.size = nb at hNf ⊢
      all_goals
        have HNf := Lib.hid hNf
        have HSf := Lib.hid hSf
        have HBf := Lib.hid hBf
        clear c0 c1 c2 c3 c4 d0 g0 g1 g2 g3 g4 g5 HG HZ hne1 hne2 HCall HCallA HBz hsl hdl
        clear hNf hSf hDf
        obtain ⟨b1, off1, cap1, hv, _, _, _, hbf, dx⟩ := rune_cell (HS.out.below hBf) HX.out
        cases hv
        obtain ⟨b1, off1, cap1, hv, _, _, _, _, dy⟩ := rune_cell (HS.out.below hBf) HY.out
        cases hv
        have HHg := Lib.hid (hangs_any x y ((HT.out.below HBf.out).below (below_dN (.refl _ _) 1)) HIx.out HIy.out)
        clear hBf
        cases cu with
        | false =>
          go_wp2_with fail
          go_quiet (fail)
          go_wp2_with fail
          go_roundw
          case rel => exact ⟨k, by omega, by go_num, below_dN HBf.out _⟩
          case measure => simp [intOf] <;> omega
        | true =>
          have HSr := Lib.hid (HSure.out rfl)
          generalize hangsB (tabOf R) x y = hg at HHg HSr
          go_wp2_with fail
          go_region_held3 (fun w' => w'.cell? ⟨b0, off + k, none⟩ = some (.int .i32 x) ∧ w'.cell? ⟨b0, off + (k + 1), none⟩ = some (.int .i32 y)) (first | exact ⟨px, py⟩ | exact ⟨dx, dy⟩ | go_keep)
            (first
              | (go_at_call 148; refine HHg.out.mono ?_; rintro e w6 ⟨rfl, hB6⟩; have px := cell_later hB6 (show wf.drew.cell? _ = _ from dx); have py := cell_later hB6 (show wf.drew.cell? _ = _ from dy); have HB6 := Lib.hid ((below_dN HBf.out 1).trans (hB6.mono (below_dN HBf.out 1).size)); clear hB6)
              | fail)
          all_goals
            cases hg with
            | true =>
              go_wp2_with fail
              go_roundw
              case rel => exact ⟨k, by omega, by go_num, HB6.out⟩
              case measure => simp [intOf] <;> omega
            | false =>
              have HBg := Lib.hid (HSr.out rfl)
              go_wp2_with fail
              go_ret
              exact ⟨⟨k + 1, ret_i (by omega), hk, HBg.out⟩, HB6.out⟩
end
end Go.Proofs.Ythlpelfogplomaa

/- back: Floor, Ceil, Prev, Next; the document's floor, ceil. -/
namespace Go.Proofs.Ythlpelfogplomaa
open Go.RowKit

section
variable {R : List Rw} {s : List Int} {w : World} {v sv : Value} {tp : Nat}
set_option maxRecDepth 100000 in
set_option maxHeartbeats 4000000 in
theorem floor_any (a : Int) (H : (tabOf R).Ok) (hT : Tb R w tp) (hs : RunesIn w sv s) (ok : RunesOk s) (hl : s.length ≤ 1000000) :
    Calls Try.prog 94 #[.pointer (some ⟨tp, 0, none⟩), sv, .int .i64 a] w fun e w' => e = .returned (.int .i64 ((floorI (tabOf R) s a : Nat) : Int)) ∧ Below w.heap.size w w' := by
  have HS := Lib.hid hs
  obtain ⟨sl, cap, rfl, hcap, hmax, _⟩ := runes_cells hs
  unfold maxLen at hmax
  by_cases h0 : a ≤ 0
  · have HV := Lib.hid (floorI_nonpos (T := tabOf R) (s := s) h0)
    go_enter Try.func94, Try.ntmps94
    go_wp2_with fail
    go_step3
    go_wp2_with fail
    try rw [Exit.noGoto_ret]
    go_ret
    exact ⟨ret_i (by rw [HV.out]; rfl), .refl _ _⟩
  · by_cases h1 : (s.length : Int) ≤ a
    · have HV := Lib.hid (floorI_big (T := tabOf R) h0 h1)
      have q0 : decide (a ≤ 0) = false := decide_eq_false h0
      have q1 : a ≥ (s.length : Int) := h1
      clear h0
      go_enter Try.func94, Try.ntmps94
      go_wp2_with fail
      go_step3
      go_wp2_with fail
      try rw [Exit.noGoto_ret]
      go_ret
      exact ⟨ret_i (by rw [HV.out]), .refl _ _⟩
    · obtain ⟨i, rfl⟩ : ∃ i : Nat, a = (i : Int) := ⟨a.toNat, by omega⟩
      have hi0 : 0 < i := by omega
      have hil : i < s.length := by omega
      have HV := Lib.hid (floorI_mid (T := tabOf R) hi0 hil)
      have HT := Lib.hid hT
      have HOk := Lib.hid ok
      have HTk := Lib.hid H
      have q0 : decide ((i : Int) ≤ 0) = false := by rw [decide_eq_false_iff_not]; omega
      have q0n : ¬ i = 0 := by omega
      have q1 : decide ((i : Int) ≥ (s.length : Int)) = false := by rw [decide_eq_false_iff_not]; omega
      have q1n : ¬ s.length ≤ i := by omega
      have q1d : decide (s.length ≤ i) = false := decide_eq_false q1n
      have q0d : decide (i = 0) = false := decide_eq_false q0n
      have HSure := Lib.hid (sure_any i H hT hs ok hil hl)
      clear h0 h1 hT hs ok H
      go_enter Try.func94, Try.ntmps94
      go_wp2_with fail
      go_step3
      go_wp2_with fail
      refine HSure.out.mono ?_
      rintro e w1 ⟨⟨q, rfl, hq, hbq⟩, hB1⟩
      have HB1 := Lib.hid hB1
      have HBq := Lib.hid hbq
      clear hB1 hbq HSure q0 q1 q0d q1d
      go_wp2_with fail
      go_step3
      go_wp2_with fail
      go_loopw [7] (fun fv wr => ∃ f : Nat, f ≤ i ∧ fv = .int .i64 ((f : Nat) : Int) ∧ begAt (tabOf R) s f = true ∧ Below w.heap.size w wr) (fun fv _ => i - (intOf fv).toNat)
      case atStart => exact ⟨q, hq, rfl, HBq.out, HB1.out⟩
      case round =>
        obtain ⟨f, hf, rfl, hb, hB⟩ := hrel
        have HB := Lib.hid hB
        have HBf := Lib.hid hb
        clear hB hb
        by_cases hlt : f < i
        · have HNx := Lib.hid (nx_spec HTk.out HBf.out)
          have HCall := Lib.hid (next_any f (HT.out.below HB.out) (HS.out.below HB.out) HOk.out (by omega) hl)
          generalize hn : f + nx (tabOf R) (s.drop f) = n at HNx HCall
          clear hn
          have q2 : (f : Int) < (i : Int) := by omega
          go_wp2_with fail
          refine HCall.out.mono ?_
          rintro e w2 ⟨rfl, hB2⟩
          have HB2 := Lib.hid (HB.out.trans (hB2.mono HB.out.size))
          clear hB2
          by_cases hg : i < n
          · have q3 : (n : Int) > (i : Int) := by omega
            have HF := Lib.hid (show floorB (tabOf R) s i = f from floorB_eq (by omega) (.inr (by rw [isB_lt (by omega)]; exact HBf.out)) fun j h1 h2 => by
              rw [isB_lt (by omega)]; exact HNx.out.2.2.1 j h1 (by omega))
            clear hg
            go_wp2_with fail
            try rw [Exit.noGoto_ret]
            go_ret
            exact ⟨ret_i (by rw [HV.out, HF.out]), HB2.out⟩
          · have q3 : decide ((n : Int) > (i : Int)) = false := by rw [decide_eq_false_iff_not]; omega
            have HBn := Lib.hid (show begAt (tabOf R) s n = true from HNx.out.2.2.2.resolve_left (by omega))
            have hfn := HNx.out.1
            go_wp2_with fail
            go_roundw
            case rel => exact ⟨n, by omega, rfl, HBn.out, HB2.out⟩
            case measure => simp [intOf] <;> omega
        · have hfi : f = i := by omega
          subst hfi
          have HF := Lib.hid (show floorB (tabOf R) s f = f from floorB_eq (Nat.le_refl _) (.inr (by rw [isB_lt hil]; exact HBf.out)) fun j h1 h2 => by omega)
          go_wp2_with fail
          try rw [Exit.noGoto_ret]
          go_ret
          exact ⟨ret_i (by rw [HV.out, HF.out]), HB.out⟩
set_option maxRecDepth 100000 in
set_option maxHeartbeats 4000000 in
theorem ceil_any (a : Int) (H : (tabOf R).Ok) (hT : Tb R w tp) (hs : RunesIn w sv s) (ok : RunesOk s) (hl : s.length ≤ 1000000) :
    Calls Try.prog 91 #[.pointer (some ⟨tp, 0, none⟩), sv, .int .i64 a] w fun e w' => e = .returned (.int .i64 ((ceilI (tabOf R) s a : Nat) : Int)) ∧ Below w.heap.size w w' := by
  have HS := Lib.hid hs
  have HT := Lib.hid hT
  have HOk := Lib.hid ok
  have HFl := Lib.hid (floor_any a H hT hs ok hl)
  have HV : (floorI (tabOf R) s a : Int) ≥ a ∧ ceilI (tabOf R) s a = floorI (tabOf R) s a ∨ (s.length : Int) < a ∧ floorI (tabOf R) s a = s.length ∧ ceilI (tabOf R) s a = s.length ∨ ∃ i : Nat, a = (i : Int) ∧ i < s.length ∧ floorI (tabOf R) s a < i ∧ begAt (tabOf R) s (floorI (tabOf R) s a) = true ∧ ceilI (tabOf R) s a = floorI (tabOf R) s a + nx (tabOf R) (s.drop (floorI (tabOf R) s a)) := by
    by_cases h0 : a ≤ 0
    · left; rw [floorI_nonpos h0, ceilI_nonpos h0]; exact ⟨h0, rfl⟩
    · by_cases h1 : (s.length : Int) ≤ a
      · rw [floorI_big h0 h1, ceilI_big h0 h1]
        by_cases h2 : (s.length : Int) = a
        · left; exact ⟨by omega, rfl⟩
        · right; left; exact ⟨by omega, rfl, rfl⟩
      · obtain ⟨i, rfl⟩ : ∃ i : Nat, a = (i : Int) := ⟨a.toNat, by omega⟩
        rw [floorI_mid (by omega) (by omega), ceilI_mid (by omega) (by omega)]
        have hle := floorB_le (tabOf R) s i
        by_cases h2 : floorB (tabOf R) s i = i
        · left
          refine ⟨by omega, ?_⟩
          rw [h2]
          have hb : begAt (tabOf R) s i = true := by
            rcases floorB_is (tabOf R) s i with h | h
            · omega
            · rw [h2, isB_lt (by omega)] at h; exact h
          rw [ceilB_step (by omega), hb]; rfl
        · right; right
          refine ⟨i, rfl, by omega, by omega, ?_, ceil_of_floor H (by omega) (by omega)⟩
          rcases floorB_is (tabOf R) s i with h | h
          · rw [h]; exact begAt_zero _ (fun e => by rw [e] at h1; simp at h1)
          · rwa [isB_lt (by omega)] at h
  generalize floorI (tabOf R) s a = f at HFl HV
  generalize ceilI (tabOf R) s a = c at HV ⊢
  clear hT ok H
  rcases HV with ⟨h1, rfl⟩ | ⟨h1, rfl, rfl⟩ | ⟨i, rfl, h2, h3, h4, h5⟩
  · go_enter Try.func91, Try.ntmps91
    go_wp2_with fail
    refine HFl.out.mono ?_
    rintro e w1 ⟨rfl, hB1⟩
    have HB1 := Lib.hid hB1
    clear hB1
    go_wp2_with fail
    go_ret
    exact ⟨rfl, HB1.out⟩
  · have q0 : decide ((s.length : Int) ≥ a) = false := by rw [decide_eq_false_iff_not]; omega
    have HCall := Lib.hid (fun w1 (hB : Below w.heap.size w w1) => next_out (tp := tp) (s.length : Int) (hs.below hB) (.inr (Int.le_refl _)))
    clear h1 hs
    go_enter Try.func91, Try.ntmps91
    go_wp2_with fail
    refine HFl.out.mono ?_
    rintro e w1 ⟨rfl, hB1⟩
    have HB1 := Lib.hid hB1
    clear hB1
    go_wp2_with fail
    refine (HCall.out w1 HB1.out).mono ?_
    rintro e w2 ⟨rfl, hB2⟩
    have HB2 := Lib.hid (below_trans' HB1.out hB2)
    clear hB2
    go_wp2_with fail
    go_ret
    exact ⟨rfl, HB2.out⟩
  · have q0 : decide ((f : Int) ≥ (i : Int)) = false := by rw [decide_eq_false_iff_not]; omega
    have q0n : ¬ i ≤ f := by omega
    have HCall := Lib.hid (fun w1 (hB : Below w.heap.size w w1) => next_any f (HT.out.below hB) (HS.out.below hB) HOk.out (by omega) hl)
    rw [← h5] at HCall
    clear h5 hs
    go_enter Try.func91, Try.ntmps91
    go_wp2_with fail
    refine HFl.out.mono ?_
    rintro e w1 ⟨rfl, hB1⟩
    have HB1 := Lib.hid hB1
    clear hB1
    go_wp2_with fail
    refine (HCall.out w1 HB1.out).mono ?_
    rintro e w2 ⟨rfl, hB2⟩
    have HB2 := Lib.hid (below_trans' HB1.out hB2)
    clear hB2
    go_wp2_with fail
    go_ret
    exact ⟨rfl, HB2.out⟩
set_option maxRecDepth 100000 in
set_option maxHeartbeats 4000000 in
theorem is_any (i : Nat) (hR : RowsIn w v R) (hs : RunesIn w sv s) (ok : RunesOk s) (hi : i ≤ s.length) (hl : s.length ≤ 1000000) :
    Calls Try.prog 14 #[v, sv, .int .i64 (i : Nat)] w fun e w' => e = .returned (.bool (isB (tabOf R) s i)) ∧ Below w.heap.size w w' := by
  have q0 : decide ((i : Int) < 0) = false := by rw [decide_eq_false_iff_not]; omega
  have q1 : decide ((i : Int) > (s.length : Int)) = false := by rw [decide_eq_false_iff_not]; omega
  have q1n : ¬ s.length < i := by omega
  have q1d : decide (s.length < i) = false := decide_eq_false q1n
  by_cases he : i = s.length
  · have HV := Lib.hid (show isB (tabOf R) s i = true by rw [he]; exact isB_len _ _)
    have q2 : ((i : Int) == (s.length : Int)) = true := by simp [he]
    obtain ⟨sl, cap, rfl, hcap, hmax, _⟩ := runes_cells hs
    unfold maxLen at hmax
    clear he hs hR ok
    go_enter Try.func14, Try.ntmps14
    go_wp2_with fail
    go_ret
    exact ⟨ret_b (by rw [HV.out]), .refl _ _⟩
  · have HCall := Lib.hid (begins_any i hR hs ok (by omega) hl)
    have HV := Lib.hid (show isB (tabOf R) s i = begAt (tabOf R) s i from isB_lt (by omega))
    have q2 : ((i : Int) == (s.length : Int)) = false := by simp; omega
    obtain ⟨sl, cap, rfl, hcap, hmax, _⟩ := runes_cells hs
    unfold maxLen at hmax
    clear hs hR ok
    go_enter Try.func14, Try.ntmps14
    go_wp2_with fail
    refine HCall.out.mono ?_
    rintro e w1 ⟨rfl, n1, rfl⟩
    go_wp2_with fail
    go_ret
    exact ⟨ret_b (by rw [HV.out]), below_dN (.refl _ _) n1⟩
end
end Go.Proofs.Ythlpelfogplomaa

/- back: Prev, Next; the document's floor, ceil; chapter 11's example. -/
namespace Go.Proofs.Ythlpelfogplomaa
open Go.RowKit

/-- the last boundary ahead of a place -/
def prevI (T : Tab) (s : List Int) (a : Int) : Nat := floorI T s (max (min a ((s.length : Int) + 1)) 0 - 1)
/-- the first one behind it -/
def nextI (T : Tab) (s : List Int) (a : Int) : Nat := if (s.length : Int) ≤ a then s.length else ceilI T s (max a (-1) + 1)
theorem floorI_clamp {T : Tab} {s : List Int} {a : Int} (h : (s.length : Int) ≤ a) (h0 : 0 < a) : floorI T s a = s.length := floorI_big (by omega) h
theorem floorI_all {T : Tab} {s : List Int} {a : Int} {n : Nat} (hn : n = if a ≤ 0 then 0 else if (s.length : Int) ≤ a then s.length else a.toNat) : floorI T s a = floorB T s n := by
  unfold floorI
  by_cases h : a ≤ 0
  · rw [if_pos h] at hn ⊢; rw [hn]; rfl
  · rw [if_neg h] at hn ⊢
    by_cases h2 : (s.length : Int) ≤ a
    · rw [if_pos h2] at hn ⊢
      rw [hn]
      exact (floorB_eq (Nat.le_refl _) (.inr (isB_len T s)) fun j h1 h2 => by omega).symm
    · rw [if_neg h2] at hn ⊢; rw [hn]
theorem ceilI_all {T : Tab} {s : List Int} {a : Int} {n : Nat} (hn : n = if a ≤ 0 then 0 else if (s.length : Int) ≤ a then s.length else a.toNat) : n ≤ s.length ∧ ceilI T s a = ceilB T s n := by
  unfold ceilI
  by_cases h : a ≤ 0
  · rw [if_pos h] at hn ⊢
    subst hn
    refine ⟨Nat.zero_le _, ?_⟩
    cases s with
    | nil => rfl
    | cons x l => rw [ceilB_step (by simp), begAt_zero T (by simp)]; rfl
  · rw [if_neg h] at hn ⊢
    by_cases h2 : (s.length : Int) ≤ a
    · rw [if_pos h2] at hn ⊢
      rw [hn]
      exact ⟨Nat.le_refl _, (ceilB_len T s).symm⟩
    · rw [if_neg h2] at hn ⊢; rw [hn]; exact ⟨by omega, rfl⟩
section
variable {R : List Rw} {s : List Int} {w : World} {v sv : Value} {tp : Nat}
set_option maxRecDepth 100000 in
set_option maxHeartbeats 4000000 in
theorem prev_any (a : Int) (H : (tabOf R).Ok) (hT : Tb R w tp) (hs : RunesIn w sv s) (ok : RunesOk s) (hl : s.length ≤ 1000000) (ha : -9223372036854775808 ≤ a ∧ a ≤ 9223372036854775807) :
    Calls Try.prog 95 #[.pointer (some ⟨tp, 0, none⟩), sv, .int .i64 a] w fun e w' => e = .returned (.int .i64 ((prevI (tabOf R) s a : Nat) : Int)) ∧ Below w.heap.size w w' := by
  have HCall := Lib.hid (fun b => floor_any b H hT hs ok hl)
  have HV := Lib.hid (show prevI (tabOf R) s a = floorI (tabOf R) s (max (min a ((s.length : Int) + 1)) 0 - 1) from rfl)
  obtain ⟨sl, cap, rfl, hcap, hmax, _⟩ := runes_cells hs
  unfold maxLen at hmax
  have q0 := IntWalk.i64_in ((s.length : Int) + 1) (by omega)
  have q1 := IntWalk.i64_in (max (min a ((s.length : Int) + 1)) 0 - 1) (by omega)
  clear hT hs ok H ha
  go_enter Try.func95, Try.ntmps95
  go_wp2_with fail
  refine (HCall.out _).mono ?_
  rintro e w1 ⟨rfl, hB1⟩
  rw [← HV.out]
  have HB1 := Lib.hid hB1
  clear hB1
  go_wp2_with fail
  go_ret
  exact ⟨rfl, HB1.out⟩
end
end Go.Proofs.Ythlpelfogplomaa

/- From beginning to beginning, plainly. -/
namespace Go.Proofs.Ythlpelfogplomaa

theorem sorted_between {S : List Nat} (hs : S.Pairwise (· < ·)) {i q q' : Nat} (h : S[i]? = some q) (h' : S[i + 1]? = some q') : q < q' ∧ ∀ j ∈ S, ¬ (q < j ∧ j < q') := by
  rw [List.pairwise_iff_getElem] at hs
  obtain ⟨a1, a2⟩ := List.getElem?_eq_some_iff.1 h
  obtain ⟨b1, b2⟩ := List.getElem?_eq_some_iff.1 h'
  refine ⟨by have := hs i (i + 1) a1 b1 (by omega); omega, fun j hj hq => ?_⟩
  obtain ⟨k, hk⟩ := List.mem_iff_getElem?.1 hj
  obtain ⟨c1, c2⟩ := List.getElem?_eq_some_iff.1 hk
  rcases Nat.lt_trichotomy k i with h | h | h
  · have := hs k i c1 a1 h; omega
  · subst h; omega
  · rcases Nat.lt_trichotomy k (i + 1) with h2 | h2 | h2
    · omega
    · subst h2; omega
    · have := hs (i + 1) k b1 c1 h2; omega
theorem sorted_last {S : List Nat} (hs : S.Pairwise (· < ·)) {i q : Nat} (h : S[i]? = some q) (hl : i + 1 = S.length) : ∀ j ∈ S, j ≤ q := by
  rw [List.pairwise_iff_getElem] at hs
  obtain ⟨a1, a2⟩ := List.getElem?_eq_some_iff.1 h
  intro j hj
  obtain ⟨k, hk⟩ := List.mem_iff_getElem?.1 hj
  obtain ⟨c1, c2⟩ := List.getElem?_eq_some_iff.1 hk
  rcases Nat.lt_trichotomy k i with h | h | h
  · have := hs k i c1 a1 h; omega
  · subst h; omega
  · omega
section
variable {T : Tab} {s : List Int} {i q q' : Nat}
theorem begF {T : Tab} {s : List Int} {j : Nat} (h : j ∉ starts T s) : begAt T s j = false := by
  cases hb : begAt T s j with
  | false => rfl
  | true => exact absurd ((starts_mem T s j).2 hb) h
theorem next_start (h : (starts T s)[i]? = some q) (h' : (starts T s)[i + 1]? = some q') : nextI T s (q : Int) = q' := by
  obtain ⟨hlt, hno⟩ := sorted_between (starts_sorted T s) h h'
  have hb' := (starts_mem T s q').1 (List.mem_of_getElem? h')
  have hl' := begAt_lt hb'
  unfold nextI
  rw [if_neg (by omega), show max (q : Int) (-1) + 1 = ((q + 1 : Nat) : Int) by omega, ceilI_mid (by omega) (by omega)]
  exact ceilB_eq (by omega) (by omega) (fun j h1 h2 => begF fun hm => hno j hm ⟨by omega, h2⟩) (by omega) (.inr hb')
theorem next_last (h : (starts T s)[i]? = some q) (hl : i + 1 = (starts T s).length) : nextI T s (q : Int) = s.length := by
  have hmax := sorted_last (starts_sorted T s) h hl
  have hq := begAt_lt ((starts_mem T s q).1 (List.mem_of_getElem? h))
  unfold nextI
  rw [if_neg (by omega), show max (q : Int) (-1) + 1 = ((q + 1 : Nat) : Int) by omega]
  by_cases he : q + 1 = s.length
  · rw [ceilI_big (by omega) (by omega)]
  · rw [ceilI_mid (by omega) (by omega)]
    exact ceilB_eq (by omega) (by omega) (fun j h1 h2 => begF fun hm => by have := hmax j hm; omega) (Nat.le_refl _) (.inl rfl)
theorem prev_start (h : (starts T s)[i]? = some q) (h' : (starts T s)[i + 1]? = some q') : prevI T s (q' : Int) = q := by
  obtain ⟨hlt, hno⟩ := sorted_between (starts_sorted T s) h h'
  have hb := (starts_mem T s q).1 (List.mem_of_getElem? h)
  have hl' := begAt_lt ((starts_mem T s q').1 (List.mem_of_getElem? h'))
  unfold prevI
  rw [show max (min (q' : Int) ((s.length : Int) + 1)) 0 - 1 = ((q' - 1 : Nat) : Int) by omega]
  by_cases h0 : q' - 1 = 0
  · rw [floorI_nonpos (by omega)]; omega
  · rw [floorI_mid (by omega) (by omega)]
    exact floorB_eq (by omega) (.inr (by rw [isB_lt (by omega)]; exact hb)) fun j h1 h2 => by
      rw [isB_lt (by omega)]; exact begF fun hm => hno j hm ⟨h1, by omega⟩
theorem prev_last (h : (starts T s)[i]? = some q) (hl : i + 1 = (starts T s).length) : prevI T s (s.length : Int) = q := by
  have hmax := sorted_last (starts_sorted T s) h hl
  have hb := (starts_mem T s q).1 (List.mem_of_getElem? h)
  have hq := begAt_lt hb
  unfold prevI
  rw [show max (min (s.length : Int) ((s.length : Int) + 1)) 0 - 1 = ((s.length - 1 : Nat) : Int) by omega]
  by_cases h0 : s.length - 1 = 0
  · rw [floorI_nonpos (by omega)]; omega
  · rw [floorI_mid (by omega) (by omega)]
    exact floorB_eq (by omega) (.inr (by rw [isB_lt (by omega)]; exact hb)) fun j h1 h2 => by
      rw [isB_lt (by omega)]; exact begF fun hm => by have := hmax j hm; omega
theorem start_zero (h : (starts T s)[0]? = some q) : q = 0 := by
  cases s with
  | nil => simp [starts, startsB] at h
  | cons x l => simp [starts, startsB, begB] at h; exact h.symm
theorem starts_nil_iff : starts T s = [] ↔ s = [] := by
  cases s with
  | nil => simp [starts, startsB]
  | cons x l => simp [starts, startsB, begB]
end
end Go.Proofs.Ythlpelfogplomaa

/- Words, plainly. -/
namespace Go.Proofs.Ythlpelfogplomaa

/-- is the scalar at a place a letter? -/
def insR (R : List Rw) (s : List Int) (i : Nat) : Bool := match s[i]? with
  | some x => decide (ofA R 8 x = 1)
  | none => false
theorem insR_some {R : List Rw} {s : List Int} {i : Nat} {x : Int} (h : s[i]? = some x) : insR R s i = decide (ofA R 8 x = 1) := by unfold insR; rw [h]
theorem insR_big {R : List Rw} {s : List Int} {i : Nat} (h : s.length ≤ i) : insR R s i = false := by unfold insR; rw [List.getElem?_eq_none h]
theorem insR_lt {R : List Rw} {s : List Int} {i : Nat} (h : insR R s i = true) : i < s.length := by
  by_cases hi : i < s.length
  · exact hi
  · rw [insR_big (by omega)] at h; cases h
def nxt (T : Tab) (s : List Int) (b : Nat) : Nat := b + nx T (s.drop b)
theorem nxt_gt (T : Tab) {s : List Int} {b : Nat} (h : b < s.length) : b < nxt T s b := by
  have := nx_pos T (s := s.drop b) (fun e => by have := congrArg List.length e; rw [List.length_drop] at this; simp at this; omega)
  unfold nxt; omega
theorem nxt_le (T : Tab) {s : List Int} {b : Nat} (h : b ≤ s.length) : nxt T s b ≤ s.length := by
  have := nx_le T (s.drop b); rw [List.length_drop] at this
  unfold nxt; omega

section
variable (n : Nat) (nt : Nat → Nat) (ins : Nat → Bool)
/-- where a run of parts of words ends -/
def runE (b : Nat) : Nat := if _h : b < n ∧ b < nt b ∧ ins b = true then runE (nt b) else b
termination_by n - b
decreasing_by omega
/-- where the next part of a word is -/
def skp (b : Nat) : Nat := if _h : b < n ∧ b < nt b ∧ ins b = false then skp (nt b) else b
termination_by n - b
decreasing_by omega
/-- the words from a place on -/
def wrds (b : Nat) : List (Nat × Nat) := if _h : b < n ∧ b < runE n nt ins b then (b, runE n nt ins b) :: wrds (runE n nt ins b) else if _h2 : b < n ∧ b < nt b then wrds (nt b) else []
termination_by n - b
decreasing_by all_goals omega
def upd (out : List (Nat × Nat)) (a e : Nat) : List (Nat × Nat) := match out.getLast? with
  | some y => if y.2 = a then out.dropLast ++ [(y.1, e)] else out ++ [(a, e)]
  | none => out ++ [(a, e)]
/-- the words, cluster by cluster -/
def refW (out : List (Nat × Nat)) (b : Nat) : List (Nat × Nat) := if _h : b < n ∧ b < nt b then (if ins b = true then refW (upd out b (nt b)) (nt b) else refW out (nt b)) else out
termination_by n - b
decreasing_by all_goals omega
end
section
variable {n : Nat} {nt : Nat → Nat} {ins : Nat → Bool} {b : Nat}
theorem runE_step (h1 : b < n) (h2 : b < nt b) (h3 : ins b = true) : runE n nt ins b = runE n nt ins (nt b) := by rw [runE, dif_pos ⟨h1, h2, h3⟩]
theorem runE_stop (h : ins b = false) : runE n nt ins b = b := by rw [runE, dif_neg (fun e => by rw [h] at e; cases e.2.2)]
theorem runE_end (h : ¬ b < n) : runE n nt ins b = b := by rw [runE, dif_neg (fun e => h e.1)]
theorem skp_step (h1 : b < n) (h2 : b < nt b) (h3 : ins b = false) : skp n nt ins b = skp n nt ins (nt b) := by rw [skp, dif_pos ⟨h1, h2, h3⟩]
theorem skp_stop (h : ins b = true) : skp n nt ins b = b := by rw [skp, dif_neg (fun e => by rw [h] at e; cases e.2.2)]
theorem skp_end (h : ¬ b < n) : skp n nt ins b = b := by rw [skp, dif_neg (fun e => h e.1)]
theorem runE_ge : ∀ m, ∀ b, n - b = m → b ≤ runE n nt ins b := by
  intro m
  induction m using Nat.strongRecOn with
  | _ m ih =>
    intro b hm
    rw [runE]
    split
    · rename_i h
      have := ih (n - nt b) (by omega) (nt b) rfl
      omega
    · exact Nat.le_refl _
theorem runE_gt (h1 : b < n) (h2 : b < nt b) (h3 : ins b = true) : b < runE n nt ins b := by
  rw [runE_step h1 h2 h3]
  have := runE_ge (n := n) (nt := nt) (ins := ins) _ (nt b) rfl
  omega
theorem wrds_in (h1 : b < n) (h2 : b < nt b) (h3 : ins b = true) : wrds n nt ins b = (b, runE n nt ins b) :: wrds n nt ins (runE n nt ins b) := by
  rw [wrds, dif_pos ⟨h1, runE_gt h1 h2 h3⟩]
theorem wrds_out (h1 : b < n) (h2 : b < nt b) (h3 : ins b = false) : wrds n nt ins b = wrds n nt ins (nt b) := by
  rw [wrds, dif_neg (fun e => by rw [runE_stop h3] at e; omega), dif_pos ⟨h1, h2⟩]
theorem wrds_end (h : ¬ b < n) : wrds n nt ins b = [] := by
  rw [wrds, dif_neg (fun e => h e.1), dif_neg (fun e => h e.1)]
theorem upd_nil (a e : Nat) : upd [] a e = [(a, e)] := rfl
theorem upd_same (o : List (Nat × Nat)) (f a e : Nat) : upd (o ++ [(f, a)]) a e = o ++ [(f, e)] := by
  unfold upd; rw [List.getLast?_concat, List.dropLast_concat]; simp
theorem upd_other (o : List (Nat × Nat)) (f a' a e : Nat) (h : a' ≠ a) : upd (o ++ [(f, a')]) a e = (o ++ [(f, a')]) ++ [(a, e)] := by
  unfold upd; rw [List.getLast?_concat]; simp [h]
theorem refW_in {out : List (Nat × Nat)} (h1 : b < n) (h2 : b < nt b) (h3 : ins b = true) : refW n nt ins out b = refW n nt ins (upd out b (nt b)) (nt b) := by
  rw [refW, dif_pos ⟨h1, h2⟩, if_pos h3]
theorem refW_out {out : List (Nat × Nat)} (h1 : b < n) (h2 : b < nt b) (h3 : ins b = false) : refW n nt ins out b = refW n nt ins out (nt b) := by
  rw [refW, dif_pos ⟨h1, h2⟩, if_neg (by rw [h3]; decide)]
theorem refW_end {out : List (Nat × Nat)} (h : ¬ b < n) : refW n nt ins out b = out := by
  rw [refW, dif_neg (fun e => h e.1)]
/-- no word is open at a place -/
def Shut (out : List (Nat × Nat)) (b : Nat) : Prop := out = [] ∨ ∃ o f a, out = o ++ [(f, a)] ∧ a < b
theorem Shut.later {out : List (Nat × Nat)} {b c : Nat} (h : Shut out b) (hc : b ≤ c) : Shut out c := by
  rcases h with h | ⟨o, f, a, h, ha⟩
  · exact .inl h
  · exact .inr ⟨o, f, a, h, by omega⟩
theorem Shut.upd {out : List (Nat × Nat)} {b : Nat} (h : Shut out b) (e : Nat) : upd out b e = out ++ [(b, e)] := by
  rcases h with rfl | ⟨o, f, a, rfl, ha⟩
  · rfl
  · exact upd_other o f a b e (by omega)
theorem refW_wrds (hn : ∀ b, b < n → b < nt b) : ∀ m b, n - b = m → (∀ out, Shut out b → refW n nt ins out b = out ++ wrds n nt ins b) ∧ (∀ o f, refW n nt ins (o ++ [(f, b)]) b = o ++ (f, runE n nt ins b) :: wrds n nt ins (runE n nt ins b)) := by
  intro m
  induction m using Nat.strongRecOn with
  | _ m ih =>
    intro b hm
    by_cases hb : b < n
    · have h2 := hn b hb
      obtain ⟨iA, iB⟩ := ih (n - nt b) (by omega) (nt b) rfl
      cases hi : ins b with
      | true =>
        refine ⟨fun out hs => ?_, fun o f => ?_⟩
        · rw [refW_in hb h2 hi, hs.upd, iB, wrds_in hb h2 hi, runE_step hb h2 hi]
        · rw [refW_in hb h2 hi, upd_same, iB, runE_step hb h2 hi]
      | false =>
        refine ⟨fun out hs => ?_, fun o f => ?_⟩
        · rw [refW_out hb h2 hi, iA _ (hs.later (by omega)), wrds_out hb h2 hi]
        · rw [refW_out hb h2 hi, iA _ (.inr ⟨o, f, b, rfl, h2⟩), runE_stop hi, wrds_out hb h2 hi, List.append_assoc]; rfl
    · refine ⟨fun out hs => ?_, fun o f => ?_⟩
      · rw [refW_end hb, wrds_end hb, List.append_nil]
      · rw [refW_end hb, runE_end hb, wrds_end hb]
theorem words_same (hn : ∀ b, b < n → b < nt b) : refW n nt ins [] 0 = wrds n nt ins 0 := (refW_wrds hn _ 0 rfl).1 [] (.inl rfl)
end
/-- the last word's beginning, going back -/
def bck (prv : Nat → Nat) (ins : Nat → Bool) (b : Nat) (wi : Bool) : Nat := if _h : 0 < b ∧ prv b < b then (if (wi && !ins (prv b)) = true then b else bck prv ins (prv b) (wi || ins (prv b))) else b
termination_by b
decreasing_by omega
theorem bck_stop {prv : Nat → Nat} {ins : Nat → Bool} {b : Nat} (h : 0 < b) (h2 : prv b < b) (h3 : ins (prv b) = false) : bck prv ins b true = b := by
  rw [bck, dif_pos ⟨h, h2⟩, h3]; rfl
theorem bck_in {prv : Nat → Nat} {ins : Nat → Bool} {b : Nat} {wi : Bool} (h : 0 < b) (h2 : prv b < b) (h3 : ins (prv b) = true) : bck prv ins b wi = bck prv ins (prv b) true := by
  rw [bck, dif_pos ⟨h, h2⟩, h3]; simp
theorem bck_out {prv : Nat → Nat} {ins : Nat → Bool} {b : Nat} (h : 0 < b) (h2 : prv b < b) (h3 : ins (prv b) = false) : bck prv ins b false = bck prv ins (prv b) false := by
  rw [bck, dif_pos ⟨h, h2⟩, h3]; simp
theorem bck_zero {prv : Nat → Nat} {ins : Nat → Bool} {wi : Bool} : bck prv ins 0 wi = 0 := by
  rw [bck, dif_neg (by omega)]
def prv (T : Tab) (s : List Int) (b : Nat) : Nat := prevI T s (b : Int)
theorem prv_lt (T : Tab) {s : List Int} {b : Nat} (h : 0 < b) (hb : b ≤ s.length) : prv T s b < b := by
  unfold prv prevI
  rw [show max (min (b : Int) ((s.length : Int) + 1)) 0 - 1 = ((b - 1 : Nat) : Int) by omega]
  by_cases h0 : b - 1 = 0
  · rw [floorI_nonpos (by omega)]; omega
  · rw [floorI_mid (by omega) (by omega)]
    have := floorB_le T s (b - 1)
    omega
theorem ceilI_le (T : Tab) (s : List Int) (a : Int) : ceilI T s a ≤ s.length := by
  by_cases h : a ≤ 0
  · rw [ceilI_nonpos h]; exact Nat.zero_le _
  · by_cases h2 : (s.length : Int) ≤ a
    · rw [ceilI_big h h2]; exact Nat.le_refl _
    · obtain ⟨i, rfl⟩ : ∃ i : Nat, a = (i : Int) := ⟨a.toNat, by omega⟩
      rw [ceilI_mid (by omega) (by omega)]
      exact (ceilB_spec T s (by omega)).2.1
theorem ceilI_beg {T : Tab} {s : List Int} {b : Nat} (h : begAt T s b = true) : ceilI T s (b : Int) = b := by
  have hl := begAt_lt h
  by_cases h0 : b = 0
  · subst h0; exact ceilI_nonpos (Int.le_refl _)
  · rw [ceilI_mid (by omega) hl]
    exact ceilB_eq (by omega) (Nat.le_refl _) (fun j h1 h2 => by omega) (by omega) (.inr h)
/-- where the next word ends -/
def fwdI (R : List Rw) (s : List Int) (a : Int) : Nat := runE s.length (nxt (tabOf R) s) (insR R s) (skp s.length (nxt (tabOf R) s) (insR R s) (ceilI (tabOf R) s a))
/-- where the last word begins -/
def bckI (R : List Rw) (s : List Int) (a : Int) : Nat := bck (prv (tabOf R) s) (insR R s) (floorI (tabOf R) s a) false
def wrdsR (R : List Rw) (s : List Int) : List (Nat × Nat) := wrds s.length (nxt (tabOf R) s) (insR R s) 0
end Go.Proofs.Ythlpelfogplomaa

/- Words: their parts, forward. -/
namespace Go.Proofs.Ythlpelfogplomaa
open Go.RowKit

section
variable {R : List Rw} {s : List Int} {w : World} {v sv : Value} {tp : Nat}
set_option maxRecDepth 100000 in
set_option maxHeartbeats 4000000 in
theorem inside_any (i : Nat) (hT : Tb R w tp) (hs : RunesIn w sv s) (ok : RunesOk s) (hi : i ≤ s.length) (_hl : s.length ≤ 1000000) :
    Calls Try.prog 92 #[.pointer (some ⟨tp, 0, none⟩), sv, .int .i64 (i : Nat)] w fun e w' => e = .returned (.bool (insR R s i)) ∧ Below w.heap.size w w' := by
  by_cases h : i < s.length
  · obtain ⟨x, hx⟩ : ∃ x, s[i]? = some x := ⟨s[i], List.getElem?_eq_getElem h⟩
    obtain ⟨b, off, cap, rfl, _, _, _, _, d0⟩ := rune_cell hs hx
    have HL := Lib.hid (hT.letter x (ok.get hx))
    have HV := Lib.hid (insR_some (R := R) hx)
    have r0 : (i : Int) < (s.length : Int) := by omega
    have r1 : (0 : Int) ≤ (i : Int) := by omega
    clear hT hs ok hx
    go_enter Try.func92, Try.ntmps92
    go_wp2_with fail
    refine HL.out.mono ?_
    rintro e w1 ⟨rfl, hB1⟩
    have HB1 := Lib.hid hB1
    clear hB1
    go_wp2_with fail
    go_ret
    exact ⟨ret_b (by rw [HV.out]), HB1.out⟩
  · have HV := Lib.hid (insR_big (R := R) (s := s) (i := i) (by omega))
    obtain ⟨sl, cap, rfl, hcap, hmax, _⟩ := runes_cells hs
    unfold maxLen at hmax
    have r0 : decide ((i : Int) < (s.length : Int)) = false := by rw [decide_eq_false_iff_not]; omega
    have r1 : decide (i < s.length) = false := decide_eq_false h
    clear hT hs ok
    go_enter Try.func92, Try.ntmps92
    go_wp2_with fail
    go_ret
    exact ⟨ret_b (by rw [HV.out]), .refl _ _⟩
set_option maxRecDepth 100000 in
set_option maxHeartbeats 8000000 in
theorem fwd_any (a : Int) (H : (tabOf R).Ok) (hT : Tb R w tp) (hs : RunesIn w sv s) (ok : RunesOk s) (hl : s.length ≤ 1000000) :
    Calls Try.prog 57 #[.pointer (some ⟨tp, 0, none⟩), sv, .int .i64 a] w fun e w' => e = .returned (.int .i64 ((fwdI R s a : Nat) : Int)) ∧ Below w.heap.size w w' := by
  have HT := Lib.hid hT
  have HS := Lib.hid hs
  have HOk := Lib.hid ok
  have HCe := Lib.hid (ceil_any a H hT hs ok hl)
  have hcl := ceilI_le (tabOf R) s a
  have HV0 := Lib.hid (show runE s.length (nxt (tabOf R) s) (insR R s) (skp s.length (nxt (tabOf R) s) (insR R s) (ceilI (tabOf R) s a)) = fwdI R s a from rfl)
  obtain ⟨sl, cap, rfl, hcap, hmax, _⟩ := runes_cells hs
  unfold maxLen at hmax
  generalize ceilI (tabOf R) s a = c at HCe hcl HV0
  clear hT hs ok H
  go_enter Try.func57, Try.ntmps57
  go_wp2_with fail
  refine wp_scope_jumps 0 (fun a' w' => ∃ (m : Nat) (u3 u4 u5 u7 u8 u9 u10 u11 u12 u13 u14 u15 u16 u17 u18 u19 u20 u21 u22 u23 u24 u25 u26 u27 u28 u29 u30 u31 u32 u33 u34 : Value), a' = { tmps := #[.pointer (some ⟨tp, 0, none⟩), .slice sl s.length cap, .int .i64 ((m : Nat) : Int), u3, u4, u5, .int .i64 0, u7, u8, u9, u10, u11, u12, u13, u14, u15, u16, u17, u18, u19, u20, u21, u22, u23, u24, u25, u26, u27, u28, u29, u30, u31, u32, u33, u34], defers := [] } ∧ m ≤ s.length ∧ Below w.heap.size w w' ∧ runE s.length (nxt (tabOf R) s) (insR R s) (skp s.length (nxt (tabOf R) s) (insR R s) m) = fwdI R s a) (fun a' _ => s.length - (intOf (a'.tmps.getD 2 undef)).toNat) rfl ?_ ?_
  · go_wp2_with fail
    refine HCe.out.mono ?_
    rintro e w1 ⟨rfl, hB1⟩
    have HB := Lib.hid hB1
    obtain ⟨m, hm⟩ : ∃ m, m = c := ⟨_, rfl⟩
    rw [← hm] at hcl HV0 ⊢
    have hml := hcl
    have HVm := HV0
    clear hB1 HCe hm hcl HV0
    go_wp2_with fail
    go_step3
    have HTm := Lib.hid (HT.out.below HB.out)
    have HSm := Lib.hid (HS.out.below HB.out)
    by_cases hlt : m < s.length
    · have HIn := Lib.hid (inside_any m HTm.out HSm.out HOk.out hml hl)
      have r0 : (m : Int) < (s.length : Int) := by omega
      cases hin : insR R s m with
      | true =>
        rw [hin] at HIn
        have HRe := Lib.hid (show runE s.length (nxt (tabOf R) s) (insR R s) m = fwdI R s a by rw [← HVm.out, skp_stop hin])
        clear hin HVm
        go_wp2_with fail
        refine HIn.out.mono ?_
        rintro e w2 ⟨rfl, hB2⟩
        have HB2 := Lib.hid (below_trans' HB.out hB2)
        clear hB2 HIn HB HTm HSm
        go_wp2_with fail
        go_loopw [2] (fun iv wr => ∃ k : Nat, k ≤ s.length ∧ iv = .int .i64 ((k : Nat) : Int) ∧ Below w.heap.size w wr ∧ runE s.length (nxt (tabOf R) s) (insR R s) k = fwdI R s a) (fun iv _ => s.length - (intOf iv).toNat)
        case atStart => exact ⟨_, hml, rfl, HB2.out, HRe.out⟩
        case round =>
          obtain ⟨k, hk, rfl, hB, hV⟩ := hrel
          have HBk := Lib.hid hB
          have HVk := Lib.hid hV
          have HTk := Lib.hid (HT.out.below hB)
          have HSk := Lib.hid (HS.out.below hB)
          have HIk := Lib.hid (inside_any k HTk.out HSk.out HOk.out hk hl)
          clear hB hV
          cases hik : insR R s k with
          | true =>
            rw [hik] at HIk
            have hkl := insR_lt hik
            have hn1 := nxt_gt (tabOf R) hkl
            have hn2 := nxt_le (tabOf R) hk
            have HVn := Lib.hid (show runE s.length (nxt (tabOf R) s) (insR R s) (nxt (tabOf R) s k) = fwdI R s a by rw [← HVk.out, runE_step hkl hn1 hik])
            clear hik HVk
            go_wp2_with fail
            refine HIk.out.mono ?_
            rintro e w4 ⟨rfl, hB4⟩
            have HNx := Lib.hid (next_any k (HTk.out.below hB4) (HSk.out.below hB4) HOk.out hkl hl)
            rw [show k + nx (tabOf R) (s.drop k) = nxt (tabOf R) s k from rfl] at HNx
            generalize nxt (tabOf R) s k = n at HNx hn1 hn2 HVn
            have HB4 := Lib.hid (below_trans' HBk.out hB4)
            clear hB4 HIk HBk
            go_wp2_with fail
            refine HNx.out.mono ?_
            rintro e w5 ⟨rfl, hB5⟩
            have HB5 := Lib.hid (below_trans' HB4.out hB5)
            clear hB5 HNx
            go_wp2_with fail
            go_roundw
            case rel => exact ⟨n, hn2, rfl, HB5.out, HVn.out⟩
            case measure => simp [intOf] <;> omega
          | false =>
            rw [hik] at HIk
            have HF := Lib.hid (show k = fwdI R s a by rw [← HVk.out, runE_stop hik])
            clear hik HVk
            go_wp2_with fail
            refine HIk.out.mono ?_
            rintro e w4 ⟨rfl, hB4⟩
            have HB4 := Lib.hid (below_trans' HBk.out hB4)
            clear hB4 HIk HBk
            go_wp2_with fail
            try simp only [Exit.jump]
            go_ret
            exact ⟨ret_i (by rw [← HF.out]), HB4.out⟩
      | false =>
        rw [hin] at HIn
        have hn1 := nxt_gt (tabOf R) hlt
        have hn2 := nxt_le (tabOf R) hml
        have HVn := Lib.hid (show runE s.length (nxt (tabOf R) s) (insR R s) (skp s.length (nxt (tabOf R) s) (insR R s) (nxt (tabOf R) s m)) = fwdI R s a by rw [← HVm.out, skp_step hlt hn1 hin])
        clear hin HVm
        go_wp2_with fail
        refine HIn.out.mono ?_
        rintro e w2 ⟨rfl, hB2⟩
        have HNx := Lib.hid (next_any m (HTm.out.below hB2) (HSm.out.below hB2) HOk.out hlt hl)
        rw [show m + nx (tabOf R) (s.drop m) = nxt (tabOf R) s m from rfl] at HNx
        generalize nxt (tabOf R) s m = n at HNx hn1 hn2 HVn
        have HB2 := Lib.hid (below_trans' HB.out hB2)
        clear hB2 HIn HB HTm HSm
        go_wp2_with fail
        refine HNx.out.mono ?_
        rintro e w3 ⟨rfl, hB3⟩
        have HB2 := Lib.hid (below_trans' HB2.out hB3)
        clear hB3 HNx
        go_wp2_with fail
        go_step3
        first
          | exact ⟨n, _, _, _, _, _, _, _, _, _, _, _, _, _, _, _, _, _, _, _, _, _, _, _, _, _, _, _, _, _, _, _, rfl, by omega, HB2.out, HVn.out⟩
          | exact ⟨rfl, n, _, _, _, _, _, _, _, _, _, _, _, _, _, _, _, _, _, _, _, _, _, _, _, _, _, _, _, _, _, _, _, rfl, by omega, HB2.out, HVn.out⟩
    · have hme : m = s.length := by omega
      have r0 : decide ((m : Int) < (s.length : Int)) = false := by rw [decide_eq_false_iff_not]; omega
      have r1 : decide (m < s.length) = false := decide_eq_false hlt
      have HRe := Lib.hid (show runE s.length (nxt (tabOf R) s) (insR R s) m = fwdI R s a by rw [← HVm.out, skp_end hlt])
      have HB2 := HB
      subst hme
      clear HVm HB HTm HSm
      go_wp2_with fail
      go_loopw [2] (fun iv wr => ∃ k : Nat, k ≤ s.length ∧ iv = .int .i64 ((k : Nat) : Int) ∧ Below w.heap.size w wr ∧ runE s.length (nxt (tabOf R) s) (insR R s) k = fwdI R s a) (fun iv _ => s.length - (intOf iv).toNat)
      case atStart => exact ⟨_, hml, rfl, HB2.out, HRe.out⟩
      case round =>
        obtain ⟨k, hk, rfl, hB, hV⟩ := hrel
        have HBk := Lib.hid hB
        have HVk := Lib.hid hV
        have HTk := Lib.hid (HT.out.below hB)
        have HSk := Lib.hid (HS.out.below hB)
        have HIk := Lib.hid (inside_any k HTk.out HSk.out HOk.out hk hl)
        clear hB hV
        cases hik : insR R s k with
        | true =>
          rw [hik] at HIk
          have hkl := insR_lt hik
          have hn1 := nxt_gt (tabOf R) hkl
          have hn2 := nxt_le (tabOf R) hk
          have HVn := Lib.hid (show runE s.length (nxt (tabOf R) s) (insR R s) (nxt (tabOf R) s k) = fwdI R s a by rw [← HVk.out, runE_step hkl hn1 hik])
          clear hik HVk
          go_wp2_with fail
          refine HIk.out.mono ?_
          rintro e w4 ⟨rfl, hB4⟩
          have HNx := Lib.hid (next_any k (HTk.out.below hB4) (HSk.out.below hB4) HOk.out hkl hl)
          rw [show k + nx (tabOf R) (s.drop k) = nxt (tabOf R) s k from rfl] at HNx
          generalize nxt (tabOf R) s k = n at HNx hn1 hn2 HVn
          have HB4 := Lib.hid (below_trans' HBk.out hB4)
          clear hB4 HIk HBk
          go_wp2_with fail
          refine HNx.out.mono ?_
          rintro e w5 ⟨rfl, hB5⟩
          have HB5 := Lib.hid (below_trans' HB4.out hB5)
          clear hB5 HNx
          go_wp2_with fail
          go_roundw
          case rel => exact ⟨n, hn2, rfl, HB5.out, HVn.out⟩
          case measure => simp [intOf] <;> omega
        | false =>
          rw [hik] at HIk
          have HF := Lib.hid (show k = fwdI R s a by rw [← HVk.out, runE_stop hik])
          clear hik HVk
          go_wp2_with fail
          refine HIk.out.mono ?_
          rintro e w4 ⟨rfl, hB4⟩
          have HB4 := Lib.hid (below_trans' HBk.out hB4)
          clear hB4 HIk HBk
          go_wp2_with fail
          try simp only [Exit.jump]
          go_ret
          exact ⟨ret_i (by rw [← HF.out]), HB4.out⟩
  · rintro a' w1 ⟨m, u3, u4, u5, u7, u8, u9, u10, u11, u12, u13, u14, u15, u16, u17, u18, u19, u20, u21, u22, u23, u24, u25, u26, u27, u28, u29, u30, u31, u32, u33, u34, rfl, hml, hB1, hVm⟩
    have HB := Lib.hid hB1
    have HVm := Lib.hid hVm
    clear hB1 HCe hcl HV0 hVm
    have HTm := Lib.hid (HT.out.below HB.out)
    have HSm := Lib.hid (HS.out.below HB.out)
    by_cases hlt : m < s.length
    · have HIn := Lib.hid (inside_any m HTm.out HSm.out HOk.out hml hl)
      have r0 : (m : Int) < (s.length : Int) := by omega
      cases hin : insR R s m with
      | true =>
        rw [hin] at HIn
        have HRe := Lib.hid (show runE s.length (nxt (tabOf R) s) (insR R s) m = fwdI R s a by rw [← HVm.out, skp_stop hin])
        clear hin HVm
        go_wp2_with fail
        refine HIn.out.mono ?_
        rintro e w2 ⟨rfl, hB2⟩
        have HB2 := Lib.hid (below_trans' HB.out hB2)
        clear hB2 HIn HB HTm HSm
        go_wp2_with fail
        go_loopw [2] (fun iv wr => ∃ k : Nat, k ≤ s.length ∧ iv = .int .i64 ((k : Nat) : Int) ∧ Below w.heap.size w wr ∧ runE s.length (nxt (tabOf R) s) (insR R s) k = fwdI R s a) (fun iv _ => s.length - (intOf iv).toNat)
        case atStart => exact ⟨_, hml, rfl, HB2.out, HRe.out⟩
        case round =>
          obtain ⟨k, hk, rfl, hB, hV⟩ := hrel
          have HBk := Lib.hid hB
          have HVk := Lib.hid hV
          have HTk := Lib.hid (HT.out.below hB)
          have HSk := Lib.hid (HS.out.below hB)
          have HIk := Lib.hid (inside_any k HTk.out HSk.out HOk.out hk hl)
          clear hB hV
          cases hik : insR R s k with
          | true =>
            rw [hik] at HIk
            have hkl := insR_lt hik
            have hn1 := nxt_gt (tabOf R) hkl
            have hn2 := nxt_le (tabOf R) hk
            have HVn := Lib.hid (show runE s.length (nxt (tabOf R) s) (insR R s) (nxt (tabOf R) s k) = fwdI R s a by rw [← HVk.out, runE_step hkl hn1 hik])
            clear hik HVk
            go_wp2_with fail
            refine HIk.out.mono ?_
            rintro e w4 ⟨rfl, hB4⟩
            have HNx := Lib.hid (next_any k (HTk.out.below hB4) (HSk.out.below hB4) HOk.out hkl hl)
            rw [show k + nx (tabOf R) (s.drop k) = nxt (tabOf R) s k from rfl] at HNx
            generalize nxt (tabOf R) s k = n at HNx hn1 hn2 HVn
            have HB4 := Lib.hid (below_trans' HBk.out hB4)
            clear hB4 HIk HBk
            go_wp2_with fail
            refine HNx.out.mono ?_
            rintro e w5 ⟨rfl, hB5⟩
            have HB5 := Lib.hid (below_trans' HB4.out hB5)
            clear hB5 HNx
            go_wp2_with fail
            go_roundw
            case rel => exact ⟨n, hn2, rfl, HB5.out, HVn.out⟩
            case measure => simp [intOf] <;> omega
          | false =>
            rw [hik] at HIk
            have HF := Lib.hid (show k = fwdI R s a by rw [← HVk.out, runE_stop hik])
            clear hik HVk
            go_wp2_with fail
            refine HIk.out.mono ?_
            rintro e w4 ⟨rfl, hB4⟩
            have HB4 := Lib.hid (below_trans' HBk.out hB4)
            clear hB4 HIk HBk
            go_wp2_with fail
            try simp only [Exit.jump]
            go_ret
            exact ⟨ret_i (by rw [← HF.out]), HB4.out⟩
      | false =>
        rw [hin] at HIn
        have hn1 := nxt_gt (tabOf R) hlt
        have hn2 := nxt_le (tabOf R) hml
        have HVn := Lib.hid (show runE s.length (nxt (tabOf R) s) (insR R s) (skp s.length (nxt (tabOf R) s) (insR R s) (nxt (tabOf R) s m)) = fwdI R s a by rw [← HVm.out, skp_step hlt hn1 hin])
        clear hin HVm
        go_wp2_with fail
        refine HIn.out.mono ?_
        rintro e w2 ⟨rfl, hB2⟩
        have HNx := Lib.hid (next_any m (HTm.out.below hB2) (HSm.out.below hB2) HOk.out hlt hl)
        rw [show m + nx (tabOf R) (s.drop m) = nxt (tabOf R) s m from rfl] at HNx
        generalize nxt (tabOf R) s m = n at HNx hn1 hn2 HVn
        have HB2 := Lib.hid (below_trans' HB.out hB2)
        clear hB2 HIn HB HTm HSm
        go_wp2_with fail
        refine HNx.out.mono ?_
        rintro e w3 ⟨rfl, hB3⟩
        have HB2 := Lib.hid (below_trans' HB2.out hB3)
        clear hB3 HNx
        go_wp2_with fail
        go_step3
        first
          | exact ⟨⟨n, _, _, _, _, _, _, _, _, _, _, _, _, _, _, _, _, _, _, _, _, _, _, _, _, _, _, _, _, _, _, _, rfl, by omega, HB2.out, HVn.out⟩, by simp [intOf] <;> omega⟩
          | exact ⟨rfl, ⟨n, _, _, _, _, _, _, _, _, _, _, _, _, _, _, _, _, _, _, _, _, _, _, _, _, _, _, _, _, _, _, _, rfl, by omega, HB2.out, HVn.out⟩, by simp [intOf] <;> omega⟩
    · have hme : m = s.length := by omega
      have r0 : decide ((m : Int) < (s.length : Int)) = false := by rw [decide_eq_false_iff_not]; omega
      have r1 : decide (m < s.length) = false := decide_eq_false hlt
      have HRe := Lib.hid (show runE s.length (nxt (tabOf R) s) (insR R s) m = fwdI R s a by rw [← HVm.out, skp_end hlt])
      have HB2 := HB
      subst hme
      clear HVm HB HTm HSm
      go_wp2_with fail
      go_loopw [2] (fun iv wr => ∃ k : Nat, k ≤ s.length ∧ iv = .int .i64 ((k : Nat) : Int) ∧ Below w.heap.size w wr ∧ runE s.length (nxt (tabOf R) s) (insR R s) k = fwdI R s a) (fun iv _ => s.length - (intOf iv).toNat)
      case atStart => exact ⟨_, hml, rfl, HB2.out, HRe.out⟩
      case round =>
        obtain ⟨k, hk, rfl, hB, hV⟩ := hrel
        have HBk := Lib.hid hB
        have HVk := Lib.hid hV
        have HTk := Lib.hid (HT.out.below hB)
        have HSk := Lib.hid (HS.out.below hB)
        have HIk := Lib.hid (inside_any k HTk.out HSk.out HOk.out hk hl)
        clear hB hV
        cases hik : insR R s k with
        | true =>
          rw [hik] at HIk
          have hkl := insR_lt hik
          have hn1 := nxt_gt (tabOf R) hkl
          have hn2 := nxt_le (tabOf R) hk
          have HVn := Lib.hid (show runE s.length (nxt (tabOf R) s) (insR R s) (nxt (tabOf R) s k) = fwdI R s a by rw [← HVk.out, runE_step hkl hn1 hik])
          clear hik HVk
          go_wp2_with fail
          refine HIk.out.mono ?_
          rintro e w4 ⟨rfl, hB4⟩
          have HNx := Lib.hid (next_any k (HTk.out.below hB4) (HSk.out.below hB4) HOk.out hkl hl)
          rw [show k + nx (tabOf R) (s.drop k) = nxt (tabOf R) s k from rfl] at HNx
          generalize nxt (tabOf R) s k = n at HNx hn1 hn2 HVn
          have HB4 := Lib.hid (below_trans' HBk.out hB4)
          clear hB4 HIk HBk
          go_wp2_with fail
          refine HNx.out.mono ?_
          rintro e w5 ⟨rfl, hB5⟩
          have HB5 := Lib.hid (below_trans' HB4.out hB5)
          clear hB5 HNx
          go_wp2_with fail
          go_roundw
          case rel => exact ⟨n, hn2, rfl, HB5.out, HVn.out⟩
          case measure => simp [intOf] <;> omega
        | false =>
          rw [hik] at HIk
          have HF := Lib.hid (show k = fwdI R s a by rw [← HVk.out, runE_stop hik])
          clear hik HVk
          go_wp2_with fail
          refine HIk.out.mono ?_
          rintro e w4 ⟨rfl, hB4⟩
          have HB4 := Lib.hid (below_trans' HBk.out hB4)
          clear hB4 HIk HBk
          go_wp2_with fail
          try simp only [Exit.jump]
          go_ret
          exact ⟨ret_i (by rw [← HF.out]), HB4.out⟩
end
end Go.Proofs.Ythlpelfogplomaa
