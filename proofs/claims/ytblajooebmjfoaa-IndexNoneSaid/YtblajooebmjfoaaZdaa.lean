/- Joined texts: BackP BackA BackB BackC BackD BackQ IdxA IdxB IdxC WordP BackE BackF WordQ IdxP IdxS IdxD IdxE IdxF IdxG IdxH IdxI IdxJ IdxK. -/
import Derived.Deep.RegionHeld3
import Derived.WalkMore
import Derived.Test.YtblajooebmjfoaaZaaa
import Derived.Test.YtblajooebmjfoaaZbac
import Derived.Test.YtblajooebmjfoaaZaba
import Derived.Test.YtblajooebmjfoaaZaaz
import Derived.Test.YtblajooebmjfoaaZcaa
/- Boundaries around a place, plainly. -/
namespace Go.Proofs.Ytblajooebmjfoaa

def isB (T : Tab) (s : List Int) (i : Nat) : Bool := decide (i = s.length) || begAt T s i
/-- the last boundary that is not behind a place -/
def floorB (T : Tab) (s : List Int) : Nat → Nat
  | 0 => 0
  | i + 1 => if isB T s (i + 1) then i + 1 else floorB T s i
/-- the first one that is not ahead of it -/
def ceilB (T : Tab) (s : List Int) (i : Nat) : Nat := i + fnb T (s.take i).reverse (s.drop i)
def floorI (T : Tab) (s : List Int) (a : Int) : Nat := if a ≤ 0 then 0 else if (s.length : Int) ≤ a then s.length else floorB T s a.toNat
def ceilI (T : Tab) (s : List Int) (a : Int) : Nat := if a ≤ 0 then 0 else if (s.length : Int) ≤ a then s.length else ceilB T s a.toNat
theorem isB_len (T : Tab) (s : List Int) : isB T s s.length = true := by simp [isB]
theorem isB_lt {T : Tab} {s : List Int} {i : Nat} (h : i < s.length) : isB T s i = begAt T s i := by
  unfold isB
  rw [decide_eq_false (by omega), Bool.false_or]
theorem floorB_eq {T : Tab} {s : List Int} {f : Nat} : ∀ {a : Nat}, f ≤ a → (f = 0 ∨ isB T s f = true) → (∀ j, f < j → j ≤ a → isB T s j = false) → floorB T s a = f
  | 0, h, _, _ => by simp only [floorB]; omega
  | a + 1, h, hf, hn => by
    simp only [floorB]
    by_cases he : f = a + 1
    · subst he
      rcases hf with hf | hf
      · omega
      · rw [hf, if_pos rfl]
    · rw [hn (a + 1) (by omega) (Nat.le_refl _), if_neg Bool.false_ne_true]
      exact floorB_eq (by omega) hf fun j h1 h2 => hn j h1 (by omega)
theorem floorB_le (T : Tab) (s : List Int) : ∀ a, floorB T s a ≤ a
  | 0 => Nat.le_refl _
  | a + 1 => by
    simp only [floorB]
    split
    · exact Nat.le_refl _
    · have := floorB_le T s a; omega
theorem floorB_is (T : Tab) (s : List Int) : ∀ a, floorB T s a = 0 ∨ isB T s (floorB T s a) = true
  | 0 => .inl rfl
  | a + 1 => by
    simp only [floorB]
    split
    · rename_i h; exact .inr h
    · exact floorB_is T s a
theorem floorB_none (T : Tab) (s : List Int) : ∀ a j, floorB T s a < j → j ≤ a → isB T s j = false
  | 0, j, h1, h2 => by omega
  | a + 1, j, h1, h2 => by
    simp only [floorB] at h1
    split at h1
    · omega
    · rename_i h
      by_cases hj : j = a + 1
      · subst hj; exact eq_false_of_ne_true h
      · exact floorB_none T s a j h1 (by omega)
theorem ceilB_spec (T : Tab) (s : List Int) {i : Nat} (h : i ≤ s.length) : (∀ j, i ≤ j → j < ceilB T s i → begAt T s j = false) ∧ ceilB T s i ≤ s.length ∧ (ceilB T s i = s.length ∨ begAt T s (ceilB T s i) = true) := fnb_spec T s _ i rfl h
theorem ceilB_eq {T : Tab} {s : List Int} {i c : Nat} (h : i ≤ s.length) (hic : i ≤ c) (hn : ∀ j, i ≤ j → j < c → begAt T s j = false) (hc : c ≤ s.length) (hb : c = s.length ∨ begAt T s c = true) : ceilB T s i = c := by
  obtain ⟨h1, h2, h3⟩ := ceilB_spec T s h
  have hge : i ≤ ceilB T s i := Nat.le_add_right _ _
  rcases Nat.lt_trichotomy (ceilB T s i) c with h4 | h4 | h4
  · rcases h3 with h3 | h3
    · omega
    · rw [hn _ hge h4] at h3; cases h3
  · exact h4
  · rcases hb with hb | hb
    · omega
    · rw [h1 c hic h4] at hb; cases hb
theorem ceilB_step {T : Tab} {s : List Int} {k : Nat} (hk : k < s.length) : ceilB T s k = if begAt T s k then k else ceilB T s (k + 1) := by
  have hx : s[k]? = some s[k] := List.getElem?_eq_getElem hk
  generalize s[k] = x at hx
  unfold ceilB begAt
  rw [drop_of_get hx, take_succ_rev hx, hx]
  simp only [fnb]
  split <;> omega
theorem ceilB_len (T : Tab) (s : List Int) : ceilB T s s.length = s.length := by unfold ceilB; rw [List.drop_length]; rfl
/-- from the last boundary not behind a place, that is ahead of it, the next one is the first not ahead of it -/
theorem ceil_of_floor {T : Tab} (H : T.Ok) {s : List Int} {a : Nat} (ha : a < s.length) (hf : floorB T s a < a) : ceilB T s a = floorB T s a + nx T (s.drop (floorB T s a)) := by
  have hb : begAt T s (floorB T s a) = true := by
    rcases floorB_is T s a with h | h
    · rw [h]; exact begAt_zero T (fun e => by rw [e] at ha; cases ha)
    · rwa [isB_lt (by omega)] at h
  obtain ⟨h1, h2, h3, h4⟩ := nx_spec H hb
  have h5 := floorB_none T s a
  refine ceilB_eq (Nat.le_of_lt ha) ?_ (fun j h6 h7 => h3 j (by omega) h7) h2 h4
  rcases Nat.lt_or_ge (floorB T s a + nx T (s.drop (floorB T s a))) a with h6 | h6
  · have h8 := h5 _ h1 (Nat.le_of_lt h6)
    rw [isB_lt (by omega)] at h8
    rcases h4 with h4 | h4
    · omega
    · rw [h8] at h4; cases h4
  · exact h6
theorem floorI_nonpos {T : Tab} {s : List Int} {a : Int} (h : a ≤ 0) : floorI T s a = 0 := by unfold floorI; rw [if_pos h]
theorem floorI_big {T : Tab} {s : List Int} {a : Int} (h : ¬ a ≤ 0) (h2 : (s.length : Int) ≤ a) : floorI T s a = s.length := by unfold floorI; rw [if_neg h, if_pos h2]
theorem floorI_mid {T : Tab} {s : List Int} {a : Nat} (h : 0 < a) (h2 : a < s.length) : floorI T s (a : Int) = floorB T s a := by unfold floorI; rw [if_neg (by omega), if_neg (by omega)]; rfl
theorem ceilI_nonpos {T : Tab} {s : List Int} {a : Int} (h : a ≤ 0) : ceilI T s a = 0 := by unfold ceilI; rw [if_pos h]
theorem ceilI_big {T : Tab} {s : List Int} {a : Int} (h : ¬ a ≤ 0) (h2 : (s.length : Int) ≤ a) : ceilI T s a = s.length := by unfold ceilI; rw [if_neg h, if_pos h2]
theorem ceilI_mid {T : Tab} {s : List Int} {a : Nat} (h : 0 < a) (h2 : a < s.length) : ceilI T s (a : Int) = ceilB T s a := by unfold ceilI; rw [if_neg (by omega), if_neg (by omega)]; rfl
theorem floorI_le (T : Tab) (s : List Int) (a : Int) : floorI T s a ≤ s.length := by
  unfold floorI
  split
  · exact Nat.zero_le _
  · split
    · exact Nat.le_refl _
    · have := floorB_le T s a.toNat; omega
theorem floorI_self {T : Tab} {s : List Int} {a : Int} : ¬ a ≤ 0 → a < s.length → (floorI T s a : Int) ≤ a := fun h1 h2 => by
  unfold floorI
  rw [if_neg h1, if_neg (by omega)]
  have := floorB_le T s a.toNat; omega
end Go.Proofs.Ytblajooebmjfoaa

/- back: hangs, sure. -/
namespace Go.Proofs.Ytblajooebmjfoaa
open Go.RowKit

section
variable {R : List Rw} {s : List Int} {w : World} {sv : Value} {tp : Nat}
end
end Go.Proofs.Ytblajooebmjfoaa

/- back.sure. -/
namespace Go.Proofs.Ytblajooebmjfoaa
open Go.RowKit

section
variable {R : List Rw} {s : List Int} {w : World} {sv : Value} {tp : Nat}
end
end Go.Proofs.Ytblajooebmjfoaa

/- back: Floor, Ceil, Prev, Next; the document's floor, ceil. -/
namespace Go.Proofs.Ytblajooebmjfoaa
open Go.RowKit

section
variable {R : List Rw} {s : List Int} {w : World} {v sv : Value} {tp : Nat}
end
end Go.Proofs.Ytblajooebmjfoaa

/- back: Prev, Next; the document's floor, ceil; chapter 11's example. -/
namespace Go.Proofs.Ytblajooebmjfoaa
open Go.RowKit

/-- the last boundary ahead of a place -/
def prevI (T : Tab) (s : List Int) (a : Int) : Nat := floorI T s (max (min a ((s.length : Int) + 1)) 0 - 1)
/-- the first one behind it -/
def nextI (T : Tab) (s : List Int) (a : Int) : Nat := if (s.length : Int) ≤ a then s.length else ceilI T s (max a (-1) + 1)
theorem floorI_clamp {T : Tab} {s : List Int} {a : Int} (h : (s.length : Int) ≤ a) (h0 : 0 < a) : floorI T s a = s.length := floorI_big (by omega) h
theorem floorI_all {T : Tab} {s : List Int} {a : Int} {n : Nat} (hn : n = if a ≤ 0 then 0 else if (s.length : Int) ≤ a then s.length else a.toNat) : floorI T s a = floorB T s n := by
  unfold floorI
  by_cases h : a ≤ 0
  · rw [if_pos h] at hn ⊢; rw [hn]; rfl
  · rw [if_neg h] at hn ⊢
    by_cases h2 : (s.length : Int) ≤ a
    · rw [if_pos h2] at hn ⊢
      rw [hn]
      exact (floorB_eq (Nat.le_refl _) (.inr (isB_len T s)) fun j h1 h2 => by omega).symm
    · rw [if_neg h2] at hn ⊢; rw [hn]
theorem ceilI_all {T : Tab} {s : List Int} {a : Int} {n : Nat} (hn : n = if a ≤ 0 then 0 else if (s.length : Int) ≤ a then s.length else a.toNat) : n ≤ s.length ∧ ceilI T s a = ceilB T s n := by
  unfold ceilI
  by_cases h : a ≤ 0
  · rw [if_pos h] at hn ⊢
    subst hn
    refine ⟨Nat.zero_le _, ?_⟩
    cases s with
    | nil => rfl
    | cons x l => rw [ceilB_step (by simp), begAt_zero T (by simp)]; rfl
  · rw [if_neg h] at hn ⊢
    by_cases h2 : (s.length : Int) ≤ a
    · rw [if_pos h2] at hn ⊢
      rw [hn]
      exact ⟨Nat.le_refl _, (ceilB_len T s).symm⟩
    · rw [if_neg h2] at hn ⊢; rw [hn]; exact ⟨by omega, rfl⟩
section
variable {R : List Rw} {s : List Int} {w : World} {v sv : Value} {tp : Nat}
end
end Go.Proofs.Ytblajooebmjfoaa

/- From beginning to beginning, plainly. -/
namespace Go.Proofs.Ytblajooebmjfoaa

theorem sorted_between {S : List Nat} (hs : S.Pairwise (· < ·)) {i q q' : Nat} (h : S[i]? = some q) (h' : S[i + 1]? = some q') : q < q' ∧ ∀ j ∈ S, ¬ (q < j ∧ j < q') := by
  rw [List.pairwise_iff_getElem] at hs
  obtain ⟨a1, a2⟩ := List.getElem?_eq_some_iff.1 h
  obtain ⟨b1, b2⟩ := List.getElem?_eq_some_iff.1 h'
  refine ⟨by have := hs i (i + 1) a1 b1 (by omega); omega, fun j hj hq => ?_⟩
  obtain ⟨k, hk⟩ := List.mem_iff_getElem?.1 hj
  obtain ⟨c1, c2⟩ := List.getElem?_eq_some_iff.1 hk
  rcases Nat.lt_trichotomy k i with h | h | h
  · have := hs k i c1 a1 h; omega
  · subst h; omega
  · rcases Nat.lt_trichotomy k (i + 1) with h2 | h2 | h2
    · omega
    · subst h2; omega
    · have := hs (i + 1) k b1 c1 h2; omega
theorem sorted_last {S : List Nat} (hs : S.Pairwise (· < ·)) {i q : Nat} (h : S[i]? = some q) (hl : i + 1 = S.length) : ∀ j ∈ S, j ≤ q := by
  rw [List.pairwise_iff_getElem] at hs
  obtain ⟨a1, a2⟩ := List.getElem?_eq_some_iff.1 h
  intro j hj
  obtain ⟨k, hk⟩ := List.mem_iff_getElem?.1 hj
  obtain ⟨c1, c2⟩ := List.getElem?_eq_some_iff.1 hk
  rcases Nat.lt_trichotomy k i with h | h | h
  · have := hs k i c1 a1 h; omega
  · subst h; omega
  · omega
section
variable {T : Tab} {s : List Int} {i q q' : Nat}
theorem begF {T : Tab} {s : List Int} {j : Nat} (h : j ∉ starts T s) : begAt T s j = false := by
  cases hb : begAt T s j with
  | false => rfl
  | true => exact absurd ((starts_mem T s j).2 hb) h
theorem next_start (h : (starts T s)[i]? = some q) (h' : (starts T s)[i + 1]? = some q') : nextI T s (q : Int) = q' := by
  obtain ⟨hlt, hno⟩ := sorted_between (starts_sorted T s) h h'
  have hb' := (starts_mem T s q').1 (List.mem_of_getElem? h')
  have hl' := begAt_lt hb'
  unfold nextI
  rw [if_neg (by omega), show max (q : Int) (-1) + 1 = ((q + 1 : Nat) : Int) by omega, ceilI_mid (by omega) (by omega)]
  exact ceilB_eq (by omega) (by omega) (fun j h1 h2 => begF fun hm => hno j hm ⟨by omega, h2⟩) (by omega) (.inr hb')
theorem next_last (h : (starts T s)[i]? = some q) (hl : i + 1 = (starts T s).length) : nextI T s (q : Int) = s.length := by
  have hmax := sorted_last (starts_sorted T s) h hl
  have hq := begAt_lt ((starts_mem T s q).1 (List.mem_of_getElem? h))
  unfold nextI
  rw [if_neg (by omega), show max (q : Int) (-1) + 1 = ((q + 1 : Nat) : Int) by omega]
  by_cases he : q + 1 = s.length
  · rw [ceilI_big (by omega) (by omega)]
  · rw [ceilI_mid (by omega) (by omega)]
    exact ceilB_eq (by omega) (by omega) (fun j h1 h2 => begF fun hm => by have := hmax j hm; omega) (Nat.le_refl _) (.inl rfl)
theorem prev_start (h : (starts T s)[i]? = some q) (h' : (starts T s)[i + 1]? = some q') : prevI T s (q' : Int) = q := by
  obtain ⟨hlt, hno⟩ := sorted_between (starts_sorted T s) h h'
  have hb := (starts_mem T s q).1 (List.mem_of_getElem? h)
  have hl' := begAt_lt ((starts_mem T s q').1 (List.mem_of_getElem? h'))
  unfold prevI
  rw [show max (min (q' : Int) ((s.length : Int) + 1)) 0 - 1 = ((q' - 1 : Nat) : Int) by omega]
  by_cases h0 : q' - 1 = 0
  · rw [floorI_nonpos (by omega)]; omega
  · rw [floorI_mid (by omega) (by omega)]
    exact floorB_eq (by omega) (.inr (by rw [isB_lt (by omega)]; exact hb)) fun j h1 h2 => by
      rw [isB_lt (by omega)]; exact begF fun hm => hno j hm ⟨h1, by omega⟩
theorem prev_last (h : (starts T s)[i]? = some q) (hl : i + 1 = (starts T s).length) : prevI T s (s.length : Int) = q := by
  have hmax := sorted_last (starts_sorted T s) h hl
  have hb := (starts_mem T s q).1 (List.mem_of_getElem? h)
  have hq := begAt_lt hb
  unfold prevI
  rw [show max (min (s.length : Int) ((s.length : Int) + 1)) 0 - 1 = ((s.length - 1 : Nat) : Int) by omega]
  by_cases h0 : s.length - 1 = 0
  · rw [floorI_nonpos (by omega)]; omega
  · rw [floorI_mid (by omega) (by omega)]
    exact floorB_eq (by omega) (.inr (by rw [isB_lt (by omega)]; exact hb)) fun j h1 h2 => by
      rw [isB_lt (by omega)]; exact begF fun hm => by have := hmax j hm; omega
theorem start_zero (h : (starts T s)[0]? = some q) : q = 0 := by
  cases s with
  | nil => simp [starts, startsB] at h
  | cons x l => simp [starts, startsB, begB] at h; exact h.symm
theorem starts_nil_iff : starts T s = [] ↔ s = [] := by
  cases s with
  | nil => simp [starts, startsB]
  | cons x l => simp [starts, startsB, begB]
end
end Go.Proofs.Ytblajooebmjfoaa

/- slices.BinarySearch at whole numbers; an index's questions. -/
namespace Go.Proofs.Ytblajooebmjfoaa
open Go.RowKit

theorem nan_any (x : Int) (w : World) : Calls Try.prog 113 #[.int .i64 x] w fun e w' => e = .returned (.bool false) ∧ w = w' := by
  go_enter Try.func113, Try.ntmps113
  go_wp2_with fail
  go_ret
  exact ⟨rfl, rfl⟩
theorem nan2_any (x : Int) (w : World) : Calls Try.prog 104 #[.int .i64 x] w fun e w' => e = .returned (.bool false) ∧ w = w' := by
  go_enter Try.func104, Try.ntmps104
  go_wp2_with fail
  go_ret
  exact ⟨rfl, rfl⟩
theorem less_any (x y : Int) (w : World) : Calls Try.prog 103 #[.int .i64 x, .int .i64 y] w fun e w' => e = .returned (.bool (decide (x < y))) ∧ w = w' := by
  go_enter Try.func103, Try.ntmps103
  go_wp2_with fail
  refine (nan_any x w).mono ?_
  rintro e w1 ⟨rfl, rfl⟩
  go_wp2_with fail
  go_ret
  exact ⟨rfl, rfl⟩
theorem ret_ib {i i' : Int} {b b' : Bool} (h1 : i = i') (h2 : b = b') : Ending.returned (.tuple #[.int .i64 i, .bool b]) = Ending.returned (.tuple #[.int .i64 i', .bool b']) := by rw [h1, h2]
/-- where the search for a number ends -/
structure FoundI (S : List Nat) (a : Int) (i : Nat) : Prop where
  le : i ≤ S.length
  lo : ∀ (j : Nat) (s : Nat), j < i → S[j]? = some s → (s : Int) < a
  hi : ∀ (j : Nat) (s : Nat), i ≤ j → S[j]? = some s → a ≤ (s : Int)
theorem found_lo {S : List Nat} {a : Int} (hS : S.Pairwise (· < ·)) {h x : Nat} (hx : S[h]? = some x) (ht : (x : Int) < a) : ∀ (q : Nat) (s : Nat), q < h + 1 → S[q]? = some s → (s : Int) < a := by
  intro q s hq hs
  rw [List.pairwise_iff_getElem] at hS
  obtain ⟨a1, a2⟩ := List.getElem?_eq_some_iff.1 hs
  obtain ⟨b1, b2⟩ := List.getElem?_eq_some_iff.1 hx
  rcases Nat.lt_or_ge q h with hl | hl
  · have := hS q h a1 b1 hl; omega
  · have : q = h := by omega
    subst this; omega
theorem found_hi {S : List Nat} {a : Int} (hS : S.Pairwise (· < ·)) {h x : Nat} (hx : S[h]? = some x) (ht : a ≤ (x : Int)) : ∀ (q : Nat) (s : Nat), h ≤ q → S[q]? = some s → a ≤ (s : Int) := by
  intro q s hq hs
  rw [List.pairwise_iff_getElem] at hS
  obtain ⟨a1, a2⟩ := List.getElem?_eq_some_iff.1 hs
  obtain ⟨b1, b2⟩ := List.getElem?_eq_some_iff.1 hx
  rcases Nat.lt_or_ge h q with hl | hl
  · have := hS h q b1 a1 hl; omega
  · have : q = h := by omega
    subst this; omega
/-- how many begin ahead of a place -/
def ahd (S : List Nat) (a : Int) : Nat := (S.takeWhile fun s : Nat => decide ((s : Int) < a)).length
/-- does one begin there? -/
def isAt (S : List Nat) (a : Int) : Bool := decide (S[ahd S a]?.map (fun s : Nat => (s : Int)) = some a)
theorem ahd_le (S : List Nat) (a : Int) : ahd S a ≤ S.length := by
  unfold ahd
  exact (List.takeWhile_prefix _).length_le
theorem ahd_eq {S : List Nat} {a : Int} : ∀ {i : Nat}, FoundI S a i → ahd S a = i := by
  induction S with
  | nil => intro i h; have := h.le; simp at this; subst this; unfold ahd; rfl
  | cons x S ih =>
    intro i h
    by_cases hx : (x : Int) < a
    · cases i with
      | zero => have := h.hi 0 x (Nat.le_refl _) rfl; omega
      | succ i =>
        have := ih (i := i) ⟨by have := h.le; simp at this; omega, fun j s hj hs => h.lo (j + 1) s (by omega) (by simpa using hs), fun j s hj hs => h.hi (j + 1) s (by omega) (by simpa using hs)⟩
        unfold ahd at this ⊢
        rw [List.takeWhile_cons, if_pos (by simpa using hx), List.length_cons, this]
    · cases i with
      | zero => unfold ahd; rw [List.takeWhile_cons, if_neg (by simpa using hx)]; rfl
      | succ i => exact absurd (h.lo 0 x (by omega) rfl) hx
set_option maxRecDepth 100000 in
set_option maxHeartbeats 4000000 in
theorem bsi_any (v : Value) (S : List Nat) (a : Int) (w : World) (hI : IntsIn w v S) (hS : S.Pairwise (· < ·)) (hl : S.length ≤ 1000000) :
    Calls Try.prog 70 #[v, .int .i64 a] w fun e w' => e = .returned (.tuple #[.int .i64 ((ahd S a : Nat) : Int), .bool (isAt S a)]) ∧ Below w.heap.size w w' ∧ FoundI S a (ahd S a) := by
  have HI := Lib.hid hI
  obtain ⟨sa, sc, rfl, hcap, hmax, _⟩ := ints_cells hI
  unfold maxLen at hmax
  have HS := Lib.hid hS
  clear hS hI
  go_enter Try.func70, Try.ntmps70
  go_wp2_with fail
  go_loopw [7, 8] (fun iv jv wr => ∃ i j : Nat, iv = .int .i64 ((i : Nat) : Int) ∧ jv = .int .i64 ((j : Nat) : Int) ∧ i ≤ j ∧ j ≤ S.length ∧ Below w.heap.size w wr ∧ (∀ (q : Nat) (s : Nat), q < i → S[q]? = some s → (s : Int) < a) ∧ (∀ (q : Nat) (s : Nat), j ≤ q → S[q]? = some s → a ≤ (s : Int))) (fun iv jv _ => (intOf jv).toNat - (intOf iv).toNat)
  case atStart => exact ⟨0, S.length, rfl, rfl, Nat.zero_le _, Nat.le_refl _, .refl _ _, fun q s h => by omega, fun q s h h2 => by have := (List.getElem?_eq_some_iff.1 h2).1; omega⟩
  case round =>
    obtain ⟨i, j, rfl, rfl, hij, hjl, hB, hlo, hhi⟩ := hrel
    have HB := Lib.hid hB
    have HLo := Lib.hid hlo
    have HHi := Lib.hid hhi
    clear hlo hhi
    by_cases hlt : i < j
    · obtain ⟨h, hh⟩ : ∃ h : Nat, h = (i + j) / 2 := ⟨_, rfl⟩
      have hhl : h < S.length := by omega
      have hih : i ≤ h := by omega
      have hhj : h < j := by omega
      obtain ⟨x, hx⟩ : ∃ x, S[h]? = some x := ⟨S[h], List.getElem?_eq_getElem hhl⟩
      obtain ⟨b, off, cap', hv, _, _, _, _, d0⟩ := int_cell (HI.out.below hB) hx
      cases hv
      have HX := Lib.hid hx
      clear hB hx
      have s1 : (((i : Nat) : Int) + ((j : Nat) : Int)) / 2 = ((h : Nat) : Int) := by omega
      clear hh
      have e1 := IntWalk.i64_in (((i : Nat) : Int) + ((j : Nat) : Int)) (by omega)
      have p0 : ((i : Nat) : Int) < ((j : Nat) : Int) := by omega
      have p1 : (0 : Int) ≤ (h : Int) := by omega
      have p2 : (h : Int) < (S.length : Int) := by omega
      by_cases h1 : (x : Int) < a
      · have H1 := Lib.hid h1
        go_wp2_with fail
        refine (less_any _ _ _).mono ?_
        rintro e w1 ⟨rfl, rfl⟩
        go_wp2_with fail
        go_roundw
        case rel => exact ⟨h + 1, j, by go_num, rfl, by omega, by omega, HB.out, found_lo HS.out HX.out H1.out, HHi.out⟩
        case measure => simp [intOf]; omega
      · have q1 : decide ((x : Int) < a) = false := decide_eq_false h1
        have H1 := Lib.hid (show a ≤ (x : Int) by omega)
        clear h1
        go_wp2_with fail
        refine (less_any _ _ _).mono ?_
        rintro e w1 ⟨rfl, rfl⟩
        go_wp2_with fail
        go_roundw
        case rel => exact ⟨i, h, rfl, rfl, by omega, by omega, HB.out, HLo.out, found_hi HS.out HX.out H1.out⟩
        case measure => simp [intOf]; omega
    · have hie : i = j := by omega
      subst hie
      have HA := Lib.hid (ahd_eq (S := S) (a := a) (i := i) ⟨hjl, HLo.out, HHi.out⟩)
      have HF := Lib.hid (show FoundI S a (ahd S a) by rw [HA.out]; exact ⟨hjl, HLo.out, HHi.out⟩)
      clear hlt hij
      by_cases hin : i < S.length
      · obtain ⟨x, hx⟩ : ∃ x, S[i]? = some x := ⟨S[i], List.getElem?_eq_getElem hin⟩
        obtain ⟨b, off, cap', hv, _, _, _, _, d0⟩ := int_cell (HI.out.below hB) hx
        cases hv
        have p1 : (0 : Int) ≤ (i : Int) := by omega
        have p2 : (i : Int) < (S.length : Int) := by omega
        by_cases hf : (x : Int) = a
        · have q2 : ((x : Int) == a) = true := by simpa using hf
          have HE := Lib.hid (show isAt S a = true by unfold isAt; rw [HA.out, hx]; simp [hf])
          clear hf hB hx
          go_wp2_with fail
          go_ret2
          exact ⟨ret_ib (by rw [HA.out]) HE.out.symm, HB.out, HF.out⟩
        · have q2 : ((x : Int) == a) = false := by simpa using hf
          have HE := Lib.hid (show isAt S a = false by unfold isAt; rw [HA.out, hx]; simp [hf])
          clear hf hB hx
          go_wp2_with fail
          refine (nan2_any _ _).mono ?_
          rintro e w1 ⟨rfl, rfl⟩
          go_wp2_with fail
          go_ret2
          exact ⟨ret_ib (by rw [HA.out]) HE.out.symm, HB.out, HF.out⟩
      · have hil : i = S.length := by omega
        have HE := Lib.hid (show isAt S a = false by unfold isAt; rw [HA.out, List.getElem?_eq_none (by omega)]; rfl)
        subst hil
        clear hB hin
        go_wp2_with fail
        go_ret2
        exact ⟨ret_ib (by rw [HA.out]) HE.out.symm, HB.out, HF.out⟩
end Go.Proofs.Ytblajooebmjfoaa

/- An index: its questions. -/
namespace Go.Proofs.Ytblajooebmjfoaa
open Go.RowKit

/-- v is an index: where clusters begin, how many scalars there are -/
def IdxIn (w : World) (v : Value) (S : List Nat) (n : Nat) : Prop := ∃ sv, v = .agg #[sv, .int .i64 ((n : Nat) : Int)] ∧ IntsIn w sv S
theorem IdxIn.below {w w' : World} {v : Value} {S : List Nat} {n : Nat} (h : IdxIn w v S n) (hB : Below w.heap.size w w') : IdxIn w' v S n :=
  let ⟨sv, h1, h2⟩ := h
  ⟨sv, h1, h2.below hB⟩
theorem intE_one (l : List Nat) : ∀ u ∈ l.flatMap nE, u.oneCell' = true := by
  intro u hu
  obtain ⟨x, _, hx⟩ := List.mem_flatMap.1 hu
  simp [nE] at hx
  subst hx; rfl
set_option maxRecDepth 100000 in
set_option maxHeartbeats 4000000 in
theorem clone_ints {w : World} {v : Value} {l : List Nat} (h : IntsIn w v l) (hsz : l.length ≤ 1000000) :
    Calls Try.prog 101 #[v] w (IntsPost w l) := by
  have H := Lib.hid h
  obtain ⟨a, cap, rfl, hcap, hmax, hc⟩ := ints_cells h
  unfold maxLen at hmax
  clear h

  cases a with
  | none =>
    have h0 : l = [] := by
      cases l with
      | nil => rfl
      | cons x l => obtain ⟨b, off, e, _⟩ := hc (by simp); cases e
    subst h0
    have hnil := fun W : World => Lib.run_eql_slice_nil (P := Try.prog) W 37 3 none 0 cap 0 0 Try.underlying37
    clear hc
    go_enter Try.func101, Try.ntmps101
    go_wp2_with fail
    go_ret
    exact ⟨_, rfl, .refl _ _, Rd.nil _ _ _⟩
  | some ad =>
    have hnil := fun W : World => Lib.run_eql_slice_nil (P := Try.prog) W 37 3 (some ad) l.length cap 0 0 Try.underlying37
    clear hc
    go_enter Try.func101, Try.ntmps101
    go_wp2_with (at_builtin; refine wpList_app_rd _ rfl (.tmp 5) (.tmp 6) _ rfl EI _ 0 [] rfl (World.ownsRow_made w #[] 0 (Nat.le_refl _) (by unfold maxLen; omega) (by simp)) _ l.length (l.flatMap nE) rfl (H.out.below (below1 w _)) (intE_one l) (by omega) (by simp) ?_; intro v1 w1 ho hg)
    have hB : Below w.heap.size w w1 := ((Below.refl _ _).alloc (Nat.le_refl _) _).grown hg (by simp) (fun k e => by cases e; exact Nat.le_refl _)
    have HO := Lib.hid ho
    clear ho hg
    go_ret
    refine ⟨_, rfl, hB, ?_⟩
    have := HO.out
    simp only [Nat.zero_add, List.nil_append] at this
    exact rd_of_owns this
section
variable {S : List Nat} {n : Nat} {w : World} {v : Value}
set_option maxRecDepth 100000 in
theorem ilen_any (h : IdxIn w v S n) : Calls Try.prog 29 #[v] w fun e w' => e = .returned (.int .i64 ((n : Nat) : Int)) ∧ Below w.heap.size w w' := by
  obtain ⟨sv, rfl, h⟩ := h
  obtain ⟨a, cap, rfl, hcap, hmax, hc⟩ := ints_cells h
  clear h hc
  go_enter Try.func29, Try.ntmps29
  go_wp2_with fail
  go_ret
  exact ⟨rfl, (Below.refl _ _).alloc (Nat.le_refl _) _⟩
set_option maxRecDepth 100000 in
theorem icount_any (h : IdxIn w v S n) : Calls Try.prog 30 #[v] w fun e w' => e = .returned (.int .i64 ((S.length : Nat) : Int)) ∧ Below w.heap.size w w' := by
  obtain ⟨sv, rfl, h⟩ := h
  obtain ⟨a, cap, rfl, hcap, hmax, hc⟩ := ints_cells h
  clear h hc
  go_enter Try.func30, Try.ntmps30
  go_wp2_with fail
  go_ret
  exact ⟨rfl, (Below.refl _ _).alloc (Nat.le_refl _) _⟩
set_option maxRecDepth 100000 in
set_option maxHeartbeats 4000000 in
theorem istarts_any (h : IdxIn w v S n) (hsz : S.length ≤ 1000000) : Calls Try.prog 65 #[v] w (IntsPost w S) := by
  obtain ⟨sv, rfl, h⟩ := h
  obtain ⟨a, cap, rfl, hcap, hmax, hc⟩ := ints_cells h
  have HB0 := Lib.hid ((Below.refl w.heap.size w).alloc (Nat.le_refl _) (.cells #[.slice a S.length cap, .int .i64 ((n : Nat) : Int)] 39))
  have HC := Lib.hid (clone_ints (h.below HB0.out) hsz)
  clear h hc
  go_enter Try.func65, Try.ntmps65
  go_wp2_with fail
  refine HC.out.mono ?_
  rintro e w1 ⟨u, rfl, hB, hI⟩
  have HB := Lib.hid (below_trans' HB0.out hB)
  have HI := Lib.hid hI
  clear hB hI
  go_wp2_with fail
  go_ret
  exact ⟨_, rfl, HB.out, HI.out⟩
set_option maxRecDepth 100000 in
set_option maxHeartbeats 4000000 in
theorem ahead_any (at' : Int) (h : IdxIn w v S n) (hS : S.Pairwise (· < ·)) (hsz : S.length ≤ 1000000) : Calls Try.prog 66 #[v, .int .i64 at'] w fun e w' => e = .returned (.int .i64 ((ahd S at' : Nat) : Int)) ∧ Below w.heap.size w w' := by
  obtain ⟨sv, rfl, h⟩ := h
  obtain ⟨a, cap, rfl, hcap, hmax, hc⟩ := ints_cells h
  have HB0 := Lib.hid ((Below.refl w.heap.size w).alloc (Nat.le_refl _) (.cells #[.slice a S.length cap, .int .i64 ((n : Nat) : Int)] 39))
  have HC := Lib.hid (bsi_any _ S at' _ (h.below HB0.out) hS hsz)
  clear h hc hS
  go_enter Try.func66, Try.ntmps66
  go_wp2_with fail
  refine HC.out.mono ?_
  rintro e w1 ⟨rfl, hB, _⟩
  have HB := Lib.hid (below_trans' HB0.out hB)
  clear hB
  go_wp2_with fail
  go_ret
  exact ⟨rfl, HB.out⟩
/-- where a cluster begins; the end, if there is none such -/
def stA (S : List Nat) (n : Nat) (i : Int) : Nat := if 0 ≤ i then (S[i.toNat]?).getD n else n
set_option maxRecDepth 100000 in
set_option maxHeartbeats 4000000 in
theorem istart_any (i : Int) (h : IdxIn w v S n) : Calls Try.prog 23 #[v, .int .i64 i] w fun e w' => e = .returned (.int .i64 ((stA S n i : Nat) : Int)) ∧ Below w.heap.size w w' := by
  obtain ⟨sv, rfl, h⟩ := h
  have HI := Lib.hid h
  obtain ⟨a, cap, rfl, hcap, hmax, hc⟩ := ints_cells h
  unfold maxLen at hmax
  have HB0 := Lib.hid ((Below.refl w.heap.size w).alloc (Nat.le_refl _) (.cells #[.slice a S.length cap, .int .i64 ((n : Nat) : Int)] 39))
  by_cases h0 : i < 0
  · have HV := Lib.hid (show stA S n i = n by unfold stA; rw [if_neg (by omega)])
    clear h hc
    go_enter Try.func23, Try.ntmps23
    go_wp2_with fail
    go_ret
    exact ⟨ret_i (by rw [HV.out]), HB0.out⟩
  · have q0 : decide (i < 0) = false := decide_eq_false h0
    by_cases h1 : i ≥ (S.length : Int)
    · have HV := Lib.hid (show stA S n i = n by unfold stA; rw [if_pos (by omega), List.getElem?_eq_none (by omega)]; rfl)
      clear h hc h0
      go_enter Try.func23, Try.ntmps23
      go_wp2_with fail
      go_ret
      exact ⟨ret_i (by rw [HV.out]), HB0.out⟩
    · obtain ⟨k, rfl⟩ : ∃ k : Nat, i = (k : Int) := ⟨i.toNat, by omega⟩
      have q1 : decide ((k : Int) ≥ (S.length : Int)) = false := decide_eq_false h1
      have q2 : decide (S.length ≤ k) = false := by rw [decide_eq_false_iff_not]; omega
      have q3 : (0 : Int) ≤ (k : Int) := by omega
      have q4 : (k : Int) < (S.length : Int) := by omega
      obtain ⟨x, hx⟩ : ∃ x, S[k]? = some x := ⟨S[k], List.getElem?_eq_getElem (by omega)⟩
      have HV := Lib.hid (show stA S n (k : Int) = x by unfold stA; rw [if_pos (by omega)]; show (S[k]?).getD n = x; rw [hx]; rfl)
      obtain ⟨b, off, cap', hv, _, _, _, _, d0⟩ := int_cell (HI.out.below HB0.out) hx
      cases hv
      clear h hc h0 hx h1
      go_enter Try.func23, Try.ntmps23
      go_wp2_with fail
      go_ret
      exact ⟨ret_i (by rw [HV.out]), HB0.out⟩
end
end Go.Proofs.Ytblajooebmjfoaa

/- An index: Floor, Ceil, On. -/
namespace Go.Proofs.Ytblajooebmjfoaa
open Go.RowKit

/-- the first boundary that is not ahead of a place, told by an index -/
def clX (S : List Nat) (n : Nat) (a : Int) : Nat := if a ≤ 0 then 0 else stA S n (ahd S a : Nat)
/-- the last one that is not behind it -/
def flX (S : List Nat) (n : Nat) (a : Int) : Nat := if (n : Int) ≤ a then n else if isAt S a = true then a.toNat else if ahd S a = 0 then 0 else (S[ahd S a - 1]?).getD 0
section
variable {S : List Nat} {n : Nat} {w : World} {v : Value}
set_option maxRecDepth 100000 in
set_option maxHeartbeats 4000000 in
theorem iceil_any (a : Int) (h : IdxIn w v S n) (hS : S.Pairwise (· < ·)) (hsz : S.length ≤ 1000000) : Calls Try.prog 32 #[v, .int .i64 a] w fun e w' => e = .returned (.int .i64 ((clX S n a : Nat) : Int)) ∧ Below w.heap.size w w' := by
  have HX := Lib.hid h
  obtain ⟨sv, rfl, h⟩ := h
  obtain ⟨sa, cap, rfl, hcap, hmax, hc⟩ := ints_cells h
  have HB0 := Lib.hid ((Below.refl w.heap.size w).alloc (Nat.le_refl _) (.cells #[.slice sa S.length cap, .int .i64 ((n : Nat) : Int)] 39))
  have HSp := Lib.hid hS
  by_cases h0 : a ≤ 0
  · have HV := Lib.hid (show clX S n a = 0 by unfold clX; rw [if_pos h0])
    clear h hc hS
    go_enter Try.func32, Try.ntmps32
    go_wp2_with fail
    go_ret
    exact ⟨ret_i (by rw [HV.out]; rfl), HB0.out⟩
  · have q0 : decide (a ≤ 0) = false := decide_eq_false h0
    have HV := Lib.hid (show clX S n a = stA S n (ahd S a : Nat) by unfold clX; rw [if_neg h0])
    have hc2 := cell_two_new w (.slice sa S.length cap) (.int .i64 ((n : Nat) : Int)) 39
    have c0 : (w.alloc (.cells #[.slice sa S.length cap, .int .i64 ((n : Nat) : Int)] 39)).cell? ⟨w.heap.size, 0, none⟩ = some (.slice sa S.length cap) := hc2 0 _ rfl
    have c1 : (w.alloc (.cells #[.slice sa S.length cap, .int .i64 ((n : Nat) : Int)] 39)).cell? ⟨w.heap.size, 1, none⟩ = some (.int .i64 ((n : Nat) : Int)) := hc2 1 _ rfl
    clear h hc hS hc2 h0
    go_enter Try.func32, Try.ntmps32
    go_upto_region 3 with fail
    generalize w.alloc (.cells #[.slice sa S.length cap, .int .i64 ((n : Nat) : Int)] 39) = w0 at c0 c1 HB0 ⊢
    have HA := Lib.hid (fun q : Nat => ahead_any a (HX.out.below (below_dN HB0.out q)) HSp.out hsz)
    have HSt := Lib.hid (fun W (hB : Below w.heap.size w W) => istart_any ((ahd S a : Nat) : Int) (HX.out.below hB))
    go_region_held3 (fun w' => w'.cell? ⟨w.heap.size, 0, none⟩ = some (.slice sa S.length cap) ∧ w'.cell? ⟨w.heap.size, 1, none⟩ = some (.int .i64 ((n : Nat) : Int))) (first | exact ⟨q0, q1⟩ | exact ⟨p0, p1⟩ | exact ⟨c0, c1⟩ | go_keep)
      (first
        | (go_at_call 66; refine (HA.out 1).mono ?_; rintro e w1 ⟨rfl, hB1⟩; have p0 := cell_later hB1 (show (w0.drewN 1).cell? _ = _ from c0); have p1 := cell_later hB1 (show (w0.drewN 1).cell? _ = _ from c1); have HB1 := Lib.hid ((below_dN HB0.out 1).trans (hB1.mono (below_dN HB0.out 1).size)); have HSu := Lib.hid (HSt.out _ HB1.out); clear hB1)
        | (go_at_call 23; refine HSu.out.mono ?_; rintro e w2 ⟨rfl, hB2⟩; have q0 := cell_later hB2 p0; have q1 := cell_later hB2 p1; have HB2 := Lib.hid (HB1.out.trans (hB2.mono HB1.out.size)); clear hB2)
        | fail)
    all_goals go_wp2_with fail
    all_goals go_ret
    all_goals exact ⟨ret_i (by rw [HV.out]), HB2.out⟩
set_option maxRecDepth 100000 in
set_option maxHeartbeats 4000000 in
theorem ifloor_any (a : Int) (h : IdxIn w v S n) (hS : S.Pairwise (· < ·)) (hsz : S.length ≤ 1000000) : Calls Try.prog 31 #[v, .int .i64 a] w fun e w' => e = .returned (.int .i64 ((flX S n a : Nat) : Int)) ∧ Below w.heap.size w w' := by
  have HX := Lib.hid h
  obtain ⟨sv, rfl, h⟩ := h
  have HI := Lib.hid h
  obtain ⟨sa, cap, rfl, hcap, hmax, hc⟩ := ints_cells h
  unfold maxLen at hmax
  have HB0 := Lib.hid ((Below.refl w.heap.size w).alloc (Nat.le_refl _) (.cells #[.slice sa S.length cap, .int .i64 ((n : Nat) : Int)] 39))
  have HC := Lib.hid (bsi_any _ S a _ (h.below HB0.out) hS hsz)
  have hc2 := cell_two_new w (.slice sa S.length cap) (.int .i64 ((n : Nat) : Int)) 39
  have c0 : (w.alloc (.cells #[.slice sa S.length cap, .int .i64 ((n : Nat) : Int)] 39)).cell? ⟨w.heap.size, 0, none⟩ = some (.slice sa S.length cap) := hc2 0 _ rfl
  have c1 : (w.alloc (.cells #[.slice sa S.length cap, .int .i64 ((n : Nat) : Int)] 39)).cell? ⟨w.heap.size, 1, none⟩ = some (.int .i64 ((n : Nat) : Int)) := hc2 1 _ rfl
  clear h hc hc2
  go_enter Try.func31, Try.ntmps31
  go_wp2_with fail
  refine HC.out.mono ?_
  rintro e w1 ⟨rfl, hB, hF⟩
  have p0 := cell_later hB c0
  have p1 := cell_later hB c1
  have HB := Lib.hid (below_trans' HB0.out hB)
  have hIr : IntsIn w1 _ S := HI.out.below HB.out
  have hkl := hF.le
  by_cases h0 : (n : Int) ≤ a
  · have HV := Lib.hid (show flX S n a = n by unfold flX; rw [if_pos h0])
    have q0 : a ≥ (n : Int) := h0
    clear hB hF hIr
    go_wp2_with fail
    go_ret
    exact ⟨ret_i (by rw [HV.out]), HB.out⟩
  · have q0 : decide (a ≥ (n : Int)) = false := decide_eq_false h0
    cases hi : isAt S a with
    | true =>
      have HV := Lib.hid (show ((flX S n a : Nat) : Int) = a by
        unfold flX; rw [if_neg h0, if_pos hi]
        unfold isAt at hi
        have hi := of_decide_eq_true hi
        cases hg : S[ahd S a]? with
        | none => rw [hg] at hi; cases hi
        | some x => rw [hg] at hi; have hi : (x : Int) = a := (by simpa using hi); omega)
      clear hB hF hIr h0
      go_wp2_with fail
      go_ret
      exact ⟨ret_i HV.out.symm, HB.out⟩
    | false =>
      by_cases hk : ahd S a = 0
      · have HV := Lib.hid (show flX S n a = 0 by unfold flX; rw [if_neg h0, hi, if_neg (by decide), if_pos hk])
        have q1 : (((ahd S a : Nat) : Int) == 0) = true := by rw [hk]; rfl
        clear hB hF hIr h0
        rw [hk]
        go_wp2_with fail
        go_ret
        exact ⟨ret_i (by rw [HV.out]; rfl), HB.out⟩
      · obtain ⟨k, hke⟩ : ∃ k, ahd S a = k + 1 := ⟨ahd S a - 1, by omega⟩
        obtain ⟨x, hx⟩ : ∃ x, S[k]? = some x := ⟨S[k], List.getElem?_eq_getElem (by omega)⟩
        have HV := Lib.hid (show flX S n a = x by unfold flX; rw [if_neg h0, hi, if_neg (by decide), if_neg hk, hke, Nat.add_sub_cancel, hx]; rfl)
        obtain ⟨b, off, cap', hv, _, _, _, _, d0⟩ := int_cell hIr hx
        cases hv
        have e1 := IntWalk.i64_in (k : Int) (by omega)
        have q2 : (0 : Int) ≤ (k : Int) := by omega
        have q3 : (k : Int) < (S.length : Int) := by omega
        rw [hke]
        clear hB hF hIr h0 hk hke hx hi hkl
        go_wp2_with fail
        go_ret
        exact ⟨ret_i (by rw [HV.out]), HB.out⟩
/-- so many clusters on, or back -/
def onX (S : List Nat) (n : Nat) (a m : Int) : Nat := stA S n ((ahd S (flX S n a : Nat) : Nat) + min (max m (-((ahd S (flX S n a : Nat) : Nat) : Int))) ((S.length : Int) - ((ahd S (flX S n a : Nat) : Nat) : Int)))
set_option maxRecDepth 100000 in
set_option maxHeartbeats 4000000 in
theorem ion_any (a m : Int) (h : IdxIn w v S n) (hS : S.Pairwise (· < ·)) (hsz : S.length ≤ 1000000) : Calls Try.prog 33 #[v, .int .i64 a, .int .i64 m] w fun e w' => e = .returned (.int .i64 ((onX S n a m : Nat) : Int)) ∧ Below w.heap.size w w' := by
  have HX := Lib.hid h
  obtain ⟨sv, rfl, h⟩ := h
  obtain ⟨sa, cap, rfl, hcap, hmax, hc⟩ := ints_cells h
  unfold maxLen at hmax
  have HB0 := Lib.hid ((Below.refl w.heap.size w).alloc (Nat.le_refl _) (.cells #[.slice sa S.length cap, .int .i64 ((n : Nat) : Int)] 39))
  have HSp := Lib.hid hS
  have hc2 := cell_two_new w (.slice sa S.length cap) (.int .i64 ((n : Nat) : Int)) 39
  have c0 : (w.alloc (.cells #[.slice sa S.length cap, .int .i64 ((n : Nat) : Int)] 39)).cell? ⟨w.heap.size, 0, none⟩ = some (.slice sa S.length cap) := hc2 0 _ rfl
  have c1 : (w.alloc (.cells #[.slice sa S.length cap, .int .i64 ((n : Nat) : Int)] 39)).cell? ⟨w.heap.size, 1, none⟩ = some (.int .i64 ((n : Nat) : Int)) := hc2 1 _ rfl
  have HV := Lib.hid (show onX S n a m = stA S n ((ahd S (flX S n a : Nat) : Nat) + min (max m (-((ahd S (flX S n a : Nat) : Nat) : Int))) ((S.length : Int) - ((ahd S (flX S n a : Nat) : Nat) : Int))) from rfl)
  have hkl := ahd_le S (flX S n a : Nat)
  clear h hc hS hc2
  go_enter Try.func33, Try.ntmps33
  go_upto_region 1 with fail
  generalize w.alloc (.cells #[.slice sa S.length cap, .int .i64 ((n : Nat) : Int)] 39) = w0 at c0 c1 HB0 ⊢
  have HA := Lib.hid (fun q : Nat => ifloor_any a (HX.out.below (below_dN HB0.out q)) HSp.out hsz)
  have HAh := Lib.hid (fun W (hB : Below w.heap.size w W) => ahead_any ((flX S n a : Nat) : Int) (HX.out.below hB) HSp.out hsz)
  go_region_held3 (fun w' => w'.cell? ⟨w.heap.size, 0, none⟩ = some (.slice sa S.length cap) ∧ w'.cell? ⟨w.heap.size, 1, none⟩ = some (.int .i64 ((n : Nat) : Int))) (first | exact ⟨q0, q1⟩ | exact ⟨p0, p1⟩ | exact ⟨c0, c1⟩ | go_keep)
    (first
      | (go_at_call 31; refine (HA.out 1).mono ?_; rintro e w1 ⟨rfl, hB1⟩; have p0 := cell_later hB1 (show (w0.drewN 1).cell? _ = _ from c0); have p1 := cell_later hB1 (show (w0.drewN 1).cell? _ = _ from c1); have HB1 := Lib.hid ((below_dN HB0.out 1).trans (hB1.mono (below_dN HB0.out 1).size)); have HSu := Lib.hid (HAh.out _ HB1.out); clear hB1)
      | (go_at_call 66; refine HSu.out.mono ?_; rintro e w2 ⟨rfl, hB2⟩; have q0 := cell_later hB2 p0; have q1 := cell_later hB2 p1; have HB2 := Lib.hid (HB1.out.trans (hB2.mono HB1.out.size)); clear hB2)
      | fail)
  all_goals
    generalize ahd S ((flX S n a : Nat) : Int) = k at HV hkl ⊢
    have e1 := IntWalk.i64_in (-(k : Int)) (by omega)
    have e2 := IntWalk.i64_in ((S.length : Int) - (k : Int)) (by omega)
    have e3 := IntWalk.i64_in ((k : Int) + min (max m (-(k : Int))) ((S.length : Int) - (k : Int))) (by omega)
    have HSt := Lib.hid (istart_any ((k : Int) + min (max m (-(k : Int))) ((S.length : Int) - (k : Int))) (HX.out.below HB2.out))
    go_wp2_with fail
    refine HSt.out.mono ?_
    rintro e w3 ⟨rfl, hB3⟩
    have HB3 := Lib.hid (HB2.out.trans (hB3.mono HB2.out.size))
    clear hB3
    go_wp2_with fail
    go_ret
    exact ⟨ret_i (by rw [HV.out]), HB3.out⟩
end
end Go.Proofs.Ytblajooebmjfoaa

/- Words, plainly. -/
namespace Go.Proofs.Ytblajooebmjfoaa

/-- is the scalar at a place a letter? -/
def insR (R : List Rw) (s : List Int) (i : Nat) : Bool := match s[i]? with
  | some x => decide (ofA R 8 x = 1)
  | none => false
theorem insR_some {R : List Rw} {s : List Int} {i : Nat} {x : Int} (h : s[i]? = some x) : insR R s i = decide (ofA R 8 x = 1) := by unfold insR; rw [h]
theorem insR_big {R : List Rw} {s : List Int} {i : Nat} (h : s.length ≤ i) : insR R s i = false := by unfold insR; rw [List.getElem?_eq_none h]
theorem insR_lt {R : List Rw} {s : List Int} {i : Nat} (h : insR R s i = true) : i < s.length := by
  by_cases hi : i < s.length
  · exact hi
  · rw [insR_big (by omega)] at h; cases h
def nxt (T : Tab) (s : List Int) (b : Nat) : Nat := b + nx T (s.drop b)
theorem nxt_gt (T : Tab) {s : List Int} {b : Nat} (h : b < s.length) : b < nxt T s b := by
  have := nx_pos T (s := s.drop b) (fun e => by have := congrArg List.length e; rw [List.length_drop] at this; simp at this; omega)
  unfold nxt; omega
theorem nxt_le (T : Tab) {s : List Int} {b : Nat} (h : b ≤ s.length) : nxt T s b ≤ s.length := by
  have := nx_le T (s.drop b); rw [List.length_drop] at this
  unfold nxt; omega

section
variable (n : Nat) (nt : Nat → Nat) (ins : Nat → Bool)
/-- where a run of parts of words ends -/
def runE (b : Nat) : Nat := if _h : b < n ∧ b < nt b ∧ ins b = true then runE (nt b) else b
termination_by n - b
decreasing_by omega
/-- where the next part of a word is -/
def skp (b : Nat) : Nat := if _h : b < n ∧ b < nt b ∧ ins b = false then skp (nt b) else b
termination_by n - b
decreasing_by omega
/-- the words from a place on -/
def wrds (b : Nat) : List (Nat × Nat) := if _h : b < n ∧ b < runE n nt ins b then (b, runE n nt ins b) :: wrds (runE n nt ins b) else if _h2 : b < n ∧ b < nt b then wrds (nt b) else []
termination_by n - b
decreasing_by all_goals omega
def upd (out : List (Nat × Nat)) (a e : Nat) : List (Nat × Nat) := match out.getLast? with
  | some y => if y.2 = a then out.dropLast ++ [(y.1, e)] else out ++ [(a, e)]
  | none => out ++ [(a, e)]
/-- the words, cluster by cluster -/
def refW (out : List (Nat × Nat)) (b : Nat) : List (Nat × Nat) := if _h : b < n ∧ b < nt b then (if ins b = true then refW (upd out b (nt b)) (nt b) else refW out (nt b)) else out
termination_by n - b
decreasing_by all_goals omega
end
section
variable {n : Nat} {nt : Nat → Nat} {ins : Nat → Bool} {b : Nat}
theorem runE_step (h1 : b < n) (h2 : b < nt b) (h3 : ins b = true) : runE n nt ins b = runE n nt ins (nt b) := by rw [runE, dif_pos ⟨h1, h2, h3⟩]
theorem runE_stop (h : ins b = false) : runE n nt ins b = b := by rw [runE, dif_neg (fun e => by rw [h] at e; cases e.2.2)]
theorem runE_end (h : ¬ b < n) : runE n nt ins b = b := by rw [runE, dif_neg (fun e => h e.1)]
theorem skp_step (h1 : b < n) (h2 : b < nt b) (h3 : ins b = false) : skp n nt ins b = skp n nt ins (nt b) := by rw [skp, dif_pos ⟨h1, h2, h3⟩]
theorem skp_stop (h : ins b = true) : skp n nt ins b = b := by rw [skp, dif_neg (fun e => by rw [h] at e; cases e.2.2)]
theorem skp_end (h : ¬ b < n) : skp n nt ins b = b := by rw [skp, dif_neg (fun e => h e.1)]
theorem runE_ge : ∀ m, ∀ b, n - b = m → b ≤ runE n nt ins b := by
  intro m
  induction m using Nat.strongRecOn with
  | _ m ih =>
    intro b hm
    rw [runE]
    split
    · rename_i h
      have := ih (n - nt b) (by omega) (nt b) rfl
      omega
    · exact Nat.le_refl _
theorem runE_gt (h1 : b < n) (h2 : b < nt b) (h3 : ins b = true) : b < runE n nt ins b := by
  rw [runE_step h1 h2 h3]
  have := runE_ge (n := n) (nt := nt) (ins := ins) _ (nt b) rfl
  omega
theorem wrds_in (h1 : b < n) (h2 : b < nt b) (h3 : ins b = true) : wrds n nt ins b = (b, runE n nt ins b) :: wrds n nt ins (runE n nt ins b) := by
  rw [wrds, dif_pos ⟨h1, runE_gt h1 h2 h3⟩]
theorem wrds_out (h1 : b < n) (h2 : b < nt b) (h3 : ins b = false) : wrds n nt ins b = wrds n nt ins (nt b) := by
  rw [wrds, dif_neg (fun e => by rw [runE_stop h3] at e; omega), dif_pos ⟨h1, h2⟩]
theorem wrds_end (h : ¬ b < n) : wrds n nt ins b = [] := by
  rw [wrds, dif_neg (fun e => h e.1), dif_neg (fun e => h e.1)]
theorem upd_nil (a e : Nat) : upd [] a e = [(a, e)] := rfl
theorem upd_same (o : List (Nat × Nat)) (f a e : Nat) : upd (o ++ [(f, a)]) a e = o ++ [(f, e)] := by
  unfold upd; rw [List.getLast?_concat, List.dropLast_concat]; simp
theorem upd_other (o : List (Nat × Nat)) (f a' a e : Nat) (h : a' ≠ a) : upd (o ++ [(f, a')]) a e = (o ++ [(f, a')]) ++ [(a, e)] := by
  unfold upd; rw [List.getLast?_concat]; simp [h]
theorem refW_in {out : List (Nat × Nat)} (h1 : b < n) (h2 : b < nt b) (h3 : ins b = true) : refW n nt ins out b = refW n nt ins (upd out b (nt b)) (nt b) := by
  rw [refW, dif_pos ⟨h1, h2⟩, if_pos h3]
theorem refW_out {out : List (Nat × Nat)} (h1 : b < n) (h2 : b < nt b) (h3 : ins b = false) : refW n nt ins out b = refW n nt ins out (nt b) := by
  rw [refW, dif_pos ⟨h1, h2⟩, if_neg (by rw [h3]; decide)]
theorem refW_end {out : List (Nat × Nat)} (h : ¬ b < n) : refW n nt ins out b = out := by
  rw [refW, dif_neg (fun e => h e.1)]
/-- no word is open at a place -/
def Shut (out : List (Nat × Nat)) (b : Nat) : Prop := out = [] ∨ ∃ o f a, out = o ++ [(f, a)] ∧ a < b
theorem Shut.later {out : List (Nat × Nat)} {b c : Nat} (h : Shut out b) (hc : b ≤ c) : Shut out c := by
  rcases h with h | ⟨o, f, a, h, ha⟩
  · exact .inl h
  · exact .inr ⟨o, f, a, h, by omega⟩
theorem Shut.upd {out : List (Nat × Nat)} {b : Nat} (h : Shut out b) (e : Nat) : upd out b e = out ++ [(b, e)] := by
  rcases h with rfl | ⟨o, f, a, rfl, ha⟩
  · rfl
  · exact upd_other o f a b e (by omega)
theorem refW_wrds (hn : ∀ b, b < n → b < nt b) : ∀ m b, n - b = m → (∀ out, Shut out b → refW n nt ins out b = out ++ wrds n nt ins b) ∧ (∀ o f, refW n nt ins (o ++ [(f, b)]) b = o ++ (f, runE n nt ins b) :: wrds n nt ins (runE n nt ins b)) := by
  intro m
  induction m using Nat.strongRecOn with
  | _ m ih =>
    intro b hm
    by_cases hb : b < n
    · have h2 := hn b hb
      obtain ⟨iA, iB⟩ := ih (n - nt b) (by omega) (nt b) rfl
      cases hi : ins b with
      | true =>
        refine ⟨fun out hs => ?_, fun o f => ?_⟩
        · rw [refW_in hb h2 hi, hs.upd, iB, wrds_in hb h2 hi, runE_step hb h2 hi]
        · rw [refW_in hb h2 hi, upd_same, iB, runE_step hb h2 hi]
      | false =>
        refine ⟨fun out hs => ?_, fun o f => ?_⟩
        · rw [refW_out hb h2 hi, iA _ (hs.later (by omega)), wrds_out hb h2 hi]
        · rw [refW_out hb h2 hi, iA _ (.inr ⟨o, f, b, rfl, h2⟩), runE_stop hi, wrds_out hb h2 hi, List.append_assoc]; rfl
    · refine ⟨fun out hs => ?_, fun o f => ?_⟩
      · rw [refW_end hb, wrds_end hb, List.append_nil]
      · rw [refW_end hb, runE_end hb, wrds_end hb]
theorem words_same (hn : ∀ b, b < n → b < nt b) : refW n nt ins [] 0 = wrds n nt ins 0 := (refW_wrds hn _ 0 rfl).1 [] (.inl rfl)
end
/-- the last word's beginning, going back -/
def bck (prv : Nat → Nat) (ins : Nat → Bool) (b : Nat) (wi : Bool) : Nat := if _h : 0 < b ∧ prv b < b then (if (wi && !ins (prv b)) = true then b else bck prv ins (prv b) (wi || ins (prv b))) else b
termination_by b
decreasing_by omega
theorem bck_stop {prv : Nat → Nat} {ins : Nat → Bool} {b : Nat} (h : 0 < b) (h2 : prv b < b) (h3 : ins (prv b) = false) : bck prv ins b true = b := by
  rw [bck, dif_pos ⟨h, h2⟩, h3]; rfl
theorem bck_in {prv : Nat → Nat} {ins : Nat → Bool} {b : Nat} {wi : Bool} (h : 0 < b) (h2 : prv b < b) (h3 : ins (prv b) = true) : bck prv ins b wi = bck prv ins (prv b) true := by
  rw [bck, dif_pos ⟨h, h2⟩, h3]; simp
theorem bck_out {prv : Nat → Nat} {ins : Nat → Bool} {b : Nat} (h : 0 < b) (h2 : prv b < b) (h3 : ins (prv b) = false) : bck prv ins b false = bck prv ins (prv b) false := by
  rw [bck, dif_pos ⟨h, h2⟩, h3]; simp
theorem bck_zero {prv : Nat → Nat} {ins : Nat → Bool} {wi : Bool} : bck prv ins 0 wi = 0 := by
  rw [bck, dif_neg (by omega)]
def prv (T : Tab) (s : List Int) (b : Nat) : Nat := prevI T s (b : Int)
theorem prv_lt (T : Tab) {s : List Int} {b : Nat} (h : 0 < b) (hb : b ≤ s.length) : prv T s b < b := by
  unfold prv prevI
  rw [show max (min (b : Int) ((s.length : Int) + 1)) 0 - 1 = ((b - 1 : Nat) : Int) by omega]
  by_cases h0 : b - 1 = 0
  · rw [floorI_nonpos (by omega)]; omega
  · rw [floorI_mid (by omega) (by omega)]
    have := floorB_le T s (b - 1)
    omega
theorem ceilI_le (T : Tab) (s : List Int) (a : Int) : ceilI T s a ≤ s.length := by
  by_cases h : a ≤ 0
  · rw [ceilI_nonpos h]; exact Nat.zero_le _
  · by_cases h2 : (s.length : Int) ≤ a
    · rw [ceilI_big h h2]; exact Nat.le_refl _
    · obtain ⟨i, rfl⟩ : ∃ i : Nat, a = (i : Int) := ⟨a.toNat, by omega⟩
      rw [ceilI_mid (by omega) (by omega)]
      exact (ceilB_spec T s (by omega)).2.1
theorem ceilI_beg {T : Tab} {s : List Int} {b : Nat} (h : begAt T s b = true) : ceilI T s (b : Int) = b := by
  have hl := begAt_lt h
  by_cases h0 : b = 0
  · subst h0; exact ceilI_nonpos (Int.le_refl _)
  · rw [ceilI_mid (by omega) hl]
    exact ceilB_eq (by omega) (Nat.le_refl _) (fun j h1 h2 => by omega) (by omega) (.inr h)
/-- where the next word ends -/
def fwdI (R : List Rw) (s : List Int) (a : Int) : Nat := runE s.length (nxt (tabOf R) s) (insR R s) (skp s.length (nxt (tabOf R) s) (insR R s) (ceilI (tabOf R) s a))
/-- where the last word begins -/
def bckI (R : List Rw) (s : List Int) (a : Int) : Nat := bck (prv (tabOf R) s) (insR R s) (floorI (tabOf R) s a) false
def wrdsR (R : List Rw) (s : List Int) : List (Nat × Nat) := wrds s.length (nxt (tabOf R) s) (insR R s) 0
end Go.Proofs.Ytblajooebmjfoaa

/- Chapter 11's example; BackPrev: its walk. -/
namespace Go.Proofs.Ytblajooebmjfoaa
open Go.RowKit

/-- chapter 11's text: where its clusters begin -/
theorem ex11_beg {R : List Rw} (HF : RFacts R) (j : Nat) : begAt (tabOf R) [97, 127462, 127463, 127464] j = true ↔ j = 0 ∨ j = 1 ∨ j = 3 := by
  rw [← starts_mem, HF.seg.ex5]; simp
theorem ex11_begF {R : List Rw} (HF : RFacts R) (j : Nat) (h : ¬ (j = 0 ∨ j = 1 ∨ j = 3)) : begAt (tabOf R) [97, 127462, 127463, 127464] j = false := by
  cases hb : begAt (tabOf R) [97, 127462, 127463, 127464] j with
  | false => rfl
  | true => exact absurd ((ex11_beg HF j).1 hb) h
theorem ex11_floor {R : List Rw} (HF : RFacts R) : floorI (tabOf R) [97, 127462, 127463, 127464] 2 = 1 := by
  rw [show (2 : Int) = ((2 : Nat) : Int) from rfl, floorI_mid (by decide) (by decide)]
  refine floorB_eq (by decide) (.inr (by rw [isB_lt (by decide)]; exact (ex11_beg HF 1).2 (by simp))) fun j h1 h2 => ?_
  have : j = 2 := by omega
  subst this
  rw [isB_lt (by decide)]
  exact ex11_begF HF 2 (by omega)
theorem ex11_prev {R : List Rw} (HF : RFacts R) : prevI (tabOf R) [97, 127462, 127463, 127464] 3 = 1 := ex11_floor HF
theorem ex11_ceil {R : List Rw} (HF : RFacts R) : ceilI (tabOf R) [97, 127462, 127463, 127464] 2 = 3 := by
  rw [show (2 : Int) = ((2 : Nat) : Int) from rfl, ceilI_mid (by decide) (by decide)]
  refine ceilB_eq (by decide) (by decide) (fun j h1 h2 => ?_) (by decide) (.inr ((ex11_beg HF 3).2 (by simp)))
  have : j = 2 := by omega
  subst this
  exact ex11_begF HF 2 (by omega)
theorem ex11_next {R : List Rw} (HF : RFacts R) : nextI (tabOf R) [97, 127462, 127463, 127464] 0 = 1 := by
  show ceilI (tabOf R) [97, 127462, 127463, 127464] ((1 : Nat) : Int) = 1
  rw [ceilI_mid (by decide) (by decide)]
  exact ceilB_eq (by decide) (by decide) (fun j h1 h2 => by omega) (by decide) (.inr ((ex11_beg HF 1).2 (by simp)))
theorem prevI_cases (T : Tab) (s : List Int) (a : Int) : (prevI T s a : Int) = if a > 0 then (if a > (s.length : Int) then (s.length : Int) else (floorI T s (a - 1) : Int)) else 0 := by
  unfold prevI
  by_cases h : a > 0
  · rw [if_pos h]
    by_cases h2 : a > (s.length : Int)
    · rw [if_pos h2]
      by_cases h3 : s.length = 0
      · have hle := floorI_le T s (max (min a ((s.length : Int) + 1)) 0 - 1)
        omega
      · rw [floorI_big (by omega) (by omega)]
    · rw [if_neg h2]
      have : max (min a ((s.length : Int) + 1)) 0 - 1 = a - 1 := by omega
      rw [this]
  · rw [if_neg h, floorI_nonpos (by omega)]; rfl
theorem nextI_cases (T : Tab) (s : List Int) (a : Int) : (nextI T s a : Int) = if a < (s.length : Int) then (if a ≥ 0 then (ceilI T s (a + 1) : Int) else (ceilI T s 0 : Int)) else (s.length : Int) := by
  unfold nextI
  by_cases h : a < (s.length : Int)
  · rw [if_pos h, if_neg (by omega)]
    by_cases h2 : a ≥ 0
    · rw [if_pos h2]
      have : max a (-1) + 1 = a + 1 := by omega
      rw [this]
    · rw [if_neg h2, ceilI_nonpos (by omega), ceilI_nonpos (Int.le_refl _)]
  · rw [if_neg h, if_pos (by omega)]
end Go.Proofs.Ytblajooebmjfoaa

/- BackFloors: its walk. -/
namespace Go.Proofs.Ytblajooebmjfoaa
open Go.RowKit

/-- is a place a boundary? -/
def isI (T : Tab) (s : List Int) (a : Int) : Bool := decide (0 ≤ a) && (decide (a ≤ (s.length : Int)) && isB T s a.toNat)
section
variable {R : List Rw} {s : List Int} {w : World} {v sv : Value} {tp : Nat}
end
end Go.Proofs.Ytblajooebmjfoaa

/- Words: what going from word to word says of the list, plainly. -/
namespace Go.Proofs.Ytblajooebmjfoaa

/-- z is the first end behind c; n, if there is none -/
def IsFirst (L : List (Nat × Nat)) (n c z : Nat) : Prop := (z = n ∧ ∀ x ∈ L, ¬ c < x.2) ∨ ((∃ x ∈ L, x.2 = z) ∧ c < z ∧ ∀ x ∈ L, c < x.2 → z ≤ x.2)
/-- z is the last beginning ahead of c; 0, if there is none -/
def IsLast (L : List (Nat × Nat)) (c z : Nat) : Prop := (z = 0 ∧ ∀ x ∈ L, ¬ x.1 < c) ∨ ((∃ x ∈ L, x.1 = z) ∧ z < c ∧ ∀ x ∈ L, x.1 < c → x.1 ≤ z)
theorem runE_bd2 {n : Nat} {nt : Nat → Nat} {ins : Nat → Bool} {P : Nat → Prop} (hP : ∀ b, b < n → P b → P (nt b)) : ∀ m b, n - b = m → P b → P (runE n nt ins b) := by
  intro m
  induction m using Nat.strongRecOn with
  | _ m ih =>
    intro b hm hb
    rw [runE]
    split
    · rename_i h
      exact ih (n - nt b) (by omega) (nt b) rfl (hP b h.1 hb)
    · exact hb
theorem runE_bd' {n : Nat} {nt : Nat → Nat} {ins : Nat → Bool} (hN : ∀ b, b < n → nt b ≤ n) (m b : Nat) (hm : n - b = m) (hb : b ≤ n) : runE n nt ins b ≤ n := runE_bd2 (P := fun b => b ≤ n) (fun b h _ => hN b h) m b hm hb
section
variable {n : Nat} {nt pv : Nat → Nat} {ins : Nat → Bool} {B : Nat → Prop}
theorem wrds_ends (hn : ∀ b, b < n → b < nt b) (hN : ∀ b, b < n → nt b ≤ n) : ∀ m b, n - b = m → b ≤ n → (∀ x ∈ wrds n nt ins b, b ≤ x.1 ∧ x.1 < x.2 ∧ x.2 ≤ n) ∧ (wrds n nt ins b).Pairwise (fun x y => x.2 ≤ y.1) := by
  intro m
  induction m using Nat.strongRecOn with
  | _ m ih =>
    intro b hm hb
    by_cases hlt : b < n
    · have h2 := hn b hlt
      cases hi : ins b with
      | true =>
        have hg := runE_gt hlt h2 hi
        have hr : runE n nt ins b ≤ n := runE_bd' hN _ b rfl hb
        obtain ⟨i1, i2⟩ := ih (n - runE n nt ins b) (by omega) (runE n nt ins b) rfl hr
        rw [wrds_in hlt h2 hi]
        refine ⟨fun x hx => ?_, List.pairwise_cons.2 ⟨fun y hy => (i1 y hy).1, i2⟩⟩
        rcases List.mem_cons.1 hx with rfl | hx
        · exact ⟨Nat.le_refl _, hg, hr⟩
        · have := i1 x hx; omega
      | false =>
        obtain ⟨i1, i2⟩ := ih (n - nt b) (by omega) (nt b) rfl (hN b hlt)
        rw [wrds_out hlt h2 hi]
        exact ⟨fun x hx => by have := i1 x hx; omega, i2⟩
    · rw [wrds_end hlt]
      exact ⟨fun x hx => by simp at hx, .nil⟩
theorem run_mid (hn : ∀ b, b < n → b < nt b) (hB : ∀ b, b < n → B b → B (nt b)) (hg : ∀ b c, b < n → B b → B c → b < c → nt b ≤ c) : ∀ m b c, n - b = m → B b → B c → b ≤ c → c < runE n nt ins b → ins c = true ∧ runE n nt ins c = runE n nt ins b := by
  intro m
  induction m using Nat.strongRecOn with
  | _ m ih =>
    intro b c hm hb hc hbc hcr
    have hlt : b < n := by
      by_cases h : b < n
      · exact h
      · rw [runE_end h] at hcr; omega
    have hi : ins b = true := by
      cases h : ins b with
      | true => rfl
      | false => rw [runE_stop h] at hcr; omega
    by_cases e : b = c
    · subst e; exact ⟨hi, rfl⟩
    · have h2 := hn b hlt
      have h3 := hg b c hlt hb hc (by omega)
      rw [runE_step hlt h2 hi] at hcr ⊢
      exact ih (n - nt b) (by omega) (nt b) c rfl (hB b hlt hb) hc h3 hcr
theorem run_out (hn : ∀ b, b < n → b < nt b) : ∀ m b, n - b = m → ins (runE n nt ins b) = false ∨ ¬ runE n nt ins b < n := by
  intro m
  induction m using Nat.strongRecOn with
  | _ m ih =>
    intro b hm
    by_cases hlt : b < n
    · cases hi : ins b with
      | true => rw [runE_step hlt (hn b hlt) hi]; exact ih (n - nt b) (by have := hn b hlt; omega) (nt b) rfl
      | false => rw [runE_stop hi]; exact .inl hi
    · rw [runE_end hlt]; exact .inr hlt
theorem fwd_first (hn : ∀ b, b < n → b < nt b) (hN : ∀ b, b < n → nt b ≤ n) (hB : ∀ b, b < n → B b → B (nt b)) (hg : ∀ b c, b < n → B b → B c → b < c → nt b ≤ c) : ∀ m b c, n - b = m → B b → B c → b ≤ c → c ≤ n → IsFirst (wrds n nt ins b) n c (runE n nt ins (skp n nt ins c)) := by
  intro m
  induction m using Nat.strongRecOn with
  | _ m ih =>
    intro b c hm hb hc hbc hcn
    by_cases hlt : b < n
    · have h2 := hn b hlt
      cases hi : ins b with
      | true =>
        have hgt := runE_gt hlt h2 hi
        have hrn : runE n nt ins b ≤ n := runE_bd' hN _ b rfl (by omega)
        have hBr : B (runE n nt ins b) := runE_bd2 hB _ b rfl hb
        rw [wrds_in hlt h2 hi]
        by_cases hcr : c < runE n nt ins b
        · obtain ⟨c1, c2⟩ := run_mid hn hB hg _ b c rfl hb hc hbc hcr
          rw [skp_stop c1, c2]
          refine .inr ⟨⟨_, List.mem_cons_self, rfl⟩, hcr, fun x hx _ => ?_⟩
          rcases List.mem_cons.1 hx with rfl | hx
          · exact Nat.le_refl _
          · have := (wrds_ends hn hN _ _ rfl hrn).1 x hx; omega
        · rcases ih (n - runE n nt ins b) (by omega) (runE n nt ins b) c rfl hBr hc (by omega) hcn with ⟨h, k⟩ | ⟨⟨y, hy, hz⟩, h, k⟩
          · refine .inl ⟨h, fun x hx => ?_⟩
            rcases List.mem_cons.1 hx with rfl | hx
            · exact hcr
            · exact k x hx
          · refine .inr ⟨⟨y, List.mem_cons_of_mem _ hy, hz⟩, h, fun x hx hcx => ?_⟩
            rcases List.mem_cons.1 hx with rfl | hx
            · exact absurd hcx hcr
            · exact k x hx hcx
      | false =>
        rw [wrds_out hlt h2 hi]
        by_cases e : b = c
        · subst e
          have hE := (wrds_ends (ins := ins) hn hN _ (nt b) rfl (hN b hlt)).1
          rw [skp_step hlt h2 hi]
          rcases ih (n - nt b) (by omega) (nt b) (nt b) rfl (hB b hlt hb) (hB b hlt hb) (Nat.le_refl _) (hN b hlt) with ⟨h, k⟩ | ⟨hz, h, k⟩
          · exact .inl ⟨h, fun x hx _ => k x hx (by have := hE x hx; omega)⟩
          · exact .inr ⟨hz, by omega, fun x hx _ => k x hx (by have := hE x hx; omega)⟩
        · exact ih (n - nt b) (by omega) (nt b) c rfl (hB b hlt hb) hc (hg b c hlt hb hc (by omega)) hcn
    · have : c = n := by omega
      subst this
      rw [skp_end (by omega), runE_end (by omega), wrds_end (by omega)]
      exact .inl ⟨rfl, fun x hx => by simp at hx⟩
/-- where words begin -/
theorem begs_is (hn : ∀ b, b < n → b < nt b) (hN : ∀ b, b < n → nt b ≤ n) (hB : ∀ b, b < n → B b → B (nt b)) (hg : ∀ b c, b < n → B b → B c → b < c → nt b ≤ c)
    (hp : ∀ c, B c → 0 < c → B (pv c) ∧ pv c < c ∧ nt (pv c) = c) (hBn : ∀ b, B b → b ≤ n) : ∀ m b, n - b = m → B b → ∀ z, (∃ x ∈ wrds n nt ins b, x.1 = z) ↔ (B z ∧ b ≤ z ∧ z < n ∧ ins z = true ∧ (z = b ∨ ins (pv z) = false)) := by
  have hpn : ∀ b, b < n → B b → pv (nt b) = b := by
    intro b hlt hb
    have h2 := hn b hlt
    obtain ⟨p1, p2, p3⟩ := hp (nt b) (hB b hlt hb) (by omega)
    rcases Nat.lt_trichotomy (pv (nt b)) b with h | h | h
    · have := hg _ b (by omega) p1 hb h; omega
    · exact h
    · have := hg b _ hlt hb p1 h; omega
  intro m
  induction m using Nat.strongRecOn with
  | _ m ih =>
    intro b hm hb z
    by_cases hlt : b < n
    · have h2 := hn b hlt
      cases hi : ins b with
      | true =>
        have hgt := runE_gt hlt h2 hi
        have hBr : B (runE n nt ins b) := runE_bd2 hB _ b rfl hb
        have hout := run_out (ins := ins) hn _ b rfl
        have hI := ih (n - runE n nt ins b) (by omega) (runE n nt ins b) rfl hBr z
        rw [wrds_in hlt h2 hi]
        constructor
        · rintro ⟨x, hx, rfl⟩
          rcases List.mem_cons.1 hx with rfl | hx
          · exact ⟨hb, Nat.le_refl _, hlt, hi, .inl rfl⟩
          · obtain ⟨q1, q2, q3, q4, q5⟩ := hI.1 ⟨x, hx, rfl⟩
            refine ⟨q1, by omega, q3, q4, .inr ?_⟩
            rcases q5 with q5 | q5
            · rcases hout with h | h
              · rw [q5, h] at q4; cases q4
              · omega
            · exact q5
        · rintro ⟨q1, q2, q3, q4, q5⟩
          by_cases e : z = b
          · exact ⟨_, List.mem_cons_self, e.symm⟩
          · have q5' := q5.resolve_left e
            have hz : ¬ z < runE n nt ins b := by
              intro hz
              obtain ⟨p1, p2, p3⟩ := hp z q1 (by omega)
              have hbp : b ≤ pv z := by
                by_cases h : b ≤ pv z
                · exact h
                · have := hg (pv z) b (by omega) p1 hb (by omega); omega
              have := (run_mid (ins := ins) hn hB hg _ b (pv z) rfl hb p1 hbp (by omega)).1
              rw [this] at q5'; cases q5'
            obtain ⟨x, hx, hxz⟩ := hI.2 ⟨q1, by omega, q3, q4, .inr q5'⟩
            exact ⟨x, List.mem_cons_of_mem _ hx, hxz⟩
      | false =>
        rw [wrds_out hlt h2 hi, ih (n - nt b) (by omega) (nt b) rfl (hB b hlt hb) z]
        constructor
        · rintro ⟨q1, q2, q3, q4, q5⟩
          refine ⟨q1, by omega, q3, q4, .inr ?_⟩
          rcases q5 with q5 | q5
          · rw [q5, hpn b hlt hb, hi]
          · exact q5
        · rintro ⟨q1, q2, q3, q4, q5⟩
          have e : z ≠ b := fun e => by rw [e, hi] at q4; cases q4
          exact ⟨q1, hg b z hlt hb q1 (by omega), q3, q4, .inr (q5.resolve_left e)⟩
    · rw [wrds_end hlt]
      constructor
      · rintro ⟨x, hx, _⟩; simp at hx
      · rintro ⟨q1, q2, q3, _⟩; omega
theorem bck_last (hn : ∀ b, b < n → b < nt b) (hN : ∀ b, b < n → nt b ≤ n) (hB : ∀ b, b < n → B b → B (nt b)) (hg : ∀ b c, b < n → B b → B c → b < c → nt b ≤ c)
    (hp : ∀ c, B c → 0 < c → B (pv c) ∧ pv c < c ∧ nt (pv c) = c) (hBn : ∀ b, B b → b ≤ n) (hB0 : B 0) (c : Nat) (hc : B c) : IsLast (wrds n nt ins 0) c (bck pv ins c false) := by
  have hbeg := begs_is (ins := ins) hn hN hB hg hp hBn _ 0 rfl hB0
  generalize wrds n nt ins 0 = W at hbeg
  have skip : ∀ p z, B p → p < n → (¬ ∃ x ∈ W, x.1 = p) → IsLast W p z → IsLast W (nt p) z := by
    intro p z hp1 hpn hno h
    have key : ∀ x ∈ W, x.1 < nt p → x.1 < p := by
      intro x hx hxn
      have hBx := ((hbeg x.1).1 ⟨x, hx, rfl⟩).1
      rcases Nat.lt_trichotomy x.1 p with h | h | h
      · exact h
      · exact absurd ⟨x, hx, h⟩ hno
      · have := hg p x.1 hpn hp1 hBx h; omega
    have := hn p hpn
    rcases h with ⟨h, k⟩ | ⟨hz, h, k⟩
    · exact .inl ⟨h, fun x hx hl => k x hx (key x hx hl)⟩
    · exact .inr ⟨hz, by omega, fun x hx hl => k x hx (key x hx hl)⟩
  have here : ∀ p, B p → p < n → (∃ x ∈ W, x.1 = p) → IsLast W (nt p) p := by
    intro p hp1 hpn hz
    refine .inr ⟨hz, hn p hpn, fun x hx hl => ?_⟩
    have hBx := ((hbeg x.1).1 ⟨x, hx, rfl⟩).1
    by_cases h : p < x.1
    · have := hg p x.1 hpn hp1 hBx h; omega
    · omega
  have C : ∀ p, B p → p < n → ins p = true → IsLast W (nt p) (bck pv ins p true) := by
    intro p
    induction p using Nat.strongRecOn with
    | _ p ih =>
      intro hp1 hpn hi
      by_cases h0 : p = 0
      · subst h0
        rw [bck_zero]
        exact here 0 hp1 hpn ((hbeg 0).2 ⟨hp1, Nat.le_refl _, hpn, hi, .inl rfl⟩)
      · obtain ⟨q1, q2, q3⟩ := hp p hp1 (by omega)
        cases hq : ins (pv p) with
        | true =>
          rw [bck_in (by omega) q2 hq]
          have := ih (pv p) q2 q1 (by omega) hq
          rw [q3] at this
          refine skip p _ hp1 hpn (fun he => ?_) this
          obtain ⟨_, _, _, _, h5⟩ := (hbeg p).1 he
          rcases h5 with h5 | h5
          · exact h0 h5
          · rw [hq] at h5; cases h5
        | false =>
          rw [bck_stop (by omega) q2 hq]
          exact here p hp1 hpn ((hbeg p).2 ⟨hp1, Nat.zero_le _, hpn, hi, .inr hq⟩)
  induction c using Nat.strongRecOn with
  | _ c ih =>
    by_cases h0 : c = 0
    · subst h0
      rw [bck_zero]
      exact .inl ⟨rfl, fun x hx => by omega⟩
    · obtain ⟨q1, q2, q3⟩ := hp c hc (by omega)
      have hpn : pv c < n := by have := hBn c hc; omega
      cases hq : ins (pv c) with
      | true =>
        rw [bck_in (by omega) q2 hq]
        have := C (pv c) q1 hpn hq
        rwa [q3] at this
      | false =>
        rw [bck_out (by omega) q2 hq]
        have := skip (pv c) _ q1 hpn (fun he => by have := ((hbeg _).1 he).2.2.2.1; rw [hq] at this; cases this) (ih (pv c) q2 q1)
        rwa [q3] at this
end
/-- a place that is the end or where a cluster begins -/
def Bd (T : Tab) (s : List Int) (b : Nat) : Prop := b ≤ s.length ∧ (b = s.length ∨ begAt T s b = true)
theorem Bd.zero (T : Tab) (s : List Int) : Bd T s 0 := by
  refine ⟨Nat.zero_le _, ?_⟩
  cases s with
  | nil => exact .inl rfl
  | cons x l => exact .inr rfl
theorem Bd.isB {T : Tab} {s : List Int} {b : Nat} (h : Bd T s b) : isB T s b = true := by
  rcases h.2 with h | h
  · subst h; exact isB_len T s
  · rw [isB_lt (begAt_lt h)]; exact h
theorem Bd.of {T : Tab} {s : List Int} {b : Nat} (hb : b ≤ s.length) (h : Go.Proofs.Ytblajooebmjfoaa.isB T s b = true) : Bd T s b := by
  refine ⟨hb, ?_⟩
  by_cases e : b = s.length
  · exact .inl e
  · rw [isB_lt (by omega)] at h; exact .inr h
theorem Bd.isI {T : Tab} {s : List Int} {b : Nat} (h : Bd T s b) : isI T s (b : Int) = true := by
  unfold Go.Proofs.Ytblajooebmjfoaa.isI
  rw [decide_eq_true (by omega), decide_eq_true (by have := h.1; omega), Bool.true_and, Bool.true_and]
  exact h.isB
theorem bd_next {T : Tab} (H : T.Ok) {s : List Int} (b : Nat) (hl : b < s.length) (hb : Bd T s b) : Bd T s (nxt T s b) :=
  ⟨(nx_spec H (hb.2.resolve_left (by omega))).2.1, (nx_spec H (hb.2.resolve_left (by omega))).2.2.2⟩
theorem bd_gap {T : Tab} (H : T.Ok) {s : List Int} (b c : Nat) (hl : b < s.length) (hb : Bd T s b) (hc : Bd T s c) (h : b < c) : nxt T s b ≤ c := by
  obtain ⟨h1, h2, h3, h4⟩ := nx_spec H (hb.2.resolve_left (by omega))
  by_cases e : c < nxt T s b
  · have := h3 c h e
    rcases hc.2 with hc | hc
    · unfold nxt at e; omega
    · rw [this] at hc; cases hc
  · omega
theorem bd_prev {T : Tab} (H : T.Ok) {s : List Int} (c : Nat) (hc : Bd T s c) (h0 : 0 < c) : Bd T s (prv T s c) ∧ prv T s c < c ∧ nxt T s (prv T s c) = c := by
  have hlt := prv_lt T h0 hc.1
  have hle := hc.1
  have hv : prv T s c = floorB T s (c - 1) := by
    unfold prv prevI
    rw [show max (min (c : Int) ((s.length : Int) + 1)) 0 - 1 = ((c - 1 : Nat) : Int) by omega]
    by_cases e : c - 1 = 0
    · rw [floorI_nonpos (by omega), e]; rfl
    · rw [floorI_mid (by omega) (by omega)]
  have hp : Bd T s (prv T s c) := by
    rcases floorB_is T s (c - 1) with h | h
    · rw [hv, h]; exact Bd.zero T s
    · rw [hv]; exact Bd.of (by omega) h
  refine ⟨hp, hlt, ?_⟩
  have h1 := bd_gap H _ c (by omega) hp hc hlt
  have h2 := nxt_gt T (s := s) (b := prv T s c) (by omega)
  have h3 := bd_next H _ (by omega) hp
  by_cases e : nxt T s (prv T s c) = c
  · exact e
  · have := floorB_none T s (c - 1) (nxt T s (prv T s c)) (by omega) (by omega)
    rw [h3.isB] at this; cases this
theorem fwdI_first {R : List Rw} (H : (tabOf R).Ok) {s : List Int} {a : Int} {c : Nat} (ha : ceilI (tabOf R) s a = c) (hc : Bd (tabOf R) s c) : IsFirst (wrdsR R s) s.length c (fwdI R s a) := by
  unfold fwdI wrdsR
  rw [ha]
  exact fwd_first (B := Bd (tabOf R) s) (fun b h => nxt_gt _ h) (fun b h => nxt_le _ (by omega)) (bd_next H) (bd_gap H) _ 0 c rfl (Bd.zero _ _) hc (Nat.zero_le _) hc.1
theorem bckI_last {R : List Rw} (H : (tabOf R).Ok) {s : List Int} {a : Int} {c : Nat} (ha : floorI (tabOf R) s a = c) (hc : Bd (tabOf R) s c) : IsLast (wrdsR R s) c (bckI R s a) := by
  unfold bckI wrdsR
  rw [ha]
  exact bck_last (B := Bd (tabOf R) s) (fun b h => nxt_gt _ h) (fun b h => nxt_le _ (by omega)) (bd_next H) (bd_gap H) (bd_prev H) (fun b h => h.1) (Bd.zero _ _) c hc
theorem wrdsR_ends (R : List Rw) (s : List Int) : (∀ x ∈ wrdsR R s, x.1 < x.2 ∧ x.2 ≤ s.length) ∧ (wrdsR R s).Pairwise (fun x y => x.2 ≤ y.1) := by
  obtain ⟨h1, h2⟩ := wrds_ends (n := s.length) (nt := nxt (tabOf R) s) (ins := insR R s) (fun b h => nxt_gt _ h) (fun b h => nxt_le _ (by omega)) _ 0 rfl (Nat.zero_le _)
  exact ⟨fun x hx => (h1 x hx).2, h2⟩
theorem wrds_bd {n : Nat} {nt : Nat → Nat} {ins : Nat → Bool} {B : Nat → Prop} (hn : ∀ b, b < n → b < nt b) (hB : ∀ b, b < n → B b → B (nt b)) : ∀ m b, n - b = m → B b → ∀ x ∈ wrds n nt ins b, B x.1 ∧ B x.2 := by
  intro m
  induction m using Nat.strongRecOn with
  | _ m ih =>
    intro b hm hb x hx
    by_cases hlt : b < n
    · have h2 := hn b hlt
      cases hi : ins b with
      | true =>
        have hgt := runE_gt hlt h2 hi
        have hBr : B (runE n nt ins b) := runE_bd2 hB _ b rfl hb
        rw [wrds_in hlt h2 hi] at hx
        rcases List.mem_cons.1 hx with rfl | hx
        · exact ⟨hb, hBr⟩
        · exact ih (n - runE n nt ins b) (by omega) _ rfl hBr x hx
      | false =>
        rw [wrds_out hlt h2 hi] at hx
        exact ih (n - nt b) (by omega) _ rfl (hB b hlt hb) x hx
    · rw [wrds_end hlt] at hx; simp at hx
theorem wrdsR_bd {R : List Rw} (H : (tabOf R).Ok) {s : List Int} : ∀ x ∈ wrdsR R s, Bd (tabOf R) s x.1 ∧ Bd (tabOf R) s x.2 :=
  wrds_bd (B := Bd (tabOf R) s) (fun b h => nxt_gt _ h) (bd_next H) _ 0 rfl (Bd.zero _ _)
end Go.Proofs.Ytblajooebmjfoaa

/- How an index learns of a change, plainly. -/
namespace Go.Proofs.Ytblajooebmjfoaa

/-- texts that are the same ahead of a place and behind one -/
structure Win (o l : List Int) (f was is : Nat) : Prop where
  fw : f ≤ was
  wo : was ≤ o.length
  fi : f ≤ is
  il : is ≤ l.length
  pre : o.take f = l.take f
  suf : o.drop was = l.drop is
section
variable {T : Tab} {o l : List Int} {f was is : Nat}
theorem begAt_pre (h : o.take f = l.take f) {i : Nat} (hi : i < f) : begAt T o i = begAt T l i := by
  have h1 : o[i]? = l[i]? := by rw [← List.getElem?_take_of_lt hi, h, List.getElem?_take_of_lt hi]
  have h2 : o.take i = l.take i := by
    have := congrArg (List.take i) h
    rwa [List.take_take, List.take_take, Nat.min_eq_left (by omega)] at this
  unfold begAt
  rw [h1, h2]
theorem agree {f : Nat} : ∀ (A B : List Nat), A.Pairwise (· < ·) → B.Pairwise (· < ·) → (∀ j, j < f → (j ∈ A ↔ j ∈ B)) → ∀ (k x : Nat), A[k]? = some x → x < f → B[k]? = some x ∧ B.take k = A.take k
  | [], _, _, _, _, k, x, hk, _ => by simp at hk
  | a :: A, B, hA, hB, hm, k, x, hk, hx => by
    obtain ⟨hA1, hA2⟩ := List.pairwise_cons.1 hA
    have hax : a ≤ x := by
      cases k with
      | zero => simp at hk; omega
      | succ k =>
        have : x ∈ A := List.mem_of_getElem? (by simpa using hk)
        have := hA1 x this; omega
    have haB := (hm a (by omega)).1 List.mem_cons_self
    cases B with
    | nil => simp at haB
    | cons b B =>
      obtain ⟨hB1, hB2⟩ := List.pairwise_cons.1 hB
      have hba : b ≤ a := by
        rcases List.mem_cons.1 haB with h | h
        · omega
        · have := hB1 a h; omega
      have hab : a ≤ b := by
        rcases List.mem_cons.1 ((hm b (by omega)).2 List.mem_cons_self) with h | h
        · omega
        · have := hA1 b h; omega
      have e : b = a := by omega
      subst e
      cases k with
      | zero => exact ⟨by simpa using hk, rfl⟩
      | succ k =>
        have := agree (f := f) A B hA2 hB2 (fun j hj => ⟨fun h => by
          have h3 := hA1 j h
          rcases List.mem_cons.1 ((hm j hj).1 (List.mem_cons_of_mem _ h)) with h4 | h4
          · omega
          · exact h4, fun h => by
          have h3 := hB1 j h
          rcases List.mem_cons.1 ((hm j hj).2 (List.mem_cons_of_mem _ h)) with h4 | h4
          · omega
          · exact h4⟩) k x (by simpa using hk) hx
        exact ⟨by simpa using this.1, by rw [List.take_succ_cons, List.take_succ_cons, this.2]⟩
theorem idx_first (h : o.take f = l.take f) {k x : Nat} (hk : (starts T o)[k]? = some x) (hx : x < f) : (starts T l)[k]? = some x ∧ (starts T l).take k = (starts T o).take k :=
  agree (f := f) _ _ (starts_sorted T o) (starts_sorted T l) (fun j hj => by rw [starts_mem, starts_mem, begAt_pre h hj]) k x hk hx
theorem start_next (H : T.Ok) {m a : Nat} (hm : (starts T l)[m]? = some a) : (m + 1 < (starts T l).length → (starts T l)[m + 1]? = some (nxt T l a)) ∧ (m + 1 = (starts T l).length → nxt T l a = l.length) := by
  have hb := (starts_mem T l a).1 (List.mem_of_getElem? hm)
  have hl := begAt_lt hb
  have hbd : Bd T l a := ⟨by omega, .inr hb⟩
  have hn := bd_next H a hl hbd
  have hgt := nxt_gt T hl
  constructor
  · intro h
    obtain ⟨q', hq'⟩ : ∃ q, (starts T l)[m + 1]? = some q := ⟨_, List.getElem?_eq_getElem h⟩
    obtain ⟨h1, h2⟩ := sorted_between (starts_sorted T l) hm hq'
    have hb' := (starts_mem T l q').1 (List.mem_of_getElem? hq')
    have hl' := begAt_lt hb'
    have h3 := bd_gap H a q' hl hbd ⟨by omega, .inr hb'⟩ h1
    have e : nxt T l a = q' := by
      by_cases e : nxt T l a < q'
      · have := hn.2.resolve_left (by omega)
        exact absurd ⟨hgt, e⟩ (h2 _ ((starts_mem T l _).2 this))
      · omega
    rw [hq', e]
  · intro h
    have hmax := sorted_last (starts_sorted T l) hm h
    rcases hn.2 with h3 | h3
    · exact h3
    · have := hmax _ ((starts_mem T l _).2 h3); omega
theorem idx_rest (H : T.Ok) (hw : o.drop was = l.drop is) {m a q s : Nat} (hA : (starts T l)[m]? = some a) (hS : (starts T o)[q]? = some s) (ha : is ≤ a) (hs : (s : Int) + ((is : Int) - (was : Int)) = (a : Int)) :
    (starts T l).length - m = (starts T o).length - q ∧ ∀ i x, (starts T o)[q + i]? = some x → ∃ y, (starts T l)[m + i]? = some y ∧ (y : Int) = (x : Int) + ((is : Int) - (was : Int)) := by
  have h1 := starts_suffix H hA
  have h2 := starts_suffix H hS
  have hd : o.drop s = l.drop a := by
    have := congrArg (List.drop (a - is)) hw
    rwa [List.drop_drop, List.drop_drop, show was + (a - is) = s by omega, show is + (a - is) = a by omega] at this
  rw [hd] at h2
  constructor
  · have e1 := congrArg List.length h1
    have e2 := congrArg List.length h2
    rw [List.length_map, List.length_drop] at e1 e2
    omega
  · intro i x hx
    rw [← List.getElem?_drop, ← h2, List.getElem?_map] at hx
    cases hg : (starts T (l.drop a))[i]? with
    | none => rw [hg] at hx; simp at hx
    | some z =>
      rw [hg] at hx
      simp at hx
      refine ⟨z + a, ?_, by omega⟩
      rw [← List.getElem?_drop, ← h1, List.getElem?_map, hg]
      rfl
theorem ahd_found {S : List Nat} (hS : S.Pairwise (· < ·)) (a : Int) : FoundI S a (ahd S a) := by
  induction S with
  | nil => exact ⟨ahd_le _ _, fun j s _ h => by simp at h, fun j s _ h => by simp at h⟩
  | cons x S ih =>
    obtain ⟨h1, h2⟩ := List.pairwise_cons.1 hS
    by_cases hx : (x : Int) < a
    · have e : ahd (x :: S) a = ahd S a + 1 := by unfold ahd; rw [List.takeWhile_cons, if_pos (by simpa using hx), List.length_cons]
      have hF := ih h2
      rw [e]
      refine ⟨by have := hF.le; simp; omega, fun j s hj hs => ?_, fun j s hj hs => ?_⟩
      · cases j with
        | zero => simp at hs; omega
        | succ j => exact hF.lo j s (by omega) (by simpa using hs)
      · cases j with
        | zero => omega
        | succ j => exact hF.hi j s (by omega) (by simpa using hs)
    · have e : ahd (x :: S) a = 0 := by unfold ahd; rw [List.takeWhile_cons, if_neg (by simpa using hx)]; rfl
      rw [e]
      refine ⟨Nat.zero_le _, fun j s hj hs => by omega, fun j s hj hs => ?_⟩
      cases j with
      | zero => simp at hs; omega
      | succ j =>
        have := h1 s (List.mem_of_getElem? (by simpa using hs)); omega
theorem zero_start (T : Tab) (l : List Int) : (starts T l)[0]? = some 0 ∨ (0 = (starts T l).length ∧ 0 = l.length) := by
  cases h : (starts T l)[0]? with
  | none =>
    have hl : (starts T l).length = 0 := by
      by_cases e : 0 < (starts T l).length
      · rw [List.getElem?_eq_getElem e] at h; cases h
      · omega
    have := starts_nil_iff.1 (List.eq_nil_of_length_eq_zero hl)
    exact .inr ⟨hl.symm, by rw [this]; rfl⟩
  | some q => exact .inl (by rw [start_zero h])
/-- where learning begins -/
theorem idx_start (hW : Win o l f was is) {k : Nat} (hk : k = ahd (starts T o) (f : Int) - 1) {a : Nat} (ha : a = ((starts T o)[k]?).getD 0) :
    (starts T o).take k = (starts T l).take k ∧ k ≤ (starts T o).length ∧ k ≤ (starts T l).length ∧ ((starts T l)[k]? = some a ∨ (k = (starts T l).length ∧ a = l.length)) := by
  have hF := ahd_found (starts_sorted T o) (f : Int)
  have hle := hF.le
  by_cases hj : ahd (starts T o) (f : Int) = 0
  · have hk0 : k = 0 := by omega
    subst hk0
    have ha0 : a = 0 := by
      rw [ha]
      cases h : (starts T o)[0]? with
      | none => rfl
      | some q => exact start_zero h
    subst ha0
    exact ⟨rfl, Nat.zero_le _, Nat.zero_le _, zero_start T l⟩
  · obtain ⟨x, hx⟩ : ∃ x, (starts T o)[k]? = some x := ⟨_, List.getElem?_eq_getElem (by omega)⟩
    have hxf := hF.lo k x (by omega) hx
    obtain ⟨h1, h2⟩ := idx_first hW.pre hx (by omega)
    rw [hx] at ha
    have ha' : a = x := ha
    rw [ha']
    have := (List.getElem?_eq_some_iff.1 h1).1
    exact ⟨h2.symm, by omega, by omega, .inl h1⟩
end
end Go.Proofs.Ytblajooebmjfoaa

/- seg.Starts once more: what it makes is its own (starts_any of SegE tells only that it reads so). -/
namespace Go.Proofs.Ytblajooebmjfoaa
open Go.RowKit

section
variable {R : List Rw} {s : List Int} {w : World} {sv : Value} {tp : Nat}
set_option maxRecDepth 100000 in
set_option maxHeartbeats 8000000 in
theorem starts_own (H : (tabOf R).Ok) (hT : Tb R w tp) (hs : RunesIn w sv s) (ok : RunesOk s) (hl : s.length ≤ 1000000) :
    Calls Try.prog 62 #[.pointer (some ⟨tp, 0, none⟩), sv] w fun e w' => ∃ u, e = .returned u ∧ Below w.heap.size w w' ∧ w'.ownsRow w.heap.size 3 1 u (starts (tabOf R) s).length ((starts (tabOf R) s).flatMap nE) := by
  have HT := Lib.hid hT
  have HS := Lib.hid hs
  have HOk := Lib.hid ok
  have HSt := Lib.hid (starts_of H s)
  obtain ⟨sl, cap, rfl, hcap, hmax, _⟩ := runes_cells hs
  unfold maxLen at hmax
  have hW := (Below.refl w.heap.size w).alloc (Nat.le_refl _) (.cells #[.bool false, .int .i64 0, .int .i64 0, .int .i64 0, .bool false] 156)
  have hR0 : stRow (w.alloc (.cells #[.bool false, .int .i64 0, .int .i64 0, .int .i64 0, .bool false] 156)) w.heap.size St0 := heap_alloc_new w _
  have HW := Lib.hid hW
  have HR0 := Lib.hid hR0
  clear hT hs ok hW hR0
  go_enter Try.func62, Try.ntmps62
  go_wp2_with fail
  go_loopw [6, 13] (fun ov iv wr => ∃ (k : Nat) (L : List Nat) (st : St), k ≤ s.length ∧ L.length ≤ k ∧ iv = .int .i64 ((k : Nat) : Int) ∧ Below w.heap.size w wr ∧ wr.ownsRow (w.heap.size + 1) 3 1 ov L.length (L.flatMap nE) ∧ stRow wr w.heap.size st ∧ L ++ startsF (tabOf R) st k (s.drop k) = starts (tabOf R) s) (fun _ iv _ => s.length - (intOf iv).toNat)
  case atStart => exact ⟨0, [], St0, Nat.zero_le _, Nat.le_refl _, rfl, HW.out, World.ownsRow_nil _ _ _ _, HR0.out, HSt.out⟩
  case round =>
    obtain ⟨k, L, st, hk, hLk, rfl, hB, hO, hR, hE⟩ := hrel
    have HB := Lib.hid hB
    have HE := Lib.hid hE
    have HRr := Lib.hid hR
    obtain ⟨pa, pc, rfl⟩ := slice_of_owns hO
    have HO := Lib.hid hO
    clear hB hO hE
    by_cases hlt : k < s.length
    · obtain ⟨x, hx⟩ : ∃ x, s[k]? = some x := ⟨s[k], List.getElem?_eq_getElem hlt⟩
      have HI := Lib.hid (HOk.out.get hx)
      have HD := Lib.hid (startsF_step (T := tabOf R) (st := st) hx)
      obtain ⟨b0, off, cap', hv, _, _, _, _, d0⟩ := rune_cell (HS.out.below HB.out) hx
      cases hv
      obtain ⟨s0, s1, s2, s3, s4⟩ := st
      have c0 : wr.cell? ⟨w.heap.size, 0, none⟩ = some (.bool s0) := row_cells hR rfl
      have c1 : wr.cell? ⟨w.heap.size, 1, none⟩ = some (.int .i64 s1) := row_cells hR rfl
      have c2 : wr.cell? ⟨w.heap.size, 2, none⟩ = some (.int .i64 s2) := row_cells hR rfl
      have c3 : wr.cell? ⟨w.heap.size, 3, none⟩ = some (.int .i64 s3) := row_cells hR rfl
      have c4 : wr.cell? ⟨w.heap.size, 4, none⟩ = some (.bool s4) := row_cells hR rfl
      have HCall := Lib.hid (step_any ⟨s0, s1, s2, s3, s4⟩ x wr (HT.out.below HB.out) HI.out)
      clear hx hR
      go_wp2_with fail
      refine HCall.out.mono ?_
      rintro e w1 ⟨rfl, hB1⟩
      generalize hn : nextSt (tabOf R) ⟨s0, s1, s2, s3, s4⟩ x = n at HD ⊢
      obtain ⟨n0, n1, n2, n3, n4⟩ := n
      unfold stV
      dsimp only
      have HR1 := Lib.hid (HRr.out.kept hB1)
      have HO1 := Lib.hid (owns_stays HO.out hB1)
      have HB1 := Lib.hid (HB.out.trans (hB1.mono HB.out.size))
      have hsb1 := HR1.out.lt
      clear hn hB1 HRr HO HB c0 c1 c2 c3 c4 d0
      cases hc : cutB (tabOf R) ⟨s0, s1, s2, s3, s4⟩ x with
      | true =>
        have HN := Lib.hid (show (L ++ [k]) ++ startsF (tabOf R) ⟨n0, n1, n2, n3, n4⟩ (k + 1) (s.drop (k + 1)) = starts (tabOf R) s by rw [← HE.out, HD.out, hc]; simp)
        clear hc
        have HOa := Lib.hid (World.ownsRow.alloc HO1.out (.cells #[.bool n0, .int .i64 n1, .int .i64 n2, .int .i64 n3, .bool n4] 156))
        have HBa := Lib.hid (HB1.out.alloc HB1.out.size (.cells #[.bool n0, .int .i64 n1, .int .i64 n2, .int .i64 n3, .bool n4] 156))
        have hbl : w.heap.size + 1 ≤ (w1.alloc (.cells #[.bool n0, .int .i64 n1, .int .i64 n2, .int .i64 n3, .bool n4] 156)).heap.size := by simp; omega
        have HNr := Lib.hid (show stRow (w1.alloc (.cells #[.bool n0, .int .i64 n1, .int .i64 n2, .int .i64 n3, .bool n4] 156)) w1.heap.size ⟨n0, n1, n2, n3, n4⟩ from heap_alloc_new w1 _)
        have HSr := Lib.hid (show stRow (w1.alloc (.cells #[.bool n0, .int .i64 n1, .int .i64 n2, .int .i64 n3, .bool n4] 156)) w.heap.size ⟨s0, s1, s2, s3, s4⟩ from (Below.heap_alloc _ _ _ hsb1).trans HR1.out)
        have HSz := Lib.hid (show (w1.alloc (.cells #[.bool n0, .int .i64 n1, .int .i64 n2, .int .i64 n3, .bool n4] 156)).heap.size = w1.heap.size + 1 by simp)
        go_wp2_with (at_builtin; refine wpList_app1 _ rfl (.tmp 26) (.tmp 28) _ rfl EI _ _ _ rfl HOa.out 1 1 (nE k) (by rw [HSz.out]; rfl) (by decide) rfl (nE_one k) (by omega) hbl ?_; intro g cap w7 ho7 hg7 hf7; have HB2 := Lib.hid (below_app HBa.out HBa.out.size HOa.out (by omega) hg7); have hS7 : stRow w7 w.heap.size ⟨s0, s1, s2, s3, s4⟩ := (hg7.block _ (HSr.out.lt) (fun e => by have := (HOa.out.lt _ e.symm).1; omega)).trans HSr.out; have hN7 : stRow w7 w1.heap.size ⟨n0, n1, n2, n3, n4⟩ := (hg7.block _ (HNr.out.lt) (fun e => by have := (HO1.out.lt _ e.symm).2; omega)).trans HNr.out; have HO2 := Lib.hid ho7; have e0 : w7.cell? ⟨w1.heap.size, 0, none⟩ = some (.bool n0) := row_cells hN7 rfl; have e1 : w7.cell? ⟨w1.heap.size, 1, none⟩ = some (.int .i64 n1) := row_cells hN7 rfl; have e2 : w7.cell? ⟨w1.heap.size, 2, none⟩ = some (.int .i64 n2) := row_cells hN7 rfl; have e3 : w7.cell? ⟨w1.heap.size, 3, none⟩ = some (.int .i64 n3) := row_cells hN7 rfl; have e4 : w7.cell? ⟨w1.heap.size, 4, none⟩ = some (.bool n4) := row_cells hN7 rfl; have c0 : w7.cell? ⟨w.heap.size, 0, none⟩ = some (.bool s0) := row_cells hS7 rfl; have c1 : w7.cell? ⟨w.heap.size, 1, none⟩ = some (.int .i64 s1) := row_cells hS7 rfl; have c2 : w7.cell? ⟨w.heap.size, 2, none⟩ = some (.int .i64 s2) := row_cells hS7 rfl; have c3 : w7.cell? ⟨w.heap.size, 3, none⟩ = some (.int .i64 s3) := row_cells hS7 rfl; have c4 : w7.cell? ⟨w.heap.size, 4, none⟩ = some (.bool s4) := row_cells hS7 rfl; have y0 := row_warm hS7 0; have y1 := row_warm hS7 1; have y2 := row_warm hS7 2; have y3 := row_warm hS7 3; have y4 := row_warm hS7 4; have HS7 := Lib.hid hS7; clear ho7 hg7 hf7 hS7 hN7)
        go_wp2_with fail
        go_roundw
        case rel => exact ⟨k + 1, L ++ [k], ⟨n0, n1, n2, n3, n4⟩, by omega, by simp; omega, by go_num, ((((HB2.out.setCell (Nat.le_refl _) _).setCell (Nat.le_refl _) _).setCell (Nat.le_refl _) _).setCell (Nat.le_refl _) _).setCell (Nat.le_refl _) _, by
                      have ho := owns_store (owns_store (owns_store (owns_store (owns_store HO2.out (b := w.heap.size) (i := 0) (u := .bool n0) (by omega)) (b := w.heap.size) (i := 1) (u := .int .i64 n1) (by omega)) (b := w.heap.size) (i := 2) (u := .int .i64 n2) (by omega)) (b := w.heap.size) (i := 3) (u := .int .i64 n3) (by omega)) (b := w.heap.size) (i := 4) (u := .bool n4) (by omega)
                      rw [flat_snoc, List.length_append]; exact ho, stRow_set HS7.out ⟨n0, n1, n2, n3, n4⟩, HN.out⟩
        case measure => simp [intOf] <;> omega
      | false =>
        have HN := Lib.hid (show L ++ startsF (tabOf R) ⟨n0, n1, n2, n3, n4⟩ (k + 1) (s.drop (k + 1)) = starts (tabOf R) s by rw [← HE.out, HD.out, hc]; simp)
        clear hc
        have HO2 := Lib.hid (World.ownsRow.alloc HO1.out (.cells #[.bool n0, .int .i64 n1, .int .i64 n2, .int .i64 n3, .bool n4] 156))
        have HB2 := Lib.hid (HB1.out.alloc HB1.out.size (.cells #[.bool n0, .int .i64 n1, .int .i64 n2, .int .i64 n3, .bool n4] 156))
        have hS7 : stRow (w1.alloc (.cells #[.bool n0, .int .i64 n1, .int .i64 n2, .int .i64 n3, .bool n4] 156)) w.heap.size ⟨s0, s1, s2, s3, s4⟩ := (Below.heap_alloc _ _ _ hsb1).trans HR1.out
        have c0 : (w1.alloc (.cells #[.bool n0, .int .i64 n1, .int .i64 n2, .int .i64 n3, .bool n4] 156)).cell? ⟨w.heap.size, 0, none⟩ = some (.bool s0) := row_cells hS7 rfl
        have c1 : (w1.alloc (.cells #[.bool n0, .int .i64 n1, .int .i64 n2, .int .i64 n3, .bool n4] 156)).cell? ⟨w.heap.size, 1, none⟩ = some (.int .i64 s1) := row_cells hS7 rfl
        have c2 : (w1.alloc (.cells #[.bool n0, .int .i64 n1, .int .i64 n2, .int .i64 n3, .bool n4] 156)).cell? ⟨w.heap.size, 2, none⟩ = some (.int .i64 s2) := row_cells hS7 rfl
        have c3 : (w1.alloc (.cells #[.bool n0, .int .i64 n1, .int .i64 n2, .int .i64 n3, .bool n4] 156)).cell? ⟨w.heap.size, 3, none⟩ = some (.int .i64 s3) := row_cells hS7 rfl
        have c4 : (w1.alloc (.cells #[.bool n0, .int .i64 n1, .int .i64 n2, .int .i64 n3, .bool n4] 156)).cell? ⟨w.heap.size, 4, none⟩ = some (.bool s4) := row_cells hS7 rfl
        have y0 := row_warm hS7 0
        have y1 := row_warm hS7 1
        have y2 := row_warm hS7 2
        have y3 := row_warm hS7 3
        have y4 := row_warm hS7 4
        have hN7 : stRow (w1.alloc (.cells #[.bool n0, .int .i64 n1, .int .i64 n2, .int .i64 n3, .bool n4] 156)) w1.heap.size ⟨n0, n1, n2, n3, n4⟩ := heap_alloc_new w1 _
        have e0 : (w1.alloc (.cells #[.bool n0, .int .i64 n1, .int .i64 n2, .int .i64 n3, .bool n4] 156)).cell? ⟨w1.heap.size, 0, none⟩ = some (.bool n0) := row_cells hN7 rfl
        have e1 : (w1.alloc (.cells #[.bool n0, .int .i64 n1, .int .i64 n2, .int .i64 n3, .bool n4] 156)).cell? ⟨w1.heap.size, 1, none⟩ = some (.int .i64 n1) := row_cells hN7 rfl
        have e2 : (w1.alloc (.cells #[.bool n0, .int .i64 n1, .int .i64 n2, .int .i64 n3, .bool n4] 156)).cell? ⟨w1.heap.size, 2, none⟩ = some (.int .i64 n2) := row_cells hN7 rfl
        have e3 : (w1.alloc (.cells #[.bool n0, .int .i64 n1, .int .i64 n2, .int .i64 n3, .bool n4] 156)).cell? ⟨w1.heap.size, 3, none⟩ = some (.int .i64 n3) := row_cells hN7 rfl
        have e4 : (w1.alloc (.cells #[.bool n0, .int .i64 n1, .int .i64 n2, .int .i64 n3, .bool n4] 156)).cell? ⟨w1.heap.size, 4, none⟩ = some (.bool n4) := row_cells hN7 rfl
        go_upto_region 9 with fail
        generalize (w1.alloc (.cells #[.bool n0, .int .i64 n1, .int .i64 n2, .int .i64 n3, .bool n4] 156)) = w7 at HO2 HB2 hS7 e0 e1 e2 e3 e4 c0 c1 c2 c3 c4 y0 y1 y2 y3 y4 ⊢
        have HS7 := Lib.hid hS7
        clear hS7 hN7
        go_wp2_with fail
        go_roundw
        case rel => exact ⟨k + 1, L, ⟨n0, n1, n2, n3, n4⟩, by omega, by omega, by go_num, ((((HB2.out.setCell (Nat.le_refl _) _).setCell (Nat.le_refl _) _).setCell (Nat.le_refl _) _).setCell (Nat.le_refl _) _).setCell (Nat.le_refl _) _,
                      owns_store (owns_store (owns_store (owns_store (owns_store HO2.out (by omega)) (by omega)) (by omega)) (by omega)) (by omega), stRow_set HS7.out ⟨n0, n1, n2, n3, n4⟩, HN.out⟩
        case measure => simp [intOf] <;> omega
    · have hke : k = s.length := by omega
      subst hke
      have HF := Lib.hid (show L = starts (tabOf R) s by rw [← HE.out, List.drop_length]; simp [startsF])
      clear hlt hk
      go_wp2_with fail
      go_ret
      exact ⟨_, rfl, HB.out, by rw [← HF.out]; exact owns_mono HO.out (Nat.le_succ _)⟩
end
end Go.Proofs.Ytblajooebmjfoaa

/- index.Of. -/
namespace Go.Proofs.Ytblajooebmjfoaa
open Go.RowKit

section
variable {R : List Rw} {s : List Int} {w : World} {v sv : Value} {tp : Nat}
set_option maxRecDepth 100000 in
set_option maxHeartbeats 4000000 in
theorem iof_any (H : (tabOf R).Ok) (hT : Tb R w tp) (hs : RunesIn w sv s) (ok : RunesOk s) (hl : s.length ≤ 1000000) :
    Calls Try.prog 20 #[.pointer (some ⟨tp, 0, none⟩), sv] w fun e w' => ∃ u, e = .returned u ∧ Below w.heap.size w w' ∧ IdxIn w' u (starts (tabOf R) s) s.length := by
  have HB0 := Lib.hid ((Below.refl w.heap.size w).alloc (Nat.le_refl _) (.cells #[.slice none 0 0, .int .i64 0] 39))
  have HSt := Lib.hid (starts_own H (hT.below HB0.out) (hs.below HB0.out) ok hl)
  have hn := heap_alloc_new w (.cells #[.slice none 0 0, .int .i64 0] 39)
  obtain ⟨sl, cap, rfl, hcap, hmax, _⟩ := runes_cells hs
  clear hT hs ok H
  go_enter Try.func20, Try.ntmps20
  go_wp2_with fail
  have hlt : w.heap.size < (w.alloc (.cells #[.slice none 0 0, .int .i64 0] 39)).heap.size := by simp
  generalize w.alloc (.cells #[.slice none 0 0, .int .i64 0] 39) = w0 at HB0 HSt hn hlt ⊢
  refine HSt.out.mono ?_
  rintro e w1 ⟨u, rfl, hB1, hI⟩
  have hr : w1.heap[w.heap.size]? = some (.cells #[.slice none 0 0, .int .i64 0] 39 (0, 0)) := (hB1.block _ (row_len hn)).trans hn
  have a0 := row_cells (i := 0) hr rfl
  have a1 := row_cells (i := 1) hr rfl
  have f0 := row_warm hr 0
  have f1 := row_warm hr 1
  have HB1 := Lib.hid (below_trans' HB0.out hB1)
  have HI := Lib.hid hI
  obtain ⟨ua, uc, rfl⟩ := slice_of_owns hI
  clear hB1 hI hn HSt hr
  go_wp2_with fail
  refine ret_cell1 (ad := ⟨w.heap.size, 0, none⟩) rfl rfl (run_loadVar_mid _ _ 0 _ [.slice ua (starts (tabOf R) s).length uc, .int .i64 ((s.length : Nat) : Int)] _ (range2 (by go_simp) (by go_simp)) Try.underlying39 rfl (by kernel_rfl)) rfl ?_
  have hBB := (HB1.out.setCell (p := ⟨w.heap.size, 0, none⟩) (Nat.le_refl _) (.slice ua (starts (tabOf R) s).length uc)).setCell (p := ⟨w.heap.size, 1, none⟩) (Nat.le_refl _) (.int .i64 ((s.length : Nat) : Int))
  have ho := owns_store (owns_store HI.out (b := w.heap.size) (i := 0) (u := .slice ua (starts (tabOf R) s).length uc) hlt) (b := w.heap.size) (i := 1) (u := .int .i64 ((s.length : Nat) : Int)) hlt
  exact ⟨_, rfl, hBB, _, rfl, ints_of_owns ho⟩
end
end Go.Proofs.Ytblajooebmjfoaa

/- (Index).Change. -/
namespace Go.Proofs.Ytblajooebmjfoaa
open Go.RowKit

theorem ints_take {w : World} {a : Option Addr} {n cap k : Nat} {l : List Nat} (h : IntsIn w (.slice a n cap) l) (hk : k ≤ l.length) : IntsIn w (.slice a k cap) (l.take k) := by
  obtain ⟨a', cap', hv, h1, h2, h3, h4⟩ := h
  cases hv
  have hlen : (l.take k).length = k := by rw [List.length_take]; omega
  refine ⟨a, cap, by rw [hlen], by omega, h2, flat_len nE_len _, fun hp => ?_⟩
  obtain ⟨b, off, rfl, hb, hq⟩ := h4 (by omega)
  refine ⟨b, off, rfl, hb, fun j u hu => hq j u ?_⟩
  have e : l.flatMap nE = (l.take k).flatMap nE ++ (l.drop k).flatMap nE := by rw [← List.flatMap_append, List.take_append_drop]
  rw [e, List.getElem?_append_left (List.getElem?_eq_some_iff.1 hu).1]
  exact hu
structure CW (W wr : World) (h : Nat) (sv : Value) (n f was is : Nat) : Prop where
  below : Below h W wr
  hs : h + 3 ≤ wr.heap.size
  x0 : wr.cell? ⟨h, 0, none⟩ = some sv
  x1 : wr.cell? ⟨h, 1, none⟩ = some (.int .i64 ((n : Nat) : Int))
  a0 : wr.cell? ⟨h + 1, 0, none⟩ = some (.int .i64 ((f : Nat) : Int))
  a1 : wr.cell? ⟨h + 1, 1, none⟩ = some (.int .i64 ((was : Nat) : Int))
  a2 : wr.cell? ⟨h + 1, 2, none⟩ = some (.int .i64 ((is : Nat) : Int))
  r : wr.heap[h + 2]? = some (.cells #[.slice none 0 0, .int .i64 0] 39 (0, 0))
theorem CW.later {W wr wr' : World} {h n f was is : Nat} {sv : Value} (H : CW W wr h sv n f was is) (hB : Below (h + 3) wr wr') : CW W wr' h sv n f was is :=
  ⟨H.below.trans (hB.mono (by omega)), Nat.le_trans H.hs hB.size, (hB.cell (p := ⟨h, 0, none⟩) (by show h < _; omega)).trans H.x0, (hB.cell (p := ⟨h, 1, none⟩) (by show h < _; omega)).trans H.x1,
    (hB.cell (p := ⟨h + 1, 0, none⟩) (by show h + 1 < _; omega)).trans H.a0, (hB.cell (p := ⟨h + 1, 1, none⟩) (by show h + 1 < _; omega)).trans H.a1, (hB.cell (p := ⟨h + 1, 2, none⟩) (by show h + 1 < _; omega)).trans H.a2, (hB.block (h + 2) (by omega)).trans H.r⟩
theorem CW.start (w : World) (sv : Value) (n f was is : Nat) : CW w (((w.alloc (.cells #[sv, .int .i64 ((n : Nat) : Int)] 39)).alloc (.cells #[.int .i64 ((f : Nat) : Int), .int .i64 ((was : Nat) : Int), .int .i64 ((is : Nat) : Int)] 51)).alloc (.cells #[.slice none 0 0, .int .i64 0] 39)) w.heap.size sv n f was is := by
  have hr := heap_alloc_new ((w.alloc (.cells #[sv, .int .i64 ((n : Nat) : Int)] 39)).alloc (.cells #[.int .i64 ((f : Nat) : Int), .int .i64 ((was : Nat) : Int), .int .i64 ((is : Nat) : Int)] 51)) (.cells #[.slice none 0 0, .int .i64 0] 39)
  simp only [World.size_alloc] at hr
  exact ⟨(((Below.refl _ _).alloc (Nat.le_refl _) _).alloc (by simp) _).alloc (by simp; omega) _, by simp, by go_simp, by go_simp, by go_simp, by go_simp, by go_simp, hr⟩
structure YA (wr : World) (yb base : Nat) (yv : Value) (nl : Nat) (L : List Nat) : Prop where
  y : wr.heap[yb]? = some (.cells #[yv, .int .i64 ((nl : Nat) : Int)] 39 (0, 0))
  own : wr.ownsRow base 3 1 yv L.length (L.flatMap nE)
  sep : yv.ownBlock ≠ some yb
  hy : base ≤ yb
theorem YA.lt {wr : World} {yb base nl : Nat} {yv : Value} {L : List Nat} (h : YA wr yb base yv nl L) : yb < wr.heap.size := (Array.getElem?_eq_some_iff.1 h.y).1
theorem YA.stays {wr wr' : World} {yb base nl : Nat} {yv : Value} {L : List Nat} (h : YA wr yb base yv nl L) (hB : Below wr.heap.size wr wr') : YA wr' yb base yv nl L :=
  ⟨(hB.block yb h.lt).trans h.y, owns_stays h.own hB, h.sep, h.hy⟩
theorem YA.push {wr w7 : World} {yb base nl g cap a : Nat} {yv : Value} {L : List Nat} (h : YA wr yb base yv nl L)
    (ho : w7.ownsRow base 3 1 (.slice (some ⟨g, 0, none⟩) (L.length + 1) cap) (L.length + 1) (L.flatMap nE ++ nE a)) (hg : wr.grownBy w7 yv.ownBlock) (hf : yv.ownBlock = some g ∨ wr.heap.size ≤ g) :
    YA (w7.setCell ⟨yb, 0, none⟩ (.slice (some ⟨g, 0, none⟩) (L.length + 1) cap)) yb base (.slice (some ⟨g, 0, none⟩) (L.length + 1) cap) nl (L ++ [a]) := by
  have hlt := h.lt
  have hgy : g ≠ yb := by
    rcases hf with hf | hf
    · intro e; subst e; exact h.sep hf
    · omega
  have hy7 : w7.heap[yb]? = some (.cells #[yv, .int .i64 ((nl : Nat) : Int)] 39 (0, 0)) := (hg.block _ hlt (fun e => h.sep e.symm)).trans h.y
  refine ⟨heap_setCell_same _ _ _ _ _ _ hy7, ?_, fun e => hgy (by simpa [Value.ownBlock] using e), h.hy⟩
  rw [List.length_append, flat_snoc]
  exact ho.kept (setCell_grown w7 ⟨yb, 0, none⟩ _) (.inr (fun e => hgy (by simpa [Value.ownBlock] using e)))
theorem YA.make {w2 : World} {base nl : Nat} {yv : Value} {L : List Nat} (ho : w2.ownsRow base 3 1 yv L.length (L.flatMap nE)) (hb : base ≤ w2.heap.size) :
    YA (w2.alloc (.cells #[yv, .int .i64 ((nl : Nat) : Int)] 39)) w2.heap.size base yv nl L := by
  have hsep : yv.ownBlock ≠ some w2.heap.size := fun e => by have := (ho.lt _ e).2; omega
  exact ⟨heap_alloc_new w2 _, ho.alloc _, hsep, hb⟩
end Go.Proofs.Ytblajooebmjfoaa

/- (Index).Change: its walk. -/
namespace Go.Proofs.Ytblajooebmjfoaa
open Go.RowKit

set_option maxRecDepth 100000 in
set_option maxHeartbeats 16000000 in
theorem change_any {R : List Rw} {o l : List Int} {f was is : Nat} {w : World} {v lv : Value} {tp : Nat} (H : (tabOf R).Ok) (hX : IdxIn w v (starts (tabOf R) o) o.length) (hT : Tb R w tp) (hs : RunesIn w lv l) (ok : RunesOk l) (hl : l.length ≤ 1000000) (ho : o.length ≤ 1000000) (hSl : (starts (tabOf R) o).length ≤ o.length) (hLl : (starts (tabOf R) l).length ≤ l.length) (hW : Win o l f was is) :
    Calls Try.prog 26 #[v, .pointer (some ⟨tp, 0, none⟩), lv, .agg #[.int .i64 ((f : Nat) : Int), .int .i64 ((was : Nat) : Int), .int .i64 ((is : Nat) : Int)]] w fun e w' => ∃ u, e = .returned u ∧ Below w.heap.size w w' ∧ IdxIn w' u (starts (tabOf R) l) l.length := by
  have HT := Lib.hid hT
  have HS := Lib.hid hs
  have HOk := Lib.hid ok
  have HTk := Lib.hid H
  have HW := Lib.hid hW
  have hWf := hW.fw
  have hWo := hW.wo
  have hWi := hW.il
  have HStart := Lib.hid (fun k a hk ha => @idx_start (tabOf R) o l f was is hW k hk a ha)
  have HNext := Lib.hid (fun m a hm => @start_next (tabOf R) l H m a hm)
  have HRest := Lib.hid (fun m a q s h1 h2 h3 h4 => @idx_rest (tabOf R) o l was is H hW.suf m a q s h1 h2 h3 h4)
  have HLt := Lib.hid (fun a (ha : a ∈ starts (tabOf R) l) => begAt_lt ((starts_mem (tabOf R) l a).1 ha))
  have HSt := Lib.hid (fun a (ha : a ∈ starts (tabOf R) o) => begAt_lt ((starts_mem (tabOf R) o a).1 ha))
  have HSp := Lib.hid (starts_sorted (tabOf R) o)
  generalize starts (tabOf R) o = S at hX hSl HStart HRest HSt HSp
  generalize starts (tabOf R) l = L at hLl HStart HNext HRest HLt
  have HX := Lib.hid hX
  obtain ⟨sv, rfl, hI⟩ := hX
  have HI := Lib.hid hI
  obtain ⟨sa, scap, rfl, hscap, hsmax, _⟩ := ints_cells hI
  unfold maxLen at hsmax
  obtain ⟨sl, cap, rfl, hcap, hmax, _⟩ := runes_cells hs
  unfold maxLen at hmax
  have HC0 := Lib.hid (CW.start w (.slice sa S.length scap) o.length f was is)
  clear hT hs ok H hW hI
  go_enter Try.func26, Try.ntmps26
  have HAh := Lib.hid (ahead_any ((f : Nat) : Int) (HX.out.below HC0.out.below) HSp.out (by omega))
  have HAw := Lib.hid (fun W (hB : Below w.heap.size w W) => ahead_any ((was : Nat) : Int) (HX.out.below hB) HSp.out (by omega))
  go_wp2_with fail
  go_step3
  go_wp2_with fail
  generalize (((w.alloc (.cells #[.slice sa S.length scap, .int .i64 ((o.length : Nat) : Int)] 39)).alloc (.cells #[.int .i64 ((f : Nat) : Int), .int .i64 ((was : Nat) : Int), .int .i64 ((is : Nat) : Int)] 51)).alloc (.cells #[.slice none 0 0, .int .i64 0] 39)) = w0 at HC0 HAh ⊢
  generalize hh : w.heap.size = h at HC0 HAw ⊢
  refine HAh.out.mono ?_
  rintro e w1 ⟨rfl, hB1⟩
  have HC1 := Lib.hid (HC0.out.later (hB1.mono HC0.out.hs))
  obtain ⟨k, hk⟩ : ∃ k, k = ahd S (f : Int) - 1 := ⟨_, rfl⟩
  have hkS : ahd S (f : Int) ≤ S.length := ahd_le S f
  have HK := Lib.hid hk
  have e1 := IntWalk.i64_in (((ahd S (f : Int) : Nat) : Int) - 1) (by omega)
  have e2 : max (((ahd S (f : Int) : Nat) : Int) - 1) 0 = ((k : Nat) : Int) := by omega
  have hks : k ≤ S.length := by omega
  have x0 := HC1.out.x0
  have HH := Lib.hid hh
  rw [show h + 1 + 1 = h + 2 from rfl]
  clear HC0 hB1 HAh hkS hk hh
  obtain ⟨a, ha⟩ : ∃ a, a = (S[k]?).getD 0 := ⟨_, rfl⟩
  have HSt2 := Lib.hid (HStart.out k a HK.out ha)
  have HBw := Lib.hid (show Below w.heap.size w w1 by rw [HH.out]; exact HC1.out.below)
  have HTake := Lib.hid (ints_take (HI.out.below HBw.out) hks)
  have k1 : (0 : Int) ≤ (k : Int) := by omega
  have k2 : (k : Int) ≤ (S.length : Int) := by omega
  have k3 : (k : Int) ≤ (scap : Int) := by omega
  have k4 : min (k : Int) (S.length : Int) = (k : Int) := by omega
  by_cases hkl : k < S.length
  case' pos =>
    obtain ⟨x, hx⟩ : ∃ x, S[k]? = some x := ⟨S[k], List.getElem?_eq_getElem hkl⟩
    obtain ⟨b, off, cap', hv, _, _, _, _, d0⟩ := int_cell (HI.out.below HBw.out) hx
    cases hv
    rw [hx] at ha
    have ha' : a = x := ha
    subst ha'
    have q1 : (k : Int) < (S.length : Int) := by omega
    clear ha hx
    go_upto_region 5 with fail
  case' neg =>
    have ha' : a = 0 := by rw [ha, List.getElem?_eq_none (by omega)]; rfl
    have q1 : decide ((k : Int) < (S.length : Int)) = false := by rw [decide_eq_false_iff_not]; omega
    have q2 : decide (k < S.length) = false := decide_eq_false hkl
    subst ha'
    clear ha
    go_upto_region 5 with fail
  all_goals
    have hs1 := HC1.out.hs
    go_upto_region 6 with (at_builtin; go_loud (refine wpList_app_rd _ rfl (.const (.slice none 0 0)) (.tmp 40) _ rfl EI (.slice none 0 0) 0 [] rfl (World.ownsRow_nil w1 (h + 3) 3 1) _ _ _ rfl HTake.out (intE_one _) (by rw [List.length_take]; omega) hs1 ?_); intro v1 w2 ho hg; obtain ⟨pa, pc, rfl⟩ := slice_of_owns ho; have HB2 := Lib.hid (below_app (Below.refl (h + 3) w1) hs1 (World.ownsRow_nil w1 (h + 3) 3 1) (Nat.le_refl _) hg); have HO := Lib.hid ho; clear ho hg)
    have hlk : (S.take k).length = k := by rw [List.length_take]; omega
    have HY := Lib.hid (show YA (w2.alloc (.cells #[.slice pa k pc, .int .i64 ((l.length : Nat) : Int)] 39)) w2.heap.size (h + 3) (.slice pa k pc) l.length (L.take k) by
      have ho := HO.out
      simp only [Nat.zero_add, List.nil_append, hlk] at ho
      rw [HSt2.out.1] at ho
      have hlk2 : (L.take k).length = k := by rw [← HSt2.out.1]; exact hlk
      exact YA.make (by rw [hlk2]; exact ho) (Nat.le_trans hs1 HB2.out.size))
    have HB3 := Lib.hid (HB2.out.alloc (Nat.le_trans hs1 HB2.out.size) (.cells #[.slice pa k pc, .int .i64 ((l.length : Nat) : Int)] 39))
    have HC3 := Lib.hid (HC1.out.later HB3.out)
    generalize w2.alloc (.cells #[.slice pa k pc, .int .i64 ((l.length : Nat) : Int)] 39) = w3 at HY HB3 HC3 ⊢
    generalize w2.heap.size = yb at HY ⊢
    have b0 := HC3.out.x0
    have b1 := HC3.out.x1
    have c1 := HC3.out.a1
    have c2 := HC3.out.a2
    have sh := IntWalk.i64_in ((is : Int) - (was : Int)) (by have := HW.out.il; have := HW.out.wo; omega)
    have HAx := Lib.hid (HAw.out w3 HC3.out.below)
    clear HO HB2
    go_wp2_with fail
    refine HAx.out.mono ?_
    rintro e w4 ⟨rfl, hB4⟩
    have HC4 := Lib.hid (HC3.out.later (hB4.mono HC3.out.hs))
    have HY4 := Lib.hid (HY.out.stays hB4)
    clear HC3 HY HB3 hB4 HAx HAw b0 b1 c1 c2
    go_wp2_with fail
    go_step3
    go_wp2_with fail
    have hq0 := ahd_le S (was : Int)
    generalize ahd S (was : Int) = q0 at hq0 ⊢
    go_loopw [10, 13, 14] (fun av ov _ wr => ∃ (m a' q : Nat) (yv : Value), av = .int .i64 ((a' : Nat) : Int) ∧ ov = .int .i64 ((q : Nat) : Int) ∧ q ≤ S.length ∧ m ≤ L.length ∧ (L[m]? = some a' ∨ (m = L.length ∧ a' = l.length)) ∧ Below (h + 3) w4 wr ∧ YA wr yb (h + 3) yv l.length (L.take m)) (fun av _ _ _ => l.length - (intOf av).toNat)
    case atStart => exact ⟨k, _, q0, _, rfl, rfl, hq0, HSt2.out.2.2.1, HSt2.out.2.2.2, .refl _ _, HY4.out⟩
    case round =>
      obtain ⟨m, a', q, yv, rfl, rfl, hq, hm, ha', hB, hY⟩ := hrel
      have HA := Lib.hid ha'
      have HCr := Lib.hid (HC4.out.later hB)
      have HYr := Lib.hid hY
      have HBr := Lib.hid hB
      clear ha' hB hY
      by_cases hlt : a' < l.length
      · have hma : L[m]? = some a' := HA.out.resolve_right (by omega)
        have hml := (List.getElem?_eq_some_iff.1 hma).1
        have HMa := Lib.hid hma
        obtain ⟨wa, rfl⟩ : ∃ wa, wa = wr := ⟨_, rfl⟩
        have x0 := HCr.out.x0
        have a2 := HCr.out.a2
        have r0 : ((a' : Nat) : Int) < (l.length : Int) := by omega
        clear hma
        go_wp2_with fail
        go_loopw [13, 14] (fun ov _ wb => ∃ q : Nat, ov = .int .i64 ((q : Nat) : Int) ∧ q ≤ S.length ∧ wb = wa) (fun ov _ _ => S.length - (intOf ov).toNat)
        case atStart => exact ⟨q, rfl, hq, rfl⟩
        case round =>
          obtain ⟨q', rfl, hq', rfl⟩ := hrel
          have hlm : (L.take m).length = m := by rw [List.length_take]; omega
          obtain ⟨pa1, pc1, rfl⟩ := slice_of_owns HYr.out.own
          have HYs := Lib.hid (show YA wr yb (h + 3) (.slice pa1 m pc1) l.length (L.take m) by have h1 := HYr.out; rw [hlm] at h1; exact h1)
          by_cases hge : is ≤ a'
          case' neg =>
            have s1 : decide (((a' : Nat) : Int) ≥ ((is : Nat) : Int)) = false := by rw [decide_eq_false_iff_not]; omega
            have s2 : decide (is ≤ a') = false := decide_eq_false hge
            clear hge
          case' pos =>
            have s1 : ((a' : Nat) : Int) ≥ ((is : Nat) : Int) := by omega
            by_cases hql : q' < S.length
            case' neg =>
              have q1 : decide (((q' : Nat) : Int) < (S.length : Int)) = false := by rw [decide_eq_false_iff_not]; omega
              have q2 : decide (q' < S.length) = false := decide_eq_false hql
              clear hql
            case' pos =>
              have q1 : ((q' : Nat) : Int) < (S.length : Int) := by omega
              have q2 : (0 : Int) ≤ ((q' : Nat) : Int) := by omega
              obtain ⟨s, hs⟩ : ∃ s, S[q']? = some s := ⟨S[q'], List.getElem?_eq_getElem hql⟩
              have HSq := Lib.hid hs
              have HBq := Lib.hid (show Below w.heap.size w wr by rw [HH.out]; exact HCr.out.below)
              obtain ⟨b, off, cap', hv, _, _, _, _, d0⟩ := int_cell (HI.out.below HBq.out) hs
              cases hv
              obtain ⟨z, hz⟩ : ∃ z : Int, z = (s : Int) + ((is : Int) - (was : Int)) := ⟨_, rfl⟩
              have hsl := HSt.out s (List.mem_of_getElem? hs)
              have e4 := IntWalk.i64_in ((s : Int) + ((is : Int) - (was : Int))) (by have := HW.out.il; have := HW.out.wo; omega)
              conv at e4 => rhs; rw [← hz]
              have HZ := Lib.hid hz
              clear hs hz
              by_cases hc : z < ((a' : Nat) : Int)
              case' pos =>
                have e5 := IntWalk.i64_in ((q' : Int) + 1) (by omega)
                go_wp2_with fail
                go_roundw
                case rel => exact ⟨q' + 1, by go_num, by omega, by first | rfl | trivial⟩
                case measure => simp [intOf] <;> omega
              case' neg =>
                have c1 : decide (z < ((a' : Nat) : Int)) = false := decide_eq_false hc
                by_cases hd : z = ((a' : Nat) : Int)
                case' pos =>
                  have c2 : (z == ((a' : Nat) : Int)) = true := by simpa using hd
                  have HR := Lib.hid (HRest.out m a' q' s HMa.out HSq.out hge (by rw [← HZ.out]; exact hd))
                  have t1 : (q' : Int) ≤ (S.length : Int) := by omega
                  have t2 : (S.length : Int) ≤ (scap : Int) := by omega
                  have t3 : ¬ q' = scap := by omega
                  have t4 : ((S.length : Int) - (q' : Int)).toNat = S.length - q' := by omega
                  have t5 : ((scap : Int) - (q' : Int)).toNat = scap - q' := by omega
                  clear hd hc
                  go_wp2_with fail
                  go_loopw [105, 16] (fun iv _ wl => ∃ (i : Nat) (yv : Value), iv = .int .i64 ((i : Nat) : Int) ∧ i ≤ S.length - q' ∧ Below (h + 3) wr wl ∧ YA wl yb (h + 3) yv l.length (L.take (m + i))) (fun iv _ _ => S.length - q' - (intOf iv).toNat)
                  case atStart => exact ⟨0, _, rfl, Nat.zero_le _, .refl _ _, HYs.out⟩
                  case round =>
                    obtain ⟨i, yv, rfl, hi, hB, hY⟩ := hrel
                    have HBl := Lib.hid hB
                    have HYl := Lib.hid hY
                    have HCl := Lib.hid (HCr.out.later hB)
                    have HBw := Lib.hid (show Below w.heap.size w wr by rw [HH.out]; exact HCl.out.below)
                    have hR1 := HR.out.1
                    clear hB hY x0 a2
                    by_cases hil : i < S.length - q'
                    · obtain ⟨x, hx⟩ : ∃ x, S[q' + i]? = some x := ⟨S[q' + i], List.getElem?_eq_getElem (by omega)⟩
                      obtain ⟨y, hy, hyx⟩ := HR.out.2 i x hx
                      have hxl := HSt.out x (List.mem_of_getElem? hx)
                      have hyl := HLt.out y (List.mem_of_getElem? hy)
                      obtain ⟨b', off', cap', hv, _, _, _, _, d1⟩ := int_cell (HI.out.below HBw.out) hx
                      cases hv
                      have d2 : wr.cell? ⟨b, off + q' + i, none⟩ = some (.int .i64 ((x : Nat) : Int)) := by rw [Nat.add_assoc]; exact d1
                      have e6 := IntWalk.i64_in ((x : Int) + ((is : Int) - (was : Int))) (by omega)
                      have HYX := Lib.hid hyx
                      have hbig : (m + i + 1) * 8 ≤ 140737488355328 := by omega
                      have hlmi : (L.take (m + i)).length = m + i := by rw [List.length_take]; omega
                      obtain ⟨pa2, pc2, rfl⟩ := slice_of_owns HYl.out.own
                      have HYt := Lib.hid (show YA wr yb (h + 3) (.slice pa2 (m + i) pc2) l.length (L.take (m + i)) by have h1 := HYl.out; rw [hlmi] at h1; exact h1)
                      have hown : wr.ownsRow (h + 3) 3 1 (.slice pa2 (m + i) pc2) (m + i) ((L.take (m + i)).flatMap nE) := by have h1 := HYt.out.own; rw [hlmi] at h1; exact h1
                      have y0 := row_cells (i := 0) HYt.out.y rfl
                      have hby := HCl.out.hs
                      have g1 : (i : Int) < ((S.length - q' : Nat) : Int) := by omega
                      have g2 : (0 : Int) ≤ (i : Int) := by omega
                      have HMy := Lib.hid hy
                      clear hx hy d1 d0 hyx
                      go_wp2_with (at_builtin; refine wpList_app1 _ rfl (.tmp 110) (.tmp 114) _ rfl EI _ _ _ rfl hown 1 1 [.int .i64 ((x : Int) + ((is : Int) - (was : Int)))] rfl (by decide) rfl (by intro u hu; simp at hu; subst hu; rfl) hbig hby ?_; intro g c w7 ho7 hg7 hf7; rw [← HYX.out] at ho7; have HY8 := Lib.hid (HYt.out.push (by rw [hlmi]; exact ho7) hg7 hf7); rw [hlmi] at HY8; have yr7 := (hg7.block _ HYt.out.lt (fun e => HYt.out.sep e.symm)).trans HYt.out.y; have yf := row_warm yr7 0; have y7 : w7.cell? ⟨yb, 0, none⟩ = some (.slice pa2 (m + i) pc2) := row_cells (i := 0) yr7 rfl; have HB8 := Lib.hid ((below_app (Below.refl (h + 3) wr) hby hown (Nat.le_refl _) hg7).setCell (p := ⟨yb, 0, none⟩) HYt.out.hy (.slice (some ⟨g, 0, none⟩) (m + i + 1) c)))
                      have htk : L.take (m + (i + 1)) = L.take (m + i) ++ [y] := by rw [← Nat.add_assoc, List.take_add_one, HMy.out]; rfl
                      rw [← htk] at HY8
                      go_roundw
                      case rel => exact ⟨i + 1, _, by go_num, by omega, HBl.out.trans HB8.out, HY8.out⟩
                      case measure => simp [intOf] <;> omega
                    · have g1 : decide ((i : Int) < ((S.length - q' : Nat) : Int)) = false := by rw [decide_eq_false_iff_not]; omega
                      have g2 : decide (i < S.length - q') = false := decide_eq_false hil
                      have hall : L.take (m + i) = L := List.take_of_length_le (by omega)
                      rw [hall] at HYl
                      have y0 := row_cells (i := 0) HYl.out.y rfl
                      have y1 := row_cells (i := 1) HYl.out.y rfl
                      have r0 := row_cells (i := 0) HCl.out.r rfl
                      have r1 := row_cells (i := 1) HCl.out.r rfl
                      have f0 := row_warm HCl.out.r 0
                      have f1 := row_warm HCl.out.r 1
                      have hown := HYl.out.own
                      obtain ⟨ya, yc, rfl⟩ := slice_of_owns hown
                      have HOw := Lib.hid hown
                      clear hil hown d0
                      go_wp2_with fail
                      try rw [Exit.noGoto_ret]
                      refine ret_cell1 (ad := ⟨h + 2, 0, none⟩) rfl rfl (run_loadVar_mid _ _ 0 _ [.slice ya L.length yc, .int .i64 ((l.length : Nat) : Int)] _ (range2 (by go_simp) (by go_simp)) Try.underlying39 rfl (by kernel_rfl)) rfl ?_
                      have hBB := (HCl.out.below.setCell (p := ⟨h + 2, 0, none⟩) (by show h ≤ h + 2; omega) (.slice ya L.length yc)).setCell (p := ⟨h + 2, 1, none⟩) (by show h ≤ h + 2; omega) (.int .i64 ((l.length : Nat) : Int))
                      have ho := owns_store (owns_store HOw.out (b := h + 2) (i := 0) (u := .slice ya L.length yc) (by omega)) (b := h + 2) (i := 1) (u := .int .i64 ((l.length : Nat) : Int)) (by omega)
                      rw [HH.out]
                      exact ⟨_, rfl, hBB, _, rfl, ints_of_owns ho⟩
                case' neg =>
                  have c2 : (z == ((a' : Nat) : Int)) = false := by simpa using hd
                  clear hd hc
          all_goals
            have hown : wr.ownsRow (h + 3) 3 1 (.slice pa1 m pc1) m ((L.take m).flatMap nE) := by have h1 := HYs.out.own; rw [hlm] at h1; exact h1
            have y0 := row_cells (i := 0) HYs.out.y rfl
            have hby := HCr.out.hs
            go_wp2_with (at_builtin; refine wpList_app1 _ rfl (.tmp 87) (.tmp 89) _ rfl EI _ _ _ rfl hown 1 1 (nE a') rfl (by decide) rfl (nE_one _) (by omega) hby ?_; intro g c w7 ho7 hg7 hf7; have HY8 := Lib.hid (HYs.out.push (by rw [hlm]; exact ho7) hg7 hf7); rw [hlm] at HY8; have yr7 := (hg7.block _ HYs.out.lt (fun e => HYs.out.sep e.symm)).trans HYs.out.y; have yf := row_warm yr7 0; have y7 : w7.cell? ⟨yb, 0, none⟩ = some (.slice pa1 m pc1) := row_cells (i := 0) yr7 rfl; have HB8 := Lib.hid ((below_app (Below.refl (h + 3) wr) hby hown (Nat.le_refl _) hg7).setCell (p := ⟨yb, 0, none⟩) HYs.out.hy (.slice (some ⟨g, 0, none⟩) (m + 1) c)))
            have HBw8 := Lib.hid (show Below w.heap.size w _ by rw [HH.out]; exact HCr.out.below.trans (HB8.out.mono (by omega)))
            refine (next_any (R := R) a' (HT.out.below HBw8.out) (HS.out.below HBw8.out) HOk.out hlt hl).mono ?_
            rintro e w9 ⟨rfl, hB9⟩
            have HB9 := Lib.hid (HB8.out.trans (hB9.mono (Nat.le_trans hby HB8.out.size)))
            have HY9 := Lib.hid (HY8.out.stays hB9)
            have htk : L.take (m + 1) = L.take m ++ [a'] := by rw [List.take_add_one, HMa.out]; rfl
            rw [← htk] at HY9
            have HN := Lib.hid (HNext.out m a' HMa.out)
            have hgt : a' < nxt (tabOf R) l a' := nxt_gt (tabOf R) hlt
            unfold nxt at HN hgt
            have HA2 := Lib.hid (show L[m + 1]? = some (a' + nx (tabOf R) (l.drop a')) ∨ (m + 1 = L.length ∧ a' + nx (tabOf R) (l.drop a') = l.length) by
              by_cases hm1 : m + 1 < L.length
              · exact .inl (HN.out.1 hm1)
              · exact .inr ⟨by omega, HN.out.2 (by omega)⟩)
            generalize a' + nx (tabOf R) (l.drop a') = a3 at hgt HA2 ⊢
            clear hB9 HN
            go_wp2_with fail
            go_roundw
            case rel => exact ⟨m + 1, a3, q', _, rfl, rfl, hq', hml, HA2.out, HBr.out.trans HB9.out, HY9.out⟩
            case measure => simp [intOf] <;> omega
      · have hae : a' = l.length := by
          rcases HA.out with h1 | h1
          · exact absurd (HLt.out a' (List.mem_of_getElem? h1)) hlt
          · exact h1.2
        have hme : m = L.length := by
          rcases HA.out with h1 | h1
          · exact absurd (HLt.out a' (List.mem_of_getElem? h1)) hlt
          · exact h1.1
        subst hae
        have y0 := row_cells (i := 0) HYr.out.y rfl
        have y1 := row_cells (i := 1) HYr.out.y rfl
        have r0 := row_cells (i := 0) HCr.out.r rfl
        have r1 := row_cells (i := 1) HCr.out.r rfl
        have f0 := row_warm HCr.out.r 0
        have f1 := row_warm HCr.out.r 1
        subst hme
        have hown := HYr.out.own
        rw [List.take_length] at hown
        obtain ⟨ya, yc, rfl⟩ := slice_of_owns hown
        have HOw := Lib.hid hown
        clear hlt hown
        go_wp2_with fail
        try rw [Exit.noGoto_ret]
        refine ret_cell1 (ad := ⟨h + 2, 0, none⟩) rfl rfl (run_loadVar_mid _ _ 0 _ [.slice ya L.length yc, .int .i64 ((l.length : Nat) : Int)] _ (range2 (by go_simp) (by go_simp)) Try.underlying39 rfl (by kernel_rfl)) rfl ?_
        have hBB := (HCr.out.below.setCell (p := ⟨h + 2, 0, none⟩) (by show h ≤ h + 2; omega) (.slice ya L.length yc)).setCell (p := ⟨h + 2, 1, none⟩) (by show h ≤ h + 2; omega) (.int .i64 ((l.length : Nat) : Int))
        have ho := owns_store (owns_store HOw.out (b := h + 2) (i := 0) (u := .slice ya L.length yc) (by omega)) (b := h + 2) (i := 1) (u := .int .i64 ((l.length : Nat) : Int)) (by omega)
        rw [HH.out]
        exact ⟨_, rfl, hBB, _, rfl, ints_of_owns ho⟩
end Go.Proofs.Ytblajooebmjfoaa

/- Index: plain facts for its laws. -/
namespace Go.Proofs.Ytblajooebmjfoaa

theorem sorted_ge : ∀ (S : List Nat) (b : Nat), S.Pairwise (· < ·) → (∀ x ∈ S, b ≤ x) → ∀ i x, S[i]? = some x → b + i ≤ x
  | [], _, _, _, i, x, h => by simp at h
  | a :: S, b, hp, hb, i, x, h => by
    obtain ⟨h1, h2⟩ := List.pairwise_cons.1 hp
    have h0 := hb a List.mem_cons_self
    cases i with
    | zero => simp at h; omega
    | succ i =>
      have := sorted_ge S (a + 1) h2 (fun y hy => h1 y hy) i x (by simpa using h)
      omega
/-- there are no more clusters than scalars -/
theorem starts_len (T : Tab) (s : List Int) : (starts T s).length ≤ s.length := by
  by_cases h : (starts T s).length = 0
  · omega
  · obtain ⟨x, hx⟩ : ∃ x, (starts T s)[(starts T s).length - 1]? = some x := ⟨_, List.getElem?_eq_getElem (by omega)⟩
    have h1 := sorted_ge (starts T s) 0 (starts_sorted T s) (fun _ _ => Nat.zero_le _) _ x hx
    have h2 := begAt_lt ((starts_mem T s x).1 (List.mem_of_getElem? hx))
    omega
theorem starts_nil (T : Tab) : starts T [] = [] := starts_nil_iff.2 rfl
theorem Win.zero (l : List Int) : Win [] l 0 0 l.length := ⟨Nat.le_refl _, Nat.le_refl _, Nat.zero_le _, Nat.le_refl _, rfl, by simp⟩
/-- what stands in a place, and a window that is as wide, or wider -/
theorem Win.put {l m ins : List Int} {f t b e : Nat} (hm : m = l.take f ++ ins ++ l.drop t) (hft : f ≤ t) (ht : t ≤ l.length) (hb : b ≤ f) (he : t + e ≤ l.length) : Win l m (f - b) (t + e) (f + ins.length + e) := by
  have hlf : (l.take f).length = f := by rw [List.length_take]; omega
  refine ⟨by omega, he, by omega, ?_, ?_, ?_⟩
  · rw [hm, List.length_append, List.length_append, hlf, List.length_drop]; omega
  · rw [hm, List.append_assoc, List.take_append_of_le_length (by omega), List.take_take, Nat.min_eq_left (by omega)]
  · have hl : (l.take f ++ ins).length = f + ins.length := by rw [List.length_append, hlf]
    have h1 : m.drop (f + ins.length) = l.drop t := by
      rw [hm, List.drop_append_of_le_length (by omega), List.drop_eq_nil_of_le (by omega), List.nil_append]
    have h2 : m.drop (f + ins.length + e) = (m.drop (f + ins.length)).drop e := by rw [List.drop_drop]
    rw [h2, h1, List.drop_drop]
end Go.Proofs.Ytblajooebmjfoaa

/- Index: is an index that of a text? -/
namespace Go.Proofs.Ytblajooebmjfoaa
open Go.RowKit

set_option maxRecDepth 100000 in
set_option maxHeartbeats 4000000 in
theorem isame_any {R : List Rw} {l : List Int} {w : World} {v rv lv : Value} (hX : IdxIn w v (starts (tabOf R) l) l.length) (hR : RowsIn w rv R) (hs : RunesIn w lv l) (ok : RunesOk l) (hl : l.length ≤ 1000000) :
    Calls Try.prog 22 #[v, rv, lv] w fun e w' => e = .returned (.bool true) ∧ Below w.heap.size w w' := by
  have hSl := starts_len (tabOf R) l
  have HX := Lib.hid hX
  have HRS := Lib.hid (fun W (hB : Below w.heap.size w W) => rstarts_any (hR.below hB) (hs.below hB) ok hl)
  generalize starts (tabOf R) l = S at hX hSl HX HRS
  obtain ⟨sv, rfl, hI⟩ := hX
  obtain ⟨sa, scap, rfl, hscap, hsmax, _⟩ := ints_cells hI
  unfold maxLen at hsmax
  obtain ⟨sl, cap, rfl, hcap, hmax, _⟩ := runes_cells hs
  unfold maxLen at hmax
  have HB0 := Lib.hid ((Below.refl w.heap.size w).alloc (Nat.le_refl _) (.cells #[.slice sa S.length scap, .int .i64 ((l.length : Nat) : Int)] 39))
  have hc2 := cell_two_new w (.slice sa S.length scap) (.int .i64 ((l.length : Nat) : Int)) 39
  have c0 : (w.alloc (.cells #[.slice sa S.length scap, .int .i64 ((l.length : Nat) : Int)] 39)).cell? ⟨w.heap.size, 0, none⟩ = some (.slice sa S.length scap) := hc2 0 _ rfl
  have c1 : (w.alloc (.cells #[.slice sa S.length scap, .int .i64 ((l.length : Nat) : Int)] 39)).cell? ⟨w.heap.size, 1, none⟩ = some (.int .i64 ((l.length : Nat) : Int)) := hc2 1 _ rfl
  clear hR hs ok hI hc2
  go_enter Try.func22, Try.ntmps22
  go_upto_region 1 with fail
  generalize w.alloc (.cells #[.slice sa S.length scap, .int .i64 ((l.length : Nat) : Int)] 39) = w0 at c0 c1 HB0 ⊢
  go_wp2_with fail
  refine (HRS.out w0 HB0.out).mono ?_
  rintro e w1 ⟨u, rfl, hB1, hI1⟩
  have p0 := cell_later hB1 c0
  have p1 := cell_later hB1 c1
  have HB1 := Lib.hid (below_trans' HB0.out hB1)
  have HI1 := Lib.hid hI1
  obtain ⟨ua, uc, rfl, huc, hum, _⟩ := ints_cells hI1
  unfold maxLen at hum
  clear hB1 hI1 c0 c1 HRS
  go_wp2_with fail
  refine (istarts_any (HX.out.below HB1.out) (by omega)).mono ?_
  rintro e w2 ⟨u2, rfl, hB2, hI2⟩
  have q0 := cell_later hB2 p0
  have q1 := cell_later hB2 p1
  have HB2 := Lib.hid (below_trans' HB1.out hB2)
  have HI2 := Lib.hid hI2
  have HJ2 := Lib.hid (HI1.out.below hB2)
  clear hB2 hI2 p0 p1
  go_wp2_with fail
  refine (same_ints HI2.out HJ2.out).mono ?_
  rintro e w3 ⟨rfl, hB3⟩
  rw [decide_eq_true (rfl : S = S)]
  have c0 := cell_later hB3 q0
  have c1 := cell_later hB3 q1
  have HB3 := Lib.hid (below_trans' HB2.out hB3)
  clear hB3 q0 q1
  go_wp2_with fail
  refine (ilen_any (HX.out.below HB3.out)).mono ?_
  rintro e w4 ⟨rfl, hB4⟩
  have q0 := cell_later hB4 c0
  have q1 := cell_later hB4 c1
  have HB4 := Lib.hid (below_trans' HB3.out hB4)
  clear hB4 c0 c1
  go_wp2_with fail
  refine (icount_any (HX.out.below HB4.out)).mono ?_
  rintro e w5 ⟨rfl, hB5⟩
  have HB5 := Lib.hid (below_trans' HB4.out hB5)
  clear hB5
  go_wp2_with fail
  go_ret
  exact ⟨rfl, HB5.out⟩
end Go.Proofs.Ytblajooebmjfoaa

/- Index: chapter 15's example. -/
namespace Go.Proofs.Ytblajooebmjfoaa
open Go.RowKit

/-- the scalars of chapter 15's texts -/
def idxEx (R : List Rw) : Bool := decide (starts (tabOf R) [97, 769, 98] = [0, 2]) && decide (starts (tabOf R) [97, 769, 98, 769] = [0, 2])
structure IFacts (R : List Rw) : Prop where
  a : starts (tabOf R) [97, 769, 98] = [0, 2]
  b : starts (tabOf R) [97, 769, 98, 769] = [0, 2]
theorem ifacts_of {R : List Rw} (h : idxEx R = true) : IFacts R := by
  simp only [idxEx, Bool.and_eq_true, decide_eq_true_eq] at h
  exact ⟨h.1, h.2⟩
set_option maxRecDepth 100000 in
theorem idxRows_any : ∃ R : List Rw, RFacts R ∧ IFacts R ∧ ∀ w, Calls Try.prog 12 #[] w (LitPost R w) :=
  ⟨((((((((rowsFn Try.f39) ++ rowsFn Try.f40) ++ rowsFn Try.f41) ++ rowsFn Try.f42) ++ rowsFn Try.f43) ++ rowsFn Try.f44) ++ rowsFn Try.f45) ++ rowsFn Try.f46), rfacts_of (by kernel_rfl) (by kernel_rfl) (by kernel_rfl) (by kernel_rfl) (by kernel_rfl) (by kernel_rfl), ifacts_of (by kernel_rfl), fun w => apiRows_of _ _ _ _ _ _ _ _ (of_decide_eq_true (by kernel_rfl)) (of_decide_eq_true (by kernel_rfl)) (of_decide_eq_true (by kernel_rfl)) (of_decide_eq_true (by kernel_rfl)) (of_decide_eq_true (by kernel_rfl)) (of_decide_eq_true (by kernel_rfl)) (of_decide_eq_true (by kernel_rfl)) (of_decide_eq_true (by kernel_rfl)) classes_any pairs_any outs_any breaks_any picts_any conjs_any wides_any letters_any w⟩
theorem ex15_win : Win [97, 769, 98] [97, 769, 98, 769] 3 3 4 := ⟨by decide, by decide, by decide, by decide, rfl, rfl⟩
theorem ex15_on0 : onX [0, 2] 3 0 1 = 2 := by decide +kernel
theorem ex15_on3 : onX [0, 2] 3 3 (-9) = 0 := by decide +kernel
set_option maxRecDepth 100000 in
set_option maxHeartbeats 4000000 in
theorem awake15_any (w : World) : Calls Try.prog 24 #[] w fun e w' => e = .returned (.bool true) ∧ Below w.heap.size w w' := by
  obtain ⟨R, HFc, HIc, hrows⟩ := idxRows_any
  have HF := Lib.hid HFc
  have HIF := Lib.hid HIc
  have HRows := Lib.hid hrows
  have HTk := Lib.hid HFc.seg.tab
  clear HFc hrows HIc
  go_enter Try.func24, Try.ntmps24
  go_wp2_with fail
  refine (HRows.out w).mono ?_
  rintro e w1 ⟨v, rfl, hB1, hR1⟩
  have HB1 := Lib.hid hB1
  go_wp2_with fail
  refine (build_tb v R w1 hR1 HF.out.ok).mono ?_
  rintro e w2 ⟨tp, rfl, hB2, hT⟩
  have HT2 := Lib.hid (hT.below (below1 w2 (.cells #[.int .i32 97, .int .i32 769, .int .i32 98] 21)))
  have HB2 := Lib.hid (below_new (below_trans' HB1.out hB2) (.cells #[.int .i32 97, .int .i32 769, .int .i32 98] 21))
  have HL2 := Lib.hid (show RunesIn (w2.alloc (.cells #[.int .i32 97, .int .i32 769, .int .i32 98] 21)) (.slice (some ⟨w2.heap.size, 0, none⟩) 3 3) [97, 769, 98] from rs_lit runeE_len w2 _ _ _ 3 rfl (by decide) rfl)
  have HOk := Lib.hid (show RunesOk [97, 769, 98] from fun x hx => by simp at hx; unfold I32; omega)
  have HOk' := Lib.hid (show RunesOk [97, 769, 98, 769] from fun x hx => by simp at hx; unfold I32; omega)
  clear hB1 hR1 hB2 hT HB1
  go_wp2_with fail
  refine (iof_any HTk.out HT2.out HL2.out HOk.out (by decide)).mono ?_
  rintro e w3 ⟨u, rfl, hB3, hX⟩
  rw [HIF.out.a] at hX
  obtain ⟨n3, hn3⟩ : ∃ n3 : Int, n3 = ((([97, 769, 98] : List Int).length : Nat) : Int) := ⟨_, rfl⟩
  have hX2 : IdxIn w3 u [0, 2] 3 := hX
  obtain ⟨sv, rfl, hI⟩ := hX2
  rw [show ((3 : Nat) : Int) = n3 by rw [hn3]; rfl]
  obtain ⟨sa, scap, rfl, hscap, hsmax, _⟩ := ints_cells hI
  unfold maxLen at hsmax
  obtain ⟨k2, hk2⟩ : ∃ k2 : Nat, k2 = ([0, 2] : List Nat).length := ⟨_, rfl⟩
  rw [← hk2]
  have HXc := Lib.hid (show IdxIn w3 (.agg #[.slice sa k2 scap, .int .i64 n3]) [0, 2] 3 by rw [hk2, hn3]; exact hX)
  have hb4 := below1 w3 (.cells #[.slice sa k2 scap, .int .i64 n3] 39)
  have HX4 := Lib.hid (HXc.out.below hb4)
  have HT4 := Lib.hid ((HT2.out.below hB3).below hb4)
  have HB4 := Lib.hid (below_trans' (below_trans' HB2.out hB3) hb4)
  have hc2 := cell_two_new w3 (.slice sa k2 scap) (.int .i64 n3) 39
  have c0 : (w3.alloc (.cells #[.slice sa k2 scap, .int .i64 n3] 39)).cell? ⟨w3.heap.size, 0, none⟩ = some (.slice sa k2 scap) := hc2 0 _ rfl
  have c1 : (w3.alloc (.cells #[.slice sa k2 scap, .int .i64 n3] 39)).cell? ⟨w3.heap.size, 1, none⟩ = some (.int .i64 n3) := hc2 1 _ rfl
  have HN3 := Lib.hid hn3
  clear hB3 hI hX HT2 HL2 HB2 hb4 hc2 HXc hn3 hk2
  go_wp2_with fail
  have hw4 : (w3.alloc (.cells #[.slice sa k2 scap, .int .i64 n3] 39)).heap.size = w3.heap.size + 1 := by simp
  generalize w3.alloc (.cells #[.slice sa k2 scap, .int .i64 n3] 39) = w4 at c0 c1 HX4 HT4 HB4 hw4 ⊢
  generalize w3.heap.size = xb at c0 c1 hw4 ⊢
  rw [← hw4]
  have hb5 := below1 w4 (.cells #[.int .i32 97, .int .i32 769, .int .i32 98, .int .i32 769] 21)
  have HL := rs_lit runeE_len w4 #[.int .i32 97, .int .i32 769, .int .i32 98, .int .i32 769] 21 [97, 769, 98, 769] 4 rfl (by decide) rfl
  have HX5 := Lib.hid (HX4.out.below hb5)
  have a0 := cell_later hb5 c0
  have a1 := cell_later hb5 c1
  have HB5 := Lib.hid (below_trans' HB4.out hb5)
  refine (change_any (R := R) (o := [97, 769, 98]) (l := [97, 769, 98, 769]) (f := 3) (was := 3) (is := 4) HTk.out (by rw [HIF.out.a]; exact HX5.out) (HT4.out.below hb5) HL HOk'.out (by decide) (by decide) (starts_len _ _) (starts_len _ _) ex15_win).mono ?_
  rintro e w6 ⟨u6, rfl, hB6, hX6⟩
  rw [HIF.out.b] at hX6
  have hX6b : IdxIn w6 u6 [0, 2] 4 := hX6
  obtain ⟨yv, rfl, hI6⟩ := hX6b
  obtain ⟨n4, hn4⟩ : ∃ n4 : Int, n4 = ((4 : Nat) : Int) := ⟨_, rfl⟩
  rw [← hn4]
  obtain ⟨ya, ycap, rfl, _, _, _⟩ := ints_cells hI6
  obtain ⟨k3, hk3⟩ : ∃ k3 : Nat, k3 = ([0, 2] : List Nat).length := ⟨_, rfl⟩
  rw [← hk3]
  have b0 := cell_later hB6 a0
  have b1 := cell_later hB6 a1
  have HB6 := Lib.hid (below_trans' HB5.out hB6)
  have HX6 := Lib.hid (HX5.out.below hB6)
  have HY6 := Lib.hid (show IdxIn w6 (.agg #[.slice ya k3 ycap, .int .i64 n4]) [0, 2] 4 by rw [hk3, hn4]; exact hX6)
  have HN4 := Lib.hid hn4
  have hb7 := below1 w6 (.cells #[.slice ya k3 ycap, .int .i64 n4] 39)
  have hc2 := cell_two_new w6 (.slice ya k3 ycap) (.int .i64 n4) 39
  have d0 : (w6.alloc (.cells #[.slice ya k3 ycap, .int .i64 n4] 39)).cell? ⟨w6.heap.size, 0, none⟩ = some (.slice ya k3 ycap) := hc2 0 _ rfl
  have d1 : (w6.alloc (.cells #[.slice ya k3 ycap, .int .i64 n4] 39)).cell? ⟨w6.heap.size, 1, none⟩ = some (.int .i64 n4) := hc2 1 _ rfl
  have c0' := cell_later hb7 b0
  have c1' := cell_later hb7 b1
  have HB7 := Lib.hid (below_trans' HB6.out hb7)
  have HX7 := Lib.hid (HX6.out.below hb7)
  have HY7 := Lib.hid (HY6.out.below hb7)
  clear hB6 hX6 hI6 hn4 hk3 b0 b1 a0 a1 c0 c1 hb5 HL hb7 hc2 HX4 HX5 HX6 HY6 HB4 HB5 HB6 HT4
  go_wp2_with fail
  generalize w6.alloc (.cells #[.slice ya k3 ycap, .int .i64 n4] 39) = w7 at c0' c1' d0 d1 HX7 HY7 HB7 ⊢
  generalize w6.heap.size = yb at d0 d1 ⊢
  have c0 := c0'
  have c1 := c1'
  clear c0' c1'
  refine (istarts_any HX7.out (by decide)).mono ?_
  rintro e w8 ⟨u8, rfl, hB, hI8⟩
  have c0 := cell_later hB c0
  have c1 := cell_later hB c1
  have d0 := cell_later hB d0
  have d1 := cell_later hB d1
  have HB8 := Lib.hid (below_trans' HB7.out hB)
  have HX8 := Lib.hid (HX7.out.below hB)
  have HY8 := Lib.hid (HY7.out.below hB)
  have HS := Lib.hid hI8
  obtain ⟨za, zcap, rfl, _, _, _⟩ := ints_cells hI8
  have hb := below1 w8 (.cells #[.int .i64 0, .int .i64 2] 3)
  have HL9 := Lib.hid (show IntsIn (w8.alloc (.cells #[.int .i64 0, .int .i64 2] 3)) (.slice (some ⟨w8.heap.size, 0, none⟩) 2 2) [0, 2] from rs_lit nE_len w8 #[.int .i64 0, .int .i64 2] 3 [0, 2] 2 rfl (by decide) rfl)
  have c0 := cell_later hb c0
  have c1 := cell_later hb c1
  have d0 := cell_later hb d0
  have d1 := cell_later hb d1
  have HB9 := Lib.hid (below_trans' HB8.out hb)
  have HX9 := Lib.hid (HX8.out.below hb)
  have HY9 := Lib.hid (HY8.out.below hb)
  have HS := Lib.hid (HS.out.below hb)
  clear hI8 hB hb
  go_wp2_with fail
  generalize w8.alloc (.cells #[.int .i64 0, .int .i64 2] 3) = w9 at c0 c1 d0 d1 HX9 HY9 HB9 HL9 HS ⊢
  refine (same_ints HS.out HL9.out).mono ?_
  rintro e w10 ⟨rfl, hB⟩
  rw [decide_eq_true (rfl : ([0, 2] : List Nat) = [0, 2])]
  have c0 := cell_later hB c0
  have c1 := cell_later hB c1
  have d0 := cell_later hB d0
  have d1 := cell_later hB d1
  have HB10 := Lib.hid (below_trans' HB9.out hB)
  have HX10 := Lib.hid (HX9.out.below hB)
  have HY10 := Lib.hid (HY9.out.below hB)
  clear hB HS HL9
  go_wp2_with fail
  refine (istarts_any HY10.out (by decide)).mono ?_
  rintro e w11 ⟨u8, rfl, hB, hI8⟩
  have c0 := cell_later hB c0
  have c1 := cell_later hB c1
  have d0 := cell_later hB d0
  have d1 := cell_later hB d1
  have HB11 := Lib.hid (below_trans' HB10.out hB)
  have HX11 := Lib.hid (HX10.out.below hB)
  have HY11 := Lib.hid (HY10.out.below hB)
  have HS := Lib.hid hI8
  obtain ⟨za, zcap, rfl, _, _, _⟩ := ints_cells hI8
  have hb := below1 w11 (.cells #[.int .i64 0, .int .i64 2] 3)
  have HL12 := Lib.hid (show IntsIn (w11.alloc (.cells #[.int .i64 0, .int .i64 2] 3)) (.slice (some ⟨w11.heap.size, 0, none⟩) 2 2) [0, 2] from rs_lit nE_len w11 #[.int .i64 0, .int .i64 2] 3 [0, 2] 2 rfl (by decide) rfl)
  have c0 := cell_later hb c0
  have c1 := cell_later hb c1
  have d0 := cell_later hb d0
  have d1 := cell_later hb d1
  have HB12 := Lib.hid (below_trans' HB11.out hb)
  have HX12 := Lib.hid (HX11.out.below hb)
  have HY12 := Lib.hid (HY11.out.below hb)
  have HS := Lib.hid (HS.out.below hb)
  clear hI8 hB hb
  go_wp2_with fail
  generalize w11.alloc (.cells #[.int .i64 0, .int .i64 2] 3) = w12 at c0 c1 d0 d1 HX12 HY12 HB12 HL12 HS ⊢
  refine (same_ints HS.out HL12.out).mono ?_
  rintro e w13 ⟨rfl, hB⟩
  rw [decide_eq_true (rfl : ([0, 2] : List Nat) = [0, 2])]
  have c0 := cell_later hB c0
  have c1 := cell_later hB c1
  have d0 := cell_later hB d0
  have d1 := cell_later hB d1
  have HB13 := Lib.hid (below_trans' HB12.out hB)
  have HX13 := Lib.hid (HX12.out.below hB)
  have HY13 := Lib.hid (HY12.out.below hB)
  clear hB HS HL12
  go_wp2_with fail
  refine (ilen_any HY13.out).mono ?_
  rintro e w14 ⟨rfl, hB⟩
  have c0 := cell_later hB c0
  have c1 := cell_later hB c1
  have d0 := cell_later hB d0
  have d1 := cell_later hB d1
  have HB14 := Lib.hid (below_trans' HB13.out hB)
  have HX14 := Lib.hid (HX13.out.below hB)
  have HY14 := Lib.hid (HY13.out.below hB)
  clear hB
  go_wp2_with fail
  refine (ion_any 0 1 HX14.out (by decide) (by decide)).mono ?_
  rintro e w15 ⟨rfl, hB⟩
  rw [ex15_on0]
  have c0 := cell_later hB c0
  have c1 := cell_later hB c1
  have d0 := cell_later hB d0
  have d1 := cell_later hB d1
  have HB15 := Lib.hid (below_trans' HB14.out hB)
  have HX15 := Lib.hid (HX14.out.below hB)
  have HY15 := Lib.hid (HY14.out.below hB)
  clear hB
  go_wp2_with fail
  refine (ion_any 3 (-9) HX15.out (by decide) (by decide)).mono ?_
  rintro e w16 ⟨rfl, hB⟩
  rw [ex15_on3]
  have c0 := cell_later hB c0
  have c1 := cell_later hB c1
  have d0 := cell_later hB d0
  have d1 := cell_later hB d1
  have HB16 := Lib.hid (below_trans' HB15.out hB)
  have HX16 := Lib.hid (HX15.out.below hB)
  have HY16 := Lib.hid (HY15.out.below hB)
  clear hB
  go_wp2_with fail
  go_ret
  exact ⟨rfl, HB16.out⟩
end Go.Proofs.Ytblajooebmjfoaa

/- Index: what stands in a place; IndexOf's walk. -/
namespace Go.Proofs.Ytblajooebmjfoaa
open Go.RowKit

set_option maxRecDepth 100000 in
set_option maxHeartbeats 4000000 in
theorem tjoined_any {w : World} {va vb vc : Value} {a b c : List Int} (ha : RunesIn w va a) (hb : RunesIn w vb b) (hc : RunesIn w vc c) (hsz : a.length + b.length + c.length ≤ 1000000) :
    Calls Try.prog 25 #[va, vb, vc] w fun e w' => ∃ u, e = .returned u ∧ Below w.heap.size w w' ∧ RunesIn w' u (a ++ b ++ c) := by
  have HA := Lib.hid ha
  have HB := Lib.hid hb
  have HC := Lib.hid hc
  obtain ⟨aa, ac, rfl, _, _, _⟩ := runes_cells ha
  obtain ⟨ba, bc, rfl, _, _, _⟩ := runes_cells hb
  obtain ⟨ca, cc, rfl, _, _, _⟩ := runes_cells hc
  clear ha hb hc
  go_enter Try.func25, Try.ntmps25
  go_upto_region 3 with (at_builtin; refine wpList_app_rd _ rfl (.tmp 8) (.tmp 9) _ rfl ER (.slice none 0 0) 0 [] rfl (World.ownsRow_nil w w.heap.size 21 1) _ _ _ rfl HA.out (runeE_one _) (by omega) (Nat.le_refl _) ?_; intro v1 w1 ho1 hg1; have HB1 := Lib.hid (below_app (Below.refl w.heap.size w) (Nat.le_refl _) (World.ownsRow_nil w w.heap.size 21 1) (Nat.le_refl _) hg1); have HO1 := Lib.hid (show w1.ownsRow w.heap.size 21 1 v1 a.length (a.flatMap runeE) by simpa using ho1); clear ho1 hg1)
  have HBr := Lib.hid (HB.out.below HB1.out)
  go_upto_region 4 with (at_builtin; refine wpList_app_rd _ rfl (.tmp 11) (.tmp 12) _ rfl ER _ _ _ rfl HO1.out _ _ _ rfl HBr.out (runeE_one _) (by omega) HB1.out.size ?_; intro v2 w2 ho2 hg2; have HB2 := Lib.hid (below_app HB1.out HB1.out.size HO1.out (Nat.le_refl _) hg2); have HO2 := Lib.hid ho2; clear ho2 hg2)
  have HCr := Lib.hid (HC.out.below HB2.out)
  go_upto_region 5 with (at_builtin; refine wpList_app_rd _ rfl (.tmp 14) (.tmp 15) _ rfl ER _ _ _ rfl HO2.out _ _ _ rfl HCr.out (runeE_one _) (by omega) HB2.out.size ?_; intro v3 w3 ho3 hg3; have HB3 := Lib.hid (below_app HB2.out HB2.out.size HO2.out (Nat.le_refl _) hg3); have HO3 := Lib.hid ho3; clear ho3 hg3)
  go_wp2_with fail
  go_ret
  refine ⟨_, rfl, HB3.out, ?_⟩
  have h := HO3.out
  rw [← List.flatMap_append, ← List.flatMap_append, ← List.length_append, ← List.length_append] at h
  exact rd_of_owns h
theorem fin15 {w w1 : World} (h1 : Below w.heap.size w w1) : Calls Try.prog 24 #[] w1 fun e w' => e = .returned (.bool true) ∧ Below w.heap.size w w' := by
  refine (awake15_any w1).mono ?_
  rintro e w' ⟨rfl, hB⟩
  exact ⟨rfl, below_trans' h1 hB⟩
set_option maxRecDepth 100000 in
set_option maxHeartbeats 8000000 in
theorem indexOf_any (v0 : Value) (l0 : List Int) (i : Int) (w : World) (hl : RunesIn w v0 l0) (hok : RunesOk l0) :
    Calls Try.prog 4 #[v0, .int .i64 i] w fun e w' => e = .returned (.bool true) ∧ Below w.heap.size w w' := by
  obtain ⟨R, HFc, hrows⟩ := apiRows_any
  have HF := Lib.hid HFc
  have HRows := Lib.hid hrows
  have HTk := Lib.hid HFc.seg.tab
  have HFew := Lib.hid (few_any hl 150)
  clear HFc hrows hl
  obtain ⟨l, hll⟩ : ∃ l, l = l0.take 150 := ⟨_, rfl⟩
  rw [← hll] at HFew
  have HOk := Lib.hid (show RunesOk l by rw [hll]; exact hok.take 150)
  have hlen : l.length ≤ 1000000 := by rw [hll, List.length_take]; omega
  clear hll hok
  go_enter Try.func4, Try.ntmps4
  go_wp2_with fail
  refine HFew.out.mono ?_
  rintro e w' ⟨⟨sv, rfl, hS⟩, rfl⟩
  have HS := Lib.hid hS
  obtain ⟨sl, cap, rfl, _, _, _⟩ := runes_cells hS
  clear hS HFew
  go_wp2_with fail
  refine (HRows.out w).mono ?_
  rintro e w1 ⟨v, rfl, hB1, hR1⟩
  have HB1 := Lib.hid hB1
  have HR1 := Lib.hid hR1
  have HS1 := Lib.hid (HS.out.below hB1)
  clear hB1 hR1 HS
  go_wp2_with fail
  refine (build_tb v R w1 HR1.out HF.out.ok).mono ?_
  rintro e w2 ⟨tp, rfl, hB2, hT⟩
  have HT2 := Lib.hid hT
  have HR2 := Lib.hid (HR1.out.below hB2)
  have HS2 := Lib.hid (HS1.out.below hB2)
  have HB2 := Lib.hid (below_trans' HB1.out hB2)
  clear hB2 hT HB1 HR1 HS1
  go_wp2_with fail
  refine (iof_any HTk.out HT2.out HS2.out HOk.out hlen).mono ?_
  rintro e w3 ⟨u, rfl, hB3, hX⟩
  have hSl := starts_len (tabOf R) l
  have HRS := Lib.hid (fun (W : World) (rv : Value) (h1 : RowsIn W rv R) (h2 : RunesIn W (.slice sl l.length cap) l) => rstarts_any h1 h2 HOk.out hlen)
  have HSame := Lib.hid (fun (W : World) (u rv : Value) (h0 : IdxIn W u (starts (tabOf R) l) l.length) (h1 : RowsIn W rv R) (h2 : RunesIn W (.slice sl l.length cap) l) => isame_any h0 h1 h2 HOk.out hlen)
  generalize starts (tabOf R) l = S at hX hSl HRS HSame
  obtain ⟨xv, rfl, hI⟩ := hX
  have HXc := Lib.hid (show IdxIn w3 (.agg #[xv, .int .i64 ((l.length : Nat) : Int)]) S l.length from ⟨xv, rfl, hI⟩)
  obtain ⟨xa, xcap, rfl, _, hxm, _⟩ := ints_cells hI
  unfold maxLen at hxm
  have HB3 := Lib.hid (below_trans' HB2.out hB3)
  have HR3 := Lib.hid (HR2.out.below hB3)
  have HS3 := Lib.hid (HS2.out.below hB3)
  have hc2 := cell_two_new w3 (.slice xa S.length xcap) (.int .i64 ((l.length : Nat) : Int)) 39
  have c0 : (w3.alloc (.cells #[.slice xa S.length xcap, .int .i64 ((l.length : Nat) : Int)] 39)).cell? ⟨w3.heap.size, 0, none⟩ = some (.slice xa S.length xcap) := hc2 0 _ rfl
  have c1 : (w3.alloc (.cells #[.slice xa S.length xcap, .int .i64 ((l.length : Nat) : Int)] 39)).cell? ⟨w3.heap.size, 1, none⟩ = some (.int .i64 ((l.length : Nat) : Int)) := hc2 1 _ rfl
  have hb4 := below1 w3 (.cells #[.slice xa S.length xcap, .int .i64 ((l.length : Nat) : Int)] 39)
  have HX4 := Lib.hid (HXc.out.below hb4)
  have HR4 := Lib.hid (HR3.out.below hb4)
  have HS4 := Lib.hid (HS3.out.below hb4)
  have HB4 := Lib.hid (below_trans' HB3.out hb4)
  clear hB3 hI hc2 hb4 HR2 HS2 HB2 HT2 HR3 HS3 HB3 HXc
  go_wp2_with fail
  generalize w3.alloc (.cells #[.slice xa S.length xcap, .int .i64 ((l.length : Nat) : Int)] 39) = w4 at c0 c1 HX4 HR4 HS4 HB4 ⊢
  generalize w3.heap.size = xb at c0 c1 ⊢
  refine (HRS.out w4 _ HR4.out HS4.out).mono ?_
  rintro e w5 ⟨ru, rfl, hB5, hI5⟩
  have p0 := cell_later hB5 c0
  have p1 := cell_later hB5 c1
  have HX5 := Lib.hid (HX4.out.below hB5)
  have HR5 := Lib.hid (HR4.out.below hB5)
  have HS5 := Lib.hid (HS4.out.below hB5)
  have HB5 := Lib.hid (below_trans' HB4.out hB5)
  have HI5 := Lib.hid hI5
  obtain ⟨ra, rc, rfl, _, hrm, _⟩ := ints_cells hI5
  unfold maxLen at hrm
  clear hB5 hI5 c0 c1 HX4 HR4 HS4 HB4 HRS
  by_cases h0 : i ≥ 0
  case' neg =>
    have q0 : decide (i ≥ 0) = false := decide_eq_false h0
    have q1 : decide (0 ≤ i) = false := decide_eq_false h0
    have HSt := Lib.hid (show ((l.length : Nat) : Int) = ((stA S l.length i : Nat) : Int) by unfold stA; rw [if_neg (by omega)])
    clear h0
  case' pos =>
    by_cases h1 : i < (S.length : Int)
    case' pos =>
      obtain ⟨k, rfl⟩ : ∃ k : Nat, i = (k : Int) := ⟨i.toNat, by omega⟩
      obtain ⟨x, hx⟩ : ∃ x, S[k]? = some x := ⟨S[k], List.getElem?_eq_getElem (by omega)⟩
      have hxs : x = stA S l.length (k : Int) := by unfold stA; rw [if_pos (by omega)]; show x = (S[k]?).getD l.length; rw [hx]; rfl
      obtain ⟨b, off, cap', hv, _, _, _, _, d0⟩ := int_cell HI5.out hx
      cases hv
      have hkl : k < S.length := by omega
      have HSt := Lib.hid (show ((x : Nat) : Int) = ((stA S l.length (k : Int) : Nat) : Int) by rw [hxs])
      clear hx hxs
    case' neg =>
      have q1 : decide (i < (S.length : Int)) = false := decide_eq_false h1
      have HSt := Lib.hid (show ((l.length : Nat) : Int) = ((stA S l.length i : Nat) : Int) by unfold stA; rw [if_pos (by omega), List.getElem?_eq_none (by omega)]; rfl)
      clear h1
  all_goals
    go_wp2_with fail
    refine (HSame.out w5 _ _ HX5.out HR5.out HS5.out).mono ?_
    rintro e w6 ⟨rfl, hB6⟩
    have c0 := cell_later hB6 p0
    have c1 := cell_later hB6 p1
    have HX6 := Lib.hid (HX5.out.below hB6)
    have HB6 := Lib.hid (below_trans' HB5.out hB6)
    clear hB6
    go_wp2_with fail
    refine (istart_any _ HX6.out).mono ?_
    rintro e w7 ⟨rfl, hB7⟩
    have HB7 := Lib.hid (below_trans' HB6.out hB7)
    rw [← HSt.out]
    clear hB7
    go_wp2_with fail
    refine (fin15 HB7.out).mono ?_
    rintro e w9 ⟨rfl, hB9⟩
    go_wp2_with fail
    go_ret
    exact ⟨rfl, hB9⟩
end Go.Proofs.Ytblajooebmjfoaa

/- IndexNone: its walk. -/
namespace Go.Proofs.Ytblajooebmjfoaa
open Go.RowKit

theorem idx_zero (W : World) : IdxIn W (.agg #[.slice none 0 0, .int .i64 0]) [] 0 := ⟨_, rfl, Rd.nil _ _ _⟩
theorem clX_nil (a : Int) : clX [] 0 a = 0 := by
  unfold clX stA
  split
  · rfl
  · rfl
theorem flX_nil (a : Int) : flX [] 0 a = 0 := by
  unfold flX
  split
  · rfl
  · simp [isAt, ahd]
theorem stA_nil (a : Int) : stA [] 0 a = 0 := by unfold stA; split <;> rfl
theorem onX_nil (a b : Int) : onX [] 0 a b = 0 := stA_nil _
section
variable {w : World}
theorem iz_len : Calls Try.prog 29 #[.agg #[.slice none 0 0, .int .i64 0]] w fun e w' => e = .returned (.int .i64 0) ∧ Below w.heap.size w w' := ilen_any (idx_zero w)
theorem iz_count : Calls Try.prog 30 #[.agg #[.slice none 0 0, .int .i64 0]] w fun e w' => e = .returned (.int .i64 0) ∧ Below w.heap.size w w' := icount_any (idx_zero w)
theorem iz_start (a : Int) : Calls Try.prog 23 #[.agg #[.slice none 0 0, .int .i64 0], .int .i64 a] w fun e w' => e = .returned (.int .i64 0) ∧ Below w.heap.size w w' := by
  have h := istart_any a (idx_zero w)
  rw [stA_nil] at h
  exact h
theorem iz_floor (a : Int) : Calls Try.prog 31 #[.agg #[.slice none 0 0, .int .i64 0], .int .i64 a] w fun e w' => e = .returned (.int .i64 0) ∧ Below w.heap.size w w' := by
  have h := ifloor_any a (idx_zero w) List.Pairwise.nil (by decide)
  rw [flX_nil] at h
  exact h
theorem iz_ceil (a : Int) : Calls Try.prog 32 #[.agg #[.slice none 0 0, .int .i64 0], .int .i64 a] w fun e w' => e = .returned (.int .i64 0) ∧ Below w.heap.size w w' := by
  have h := iceil_any a (idx_zero w) List.Pairwise.nil (by decide)
  rw [clX_nil] at h
  exact h
theorem iz_on (a b : Int) : Calls Try.prog 33 #[.agg #[.slice none 0 0, .int .i64 0], .int .i64 a, .int .i64 b] w fun e w' => e = .returned (.int .i64 0) ∧ Below w.heap.size w w' := by
  have h := ion_any a b (idx_zero w) List.Pairwise.nil (by decide)
  rw [onX_nil] at h
  exact h
end
set_option maxRecDepth 100000 in
set_option maxHeartbeats 8000000 in
theorem indexNone_any (v0 : Value) (l0 : List Int) (i : Int) (w : World) (hl : RunesIn w v0 l0) (hok : RunesOk l0) :
    Calls Try.prog 8 #[v0, .int .i64 i] w fun e w' => e = .returned (.bool true) ∧ Below w.heap.size w w' := by
  obtain ⟨R, HFc, hrows⟩ := apiRows_any
  have HF := Lib.hid HFc
  have HRows := Lib.hid hrows
  have HTk := Lib.hid HFc.seg.tab
  have HFew := Lib.hid (few_any hl 60)
  clear HFc hrows hl
  obtain ⟨l, hll⟩ : ∃ l, l = l0.take 60 := ⟨_, rfl⟩
  rw [← hll] at HFew
  have HOk := Lib.hid (show RunesOk l by rw [hll]; exact hok.take 60)
  have hlen : l.length ≤ 1000000 := by rw [hll, List.length_take]; omega
  clear hll hok
  go_enter Try.func8, Try.ntmps8
  go_wp2_with fail
  refine HFew.out.mono ?_
  rintro e w' ⟨⟨sv, rfl, hS⟩, rfl⟩
  have HS := Lib.hid hS
  obtain ⟨sl, cap, rfl, _, hcm, _⟩ := runes_cells hS
  unfold maxLen at hcm
  have hc2 := cell_two_new w (.slice none 0 0) (.int .i64 0) 39
  have c0 : (w.alloc (.cells #[.slice none 0 0, .int .i64 0] 39)).cell? ⟨w.heap.size, 0, none⟩ = some (.slice none 0 0) := hc2 0 _ rfl
  have c1 : (w.alloc (.cells #[.slice none 0 0, .int .i64 0] 39)).cell? ⟨w.heap.size, 1, none⟩ = some (.int .i64 0) := hc2 1 _ rfl
  have hb0 := below1 w (.cells #[.slice none 0 0, .int .i64 0] 39)
  have HS0 := Lib.hid (HS.out.below hb0)
  have HB0 := Lib.hid hb0
  clear hS HFew hc2 hb0 HS
  go_wp2_with fail
  generalize w.alloc (.cells #[.slice none 0 0, .int .i64 0] 39) = w0 at c0 c1 HS0 HB0 ⊢
  refine (HRows.out w0).mono ?_
  rintro e w1 ⟨v, rfl, hB1, hR1⟩
  have p0 := cell_later hB1 c0
  have p1 := cell_later hB1 c1
  have HB1 := Lib.hid (HB0.out.trans (hB1.mono HB0.out.size))
  have HR1 := Lib.hid hR1
  have HS1 := Lib.hid (HS0.out.below hB1)
  clear hB1 hR1 HS0 c0 c1 HB0
  go_wp2_with fail
  refine (iz_len).mono ?_
  rintro e w2 ⟨rfl, hB2⟩
  have q0 := cell_later hB2 p0
  have q1 := cell_later hB2 p1
  have HB2 := Lib.hid (HB1.out.trans (hB2.mono HB1.out.size))
  have HR2 := Lib.hid (HR1.out.below hB2)
  have HS2 := Lib.hid (HS1.out.below hB2)
  clear hB2 p0 p1 HB1 HR1 HS1
  go_wp2_with fail
  refine (iz_count).mono ?_
  rintro e w3 ⟨rfl, hB3⟩
  have p0 := cell_later hB3 q0
  have p1 := cell_later hB3 q1
  have HB3 := Lib.hid (HB2.out.trans (hB3.mono HB2.out.size))
  have HR3 := Lib.hid (HR2.out.below hB3)
  have HS3 := Lib.hid (HS2.out.below hB3)
  clear hB3 q0 q1 HB2 HR2 HS2
  go_wp2_with fail
  refine (iz_floor i).mono ?_
  rintro e w4 ⟨rfl, hB4⟩
  have q0 := cell_later hB4 p0
  have q1 := cell_later hB4 p1
  have HB4 := Lib.hid (HB3.out.trans (hB4.mono HB3.out.size))
  have HR4 := Lib.hid (HR3.out.below hB4)
  have HS4 := Lib.hid (HS3.out.below hB4)
  clear hB4 p0 p1 HB3 HR3 HS3
  go_wp2_with fail
  refine (iz_ceil i).mono ?_
  rintro e w5 ⟨rfl, hB5⟩
  have p0 := cell_later hB5 q0
  have p1 := cell_later hB5 q1
  have HB5 := Lib.hid (HB4.out.trans (hB5.mono HB4.out.size))
  have HR5 := Lib.hid (HR4.out.below hB5)
  have HS5 := Lib.hid (HS4.out.below hB5)
  clear hB5 q0 q1 HB4 HR4 HS4
  go_wp2_with fail
  refine (iz_on i i).mono ?_
  rintro e w6 ⟨rfl, hB6⟩
  have q0 := cell_later hB6 p0
  have q1 := cell_later hB6 p1
  have HB6 := Lib.hid (HB5.out.trans (hB6.mono HB5.out.size))
  have HR6 := Lib.hid (HR5.out.below hB6)
  have HS6 := Lib.hid (HS5.out.below hB6)
  clear hB6 p0 p1 HB5 HR5 HS5
  go_wp2_with fail
  refine (iz_start i).mono ?_
  rintro e w7 ⟨rfl, hB7⟩
  have p0 := cell_later hB7 q0
  have p1 := cell_later hB7 q1
  have HB7 := Lib.hid (HB6.out.trans (hB7.mono HB6.out.size))
  have HR7 := Lib.hid (HR6.out.below hB7)
  have HS7 := Lib.hid (HS6.out.below hB7)
  clear hB7 q0 q1 HB6 HR6 HS6
  go_upto_region 6 with fail
  go_region_held3 (fun w' => w'.cell? ⟨w.heap.size, 0, none⟩ = some (.slice none 0 0) ∧ w'.cell? ⟨w.heap.size, 1, none⟩ = some (.int .i64 0)) (first | exact ⟨f0, f1⟩ | exact ⟨e0, e1⟩ | exact ⟨d0, d1⟩ | exact ⟨a0, a1⟩ | exact ⟨p0, p1⟩ | go_keep)
    (first
      | (go_at_call 13; refine (build_tb v R _ (HR7.out.drewN 1) HF.out.ok).mono ?_; rintro e w8 ⟨tp, rfl, hB8, hT8⟩; have a0 := cell_later hB8 (show (w7.drewN 1).cell? _ = _ from p0); have a1 := cell_later hB8 (show (w7.drewN 1).cell? _ = _ from p1); have HB8 := Lib.hid ((below_dN HB7.out 1).trans (hB8.mono (below_dN HB7.out 1).size)); have HR8 := Lib.hid ((HR7.out.drewN 1).below hB8); have HS8 := Lib.hid ((HS7.out.drewN 1).below hB8); have HCh := Lib.hid (change_any (o := []) (f := 0) (was := 0) (is := l.length) HTk.out (by rw [starts_nil]; exact idx_zero w8) hT8 HS8.out HOk.out hlen (by decide) (starts_len _ _) (starts_len _ _) (Win.zero l)); clear hB8 hT8)
      | (go_at_call 26; refine HCh.out.mono ?_; rintro e w9 ⟨u, rfl, hB9, hX9⟩; have d0 := cell_later hB9 a0; have d1 := cell_later hB9 a1; have HB9 := Lib.hid (HB8.out.trans (hB9.mono HB8.out.size)); have HR9 := Lib.hid (HR8.out.below hB9); have HS9 := Lib.hid (HS8.out.below hB9); have HX9 := Lib.hid hX9; clear hB9 hX9)
      | (go_at_call 22; refine (isame_any HX9.out HR9.out HS9.out HOk.out hlen).mono ?_; rintro e w10 ⟨rfl, hB10⟩; have e0 := cell_later hB10 d0; have e1 := cell_later hB10 d1; have HB10 := Lib.hid (HB9.out.trans (hB10.mono HB9.out.size)); clear hB10)
      | (go_at_call 24; refine (awake15_any w10).mono ?_; rintro e w11 ⟨rfl, hB11⟩; have f0 := cell_later hB11 e0; have f1 := cell_later hB11 e1; have HB11 := Lib.hid (HB10.out.trans (hB11.mono HB10.out.size)); clear hB11)
      | fail)
  all_goals go_wp2_with fail
  all_goals go_ret
  all_goals exact ⟨rfl, HB11.out⟩
end Go.Proofs.Ytblajooebmjfoaa
