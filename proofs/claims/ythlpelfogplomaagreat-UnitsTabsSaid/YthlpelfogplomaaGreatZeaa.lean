/- Joined texts: BackP BackA BackB BackC BackD BackQ WordP BackE BackF WordQ IdxA IdxP IdxG UnitP IdxB IdxC IdxM UnitQ UnitR FlowQ UtbP UtbA UtbB. -/
import Derived.Deep.RegionHeld3
import Derived.WalkMore
import Derived.Test.YthlpelfogplomaaGreatZaaa
import Derived.Test.YthlpelfogplomaaGreatZbac
import Derived.Test.YthlpelfogplomaaGreatZaba
import Derived.Test.YthlpelfogplomaaGreatZcaa
import Derived.Test.YthlpelfogplomaaGreatZcad
import Derived.Test.YthlpelfogplomaaGreatZdaa
import Derived.Test.YthlpelfogplomaaGreatZcac
/- Boundaries around a place, plainly. -/
namespace Go.Proofs.YthlpelfogplomaaGreat

def isB (T : Tab) (s : List Int) (i : Nat) : Bool := decide (i = s.length) || begAt T s i
/-- the last boundary that is not behind a place -/
def floorB (T : Tab) (s : List Int) : Nat → Nat
  | 0 => 0
  | i + 1 => if isB T s (i + 1) then i + 1 else floorB T s i
/-- the first one that is not ahead of it -/
def ceilB (T : Tab) (s : List Int) (i : Nat) : Nat := i + fnb T (s.take i).reverse (s.drop i)
def floorI (T : Tab) (s : List Int) (a : Int) : Nat := if a ≤ 0 then 0 else if (s.length : Int) ≤ a then s.length else floorB T s a.toNat
def ceilI (T : Tab) (s : List Int) (a : Int) : Nat := if a ≤ 0 then 0 else if (s.length : Int) ≤ a then s.length else ceilB T s a.toNat
theorem isB_len (T : Tab) (s : List Int) : isB T s s.length = true := by simp [isB]
theorem isB_lt {T : Tab} {s : List Int} {i : Nat} (h : i < s.length) : isB T s i = begAt T s i := by
  unfold isB
  rw [decide_eq_false (by omega), Bool.false_or]
theorem floorB_eq {T : Tab} {s : List Int} {f : Nat} : ∀ {a : Nat}, f ≤ a → (f = 0 ∨ isB T s f = true) → (∀ j, f < j → j ≤ a → isB T s j = false) → floorB T s a = f
  | 0, h, _, _ => by simp only [floorB]; omega
  | a + 1, h, hf, hn => by
    simp only [floorB]
    by_cases he : f = a + 1
    · subst he
      rcases hf with hf | hf
      · omega
      · rw [hf, if_pos rfl]
    · rw [hn (a + 1) (by omega) (Nat.le_refl _), if_neg Bool.false_ne_true]
      exact floorB_eq (by omega) hf fun j h1 h2 => hn j h1 (by omega)
theorem floorB_le (T : Tab) (s : List Int) : ∀ a, floorB T s a ≤ a
  | 0 => Nat.le_refl _
  | a + 1 => by
    simp only [floorB]
    split
    · exact Nat.le_refl _
    · have := floorB_le T s a; omega
theorem floorB_is (T : Tab) (s : List Int) : ∀ a, floorB T s a = 0 ∨ isB T s (floorB T s a) = true
  | 0 => .inl rfl
  | a + 1 => by
    simp only [floorB]
    split
    · rename_i h; exact .inr h
    · exact floorB_is T s a
theorem floorB_none (T : Tab) (s : List Int) : ∀ a j, floorB T s a < j → j ≤ a → isB T s j = false
  | 0, j, h1, h2 => by omega
  | a + 1, j, h1, h2 => by
    simp only [floorB] at h1
    split at h1
    · omega
    · rename_i h
      by_cases hj : j = a + 1
      · subst hj; exact eq_false_of_ne_true h
      · exact floorB_none T s a j h1 (by omega)
theorem ceilB_spec (T : Tab) (s : List Int) {i : Nat} (h : i ≤ s.length) : (∀ j, i ≤ j → j < ceilB T s i → begAt T s j = false) ∧ ceilB T s i ≤ s.length ∧ (ceilB T s i = s.length ∨ begAt T s (ceilB T s i) = true) := fnb_spec T s _ i rfl h
theorem ceilB_eq {T : Tab} {s : List Int} {i c : Nat} (h : i ≤ s.length) (hic : i ≤ c) (hn : ∀ j, i ≤ j → j < c → begAt T s j = false) (hc : c ≤ s.length) (hb : c = s.length ∨ begAt T s c = true) : ceilB T s i = c := by
  obtain ⟨h1, h2, h3⟩ := ceilB_spec T s h
  have hge : i ≤ ceilB T s i := Nat.le_add_right _ _
  rcases Nat.lt_trichotomy (ceilB T s i) c with h4 | h4 | h4
  · rcases h3 with h3 | h3
    · omega
    · rw [hn _ hge h4] at h3; cases h3
  · exact h4
  · rcases hb with hb | hb
    · omega
    · rw [h1 c hic h4] at hb; cases hb
theorem ceilB_step {T : Tab} {s : List Int} {k : Nat} (hk : k < s.length) : ceilB T s k = if begAt T s k then k else ceilB T s (k + 1) := by
  have hx : s[k]? = some s[k] := List.getElem?_eq_getElem hk
  generalize s[k] = x at hx
  unfold ceilB begAt
  rw [drop_of_get hx, take_succ_rev hx, hx]
  simp only [fnb]
  split <;> omega
theorem ceilB_len (T : Tab) (s : List Int) : ceilB T s s.length = s.length := by unfold ceilB; rw [List.drop_length]; rfl
/-- from the last boundary not behind a place, that is ahead of it, the next one is the first not ahead of it -/
theorem ceil_of_floor {T : Tab} (H : T.Ok) {s : List Int} {a : Nat} (ha : a < s.length) (hf : floorB T s a < a) : ceilB T s a = floorB T s a + nx T (s.drop (floorB T s a)) := by
  have hb : begAt T s (floorB T s a) = true := by
    rcases floorB_is T s a with h | h
    · rw [h]; exact begAt_zero T (fun e => by rw [e] at ha; cases ha)
    · rwa [isB_lt (by omega)] at h
  obtain ⟨h1, h2, h3, h4⟩ := nx_spec H hb
  have h5 := floorB_none T s a
  refine ceilB_eq (Nat.le_of_lt ha) ?_ (fun j h6 h7 => h3 j (by omega) h7) h2 h4
  rcases Nat.lt_or_ge (floorB T s a + nx T (s.drop (floorB T s a))) a with h6 | h6
  · have h8 := h5 _ h1 (Nat.le_of_lt h6)
    rw [isB_lt (by omega)] at h8
    rcases h4 with h4 | h4
    · omega
    · rw [h8] at h4; cases h4
  · exact h6
theorem floorI_nonpos {T : Tab} {s : List Int} {a : Int} (h : a ≤ 0) : floorI T s a = 0 := by unfold floorI; rw [if_pos h]
theorem floorI_big {T : Tab} {s : List Int} {a : Int} (h : ¬ a ≤ 0) (h2 : (s.length : Int) ≤ a) : floorI T s a = s.length := by unfold floorI; rw [if_neg h, if_pos h2]
theorem floorI_mid {T : Tab} {s : List Int} {a : Nat} (h : 0 < a) (h2 : a < s.length) : floorI T s (a : Int) = floorB T s a := by unfold floorI; rw [if_neg (by omega), if_neg (by omega)]; rfl
theorem ceilI_nonpos {T : Tab} {s : List Int} {a : Int} (h : a ≤ 0) : ceilI T s a = 0 := by unfold ceilI; rw [if_pos h]
theorem ceilI_big {T : Tab} {s : List Int} {a : Int} (h : ¬ a ≤ 0) (h2 : (s.length : Int) ≤ a) : ceilI T s a = s.length := by unfold ceilI; rw [if_neg h, if_pos h2]
theorem ceilI_mid {T : Tab} {s : List Int} {a : Nat} (h : 0 < a) (h2 : a < s.length) : ceilI T s (a : Int) = ceilB T s a := by unfold ceilI; rw [if_neg (by omega), if_neg (by omega)]; rfl
theorem floorI_le (T : Tab) (s : List Int) (a : Int) : floorI T s a ≤ s.length := by
  unfold floorI
  split
  · exact Nat.zero_le _
  · split
    · exact Nat.le_refl _
    · have := floorB_le T s a.toNat; omega
theorem floorI_self {T : Tab} {s : List Int} {a : Int} : ¬ a ≤ 0 → a < s.length → (floorI T s a : Int) ≤ a := fun h1 h2 => by
  unfold floorI
  rw [if_neg h1, if_neg (by omega)]
  have := floorB_le T s a.toNat; omega
end Go.Proofs.YthlpelfogplomaaGreat

/- back: hangs, sure. -/
namespace Go.Proofs.YthlpelfogplomaaGreat
open Go.RowKit

section
variable {R : List Rw} {s : List Int} {w : World} {sv : Value} {tp : Nat}
end
end Go.Proofs.YthlpelfogplomaaGreat

/- back.sure. -/
namespace Go.Proofs.YthlpelfogplomaaGreat
open Go.RowKit

section
variable {R : List Rw} {s : List Int} {w : World} {sv : Value} {tp : Nat}
end
end Go.Proofs.YthlpelfogplomaaGreat

/- back: Floor, Ceil, Prev, Next; the document's floor, ceil. -/
namespace Go.Proofs.YthlpelfogplomaaGreat
open Go.RowKit

section
variable {R : List Rw} {s : List Int} {w : World} {v sv : Value} {tp : Nat}
end
end Go.Proofs.YthlpelfogplomaaGreat

/- back: Prev, Next; the document's floor, ceil; chapter 11's example. -/
namespace Go.Proofs.YthlpelfogplomaaGreat
open Go.RowKit

/-- the last boundary ahead of a place -/
def prevI (T : Tab) (s : List Int) (a : Int) : Nat := floorI T s (max (min a ((s.length : Int) + 1)) 0 - 1)
/-- the first one behind it -/
def nextI (T : Tab) (s : List Int) (a : Int) : Nat := if (s.length : Int) ≤ a then s.length else ceilI T s (max a (-1) + 1)
theorem floorI_clamp {T : Tab} {s : List Int} {a : Int} (h : (s.length : Int) ≤ a) (h0 : 0 < a) : floorI T s a = s.length := floorI_big (by omega) h
theorem floorI_all {T : Tab} {s : List Int} {a : Int} {n : Nat} (hn : n = if a ≤ 0 then 0 else if (s.length : Int) ≤ a then s.length else a.toNat) : floorI T s a = floorB T s n := by
  unfold floorI
  by_cases h : a ≤ 0
  · rw [if_pos h] at hn ⊢; rw [hn]; rfl
  · rw [if_neg h] at hn ⊢
    by_cases h2 : (s.length : Int) ≤ a
    · rw [if_pos h2] at hn ⊢
      rw [hn]
      exact (floorB_eq (Nat.le_refl _) (.inr (isB_len T s)) fun j h1 h2 => by omega).symm
    · rw [if_neg h2] at hn ⊢; rw [hn]
theorem ceilI_all {T : Tab} {s : List Int} {a : Int} {n : Nat} (hn : n = if a ≤ 0 then 0 else if (s.length : Int) ≤ a then s.length else a.toNat) : n ≤ s.length ∧ ceilI T s a = ceilB T s n := by
  unfold ceilI
  by_cases h : a ≤ 0
  · rw [if_pos h] at hn ⊢
    subst hn
    refine ⟨Nat.zero_le _, ?_⟩
    cases s with
    | nil => rfl
    | cons x l => rw [ceilB_step (by simp), begAt_zero T (by simp)]; rfl
  · rw [if_neg h] at hn ⊢
    by_cases h2 : (s.length : Int) ≤ a
    · rw [if_pos h2] at hn ⊢
      rw [hn]
      exact ⟨Nat.le_refl _, (ceilB_len T s).symm⟩
    · rw [if_neg h2] at hn ⊢; rw [hn]; exact ⟨by omega, rfl⟩
section
variable {R : List Rw} {s : List Int} {w : World} {v sv : Value} {tp : Nat}
end
end Go.Proofs.YthlpelfogplomaaGreat

/- From beginning to beginning, plainly. -/
namespace Go.Proofs.YthlpelfogplomaaGreat

theorem sorted_between {S : List Nat} (hs : S.Pairwise (· < ·)) {i q q' : Nat} (h : S[i]? = some q) (h' : S[i + 1]? = some q') : q < q' ∧ ∀ j ∈ S, ¬ (q < j ∧ j < q') := by
  rw [List.pairwise_iff_getElem] at hs
  obtain ⟨a1, a2⟩ := List.getElem?_eq_some_iff.1 h
  obtain ⟨b1, b2⟩ := List.getElem?_eq_some_iff.1 h'
  refine ⟨by have := hs i (i + 1) a1 b1 (by omega); omega, fun j hj hq => ?_⟩
  obtain ⟨k, hk⟩ := List.mem_iff_getElem?.1 hj
  obtain ⟨c1, c2⟩ := List.getElem?_eq_some_iff.1 hk
  rcases Nat.lt_trichotomy k i with h | h | h
  · have := hs k i c1 a1 h; omega
  · subst h; omega
  · rcases Nat.lt_trichotomy k (i + 1) with h2 | h2 | h2
    · omega
    · subst h2; omega
    · have := hs (i + 1) k b1 c1 h2; omega
theorem sorted_last {S : List Nat} (hs : S.Pairwise (· < ·)) {i q : Nat} (h : S[i]? = some q) (hl : i + 1 = S.length) : ∀ j ∈ S, j ≤ q := by
  rw [List.pairwise_iff_getElem] at hs
  obtain ⟨a1, a2⟩ := List.getElem?_eq_some_iff.1 h
  intro j hj
  obtain ⟨k, hk⟩ := List.mem_iff_getElem?.1 hj
  obtain ⟨c1, c2⟩ := List.getElem?_eq_some_iff.1 hk
  rcases Nat.lt_trichotomy k i with h | h | h
  · have := hs k i c1 a1 h; omega
  · subst h; omega
  · omega
section
variable {T : Tab} {s : List Int} {i q q' : Nat}
theorem begF {T : Tab} {s : List Int} {j : Nat} (h : j ∉ starts T s) : begAt T s j = false := by
  cases hb : begAt T s j with
  | false => rfl
  | true => exact absurd ((starts_mem T s j).2 hb) h
theorem next_start (h : (starts T s)[i]? = some q) (h' : (starts T s)[i + 1]? = some q') : nextI T s (q : Int) = q' := by
  obtain ⟨hlt, hno⟩ := sorted_between (starts_sorted T s) h h'
  have hb' := (starts_mem T s q').1 (List.mem_of_getElem? h')
  have hl' := begAt_lt hb'
  unfold nextI
  rw [if_neg (by omega), show max (q : Int) (-1) + 1 = ((q + 1 : Nat) : Int) by omega, ceilI_mid (by omega) (by omega)]
  exact ceilB_eq (by omega) (by omega) (fun j h1 h2 => begF fun hm => hno j hm ⟨by omega, h2⟩) (by omega) (.inr hb')
theorem next_last (h : (starts T s)[i]? = some q) (hl : i + 1 = (starts T s).length) : nextI T s (q : Int) = s.length := by
  have hmax := sorted_last (starts_sorted T s) h hl
  have hq := begAt_lt ((starts_mem T s q).1 (List.mem_of_getElem? h))
  unfold nextI
  rw [if_neg (by omega), show max (q : Int) (-1) + 1 = ((q + 1 : Nat) : Int) by omega]
  by_cases he : q + 1 = s.length
  · rw [ceilI_big (by omega) (by omega)]
  · rw [ceilI_mid (by omega) (by omega)]
    exact ceilB_eq (by omega) (by omega) (fun j h1 h2 => begF fun hm => by have := hmax j hm; omega) (Nat.le_refl _) (.inl rfl)
theorem prev_start (h : (starts T s)[i]? = some q) (h' : (starts T s)[i + 1]? = some q') : prevI T s (q' : Int) = q := by
  obtain ⟨hlt, hno⟩ := sorted_between (starts_sorted T s) h h'
  have hb := (starts_mem T s q).1 (List.mem_of_getElem? h)
  have hl' := begAt_lt ((starts_mem T s q').1 (List.mem_of_getElem? h'))
  unfold prevI
  rw [show max (min (q' : Int) ((s.length : Int) + 1)) 0 - 1 = ((q' - 1 : Nat) : Int) by omega]
  by_cases h0 : q' - 1 = 0
  · rw [floorI_nonpos (by omega)]; omega
  · rw [floorI_mid (by omega) (by omega)]
    exact floorB_eq (by omega) (.inr (by rw [isB_lt (by omega)]; exact hb)) fun j h1 h2 => by
      rw [isB_lt (by omega)]; exact begF fun hm => hno j hm ⟨h1, by omega⟩
theorem prev_last (h : (starts T s)[i]? = some q) (hl : i + 1 = (starts T s).length) : prevI T s (s.length : Int) = q := by
  have hmax := sorted_last (starts_sorted T s) h hl
  have hb := (starts_mem T s q).1 (List.mem_of_getElem? h)
  have hq := begAt_lt hb
  unfold prevI
  rw [show max (min (s.length : Int) ((s.length : Int) + 1)) 0 - 1 = ((s.length - 1 : Nat) : Int) by omega]
  by_cases h0 : s.length - 1 = 0
  · rw [floorI_nonpos (by omega)]; omega
  · rw [floorI_mid (by omega) (by omega)]
    exact floorB_eq (by omega) (.inr (by rw [isB_lt (by omega)]; exact hb)) fun j h1 h2 => by
      rw [isB_lt (by omega)]; exact begF fun hm => by have := hmax j hm; omega
theorem start_zero (h : (starts T s)[0]? = some q) : q = 0 := by
  cases s with
  | nil => simp [starts, startsB] at h
  | cons x l => simp [starts, startsB, begB] at h; exact h.symm
theorem starts_nil_iff : starts T s = [] ↔ s = [] := by
  cases s with
  | nil => simp [starts, startsB]
  | cons x l => simp [starts, startsB, begB]
end
end Go.Proofs.YthlpelfogplomaaGreat

/- Words, plainly. -/
namespace Go.Proofs.YthlpelfogplomaaGreat

/-- is the scalar at a place a letter? -/
def insR (R : List Rw) (s : List Int) (i : Nat) : Bool := match s[i]? with
  | some x => decide (ofA R 8 x = 1)
  | none => false
theorem insR_some {R : List Rw} {s : List Int} {i : Nat} {x : Int} (h : s[i]? = some x) : insR R s i = decide (ofA R 8 x = 1) := by unfold insR; rw [h]
theorem insR_big {R : List Rw} {s : List Int} {i : Nat} (h : s.length ≤ i) : insR R s i = false := by unfold insR; rw [List.getElem?_eq_none h]
theorem insR_lt {R : List Rw} {s : List Int} {i : Nat} (h : insR R s i = true) : i < s.length := by
  by_cases hi : i < s.length
  · exact hi
  · rw [insR_big (by omega)] at h; cases h
def nxt (T : Tab) (s : List Int) (b : Nat) : Nat := b + nx T (s.drop b)
theorem nxt_gt (T : Tab) {s : List Int} {b : Nat} (h : b < s.length) : b < nxt T s b := by
  have := nx_pos T (s := s.drop b) (fun e => by have := congrArg List.length e; rw [List.length_drop] at this; simp at this; omega)
  unfold nxt; omega
theorem nxt_le (T : Tab) {s : List Int} {b : Nat} (h : b ≤ s.length) : nxt T s b ≤ s.length := by
  have := nx_le T (s.drop b); rw [List.length_drop] at this
  unfold nxt; omega

section
variable (n : Nat) (nt : Nat → Nat) (ins : Nat → Bool)
/-- where a run of parts of words ends -/
def runE (b : Nat) : Nat := if _h : b < n ∧ b < nt b ∧ ins b = true then runE (nt b) else b
termination_by n - b
decreasing_by omega
/-- where the next part of a word is -/
def skp (b : Nat) : Nat := if _h : b < n ∧ b < nt b ∧ ins b = false then skp (nt b) else b
termination_by n - b
decreasing_by omega
/-- the words from a place on -/
def wrds (b : Nat) : List (Nat × Nat) := if _h : b < n ∧ b < runE n nt ins b then (b, runE n nt ins b) :: wrds (runE n nt ins b) else if _h2 : b < n ∧ b < nt b then wrds (nt b) else []
termination_by n - b
decreasing_by all_goals omega
def upd (out : List (Nat × Nat)) (a e : Nat) : List (Nat × Nat) := match out.getLast? with
  | some y => if y.2 = a then out.dropLast ++ [(y.1, e)] else out ++ [(a, e)]
  | none => out ++ [(a, e)]
/-- the words, cluster by cluster -/
def refW (out : List (Nat × Nat)) (b : Nat) : List (Nat × Nat) := if _h : b < n ∧ b < nt b then (if ins b = true then refW (upd out b (nt b)) (nt b) else refW out (nt b)) else out
termination_by n - b
decreasing_by all_goals omega
end
section
variable {n : Nat} {nt : Nat → Nat} {ins : Nat → Bool} {b : Nat}
theorem runE_step (h1 : b < n) (h2 : b < nt b) (h3 : ins b = true) : runE n nt ins b = runE n nt ins (nt b) := by rw [runE, dif_pos ⟨h1, h2, h3⟩]
theorem runE_stop (h : ins b = false) : runE n nt ins b = b := by rw [runE, dif_neg (fun e => by rw [h] at e; cases e.2.2)]
theorem runE_end (h : ¬ b < n) : runE n nt ins b = b := by rw [runE, dif_neg (fun e => h e.1)]
theorem skp_step (h1 : b < n) (h2 : b < nt b) (h3 : ins b = false) : skp n nt ins b = skp n nt ins (nt b) := by rw [skp, dif_pos ⟨h1, h2, h3⟩]
theorem skp_stop (h : ins b = true) : skp n nt ins b = b := by rw [skp, dif_neg (fun e => by rw [h] at e; cases e.2.2)]
theorem skp_end (h : ¬ b < n) : skp n nt ins b = b := by rw [skp, dif_neg (fun e => h e.1)]
theorem runE_ge : ∀ m, ∀ b, n - b = m → b ≤ runE n nt ins b := by
  intro m
  induction m using Nat.strongRecOn with
  | _ m ih =>
    intro b hm
    rw [runE]
    split
    · rename_i h
      have := ih (n - nt b) (by omega) (nt b) rfl
      omega
    · exact Nat.le_refl _
theorem runE_gt (h1 : b < n) (h2 : b < nt b) (h3 : ins b = true) : b < runE n nt ins b := by
  rw [runE_step h1 h2 h3]
  have := runE_ge (n := n) (nt := nt) (ins := ins) _ (nt b) rfl
  omega
theorem wrds_in (h1 : b < n) (h2 : b < nt b) (h3 : ins b = true) : wrds n nt ins b = (b, runE n nt ins b) :: wrds n nt ins (runE n nt ins b) := by
  rw [wrds, dif_pos ⟨h1, runE_gt h1 h2 h3⟩]
theorem wrds_out (h1 : b < n) (h2 : b < nt b) (h3 : ins b = false) : wrds n nt ins b = wrds n nt ins (nt b) := by
  rw [wrds, dif_neg (fun e => by rw [runE_stop h3] at e; omega), dif_pos ⟨h1, h2⟩]
theorem wrds_end (h : ¬ b < n) : wrds n nt ins b = [] := by
  rw [wrds, dif_neg (fun e => h e.1), dif_neg (fun e => h e.1)]
theorem upd_nil (a e : Nat) : upd [] a e = [(a, e)] := rfl
theorem upd_same (o : List (Nat × Nat)) (f a e : Nat) : upd (o ++ [(f, a)]) a e = o ++ [(f, e)] := by
  unfold upd; rw [List.getLast?_concat, List.dropLast_concat]; simp
theorem upd_other (o : List (Nat × Nat)) (f a' a e : Nat) (h : a' ≠ a) : upd (o ++ [(f, a')]) a e = (o ++ [(f, a')]) ++ [(a, e)] := by
  unfold upd; rw [List.getLast?_concat]; simp [h]
theorem refW_in {out : List (Nat × Nat)} (h1 : b < n) (h2 : b < nt b) (h3 : ins b = true) : refW n nt ins out b = refW n nt ins (upd out b (nt b)) (nt b) := by
  rw [refW, dif_pos ⟨h1, h2⟩, if_pos h3]
theorem refW_out {out : List (Nat × Nat)} (h1 : b < n) (h2 : b < nt b) (h3 : ins b = false) : refW n nt ins out b = refW n nt ins out (nt b) := by
  rw [refW, dif_pos ⟨h1, h2⟩, if_neg (by rw [h3]; decide)]
theorem refW_end {out : List (Nat × Nat)} (h : ¬ b < n) : refW n nt ins out b = out := by
  rw [refW, dif_neg (fun e => h e.1)]
/-- no word is open at a place -/
def Shut (out : List (Nat × Nat)) (b : Nat) : Prop := out = [] ∨ ∃ o f a, out = o ++ [(f, a)] ∧ a < b
theorem Shut.later {out : List (Nat × Nat)} {b c : Nat} (h : Shut out b) (hc : b ≤ c) : Shut out c := by
  rcases h with h | ⟨o, f, a, h, ha⟩
  · exact .inl h
  · exact .inr ⟨o, f, a, h, by omega⟩
theorem Shut.upd {out : List (Nat × Nat)} {b : Nat} (h : Shut out b) (e : Nat) : upd out b e = out ++ [(b, e)] := by
  rcases h with rfl | ⟨o, f, a, rfl, ha⟩
  · rfl
  · exact upd_other o f a b e (by omega)
theorem refW_wrds (hn : ∀ b, b < n → b < nt b) : ∀ m b, n - b = m → (∀ out, Shut out b → refW n nt ins out b = out ++ wrds n nt ins b) ∧ (∀ o f, refW n nt ins (o ++ [(f, b)]) b = o ++ (f, runE n nt ins b) :: wrds n nt ins (runE n nt ins b)) := by
  intro m
  induction m using Nat.strongRecOn with
  | _ m ih =>
    intro b hm
    by_cases hb : b < n
    · have h2 := hn b hb
      obtain ⟨iA, iB⟩ := ih (n - nt b) (by omega) (nt b) rfl
      cases hi : ins b with
      | true =>
        refine ⟨fun out hs => ?_, fun o f => ?_⟩
        · rw [refW_in hb h2 hi, hs.upd, iB, wrds_in hb h2 hi, runE_step hb h2 hi]
        · rw [refW_in hb h2 hi, upd_same, iB, runE_step hb h2 hi]
      | false =>
        refine ⟨fun out hs => ?_, fun o f => ?_⟩
        · rw [refW_out hb h2 hi, iA _ (hs.later (by omega)), wrds_out hb h2 hi]
        · rw [refW_out hb h2 hi, iA _ (.inr ⟨o, f, b, rfl, h2⟩), runE_stop hi, wrds_out hb h2 hi, List.append_assoc]; rfl
    · refine ⟨fun out hs => ?_, fun o f => ?_⟩
      · rw [refW_end hb, wrds_end hb, List.append_nil]
      · rw [refW_end hb, runE_end hb, wrds_end hb]
theorem words_same (hn : ∀ b, b < n → b < nt b) : refW n nt ins [] 0 = wrds n nt ins 0 := (refW_wrds hn _ 0 rfl).1 [] (.inl rfl)
end
/-- the last word's beginning, going back -/
def bck (prv : Nat → Nat) (ins : Nat → Bool) (b : Nat) (wi : Bool) : Nat := if _h : 0 < b ∧ prv b < b then (if (wi && !ins (prv b)) = true then b else bck prv ins (prv b) (wi || ins (prv b))) else b
termination_by b
decreasing_by omega
theorem bck_stop {prv : Nat → Nat} {ins : Nat → Bool} {b : Nat} (h : 0 < b) (h2 : prv b < b) (h3 : ins (prv b) = false) : bck prv ins b true = b := by
  rw [bck, dif_pos ⟨h, h2⟩, h3]; rfl
theorem bck_in {prv : Nat → Nat} {ins : Nat → Bool} {b : Nat} {wi : Bool} (h : 0 < b) (h2 : prv b < b) (h3 : ins (prv b) = true) : bck prv ins b wi = bck prv ins (prv b) true := by
  rw [bck, dif_pos ⟨h, h2⟩, h3]; simp
theorem bck_out {prv : Nat → Nat} {ins : Nat → Bool} {b : Nat} (h : 0 < b) (h2 : prv b < b) (h3 : ins (prv b) = false) : bck prv ins b false = bck prv ins (prv b) false := by
  rw [bck, dif_pos ⟨h, h2⟩, h3]; simp
theorem bck_zero {prv : Nat → Nat} {ins : Nat → Bool} {wi : Bool} : bck prv ins 0 wi = 0 := by
  rw [bck, dif_neg (by omega)]
def prv (T : Tab) (s : List Int) (b : Nat) : Nat := prevI T s (b : Int)
theorem prv_lt (T : Tab) {s : List Int} {b : Nat} (h : 0 < b) (hb : b ≤ s.length) : prv T s b < b := by
  unfold prv prevI
  rw [show max (min (b : Int) ((s.length : Int) + 1)) 0 - 1 = ((b - 1 : Nat) : Int) by omega]
  by_cases h0 : b - 1 = 0
  · rw [floorI_nonpos (by omega)]; omega
  · rw [floorI_mid (by omega) (by omega)]
    have := floorB_le T s (b - 1)
    omega
theorem ceilI_le (T : Tab) (s : List Int) (a : Int) : ceilI T s a ≤ s.length := by
  by_cases h : a ≤ 0
  · rw [ceilI_nonpos h]; exact Nat.zero_le _
  · by_cases h2 : (s.length : Int) ≤ a
    · rw [ceilI_big h h2]; exact Nat.le_refl _
    · obtain ⟨i, rfl⟩ : ∃ i : Nat, a = (i : Int) := ⟨a.toNat, by omega⟩
      rw [ceilI_mid (by omega) (by omega)]
      exact (ceilB_spec T s (by omega)).2.1
theorem ceilI_beg {T : Tab} {s : List Int} {b : Nat} (h : begAt T s b = true) : ceilI T s (b : Int) = b := by
  have hl := begAt_lt h
  by_cases h0 : b = 0
  · subst h0; exact ceilI_nonpos (Int.le_refl _)
  · rw [ceilI_mid (by omega) hl]
    exact ceilB_eq (by omega) (Nat.le_refl _) (fun j h1 h2 => by omega) (by omega) (.inr h)
/-- where the next word ends -/
def fwdI (R : List Rw) (s : List Int) (a : Int) : Nat := runE s.length (nxt (tabOf R) s) (insR R s) (skp s.length (nxt (tabOf R) s) (insR R s) (ceilI (tabOf R) s a))
/-- where the last word begins -/
def bckI (R : List Rw) (s : List Int) (a : Int) : Nat := bck (prv (tabOf R) s) (insR R s) (floorI (tabOf R) s a) false
def wrdsR (R : List Rw) (s : List Int) : List (Nat × Nat) := wrds s.length (nxt (tabOf R) s) (insR R s) 0
end Go.Proofs.YthlpelfogplomaaGreat

/- Chapter 11's example; BackPrev: its walk. -/
namespace Go.Proofs.YthlpelfogplomaaGreat
open Go.RowKit

/-- chapter 11's text: where its clusters begin -/
theorem ex11_beg {R : List Rw} (HF : RFacts R) (j : Nat) : begAt (tabOf R) [97, 127462, 127463, 127464] j = true ↔ j = 0 ∨ j = 1 ∨ j = 3 := by
  rw [← starts_mem, HF.seg.ex5]; simp
theorem ex11_begF {R : List Rw} (HF : RFacts R) (j : Nat) (h : ¬ (j = 0 ∨ j = 1 ∨ j = 3)) : begAt (tabOf R) [97, 127462, 127463, 127464] j = false := by
  cases hb : begAt (tabOf R) [97, 127462, 127463, 127464] j with
  | false => rfl
  | true => exact absurd ((ex11_beg HF j).1 hb) h
theorem ex11_floor {R : List Rw} (HF : RFacts R) : floorI (tabOf R) [97, 127462, 127463, 127464] 2 = 1 := by
  rw [show (2 : Int) = ((2 : Nat) : Int) from rfl, floorI_mid (by decide) (by decide)]
  refine floorB_eq (by decide) (.inr (by rw [isB_lt (by decide)]; exact (ex11_beg HF 1).2 (by simp))) fun j h1 h2 => ?_
  have : j = 2 := by omega
  subst this
  rw [isB_lt (by decide)]
  exact ex11_begF HF 2 (by omega)
theorem ex11_prev {R : List Rw} (HF : RFacts R) : prevI (tabOf R) [97, 127462, 127463, 127464] 3 = 1 := ex11_floor HF
theorem ex11_ceil {R : List Rw} (HF : RFacts R) : ceilI (tabOf R) [97, 127462, 127463, 127464] 2 = 3 := by
  rw [show (2 : Int) = ((2 : Nat) : Int) from rfl, ceilI_mid (by decide) (by decide)]
  refine ceilB_eq (by decide) (by decide) (fun j h1 h2 => ?_) (by decide) (.inr ((ex11_beg HF 3).2 (by simp)))
  have : j = 2 := by omega
  subst this
  exact ex11_begF HF 2 (by omega)
theorem ex11_next {R : List Rw} (HF : RFacts R) : nextI (tabOf R) [97, 127462, 127463, 127464] 0 = 1 := by
  show ceilI (tabOf R) [97, 127462, 127463, 127464] ((1 : Nat) : Int) = 1
  rw [ceilI_mid (by decide) (by decide)]
  exact ceilB_eq (by decide) (by decide) (fun j h1 h2 => by omega) (by decide) (.inr ((ex11_beg HF 1).2 (by simp)))
theorem prevI_cases (T : Tab) (s : List Int) (a : Int) : (prevI T s a : Int) = if a > 0 then (if a > (s.length : Int) then (s.length : Int) else (floorI T s (a - 1) : Int)) else 0 := by
  unfold prevI
  by_cases h : a > 0
  · rw [if_pos h]
    by_cases h2 : a > (s.length : Int)
    · rw [if_pos h2]
      by_cases h3 : s.length = 0
      · have hle := floorI_le T s (max (min a ((s.length : Int) + 1)) 0 - 1)
        omega
      · rw [floorI_big (by omega) (by omega)]
    · rw [if_neg h2]
      have : max (min a ((s.length : Int) + 1)) 0 - 1 = a - 1 := by omega
      rw [this]
  · rw [if_neg h, floorI_nonpos (by omega)]; rfl
theorem nextI_cases (T : Tab) (s : List Int) (a : Int) : (nextI T s a : Int) = if a < (s.length : Int) then (if a ≥ 0 then (ceilI T s (a + 1) : Int) else (ceilI T s 0 : Int)) else (s.length : Int) := by
  unfold nextI
  by_cases h : a < (s.length : Int)
  · rw [if_pos h, if_neg (by omega)]
    by_cases h2 : a ≥ 0
    · rw [if_pos h2]
      have : max a (-1) + 1 = a + 1 := by omega
      rw [this]
    · rw [if_neg h2, ceilI_nonpos (by omega), ceilI_nonpos (Int.le_refl _)]
  · rw [if_neg h, if_pos (by omega)]
end Go.Proofs.YthlpelfogplomaaGreat

/- BackFloors: its walk. -/
namespace Go.Proofs.YthlpelfogplomaaGreat
open Go.RowKit

/-- is a place a boundary? -/
def isI (T : Tab) (s : List Int) (a : Int) : Bool := decide (0 ≤ a) && (decide (a ≤ (s.length : Int)) && isB T s a.toNat)
section
variable {R : List Rw} {s : List Int} {w : World} {v sv : Value} {tp : Nat}
end
end Go.Proofs.YthlpelfogplomaaGreat

/- Words: what going from word to word says of the list, plainly. -/
namespace Go.Proofs.YthlpelfogplomaaGreat

/-- z is the first end behind c; n, if there is none -/
def IsFirst (L : List (Nat × Nat)) (n c z : Nat) : Prop := (z = n ∧ ∀ x ∈ L, ¬ c < x.2) ∨ ((∃ x ∈ L, x.2 = z) ∧ c < z ∧ ∀ x ∈ L, c < x.2 → z ≤ x.2)
/-- z is the last beginning ahead of c; 0, if there is none -/
def IsLast (L : List (Nat × Nat)) (c z : Nat) : Prop := (z = 0 ∧ ∀ x ∈ L, ¬ x.1 < c) ∨ ((∃ x ∈ L, x.1 = z) ∧ z < c ∧ ∀ x ∈ L, x.1 < c → x.1 ≤ z)
theorem runE_bd2 {n : Nat} {nt : Nat → Nat} {ins : Nat → Bool} {P : Nat → Prop} (hP : ∀ b, b < n → P b → P (nt b)) : ∀ m b, n - b = m → P b → P (runE n nt ins b) := by
  intro m
  induction m using Nat.strongRecOn with
  | _ m ih =>
    intro b hm hb
    rw [runE]
    split
    · rename_i h
      exact ih (n - nt b) (by omega) (nt b) rfl (hP b h.1 hb)
    · exact hb
theorem runE_bd' {n : Nat} {nt : Nat → Nat} {ins : Nat → Bool} (hN : ∀ b, b < n → nt b ≤ n) (m b : Nat) (hm : n - b = m) (hb : b ≤ n) : runE n nt ins b ≤ n := runE_bd2 (P := fun b => b ≤ n) (fun b h _ => hN b h) m b hm hb
section
variable {n : Nat} {nt pv : Nat → Nat} {ins : Nat → Bool} {B : Nat → Prop}
theorem wrds_ends (hn : ∀ b, b < n → b < nt b) (hN : ∀ b, b < n → nt b ≤ n) : ∀ m b, n - b = m → b ≤ n → (∀ x ∈ wrds n nt ins b, b ≤ x.1 ∧ x.1 < x.2 ∧ x.2 ≤ n) ∧ (wrds n nt ins b).Pairwise (fun x y => x.2 ≤ y.1) := by
  intro m
  induction m using Nat.strongRecOn with
  | _ m ih =>
    intro b hm hb
    by_cases hlt : b < n
    · have h2 := hn b hlt
      cases hi : ins b with
      | true =>
        have hg := runE_gt hlt h2 hi
        have hr : runE n nt ins b ≤ n := runE_bd' hN _ b rfl hb
        obtain ⟨i1, i2⟩ := ih (n - runE n nt ins b) (by omega) (runE n nt ins b) rfl hr
        rw [wrds_in hlt h2 hi]
        refine ⟨fun x hx => ?_, List.pairwise_cons.2 ⟨fun y hy => (i1 y hy).1, i2⟩⟩
        rcases List.mem_cons.1 hx with rfl | hx
        · exact ⟨Nat.le_refl _, hg, hr⟩
        · have := i1 x hx; omega
      | false =>
        obtain ⟨i1, i2⟩ := ih (n - nt b) (by omega) (nt b) rfl (hN b hlt)
        rw [wrds_out hlt h2 hi]
        exact ⟨fun x hx => by have := i1 x hx; omega, i2⟩
    · rw [wrds_end hlt]
      exact ⟨fun x hx => by simp at hx, .nil⟩
theorem run_mid (hn : ∀ b, b < n → b < nt b) (hB : ∀ b, b < n → B b → B (nt b)) (hg : ∀ b c, b < n → B b → B c → b < c → nt b ≤ c) : ∀ m b c, n - b = m → B b → B c → b ≤ c → c < runE n nt ins b → ins c = true ∧ runE n nt ins c = runE n nt ins b := by
  intro m
  induction m using Nat.strongRecOn with
  | _ m ih =>
    intro b c hm hb hc hbc hcr
    have hlt : b < n := by
      by_cases h : b < n
      · exact h
      · rw [runE_end h] at hcr; omega
    have hi : ins b = true := by
      cases h : ins b with
      | true => rfl
      | false => rw [runE_stop h] at hcr; omega
    by_cases e : b = c
    · subst e; exact ⟨hi, rfl⟩
    · have h2 := hn b hlt
      have h3 := hg b c hlt hb hc (by omega)
      rw [runE_step hlt h2 hi] at hcr ⊢
      exact ih (n - nt b) (by omega) (nt b) c rfl (hB b hlt hb) hc h3 hcr
theorem run_out (hn : ∀ b, b < n → b < nt b) : ∀ m b, n - b = m → ins (runE n nt ins b) = false ∨ ¬ runE n nt ins b < n := by
  intro m
  induction m using Nat.strongRecOn with
  | _ m ih =>
    intro b hm
    by_cases hlt : b < n
    · cases hi : ins b with
      | true => rw [runE_step hlt (hn b hlt) hi]; exact ih (n - nt b) (by have := hn b hlt; omega) (nt b) rfl
      | false => rw [runE_stop hi]; exact .inl hi
    · rw [runE_end hlt]; exact .inr hlt
theorem fwd_first (hn : ∀ b, b < n → b < nt b) (hN : ∀ b, b < n → nt b ≤ n) (hB : ∀ b, b < n → B b → B (nt b)) (hg : ∀ b c, b < n → B b → B c → b < c → nt b ≤ c) : ∀ m b c, n - b = m → B b → B c → b ≤ c → c ≤ n → IsFirst (wrds n nt ins b) n c (runE n nt ins (skp n nt ins c)) := by
  intro m
  induction m using Nat.strongRecOn with
  | _ m ih =>
    intro b c hm hb hc hbc hcn
    by_cases hlt : b < n
    · have h2 := hn b hlt
      cases hi : ins b with
      | true =>
        have hgt := runE_gt hlt h2 hi
        have hrn : runE n nt ins b ≤ n := runE_bd' hN _ b rfl (by omega)
        have hBr : B (runE n nt ins b) := runE_bd2 hB _ b rfl hb
        rw [wrds_in hlt h2 hi]
        by_cases hcr : c < runE n nt ins b
        · obtain ⟨c1, c2⟩ := run_mid hn hB hg _ b c rfl hb hc hbc hcr
          rw [skp_stop c1, c2]
          refine .inr ⟨⟨_, List.mem_cons_self, rfl⟩, hcr, fun x hx _ => ?_⟩
          rcases List.mem_cons.1 hx with rfl | hx
          · exact Nat.le_refl _
          · have := (wrds_ends hn hN _ _ rfl hrn).1 x hx; omega
        · rcases ih (n - runE n nt ins b) (by omega) (runE n nt ins b) c rfl hBr hc (by omega) hcn with ⟨h, k⟩ | ⟨⟨y, hy, hz⟩, h, k⟩
          · refine .inl ⟨h, fun x hx => ?_⟩
            rcases List.mem_cons.1 hx with rfl | hx
            · exact hcr
            · exact k x hx
          · refine .inr ⟨⟨y, List.mem_cons_of_mem _ hy, hz⟩, h, fun x hx hcx => ?_⟩
            rcases List.mem_cons.1 hx with rfl | hx
            · exact absurd hcx hcr
            · exact k x hx hcx
      | false =>
        rw [wrds_out hlt h2 hi]
        by_cases e : b = c
        · subst e
          have hE := (wrds_ends (ins := ins) hn hN _ (nt b) rfl (hN b hlt)).1
          rw [skp_step hlt h2 hi]
          rcases ih (n - nt b) (by omega) (nt b) (nt b) rfl (hB b hlt hb) (hB b hlt hb) (Nat.le_refl _) (hN b hlt) with ⟨h, k⟩ | ⟨hz, h, k⟩
          · exact .inl ⟨h, fun x hx _ => k x hx (by have := hE x hx; omega)⟩
          · exact .inr ⟨hz, by omega, fun x hx _ => k x hx (by have := hE x hx; omega)⟩
        · exact ih (n - nt b) (by omega) (nt b) c rfl (hB b hlt hb) hc (hg b c hlt hb hc (by omega)) hcn
    · have : c = n := by omega
      subst this
      rw [skp_end (by omega), runE_end (by omega), wrds_end (by omega)]
      exact .inl ⟨rfl, fun x hx => by simp at hx⟩
/-- where words begin -/
theorem begs_is (hn : ∀ b, b < n → b < nt b) (_ : ∀ b, b < n → nt b ≤ n) (hB : ∀ b, b < n → B b → B (nt b)) (hg : ∀ b c, b < n → B b → B c → b < c → nt b ≤ c)
    (hp : ∀ c, B c → 0 < c → B (pv c) ∧ pv c < c ∧ nt (pv c) = c) (_ : ∀ b, B b → b ≤ n) : ∀ m b, n - b = m → B b → ∀ z, (∃ x ∈ wrds n nt ins b, x.1 = z) ↔ (B z ∧ b ≤ z ∧ z < n ∧ ins z = true ∧ (z = b ∨ ins (pv z) = false)) := by
  have hpn : ∀ b, b < n → B b → pv (nt b) = b := by
    intro b hlt hb
    have h2 := hn b hlt
    obtain ⟨p1, p2, p3⟩ := hp (nt b) (hB b hlt hb) (by omega)
    rcases Nat.lt_trichotomy (pv (nt b)) b with h | h | h
    · have := hg _ b (by omega) p1 hb h; omega
    · exact h
    · have := hg b _ hlt hb p1 h; omega
  intro m
  induction m using Nat.strongRecOn with
  | _ m ih =>
    intro b hm hb z
    by_cases hlt : b < n
    · have h2 := hn b hlt
      cases hi : ins b with
      | true =>
        have hgt := runE_gt hlt h2 hi
        have hBr : B (runE n nt ins b) := runE_bd2 hB _ b rfl hb
        have hout := run_out (ins := ins) hn _ b rfl
        have hI := ih (n - runE n nt ins b) (by omega) (runE n nt ins b) rfl hBr z
        rw [wrds_in hlt h2 hi]
        constructor
        · rintro ⟨x, hx, rfl⟩
          rcases List.mem_cons.1 hx with rfl | hx
          · exact ⟨hb, Nat.le_refl _, hlt, hi, .inl rfl⟩
          · obtain ⟨q1, q2, q3, q4, q5⟩ := hI.1 ⟨x, hx, rfl⟩
            refine ⟨q1, by omega, q3, q4, .inr ?_⟩
            rcases q5 with q5 | q5
            · rcases hout with h | h
              · rw [q5, h] at q4; cases q4
              · omega
            · exact q5
        · rintro ⟨q1, q2, q3, q4, q5⟩
          by_cases e : z = b
          · exact ⟨_, List.mem_cons_self, e.symm⟩
          · have q5' := q5.resolve_left e
            have hz : ¬ z < runE n nt ins b := by
              intro hz
              obtain ⟨p1, p2, p3⟩ := hp z q1 (by omega)
              have hbp : b ≤ pv z := by
                by_cases h : b ≤ pv z
                · exact h
                · have := hg (pv z) b (by omega) p1 hb (by omega); omega
              have := (run_mid (ins := ins) hn hB hg _ b (pv z) rfl hb p1 hbp (by omega)).1
              rw [this] at q5'; cases q5'
            obtain ⟨x, hx, hxz⟩ := hI.2 ⟨q1, by omega, q3, q4, .inr q5'⟩
            exact ⟨x, List.mem_cons_of_mem _ hx, hxz⟩
      | false =>
        rw [wrds_out hlt h2 hi, ih (n - nt b) (by omega) (nt b) rfl (hB b hlt hb) z]
        constructor
        · rintro ⟨q1, q2, q3, q4, q5⟩
          refine ⟨q1, by omega, q3, q4, .inr ?_⟩
          rcases q5 with q5 | q5
          · rw [q5, hpn b hlt hb, hi]
          · exact q5
        · rintro ⟨q1, q2, q3, q4, q5⟩
          have e : z ≠ b := fun e => by rw [e, hi] at q4; cases q4
          exact ⟨q1, hg b z hlt hb q1 (by omega), q3, q4, .inr (q5.resolve_left e)⟩
    · rw [wrds_end hlt]
      constructor
      · rintro ⟨x, hx, _⟩; simp at hx
      · rintro ⟨q1, q2, q3, _⟩; omega
theorem bck_last (hn : ∀ b, b < n → b < nt b) (hN : ∀ b, b < n → nt b ≤ n) (hB : ∀ b, b < n → B b → B (nt b)) (hg : ∀ b c, b < n → B b → B c → b < c → nt b ≤ c)
    (hp : ∀ c, B c → 0 < c → B (pv c) ∧ pv c < c ∧ nt (pv c) = c) (hBn : ∀ b, B b → b ≤ n) (hB0 : B 0) (c : Nat) (hc : B c) : IsLast (wrds n nt ins 0) c (bck pv ins c false) := by
  have hbeg := begs_is (ins := ins) hn hN hB hg hp hBn _ 0 rfl hB0
  generalize wrds n nt ins 0 = W at hbeg
  have skip : ∀ p z, B p → p < n → (¬ ∃ x ∈ W, x.1 = p) → IsLast W p z → IsLast W (nt p) z := by
    intro p z hp1 hpn hno h
    have key : ∀ x ∈ W, x.1 < nt p → x.1 < p := by
      intro x hx hxn
      have hBx := ((hbeg x.1).1 ⟨x, hx, rfl⟩).1
      rcases Nat.lt_trichotomy x.1 p with h | h | h
      · exact h
      · exact absurd ⟨x, hx, h⟩ hno
      · have := hg p x.1 hpn hp1 hBx h; omega
    have := hn p hpn
    rcases h with ⟨h, k⟩ | ⟨hz, h, k⟩
    · exact .inl ⟨h, fun x hx hl => k x hx (key x hx hl)⟩
    · exact .inr ⟨hz, by omega, fun x hx hl => k x hx (key x hx hl)⟩
  have here : ∀ p, B p → p < n → (∃ x ∈ W, x.1 = p) → IsLast W (nt p) p := by
    intro p hp1 hpn hz
    refine .inr ⟨hz, hn p hpn, fun x hx hl => ?_⟩
    have hBx := ((hbeg x.1).1 ⟨x, hx, rfl⟩).1
    by_cases h : p < x.1
    · have := hg p x.1 hpn hp1 hBx h; omega
    · omega
  have C : ∀ p, B p → p < n → ins p = true → IsLast W (nt p) (bck pv ins p true) := by
    intro p
    induction p using Nat.strongRecOn with
    | _ p ih =>
      intro hp1 hpn hi
      by_cases h0 : p = 0
      · subst h0
        rw [bck_zero]
        exact here 0 hp1 hpn ((hbeg 0).2 ⟨hp1, Nat.le_refl _, hpn, hi, .inl rfl⟩)
      · obtain ⟨q1, q2, q3⟩ := hp p hp1 (by omega)
        cases hq : ins (pv p) with
        | true =>
          rw [bck_in (by omega) q2 hq]
          have := ih (pv p) q2 q1 (by omega) hq
          rw [q3] at this
          refine skip p _ hp1 hpn (fun he => ?_) this
          obtain ⟨_, _, _, _, h5⟩ := (hbeg p).1 he
          rcases h5 with h5 | h5
          · exact h0 h5
          · rw [hq] at h5; cases h5
        | false =>
          rw [bck_stop (by omega) q2 hq]
          exact here p hp1 hpn ((hbeg p).2 ⟨hp1, Nat.zero_le _, hpn, hi, .inr hq⟩)
  induction c using Nat.strongRecOn with
  | _ c ih =>
    by_cases h0 : c = 0
    · subst h0
      rw [bck_zero]
      exact .inl ⟨rfl, fun x hx => by omega⟩
    · obtain ⟨q1, q2, q3⟩ := hp c hc (by omega)
      have hpn : pv c < n := by have := hBn c hc; omega
      cases hq : ins (pv c) with
      | true =>
        rw [bck_in (by omega) q2 hq]
        have := C (pv c) q1 hpn hq
        rwa [q3] at this
      | false =>
        rw [bck_out (by omega) q2 hq]
        have := skip (pv c) _ q1 hpn (fun he => by have := ((hbeg _).1 he).2.2.2.1; rw [hq] at this; cases this) (ih (pv c) q2 q1)
        rwa [q3] at this
end
/-- a place that is the end or where a cluster begins -/
def Bd (T : Tab) (s : List Int) (b : Nat) : Prop := b ≤ s.length ∧ (b = s.length ∨ begAt T s b = true)
theorem Bd.zero (T : Tab) (s : List Int) : Bd T s 0 := by
  refine ⟨Nat.zero_le _, ?_⟩
  cases s with
  | nil => exact .inl rfl
  | cons x l => exact .inr rfl
theorem Bd.isB {T : Tab} {s : List Int} {b : Nat} (h : Bd T s b) : isB T s b = true := by
  rcases h.2 with h | h
  · subst h; exact isB_len T s
  · rw [isB_lt (begAt_lt h)]; exact h
theorem Bd.of {T : Tab} {s : List Int} {b : Nat} (hb : b ≤ s.length) (h : Go.Proofs.YthlpelfogplomaaGreat.isB T s b = true) : Bd T s b := by
  refine ⟨hb, ?_⟩
  by_cases e : b = s.length
  · exact .inl e
  · rw [isB_lt (by omega)] at h; exact .inr h
theorem Bd.isI {T : Tab} {s : List Int} {b : Nat} (h : Bd T s b) : isI T s (b : Int) = true := by
  unfold Go.Proofs.YthlpelfogplomaaGreat.isI
  rw [decide_eq_true (by omega), decide_eq_true (by have := h.1; omega), Bool.true_and, Bool.true_and]
  exact h.isB
theorem bd_next {T : Tab} (H : T.Ok) {s : List Int} (b : Nat) (hl : b < s.length) (hb : Bd T s b) : Bd T s (nxt T s b) :=
  ⟨(nx_spec H (hb.2.resolve_left (by omega))).2.1, (nx_spec H (hb.2.resolve_left (by omega))).2.2.2⟩
theorem bd_gap {T : Tab} (H : T.Ok) {s : List Int} (b c : Nat) (hl : b < s.length) (hb : Bd T s b) (hc : Bd T s c) (h : b < c) : nxt T s b ≤ c := by
  obtain ⟨h1, h2, h3, h4⟩ := nx_spec H (hb.2.resolve_left (by omega))
  by_cases e : c < nxt T s b
  · have := h3 c h e
    rcases hc.2 with hc | hc
    · unfold nxt at e; omega
    · rw [this] at hc; cases hc
  · omega
theorem bd_prev {T : Tab} (H : T.Ok) {s : List Int} (c : Nat) (hc : Bd T s c) (h0 : 0 < c) : Bd T s (prv T s c) ∧ prv T s c < c ∧ nxt T s (prv T s c) = c := by
  have hlt := prv_lt T h0 hc.1
  have hle := hc.1
  have hv : prv T s c = floorB T s (c - 1) := by
    unfold prv prevI
    rw [show max (min (c : Int) ((s.length : Int) + 1)) 0 - 1 = ((c - 1 : Nat) : Int) by omega]
    by_cases e : c - 1 = 0
    · rw [floorI_nonpos (by omega), e]; rfl
    · rw [floorI_mid (by omega) (by omega)]
  have hp : Bd T s (prv T s c) := by
    rcases floorB_is T s (c - 1) with h | h
    · rw [hv, h]; exact Bd.zero T s
    · rw [hv]; exact Bd.of (by omega) h
  refine ⟨hp, hlt, ?_⟩
  have h1 := bd_gap H _ c (by omega) hp hc hlt
  have h2 := nxt_gt T (s := s) (b := prv T s c) (by omega)
  have h3 := bd_next H _ (by omega) hp
  by_cases e : nxt T s (prv T s c) = c
  · exact e
  · have := floorB_none T s (c - 1) (nxt T s (prv T s c)) (by omega) (by omega)
    rw [h3.isB] at this; cases this
theorem fwdI_first {R : List Rw} (H : (tabOf R).Ok) {s : List Int} {a : Int} {c : Nat} (ha : ceilI (tabOf R) s a = c) (hc : Bd (tabOf R) s c) : IsFirst (wrdsR R s) s.length c (fwdI R s a) := by
  unfold fwdI wrdsR
  rw [ha]
  exact fwd_first (B := Bd (tabOf R) s) (fun b h => nxt_gt _ h) (fun b h => nxt_le _ (by omega)) (bd_next H) (bd_gap H) _ 0 c rfl (Bd.zero _ _) hc (Nat.zero_le _) hc.1
theorem bckI_last {R : List Rw} (H : (tabOf R).Ok) {s : List Int} {a : Int} {c : Nat} (ha : floorI (tabOf R) s a = c) (hc : Bd (tabOf R) s c) : IsLast (wrdsR R s) c (bckI R s a) := by
  unfold bckI wrdsR
  rw [ha]
  exact bck_last (B := Bd (tabOf R) s) (fun b h => nxt_gt _ h) (fun b h => nxt_le _ (by omega)) (bd_next H) (bd_gap H) (bd_prev H) (fun b h => h.1) (Bd.zero _ _) c hc
theorem wrdsR_ends (R : List Rw) (s : List Int) : (∀ x ∈ wrdsR R s, x.1 < x.2 ∧ x.2 ≤ s.length) ∧ (wrdsR R s).Pairwise (fun x y => x.2 ≤ y.1) := by
  obtain ⟨h1, h2⟩ := wrds_ends (n := s.length) (nt := nxt (tabOf R) s) (ins := insR R s) (fun b h => nxt_gt _ h) (fun b h => nxt_le _ (by omega)) _ 0 rfl (Nat.zero_le _)
  exact ⟨fun x hx => (h1 x hx).2, h2⟩
theorem wrds_bd {n : Nat} {nt : Nat → Nat} {ins : Nat → Bool} {B : Nat → Prop} (hn : ∀ b, b < n → b < nt b) (hB : ∀ b, b < n → B b → B (nt b)) : ∀ m b, n - b = m → B b → ∀ x ∈ wrds n nt ins b, B x.1 ∧ B x.2 := by
  intro m
  induction m using Nat.strongRecOn with
  | _ m ih =>
    intro b hm hb x hx
    by_cases hlt : b < n
    · have h2 := hn b hlt
      cases hi : ins b with
      | true =>
        have hgt := runE_gt hlt h2 hi
        have hBr : B (runE n nt ins b) := runE_bd2 hB _ b rfl hb
        rw [wrds_in hlt h2 hi] at hx
        rcases List.mem_cons.1 hx with rfl | hx
        · exact ⟨hb, hBr⟩
        · exact ih (n - runE n nt ins b) (by omega) _ rfl hBr x hx
      | false =>
        rw [wrds_out hlt h2 hi] at hx
        exact ih (n - nt b) (by omega) _ rfl (hB b hlt hb) x hx
    · rw [wrds_end hlt] at hx; simp at hx
theorem wrdsR_bd {R : List Rw} (H : (tabOf R).Ok) {s : List Int} : ∀ x ∈ wrdsR R s, Bd (tabOf R) s x.1 ∧ Bd (tabOf R) s x.2 :=
  wrds_bd (B := Bd (tabOf R) s) (fun _ h => nxt_gt _ h) (bd_next H) _ 0 rfl (Bd.zero _ _)
end Go.Proofs.YthlpelfogplomaaGreat

/- slices.BinarySearch at whole numbers; an index's questions. -/
namespace Go.Proofs.YthlpelfogplomaaGreat
open Go.RowKit

theorem nan_any (x : Int) (w : World) : Calls Tryz.prog 131 #[.int .i64 x] w fun e w' => e = .returned (.bool false) ∧ w = w' := by
  go_enter Tryz.func131, Tryz.ntmps131
  go_wp2_with fail
  go_ret
  exact ⟨rfl, rfl⟩
theorem nan2_any (x : Int) (w : World) : Calls Tryz.prog 113 #[.int .i64 x] w fun e w' => e = .returned (.bool false) ∧ w = w' := by
  go_enter Tryz.func113, Tryz.ntmps113
  go_wp2_with fail
  go_ret
  exact ⟨rfl, rfl⟩
theorem less_any (x y : Int) (w : World) : Calls Tryz.prog 112 #[.int .i64 x, .int .i64 y] w fun e w' => e = .returned (.bool (decide (x < y))) ∧ w = w' := by
  go_enter Tryz.func112, Tryz.ntmps112
  go_wp2_with fail
  refine (nan_any x w).mono ?_
  rintro e w1 ⟨rfl, rfl⟩
  go_wp2_with fail
  go_ret
  exact ⟨rfl, rfl⟩
theorem ret_ib {i i' : Int} {b b' : Bool} (h1 : i = i') (h2 : b = b') : Ending.returned (.tuple #[.int .i64 i, .bool b]) = Ending.returned (.tuple #[.int .i64 i', .bool b']) := by rw [h1, h2]
/-- where the search for a number ends -/
structure FoundI (S : List Nat) (a : Int) (i : Nat) : Prop where
  le : i ≤ S.length
  lo : ∀ (j : Nat) (s : Nat), j < i → S[j]? = some s → (s : Int) < a
  hi : ∀ (j : Nat) (s : Nat), i ≤ j → S[j]? = some s → a ≤ (s : Int)
theorem found_lo {S : List Nat} {a : Int} (hS : S.Pairwise (· < ·)) {h x : Nat} (hx : S[h]? = some x) (ht : (x : Int) < a) : ∀ (q : Nat) (s : Nat), q < h + 1 → S[q]? = some s → (s : Int) < a := by
  intro q s hq hs
  rw [List.pairwise_iff_getElem] at hS
  obtain ⟨a1, a2⟩ := List.getElem?_eq_some_iff.1 hs
  obtain ⟨b1, b2⟩ := List.getElem?_eq_some_iff.1 hx
  rcases Nat.lt_or_ge q h with hl | hl
  · have := hS q h a1 b1 hl; omega
  · have : q = h := by omega
    subst this; omega
theorem found_hi {S : List Nat} {a : Int} (hS : S.Pairwise (· < ·)) {h x : Nat} (hx : S[h]? = some x) (ht : a ≤ (x : Int)) : ∀ (q : Nat) (s : Nat), h ≤ q → S[q]? = some s → a ≤ (s : Int) := by
  intro q s hq hs
  rw [List.pairwise_iff_getElem] at hS
  obtain ⟨a1, a2⟩ := List.getElem?_eq_some_iff.1 hs
  obtain ⟨b1, b2⟩ := List.getElem?_eq_some_iff.1 hx
  rcases Nat.lt_or_ge h q with hl | hl
  · have := hS h q b1 a1 hl; omega
  · have : q = h := by omega
    subst this; omega
/-- how many begin ahead of a place -/
def ahd (S : List Nat) (a : Int) : Nat := (S.takeWhile fun s : Nat => decide ((s : Int) < a)).length
/-- does one begin there? -/
def isAt (S : List Nat) (a : Int) : Bool := decide (S[ahd S a]?.map (fun s : Nat => (s : Int)) = some a)
theorem ahd_le (S : List Nat) (a : Int) : ahd S a ≤ S.length := by
  unfold ahd
  exact (List.takeWhile_prefix _).length_le
theorem ahd_eq {S : List Nat} {a : Int} : ∀ {i : Nat}, FoundI S a i → ahd S a = i := by
  induction S with
  | nil => intro i h; have := h.le; simp at this; subst this; unfold ahd; rfl
  | cons x S ih =>
    intro i h
    by_cases hx : (x : Int) < a
    · cases i with
      | zero => have := h.hi 0 x (Nat.le_refl _) rfl; omega
      | succ i =>
        have := ih (i := i) ⟨by have := h.le; simp at this; omega, fun j s hj hs => h.lo (j + 1) s (by omega) (by simpa using hs), fun j s hj hs => h.hi (j + 1) s (by omega) (by simpa using hs)⟩
        unfold ahd at this ⊢
        rw [List.takeWhile_cons, if_pos (by simpa using hx), List.length_cons, this]
    · cases i with
      | zero => unfold ahd; rw [List.takeWhile_cons, if_neg (by simpa using hx)]; rfl
      | succ i => exact absurd (h.lo 0 x (by omega) rfl) hx
set_option maxRecDepth 100000 in
set_option maxHeartbeats 4000000 in
theorem bsi_any (v : Value) (S : List Nat) (a : Int) (w : World) (hI : IntsIn w v S) (hS : S.Pairwise (· < ·)) (hl : S.length ≤ 1000000) :
    Calls Tryz.prog 68 #[v, .int .i64 a] w fun e w' => e = .returned (.tuple #[.int .i64 ((ahd S a : Nat) : Int), .bool (isAt S a)]) ∧ Below w.heap.size w w' ∧ FoundI S a (ahd S a) := by
  have HI := Lib.hid hI
  obtain ⟨sa, sc, rfl, hcap, hmax, _⟩ := ints_cells hI
  unfold maxLen at hmax
  have HS := Lib.hid hS
  clear hS hI
  go_enter Tryz.func68, Tryz.ntmps68
  go_wp2_with fail
  go_loopw [7, 8] (fun iv jv wr => ∃ i j : Nat, iv = .int .i64 ((i : Nat) : Int) ∧ jv = .int .i64 ((j : Nat) : Int) ∧ i ≤ j ∧ j ≤ S.length ∧ Below w.heap.size w wr ∧ (∀ (q : Nat) (s : Nat), q < i → S[q]? = some s → (s : Int) < a) ∧ (∀ (q : Nat) (s : Nat), j ≤ q → S[q]? = some s → a ≤ (s : Int))) (fun iv jv _ => (intOf jv).toNat - (intOf iv).toNat)
  case atStart => exact ⟨0, S.length, rfl, rfl, Nat.zero_le _, Nat.le_refl _, .refl _ _, fun q s h => by omega, fun q s h h2 => by have := (List.getElem?_eq_some_iff.1 h2).1; omega⟩
  case round =>
    obtain ⟨i, j, rfl, rfl, hij, hjl, hB, hlo, hhi⟩ := hrel
    have HB := Lib.hid hB
    have HLo := Lib.hid hlo
    have HHi := Lib.hid hhi
    clear hlo hhi
    by_cases hlt : i < j
    · obtain ⟨h, hh⟩ : ∃ h : Nat, h = (i + j) / 2 := ⟨_, rfl⟩
      have hhl : h < S.length := by omega
      have hih : i ≤ h := by omega
      have hhj : h < j := by omega
      obtain ⟨x, hx⟩ : ∃ x, S[h]? = some x := ⟨S[h], List.getElem?_eq_getElem hhl⟩
      obtain ⟨b, off, cap', hv, _, _, _, _, d0⟩ := int_cell (HI.out.below hB) hx
      cases hv
      have HX := Lib.hid hx
      clear hB hx
      have s1 : (((i : Nat) : Int) + ((j : Nat) : Int)) / 2 = ((h : Nat) : Int) := by omega
      clear hh
      have e1 := IntWalk.i64_in (((i : Nat) : Int) + ((j : Nat) : Int)) (by omega)
      have p0 : ((i : Nat) : Int) < ((j : Nat) : Int) := by omega
      have p1 : (0 : Int) ≤ (h : Int) := by omega
      have p2 : (h : Int) < (S.length : Int) := by omega
      by_cases h1 : (x : Int) < a
      · have H1 := Lib.hid h1
        go_wp2_with fail
        refine (less_any _ _ _).mono ?_
        rintro e w1 ⟨rfl, rfl⟩
        go_wp2_with fail
        go_roundw
        case rel => exact ⟨h + 1, j, by go_num, rfl, by omega, by omega, HB.out, found_lo HS.out HX.out H1.out, HHi.out⟩
        case measure => simp [intOf]; omega
      · have q1 : decide ((x : Int) < a) = false := decide_eq_false h1
        have H1 := Lib.hid (show a ≤ (x : Int) by omega)
        clear h1
        go_wp2_with fail
        refine (less_any _ _ _).mono ?_
        rintro e w1 ⟨rfl, rfl⟩
        go_wp2_with fail
        go_roundw
        case rel => exact ⟨i, h, rfl, rfl, by omega, by omega, HB.out, HLo.out, found_hi HS.out HX.out H1.out⟩
        case measure => simp [intOf]; omega
    · have hie : i = j := by omega
      subst hie
      have HA := Lib.hid (ahd_eq (S := S) (a := a) (i := i) ⟨hjl, HLo.out, HHi.out⟩)
      have HF := Lib.hid (show FoundI S a (ahd S a) by rw [HA.out]; exact ⟨hjl, HLo.out, HHi.out⟩)
      clear hlt hij
      by_cases hin : i < S.length
      · obtain ⟨x, hx⟩ : ∃ x, S[i]? = some x := ⟨S[i], List.getElem?_eq_getElem hin⟩
        obtain ⟨b, off, cap', hv, _, _, _, _, d0⟩ := int_cell (HI.out.below hB) hx
        cases hv
        have p1 : (0 : Int) ≤ (i : Int) := by omega
        have p2 : (i : Int) < (S.length : Int) := by omega
        by_cases hf : (x : Int) = a
        · have q2 : ((x : Int) == a) = true := by simpa using hf
          have HE := Lib.hid (show isAt S a = true by unfold isAt; rw [HA.out, hx]; simp [hf])
          clear hf hB hx
          go_wp2_with fail
          go_ret2
          exact ⟨ret_ib (by rw [HA.out]) HE.out.symm, HB.out, HF.out⟩
        · have q2 : ((x : Int) == a) = false := by simpa using hf
          have HE := Lib.hid (show isAt S a = false by unfold isAt; rw [HA.out, hx]; simp [hf])
          clear hf hB hx
          go_wp2_with fail
          refine (nan2_any _ _).mono ?_
          rintro e w1 ⟨rfl, rfl⟩
          go_wp2_with fail
          go_ret2
          exact ⟨ret_ib (by rw [HA.out]) HE.out.symm, HB.out, HF.out⟩
      · have hil : i = S.length := by omega
        have HE := Lib.hid (show isAt S a = false by unfold isAt; rw [HA.out, List.getElem?_eq_none (by omega)]; rfl)
        subst hil
        clear hB hin
        go_wp2_with fail
        go_ret2
        exact ⟨ret_ib (by rw [HA.out]) HE.out.symm, HB.out, HF.out⟩
end Go.Proofs.YthlpelfogplomaaGreat

/- How an index learns of a change, plainly. -/
namespace Go.Proofs.YthlpelfogplomaaGreat

/-- texts that are the same ahead of a place and behind one -/
structure Win (o l : List Int) (f was is : Nat) : Prop where
  fw : f ≤ was
  wo : was ≤ o.length
  fi : f ≤ is
  il : is ≤ l.length
  pre : o.take f = l.take f
  suf : o.drop was = l.drop is
section
variable {T : Tab} {o l : List Int} {f was is : Nat}
theorem begAt_pre (h : o.take f = l.take f) {i : Nat} (hi : i < f) : begAt T o i = begAt T l i := by
  have h1 : o[i]? = l[i]? := by rw [← List.getElem?_take_of_lt hi, h, List.getElem?_take_of_lt hi]
  have h2 : o.take i = l.take i := by
    have := congrArg (List.take i) h
    rwa [List.take_take, List.take_take, Nat.min_eq_left (by omega)] at this
  unfold begAt
  rw [h1, h2]
theorem agree {f : Nat} : ∀ (A B : List Nat), A.Pairwise (· < ·) → B.Pairwise (· < ·) → (∀ j, j < f → (j ∈ A ↔ j ∈ B)) → ∀ (k x : Nat), A[k]? = some x → x < f → B[k]? = some x ∧ B.take k = A.take k
  | [], _, _, _, _, k, x, hk, _ => by simp at hk
  | a :: A, B, hA, hB, hm, k, x, hk, hx => by
    obtain ⟨hA1, hA2⟩ := List.pairwise_cons.1 hA
    have hax : a ≤ x := by
      cases k with
      | zero => simp at hk; omega
      | succ k =>
        have : x ∈ A := List.mem_of_getElem? (by simpa using hk)
        have := hA1 x this; omega
    have haB := (hm a (by omega)).1 List.mem_cons_self
    cases B with
    | nil => simp at haB
    | cons b B =>
      obtain ⟨hB1, hB2⟩ := List.pairwise_cons.1 hB
      have hba : b ≤ a := by
        rcases List.mem_cons.1 haB with h | h
        · omega
        · have := hB1 a h; omega
      have hab : a ≤ b := by
        rcases List.mem_cons.1 ((hm b (by omega)).2 List.mem_cons_self) with h | h
        · omega
        · have := hA1 b h; omega
      have e : b = a := by omega
      subst e
      cases k with
      | zero => exact ⟨by simpa using hk, rfl⟩
      | succ k =>
        have := agree (f := f) A B hA2 hB2 (fun j hj => ⟨fun h => by
          have h3 := hA1 j h
          rcases List.mem_cons.1 ((hm j hj).1 (List.mem_cons_of_mem _ h)) with h4 | h4
          · omega
          · exact h4, fun h => by
          have h3 := hB1 j h
          rcases List.mem_cons.1 ((hm j hj).2 (List.mem_cons_of_mem _ h)) with h4 | h4
          · omega
          · exact h4⟩) k x (by simpa using hk) hx
        exact ⟨by simpa using this.1, by rw [List.take_succ_cons, List.take_succ_cons, this.2]⟩
theorem idx_first (h : o.take f = l.take f) {k x : Nat} (hk : (starts T o)[k]? = some x) (hx : x < f) : (starts T l)[k]? = some x ∧ (starts T l).take k = (starts T o).take k :=
  agree (f := f) _ _ (starts_sorted T o) (starts_sorted T l) (fun j hj => by rw [starts_mem, starts_mem, begAt_pre h hj]) k x hk hx
theorem start_next (H : T.Ok) {m a : Nat} (hm : (starts T l)[m]? = some a) : (m + 1 < (starts T l).length → (starts T l)[m + 1]? = some (nxt T l a)) ∧ (m + 1 = (starts T l).length → nxt T l a = l.length) := by
  have hb := (starts_mem T l a).1 (List.mem_of_getElem? hm)
  have hl := begAt_lt hb
  have hbd : Bd T l a := ⟨by omega, .inr hb⟩
  have hn := bd_next H a hl hbd
  have hgt := nxt_gt T hl
  constructor
  · intro h
    obtain ⟨q', hq'⟩ : ∃ q, (starts T l)[m + 1]? = some q := ⟨_, List.getElem?_eq_getElem h⟩
    obtain ⟨h1, h2⟩ := sorted_between (starts_sorted T l) hm hq'
    have hb' := (starts_mem T l q').1 (List.mem_of_getElem? hq')
    have hl' := begAt_lt hb'
    have h3 := bd_gap H a q' hl hbd ⟨by omega, .inr hb'⟩ h1
    have e : nxt T l a = q' := by
      by_cases e : nxt T l a < q'
      · have := hn.2.resolve_left (by omega)
        exact absurd ⟨hgt, e⟩ (h2 _ ((starts_mem T l _).2 this))
      · omega
    rw [hq', e]
  · intro h
    have hmax := sorted_last (starts_sorted T l) hm h
    rcases hn.2 with h3 | h3
    · exact h3
    · have := hmax _ ((starts_mem T l _).2 h3); omega
theorem idx_rest (H : T.Ok) (hw : o.drop was = l.drop is) {m a q s : Nat} (hA : (starts T l)[m]? = some a) (hS : (starts T o)[q]? = some s) (ha : is ≤ a) (hs : (s : Int) + ((is : Int) - (was : Int)) = (a : Int)) :
    (starts T l).length - m = (starts T o).length - q ∧ ∀ i x, (starts T o)[q + i]? = some x → ∃ y, (starts T l)[m + i]? = some y ∧ (y : Int) = (x : Int) + ((is : Int) - (was : Int)) := by
  have h1 := starts_suffix H hA
  have h2 := starts_suffix H hS
  have hd : o.drop s = l.drop a := by
    have := congrArg (List.drop (a - is)) hw
    rwa [List.drop_drop, List.drop_drop, show was + (a - is) = s by omega, show is + (a - is) = a by omega] at this
  rw [hd] at h2
  constructor
  · have e1 := congrArg List.length h1
    have e2 := congrArg List.length h2
    rw [List.length_map, List.length_drop] at e1 e2
    omega
  · intro i x hx
    rw [← List.getElem?_drop, ← h2, List.getElem?_map] at hx
    cases hg : (starts T (l.drop a))[i]? with
    | none => rw [hg] at hx; simp at hx
    | some z =>
      rw [hg] at hx
      simp at hx
      refine ⟨z + a, ?_, by omega⟩
      rw [← List.getElem?_drop, ← h1, List.getElem?_map, hg]
      rfl
theorem ahd_found {S : List Nat} (hS : S.Pairwise (· < ·)) (a : Int) : FoundI S a (ahd S a) := by
  induction S with
  | nil => exact ⟨ahd_le _ _, fun j s _ h => by simp at h, fun j s _ h => by simp at h⟩
  | cons x S ih =>
    obtain ⟨h1, h2⟩ := List.pairwise_cons.1 hS
    by_cases hx : (x : Int) < a
    · have e : ahd (x :: S) a = ahd S a + 1 := by unfold ahd; rw [List.takeWhile_cons, if_pos (by simpa using hx), List.length_cons]
      have hF := ih h2
      rw [e]
      refine ⟨by have := hF.le; simp; omega, fun j s hj hs => ?_, fun j s hj hs => ?_⟩
      · cases j with
        | zero => simp at hs; omega
        | succ j => exact hF.lo j s (by omega) (by simpa using hs)
      · cases j with
        | zero => omega
        | succ j => exact hF.hi j s (by omega) (by simpa using hs)
    · have e : ahd (x :: S) a = 0 := by unfold ahd; rw [List.takeWhile_cons, if_neg (by simpa using hx)]; rfl
      rw [e]
      refine ⟨Nat.zero_le _, fun j s hj hs => by omega, fun j s hj hs => ?_⟩
      cases j with
      | zero => simp at hs; omega
      | succ j =>
        have := h1 s (List.mem_of_getElem? (by simpa using hs)); omega
theorem zero_start (T : Tab) (l : List Int) : (starts T l)[0]? = some 0 ∨ (0 = (starts T l).length ∧ 0 = l.length) := by
  cases h : (starts T l)[0]? with
  | none =>
    have hl : (starts T l).length = 0 := by
      by_cases e : 0 < (starts T l).length
      · rw [List.getElem?_eq_getElem e] at h; cases h
      · omega
    have := starts_nil_iff.1 (List.eq_nil_of_length_eq_zero hl)
    exact .inr ⟨hl.symm, by rw [this]; rfl⟩
  | some q => exact .inl (by rw [start_zero h])
/-- where learning begins -/
theorem idx_start (hW : Win o l f was is) {k : Nat} (hk : k = ahd (starts T o) (f : Int) - 1) {a : Nat} (ha : a = ((starts T o)[k]?).getD 0) :
    (starts T o).take k = (starts T l).take k ∧ k ≤ (starts T o).length ∧ k ≤ (starts T l).length ∧ ((starts T l)[k]? = some a ∨ (k = (starts T l).length ∧ a = l.length)) := by
  have hF := ahd_found (starts_sorted T o) (f : Int)
  have hle := hF.le
  by_cases hj : ahd (starts T o) (f : Int) = 0
  · have hk0 : k = 0 := by omega
    subst hk0
    have ha0 : a = 0 := by
      rw [ha]
      cases h : (starts T o)[0]? with
      | none => rfl
      | some q => exact start_zero h
    subst ha0
    exact ⟨rfl, Nat.zero_le _, Nat.zero_le _, zero_start T l⟩
  · obtain ⟨x, hx⟩ : ∃ x, (starts T o)[k]? = some x := ⟨_, List.getElem?_eq_getElem (by omega)⟩
    have hxf := hF.lo k x (by omega) hx
    obtain ⟨h1, h2⟩ := idx_first hW.pre hx (by omega)
    rw [hx] at ha
    have ha' : a = x := ha
    rw [ha']
    have := (List.getElem?_eq_some_iff.1 h1).1
    exact ⟨h2.symm, by omega, by omega, .inl h1⟩
end
end Go.Proofs.YthlpelfogplomaaGreat

/- Index: plain facts for its laws. -/
namespace Go.Proofs.YthlpelfogplomaaGreat

theorem sorted_ge : ∀ (S : List Nat) (b : Nat), S.Pairwise (· < ·) → (∀ x ∈ S, b ≤ x) → ∀ i x, S[i]? = some x → b + i ≤ x
  | [], _, _, _, i, x, h => by simp at h
  | a :: S, b, hp, hb, i, x, h => by
    obtain ⟨h1, h2⟩ := List.pairwise_cons.1 hp
    have h0 := hb a List.mem_cons_self
    cases i with
    | zero => simp at h; omega
    | succ i =>
      have := sorted_ge S (a + 1) h2 (fun y hy => h1 y hy) i x (by simpa using h)
      omega
/-- there are no more clusters than scalars -/
theorem starts_len (T : Tab) (s : List Int) : (starts T s).length ≤ s.length := by
  by_cases h : (starts T s).length = 0
  · omega
  · obtain ⟨x, hx⟩ : ∃ x, (starts T s)[(starts T s).length - 1]? = some x := ⟨_, List.getElem?_eq_getElem (by omega)⟩
    have h1 := sorted_ge (starts T s) 0 (starts_sorted T s) (fun _ _ => Nat.zero_le _) _ x hx
    have h2 := begAt_lt ((starts_mem T s x).1 (List.mem_of_getElem? hx))
    omega
theorem starts_nil (T : Tab) : starts T [] = [] := starts_nil_iff.2 rfl
theorem Win.zero (l : List Int) : Win [] l 0 0 l.length := ⟨Nat.le_refl _, Nat.le_refl _, Nat.zero_le _, Nat.le_refl _, rfl, by simp⟩
/-- what stands in a place, and a window that is as wide, or wider -/
theorem Win.put {l m ins : List Int} {f t b e : Nat} (hm : m = l.take f ++ ins ++ l.drop t) (hft : f ≤ t) (ht : t ≤ l.length) (hb : b ≤ f) (he : t + e ≤ l.length) : Win l m (f - b) (t + e) (f + ins.length + e) := by
  have hlf : (l.take f).length = f := by rw [List.length_take]; omega
  refine ⟨by omega, he, by omega, ?_, ?_, ?_⟩
  · rw [hm, List.length_append, List.length_append, hlf, List.length_drop]; omega
  · rw [hm, List.append_assoc, List.take_append_of_le_length (by omega), List.take_take, Nat.min_eq_left (by omega)]
  · have hl : (l.take f ++ ins).length = f + ins.length := by rw [List.length_append, hlf]
    have h1 : m.drop (f + ins.length) = l.drop t := by
      rw [hm, List.drop_append_of_le_length (by omega), List.drop_eq_nil_of_le (by omega), List.nil_append]
    have h2 : m.drop (f + ins.length + e) = (m.drop (f + ins.length)).drop e := by rw [List.drop_drop]
    rw [h2, h1, List.drop_drop]
end Go.Proofs.YthlpelfogplomaaGreat

/- Units: plain law of places. No program is named here. -/
namespace Go.Proofs.YthlpelfogplomaaGreat

section
variable {T : Tab} {s : List Int}
theorem starts_zero (T : Tab) {s : List Int} (hs : s ≠ []) : (starts T s)[0]? = some 0 := by
  have h0 := (starts_mem T s 0).2 (begAt_zero T hs)
  obtain ⟨i, hi⟩ := List.mem_iff_getElem?.1 h0
  rcases Nat.eq_zero_or_pos i with rfl | hp
  · exact hi
  · have hl := (List.getElem?_eq_some_iff.1 hi).1
    have hS := starts_sorted T s
    rw [List.pairwise_iff_getElem] at hS
    obtain ⟨a1, a2⟩ := List.getElem?_eq_some_iff.1 hi
    have := hS 0 i (by omega) a1 hp
    omega
/-- the clusters behind a boundary are the rest of all clusters -/
theorem clus_at (H : T.Ok) : ∀ (m a : Nat), (starts T s)[m]? = some a → clus T (s.drop a) = (clus T s).drop m
  | 0, a, h => by
    have hs : s ≠ [] := fun e => by subst e; rw [starts_nil] at h; simp at h
    rw [starts_zero T hs] at h
    cases h
    rfl
  | m + 1, a, h => by
    have hl := (List.getElem?_eq_some_iff.1 h).1
    obtain ⟨b, hb⟩ : ∃ b, (starts T s)[m]? = some b := ⟨_, List.getElem?_eq_getElem (by omega)⟩
    have h1 := (start_next H hb).1 hl
    rw [h] at h1
    have hba : a = b + nx T (s.drop b) := Option.some.inj h1
    have ih := clus_at H m b hb
    have hbl := begAt_lt ((starts_mem T s b).1 (List.mem_of_getElem? hb))
    have hne : s.drop b ≠ [] := fun e => by have := congrArg List.length e; rw [List.length_drop] at this; simp at this; omega
    rw [clus_step T hne] at ih
    have : (clus T s).drop (m + 1) = ((clus T s).drop m).drop 1 := by rw [List.drop_drop]
    rw [this, ← ih, hba, ← List.drop_drop]
    rfl
theorem starts_clus (H : T.Ok) : (starts T s).length = (clus T s).length := by
  by_cases hs : s = []
  · subst hs; rw [starts_nil]; rfl
  · have h0 := starts_zero T hs
    have hl : 0 < (starts T s).length := (List.getElem?_eq_some_iff.1 h0).1
    obtain ⟨a, ha⟩ : ∃ a, (starts T s)[(starts T s).length - 1]? = some a := ⟨_, List.getElem?_eq_getElem (by omega)⟩
    have h1 := clus_at H _ a ha
    have h2 := (start_next H ha).2 (by omega)
    have hbl := begAt_lt ((starts_mem T s a).1 (List.mem_of_getElem? ha))
    have hne : s.drop a ≠ [] := fun e => by have := congrArg List.length e; rw [List.length_drop] at this; simp at this; omega
    rw [clus_step T hne, List.drop_drop] at h1
    have h3 : a + nx T (s.drop a) = s.length := h2
    rw [h3, List.drop_length, clus_nil] at h1
    have h4 := congrArg List.length h1
    rw [List.length_drop] at h4
    simp at h4
    omega
/-- a cluster, by the boundaries around it -/
theorem clus_get (H : T.Ok) {m a : Nat} (h : (starts T s)[m]? = some a) : (clus T s)[m]? = some ((s.drop a).take (nx T (s.drop a))) := by
  have h1 := clus_at H m a h
  have hbl := begAt_lt ((starts_mem T s a).1 (List.mem_of_getElem? h))
  have hne : s.drop a ≠ [] := fun e => by have := congrArg List.length e; rw [List.length_drop] at this; simp at this; omega
  rw [clus_step T hne] at h1
  have h2 : ((clus T s).drop m)[0]? = some ((s.drop a).take (nx T (s.drop a))) := by rw [← h1]; rfl
  rw [List.getElem?_drop] at h2
  exact h2
end
/-- how many units of UTF-16 a scalar has -/
def unN (r : Int) : Nat := if r > 65535 ∧ validB r = true then 2 else 1
def bytesTo (s : List Int) (i : Nat) : Nat := ((s.take i).map sizeN).sum
def unitsTo (s : List Int) (i : Nat) : Nat := ((s.take i).map unN).sum
theorem bytesTo_succ {s : List Int} {i : Nat} {x : Int} (h : s[i]? = some x) : bytesTo s (i + 1) = bytesTo s i + sizeN x := by
  unfold bytesTo; rw [List.take_add_one, h, List.map_append, List.sum_append]; simp
theorem unitsTo_succ {s : List Int} {i : Nat} {x : Int} (h : s[i]? = some x) : unitsTo s (i + 1) = unitsTo s i + unN x := by
  unfold unitsTo; rw [List.take_add_one, h, List.map_append, List.sum_append]; simp
theorem unN_rng (x : Int) : 1 ≤ unN x ∧ unN x ≤ 2 := by unfold unN; split <;> omega
theorem bytesTo_le (s : List Int) : ∀ i, i ≤ s.length → i ≤ bytesTo s i ∧ bytesTo s i ≤ 4 * i
  | 0, _ => by simp [bytesTo]
  | i + 1, h => by
    obtain ⟨x, hx⟩ : ∃ x, s[i]? = some x := ⟨_, List.getElem?_eq_getElem (by omega)⟩
    have := bytesTo_le s i (by omega)
    have h2 := sizeN_rng x
    rw [bytesTo_succ hx]
    omega
theorem unitsTo_le (s : List Int) : ∀ i, i ≤ s.length → i ≤ unitsTo s i ∧ unitsTo s i ≤ 2 * i
  | 0, _ => by simp [unitsTo]
  | i + 1, h => by
    obtain ⟨x, hx⟩ : ∃ x, s[i]? = some x := ⟨_, List.getElem?_eq_getElem (by omega)⟩
    have := unitsTo_le s i (by omega)
    have h2 := unN_rng x
    rw [unitsTo_succ hx]
    omega
/-- a place's numbers: scalars, bytes, units, clusters, columns; of cluster k from a on, at i -/
abbrev Ps := Int × Int × Int × Int × Int
def psE (p : Ps) : List Value := [.int .i64 p.1, .int .i64 p.2.1, .int .i64 p.2.2.1, .int .i64 p.2.2.2.1, .int .i64 p.2.2.2.2]
theorem psE_len (p : Ps) : (psE p).length = 5 := rfl
theorem psE_one (p : Ps) : ∀ u ∈ psE p, u.oneCell' = true := by intro u hu; simp [psE] at hu; rcases hu with rfl | rfl | rfl | rfl | rfl <;> rfl
/-- columns of the first k clusters -/
def colsTo (R : List Rw) (s : List Int) (k : Nat) : Int := wdG (lineG R ((clus (tabOf R) s).take k))
theorem colsTo_succ (R : List Rw) {s : List Int} {k : Nat} {c : List Int} (h : (clus (tabOf R) s)[k]? = some c) : colsTo R s (k + 1) = colsTo R s k + wdG (glOf R c) := by
  unfold colsTo
  rw [List.take_add_one, h]
  show wdG (lineG R ((clus (tabOf R) s).take k ++ [c])) = _
  rw [lineG_snoc, wdG_app]
/-- the place ahead of scalar i, within cluster k that begins at a -/
def plc (R : List Rw) (s : List Int) (k a i : Nat) : Ps := ((i : Int), (bytesTo s i : Int), (unitsTo s i : Int), (if i = a then (k : Int) else (k : Int) + 1), colsTo R s k)
end Go.Proofs.YthlpelfogplomaaGreat

/- An index: its questions. -/
namespace Go.Proofs.YthlpelfogplomaaGreat
open Go.RowKit

/-- v is an index: where clusters begin, how many scalars there are -/
def IdxIn (w : World) (v : Value) (S : List Nat) (n : Nat) : Prop := ∃ sv, v = .agg #[sv, .int .i64 ((n : Nat) : Int)] ∧ IntsIn w sv S
theorem IdxIn.below {w w' : World} {v : Value} {S : List Nat} {n : Nat} (h : IdxIn w v S n) (hB : Below w.heap.size w w') : IdxIn w' v S n :=
  let ⟨sv, h1, h2⟩ := h
  ⟨sv, h1, h2.below hB⟩
theorem intE_one (l : List Nat) : ∀ u ∈ l.flatMap nE, u.oneCell' = true := by
  intro u hu
  obtain ⟨x, _, hx⟩ := List.mem_flatMap.1 hu
  simp [nE] at hx
  subst hx; rfl
section
variable {S : List Nat} {n : Nat} {w : World} {v : Value}
/-- where a cluster begins; the end, if there is none such -/
def stA (S : List Nat) (n : Nat) (i : Int) : Nat := if 0 ≤ i then (S[i.toNat]?).getD n else n
end
end Go.Proofs.YthlpelfogplomaaGreat

/- An index: Floor, Ceil, On. -/
namespace Go.Proofs.YthlpelfogplomaaGreat
open Go.RowKit

/-- the first boundary that is not ahead of a place, told by an index -/
def clX (S : List Nat) (n : Nat) (a : Int) : Nat := if a ≤ 0 then 0 else stA S n (ahd S a : Nat)
/-- the last one that is not behind it -/
def flX (S : List Nat) (n : Nat) (a : Int) : Nat := if (n : Int) ≤ a then n else if isAt S a = true then a.toNat else if ahd S a = 0 then 0 else (S[ahd S a - 1]?).getD 0
section
variable {S : List Nat} {n : Nat} {w : World} {v : Value}
/-- so many clusters on, or back -/
def onX (S : List Nat) (n : Nat) (a m : Int) : Nat := stA S n ((ahd S (flX S n a : Nat) : Nat) + min (max m (-((ahd S (flX S n a : Nat) : Nat) : Int))) ((S.length : Int) - ((ahd S (flX S n a : Nat) : Nat) : Int)))
end
end Go.Proofs.YthlpelfogplomaaGreat

/- Index: plain law of the boundaries around a place, and of those so many on. -/
namespace Go.Proofs.YthlpelfogplomaaGreat

/-- where clusters begin, of so many scalars -/
structure Bds (S : List Nat) (n : Nat) : Prop where
  sorted : S.Pairwise (· < ·)
  lt : ∀ x ∈ S, x < n
  zero : S[0]? = some 0 ∨ (0 = S.length ∧ 0 = n)
/-- the boundary of a number -/
def bd (S : List Nat) (n k : Nat) : Nat := (S[k]?).getD n
section
variable {S : List Nat} {n : Nat}
theorem sorted_at (hS : S.Pairwise (· < ·)) {i j x y : Nat} (hi : S[i]? = some x) (hj : S[j]? = some y) (h : i < j) : x < y := by
  rw [List.pairwise_iff_getElem] at hS
  obtain ⟨a1, a2⟩ := List.getElem?_eq_some_iff.1 hi
  obtain ⟨b1, b2⟩ := List.getElem?_eq_some_iff.1 hj
  have := hS i j a1 b1 h
  omega
theorem at_some {k : Nat} (h : k < S.length) : ∃ x, S[k]? = some x := ⟨_, List.getElem?_eq_getElem h⟩
theorem at_lt {k x : Nat} (h : S[k]? = some x) : k < S.length := (List.getElem?_eq_some_iff.1 h).1
theorem bd_some {k x : Nat} (h : S[k]? = some x) : bd S n k = x := by unfold bd; rw [h]; rfl
theorem bd_end : bd S n S.length = n := by unfold bd; rw [List.getElem?_eq_none (Nat.le_refl _)]; rfl
theorem stA_nat (k : Nat) : stA S n (k : Int) = bd S n k := by unfold stA bd; rw [if_pos (by omega)]; rfl
theorem bd_lt (H : Bds S n) {k : Nat} (hk : k < S.length) : bd S n k < n := by
  obtain ⟨x, hx⟩ := at_some hk
  rw [bd_some hx]
  exact H.lt x (List.mem_of_getElem? hx)
theorem bd_le (H : Bds S n) (k : Nat) : bd S n k ≤ n := by
  rcases Nat.lt_or_ge k S.length with h | h
  · exact Nat.le_of_lt (bd_lt H h)
  · unfold bd; rw [List.getElem?_eq_none h]; exact Nat.le_refl _
theorem bd_zero (H : Bds S n) : bd S n 0 = 0 := by
  rcases H.zero with h | ⟨h1, h2⟩
  · exact bd_some h
  · unfold bd; rw [List.getElem?_eq_none (by omega)]; exact h2.symm
theorem bd_mono (H : Bds S n) {i j : Nat} (h : i < j) (hj : j ≤ S.length) : bd S n i < bd S n j := by
  obtain ⟨x, hx⟩ := at_some (k := i) (S := S) (by omega)
  rw [bd_some hx]
  rcases Nat.lt_or_ge j S.length with h1 | h1
  · obtain ⟨y, hy⟩ := at_some h1
    rw [bd_some hy]
    exact sorted_at H.sorted hx hy h
  · have : j = S.length := by omega
    subst this
    rw [bd_end]
    exact H.lt x (List.mem_of_getElem? hx)
theorem ahd_at (H : Bds S n) {k : Nat} (hk : k ≤ S.length) : ahd S ((bd S n k : Nat) : Int) = k := by
  refine ahd_eq ⟨hk, fun j s hj hs => ?_, fun j s hj hs => ?_⟩
  · have := bd_mono H hj hk
    rw [bd_some hs] at this
    omega
  · have hjl := at_lt hs
    rcases Nat.lt_or_ge k j with h | h
    · have := bd_mono H h (Nat.le_of_lt hjl)
      rw [bd_some hs] at this
      omega
    · have : k = j := by omega
      subst this
      rw [bd_some hs]
      exact Int.le_refl _
theorem clX_next (H : Bds S n) {k : Nat} (hk : k < S.length) : clX S n ((bd S n k : Nat) + 1 : Int) = bd S n (k + 1) := by
  have h : ahd S ((bd S n k : Nat) + 1 : Int) = k + 1 := by
    refine ahd_eq ⟨hk, fun j s hj hs => ?_, fun j s hj hs => ?_⟩
    · rcases Nat.lt_or_ge j k with h | h
      · have := bd_mono H h (Nat.le_of_lt hk)
        rw [bd_some hs] at this
        omega
      · have : j = k := by omega
        subst this
        rw [bd_some hs]
        omega
    · have := bd_mono H (show k < j by omega) (Nat.le_of_lt (at_lt hs))
      rw [bd_some hs] at this
      omega
  unfold clX
  rw [if_neg (by omega), h, stA_nat]
theorem isAt_some {a : Int} (h : isAt S a = true) : ∃ x : Nat, S[ahd S a]? = some x ∧ (x : Int) = a := by
  unfold isAt at h
  have h := of_decide_eq_true h
  cases hx : S[ahd S a]? with
  | none => rw [hx] at h; cases h
  | some x => rw [hx] at h; exact ⟨x, rfl, by simpa using h⟩
theorem isAt_none {a : Int} (h : ¬ isAt S a = true) {x : Nat} (hx : S[ahd S a]? = some x) : (x : Int) ≠ a := by
  intro e
  apply h
  unfold isAt
  rw [hx, decide_eq_true_eq, ← e]
  rfl
/-- how many begin at a place, or ahead of it -/
def upto (S : List Nat) (a : Int) : Nat := if isAt S a = true then ahd S a + 1 else ahd S a
theorem upto_le (a : Int) : upto S a ≤ S.length := by
  unfold upto
  split
  · rename_i h
    obtain ⟨x, hx, _⟩ := isAt_some h
    exact at_lt hx
  · exact ahd_le S a
theorem upto_lo (hS : S.Pairwise (· < ·)) {a : Int} {i x : Nat} (hx : S[i]? = some x) (h : i < upto S a) : (x : Int) ≤ a := by
  unfold upto at h
  split at h
  · rename_i ht
    obtain ⟨y, hy, hya⟩ := isAt_some ht
    rcases Nat.lt_or_ge i (ahd S a) with h1 | h1
    · have := sorted_at hS hx hy h1; omega
    · have : i = ahd S a := by omega
      subst this
      rw [hx] at hy
      cases hy
      omega
  · have := (ahd_found hS a).lo i x h hx; omega
theorem upto_hi (hS : S.Pairwise (· < ·)) {a : Int} {i x : Nat} (hx : S[i]? = some x) (h : upto S a ≤ i) : a < (x : Int) := by
  unfold upto at h
  split at h
  · rename_i ht
    obtain ⟨y, hy, hya⟩ := isAt_some ht
    have := sorted_at hS hy hx (by omega)
    omega
  · rename_i ht
    have h1 := (ahd_found hS a).hi i x h hx
    rcases Nat.lt_or_ge (ahd S a) i with h2 | h2
    · obtain ⟨y, hy⟩ := at_some (k := ahd S a) (S := S) (by have := at_lt hx; omega)
      have h3 := (ahd_found hS a).hi _ y (Nat.le_refl _) hy
      have := sorted_at hS hy hx h2
      omega
    · have : i = ahd S a := by omega
      subst this
      have := isAt_none ht hx
      omega
/-- the last of the first i that is not behind a place -/
def lstTo (S : List Nat) (a : Int) (i : Nat) : Nat := if min i (upto S a) = 0 then 0 else (S[min i (upto S a) - 1]?).getD 0
theorem lstTo_zero (a : Int) : lstTo S a 0 = 0 := by unfold lstTo; rw [if_pos (by omega)]
theorem lstTo_take (hS : S.Pairwise (· < ·)) {a : Int} {i x : Nat} (hx : S[i]? = some x) (h : (x : Int) ≤ a) : lstTo S a (i + 1) = x := by
  have h1 : i < upto S a := by
    rcases Nat.lt_or_ge i (upto S a) with h1 | h1
    · exact h1
    · have := upto_hi hS hx h1; omega
  have e : min (i + 1) (upto S a) = i + 1 := by omega
  unfold lstTo
  rw [e, if_neg (by omega)]
  show (S[i]?).getD 0 = x
  rw [hx]
  rfl
theorem lstTo_pass (hS : S.Pairwise (· < ·)) {a : Int} {i x : Nat} (hx : S[i]? = some x) (h : ¬ (x : Int) ≤ a) : lstTo S a (i + 1) = lstTo S a i := by
  have h1 : upto S a ≤ i := by
    rcases Nat.lt_or_ge i (upto S a) with h1 | h1
    · exact absurd (upto_lo hS hx h1) h
    · exact h1
  have e1 : min (i + 1) (upto S a) = upto S a := by omega
  have e2 : min i (upto S a) = upto S a := by omega
  unfold lstTo
  rw [e1, e2]
theorem lstTo_end {a : Int} (ha : a < (n : Int)) : lstTo S a S.length = flX S n a := by
  have e : min S.length (upto S a) = upto S a := by have := upto_le (S := S) a; omega
  unfold lstTo flX
  rw [e, if_neg (show ¬ (n : Int) ≤ a by omega)]
  unfold upto
  by_cases ht : isAt S a = true
  · obtain ⟨x, hx, hxa⟩ := isAt_some ht
    rw [if_pos ht, if_pos ht, if_neg (by omega)]
    show (S[ahd S a]?).getD 0 = a.toNat
    rw [hx, ← hxa]
    rfl
  · rw [if_neg ht, if_neg ht]
theorem flX_bd (H : Bds S n) (a : Int) : ∃ k, k ≤ S.length ∧ flX S n a = bd S n k := by
  unfold flX
  by_cases h0 : (n : Int) ≤ a
  · rw [if_pos h0]; exact ⟨S.length, Nat.le_refl _, bd_end.symm⟩
  · rw [if_neg h0]
    by_cases ht : isAt S a = true
    · obtain ⟨x, hx, hxa⟩ := isAt_some ht
      rw [if_pos ht]
      exact ⟨ahd S a, ahd_le S a, by rw [bd_some hx]; omega⟩
    · rw [if_neg ht]
      by_cases h1 : ahd S a = 0
      · rw [if_pos h1]; exact ⟨0, Nat.zero_le _, (bd_zero H).symm⟩
      · rw [if_neg h1]
        have hle := ahd_le S a
        obtain ⟨x, hx⟩ := at_some (k := ahd S a - 1) (S := S) (by omega)
        exact ⟨ahd S a - 1, by omega, by rw [bd_some hx, hx]; rfl⟩
theorem flX_prev (H : Bds S n) {k : Nat} (hk : k < S.length) : flX S n ((bd S n (k + 1) : Nat) - 1 : Int) = bd S n k := by
  have hlt := bd_mono H (show k < k + 1 by omega) hk
  have hle := bd_le H (k + 1)
  obtain ⟨x, hx⟩ := at_some hk
  have hb := bd_some (n := n) hx
  have hlo : ∀ (j s : Nat), j < k → S[j]? = some s → s < x := fun j s hj hs => sorted_at H.sorted hs hx hj
  have hhi : ∀ (j s : Nat), k + 1 ≤ j → S[j]? = some s → bd S n (k + 1) ≤ s := by
    intro j s hj hs
    rcases Nat.lt_or_ge (k + 1) j with h | h
    · have := bd_mono H h (Nat.le_of_lt (at_lt hs)); rw [bd_some hs] at this; omega
    · have : k + 1 = j := by omega
      subst this
      rw [bd_some hs]
      exact Nat.le_refl _
  unfold flX
  rw [if_neg (by omega)]
  by_cases he : x + 1 = bd S n (k + 1)
  · have h : ahd S ((bd S n (k + 1) : Nat) - 1 : Int) = k := by
      refine ahd_eq ⟨Nat.le_of_lt hk, fun j s hj hs => ?_, fun j s hj hs => ?_⟩
      · have := hlo j s hj hs; omega
      · rcases Nat.lt_or_ge k j with h | h
        · have := hhi j s h hs; omega
        · have : k = j := by omega
          subst this
          rw [hx] at hs
          cases hs
          omega
    have ht : isAt S ((bd S n (k + 1) : Nat) - 1 : Int) = true := by
      unfold isAt
      rw [h, hx, decide_eq_true_eq]
      show some (x : Int) = _
      congr 1
      omega
    rw [if_pos ht]
    omega
  · have h : ahd S ((bd S n (k + 1) : Nat) - 1 : Int) = k + 1 := by
      refine ahd_eq ⟨hk, fun j s hj hs => ?_, fun j s hj hs => ?_⟩
      · rcases Nat.lt_or_ge j k with h | h
        · have := hlo j s h hs; omega
        · have : j = k := by omega
          subst this
          rw [hx] at hs
          cases hs
          omega
      · have := hhi j s hj hs; omega
    have ht : ¬ isAt S ((bd S n (k + 1) : Nat) - 1 : Int) = true := by
      intro ht
      obtain ⟨y, hy, hya⟩ := isAt_some ht
      rw [h] at hy
      have := hhi _ y (Nat.le_refl _) hy
      omega
    rw [if_neg ht, h, if_neg (by omega)]
    show (S[k]?).getD 0 = _
    rw [hx, hb]
    rfl
theorem clX_of (H : Bds S n) (a : Int) (h : a ≤ 0) (hl : 0 < S.length) : S[ahd S a]? = some 0 := by
  have h0 : S[0]? = some 0 := H.zero.resolve_right (by omega)
  have : ahd S a = 0 := by
    refine ahd_eq ⟨Nat.zero_le _, fun j s hj hs => by omega, fun j s hj hs => by omega⟩
  rw [this, h0]
/-- the boundary so many on, as the document counts -/
theorem onX_bd (H : Bds S n) {a m : Int} {k : Nat} (hk : k ≤ S.length) (ha : flX S n a = bd S n k) {j : Nat} (hj : (j : Int) = k + min (max m (-(k : Int))) ((S.length : Int) - (k : Int))) : onX S n a m = bd S n j := by
  unfold onX
  rw [ha, ahd_at H hk, ← hj, stA_nat]
end
end Go.Proofs.YthlpelfogplomaaGreat

/- Units: all places of a text. No program is named here. -/
namespace Go.Proofs.YthlpelfogplomaaGreat

/-- how many clusters end at a place, or ahead of it -/
def endsTo (T : Tab) (s : List Int) (i : Nat) : Nat := if i = s.length then (clus T s).length else ahd (starts T s) ((i : Int) + 1) - 1
/-- the place ahead of scalar i -/
def PL (R : List Rw) (s : List Int) (i : Nat) : Ps := ((i : Int), (bytesTo s i : Int), (unitsTo s i : Int), (ahd (starts (tabOf R) s) (i : Int) : Int), colsTo R s (endsTo (tabOf R) s i))
section
variable {R : List Rw} {s : List Int}
theorem ahd_within {S : List Nat} (hS : S.Pairwise (· < ·)) {k a i : Nat} (hk : S[k]? = some a) (hai : a < i) (hn : ∀ b, S[k + 1]? = some b → i ≤ b) : ahd S (i : Int) = k + 1 := by
  have hkl := (List.getElem?_eq_some_iff.1 hk).1
  refine ahd_eq ⟨by omega, fun j x hj hx => ?_, fun j x hj hx => ?_⟩
  · rcases Nat.lt_or_ge j k with h | h
    · have := sorted_at hS hx hk h; omega
    · have : j = k := by omega
      subst this
      rw [hx] at hk; cases hk; omega
  · rcases Nat.lt_or_ge (k + 1) j with h | h
    · obtain ⟨b, hb⟩ := at_some (k := k + 1) (S := S) (by have := at_lt hx; omega)
      have h1 := hn b hb
      have h2 := sorted_at hS hb hx h
      omega
    · have : j = k + 1 := by omega
      subst this
      have := hn x hx; omega
theorem ahd_on {S : List Nat} (hS : S.Pairwise (· < ·)) {k a : Nat} (hk : S[k]? = some a) : ahd S (a : Int) = k := by
  have hkl := (List.getElem?_eq_some_iff.1 hk).1
  refine ahd_eq ⟨by omega, fun j x hj hx => ?_, fun j x hj hx => ?_⟩
  · have := sorted_at hS hx hk hj; omega
  · rcases Nat.lt_or_ge k j with h | h
    · have := sorted_at hS hk hx h; omega
    · have : j = k := by omega
      subst this
      rw [hx] at hk; cases hk; omega
theorem PL_at {k a i : Nat} (hk : (starts (tabOf R) s)[k]? = some a) (hai : a ≤ i) (hil : i < s.length) (hn : ∀ b, (starts (tabOf R) s)[k + 1]? = some b → i < b) : PL R s i = plc R s k a i := by
  have hS := starts_sorted (tabOf R) s
  have he : endsTo (tabOf R) s i = k := by
    unfold endsTo
    rw [if_neg (by omega)]
    have := ahd_within hS (i := i + 1) hk (by omega) (fun b hb => hn b hb)
    have e : ((i + 1 : Nat) : Int) = (i : Int) + 1 := by omega
    rw [e] at this
    omega
  unfold PL plc
  rw [he]
  by_cases h : i = a
  · subst h
    rw [if_pos rfl, ahd_on hS hk]
  · rw [if_neg h, ahd_within hS (i := i) hk (by omega) (fun b hb => Nat.le_of_lt (hn b hb))]
    rfl
theorem PL_end (H : (tabOf R).Ok) : PL R s s.length = ((s.length : Int), (bytesTo s s.length : Int), (unitsTo s s.length : Int), ((clus (tabOf R) s).length : Int), colsTo R s (clus (tabOf R) s).length) := by
  have hS := starts_sorted (tabOf R) s
  have h1 : ahd (starts (tabOf R) s) (s.length : Int) = (starts (tabOf R) s).length := by
    refine ahd_eq ⟨Nat.le_refl _, fun j x hj hx => ?_, fun j x hj hx => ?_⟩
    · have := begAt_lt ((starts_mem (tabOf R) s x).1 (List.mem_of_getElem? hx)); omega
    · have := at_lt hx; omega
  unfold PL endsTo
  rw [h1, if_pos rfl, starts_clus H]
/-- all places -/
def PLs (R : List Rw) (s : List Int) : List Ps := (List.range (s.length + 1)).map (PL R s)
theorem PLs_len : (PLs R s).length = s.length + 1 := by simp [PLs]
theorem PLs_get {i : Nat} (h : i ≤ s.length) : (PLs R s)[i]? = some (PL R s i) := by
  unfold PLs; rw [List.getElem?_map, List.getElem?_range (by omega)]; rfl
theorem PLs_take {i : Nat} (h : i ≤ s.length) : (PLs R s).take (i + 1) = (PLs R s).take i ++ [PL R s i] := by rw [List.take_add_one, PLs_get h]; rfl
theorem PLs_take_len {i : Nat} (h : i ≤ s.length + 1) : ((PLs R s).take i).length = i := by rw [List.length_take, PLs_len]; omega
end
end Go.Proofs.YthlpelfogplomaaGreat

/- Units: the last place that is not behind a number; the numbers rise. No program is named here. -/
namespace Go.Proofs.YthlpelfogplomaaGreat

/-- a number of a place, by its kind -/
def psN (p : Ps) : Nat → Int
  | 0 => p.1
  | 1 => p.2.1
  | 2 => p.2.2.1
  | 3 => p.2.2.2.1
  | _ => p.2.2.2.2
theorem psE_at (p : Ps) {k : Nat} (h : k < 5) : (psE p)[k]? = some (.int .i64 (psN p k)) := by
  have : k = 0 ∨ k = 1 ∨ k = 2 ∨ k = 3 ∨ k = 4 := by omega
  rcases this with rfl | rfl | rfl | rfl | rfl <;> rfl
def psLe (p q : Ps) : Prop := ∀ k, psN p k ≤ psN q k
/-- how many places are not behind a number -/
def cntLe (L : List Ps) (k : Nat) (n : Int) : Nat := (L.takeWhile fun p => decide (psN p k ≤ n)).length
structure FoundP (L : List Ps) (k : Nat) (n : Int) (i : Nat) : Prop where
  le : i ≤ L.length
  lo : ∀ (j : Nat) (p : Ps), j < i → L[j]? = some p → psN p k ≤ n
  hi : ∀ (j : Nat) (p : Ps), i ≤ j → L[j]? = some p → ¬ psN p k ≤ n
theorem cnt_eq {k : Nat} {n : Int} : ∀ {L : List Ps} {i : Nat}, FoundP L k n i → cntLe L k n = i
  | [], i, h => by have := h.le; simp at this; subst this; rfl
  | x :: L, 0, h => by
    have := h.hi 0 x (Nat.le_refl _) rfl
    unfold cntLe
    rw [List.takeWhile_cons_of_neg (by simpa using this)]
    rfl
  | x :: L, i + 1, h => by
    have h0 := h.lo 0 x (by omega) rfl
    have ih := cnt_eq (L := L) (i := i) ⟨by have := h.le; simp at this; omega, fun j p hj hp => h.lo (j + 1) p (by omega) (by simpa using hp), fun j p hj hp => h.hi (j + 1) p (by omega) (by simpa using hp)⟩
    unfold cntLe at ih ⊢
    rw [List.takeWhile_cons_of_pos (by simpa using h0), List.length_cons, ih]
abbrev noP : Ps := (0, 0, 0, 0, 0)
/-- the last place that is not behind a number -/
def lastLe (L : List Ps) (k : Nat) (n : Int) : Ps := if cntLe L k n = 0 then noP else (L[cntLe L k n - 1]?).getD noP
section
variable {L : List Ps} {k : Nat} {n : Int}
theorem mono_at (h : L.Pairwise psLe) {i j : Nat} {p q : Ps} (hp : L[i]? = some p) (hq : L[j]? = some q) (hij : i ≤ j) (k : Nat) : psN p k ≤ psN q k := by
  rcases Nat.lt_or_ge i j with hl | hl
  · obtain ⟨a1, a2⟩ := List.getElem?_eq_some_iff.1 hp
    obtain ⟨b1, b2⟩ := List.getElem?_eq_some_iff.1 hq
    have := List.pairwise_iff_getElem.1 h i j a1 b1 hl k
    rw [a2, b2] at this
    exact this
  · have : i = j := by omega
    subst this
    rw [hp] at hq; cases hq; exact Int.le_refl _
theorem cnt_found (h : L.Pairwise psLe) : ∀ m, m ≤ L.length → (∀ j p, m ≤ j → L[j]? = some p → ¬ psN p k ≤ n) → ∃ i, FoundP L k n i
  | 0, _, hh => ⟨0, Nat.zero_le _, fun j p hj => by omega, hh⟩
  | m + 1, hm, hh => by
    obtain ⟨x, hx⟩ : ∃ x, L[m]? = some x := ⟨_, List.getElem?_eq_getElem (by omega)⟩
    by_cases hl : psN x k ≤ n
    · exact ⟨m + 1, hm, fun j p hj hp => Int.le_trans (mono_at h hp hx (by omega) k) hl, hh⟩
    · refine cnt_found h m (by omega) fun j p hj hp => ?_
      rcases Nat.eq_or_lt_of_le hj with rfl | hlt
      · rw [hx] at hp; cases hp; exact hl
      · exact hh j p hlt hp
theorem cnt_is (h : L.Pairwise psLe) : FoundP L k n (cntLe L k n) := by
  obtain ⟨i, hi⟩ := cnt_found (k := k) (n := n) h L.length (Nat.le_refl _) (fun j p hj hp => by have := (List.getElem?_eq_some_iff.1 hp).1; omega)
  rw [cnt_eq hi]; exact hi
theorem cnt_le : cntLe L k n ≤ L.length := by unfold cntLe; exact (List.takeWhile_prefix _).length_le
end
theorem sum_take (f : Int → Nat) (s : List Int) {i j : Nat} (h : i ≤ j) : ((s.take i).map f).sum ≤ ((s.take j).map f).sum := by
  have h1 : s.take j = s.take i ++ (s.take j).drop i := by
    rw [show s.take i = (s.take j).take i by rw [List.take_take, Nat.min_eq_left h]]
    exact (List.take_append_drop i (s.take j)).symm
  rw [h1, List.map_append, List.sum_append]
  omega
theorem takeWhile_len_mono {α} {p q : α → Bool} (h : ∀ x, p x = true → q x = true) : ∀ l : List α, (l.takeWhile p).length ≤ (l.takeWhile q).length
  | [] => Nat.le_refl _
  | x :: l => by
    by_cases hx : p x = true
    · rw [List.takeWhile_cons_of_pos hx, List.takeWhile_cons_of_pos (h x hx)]
      have := takeWhile_len_mono h l
      simp only [List.length_cons]; omega
    · rw [List.takeWhile_cons_of_neg hx]
      exact Nat.zero_le _
theorem ahd_mono (S : List Nat) {a b : Int} (h : a ≤ b) : ahd S a ≤ ahd S b := by
  unfold ahd
  exact takeWhile_len_mono (fun x hx => by simp only [decide_eq_true_eq] at hx ⊢; omega) S
section
variable {R : List Rw} {s : List Int}
theorem wdG_pos (R : List Rw) (LL : List (List Int)) : 0 ≤ wdG (lineG R LL) := (wdG_rng (fun g hg => (lineG_ok R g hg).1)).1
theorem colsTo_mono (R : List Rw) (s : List Int) {i j : Nat} (h : i ≤ j) : colsTo R s i ≤ colsTo R s j := by
  have h1 : (clus (tabOf R) s).take j = (clus (tabOf R) s).take i ++ ((clus (tabOf R) s).take j).drop i := by
    rw [show (clus (tabOf R) s).take i = ((clus (tabOf R) s).take j).take i by rw [List.take_take, Nat.min_eq_left h]]
    exact (List.take_append_drop i _).symm
  have h2 := wdG_pos R (((clus (tabOf R) s).take j).drop i)
  have h3 : lineG R ((clus (tabOf R) s).take j) = lineG R ((clus (tabOf R) s).take i) ++ lineG R (((clus (tabOf R) s).take j).drop i) := by
    conv => lhs; rw [h1]
    unfold lineG
    rw [List.flatMap_append]
  unfold colsTo
  rw [h3, wdG_app]
  omega
theorem endsTo_mono (H : (tabOf R).Ok) {i j : Nat} (hij : i ≤ j) : endsTo (tabOf R) s i ≤ endsTo (tabOf R) s j ∨ j > s.length ∨ i > s.length := by
  rcases Nat.lt_or_ge s.length j with h | h
  · exact .inr (.inl h)
  refine .inl ?_
  unfold endsTo
  have h1 := ahd_mono (starts (tabOf R) s) (a := (i : Int) + 1) (b := (j : Int) + 1) (by omega)
  have h2 := ahd_le (starts (tabOf R) s) ((i : Int) + 1)
  rw [starts_clus H] at h2
  split <;> split <;> omega
theorem PL_le (H : (tabOf R).Ok) {i j : Nat} (hij : i ≤ j) (hj : j ≤ s.length) : psLe (PL R s i) (PL R s j) := by
  have h1 := sum_take sizeN s hij
  have h2 := sum_take unN s hij
  have h3 := ahd_mono (starts (tabOf R) s) (a := (i : Int)) (b := (j : Int)) (by omega)
  have h4 := colsTo_mono R s (show endsTo (tabOf R) s i ≤ endsTo (tabOf R) s j by rcases endsTo_mono (s := s) H hij with h | h | h <;> omega)
  intro k
  match k with
  | 0 => show (i : Int) ≤ (j : Int); omega
  | 1 => show (bytesTo s i : Int) ≤ (bytesTo s j : Int); unfold bytesTo; omega
  | 2 => show (unitsTo s i : Int) ≤ (unitsTo s j : Int); unfold unitsTo; omega
  | 3 => show (ahd _ (i : Int) : Int) ≤ (ahd _ (j : Int) : Int); omega
  | _ + 4 => exact h4
theorem PLs_mono (H : (tabOf R).Ok) : (PLs R s).Pairwise psLe := by
  refine List.pairwise_iff_getElem.2 fun i j hi hj hij => ?_
  rw [PLs_len] at hi hj
  have e1 := (List.getElem?_eq_some_iff.1 (PLs_get (R := R) (s := s) (i := i) (by omega))).2
  have e2 := (List.getElem?_eq_some_iff.1 (PLs_get (R := R) (s := s) (i := j) (by omega))).2
  rw [e1, e2]
  exact PL_le H (by omega) (by omega)
theorem PL_zero : PL R s 0 = noP := by
  have hS := starts_sorted (tabOf R) s
  have h1 : ahd (starts (tabOf R) s) ((0 : Nat) : Int) = 0 := ahd_eq ⟨Nat.zero_le _, fun j x hj => by omega, fun j x _ hx => by omega⟩
  have h2 : endsTo (tabOf R) s 0 = 0 := by
    unfold endsTo
    by_cases h : s = []
    · subst h; rfl
    · rw [if_neg (by intro e; exact h (List.eq_nil_of_length_eq_zero e.symm))]
      have := ahd_within hS (i := 1) (starts_zero (tabOf R) h) (by omega) (fun b hb => by
        have := sorted_at hS (starts_zero (tabOf R) h) hb (by omega); omega)
      have e : (((1 : Nat) : Int)) = ((0 : Nat) : Int) + 1 := rfl
      rw [← e, this]
  unfold PL
  rw [h1, h2]
  simp [bytesTo, unitsTo, colsTo, lineG, wdG]
/-- the place at a number of scalars, of bytes, of units -/
theorem cnt_at (H : (tabOf R).Ok) {k i : Nat} (hi : i ≤ s.length) (hs : ∀ j, i < j → j ≤ s.length → psN (PL R s i) k < psN (PL R s j) k) : cntLe (PLs R s) k (psN (PL R s i) k) = i + 1 := by
  refine cnt_eq ⟨by rw [PLs_len]; omega, fun j p hj hp => mono_at (PLs_mono H) hp (PLs_get hi) (by omega) k, fun j p hj hp => ?_⟩
  have hjl := (List.getElem?_eq_some_iff.1 hp).1
  rw [PLs_len] at hjl
  rw [PLs_get (by omega)] at hp
  cases hp
  have := hs j (by omega) (by omega)
  omega
theorem last_at (H : (tabOf R).Ok) {k i : Nat} (hi : i ≤ s.length) (hs : ∀ j, i < j → j ≤ s.length → psN (PL R s i) k < psN (PL R s j) k) : lastLe (PLs R s) k (psN (PL R s i) k) = PL R s i := by
  unfold lastLe
  rw [cnt_at H hi hs, if_neg (by omega), Nat.add_sub_cancel, PLs_get hi]
  rfl
theorem sum_take_lt (f : Int → Nat) (hf : ∀ x, 1 ≤ f x) (s : List Int) {i j : Nat} (h : i < j) (hj : j ≤ s.length) : ((s.take i).map f).sum < ((s.take j).map f).sum := by
  obtain ⟨x, hx⟩ : ∃ x, s[i]? = some x := ⟨_, List.getElem?_eq_getElem (by omega)⟩
  have h1 := sum_take f s (i := i + 1) (j := j) (by omega)
  rw [List.take_add_one, hx, List.map_append, List.sum_append] at h1
  have := hf x
  have e : ((some x).toList.map f).sum = f x := by simp
  rw [e] at h1
  omega
theorem bytes_up {i j : Nat} (h : i < j) (hj : j ≤ s.length) : psN (PL R s i) 1 < psN (PL R s j) 1 := by
  have := sum_take_lt sizeN (fun x => (sizeN_rng x).1) s h hj
  show (bytesTo s i : Int) < (bytesTo s j : Int)
  unfold bytesTo; omega
theorem units_up {i j : Nat} (h : i < j) (hj : j ≤ s.length) : psN (PL R s i) 2 < psN (PL R s j) 2 := by
  have := sum_take_lt unN (fun x => (unN_rng x).1) s h hj
  show (unitsTo s i : Int) < (unitsTo s j : Int)
  unfold unitsTo; omega
theorem scalars_up {i j : Nat} (h : i < j) : psN (PL R s i) 0 < psN (PL R s j) 0 := by
  show (i : Int) < (j : Int); omega
/-- the document's loop: the last of the first i places that is not behind a number -/
theorem last_min (L : List Ps) (k : Nat) (n : Int) (h0 : (L[0]?).getD noP = noP) : (L[min L.length (cntLe L k n) - 1]?).getD noP = lastLe L k n := by
  rw [Nat.min_eq_right cnt_le]
  unfold lastLe
  by_cases h : cntLe L k n = 0
  · rw [if_pos h, h]; exact h0
  · rw [if_neg h]
end
theorem ahd_succ {S : List Nat} (hS : S.Pairwise (· < ·)) (k : Nat) : ahd S ((k : Int) + 1) = ahd S (k : Int) + (if k ∈ S then 1 else 0) := by
  have hF := ahd_found hS (k : Int)
  by_cases hm : k ∈ S
  · rw [if_pos hm]
    obtain ⟨j, hj⟩ := List.mem_iff_getElem?.1 hm
    have e : ahd S (k : Int) = j := by rw [ahd_on hS hj]
    rw [e]
    refine ahd_eq ⟨at_lt hj, fun q x hq hx => ?_, fun q x hq hx => ?_⟩
    · rcases Nat.lt_or_ge q j with h | h
      · have := sorted_at hS hx hj h; omega
      · have : q = j := by omega
        subst this
        rw [hx] at hj; cases hj; omega
    · have := sorted_at hS hj hx (by omega); omega
  · rw [if_neg hm, Nat.add_zero]
    refine ahd_eq ⟨hF.le, fun q x hq hx => by have := hF.lo q x hq hx; omega, fun q x hq hx => ?_⟩
    have h1 := hF.hi q x hq hx
    have h2 : x ≠ k := fun e => hm (by rw [← e]; exact List.mem_of_getElem? hx)
    omega
section
variable {R : List Rw} {s : List Int}
theorem endsTo_eq {k i : Nat} (hk : k < (starts (tabOf R) s).length) (h1 : bd (starts (tabOf R) s) s.length k ≤ i) (h2 : i < bd (starts (tabOf R) s) s.length (k + 1)) : endsTo (tabOf R) s i = k := by
  have hS := starts_sorted (tabOf R) s
  obtain ⟨a, ha⟩ := at_some hk
  rw [bd_some ha] at h1
  have hn : i < s.length := by
    rcases Nat.lt_or_ge (k + 1) (starts (tabOf R) s).length with h | h
    · obtain ⟨b, hb⟩ := at_some h
      rw [bd_some hb] at h2
      have := begAt_lt ((starts_mem (tabOf R) s b).1 (List.mem_of_getElem? hb))
      omega
    · unfold bd at h2
      rw [List.getElem?_eq_none h] at h2
      exact h2
  unfold endsTo
  rw [if_neg (by omega)]
  have := ahd_within hS (i := i + 1) ha (by omega) (fun b hb => by rw [bd_some hb] at h2; omega)
  have e : ((i + 1 : Nat) : Int) = (i : Int) + 1 := by omega
  rw [e] at this
  omega
theorem endsTo_end : endsTo (tabOf R) s s.length = (clus (tabOf R) s).length := by unfold endsTo; rw [if_pos rfl]
theorem bds_of : Bds (starts (tabOf R) s) s.length := by
  refine ⟨starts_sorted _ _, fun x hx => begAt_lt ((starts_mem _ s x).1 hx), ?_⟩
  by_cases h : s = []
  · subst h; exact .inr ⟨by rw [starts_nil]; rfl, rfl⟩
  · exact .inl (starts_zero _ h)
/-- a cluster, and where it ends -/
theorem clus_bd (H : (tabOf R).Ok) {k : Nat} {c : List Int} (h : (clus (tabOf R) s)[k]? = some c) : k < (starts (tabOf R) s).length ∧ bd (starts (tabOf R) s) s.length k + c.length = bd (starts (tabOf R) s) s.length (k + 1) := by
  have hk : k < (starts (tabOf R) s).length := by rw [starts_clus H]; exact (List.getElem?_eq_some_iff.1 h).1
  refine ⟨hk, ?_⟩
  obtain ⟨a, ha⟩ := at_some hk
  rw [bd_some ha]
  rw [clus_get H ha] at h
  cases h
  obtain ⟨h1, h2, _, _⟩ := nx_spec H ((starts_mem (tabOf R) s a).1 (List.mem_of_getElem? ha))
  rw [List.length_take, List.length_drop, Nat.min_eq_left (by omega)]
  have h3 := start_next H ha
  rcases Nat.lt_or_ge (k + 1) (starts (tabOf R) s).length with h | h
  · rw [bd_some (h3.1 h)]; rfl
  · have h4 := h3.2 (by omega)
    unfold bd
    rw [List.getElem?_eq_none h]
    exact h4
end
/-- is it a kind? -/
def kindOk (k : Int) : Bool := decide (0 ≤ k) && decide (k ≤ 4)
/-- the last place that is not behind a number of a kind -/
def atP (L : List Ps) (kind n : Int) : Ps := if kindOk kind = true then lastLe L kind.toNat n else noP
/-- the document's loop, behind so many places -/
def midP (L : List Ps) (k : Nat) (n : Int) (i : Nat) : Ps := (L[min i (cntLe L k n) - 1]?).getD noP
section
variable {L : List Ps} {k : Nat} {n : Int}
theorem mid_zero (h0 : L[0]? = some noP) : midP L k n 0 = noP := by
  unfold midP
  rw [Nat.zero_min, Nat.zero_sub, h0]
  rfl
theorem mid_le (hP : L.Pairwise psLe) {i : Nat} {x : Ps} (hx : L[i]? = some x) (h : psN x k ≤ n) : midP L k n (i + 1) = x := by
  have hF := cnt_is (k := k) (n := n) hP
  have : i < cntLe L k n := Nat.lt_of_not_le fun hle => hF.hi i x hle hx h
  unfold midP
  rw [Nat.min_eq_left (by omega), Nat.add_sub_cancel, hx]
  rfl
theorem mid_gt (hP : L.Pairwise psLe) {i : Nat} {x : Ps} (hx : L[i]? = some x) (h : ¬ psN x k ≤ n) : midP L k n (i + 1) = midP L k n i := by
  have hF := cnt_is (k := k) (n := n) hP
  have : cntLe L k n ≤ i := Nat.le_of_not_lt fun hlt => h (hF.lo i x hlt hx)
  unfold midP
  rw [Nat.min_eq_right (by omega), Nat.min_eq_right this]
theorem mid_end (h0 : L[0]? = some noP) : midP L k n L.length = lastLe L k n := last_min L k n (by rw [h0]; rfl)
end
end Go.Proofs.YthlpelfogplomaaGreat

/- Flow: the rows, one behind the other. No program is named here. -/
namespace Go.Proofs.YthlpelfogplomaaGreat

theorem szL_app (A B : List (List Int)) : szL (A ++ B) = szL A + szL B := by unfold szL; rw [List.map_append, List.sum_append]
theorem szL_cut (LL : List (List Int)) (k n : Nat) : szL (LL.take (k + n)) = szL (LL.take k) + szL ((LL.drop k).take n) := by
  rw [List.take_add, szL_app]
/-- rows from cluster k on, each as it should be -/
def ChainR (R : List Rw) (cols : Int) (LL : List (List Int)) : Nat → List Rw3 → Prop
  | k, [] => k = LL.length
  | k, r :: L => ∃ e, k < e ∧ e ≤ LL.length ∧ r = (((szL (LL.take k) : Nat) : Int), ((szL (LL.take e) : Nat) : Int), shW R ((LL.drop k).take (e - k))) ∧ (r.2.2 ≤ cols ∨ e = k + 1) ∧ ChainR R cols LL e L
theorem rowsFl_chain (R : List Rw) (cols : Int) (LL : List (List Int)) : ∀ (f k : Nat), LL.length - k ≤ f → k ≤ LL.length → ChainR R cols LL k (rowsFl R cols (LL.drop k) (szL (LL.take k)))
  | 0, k, hf, hk => by
    rw [List.drop_eq_nil_of_le (by omega), rowsFl_nil]
    show k = LL.length
    omega
  | f + 1, k, hf, hk => by
    rcases Nat.lt_or_ge k LL.length with h | h
    · have hne : LL.drop k ≠ [] := fun e => by have := congrArg List.length e; rw [List.length_drop] at this; simp at this; omega
      have hrg := endN_rng (R := R) (cols := cols) hne
      have hfit := endN_fit (R := R) (cols := cols) hne
      rw [List.length_drop] at hrg
      rw [rowsFl_step R cols hne, ← szL_cut, List.drop_drop]
      refine ⟨k + endN R (LL.drop k) cols, by omega, by omega, by rw [Nat.add_sub_cancel_left], ?_, rowsFl_chain R cols LL f _ (by omega) (by omega)⟩
      rcases hfit with h1 | h1
      · left
        unfold fitN at h1
        rw [decide_eq_true_eq] at h1
        exact h1
      · right; rw [h1]
    · rw [List.drop_eq_nil_of_le (by omega), rowsFl_nil]
      show k = LL.length
      omega
theorem rowsFl_all (R : List Rw) (cols : Int) (LL : List (List Int)) : ChainR R cols LL 0 (rowsFl R cols LL 0) := rowsFl_chain R cols LL LL.length 0 (by omega) (Nat.zero_le _)
section
variable {R : List Rw} {cols : Int} {LL : List (List Int)}
theorem chain_nil {k : Nat} : ChainR R cols LL k [] → k = LL.length := id
theorem szL_lt (hne : ∀ c ∈ LL, c ≠ []) {k e : Nat} (h : k < e) (he : e ≤ LL.length) : szL (LL.take k) < szL (LL.take e) := by
  obtain ⟨c, hc⟩ : ∃ c, LL[k]? = some c := ⟨_, List.getElem?_eq_getElem (by omega)⟩
  have h1 : LL.take (k + 1) = LL.take k ++ [c] := by rw [List.take_add_one, hc]; rfl
  have h2 := szL_cut LL (k + 1) (e - (k + 1))
  rw [show k + 1 + (e - (k + 1)) = e by omega, h1, szL_app] at h2
  have h3 : 0 < c.length := List.length_pos_iff.2 (hne c (List.mem_of_getElem? hc))
  have h4 : szL [c] = c.length := by simp [szL]
  omega
/-- at a row, when all rows ahead of it are passed -/
theorem chain_at {L : List Rw3} : ∀ {i k : Nat} {r : Rw3}, ChainR R cols LL k L → L[i]? = some r → ∃ k', ChainR R cols LL k' (L.drop i) := by
  intro i
  induction L generalizing i with
  | nil => intro k r _ h; simp at h
  | cons x L ih =>
    intro k r hC h
    cases i with
    | zero => exact ⟨k, hC⟩
    | succ i =>
      obtain ⟨e, _, _, _, _, h5⟩ := hC
      exact ih h5 (by simpa using h)
theorem chain_cons {k : Nat} {L : List Rw3} {i : Nat} {r : Rw3} (hC : ChainR R cols LL k (L.drop i)) (hr : L[i]? = some r) : ∃ e, k < e ∧ e ≤ LL.length ∧ r = (((szL (LL.take k) : Nat) : Int), ((szL (LL.take e) : Nat) : Int), shW R ((LL.drop k).take (e - k))) ∧ (r.2.2 ≤ cols ∨ e = k + 1) ∧ ChainR R cols LL e (L.drop (i + 1)) := by
  have hi := (List.getElem?_eq_some_iff.1 hr).1
  have e : L.drop i = r :: L.drop (i + 1) := by
    rw [List.drop_eq_getElem_cons hi, (List.getElem?_eq_some_iff.1 hr).2]
  rw [e] at hC
  exact hC
theorem chain_end {k : Nat} {L : List Rw3} {i : Nat} (hC : ChainR R cols LL k (L.drop i)) (hi : L.length ≤ i) : k = LL.length := by
  rw [List.drop_eq_nil_of_le hi] at hC
  exact hC
theorem chain_more {k : Nat} {L : List Rw3} {i : Nat} (hC : ChainR R cols LL k (L.drop i)) (hi : i < L.length) : k < LL.length := by
  obtain ⟨e, h1, h2, _⟩ := chain_cons hC (List.getElem?_eq_getElem hi)
  omega
end
theorem chain_len {R : List Rw} {cols : Int} {LL : List (List Int)} : ∀ {L : List Rw3} {k : Nat}, ChainR R cols LL k L → k + L.length ≤ LL.length
  | [], k, h => by have := chain_nil h; simp; omega
  | r :: L, k, ⟨e, h1, h2, _, _, h5⟩ => by
    have := chain_len h5
    simp only [List.length_cons]
    omega
/-- the widest of rows -/
def wideR : List Rw3 → Int → Int
  | [], n => n
  | r :: L, n => wideR L (max n r.2.2)
theorem wideR_snoc (L : List Rw3) (r : Rw3) : ∀ n, wideR (L ++ [r]) n = max (wideR L n) r.2.2 := by
  induction L with
  | nil => intro n; rfl
  | cons x L ih => intro n; exact ih _
section
variable {T : Tab}
theorem runLen_take : ∀ (st : St) (l : List Int), runLen T st (l.take (runLen T st l)) = runLen T st l
  | st, [] => rfl
  | st, r :: l => by
    by_cases h : cutB T st r = true
    · simp [runLen, h]
    · have hf : cutB T st r = false := by simpa using h
      have ih := runLen_take (nextSt T st r) l
      simp only [runLen, hf]
      simp only [Bool.false_eq_true, if_false, List.take_succ_cons, runLen, hf]
      rw [ih]
theorem nx_take : ∀ (s : List Int), nx T (s.take (nx T s)) = nx T s
  | [] => rfl
  | r :: l => by
    show nx T ((r :: l).take (runLen T (nextSt T St0 r) l + 1)) = _
    rw [List.take_succ_cons]
    show runLen T (nextSt T St0 r) (l.take (runLen T (nextSt T St0 r) l)) + 1 = runLen T (nextSt T St0 r) l + 1
    rw [runLen_take]
/-- a cluster, taken for a text, has one -/
theorem clus_one (H : T.Ok) {s c : List Int} {k : Nat} (h : (clus T s)[k]? = some c) : clus T c = [c] := by
  have hk : k < (starts T s).length := by rw [starts_clus H]; exact (List.getElem?_eq_some_iff.1 h).1
  obtain ⟨a, ha⟩ := at_some hk
  have h1 := clus_get H ha
  rw [h] at h1
  have hc : c = (s.drop a).take (nx T (s.drop a)) := Option.some.inj h1
  have hb := begAt_lt ((starts_mem T s a).1 (List.mem_of_getElem? ha))
  have hp := nx_spec H ((starts_mem T s a).1 (List.mem_of_getElem? ha))
  have hn : nx T c = c.length := by
    rw [hc, nx_take, List.length_take, List.length_drop]; omega
  have hne : c ≠ [] := by
    intro e
    rw [e] at hn hc
    have := congrArg List.length hc
    rw [List.length_take, List.length_drop] at this
    simp at this
    omega
  rw [clus_step T hne, hn, List.take_length, List.drop_length, clus_nil]
end
end Go.Proofs.YthlpelfogplomaaGreat

/- Units: blanks in the place of tabs, plainly. No program is named here. -/
namespace Go.Proofs.YthlpelfogplomaaGreat

/-- how many blanks stand in a tab's place -/
def gapN (stop col : Int) : Nat := (stop - col % stop).toNat
/-- does a line end with a cluster? -/
def endsL (c : List Int) : Bool := decide (c[0]? = some 10) || decide (c[0]? = some 13)
/-- clusters, with blanks in the place of tabs, from a column on -/
def tabsL (R : List Rw) (stop : Int) : Int → List (List Int) → List Int
  | _, [] => []
  | col, c :: LL => if c = [9] then List.replicate (gapN stop col) 32 ++ tabsL R stop (col + gapN stop col) LL
    else if endsL c = true then c ++ tabsL R stop 0 LL
    else c ++ tabsL R stop (col + wC R c) LL
section
variable {R : List Rw} {stop : Int}
theorem gapN_rng (h : 1 ≤ stop) (col : Int) : 1 ≤ gapN stop col ∧ ((gapN stop col : Nat) : Int) = stop - col % stop ∧ ((gapN stop col : Nat) : Int) ≤ stop := by
  have h1 := Int.emod_nonneg col (show stop ≠ 0 by omega)
  have h2 := Int.emod_lt_of_pos col (show 0 < stop by omega)
  unfold gapN
  omega
theorem tabsL_len (h : 1 ≤ stop) : ∀ (LL : List (List Int)) (col : Int), ((tabsL R stop col LL).length : Int) ≤ (szL LL : Int) * stop
  | [], col => by simp [tabsL, szL]
  | c :: LL, col => by
    have e : szL (c :: LL) = c.length + szL LL := by simp [szL]
    have hm : (((c.length + szL LL : Nat)) : Int) * stop = (c.length : Int) * stop + (szL LL : Int) * stop := by rw [← Int.add_mul]; simp
    unfold tabsL
    rw [e, hm]
    by_cases h9 : c = [9]
    · rw [if_pos h9, List.length_append, List.length_replicate]
      have h1 := tabsL_len h LL (col + gapN stop col)
      have h2 := (gapN_rng h col).2.2
      subst h9
      simp only [List.length_singleton]
      omega
    · rw [if_neg h9]
      have h3 : (c.length : Int) ≤ (c.length : Int) * stop := by
        have := Int.mul_le_mul_of_nonneg_left (show 1 ≤ stop from h) (show (0 : Int) ≤ (c.length : Int) by omega)
        omega
      by_cases hE : endsL c = true
      · rw [if_pos hE, List.length_append]
        have h1 := tabsL_len h LL 0
        omega
      · rw [if_neg hE, List.length_append]
        have h1 := tabsL_len h LL (col + wC R c)
        omega
theorem tabsL_none : ∀ (LL : List (List Int)) (col : Int), (∀ c ∈ LL, c ≠ [9]) → tabsL R stop col LL = LL.flatten
  | [], _, _ => rfl
  | c :: LL, col, h => by
    have hc := h c List.mem_cons_self
    have ht := fun d (hd : d ∈ LL) => h d (List.mem_cons_of_mem _ hd)
    unfold tabsL
    rw [if_neg hc, List.flatten_cons]
    split
    · rw [tabsL_none LL 0 ht]
    · rw [tabsL_none LL _ ht]
theorem tabsL_free : ∀ (LL : List (List Int)) (col : Int), (∀ c ∈ LL, 9 ∈ c → c = [9]) → ¬ 9 ∈ tabsL R stop col LL
  | [], _, _ => by simp [tabsL]
  | c :: LL, col, h => by
    have hc := h c List.mem_cons_self
    have ht := fun d (hd : d ∈ LL) => h d (List.mem_cons_of_mem _ hd)
    unfold tabsL
    by_cases h9 : c = [9]
    · rw [if_pos h9]
      intro hm
      rcases List.mem_append.1 hm with hm | hm
      · have := (List.mem_replicate.1 hm).2; omega
      · exact tabsL_free LL _ ht hm
    · rw [if_neg h9]
      split
      · intro hm
        rcases List.mem_append.1 hm with hm | hm
        · exact h9 (hc hm)
        · exact tabsL_free LL _ ht hm
      · intro hm
        rcases List.mem_append.1 hm with hm | hm
        · exact h9 (hc hm)
        · exact tabsL_free LL _ ht hm
theorem tabsL_ok : ∀ (LL : List (List Int)) (col : Int), (∀ c ∈ LL, RunesOk c) → RunesOk (tabsL R stop col LL)
  | [], _, _ => by intro x hx; simp [tabsL] at hx
  | c :: LL, col, h => by
    have hc := h c List.mem_cons_self
    have ht := fun d (hd : d ∈ LL) => h d (List.mem_cons_of_mem _ hd)
    unfold tabsL
    split
    · intro x hx
      rcases List.mem_append.1 hx with hx | hx
      · rw [(List.mem_replicate.1 hx).2]; unfold I32; omega
      · exact tabsL_ok LL _ ht x hx
    · split
      · intro x hx
        rcases List.mem_append.1 hx with hx | hx
        · exact hc x hx
        · exact tabsL_ok LL _ ht x hx
      · intro x hx
        rcases List.mem_append.1 hx with hx | hx
        · exact hc x hx
        · exact tabsL_ok LL _ ht x hx
end
section
variable {T : Tab} {s : List Int}
theorem beg_hard (h9 : T.b 9 = 3) {i : Nat} (h : s[i]? = some 9) : begAt T s i = true := by
  unfold begAt
  rw [h]
  show begB T (s.take i).reverse 9 = true
  unfold begB
  split
  · rfl
  · rw [if_neg (by rw [h9]; omega), if_pos (by rw [h9]; simp [hardB])]
theorem beg_behind (h9 : T.b 9 = 3) {i : Nat} (h : s[i]? = some 9) (hi : i + 1 < s.length) : begAt T s (i + 1) = true := by
  obtain ⟨r, hr⟩ : ∃ r, s[i + 1]? = some r := ⟨_, List.getElem?_eq_getElem hi⟩
  have e : (s.take (i + 1)).reverse = 9 :: (s.take i).reverse := by
    rw [List.take_add_one, h, List.reverse_append]; rfl
  unfold begAt
  rw [hr]
  show begB T (s.take (i + 1)).reverse r = true
  rw [e]
  unfold begB
  dsimp only
  rw [if_neg (by rw [h9]; omega), if_pos (by rw [h9]; simp [hardB])]
/-- a tab is a cluster of its own -/
theorem tab_alone (H : T.Ok) (h9 : T.b 9 = 3) : ∀ c ∈ clus T s, 9 ∈ c → c = [9] := by
  intro c hc hm
  obtain ⟨k, hk⟩ := List.mem_iff_getElem?.1 hc
  have hkl : k < (starts T s).length := by rw [starts_clus H]; exact (List.getElem?_eq_some_iff.1 hk).1
  obtain ⟨a, ha⟩ := at_some hkl
  have h1 := clus_get H ha
  rw [hk] at h1
  have hce : c = (s.drop a).take (nx T (s.drop a)) := Option.some.inj h1
  obtain ⟨p1, p2, p3, _⟩ := nx_spec H ((starts_mem T s a).1 (List.mem_of_getElem? ha))
  generalize nx T (s.drop a) = n at hce p1 p2 p3
  have hcl : c.length = n := by rw [hce, List.length_take, List.length_drop]; omega
  have hat : ∀ j, j < n → c[j]? = s[a + j]? := fun j hj => by rw [hce, List.getElem?_take, if_pos hj, List.getElem?_drop]
  obtain ⟨j, hj⟩ := List.mem_iff_getElem?.1 hm
  have hjn : j < n := by rw [← hcl]; exact (List.getElem?_eq_some_iff.1 hj).1
  rw [hat j hjn] at hj
  have hj0 : j = 0 := by
    rcases Nat.eq_zero_or_pos j with h | h
    · exact h
    · have := p3 (a + j) (by omega) (by omega)
      rw [beg_hard h9 hj] at this
      cases this
  subst hj0
  have hn1 : n = 1 := by
    rcases Nat.lt_or_ge 1 n with h | h
    · have := p3 (a + 1) (by omega) (by omega)
      rw [beg_behind h9 hj (by omega)] at this
      cases this
    · omega
  subst hn1
  have h0 := hat 0 (by omega)
  rw [hj] at h0
  match c, hcl, h0 with
  | [x], _, h0 => have : x = 9 := by simpa using h0
                  rw [this]
end
/-- blanks once put stay -/
theorem tabs_again {R : List Rw} {stop : Int} {s : List Int} (H : (tabOf R).Ok) (h9 : (tabOf R).b 9 = 3) : tabsL R stop 0 (clus (tabOf R) (tabsL R stop 0 (clus (tabOf R) s))) = tabsL R stop 0 (clus (tabOf R) s) := by
  have hf := tabsL_free (R := R) (stop := stop) (clus (tabOf R) s) 0 (tab_alone H h9)
  generalize tabsL R stop 0 (clus (tabOf R) s) = t at hf ⊢
  rw [tabsL_none, clus_flat (tabOf R) t.length t (Nat.le_refl _)]
  intro c hc e
  refine hf ?_
  rw [← clus_flat (tabOf R) t.length t (Nat.le_refl _)]
  exact List.mem_flatten.2 ⟨c, hc, by rw [e]; exact List.mem_singleton.2 rfl⟩
end Go.Proofs.YthlpelfogplomaaGreat

/- units.Tabs: its walk. -/
namespace Go.Proofs.YthlpelfogplomaaGreat
open Go.RowKit

/-- how far into a tab's place -/
theorem gap_mod {stop col : Int} (h : 1 ≤ stop) {j : Nat} (h1 : 1 ≤ j) (h2 : j ≤ gapN stop col) : (col + (j : Int)) % stop = 0 ↔ j = gapN stop col := by
  have hg := (gapN_rng h col).2.1
  have hr := Int.emod_nonneg col (show stop ≠ 0 by omega)
  have e : (col + (j : Int)) % stop = (col % stop + (j : Int)) % stop := by rw [Int.emod_add_emod]
  rw [e]
  rcases Nat.lt_or_ge j (gapN stop col) with hl | hl
  · rw [Int.emod_eq_of_lt (by omega) (by omega)]
    constructor <;> intro h <;> omega
  · have hj : j = gapN stop col := by omega
    have e2 : col % stop + (j : Int) = stop := by omega
    rw [e2, Int.emod_self]
    exact ⟨fun _ => hj, fun _ => rfl⟩
theorem tabsL_cons (R : List Rw) (stop col : Int) (c : List Int) (LL : List (List Int)) : tabsL R stop col (c :: LL) = if c = [9] then List.replicate (gapN stop col) 32 ++ tabsL R stop (col + gapN stop col) LL
    else if endsL c = true then c ++ tabsL R stop 0 LL
    else c ++ tabsL R stop (col + wC R c) LL := by conv => lhs; unfold tabsL
theorem wC_le (R : List Rw) (c : List Int) : wC R c ≤ 4 * c.length := by
  have h1 := glOf_le R c
  have h2 := wdG_rng (L := glOf R c) (fun g hg => (lineG_ok R (LL := [c]) g (by simpa [lineG] using hg)).1)
  unfold wC
  omega
section
variable {R : List Rw} {s : List Int} {w : World} {sv : Value} {tp : Nat}
set_option maxRecDepth 100000 in
set_option maxHeartbeats 8000000 in
theorem utabs_any {stop : Int} (h1 : 1 ≤ stop) (h2 : stop ≤ 1000) (hT : Tb R w tp) (hs : RunesIn w sv s) (ok : RunesOk s) (hl : s.length ≤ 65536) (hsz : (tabsL R stop 0 (clus (tabOf R) s)).length ≤ 65536) :
    Calls Tryz.prog 21 #[.pointer (some ⟨tp, 0, none⟩), sv, .int .i64 stop] w fun e w' => ∃ u, e = .returned (.tuple #[u, .int .i64 0]) ∧ Below w.heap.size w w' ∧ RunesIn w' u (tabsL R stop 0 (clus (tabOf R) s)) := by
  have HT := Lib.hid hT
  have HCl := Lib.hid (clusters_any hT hs ok (by omega))
  have HNe := Lib.hid (clus_ne (tabOf R) s.length s (Nat.le_refl _))
  have HMem := Lib.hid (fun c (h : c ∈ clus (tabOf R) s) (x : Int) (hx : x ∈ c) => ok x (clus_mem (tabOf R) s.length s (Nat.le_refl _) c h x hx))
  have hLl : (clus (tabOf R) s).length ≤ s.length := clusN_len (tabOf R) s.length s
  have hSz : szL (clus (tabOf R) s) = s.length := by rw [szL_flat, clus_flat (tabOf R) s.length s (Nat.le_refl _)]
  have HTk := Lib.hid (szL_take_le (clus (tabOf R) s))
  generalize clus (tabOf R) s = LL at HCl HNe HMem hLl hSz HTk hsz ⊢
  obtain ⟨sl, cap, rfl, hcap, hmax, _⟩ := runes_cells hs
  unfold maxLen at hmax
  clear hT hs ok
  have q1 : decide (stop < 1) = false := decide_eq_false (by omega)
  have q2 : decide (stop > 1000) = false := decide_eq_false (by omega)
  go_enter Tryz.func21, Tryz.ntmps21
  go_wp2_with fail
  refine HCl.out.mono ?_
  rintro e w1 ⟨tu, rfl, hB1, hX1⟩
  have HB1 := Lib.hid hB1
  have HX := Lib.hid hX1
  have HT1 := Lib.hid (HT.out.below hB1)
  obtain ⟨ta, tcap, rfl, ht1, ht2⟩ := texts_shape hX1
  unfold maxLen at ht2
  clear hB1 hX1 HCl HT q1 q2
  go_wp2_with fail
  go_loopw [8, 9, 25] (fun ov cv iv wr => ∃ (k : Nat) (col : Int) (o : List Int), k ≤ LL.length ∧ cv = .int .i64 col ∧ iv = .int .i64 ((k : Nat) : Int) ∧ Below w1.heap.size w1 wr ∧ wr.ownsRow w1.heap.size 21 1 ov o.length (o.flatMap runeE) ∧ 0 ≤ col ∧ col ≤ 1000 * (szL (LL.take k) : Nat) ∧ o ++ tabsL R stop col (LL.drop k) = tabsL R stop 0 LL) (fun _ _ iv _ => LL.length - (intOf iv).toNat)
  case atStart => exact ⟨0, 0, [], Nat.zero_le _, rfl, rfl, .refl _ _, World.ownsRow_nil _ _ _ _, Int.le_refl _, by simp [szL], rfl⟩
  case round =>
    obtain ⟨k, col, o, hk, rfl, rfl, hB, hO, hc0, hc1, hR⟩ := hrel
    have HB := Lib.hid hB
    have HO := Lib.hid hO
    have HRr := Lib.hid hR
    obtain ⟨pa, pc, rfl⟩ := slice_of_owns hO
    have hsz1 := HTk.out k
    have hol : o.length ≤ 65536 := by
      have := congrArg List.length hR
      rw [List.length_append] at this
      omega
    by_cases hlt : k < LL.length
    · obtain ⟨c, hc⟩ : ∃ c, LL[k]? = some c := ⟨LL[k], List.getElem?_eq_getElem hlt⟩
      have hcm := List.mem_of_getElem? hc
      have HC := Lib.hid hc
      have hcl := HNe.out c hcm
      have hsn := szL_snoc LL hc
      have hsz2 := HTk.out (k + 1)
      have hdr : LL.drop k = c :: LL.drop (k + 1) := by
        have h1 := List.getElem?_eq_some_iff.1 hc
        rw [List.drop_eq_getElem_cons h1.1, h1.2]
      rw [hdr] at hR
      have HRr := Lib.hid hR
      obtain ⟨tb, toff, cp, cu, hv, _, _, _, _, d0, hcu0⟩ := texts_cell HX.out hc
      cases hv
      have d0 := cell_later hB d0
      have hcu := hcu0.below hB
      obtain ⟨x, hx⟩ : ∃ x, c[0]? = some x := ⟨c[0]'(List.length_pos_iff.2 hcl.1), List.getElem?_eq_getElem _⟩
      obtain ⟨rb, roff, rcap, hv, _, hrc, hcp, _, l0⟩ := rune_cell hcu hx
      cases hv
      have l0 : wr.cell? ⟨rb, roff, none⟩ = some (.int .i32 x) := by simpa using l0
      have HCu0 := Lib.hid hcu0
      have HCu := Lib.hid hcu
      have HOkc := Lib.hid (show RunesOk c from HMem.out c hcm)
      have s0 : (k : Int) < (LL.length : Int) := by omega
      have s1 : (0 : Int) ≤ (k : Int) := by omega
      have s2 : (0 : Int) < (c.length : Int) := by omega
      have e1 := IntWalk.i64_in ((k : Int) + 1) (by omega)
      have hbs := hB.size
      have HSn := Lib.hid hsn
      have hclen : c.length ≤ 65536 := by omega
      have hcb : col ≤ 100000000 := by omega
      by_cases h9 : c = [9]
      case' pos =>
        have hx9 : x = 9 := by rw [h9] at hx; simpa using hx.symm
        subst hx9
        have g1 : ((c.length : Int) == 1) = true := by rw [h9]; rfl
        have HGp := Lib.hid (gapN_rng h1 col)
        have HMd := Lib.hid (fun (j : Nat) => gap_mod (col := col) (j := j) h1)
        have HT2 := Lib.hid (show o ++ (List.replicate (gapN stop col) 32 ++ tabsL R stop (col + gapN stop col) (LL.drop (k + 1))) = tabsL R stop 0 LL by
          have h := HRr.out
          rw [tabsL_cons, if_pos h9] at h
          exact h)
        generalize gapN stop col = n at HGp HMd HT2
        have hn := HGp.out
        have hstop : ¬ stop = 0 := by omega
        have hstop1 : ¬ stop = -1 := by omega
        have HKs := Lib.hid (show 1 ≤ c.length from by omega)
        clear hB hO hR hc hcm hcu hcu0 hx hlt hdr h9 hsn
        go_wp2_with fail
        go_loopw [8, 9, 12] (fun ov cv mv wr2 => ∃ (j : Nat) (o2 : List Int) (col2 : Int), j ≤ n ∧ cv = .int .i64 col2 ∧ mv = .bool (decide (j < n)) ∧ Below w1.heap.size w1 wr2 ∧ wr2.ownsRow w1.heap.size 21 1 ov o2.length (o2.flatMap runeE) ∧ col2 = col + (j : Int) ∧ o2 = o ++ List.replicate j 32) (fun _ cv _ _ => (col + (n : Int) - intOf cv).toNat)
        case atStart => exact ⟨0, o, col, Nat.zero_le _, rfl, by rw [decide_eq_true (by omega)], HB.out, HO.out, by simp, by simp⟩
        case round =>
          obtain ⟨j, o2, col2, hj, rfl, rfl, hBj, hOj, hcj, hoj⟩ := hrel
          have HBj := Lib.hid hBj
          have HOj := Lib.hid hOj
          obtain ⟨ja, jc, rfl⟩ := slice_of_owns hOj
          have hbs2 := hBj.size
          have HOe := Lib.hid hoj
          have HCe := Lib.hid hcj
          have ho2l : o2.length ≤ 70000 := by rw [hoj, List.length_append, List.length_replicate]; omega
          by_cases hjn : j < n
          · have g3 : decide (j < n) = true := decide_eq_true hjn
            rw [g3]
            have hbig : (o2.length + 1) * 4 ≤ 140737488355328 := by omega
            obtain ⟨col3, hcol3⟩ : ∃ col3, col3 = col2 + 1 := ⟨_, rfl⟩
            have e4 : IntKind.i64.wrap (col2 + 1) = col3 := by rw [hcol3]; exact IntWalk.i64_in (col2 + 1) (by omega)
            have hc3 : col3 = col + ((j + 1 : Nat) : Int) := by rw [hcol3, hcj]; omega
            have e5 : col3.tmod stop = col3 % stop := Int.tmod_eq_emod_of_nonneg (by omega)
            have HM := Lib.hid (show col3 % stop = 0 ↔ j + 1 = n by rw [hc3]; exact HMd.out (j + 1) (by omega) (by omega))
            have HC3 := Lib.hid hc3
            have hr3 := Int.emod_nonneg col3 hstop
            have hr4 := Int.emod_lt_of_pos col3 (show 0 < stop by omega)
            obtain ⟨md, hmd⟩ : ∃ md, md = col3 % stop := ⟨_, rfl⟩
            rw [← hmd] at e5 hr3 hr4 HM
            have e6 := IntWalk.i64_in md (by omega)
            clear hBj hOj hcj hoj hc3 hcol3 hmd g3
            go_wp2_with (at_builtin; go_loud (refine wpList_app1 _ rfl (.tmp 60) (.tmp 61) _ rfl ER _ _ _ rfl HOj.out 1 1 (runeE 32) rfl (by decide) rfl (by intro u hu; simp [runeE] at hu; subst hu; rfl) hbig hbs2 ?_); intro g cp7 w7 ho7 hg7 hf7; have HB7 := Lib.hid (below_app HBj.out hbs2 HOj.out (Nat.le_refl _) hg7); have HO7 := Lib.hid ho7; clear ho7 hg7 hf7)
            go_roundw
            case rel =>
              refine ⟨j + 1, o2 ++ [32], col3, by omega, rfl, ?_, HB7.out, by rw [List.length_append, flat_snoc]; exact HO7.out, HC3.out, ?_⟩
              · have h := HM.out
                congr 1
                rw [Bool.eq_iff_iff]
                simp only [bne_iff_ne, decide_eq_true_eq]
                omega
              · rw [HOe.out, List.append_assoc, List.replicate_succ']
            case measure =>
              have h := HC3.out
              have h2 := HCe.out
              simp only [intOf]
              omega
          · have hje : j = n := by omega
            subst hje
            have HRn := Lib.hid (show o2 ++ tabsL R stop col2 (LL.drop (k + 1)) = tabsL R stop 0 LL by
              rw [hoj, hcj, List.append_assoc]
              exact HT2.out)
            have hol2 : o2.length ≤ 65536 := by
              have := congrArg List.length HRn.out
              rw [List.length_append] at this
              omega
            have g3 : decide (j < j) = false := by simp
            rw [g3]
            have g4 : decide ((o2.length : Int) > 65536) = false := decide_eq_false (by omega)
            have g4n : ¬ 65536 < o2.length := by omega
            have HCb := Lib.hid (show 0 ≤ col2 ∧ col2 ≤ 1000 * (szL (LL.take (k + 1)) : Nat) by
              have h1 := HSn.out
              have h3 := HKs.out
              have h4 := hn.2.2
              rw [h1, hcj]
              omega)
            clear hBj hOj hcj hoj hjn g3
            go_wp2_with fail
            go_roundw
            case rel => exact ⟨k + 1, col2, o2, by omega, rfl, by go_num, HBj.out, HOj.out, HCb.out.1, HCb.out.2, HRn.out⟩
            case measure => simp [intOf] <;> omega
      case' neg =>
        have g1 : (c.length = 1 ∧ x ≠ 9) ∨ c.length ≠ 1 := by
          by_cases h1 : c.length = 1
          · refine .inl ⟨h1, fun e => h9 ?_⟩
            match c, h1, hx with
            | [y], _, hx => have : y = x := by simpa using hx
                            rw [this, e]
          · exact .inr h1
        have hEn : endsL c = (decide (x = 10) || decide (x = 13)) := by unfold endsL; rw [hx]; simp
        have HT2 := Lib.hid (show o ++ (if endsL c = true then c ++ tabsL R stop 0 (LL.drop (k + 1)) else c ++ tabsL R stop (col + wC R c) (LL.drop (k + 1))) = tabsL R stop 0 LL by
          have h := HRr.out
          rw [tabsL_cons, if_neg h9] at h
          exact h)
        have hol2 : o.length + c.length ≤ 65536 := by
          have := congrArg List.length HT2.out
          rw [List.length_append] at this
          split at this <;> rw [List.length_append] at this <;> omega
        have hbig : (o.length + c.length) * 4 ≤ 140737488355328 := by omega
        have g4 : decide (((o.length + c.length : Nat) : Int) > 65536) = false := decide_eq_false (by omega)
        have g4n : ¬ 65536 < o.length + c.length := by omega
        have g4i : decide ((o.length : Int) + (c.length : Int) > 65536) = false := decide_eq_false (by omega)
        clear hB hO hR hc hcm hcu hcu0 hx hlt hdr h9 hsn
        rcases g1 with ⟨hc1, hx9⟩ | hc1
        case' inl =>
          have g5 : ((c.length : Int) == 1) = true := by simp; omega
          have g6 : (x == 9) = false := by simpa using hx9
          clear hc1 hx9
        case' inr =>
          have g5 : ((c.length : Int) == 1) = false := by rw [beq_eq_false_iff_ne]; omega
          clear hc1
        all_goals
          by_cases hx10 : x = 10
          case' pos =>
            have HEn := Lib.hid (show endsL c = true by rw [hEn]; simp [hx10])
            subst hx10
            clear hEn
            have HRn := Lib.hid (show (o ++ c) ++ tabsL R stop 0 (LL.drop (k + 1)) = tabsL R stop 0 LL by
              have h := HT2.out
              rw [if_pos HEn.out] at h
              rw [List.append_assoc]
              exact h)
            clear HT2
            go_wp2_with (at_builtin; go_loud (refine wpList_app_rd _ rfl (.tmp 76) (.tmp 77) _ rfl ER _ _ _ rfl HO.out _ _ _ rfl HCu.out (runeE_one _) hbig hbs ?_); intro v7 w7 ho7 hg7; obtain ⟨va, vc, rfl⟩ := slice_of_owns ho7; have HB7 := Lib.hid (below_app HB.out hbs HO.out (Nat.le_refl _) hg7); have HO7 := Lib.hid ho7; clear ho7 hg7)
            go_roundw
            case rel => exact ⟨k + 1, 0, o ++ c, by omega, rfl, by go_num, HB7.out, by rw [List.length_append, List.flatMap_append]; exact HO7.out, Int.le_refl _, by omega, HRn.out⟩
            case measure => simp [intOf] <;> omega
          case' neg =>
            have g7 : (x == 10) = false := by simpa using hx10
            by_cases hx13 : x = 13
            case' pos =>
              have HEn := Lib.hid (show endsL c = true by rw [hEn]; simp [hx13])
              subst hx13
              clear hEn hx10
              have HRn := Lib.hid (show (o ++ c) ++ tabsL R stop 0 (LL.drop (k + 1)) = tabsL R stop 0 LL by
                have h := HT2.out
                rw [if_pos HEn.out] at h
                rw [List.append_assoc]
                exact h)
              clear HT2
              go_wp2_with (at_builtin; go_loud (refine wpList_app_rd _ rfl (.tmp 76) (.tmp 77) _ rfl ER _ _ _ rfl HO.out _ _ _ rfl HCu.out (runeE_one _) hbig hbs ?_); intro v7 w7 ho7 hg7; obtain ⟨va, vc, rfl⟩ := slice_of_owns ho7; have HB7 := Lib.hid (below_app HB.out hbs HO.out (Nat.le_refl _) hg7); have HO7 := Lib.hid ho7; clear ho7 hg7)
              go_roundw
              case rel => exact ⟨k + 1, 0, o ++ c, by omega, rfl, by go_num, HB7.out, by rw [List.length_append, List.flatMap_append]; exact HO7.out, Int.le_refl _, by omega, HRn.out⟩
              case measure => simp [intOf] <;> omega
            case' neg =>
              have g8 : (x == 13) = false := by simpa using hx13
              have HEn := Lib.hid (show ¬ endsL c = true by rw [hEn]; simp [hx10, hx13])
              clear hEn hx10 hx13
              have HT3 := Lib.hid (show (o ++ c) ++ tabsL R stop (col + wC R c) (LL.drop (k + 1)) = tabsL R stop 0 LL by
                have h := HT2.out
                rw [if_neg HEn.out] at h
                rw [List.append_assoc]
                exact h)
              have hgl := glOf_le R c
              have HGo := Lib.hid (show ∀ g ∈ glOf R c, g.2 = 1 ∨ g.2 = 2 from fun g hg => (lineG_ok R (LL := [c]) g (by simpa [lineG] using hg)).1)
              have HWc := Lib.hid (show wC R c = wdG (glOf R c) from rfl)
              have HGof := Lib.hid (fun (W : World) (h1 : Tb R W tp) (h2 : RunesIn W (.slice (some ⟨rb, roff, none⟩) c.length rcap) c) => gof_any h1 h2 HOkc.out (by omega))
              generalize glOf R c = G at HGof HGo hgl HWc
              clear HT2
              go_wp2_with (at_builtin; go_loud (refine wpList_app_rd _ rfl (.tmp 29) (.tmp 30) _ rfl ER _ _ _ rfl HO.out _ _ _ rfl HCu.out (runeE_one _) hbig hbs ?_); intro v7 w7 ho7 hg7; obtain ⟨va, vc, rfl⟩ := slice_of_owns ho7; have HB7 := Lib.hid (below_app HB.out hbs HO.out (Nat.le_refl _) hg7); have HO7 := Lib.hid ho7; clear ho7 hg7)
              refine (HGof.out w7 (HT1.out.below HB7.out) (HCu0.out.below HB7.out)).mono ?_
              rintro e w8 ⟨gu, rfl, hB8, hG8⟩
              have HG8 := Lib.hid hG8
              obtain ⟨ga, gc, rfl, hg1, hg2⟩ := gly_shape hG8
              unfold maxLen at hg2
              have HB8 := Lib.hid (HB7.out.trans (hB8.mono HB7.out.size))
              have HO8 := Lib.hid (owns_stays HO7.out hB8)
              clear hB8 hG8 HGof HB7 HO7 HB HO HCu
              go_wp2_with fail
              go_loopw [9, 36] (fun cv qv wr2 => ∃ (q : Nat) (c2 : Int), q ≤ G.length ∧ cv = .int .i64 c2 ∧ qv = .int .i64 ((q : Nat) : Int) ∧ Below w8.heap.size w8 wr2 ∧ c2 = col + wdG (G.take q)) (fun _ qv _ => G.length - (intOf qv).toNat)
              case atStart => exact ⟨0, col, Nat.zero_le _, rfl, rfl, .refl _ _, by simp [wdG]⟩
              case round =>
                obtain ⟨q, c2, hq, rfl, rfl, hBq, hc2⟩ := hrel
                have HBq := Lib.hid hBq
                have hwr := wdG_rng (L := G.take q) (fun g hg => HGo.out g (List.mem_of_mem_take hg))
                rw [List.length_take] at hwr
                by_cases hlq : q < G.length
                · obtain ⟨y, hy⟩ : ∃ y, G[q]? = some y := ⟨G[q], List.getElem?_eq_getElem hlq⟩
                  have hyo := HGo.out y (List.mem_of_getElem? hy)
                  have hN : wdG (G.take (q + 1)) = wdG (G.take q) + y.2 := by rw [take_snoc hy, wdG_app, wdG_one]
                  have HN := Lib.hid (show c2 + y.2 = col + wdG (G.take (q + 1)) by rw [hN, hc2]; omega)
                  obtain ⟨y1, y2⟩ := y
                  have hy2 : y2 = 1 ∨ y2 = 2 := hyo
                  obtain ⟨gb, goff, _, hv, _, _, _, g0, g1'⟩ := gly_cells (HG8.out.below hBq) hy
                  cases hv
                  have HBn := Lib.hid (hBq.trans ((below1 wr (.cells #[.string y1, .int .i64 y2] 111)).mono hBq.size))
                  have e6 := IntWalk.i64_in (c2 + y2) (by omega)
                  have e7 := IntWalk.i64_in ((q : Int) + 1) (by omega)
                  have s8 : (q : Int) < (G.length : Int) := by omega
                  clear hBq hc2 hy hyo hN hwr hlq
                  go_wp2_with fail
                  go_roundw
                  case rel => exact ⟨q + 1, c2 + y2, by omega, rfl, by go_num, HBn.out, HN.out⟩
                  case measure => simp [intOf] <;> omega
                · have hqe : q = G.length := by omega
                  subst hqe
                  rw [List.take_length] at hc2
                  have HN := Lib.hid (show c2 = col + wC R c by rw [HWc.out]; exact hc2)
                  have HBx := Lib.hid (HB8.out.trans (hBq.mono HB8.out.size))
                  have HOx := Lib.hid (owns_stays HO8.out hBq)
                  have HCb := Lib.hid (show 0 ≤ c2 ∧ c2 ≤ 1000 * (szL (LL.take (k + 1)) : Nat) by
                    have h1 := HSn.out
                    have h3 := wC_le R c
                    have h4 := wC_nonneg (R := R) c
                    have h5 := HN.out
                    rw [h1, h5]
                    omega)
                  have s8 : decide ((G.length : Int) < (G.length : Int)) = false := by simp
                  clear hBq hc2 hwr hlq
                  go_wp2_with fail
                  go_roundw
                  case rel => exact ⟨k + 1, c2, o ++ c, by omega, rfl, by go_num, HBx.out, by rw [List.length_append, List.flatMap_append]; exact HOx.out, HCb.out.1, HCb.out.2, by rw [HN.out]; exact HT3.out⟩
                  case measure => simp [intOf] <;> omega
    · have hke : k = LL.length := by omega
      have HRe := Lib.hid (show o = tabsL R stop 0 LL by
        rw [hke, List.drop_length] at hR
        simpa [tabsL] using hR)
      have s0 : ¬ k < LL.length := hlt
      clear hB hO hR hc0 hc1 hlt hke
      go_wp2_with fail
      go_ret2
      exact ⟨_, rfl, below_trans' HB1.out HB.out, by rw [← HRe.out]; exact rd_of_owns HO.out⟩
end
end Go.Proofs.YthlpelfogplomaaGreat

/- The document's Tabs: its walk. -/
namespace Go.Proofs.YthlpelfogplomaaGreat
open Go.RowKit

section
variable {R : List Rw} {s : List Int} {w : World} {sv rv : Value}
set_option maxRecDepth 100000 in
set_option maxHeartbeats 8000000 in
theorem rtabs_any {stop : Int} (h1 : 1 ≤ stop) (h2 : stop ≤ 1000) (H : (tabOf R).Ok) (hR0 : RowsIn w rv R) (hs : RunesIn w sv s) (ok : RunesOk s) (hl : s.length ≤ 65536) (hsz : (tabsL R stop 0 (clus (tabOf R) s)).length ≤ 65536) :
    Calls Tryz.prog 22 #[rv, sv, .int .i64 stop] w fun e w' => ∃ u, e = .returned (.tuple #[u, .int .i64 0]) ∧ Below w.heap.size w w' ∧ RunesIn w' u (tabsL R stop 0 (clus (tabOf R) s)) := by
  have HT := Lib.hid hR0
  have HCl := Lib.hid (rclusters_any H hR0 hs ok (by omega))
  have HNe := Lib.hid (clus_ne (tabOf R) s.length s (Nat.le_refl _))
  have HMem := Lib.hid (fun c (h : c ∈ clus (tabOf R) s) (x : Int) (hx : x ∈ c) => ok x (clus_mem (tabOf R) s.length s (Nat.le_refl _) c h x hx))
  have hLl : (clus (tabOf R) s).length ≤ s.length := clusN_len (tabOf R) s.length s
  have hSz : szL (clus (tabOf R) s) = s.length := by rw [szL_flat, clus_flat (tabOf R) s.length s (Nat.le_refl _)]
  have HTk := Lib.hid (szL_take_le (clus (tabOf R) s))
  generalize clus (tabOf R) s = LL at HCl HNe HMem hLl hSz HTk hsz ⊢
  obtain ⟨sl, cap, rfl, hcap, hmax, _⟩ := runes_cells hs
  unfold maxLen at hmax
  clear hR0 hs ok H
  have q1 : decide (stop < 1) = false := decide_eq_false (by omega)
  have q2 : decide (stop > 1000) = false := decide_eq_false (by omega)
  go_enter Tryz.func22, Tryz.ntmps22
  go_wp2_with fail
  refine HCl.out.mono ?_
  rintro e w1 ⟨tu, rfl, hB1, hX1⟩
  have HB1 := Lib.hid hB1
  have HX := Lib.hid hX1
  have HT1 := Lib.hid (HT.out.below hB1)
  obtain ⟨ta, tcap, rfl, ht1, ht2⟩ := texts_shape hX1
  unfold maxLen at ht2
  clear hB1 hX1 HCl HT q1 q2
  go_wp2_with fail
  go_loopw [8, 9, 11] (fun ov cv iv wr => ∃ (k : Nat) (col : Int) (o : List Int), k ≤ LL.length ∧ cv = .int .i64 col ∧ iv = .int .i64 ((k : Nat) : Int) ∧ Below w1.heap.size w1 wr ∧ wr.ownsRow w1.heap.size 21 1 ov o.length (o.flatMap runeE) ∧ 0 ≤ col ∧ col ≤ 1000 * (szL (LL.take k) : Nat) ∧ o ++ tabsL R stop col (LL.drop k) = tabsL R stop 0 LL) (fun _ _ iv _ => LL.length - (intOf iv).toNat)
  case atStart => exact ⟨0, 0, [], Nat.zero_le _, rfl, rfl, .refl _ _, World.ownsRow_nil _ _ _ _, Int.le_refl _, by simp [szL], rfl⟩
  case round =>
    obtain ⟨k, col, o, hk, rfl, rfl, hB, hO, hc0, hc1, hR⟩ := hrel
    have HB := Lib.hid hB
    have HO := Lib.hid hO
    have HRr := Lib.hid hR
    obtain ⟨pa, pc, rfl⟩ := slice_of_owns hO
    have hsz1 := HTk.out k
    have hol : o.length ≤ 65536 := by
      have := congrArg List.length hR
      rw [List.length_append] at this
      omega
    by_cases hlt : k < LL.length
    · obtain ⟨c, hc⟩ : ∃ c, LL[k]? = some c := ⟨LL[k], List.getElem?_eq_getElem hlt⟩
      have hcm := List.mem_of_getElem? hc
      have HC := Lib.hid hc
      have hcl := HNe.out c hcm
      have hsn := szL_snoc LL hc
      have hsz2 := HTk.out (k + 1)
      have hdr : LL.drop k = c :: LL.drop (k + 1) := by
        have h1 := List.getElem?_eq_some_iff.1 hc
        rw [List.drop_eq_getElem_cons h1.1, h1.2]
      rw [hdr] at hR
      have HRr := Lib.hid hR
      obtain ⟨tb, toff, cp, cu, hv, _, _, _, _, d0, hcu0⟩ := texts_cell HX.out hc
      cases hv
      have HD1 := Lib.hid d0
      have d0 := cell_later hB d0
      have hcu := hcu0.below hB
      obtain ⟨x, hx⟩ : ∃ x, c[0]? = some x := ⟨c[0]'(List.length_pos_iff.2 hcl.1), List.getElem?_eq_getElem _⟩
      obtain ⟨rb, roff, rcap, hv, _, hrc, hcp, _, l0⟩ := rune_cell hcu hx
      cases hv
      have l0 : wr.cell? ⟨rb, roff, none⟩ = some (.int .i32 x) := by simpa using l0
      have HCu0 := Lib.hid hcu0
      have HL1 := Lib.hid (show w1.cell? ⟨rb, roff, none⟩ = some (.int .i32 x) by
        obtain ⟨_, _, _, hv, _, _, _, _, l1⟩ := rune_cell hcu0 hx
        cases hv
        simpa using l1)
      have HCu := Lib.hid hcu
      have HOkc := Lib.hid (show RunesOk c from HMem.out c hcm)
      have s0 : (k : Int) < (LL.length : Int) := by omega
      have s1 : (0 : Int) ≤ (k : Int) := by omega
      have s2 : (0 : Int) < (c.length : Int) := by omega
      have e1 := IntWalk.i64_in ((k : Int) + 1) (by omega)
      have hbs := hB.size
      have HSn := Lib.hid hsn
      have hclen : c.length ≤ 65536 := by omega
      have hcb : col ≤ 100000000 := by omega
      by_cases h9 : c = [9]
      case' pos =>
        have hx9 : x = 9 := by rw [h9] at hx; simpa using hx.symm
        subst hx9
        have g1 : ((c.length : Int) == 1) = true := by rw [h9]; rfl
        have HGp := Lib.hid (gapN_rng h1 col)
        have HMd := Lib.hid (fun (j : Nat) => gap_mod (col := col) (j := j) h1)
        have HT2 := Lib.hid (show o ++ (List.replicate (gapN stop col) 32 ++ tabsL R stop (col + gapN stop col) (LL.drop (k + 1))) = tabsL R stop 0 LL by
          have h := HRr.out
          rw [tabsL_cons, if_pos h9] at h
          exact h)
        generalize gapN stop col = n at HGp HMd HT2
        have hn := HGp.out
        have hstop : ¬ stop = 0 := by omega
        have hstop1 : ¬ stop = -1 := by omega
        have HKs := Lib.hid (show 1 ≤ c.length from by omega)
        clear hB hO hR hc hcm hcu hcu0 hx hlt hdr h9 hsn
        have e5 : col.tmod stop = col % stop := Int.tmod_eq_emod_of_nonneg hc0
        have hr3 := Int.emod_nonneg col hstop
        have hr4 := Int.emod_lt_of_pos col (show 0 < stop by omega)
        obtain ⟨md, hmd⟩ : ∃ md, md = col % stop := ⟨_, rfl⟩
        rw [← hmd] at e5 hr3 hr4 hn
        have e6 := IntWalk.i64_in md (by omega)
        have e8 : IntKind.i64.wrap (stop - md) = (n : Int) := by rw [hn.2.1]; exact IntWalk.i64_in (stop - md) (by omega)
        clear hmd
        go_wp2_with fail
        go_loopw [8, 13] (fun ov jv wr2 => ∃ (j : Nat) (o2 : List Int), j ≤ n ∧ jv = .int .i64 ((j : Nat) : Int) ∧ Below w1.heap.size w1 wr2 ∧ wr2.ownsRow w1.heap.size 21 1 ov o2.length (o2.flatMap runeE) ∧ o2 = o ++ List.replicate j 32) (fun _ jv _ => n - (intOf jv).toNat)
        case atStart => exact ⟨0, o, Nat.zero_le _, rfl, HB.out, HO.out, by simp⟩
        case round =>
          obtain ⟨j, o2, hj, rfl, hBj, hOj, hoj⟩ := hrel
          have HBj := Lib.hid hBj
          have HOj := Lib.hid hOj
          obtain ⟨ja, jc, rfl⟩ := slice_of_owns hOj
          have hbs2 := hBj.size
          have HOe := Lib.hid hoj
          have ho2l : o2.length ≤ 70000 := by rw [hoj, List.length_append, List.length_replicate]; omega
          by_cases hjn : j < n
          · have hbig : (o2.length + 1) * 4 ≤ 140737488355328 := by omega
            have e7 := IntWalk.i64_in ((j : Int) + 1) (by omega)
            have g3 : (j : Int) < (n : Int) := by omega
            clear hBj hOj hoj
            go_wp2_with (at_builtin; go_loud (refine wpList_app1 _ rfl (.tmp 56) (.tmp 57) _ rfl ER _ _ _ rfl HOj.out 1 1 (runeE 32) rfl (by decide) rfl (by intro u hu; simp [runeE] at hu; subst hu; rfl) hbig hbs2 ?_); intro g cp7 w7 ho7 hg7 hf7; have HB7 := Lib.hid (below_app HBj.out hbs2 HOj.out (Nat.le_refl _) hg7); have HO7 := Lib.hid ho7; clear ho7 hg7 hf7)
            go_roundw
            case rel => exact ⟨j + 1, o2 ++ [32], by omega, by go_num, HB7.out, by rw [List.length_append, flat_snoc]; exact HO7.out, by rw [HOe.out, List.append_assoc, List.replicate_succ']⟩
            case measure => simp [intOf] <;> omega
          · have hje : j = n := by omega
            have HRn := Lib.hid (show o2 ++ tabsL R stop (col + (n : Int)) (LL.drop (k + 1)) = tabsL R stop 0 LL by
              rw [hoj, hje, List.append_assoc]
              exact HT2.out)
            have g3 : ¬ j < n := hjn
            have e7 := IntWalk.i64_in (col + (n : Int)) (by omega)
            have HCb := Lib.hid (show 0 ≤ col + (n : Int) ∧ col + (n : Int) ≤ 1000 * (szL (LL.take (k + 1)) : Nat) by
              have h1 := HSn.out
              have h3 := HKs.out
              have h4 := hn.2.2
              rw [h1]
              omega)
            clear hBj hOj hoj hjn hje
            go_wp2_with fail
            go_roundw
            case rel => exact ⟨k + 1, col + (n : Int), o2, by omega, by rw [hn.2.1], by go_num, HBj.out, HOj.out, HCb.out.1, HCb.out.2, HRn.out⟩
            case measure => simp [intOf] <;> omega
      case' neg =>
        have g1 : (c.length = 1 ∧ x ≠ 9) ∨ c.length ≠ 1 := by
          by_cases h1 : c.length = 1
          · refine .inl ⟨h1, fun e => h9 ?_⟩
            match c, h1, hx with
            | [y], _, hx => have : y = x := by simpa using hx
                            rw [this, e]
          · exact .inr h1
        have hEn : endsL c = (decide (x = 10) || decide (x = 13)) := by unfold endsL; rw [hx]; simp
        have HT2 := Lib.hid (show o ++ (if endsL c = true then c ++ tabsL R stop 0 (LL.drop (k + 1)) else c ++ tabsL R stop (col + wC R c) (LL.drop (k + 1))) = tabsL R stop 0 LL by
          have h := HRr.out
          rw [tabsL_cons, if_neg h9] at h
          exact h)
        have hol2 : o.length + c.length ≤ 65536 := by
          have := congrArg List.length HT2.out
          rw [List.length_append] at this
          split at this <;> rw [List.length_append] at this <;> omega
        have hbig : (o.length + c.length) * 4 ≤ 140737488355328 := by omega
        have g4 : decide (((o.length + c.length : Nat) : Int) > 65536) = false := decide_eq_false (by omega)
        have g4n : ¬ 65536 < o.length + c.length := by omega
        have g4i : decide ((o.length : Int) + (c.length : Int) > 65536) = false := decide_eq_false (by omega)
        clear hB hO hR hc hcm hcu hcu0 hx hlt hdr h9 hsn
        rcases g1 with ⟨hc1, hx9⟩ | hc1
        case' inl =>
          have g5 : ((c.length : Int) == 1) = true := by simp; omega
          have g6 : (x == 9) = false := by simpa using hx9
          clear hc1 hx9
        case' inr =>
          have g5 : ((c.length : Int) == 1) = false := by rw [beq_eq_false_iff_ne]; omega
          clear hc1
        all_goals
          by_cases hx10 : x = 10
          case' pos =>
            have HEn := Lib.hid (show endsL c = true by rw [hEn]; simp [hx10])
            subst hx10
            clear hEn
            have HRn := Lib.hid (show (o ++ c) ++ tabsL R stop 0 (LL.drop (k + 1)) = tabsL R stop 0 LL by
              have h := HT2.out
              rw [if_pos HEn.out] at h
              rw [List.append_assoc]
              exact h)
            clear HT2
            go_wp2_with (at_builtin; go_loud (refine wpList_app_rd _ rfl (.tmp 62) (.tmp 66) _ rfl ER _ _ _ rfl HO.out _ _ _ rfl HCu.out (runeE_one _) hbig hbs ?_); intro v7 w7 ho7 hg7; obtain ⟨va, vc, rfl⟩ := slice_of_owns ho7; have HB7 := Lib.hid (below_app HB.out hbs HO.out (Nat.le_refl _) hg7); have HO7 := Lib.hid ho7; have d07 := cell_later HB7.out HD1.out; have l07 := cell_later HB7.out HL1.out; clear ho7 hg7)
            go_roundw
            case rel => exact ⟨k + 1, 0, o ++ c, by omega, rfl, by go_num, HB7.out, by rw [List.length_append, List.flatMap_append]; exact HO7.out, Int.le_refl _, by omega, HRn.out⟩
            case measure => simp [intOf] <;> omega
          case' neg =>
            have g7 : (x == 10) = false := by simpa using hx10
            by_cases hx13 : x = 13
            case' pos =>
              have HEn := Lib.hid (show endsL c = true by rw [hEn]; simp [hx13])
              subst hx13
              clear hEn hx10
              have HRn := Lib.hid (show (o ++ c) ++ tabsL R stop 0 (LL.drop (k + 1)) = tabsL R stop 0 LL by
                have h := HT2.out
                rw [if_pos HEn.out] at h
                rw [List.append_assoc]
                exact h)
              clear HT2
              go_wp2_with (at_builtin; go_loud (refine wpList_app_rd _ rfl (.tmp 62) (.tmp 66) _ rfl ER _ _ _ rfl HO.out _ _ _ rfl HCu.out (runeE_one _) hbig hbs ?_); intro v7 w7 ho7 hg7; obtain ⟨va, vc, rfl⟩ := slice_of_owns ho7; have HB7 := Lib.hid (below_app HB.out hbs HO.out (Nat.le_refl _) hg7); have HO7 := Lib.hid ho7; have d07 := cell_later HB7.out HD1.out; have l07 := cell_later HB7.out HL1.out; clear ho7 hg7)
              go_roundw
              case rel => exact ⟨k + 1, 0, o ++ c, by omega, rfl, by go_num, HB7.out, by rw [List.length_append, List.flatMap_append]; exact HO7.out, Int.le_refl _, by omega, HRn.out⟩
              case measure => simp [intOf] <;> omega
            case' neg =>
              have g8 : (x == 13) = false := by simpa using hx13
              have HEn := Lib.hid (show ¬ endsL c = true by rw [hEn]; simp [hx10, hx13])
              clear hEn hx10 hx13
              have HT3 := Lib.hid (show (o ++ c) ++ tabsL R stop (col + wC R c) (LL.drop (k + 1)) = tabsL R stop 0 LL by
                have h := HT2.out
                rw [if_neg HEn.out] at h
                rw [List.append_assoc]
                exact h)
              have hgl := glOf_le R c
              have HGo := Lib.hid (show ∀ g ∈ glOf R c, g.2 = 1 ∨ g.2 = 2 from fun g hg => (lineG_ok R (LL := [c]) g (by simpa [lineG] using hg)).1)
              have HWc := Lib.hid (show wC R c = wdG (glOf R c) from rfl)
              have HGof := Lib.hid (fun (W : World) (h1 : RowsIn W rv R) (h2 : RunesIn W (.slice (some ⟨rb, roff, none⟩) c.length rcap) c) => rgof_any h1 h2 HOkc.out (by omega))
              generalize glOf R c = G at HGof HGo hgl HWc
              clear HT2
              go_wp2_with (at_builtin; go_loud (refine wpList_app_rd _ rfl (.tmp 62) (.tmp 66) _ rfl ER _ _ _ rfl HO.out _ _ _ rfl HCu.out (runeE_one _) hbig hbs ?_); intro v7 w7 ho7 hg7; obtain ⟨va, vc, rfl⟩ := slice_of_owns ho7; have HB7 := Lib.hid (below_app HB.out hbs HO.out (Nat.le_refl _) hg7); have HO7 := Lib.hid ho7; have d07 := cell_later HB7.out HD1.out; have l07 := cell_later HB7.out HL1.out; clear ho7 hg7)
              refine (HGof.out w7 (HT1.out.below HB7.out) (HCu0.out.below HB7.out)).mono ?_
              rintro e w8 ⟨gu, rfl, hB8, hG8⟩
              have HG8 := Lib.hid hG8
              obtain ⟨ga, gc, rfl, hg1, hg2⟩ := gly_shape hG8
              unfold maxLen at hg2
              have HB8 := Lib.hid (HB7.out.trans (hB8.mono HB7.out.size))
              have HO8 := Lib.hid (owns_stays HO7.out hB8)
              clear hB8 hG8 HGof HB7 HO7 HB HO HCu
              go_wp2_with fail
              go_loopw [9, 15] (fun cv qv wr2 => ∃ (q : Nat) (c2 : Int), q ≤ G.length ∧ cv = .int .i64 c2 ∧ qv = .int .i64 ((q : Nat) : Int) ∧ Below w8.heap.size w8 wr2 ∧ c2 = col + wdG (G.take q)) (fun _ qv _ => G.length - (intOf qv).toNat)
              case atStart => exact ⟨0, col, Nat.zero_le _, rfl, rfl, .refl _ _, by simp [wdG]⟩
              case round =>
                obtain ⟨q, c2, hq, rfl, rfl, hBq, hc2⟩ := hrel
                have HBq := Lib.hid hBq
                have hwr := wdG_rng (L := G.take q) (fun g hg => HGo.out g (List.mem_of_mem_take hg))
                rw [List.length_take] at hwr
                by_cases hlq : q < G.length
                · obtain ⟨y, hy⟩ : ∃ y, G[q]? = some y := ⟨G[q], List.getElem?_eq_getElem hlq⟩
                  have hyo := HGo.out y (List.mem_of_getElem? hy)
                  have hN : wdG (G.take (q + 1)) = wdG (G.take q) + y.2 := by rw [take_snoc hy, wdG_app, wdG_one]
                  have HN := Lib.hid (show c2 + y.2 = col + wdG (G.take (q + 1)) by rw [hN, hc2]; omega)
                  obtain ⟨y1, y2⟩ := y
                  have hy2 : y2 = 1 ∨ y2 = 2 := hyo
                  obtain ⟨gb, goff, _, hv, _, _, _, g0, g1'⟩ := gly_cells (HG8.out.below hBq) hy
                  cases hv
                  have HBn := Lib.hid hBq
                  have s9 : (0 : Int) ≤ (q : Int) := by omega
                  have e6 := IntWalk.i64_in (c2 + y2) (by omega)
                  have e7 := IntWalk.i64_in ((q : Int) + 1) (by omega)
                  have s8 : (q : Int) < (G.length : Int) := by omega
                  clear hBq hc2 hy hyo hN hwr hlq
                  go_wp2_with fail
                  go_roundw
                  case rel => exact ⟨q + 1, c2 + y2, by omega, rfl, by go_num, HBn.out, HN.out⟩
                  case measure => simp [intOf] <;> omega
                · have hqe : q = G.length := by omega
                  subst hqe
                  rw [List.take_length] at hc2
                  have HN := Lib.hid (show c2 = col + wC R c by rw [HWc.out]; exact hc2)
                  have HBx := Lib.hid (HB8.out.trans (hBq.mono HB8.out.size))
                  have HOx := Lib.hid (owns_stays HO8.out hBq)
                  have HCb := Lib.hid (show 0 ≤ c2 ∧ c2 ≤ 1000 * (szL (LL.take (k + 1)) : Nat) by
                    have h1 := HSn.out
                    have h3 := wC_le R c
                    have h4 := wC_nonneg (R := R) c
                    have h5 := HN.out
                    rw [h1, h5]
                    omega)
                  have s8 : decide ((G.length : Int) < (G.length : Int)) = false := by simp
                  clear hBq hc2 hwr hlq
                  go_wp2_with fail
                  go_roundw
                  case rel => exact ⟨k + 1, c2, o ++ c, by omega, rfl, by go_num, HBx.out, by rw [List.length_append, List.flatMap_append]; exact HOx.out, HCb.out.1, HCb.out.2, by rw [HN.out]; exact HT3.out⟩
                  case measure => simp [intOf] <;> omega
    · have hke : k = LL.length := by omega
      have HRe := Lib.hid (show o = tabsL R stop 0 LL by
        rw [hke, List.drop_length] at hR
        simpa [tabsL] using hR)
      have s0 : ¬ k < LL.length := hlt
      clear hB hO hR hc0 hc1 hlt hke
      go_wp2_with fail
      go_ret2
      exact ⟨_, rfl, below_trans' HB1.out HB.out, by rw [← HRe.out]; exact rd_of_owns HO.out⟩
end
end Go.Proofs.YthlpelfogplomaaGreat
