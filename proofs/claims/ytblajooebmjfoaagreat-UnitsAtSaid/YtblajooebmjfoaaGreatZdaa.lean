/- Joined texts: BackP BackA BackB BackC BackD BackQ WordP BackE BackF WordQ IdxA IdxP IdxG UnitP IdxB IdxC IdxM UnitQ IdxS UnitA. -/
import Derived.Deep.RegionHeld3
import Derived.WalkMore
import Derived.Test.YtblajooebmjfoaaGreatZaaa
import Derived.Test.YtblajooebmjfoaaGreatZbac
import Derived.Test.YtblajooebmjfoaaGreatZaba
import Derived.Test.YtblajooebmjfoaaGreatZcaa
import Derived.Test.YtblajooebmjfoaaGreatZcad
import Derived.Test.YtblajooebmjfoaaGreatZcab
/- Boundaries around a place, plainly. -/
namespace Go.Proofs.YtblajooebmjfoaaGreat

def isB (T : Tab) (s : List Int) (i : Nat) : Bool := decide (i = s.length) || begAt T s i
/-- the last boundary that is not behind a place -/
def floorB (T : Tab) (s : List Int) : Nat → Nat
  | 0 => 0
  | i + 1 => if isB T s (i + 1) then i + 1 else floorB T s i
/-- the first one that is not ahead of it -/
def ceilB (T : Tab) (s : List Int) (i : Nat) : Nat := i + fnb T (s.take i).reverse (s.drop i)
def floorI (T : Tab) (s : List Int) (a : Int) : Nat := if a ≤ 0 then 0 else if (s.length : Int) ≤ a then s.length else floorB T s a.toNat
def ceilI (T : Tab) (s : List Int) (a : Int) : Nat := if a ≤ 0 then 0 else if (s.length : Int) ≤ a then s.length else ceilB T s a.toNat
theorem isB_len (T : Tab) (s : List Int) : isB T s s.length = true := by simp [isB]
theorem isB_lt {T : Tab} {s : List Int} {i : Nat} (h : i < s.length) : isB T s i = begAt T s i := by
  unfold isB
  rw [decide_eq_false (by omega), Bool.false_or]
theorem floorB_eq {T : Tab} {s : List Int} {f : Nat} : ∀ {a : Nat}, f ≤ a → (f = 0 ∨ isB T s f = true) → (∀ j, f < j → j ≤ a → isB T s j = false) → floorB T s a = f
  | 0, h, _, _ => by simp only [floorB]; omega
  | a + 1, h, hf, hn => by
    simp only [floorB]
    by_cases he : f = a + 1
    · subst he
      rcases hf with hf | hf
      · omega
      · rw [hf, if_pos rfl]
    · rw [hn (a + 1) (by omega) (Nat.le_refl _), if_neg Bool.false_ne_true]
      exact floorB_eq (by omega) hf fun j h1 h2 => hn j h1 (by omega)
theorem floorB_le (T : Tab) (s : List Int) : ∀ a, floorB T s a ≤ a
  | 0 => Nat.le_refl _
  | a + 1 => by
    simp only [floorB]
    split
    · exact Nat.le_refl _
    · have := floorB_le T s a; omega
theorem floorB_is (T : Tab) (s : List Int) : ∀ a, floorB T s a = 0 ∨ isB T s (floorB T s a) = true
  | 0 => .inl rfl
  | a + 1 => by
    simp only [floorB]
    split
    · rename_i h; exact .inr h
    · exact floorB_is T s a
theorem floorB_none (T : Tab) (s : List Int) : ∀ a j, floorB T s a < j → j ≤ a → isB T s j = false
  | 0, j, h1, h2 => by omega
  | a + 1, j, h1, h2 => by
    simp only [floorB] at h1
    split at h1
    · omega
    · rename_i h
      by_cases hj : j = a + 1
      · subst hj; exact eq_false_of_ne_true h
      · exact floorB_none T s a j h1 (by omega)
theorem ceilB_spec (T : Tab) (s : List Int) {i : Nat} (h : i ≤ s.length) : (∀ j, i ≤ j → j < ceilB T s i → begAt T s j = false) ∧ ceilB T s i ≤ s.length ∧ (ceilB T s i = s.length ∨ begAt T s (ceilB T s i) = true) := fnb_spec T s _ i rfl h
theorem ceilB_eq {T : Tab} {s : List Int} {i c : Nat} (h : i ≤ s.length) (hic : i ≤ c) (hn : ∀ j, i ≤ j → j < c → begAt T s j = false) (hc : c ≤ s.length) (hb : c = s.length ∨ begAt T s c = true) : ceilB T s i = c := by
  obtain ⟨h1, h2, h3⟩ := ceilB_spec T s h
  have hge : i ≤ ceilB T s i := Nat.le_add_right _ _
  rcases Nat.lt_trichotomy (ceilB T s i) c with h4 | h4 | h4
  · rcases h3 with h3 | h3
    · omega
    · rw [hn _ hge h4] at h3; cases h3
  · exact h4
  · rcases hb with hb | hb
    · omega
    · rw [h1 c hic h4] at hb; cases hb
theorem ceilB_step {T : Tab} {s : List Int} {k : Nat} (hk : k < s.length) : ceilB T s k = if begAt T s k then k else ceilB T s (k + 1) := by
  have hx : s[k]? = some s[k] := List.getElem?_eq_getElem hk
  generalize s[k] = x at hx
  unfold ceilB begAt
  rw [drop_of_get hx, take_succ_rev hx, hx]
  simp only [fnb]
  split <;> omega
theorem ceilB_len (T : Tab) (s : List Int) : ceilB T s s.length = s.length := by unfold ceilB; rw [List.drop_length]; rfl
/-- from the last boundary not behind a place, that is ahead of it, the next one is the first not ahead of it -/
theorem ceil_of_floor {T : Tab} (H : T.Ok) {s : List Int} {a : Nat} (ha : a < s.length) (hf : floorB T s a < a) : ceilB T s a = floorB T s a + nx T (s.drop (floorB T s a)) := by
  have hb : begAt T s (floorB T s a) = true := by
    rcases floorB_is T s a with h | h
    · rw [h]; exact begAt_zero T (fun e => by rw [e] at ha; cases ha)
    · rwa [isB_lt (by omega)] at h
  obtain ⟨h1, h2, h3, h4⟩ := nx_spec H hb
  have h5 := floorB_none T s a
  refine ceilB_eq (Nat.le_of_lt ha) ?_ (fun j h6 h7 => h3 j (by omega) h7) h2 h4
  rcases Nat.lt_or_ge (floorB T s a + nx T (s.drop (floorB T s a))) a with h6 | h6
  · have h8 := h5 _ h1 (Nat.le_of_lt h6)
    rw [isB_lt (by omega)] at h8
    rcases h4 with h4 | h4
    · omega
    · rw [h8] at h4; cases h4
  · exact h6
theorem floorI_nonpos {T : Tab} {s : List Int} {a : Int} (h : a ≤ 0) : floorI T s a = 0 := by unfold floorI; rw [if_pos h]
theorem floorI_big {T : Tab} {s : List Int} {a : Int} (h : ¬ a ≤ 0) (h2 : (s.length : Int) ≤ a) : floorI T s a = s.length := by unfold floorI; rw [if_neg h, if_pos h2]
theorem floorI_mid {T : Tab} {s : List Int} {a : Nat} (h : 0 < a) (h2 : a < s.length) : floorI T s (a : Int) = floorB T s a := by unfold floorI; rw [if_neg (by omega), if_neg (by omega)]; rfl
theorem ceilI_nonpos {T : Tab} {s : List Int} {a : Int} (h : a ≤ 0) : ceilI T s a = 0 := by unfold ceilI; rw [if_pos h]
theorem ceilI_big {T : Tab} {s : List Int} {a : Int} (h : ¬ a ≤ 0) (h2 : (s.length : Int) ≤ a) : ceilI T s a = s.length := by unfold ceilI; rw [if_neg h, if_pos h2]
theorem ceilI_mid {T : Tab} {s : List Int} {a : Nat} (h : 0 < a) (h2 : a < s.length) : ceilI T s (a : Int) = ceilB T s a := by unfold ceilI; rw [if_neg (by omega), if_neg (by omega)]; rfl
theorem floorI_le (T : Tab) (s : List Int) (a : Int) : floorI T s a ≤ s.length := by
  unfold floorI
  split
  · exact Nat.zero_le _
  · split
    · exact Nat.le_refl _
    · have := floorB_le T s a.toNat; omega
theorem floorI_self {T : Tab} {s : List Int} {a : Int} : ¬ a ≤ 0 → a < s.length → (floorI T s a : Int) ≤ a := fun h1 h2 => by
  unfold floorI
  rw [if_neg h1, if_neg (by omega)]
  have := floorB_le T s a.toNat; omega
end Go.Proofs.YtblajooebmjfoaaGreat

/- back: hangs, sure. -/
namespace Go.Proofs.YtblajooebmjfoaaGreat
open Go.RowKit

section
variable {R : List Rw} {s : List Int} {w : World} {sv : Value} {tp : Nat}
end
end Go.Proofs.YtblajooebmjfoaaGreat

/- back.sure. -/
namespace Go.Proofs.YtblajooebmjfoaaGreat
open Go.RowKit

section
variable {R : List Rw} {s : List Int} {w : World} {sv : Value} {tp : Nat}
end
end Go.Proofs.YtblajooebmjfoaaGreat

/- back: Floor, Ceil, Prev, Next; the document's floor, ceil. -/
namespace Go.Proofs.YtblajooebmjfoaaGreat
open Go.RowKit

section
variable {R : List Rw} {s : List Int} {w : World} {v sv : Value} {tp : Nat}
end
end Go.Proofs.YtblajooebmjfoaaGreat

/- back: Prev, Next; the document's floor, ceil; chapter 11's example. -/
namespace Go.Proofs.YtblajooebmjfoaaGreat
open Go.RowKit

/-- the last boundary ahead of a place -/
def prevI (T : Tab) (s : List Int) (a : Int) : Nat := floorI T s (max (min a ((s.length : Int) + 1)) 0 - 1)
/-- the first one behind it -/
def nextI (T : Tab) (s : List Int) (a : Int) : Nat := if (s.length : Int) ≤ a then s.length else ceilI T s (max a (-1) + 1)
theorem floorI_clamp {T : Tab} {s : List Int} {a : Int} (h : (s.length : Int) ≤ a) (h0 : 0 < a) : floorI T s a = s.length := floorI_big (by omega) h
theorem floorI_all {T : Tab} {s : List Int} {a : Int} {n : Nat} (hn : n = if a ≤ 0 then 0 else if (s.length : Int) ≤ a then s.length else a.toNat) : floorI T s a = floorB T s n := by
  unfold floorI
  by_cases h : a ≤ 0
  · rw [if_pos h] at hn ⊢; rw [hn]; rfl
  · rw [if_neg h] at hn ⊢
    by_cases h2 : (s.length : Int) ≤ a
    · rw [if_pos h2] at hn ⊢
      rw [hn]
      exact (floorB_eq (Nat.le_refl _) (.inr (isB_len T s)) fun j h1 h2 => by omega).symm
    · rw [if_neg h2] at hn ⊢; rw [hn]
theorem ceilI_all {T : Tab} {s : List Int} {a : Int} {n : Nat} (hn : n = if a ≤ 0 then 0 else if (s.length : Int) ≤ a then s.length else a.toNat) : n ≤ s.length ∧ ceilI T s a = ceilB T s n := by
  unfold ceilI
  by_cases h : a ≤ 0
  · rw [if_pos h] at hn ⊢
    subst hn
    refine ⟨Nat.zero_le _, ?_⟩
    cases s with
    | nil => rfl
    | cons x l => rw [ceilB_step (by simp), begAt_zero T (by simp)]; rfl
  · rw [if_neg h] at hn ⊢
    by_cases h2 : (s.length : Int) ≤ a
    · rw [if_pos h2] at hn ⊢
      rw [hn]
      exact ⟨Nat.le_refl _, (ceilB_len T s).symm⟩
    · rw [if_neg h2] at hn ⊢; rw [hn]; exact ⟨by omega, rfl⟩
section
variable {R : List Rw} {s : List Int} {w : World} {v sv : Value} {tp : Nat}
end
end Go.Proofs.YtblajooebmjfoaaGreat

/- From beginning to beginning, plainly. -/
namespace Go.Proofs.YtblajooebmjfoaaGreat

theorem sorted_between {S : List Nat} (hs : S.Pairwise (· < ·)) {i q q' : Nat} (h : S[i]? = some q) (h' : S[i + 1]? = some q') : q < q' ∧ ∀ j ∈ S, ¬ (q < j ∧ j < q') := by
  rw [List.pairwise_iff_getElem] at hs
  obtain ⟨a1, a2⟩ := List.getElem?_eq_some_iff.1 h
  obtain ⟨b1, b2⟩ := List.getElem?_eq_some_iff.1 h'
  refine ⟨by have := hs i (i + 1) a1 b1 (by omega); omega, fun j hj hq => ?_⟩
  obtain ⟨k, hk⟩ := List.mem_iff_getElem?.1 hj
  obtain ⟨c1, c2⟩ := List.getElem?_eq_some_iff.1 hk
  rcases Nat.lt_trichotomy k i with h | h | h
  · have := hs k i c1 a1 h; omega
  · subst h; omega
  · rcases Nat.lt_trichotomy k (i + 1) with h2 | h2 | h2
    · omega
    · subst h2; omega
    · have := hs (i + 1) k b1 c1 h2; omega
theorem sorted_last {S : List Nat} (hs : S.Pairwise (· < ·)) {i q : Nat} (h : S[i]? = some q) (hl : i + 1 = S.length) : ∀ j ∈ S, j ≤ q := by
  rw [List.pairwise_iff_getElem] at hs
  obtain ⟨a1, a2⟩ := List.getElem?_eq_some_iff.1 h
  intro j hj
  obtain ⟨k, hk⟩ := List.mem_iff_getElem?.1 hj
  obtain ⟨c1, c2⟩ := List.getElem?_eq_some_iff.1 hk
  rcases Nat.lt_trichotomy k i with h | h | h
  · have := hs k i c1 a1 h; omega
  · subst h; omega
  · omega
section
variable {T : Tab} {s : List Int} {i q q' : Nat}
theorem begF {T : Tab} {s : List Int} {j : Nat} (h : j ∉ starts T s) : begAt T s j = false := by
  cases hb : begAt T s j with
  | false => rfl
  | true => exact absurd ((starts_mem T s j).2 hb) h
theorem next_start (h : (starts T s)[i]? = some q) (h' : (starts T s)[i + 1]? = some q') : nextI T s (q : Int) = q' := by
  obtain ⟨hlt, hno⟩ := sorted_between (starts_sorted T s) h h'
  have hb' := (starts_mem T s q').1 (List.mem_of_getElem? h')
  have hl' := begAt_lt hb'
  unfold nextI
  rw [if_neg (by omega), show max (q : Int) (-1) + 1 = ((q + 1 : Nat) : Int) by omega, ceilI_mid (by omega) (by omega)]
  exact ceilB_eq (by omega) (by omega) (fun j h1 h2 => begF fun hm => hno j hm ⟨by omega, h2⟩) (by omega) (.inr hb')
theorem next_last (h : (starts T s)[i]? = some q) (hl : i + 1 = (starts T s).length) : nextI T s (q : Int) = s.length := by
  have hmax := sorted_last (starts_sorted T s) h hl
  have hq := begAt_lt ((starts_mem T s q).1 (List.mem_of_getElem? h))
  unfold nextI
  rw [if_neg (by omega), show max (q : Int) (-1) + 1 = ((q + 1 : Nat) : Int) by omega]
  by_cases he : q + 1 = s.length
  · rw [ceilI_big (by omega) (by omega)]
  · rw [ceilI_mid (by omega) (by omega)]
    exact ceilB_eq (by omega) (by omega) (fun j h1 h2 => begF fun hm => by have := hmax j hm; omega) (Nat.le_refl _) (.inl rfl)
theorem prev_start (h : (starts T s)[i]? = some q) (h' : (starts T s)[i + 1]? = some q') : prevI T s (q' : Int) = q := by
  obtain ⟨hlt, hno⟩ := sorted_between (starts_sorted T s) h h'
  have hb := (starts_mem T s q).1 (List.mem_of_getElem? h)
  have hl' := begAt_lt ((starts_mem T s q').1 (List.mem_of_getElem? h'))
  unfold prevI
  rw [show max (min (q' : Int) ((s.length : Int) + 1)) 0 - 1 = ((q' - 1 : Nat) : Int) by omega]
  by_cases h0 : q' - 1 = 0
  · rw [floorI_nonpos (by omega)]; omega
  · rw [floorI_mid (by omega) (by omega)]
    exact floorB_eq (by omega) (.inr (by rw [isB_lt (by omega)]; exact hb)) fun j h1 h2 => by
      rw [isB_lt (by omega)]; exact begF fun hm => hno j hm ⟨h1, by omega⟩
theorem prev_last (h : (starts T s)[i]? = some q) (hl : i + 1 = (starts T s).length) : prevI T s (s.length : Int) = q := by
  have hmax := sorted_last (starts_sorted T s) h hl
  have hb := (starts_mem T s q).1 (List.mem_of_getElem? h)
  have hq := begAt_lt hb
  unfold prevI
  rw [show max (min (s.length : Int) ((s.length : Int) + 1)) 0 - 1 = ((s.length - 1 : Nat) : Int) by omega]
  by_cases h0 : s.length - 1 = 0
  · rw [floorI_nonpos (by omega)]; omega
  · rw [floorI_mid (by omega) (by omega)]
    exact floorB_eq (by omega) (.inr (by rw [isB_lt (by omega)]; exact hb)) fun j h1 h2 => by
      rw [isB_lt (by omega)]; exact begF fun hm => by have := hmax j hm; omega
theorem start_zero (h : (starts T s)[0]? = some q) : q = 0 := by
  cases s with
  | nil => simp [starts, startsB] at h
  | cons x l => simp [starts, startsB, begB] at h; exact h.symm
theorem starts_nil_iff : starts T s = [] ↔ s = [] := by
  cases s with
  | nil => simp [starts, startsB]
  | cons x l => simp [starts, startsB, begB]
end
end Go.Proofs.YtblajooebmjfoaaGreat

/- Words, plainly. -/
namespace Go.Proofs.YtblajooebmjfoaaGreat

/-- is the scalar at a place a letter? -/
def insR (R : List Rw) (s : List Int) (i : Nat) : Bool := match s[i]? with
  | some x => decide (ofA R 8 x = 1)
  | none => false
theorem insR_some {R : List Rw} {s : List Int} {i : Nat} {x : Int} (h : s[i]? = some x) : insR R s i = decide (ofA R 8 x = 1) := by unfold insR; rw [h]
theorem insR_big {R : List Rw} {s : List Int} {i : Nat} (h : s.length ≤ i) : insR R s i = false := by unfold insR; rw [List.getElem?_eq_none h]
theorem insR_lt {R : List Rw} {s : List Int} {i : Nat} (h : insR R s i = true) : i < s.length := by
  by_cases hi : i < s.length
  · exact hi
  · rw [insR_big (by omega)] at h; cases h
def nxt (T : Tab) (s : List Int) (b : Nat) : Nat := b + nx T (s.drop b)
theorem nxt_gt (T : Tab) {s : List Int} {b : Nat} (h : b < s.length) : b < nxt T s b := by
  have := nx_pos T (s := s.drop b) (fun e => by have := congrArg List.length e; rw [List.length_drop] at this; simp at this; omega)
  unfold nxt; omega
theorem nxt_le (T : Tab) {s : List Int} {b : Nat} (h : b ≤ s.length) : nxt T s b ≤ s.length := by
  have := nx_le T (s.drop b); rw [List.length_drop] at this
  unfold nxt; omega

section
variable (n : Nat) (nt : Nat → Nat) (ins : Nat → Bool)
/-- where a run of parts of words ends -/
def runE (b : Nat) : Nat := if _h : b < n ∧ b < nt b ∧ ins b = true then runE (nt b) else b
termination_by n - b
decreasing_by omega
/-- where the next part of a word is -/
def skp (b : Nat) : Nat := if _h : b < n ∧ b < nt b ∧ ins b = false then skp (nt b) else b
termination_by n - b
decreasing_by omega
/-- the words from a place on -/
def wrds (b : Nat) : List (Nat × Nat) := if _h : b < n ∧ b < runE n nt ins b then (b, runE n nt ins b) :: wrds (runE n nt ins b) else if _h2 : b < n ∧ b < nt b then wrds (nt b) else []
termination_by n - b
decreasing_by all_goals omega
def upd (out : List (Nat × Nat)) (a e : Nat) : List (Nat × Nat) := match out.getLast? with
  | some y => if y.2 = a then out.dropLast ++ [(y.1, e)] else out ++ [(a, e)]
  | none => out ++ [(a, e)]
/-- the words, cluster by cluster -/
def refW (out : List (Nat × Nat)) (b : Nat) : List (Nat × Nat) := if _h : b < n ∧ b < nt b then (if ins b = true then refW (upd out b (nt b)) (nt b) else refW out (nt b)) else out
termination_by n - b
decreasing_by all_goals omega
end
section
variable {n : Nat} {nt : Nat → Nat} {ins : Nat → Bool} {b : Nat}
theorem runE_step (h1 : b < n) (h2 : b < nt b) (h3 : ins b = true) : runE n nt ins b = runE n nt ins (nt b) := by rw [runE, dif_pos ⟨h1, h2, h3⟩]
theorem runE_stop (h : ins b = false) : runE n nt ins b = b := by rw [runE, dif_neg (fun e => by rw [h] at e; cases e.2.2)]
theorem runE_end (h : ¬ b < n) : runE n nt ins b = b := by rw [runE, dif_neg (fun e => h e.1)]
theorem skp_step (h1 : b < n) (h2 : b < nt b) (h3 : ins b = false) : skp n nt ins b = skp n nt ins (nt b) := by rw [skp, dif_pos ⟨h1, h2, h3⟩]
theorem skp_stop (h : ins b = true) : skp n nt ins b = b := by rw [skp, dif_neg (fun e => by rw [h] at e; cases e.2.2)]
theorem skp_end (h : ¬ b < n) : skp n nt ins b = b := by rw [skp, dif_neg (fun e => h e.1)]
theorem runE_ge : ∀ m, ∀ b, n - b = m → b ≤ runE n nt ins b := by
  intro m
  induction m using Nat.strongRecOn with
  | _ m ih =>
    intro b hm
    rw [runE]
    split
    · rename_i h
      have := ih (n - nt b) (by omega) (nt b) rfl
      omega
    · exact Nat.le_refl _
theorem runE_gt (h1 : b < n) (h2 : b < nt b) (h3 : ins b = true) : b < runE n nt ins b := by
  rw [runE_step h1 h2 h3]
  have := runE_ge (n := n) (nt := nt) (ins := ins) _ (nt b) rfl
  omega
theorem wrds_in (h1 : b < n) (h2 : b < nt b) (h3 : ins b = true) : wrds n nt ins b = (b, runE n nt ins b) :: wrds n nt ins (runE n nt ins b) := by
  rw [wrds, dif_pos ⟨h1, runE_gt h1 h2 h3⟩]
theorem wrds_out (h1 : b < n) (h2 : b < nt b) (h3 : ins b = false) : wrds n nt ins b = wrds n nt ins (nt b) := by
  rw [wrds, dif_neg (fun e => by rw [runE_stop h3] at e; omega), dif_pos ⟨h1, h2⟩]
theorem wrds_end (h : ¬ b < n) : wrds n nt ins b = [] := by
  rw [wrds, dif_neg (fun e => h e.1), dif_neg (fun e => h e.1)]
theorem upd_nil (a e : Nat) : upd [] a e = [(a, e)] := rfl
theorem upd_same (o : List (Nat × Nat)) (f a e : Nat) : upd (o ++ [(f, a)]) a e = o ++ [(f, e)] := by
  unfold upd; rw [List.getLast?_concat, List.dropLast_concat]; simp
theorem upd_other (o : List (Nat × Nat)) (f a' a e : Nat) (h : a' ≠ a) : upd (o ++ [(f, a')]) a e = (o ++ [(f, a')]) ++ [(a, e)] := by
  unfold upd; rw [List.getLast?_concat]; simp [h]
theorem refW_in {out : List (Nat × Nat)} (h1 : b < n) (h2 : b < nt b) (h3 : ins b = true) : refW n nt ins out b = refW n nt ins (upd out b (nt b)) (nt b) := by
  rw [refW, dif_pos ⟨h1, h2⟩, if_pos h3]
theorem refW_out {out : List (Nat × Nat)} (h1 : b < n) (h2 : b < nt b) (h3 : ins b = false) : refW n nt ins out b = refW n nt ins out (nt b) := by
  rw [refW, dif_pos ⟨h1, h2⟩, if_neg (by rw [h3]; decide)]
theorem refW_end {out : List (Nat × Nat)} (h : ¬ b < n) : refW n nt ins out b = out := by
  rw [refW, dif_neg (fun e => h e.1)]
/-- no word is open at a place -/
def Shut (out : List (Nat × Nat)) (b : Nat) : Prop := out = [] ∨ ∃ o f a, out = o ++ [(f, a)] ∧ a < b
theorem Shut.later {out : List (Nat × Nat)} {b c : Nat} (h : Shut out b) (hc : b ≤ c) : Shut out c := by
  rcases h with h | ⟨o, f, a, h, ha⟩
  · exact .inl h
  · exact .inr ⟨o, f, a, h, by omega⟩
theorem Shut.upd {out : List (Nat × Nat)} {b : Nat} (h : Shut out b) (e : Nat) : upd out b e = out ++ [(b, e)] := by
  rcases h with rfl | ⟨o, f, a, rfl, ha⟩
  · rfl
  · exact upd_other o f a b e (by omega)
theorem refW_wrds (hn : ∀ b, b < n → b < nt b) : ∀ m b, n - b = m → (∀ out, Shut out b → refW n nt ins out b = out ++ wrds n nt ins b) ∧ (∀ o f, refW n nt ins (o ++ [(f, b)]) b = o ++ (f, runE n nt ins b) :: wrds n nt ins (runE n nt ins b)) := by
  intro m
  induction m using Nat.strongRecOn with
  | _ m ih =>
    intro b hm
    by_cases hb : b < n
    · have h2 := hn b hb
      obtain ⟨iA, iB⟩ := ih (n - nt b) (by omega) (nt b) rfl
      cases hi : ins b with
      | true =>
        refine ⟨fun out hs => ?_, fun o f => ?_⟩
        · rw [refW_in hb h2 hi, hs.upd, iB, wrds_in hb h2 hi, runE_step hb h2 hi]
        · rw [refW_in hb h2 hi, upd_same, iB, runE_step hb h2 hi]
      | false =>
        refine ⟨fun out hs => ?_, fun o f => ?_⟩
        · rw [refW_out hb h2 hi, iA _ (hs.later (by omega)), wrds_out hb h2 hi]
        · rw [refW_out hb h2 hi, iA _ (.inr ⟨o, f, b, rfl, h2⟩), runE_stop hi, wrds_out hb h2 hi, List.append_assoc]; rfl
    · refine ⟨fun out hs => ?_, fun o f => ?_⟩
      · rw [refW_end hb, wrds_end hb, List.append_nil]
      · rw [refW_end hb, runE_end hb, wrds_end hb]
theorem words_same (hn : ∀ b, b < n → b < nt b) : refW n nt ins [] 0 = wrds n nt ins 0 := (refW_wrds hn _ 0 rfl).1 [] (.inl rfl)
end
/-- the last word's beginning, going back -/
def bck (prv : Nat → Nat) (ins : Nat → Bool) (b : Nat) (wi : Bool) : Nat := if _h : 0 < b ∧ prv b < b then (if (wi && !ins (prv b)) = true then b else bck prv ins (prv b) (wi || ins (prv b))) else b
termination_by b
decreasing_by omega
theorem bck_stop {prv : Nat → Nat} {ins : Nat → Bool} {b : Nat} (h : 0 < b) (h2 : prv b < b) (h3 : ins (prv b) = false) : bck prv ins b true = b := by
  rw [bck, dif_pos ⟨h, h2⟩, h3]; rfl
theorem bck_in {prv : Nat → Nat} {ins : Nat → Bool} {b : Nat} {wi : Bool} (h : 0 < b) (h2 : prv b < b) (h3 : ins (prv b) = true) : bck prv ins b wi = bck prv ins (prv b) true := by
  rw [bck, dif_pos ⟨h, h2⟩, h3]; simp
theorem bck_out {prv : Nat → Nat} {ins : Nat → Bool} {b : Nat} (h : 0 < b) (h2 : prv b < b) (h3 : ins (prv b) = false) : bck prv ins b false = bck prv ins (prv b) false := by
  rw [bck, dif_pos ⟨h, h2⟩, h3]; simp
theorem bck_zero {prv : Nat → Nat} {ins : Nat → Bool} {wi : Bool} : bck prv ins 0 wi = 0 := by
  rw [bck, dif_neg (by omega)]
def prv (T : Tab) (s : List Int) (b : Nat) : Nat := prevI T s (b : Int)
theorem prv_lt (T : Tab) {s : List Int} {b : Nat} (h : 0 < b) (hb : b ≤ s.length) : prv T s b < b := by
  unfold prv prevI
  rw [show max (min (b : Int) ((s.length : Int) + 1)) 0 - 1 = ((b - 1 : Nat) : Int) by omega]
  by_cases h0 : b - 1 = 0
  · rw [floorI_nonpos (by omega)]; omega
  · rw [floorI_mid (by omega) (by omega)]
    have := floorB_le T s (b - 1)
    omega
theorem ceilI_le (T : Tab) (s : List Int) (a : Int) : ceilI T s a ≤ s.length := by
  by_cases h : a ≤ 0
  · rw [ceilI_nonpos h]; exact Nat.zero_le _
  · by_cases h2 : (s.length : Int) ≤ a
    · rw [ceilI_big h h2]; exact Nat.le_refl _
    · obtain ⟨i, rfl⟩ : ∃ i : Nat, a = (i : Int) := ⟨a.toNat, by omega⟩
      rw [ceilI_mid (by omega) (by omega)]
      exact (ceilB_spec T s (by omega)).2.1
theorem ceilI_beg {T : Tab} {s : List Int} {b : Nat} (h : begAt T s b = true) : ceilI T s (b : Int) = b := by
  have hl := begAt_lt h
  by_cases h0 : b = 0
  · subst h0; exact ceilI_nonpos (Int.le_refl _)
  · rw [ceilI_mid (by omega) hl]
    exact ceilB_eq (by omega) (Nat.le_refl _) (fun j h1 h2 => by omega) (by omega) (.inr h)
/-- where the next word ends -/
def fwdI (R : List Rw) (s : List Int) (a : Int) : Nat := runE s.length (nxt (tabOf R) s) (insR R s) (skp s.length (nxt (tabOf R) s) (insR R s) (ceilI (tabOf R) s a))
/-- where the last word begins -/
def bckI (R : List Rw) (s : List Int) (a : Int) : Nat := bck (prv (tabOf R) s) (insR R s) (floorI (tabOf R) s a) false
def wrdsR (R : List Rw) (s : List Int) : List (Nat × Nat) := wrds s.length (nxt (tabOf R) s) (insR R s) 0
end Go.Proofs.YtblajooebmjfoaaGreat

/- Chapter 11's example; BackPrev: its walk. -/
namespace Go.Proofs.YtblajooebmjfoaaGreat
open Go.RowKit

/-- chapter 11's text: where its clusters begin -/
theorem ex11_beg {R : List Rw} (HF : RFacts R) (j : Nat) : begAt (tabOf R) [97, 127462, 127463, 127464] j = true ↔ j = 0 ∨ j = 1 ∨ j = 3 := by
  rw [← starts_mem, HF.seg.ex5]; simp
theorem ex11_begF {R : List Rw} (HF : RFacts R) (j : Nat) (h : ¬ (j = 0 ∨ j = 1 ∨ j = 3)) : begAt (tabOf R) [97, 127462, 127463, 127464] j = false := by
  cases hb : begAt (tabOf R) [97, 127462, 127463, 127464] j with
  | false => rfl
  | true => exact absurd ((ex11_beg HF j).1 hb) h
theorem ex11_floor {R : List Rw} (HF : RFacts R) : floorI (tabOf R) [97, 127462, 127463, 127464] 2 = 1 := by
  rw [show (2 : Int) = ((2 : Nat) : Int) from rfl, floorI_mid (by decide) (by decide)]
  refine floorB_eq (by decide) (.inr (by rw [isB_lt (by decide)]; exact (ex11_beg HF 1).2 (by simp))) fun j h1 h2 => ?_
  have : j = 2 := by omega
  subst this
  rw [isB_lt (by decide)]
  exact ex11_begF HF 2 (by omega)
theorem ex11_prev {R : List Rw} (HF : RFacts R) : prevI (tabOf R) [97, 127462, 127463, 127464] 3 = 1 := ex11_floor HF
theorem ex11_ceil {R : List Rw} (HF : RFacts R) : ceilI (tabOf R) [97, 127462, 127463, 127464] 2 = 3 := by
  rw [show (2 : Int) = ((2 : Nat) : Int) from rfl, ceilI_mid (by decide) (by decide)]
  refine ceilB_eq (by decide) (by decide) (fun j h1 h2 => ?_) (by decide) (.inr ((ex11_beg HF 3).2 (by simp)))
  have : j = 2 := by omega
  subst this
  exact ex11_begF HF 2 (by omega)
theorem ex11_next {R : List Rw} (HF : RFacts R) : nextI (tabOf R) [97, 127462, 127463, 127464] 0 = 1 := by
  show ceilI (tabOf R) [97, 127462, 127463, 127464] ((1 : Nat) : Int) = 1
  rw [ceilI_mid (by decide) (by decide)]
  exact ceilB_eq (by decide) (by decide) (fun j h1 h2 => by omega) (by decide) (.inr ((ex11_beg HF 1).2 (by simp)))
theorem prevI_cases (T : Tab) (s : List Int) (a : Int) : (prevI T s a : Int) = if a > 0 then (if a > (s.length : Int) then (s.length : Int) else (floorI T s (a - 1) : Int)) else 0 := by
  unfold prevI
  by_cases h : a > 0
  · rw [if_pos h]
    by_cases h2 : a > (s.length : Int)
    · rw [if_pos h2]
      by_cases h3 : s.length = 0
      · have hle := floorI_le T s (max (min a ((s.length : Int) + 1)) 0 - 1)
        omega
      · rw [floorI_big (by omega) (by omega)]
    · rw [if_neg h2]
      have : max (min a ((s.length : Int) + 1)) 0 - 1 = a - 1 := by omega
      rw [this]
  · rw [if_neg h, floorI_nonpos (by omega)]; rfl
theorem nextI_cases (T : Tab) (s : List Int) (a : Int) : (nextI T s a : Int) = if a < (s.length : Int) then (if a ≥ 0 then (ceilI T s (a + 1) : Int) else (ceilI T s 0 : Int)) else (s.length : Int) := by
  unfold nextI
  by_cases h : a < (s.length : Int)
  · rw [if_pos h, if_neg (by omega)]
    by_cases h2 : a ≥ 0
    · rw [if_pos h2]
      have : max a (-1) + 1 = a + 1 := by omega
      rw [this]
    · rw [if_neg h2, ceilI_nonpos (by omega), ceilI_nonpos (Int.le_refl _)]
  · rw [if_neg h, if_pos (by omega)]
end Go.Proofs.YtblajooebmjfoaaGreat

/- BackFloors: its walk. -/
namespace Go.Proofs.YtblajooebmjfoaaGreat
open Go.RowKit

/-- is a place a boundary? -/
def isI (T : Tab) (s : List Int) (a : Int) : Bool := decide (0 ≤ a) && (decide (a ≤ (s.length : Int)) && isB T s a.toNat)
section
variable {R : List Rw} {s : List Int} {w : World} {v sv : Value} {tp : Nat}
end
end Go.Proofs.YtblajooebmjfoaaGreat

/- Words: what going from word to word says of the list, plainly. -/
namespace Go.Proofs.YtblajooebmjfoaaGreat

/-- z is the first end behind c; n, if there is none -/
def IsFirst (L : List (Nat × Nat)) (n c z : Nat) : Prop := (z = n ∧ ∀ x ∈ L, ¬ c < x.2) ∨ ((∃ x ∈ L, x.2 = z) ∧ c < z ∧ ∀ x ∈ L, c < x.2 → z ≤ x.2)
/-- z is the last beginning ahead of c; 0, if there is none -/
def IsLast (L : List (Nat × Nat)) (c z : Nat) : Prop := (z = 0 ∧ ∀ x ∈ L, ¬ x.1 < c) ∨ ((∃ x ∈ L, x.1 = z) ∧ z < c ∧ ∀ x ∈ L, x.1 < c → x.1 ≤ z)
theorem runE_bd2 {n : Nat} {nt : Nat → Nat} {ins : Nat → Bool} {P : Nat → Prop} (hP : ∀ b, b < n → P b → P (nt b)) : ∀ m b, n - b = m → P b → P (runE n nt ins b) := by
  intro m
  induction m using Nat.strongRecOn with
  | _ m ih =>
    intro b hm hb
    rw [runE]
    split
    · rename_i h
      exact ih (n - nt b) (by omega) (nt b) rfl (hP b h.1 hb)
    · exact hb
theorem runE_bd' {n : Nat} {nt : Nat → Nat} {ins : Nat → Bool} (hN : ∀ b, b < n → nt b ≤ n) (m b : Nat) (hm : n - b = m) (hb : b ≤ n) : runE n nt ins b ≤ n := runE_bd2 (P := fun b => b ≤ n) (fun b h _ => hN b h) m b hm hb
section
variable {n : Nat} {nt pv : Nat → Nat} {ins : Nat → Bool} {B : Nat → Prop}
theorem wrds_ends (hn : ∀ b, b < n → b < nt b) (hN : ∀ b, b < n → nt b ≤ n) : ∀ m b, n - b = m → b ≤ n → (∀ x ∈ wrds n nt ins b, b ≤ x.1 ∧ x.1 < x.2 ∧ x.2 ≤ n) ∧ (wrds n nt ins b).Pairwise (fun x y => x.2 ≤ y.1) := by
  intro m
  induction m using Nat.strongRecOn with
  | _ m ih =>
    intro b hm hb
    by_cases hlt : b < n
    · have h2 := hn b hlt
      cases hi : ins b with
      | true =>
        have hg := runE_gt hlt h2 hi
        have hr : runE n nt ins b ≤ n := runE_bd' hN _ b rfl hb
        obtain ⟨i1, i2⟩ := ih (n - runE n nt ins b) (by omega) (runE n nt ins b) rfl hr
        rw [wrds_in hlt h2 hi]
        refine ⟨fun x hx => ?_, List.pairwise_cons.2 ⟨fun y hy => (i1 y hy).1, i2⟩⟩
        rcases List.mem_cons.1 hx with rfl | hx
        · exact ⟨Nat.le_refl _, hg, hr⟩
        · have := i1 x hx; omega
      | false =>
        obtain ⟨i1, i2⟩ := ih (n - nt b) (by omega) (nt b) rfl (hN b hlt)
        rw [wrds_out hlt h2 hi]
        exact ⟨fun x hx => by have := i1 x hx; omega, i2⟩
    · rw [wrds_end hlt]
      exact ⟨fun x hx => by simp at hx, .nil⟩
theorem run_mid (hn : ∀ b, b < n → b < nt b) (hB : ∀ b, b < n → B b → B (nt b)) (hg : ∀ b c, b < n → B b → B c → b < c → nt b ≤ c) : ∀ m b c, n - b = m → B b → B c → b ≤ c → c < runE n nt ins b → ins c = true ∧ runE n nt ins c = runE n nt ins b := by
  intro m
  induction m using Nat.strongRecOn with
  | _ m ih =>
    intro b c hm hb hc hbc hcr
    have hlt : b < n := by
      by_cases h : b < n
      · exact h
      · rw [runE_end h] at hcr; omega
    have hi : ins b = true := by
      cases h : ins b with
      | true => rfl
      | false => rw [runE_stop h] at hcr; omega
    by_cases e : b = c
    · subst e; exact ⟨hi, rfl⟩
    · have h2 := hn b hlt
      have h3 := hg b c hlt hb hc (by omega)
      rw [runE_step hlt h2 hi] at hcr ⊢
      exact ih (n - nt b) (by omega) (nt b) c rfl (hB b hlt hb) hc h3 hcr
theorem run_out (hn : ∀ b, b < n → b < nt b) : ∀ m b, n - b = m → ins (runE n nt ins b) = false ∨ ¬ runE n nt ins b < n := by
  intro m
  induction m using Nat.strongRecOn with
  | _ m ih =>
    intro b hm
    by_cases hlt : b < n
    · cases hi : ins b with
      | true => rw [runE_step hlt (hn b hlt) hi]; exact ih (n - nt b) (by have := hn b hlt; omega) (nt b) rfl
      | false => rw [runE_stop hi]; exact .inl hi
    · rw [runE_end hlt]; exact .inr hlt
theorem fwd_first (hn : ∀ b, b < n → b < nt b) (hN : ∀ b, b < n → nt b ≤ n) (hB : ∀ b, b < n → B b → B (nt b)) (hg : ∀ b c, b < n → B b → B c → b < c → nt b ≤ c) : ∀ m b c, n - b = m → B b → B c → b ≤ c → c ≤ n → IsFirst (wrds n nt ins b) n c (runE n nt ins (skp n nt ins c)) := by
  intro m
  induction m using Nat.strongRecOn with
  | _ m ih =>
    intro b c hm hb hc hbc hcn
    by_cases hlt : b < n
    · have h2 := hn b hlt
      cases hi : ins b with
      | true =>
        have hgt := runE_gt hlt h2 hi
        have hrn : runE n nt ins b ≤ n := runE_bd' hN _ b rfl (by omega)
        have hBr : B (runE n nt ins b) := runE_bd2 hB _ b rfl hb
        rw [wrds_in hlt h2 hi]
        by_cases hcr : c < runE n nt ins b
        · obtain ⟨c1, c2⟩ := run_mid hn hB hg _ b c rfl hb hc hbc hcr
          rw [skp_stop c1, c2]
          refine .inr ⟨⟨_, List.mem_cons_self, rfl⟩, hcr, fun x hx _ => ?_⟩
          rcases List.mem_cons.1 hx with rfl | hx
          · exact Nat.le_refl _
          · have := (wrds_ends hn hN _ _ rfl hrn).1 x hx; omega
        · rcases ih (n - runE n nt ins b) (by omega) (runE n nt ins b) c rfl hBr hc (by omega) hcn with ⟨h, k⟩ | ⟨⟨y, hy, hz⟩, h, k⟩
          · refine .inl ⟨h, fun x hx => ?_⟩
            rcases List.mem_cons.1 hx with rfl | hx
            · exact hcr
            · exact k x hx
          · refine .inr ⟨⟨y, List.mem_cons_of_mem _ hy, hz⟩, h, fun x hx hcx => ?_⟩
            rcases List.mem_cons.1 hx with rfl | hx
            · exact absurd hcx hcr
            · exact k x hx hcx
      | false =>
        rw [wrds_out hlt h2 hi]
        by_cases e : b = c
        · subst e
          have hE := (wrds_ends (ins := ins) hn hN _ (nt b) rfl (hN b hlt)).1
          rw [skp_step hlt h2 hi]
          rcases ih (n - nt b) (by omega) (nt b) (nt b) rfl (hB b hlt hb) (hB b hlt hb) (Nat.le_refl _) (hN b hlt) with ⟨h, k⟩ | ⟨hz, h, k⟩
          · exact .inl ⟨h, fun x hx _ => k x hx (by have := hE x hx; omega)⟩
          · exact .inr ⟨hz, by omega, fun x hx _ => k x hx (by have := hE x hx; omega)⟩
        · exact ih (n - nt b) (by omega) (nt b) c rfl (hB b hlt hb) hc (hg b c hlt hb hc (by omega)) hcn
    · have : c = n := by omega
      subst this
      rw [skp_end (by omega), runE_end (by omega), wrds_end (by omega)]
      exact .inl ⟨rfl, fun x hx => by simp at hx⟩
/-- where words begin -/
theorem begs_is (hn : ∀ b, b < n → b < nt b) (_ : ∀ b, b < n → nt b ≤ n) (hB : ∀ b, b < n → B b → B (nt b)) (hg : ∀ b c, b < n → B b → B c → b < c → nt b ≤ c)
    (hp : ∀ c, B c → 0 < c → B (pv c) ∧ pv c < c ∧ nt (pv c) = c) (_ : ∀ b, B b → b ≤ n) : ∀ m b, n - b = m → B b → ∀ z, (∃ x ∈ wrds n nt ins b, x.1 = z) ↔ (B z ∧ b ≤ z ∧ z < n ∧ ins z = true ∧ (z = b ∨ ins (pv z) = false)) := by
  have hpn : ∀ b, b < n → B b → pv (nt b) = b := by
    intro b hlt hb
    have h2 := hn b hlt
    obtain ⟨p1, p2, p3⟩ := hp (nt b) (hB b hlt hb) (by omega)
    rcases Nat.lt_trichotomy (pv (nt b)) b with h | h | h
    · have := hg _ b (by omega) p1 hb h; omega
    · exact h
    · have := hg b _ hlt hb p1 h; omega
  intro m
  induction m using Nat.strongRecOn with
  | _ m ih =>
    intro b hm hb z
    by_cases hlt : b < n
    · have h2 := hn b hlt
      cases hi : ins b with
      | true =>
        have hgt := runE_gt hlt h2 hi
        have hBr : B (runE n nt ins b) := runE_bd2 hB _ b rfl hb
        have hout := run_out (ins := ins) hn _ b rfl
        have hI := ih (n - runE n nt ins b) (by omega) (runE n nt ins b) rfl hBr z
        rw [wrds_in hlt h2 hi]
        constructor
        · rintro ⟨x, hx, rfl⟩
          rcases List.mem_cons.1 hx with rfl | hx
          · exact ⟨hb, Nat.le_refl _, hlt, hi, .inl rfl⟩
          · obtain ⟨q1, q2, q3, q4, q5⟩ := hI.1 ⟨x, hx, rfl⟩
            refine ⟨q1, by omega, q3, q4, .inr ?_⟩
            rcases q5 with q5 | q5
            · rcases hout with h | h
              · rw [q5, h] at q4; cases q4
              · omega
            · exact q5
        · rintro ⟨q1, q2, q3, q4, q5⟩
          by_cases e : z = b
          · exact ⟨_, List.mem_cons_self, e.symm⟩
          · have q5' := q5.resolve_left e
            have hz : ¬ z < runE n nt ins b := by
              intro hz
              obtain ⟨p1, p2, p3⟩ := hp z q1 (by omega)
              have hbp : b ≤ pv z := by
                by_cases h : b ≤ pv z
                · exact h
                · have := hg (pv z) b (by omega) p1 hb (by omega); omega
              have := (run_mid (ins := ins) hn hB hg _ b (pv z) rfl hb p1 hbp (by omega)).1
              rw [this] at q5'; cases q5'
            obtain ⟨x, hx, hxz⟩ := hI.2 ⟨q1, by omega, q3, q4, .inr q5'⟩
            exact ⟨x, List.mem_cons_of_mem _ hx, hxz⟩
      | false =>
        rw [wrds_out hlt h2 hi, ih (n - nt b) (by omega) (nt b) rfl (hB b hlt hb) z]
        constructor
        · rintro ⟨q1, q2, q3, q4, q5⟩
          refine ⟨q1, by omega, q3, q4, .inr ?_⟩
          rcases q5 with q5 | q5
          · rw [q5, hpn b hlt hb, hi]
          · exact q5
        · rintro ⟨q1, q2, q3, q4, q5⟩
          have e : z ≠ b := fun e => by rw [e, hi] at q4; cases q4
          exact ⟨q1, hg b z hlt hb q1 (by omega), q3, q4, .inr (q5.resolve_left e)⟩
    · rw [wrds_end hlt]
      constructor
      · rintro ⟨x, hx, _⟩; simp at hx
      · rintro ⟨q1, q2, q3, _⟩; omega
theorem bck_last (hn : ∀ b, b < n → b < nt b) (hN : ∀ b, b < n → nt b ≤ n) (hB : ∀ b, b < n → B b → B (nt b)) (hg : ∀ b c, b < n → B b → B c → b < c → nt b ≤ c)
    (hp : ∀ c, B c → 0 < c → B (pv c) ∧ pv c < c ∧ nt (pv c) = c) (hBn : ∀ b, B b → b ≤ n) (hB0 : B 0) (c : Nat) (hc : B c) : IsLast (wrds n nt ins 0) c (bck pv ins c false) := by
  have hbeg := begs_is (ins := ins) hn hN hB hg hp hBn _ 0 rfl hB0
  generalize wrds n nt ins 0 = W at hbeg
  have skip : ∀ p z, B p → p < n → (¬ ∃ x ∈ W, x.1 = p) → IsLast W p z → IsLast W (nt p) z := by
    intro p z hp1 hpn hno h
    have key : ∀ x ∈ W, x.1 < nt p → x.1 < p := by
      intro x hx hxn
      have hBx := ((hbeg x.1).1 ⟨x, hx, rfl⟩).1
      rcases Nat.lt_trichotomy x.1 p with h | h | h
      · exact h
      · exact absurd ⟨x, hx, h⟩ hno
      · have := hg p x.1 hpn hp1 hBx h; omega
    have := hn p hpn
    rcases h with ⟨h, k⟩ | ⟨hz, h, k⟩
    · exact .inl ⟨h, fun x hx hl => k x hx (key x hx hl)⟩
    · exact .inr ⟨hz, by omega, fun x hx hl => k x hx (key x hx hl)⟩
  have here : ∀ p, B p → p < n → (∃ x ∈ W, x.1 = p) → IsLast W (nt p) p := by
    intro p hp1 hpn hz
    refine .inr ⟨hz, hn p hpn, fun x hx hl => ?_⟩
    have hBx := ((hbeg x.1).1 ⟨x, hx, rfl⟩).1
    by_cases h : p < x.1
    · have := hg p x.1 hpn hp1 hBx h; omega
    · omega
  have C : ∀ p, B p → p < n → ins p = true → IsLast W (nt p) (bck pv ins p true) := by
    intro p
    induction p using Nat.strongRecOn with
    | _ p ih =>
      intro hp1 hpn hi
      by_cases h0 : p = 0
      · subst h0
        rw [bck_zero]
        exact here 0 hp1 hpn ((hbeg 0).2 ⟨hp1, Nat.le_refl _, hpn, hi, .inl rfl⟩)
      · obtain ⟨q1, q2, q3⟩ := hp p hp1 (by omega)
        cases hq : ins (pv p) with
        | true =>
          rw [bck_in (by omega) q2 hq]
          have := ih (pv p) q2 q1 (by omega) hq
          rw [q3] at this
          refine skip p _ hp1 hpn (fun he => ?_) this
          obtain ⟨_, _, _, _, h5⟩ := (hbeg p).1 he
          rcases h5 with h5 | h5
          · exact h0 h5
          · rw [hq] at h5; cases h5
        | false =>
          rw [bck_stop (by omega) q2 hq]
          exact here p hp1 hpn ((hbeg p).2 ⟨hp1, Nat.zero_le _, hpn, hi, .inr hq⟩)
  induction c using Nat.strongRecOn with
  | _ c ih =>
    by_cases h0 : c = 0
    · subst h0
      rw [bck_zero]
      exact .inl ⟨rfl, fun x hx => by omega⟩
    · obtain ⟨q1, q2, q3⟩ := hp c hc (by omega)
      have hpn : pv c < n := by have := hBn c hc; omega
      cases hq : ins (pv c) with
      | true =>
        rw [bck_in (by omega) q2 hq]
        have := C (pv c) q1 hpn hq
        rwa [q3] at this
      | false =>
        rw [bck_out (by omega) q2 hq]
        have := skip (pv c) _ q1 hpn (fun he => by have := ((hbeg _).1 he).2.2.2.1; rw [hq] at this; cases this) (ih (pv c) q2 q1)
        rwa [q3] at this
end
/-- a place that is the end or where a cluster begins -/
def Bd (T : Tab) (s : List Int) (b : Nat) : Prop := b ≤ s.length ∧ (b = s.length ∨ begAt T s b = true)
theorem Bd.zero (T : Tab) (s : List Int) : Bd T s 0 := by
  refine ⟨Nat.zero_le _, ?_⟩
  cases s with
  | nil => exact .inl rfl
  | cons x l => exact .inr rfl
theorem Bd.isB {T : Tab} {s : List Int} {b : Nat} (h : Bd T s b) : isB T s b = true := by
  rcases h.2 with h | h
  · subst h; exact isB_len T s
  · rw [isB_lt (begAt_lt h)]; exact h
theorem Bd.of {T : Tab} {s : List Int} {b : Nat} (hb : b ≤ s.length) (h : Go.Proofs.YtblajooebmjfoaaGreat.isB T s b = true) : Bd T s b := by
  refine ⟨hb, ?_⟩
  by_cases e : b = s.length
  · exact .inl e
  · rw [isB_lt (by omega)] at h; exact .inr h
theorem Bd.isI {T : Tab} {s : List Int} {b : Nat} (h : Bd T s b) : isI T s (b : Int) = true := by
  unfold Go.Proofs.YtblajooebmjfoaaGreat.isI
  rw [decide_eq_true (by omega), decide_eq_true (by have := h.1; omega), Bool.true_and, Bool.true_and]
  exact h.isB
theorem bd_next {T : Tab} (H : T.Ok) {s : List Int} (b : Nat) (hl : b < s.length) (hb : Bd T s b) : Bd T s (nxt T s b) :=
  ⟨(nx_spec H (hb.2.resolve_left (by omega))).2.1, (nx_spec H (hb.2.resolve_left (by omega))).2.2.2⟩
theorem bd_gap {T : Tab} (H : T.Ok) {s : List Int} (b c : Nat) (hl : b < s.length) (hb : Bd T s b) (hc : Bd T s c) (h : b < c) : nxt T s b ≤ c := by
  obtain ⟨h1, h2, h3, h4⟩ := nx_spec H (hb.2.resolve_left (by omega))
  by_cases e : c < nxt T s b
  · have := h3 c h e
    rcases hc.2 with hc | hc
    · unfold nxt at e; omega
    · rw [this] at hc; cases hc
  · omega
theorem bd_prev {T : Tab} (H : T.Ok) {s : List Int} (c : Nat) (hc : Bd T s c) (h0 : 0 < c) : Bd T s (prv T s c) ∧ prv T s c < c ∧ nxt T s (prv T s c) = c := by
  have hlt := prv_lt T h0 hc.1
  have hle := hc.1
  have hv : prv T s c = floorB T s (c - 1) := by
    unfold prv prevI
    rw [show max (min (c : Int) ((s.length : Int) + 1)) 0 - 1 = ((c - 1 : Nat) : Int) by omega]
    by_cases e : c - 1 = 0
    · rw [floorI_nonpos (by omega), e]; rfl
    · rw [floorI_mid (by omega) (by omega)]
  have hp : Bd T s (prv T s c) := by
    rcases floorB_is T s (c - 1) with h | h
    · rw [hv, h]; exact Bd.zero T s
    · rw [hv]; exact Bd.of (by omega) h
  refine ⟨hp, hlt, ?_⟩
  have h1 := bd_gap H _ c (by omega) hp hc hlt
  have h2 := nxt_gt T (s := s) (b := prv T s c) (by omega)
  have h3 := bd_next H _ (by omega) hp
  by_cases e : nxt T s (prv T s c) = c
  · exact e
  · have := floorB_none T s (c - 1) (nxt T s (prv T s c)) (by omega) (by omega)
    rw [h3.isB] at this; cases this
theorem fwdI_first {R : List Rw} (H : (tabOf R).Ok) {s : List Int} {a : Int} {c : Nat} (ha : ceilI (tabOf R) s a = c) (hc : Bd (tabOf R) s c) : IsFirst (wrdsR R s) s.length c (fwdI R s a) := by
  unfold fwdI wrdsR
  rw [ha]
  exact fwd_first (B := Bd (tabOf R) s) (fun b h => nxt_gt _ h) (fun b h => nxt_le _ (by omega)) (bd_next H) (bd_gap H) _ 0 c rfl (Bd.zero _ _) hc (Nat.zero_le _) hc.1
theorem bckI_last {R : List Rw} (H : (tabOf R).Ok) {s : List Int} {a : Int} {c : Nat} (ha : floorI (tabOf R) s a = c) (hc : Bd (tabOf R) s c) : IsLast (wrdsR R s) c (bckI R s a) := by
  unfold bckI wrdsR
  rw [ha]
  exact bck_last (B := Bd (tabOf R) s) (fun b h => nxt_gt _ h) (fun b h => nxt_le _ (by omega)) (bd_next H) (bd_gap H) (bd_prev H) (fun b h => h.1) (Bd.zero _ _) c hc
theorem wrdsR_ends (R : List Rw) (s : List Int) : (∀ x ∈ wrdsR R s, x.1 < x.2 ∧ x.2 ≤ s.length) ∧ (wrdsR R s).Pairwise (fun x y => x.2 ≤ y.1) := by
  obtain ⟨h1, h2⟩ := wrds_ends (n := s.length) (nt := nxt (tabOf R) s) (ins := insR R s) (fun b h => nxt_gt _ h) (fun b h => nxt_le _ (by omega)) _ 0 rfl (Nat.zero_le _)
  exact ⟨fun x hx => (h1 x hx).2, h2⟩
theorem wrds_bd {n : Nat} {nt : Nat → Nat} {ins : Nat → Bool} {B : Nat → Prop} (hn : ∀ b, b < n → b < nt b) (hB : ∀ b, b < n → B b → B (nt b)) : ∀ m b, n - b = m → B b → ∀ x ∈ wrds n nt ins b, B x.1 ∧ B x.2 := by
  intro m
  induction m using Nat.strongRecOn with
  | _ m ih =>
    intro b hm hb x hx
    by_cases hlt : b < n
    · have h2 := hn b hlt
      cases hi : ins b with
      | true =>
        have hgt := runE_gt hlt h2 hi
        have hBr : B (runE n nt ins b) := runE_bd2 hB _ b rfl hb
        rw [wrds_in hlt h2 hi] at hx
        rcases List.mem_cons.1 hx with rfl | hx
        · exact ⟨hb, hBr⟩
        · exact ih (n - runE n nt ins b) (by omega) _ rfl hBr x hx
      | false =>
        rw [wrds_out hlt h2 hi] at hx
        exact ih (n - nt b) (by omega) _ rfl (hB b hlt hb) x hx
    · rw [wrds_end hlt] at hx; simp at hx
theorem wrdsR_bd {R : List Rw} (H : (tabOf R).Ok) {s : List Int} : ∀ x ∈ wrdsR R s, Bd (tabOf R) s x.1 ∧ Bd (tabOf R) s x.2 :=
  wrds_bd (B := Bd (tabOf R) s) (fun _ h => nxt_gt _ h) (bd_next H) _ 0 rfl (Bd.zero _ _)
end Go.Proofs.YtblajooebmjfoaaGreat

/- slices.BinarySearch at whole numbers; an index's questions. -/
namespace Go.Proofs.YtblajooebmjfoaaGreat
open Go.RowKit

theorem nan_any (x : Int) (w : World) : Calls Tryz.prog 110 #[.int .i64 x] w fun e w' => e = .returned (.bool false) ∧ w = w' := by
  go_enter Tryz.func110, Tryz.ntmps110
  go_wp2_with fail
  go_ret
  exact ⟨rfl, rfl⟩
theorem nan2_any (x : Int) (w : World) : Calls Tryz.prog 86 #[.int .i64 x] w fun e w' => e = .returned (.bool false) ∧ w = w' := by
  go_enter Tryz.func86, Tryz.ntmps86
  go_wp2_with fail
  go_ret
  exact ⟨rfl, rfl⟩
theorem less_any (x y : Int) (w : World) : Calls Tryz.prog 85 #[.int .i64 x, .int .i64 y] w fun e w' => e = .returned (.bool (decide (x < y))) ∧ w = w' := by
  go_enter Tryz.func85, Tryz.ntmps85
  go_wp2_with fail
  refine (nan_any x w).mono ?_
  rintro e w1 ⟨rfl, rfl⟩
  go_wp2_with fail
  go_ret
  exact ⟨rfl, rfl⟩
theorem ret_ib {i i' : Int} {b b' : Bool} (h1 : i = i') (h2 : b = b') : Ending.returned (.tuple #[.int .i64 i, .bool b]) = Ending.returned (.tuple #[.int .i64 i', .bool b']) := by rw [h1, h2]
/-- where the search for a number ends -/
structure FoundI (S : List Nat) (a : Int) (i : Nat) : Prop where
  le : i ≤ S.length
  lo : ∀ (j : Nat) (s : Nat), j < i → S[j]? = some s → (s : Int) < a
  hi : ∀ (j : Nat) (s : Nat), i ≤ j → S[j]? = some s → a ≤ (s : Int)
theorem found_lo {S : List Nat} {a : Int} (hS : S.Pairwise (· < ·)) {h x : Nat} (hx : S[h]? = some x) (ht : (x : Int) < a) : ∀ (q : Nat) (s : Nat), q < h + 1 → S[q]? = some s → (s : Int) < a := by
  intro q s hq hs
  rw [List.pairwise_iff_getElem] at hS
  obtain ⟨a1, a2⟩ := List.getElem?_eq_some_iff.1 hs
  obtain ⟨b1, b2⟩ := List.getElem?_eq_some_iff.1 hx
  rcases Nat.lt_or_ge q h with hl | hl
  · have := hS q h a1 b1 hl; omega
  · have : q = h := by omega
    subst this; omega
theorem found_hi {S : List Nat} {a : Int} (hS : S.Pairwise (· < ·)) {h x : Nat} (hx : S[h]? = some x) (ht : a ≤ (x : Int)) : ∀ (q : Nat) (s : Nat), h ≤ q → S[q]? = some s → a ≤ (s : Int) := by
  intro q s hq hs
  rw [List.pairwise_iff_getElem] at hS
  obtain ⟨a1, a2⟩ := List.getElem?_eq_some_iff.1 hs
  obtain ⟨b1, b2⟩ := List.getElem?_eq_some_iff.1 hx
  rcases Nat.lt_or_ge h q with hl | hl
  · have := hS h q b1 a1 hl; omega
  · have : q = h := by omega
    subst this; omega
/-- how many begin ahead of a place -/
def ahd (S : List Nat) (a : Int) : Nat := (S.takeWhile fun s : Nat => decide ((s : Int) < a)).length
/-- does one begin there? -/
def isAt (S : List Nat) (a : Int) : Bool := decide (S[ahd S a]?.map (fun s : Nat => (s : Int)) = some a)
theorem ahd_le (S : List Nat) (a : Int) : ahd S a ≤ S.length := by
  unfold ahd
  exact (List.takeWhile_prefix _).length_le
theorem ahd_eq {S : List Nat} {a : Int} : ∀ {i : Nat}, FoundI S a i → ahd S a = i := by
  induction S with
  | nil => intro i h; have := h.le; simp at this; subst this; unfold ahd; rfl
  | cons x S ih =>
    intro i h
    by_cases hx : (x : Int) < a
    · cases i with
      | zero => have := h.hi 0 x (Nat.le_refl _) rfl; omega
      | succ i =>
        have := ih (i := i) ⟨by have := h.le; simp at this; omega, fun j s hj hs => h.lo (j + 1) s (by omega) (by simpa using hs), fun j s hj hs => h.hi (j + 1) s (by omega) (by simpa using hs)⟩
        unfold ahd at this ⊢
        rw [List.takeWhile_cons, if_pos (by simpa using hx), List.length_cons, this]
    · cases i with
      | zero => unfold ahd; rw [List.takeWhile_cons, if_neg (by simpa using hx)]; rfl
      | succ i => exact absurd (h.lo 0 x (by omega) rfl) hx
set_option maxRecDepth 100000 in
set_option maxHeartbeats 4000000 in
theorem bsi_any (v : Value) (S : List Nat) (a : Int) (w : World) (hI : IntsIn w v S) (hS : S.Pairwise (· < ·)) (hl : S.length ≤ 1000000) :
    Calls Tryz.prog 45 #[v, .int .i64 a] w fun e w' => e = .returned (.tuple #[.int .i64 ((ahd S a : Nat) : Int), .bool (isAt S a)]) ∧ Below w.heap.size w w' ∧ FoundI S a (ahd S a) := by
  have HI := Lib.hid hI
  obtain ⟨sa, sc, rfl, hcap, hmax, _⟩ := ints_cells hI
  unfold maxLen at hmax
  have HS := Lib.hid hS
  clear hS hI
  go_enter Tryz.func45, Tryz.ntmps45
  go_wp2_with fail
  go_loopw [7, 8] (fun iv jv wr => ∃ i j : Nat, iv = .int .i64 ((i : Nat) : Int) ∧ jv = .int .i64 ((j : Nat) : Int) ∧ i ≤ j ∧ j ≤ S.length ∧ Below w.heap.size w wr ∧ (∀ (q : Nat) (s : Nat), q < i → S[q]? = some s → (s : Int) < a) ∧ (∀ (q : Nat) (s : Nat), j ≤ q → S[q]? = some s → a ≤ (s : Int))) (fun iv jv _ => (intOf jv).toNat - (intOf iv).toNat)
  case atStart => exact ⟨0, S.length, rfl, rfl, Nat.zero_le _, Nat.le_refl _, .refl _ _, fun q s h => by omega, fun q s h h2 => by have := (List.getElem?_eq_some_iff.1 h2).1; omega⟩
  case round =>
    obtain ⟨i, j, rfl, rfl, hij, hjl, hB, hlo, hhi⟩ := hrel
    have HB := Lib.hid hB
    have HLo := Lib.hid hlo
    have HHi := Lib.hid hhi
    clear hlo hhi
    by_cases hlt : i < j
    · obtain ⟨h, hh⟩ : ∃ h : Nat, h = (i + j) / 2 := ⟨_, rfl⟩
      have hhl : h < S.length := by omega
      have hih : i ≤ h := by omega
      have hhj : h < j := by omega
      obtain ⟨x, hx⟩ : ∃ x, S[h]? = some x := ⟨S[h], List.getElem?_eq_getElem hhl⟩
      obtain ⟨b, off, cap', hv, _, _, _, _, d0⟩ := int_cell (HI.out.below hB) hx
      cases hv
      have HX := Lib.hid hx
      clear hB hx
      have s1 : (((i : Nat) : Int) + ((j : Nat) : Int)) / 2 = ((h : Nat) : Int) := by omega
      clear hh
      have e1 := IntWalk.i64_in (((i : Nat) : Int) + ((j : Nat) : Int)) (by omega)
      have p0 : ((i : Nat) : Int) < ((j : Nat) : Int) := by omega
      have p1 : (0 : Int) ≤ (h : Int) := by omega
      have p2 : (h : Int) < (S.length : Int) := by omega
      by_cases h1 : (x : Int) < a
      · have H1 := Lib.hid h1
        go_wp2_with fail
        refine (less_any _ _ _).mono ?_
        rintro e w1 ⟨rfl, rfl⟩
        go_wp2_with fail
        go_roundw
        case rel => exact ⟨h + 1, j, by go_num, rfl, by omega, by omega, HB.out, found_lo HS.out HX.out H1.out, HHi.out⟩
        case measure => simp [intOf]; omega
      · have q1 : decide ((x : Int) < a) = false := decide_eq_false h1
        have H1 := Lib.hid (show a ≤ (x : Int) by omega)
        clear h1
        go_wp2_with fail
        refine (less_any _ _ _).mono ?_
        rintro e w1 ⟨rfl, rfl⟩
        go_wp2_with fail
        go_roundw
        case rel => exact ⟨i, h, rfl, rfl, by omega, by omega, HB.out, HLo.out, found_hi HS.out HX.out H1.out⟩
        case measure => simp [intOf]; omega
    · have hie : i = j := by omega
      subst hie
      have HA := Lib.hid (ahd_eq (S := S) (a := a) (i := i) ⟨hjl, HLo.out, HHi.out⟩)
      have HF := Lib.hid (show FoundI S a (ahd S a) by rw [HA.out]; exact ⟨hjl, HLo.out, HHi.out⟩)
      clear hlt hij
      by_cases hin : i < S.length
      · obtain ⟨x, hx⟩ : ∃ x, S[i]? = some x := ⟨S[i], List.getElem?_eq_getElem hin⟩
        obtain ⟨b, off, cap', hv, _, _, _, _, d0⟩ := int_cell (HI.out.below hB) hx
        cases hv
        have p1 : (0 : Int) ≤ (i : Int) := by omega
        have p2 : (i : Int) < (S.length : Int) := by omega
        by_cases hf : (x : Int) = a
        · have q2 : ((x : Int) == a) = true := by simpa using hf
          have HE := Lib.hid (show isAt S a = true by unfold isAt; rw [HA.out, hx]; simp [hf])
          clear hf hB hx
          go_wp2_with fail
          go_ret2
          exact ⟨ret_ib (by rw [HA.out]) HE.out.symm, HB.out, HF.out⟩
        · have q2 : ((x : Int) == a) = false := by simpa using hf
          have HE := Lib.hid (show isAt S a = false by unfold isAt; rw [HA.out, hx]; simp [hf])
          clear hf hB hx
          go_wp2_with fail
          refine (nan2_any _ _).mono ?_
          rintro e w1 ⟨rfl, rfl⟩
          go_wp2_with fail
          go_ret2
          exact ⟨ret_ib (by rw [HA.out]) HE.out.symm, HB.out, HF.out⟩
      · have hil : i = S.length := by omega
        have HE := Lib.hid (show isAt S a = false by unfold isAt; rw [HA.out, List.getElem?_eq_none (by omega)]; rfl)
        subst hil
        clear hB hin
        go_wp2_with fail
        go_ret2
        exact ⟨ret_ib (by rw [HA.out]) HE.out.symm, HB.out, HF.out⟩
end Go.Proofs.YtblajooebmjfoaaGreat

/- How an index learns of a change, plainly. -/
namespace Go.Proofs.YtblajooebmjfoaaGreat

/-- texts that are the same ahead of a place and behind one -/
structure Win (o l : List Int) (f was is : Nat) : Prop where
  fw : f ≤ was
  wo : was ≤ o.length
  fi : f ≤ is
  il : is ≤ l.length
  pre : o.take f = l.take f
  suf : o.drop was = l.drop is
section
variable {T : Tab} {o l : List Int} {f was is : Nat}
theorem begAt_pre (h : o.take f = l.take f) {i : Nat} (hi : i < f) : begAt T o i = begAt T l i := by
  have h1 : o[i]? = l[i]? := by rw [← List.getElem?_take_of_lt hi, h, List.getElem?_take_of_lt hi]
  have h2 : o.take i = l.take i := by
    have := congrArg (List.take i) h
    rwa [List.take_take, List.take_take, Nat.min_eq_left (by omega)] at this
  unfold begAt
  rw [h1, h2]
theorem agree {f : Nat} : ∀ (A B : List Nat), A.Pairwise (· < ·) → B.Pairwise (· < ·) → (∀ j, j < f → (j ∈ A ↔ j ∈ B)) → ∀ (k x : Nat), A[k]? = some x → x < f → B[k]? = some x ∧ B.take k = A.take k
  | [], _, _, _, _, k, x, hk, _ => by simp at hk
  | a :: A, B, hA, hB, hm, k, x, hk, hx => by
    obtain ⟨hA1, hA2⟩ := List.pairwise_cons.1 hA
    have hax : a ≤ x := by
      cases k with
      | zero => simp at hk; omega
      | succ k =>
        have : x ∈ A := List.mem_of_getElem? (by simpa using hk)
        have := hA1 x this; omega
    have haB := (hm a (by omega)).1 List.mem_cons_self
    cases B with
    | nil => simp at haB
    | cons b B =>
      obtain ⟨hB1, hB2⟩ := List.pairwise_cons.1 hB
      have hba : b ≤ a := by
        rcases List.mem_cons.1 haB with h | h
        · omega
        · have := hB1 a h; omega
      have hab : a ≤ b := by
        rcases List.mem_cons.1 ((hm b (by omega)).2 List.mem_cons_self) with h | h
        · omega
        · have := hA1 b h; omega
      have e : b = a := by omega
      subst e
      cases k with
      | zero => exact ⟨by simpa using hk, rfl⟩
      | succ k =>
        have := agree (f := f) A B hA2 hB2 (fun j hj => ⟨fun h => by
          have h3 := hA1 j h
          rcases List.mem_cons.1 ((hm j hj).1 (List.mem_cons_of_mem _ h)) with h4 | h4
          · omega
          · exact h4, fun h => by
          have h3 := hB1 j h
          rcases List.mem_cons.1 ((hm j hj).2 (List.mem_cons_of_mem _ h)) with h4 | h4
          · omega
          · exact h4⟩) k x (by simpa using hk) hx
        exact ⟨by simpa using this.1, by rw [List.take_succ_cons, List.take_succ_cons, this.2]⟩
theorem idx_first (h : o.take f = l.take f) {k x : Nat} (hk : (starts T o)[k]? = some x) (hx : x < f) : (starts T l)[k]? = some x ∧ (starts T l).take k = (starts T o).take k :=
  agree (f := f) _ _ (starts_sorted T o) (starts_sorted T l) (fun j hj => by rw [starts_mem, starts_mem, begAt_pre h hj]) k x hk hx
theorem start_next (H : T.Ok) {m a : Nat} (hm : (starts T l)[m]? = some a) : (m + 1 < (starts T l).length → (starts T l)[m + 1]? = some (nxt T l a)) ∧ (m + 1 = (starts T l).length → nxt T l a = l.length) := by
  have hb := (starts_mem T l a).1 (List.mem_of_getElem? hm)
  have hl := begAt_lt hb
  have hbd : Bd T l a := ⟨by omega, .inr hb⟩
  have hn := bd_next H a hl hbd
  have hgt := nxt_gt T hl
  constructor
  · intro h
    obtain ⟨q', hq'⟩ : ∃ q, (starts T l)[m + 1]? = some q := ⟨_, List.getElem?_eq_getElem h⟩
    obtain ⟨h1, h2⟩ := sorted_between (starts_sorted T l) hm hq'
    have hb' := (starts_mem T l q').1 (List.mem_of_getElem? hq')
    have hl' := begAt_lt hb'
    have h3 := bd_gap H a q' hl hbd ⟨by omega, .inr hb'⟩ h1
    have e : nxt T l a = q' := by
      by_cases e : nxt T l a < q'
      · have := hn.2.resolve_left (by omega)
        exact absurd ⟨hgt, e⟩ (h2 _ ((starts_mem T l _).2 this))
      · omega
    rw [hq', e]
  · intro h
    have hmax := sorted_last (starts_sorted T l) hm h
    rcases hn.2 with h3 | h3
    · exact h3
    · have := hmax _ ((starts_mem T l _).2 h3); omega
theorem idx_rest (H : T.Ok) (hw : o.drop was = l.drop is) {m a q s : Nat} (hA : (starts T l)[m]? = some a) (hS : (starts T o)[q]? = some s) (ha : is ≤ a) (hs : (s : Int) + ((is : Int) - (was : Int)) = (a : Int)) :
    (starts T l).length - m = (starts T o).length - q ∧ ∀ i x, (starts T o)[q + i]? = some x → ∃ y, (starts T l)[m + i]? = some y ∧ (y : Int) = (x : Int) + ((is : Int) - (was : Int)) := by
  have h1 := starts_suffix H hA
  have h2 := starts_suffix H hS
  have hd : o.drop s = l.drop a := by
    have := congrArg (List.drop (a - is)) hw
    rwa [List.drop_drop, List.drop_drop, show was + (a - is) = s by omega, show is + (a - is) = a by omega] at this
  rw [hd] at h2
  constructor
  · have e1 := congrArg List.length h1
    have e2 := congrArg List.length h2
    rw [List.length_map, List.length_drop] at e1 e2
    omega
  · intro i x hx
    rw [← List.getElem?_drop, ← h2, List.getElem?_map] at hx
    cases hg : (starts T (l.drop a))[i]? with
    | none => rw [hg] at hx; simp at hx
    | some z =>
      rw [hg] at hx
      simp at hx
      refine ⟨z + a, ?_, by omega⟩
      rw [← List.getElem?_drop, ← h1, List.getElem?_map, hg]
      rfl
theorem ahd_found {S : List Nat} (hS : S.Pairwise (· < ·)) (a : Int) : FoundI S a (ahd S a) := by
  induction S with
  | nil => exact ⟨ahd_le _ _, fun j s _ h => by simp at h, fun j s _ h => by simp at h⟩
  | cons x S ih =>
    obtain ⟨h1, h2⟩ := List.pairwise_cons.1 hS
    by_cases hx : (x : Int) < a
    · have e : ahd (x :: S) a = ahd S a + 1 := by unfold ahd; rw [List.takeWhile_cons, if_pos (by simpa using hx), List.length_cons]
      have hF := ih h2
      rw [e]
      refine ⟨by have := hF.le; simp; omega, fun j s hj hs => ?_, fun j s hj hs => ?_⟩
      · cases j with
        | zero => simp at hs; omega
        | succ j => exact hF.lo j s (by omega) (by simpa using hs)
      · cases j with
        | zero => omega
        | succ j => exact hF.hi j s (by omega) (by simpa using hs)
    · have e : ahd (x :: S) a = 0 := by unfold ahd; rw [List.takeWhile_cons, if_neg (by simpa using hx)]; rfl
      rw [e]
      refine ⟨Nat.zero_le _, fun j s hj hs => by omega, fun j s hj hs => ?_⟩
      cases j with
      | zero => simp at hs; omega
      | succ j =>
        have := h1 s (List.mem_of_getElem? (by simpa using hs)); omega
theorem zero_start (T : Tab) (l : List Int) : (starts T l)[0]? = some 0 ∨ (0 = (starts T l).length ∧ 0 = l.length) := by
  cases h : (starts T l)[0]? with
  | none =>
    have hl : (starts T l).length = 0 := by
      by_cases e : 0 < (starts T l).length
      · rw [List.getElem?_eq_getElem e] at h; cases h
      · omega
    have := starts_nil_iff.1 (List.eq_nil_of_length_eq_zero hl)
    exact .inr ⟨hl.symm, by rw [this]; rfl⟩
  | some q => exact .inl (by rw [start_zero h])
/-- where learning begins -/
theorem idx_start (hW : Win o l f was is) {k : Nat} (hk : k = ahd (starts T o) (f : Int) - 1) {a : Nat} (ha : a = ((starts T o)[k]?).getD 0) :
    (starts T o).take k = (starts T l).take k ∧ k ≤ (starts T o).length ∧ k ≤ (starts T l).length ∧ ((starts T l)[k]? = some a ∨ (k = (starts T l).length ∧ a = l.length)) := by
  have hF := ahd_found (starts_sorted T o) (f : Int)
  have hle := hF.le
  by_cases hj : ahd (starts T o) (f : Int) = 0
  · have hk0 : k = 0 := by omega
    subst hk0
    have ha0 : a = 0 := by
      rw [ha]
      cases h : (starts T o)[0]? with
      | none => rfl
      | some q => exact start_zero h
    subst ha0
    exact ⟨rfl, Nat.zero_le _, Nat.zero_le _, zero_start T l⟩
  · obtain ⟨x, hx⟩ : ∃ x, (starts T o)[k]? = some x := ⟨_, List.getElem?_eq_getElem (by omega)⟩
    have hxf := hF.lo k x (by omega) hx
    obtain ⟨h1, h2⟩ := idx_first hW.pre hx (by omega)
    rw [hx] at ha
    have ha' : a = x := ha
    rw [ha']
    have := (List.getElem?_eq_some_iff.1 h1).1
    exact ⟨h2.symm, by omega, by omega, .inl h1⟩
end
end Go.Proofs.YtblajooebmjfoaaGreat

/- Index: plain facts for its laws. -/
namespace Go.Proofs.YtblajooebmjfoaaGreat

theorem sorted_ge : ∀ (S : List Nat) (b : Nat), S.Pairwise (· < ·) → (∀ x ∈ S, b ≤ x) → ∀ i x, S[i]? = some x → b + i ≤ x
  | [], _, _, _, i, x, h => by simp at h
  | a :: S, b, hp, hb, i, x, h => by
    obtain ⟨h1, h2⟩ := List.pairwise_cons.1 hp
    have h0 := hb a List.mem_cons_self
    cases i with
    | zero => simp at h; omega
    | succ i =>
      have := sorted_ge S (a + 1) h2 (fun y hy => h1 y hy) i x (by simpa using h)
      omega
/-- there are no more clusters than scalars -/
theorem starts_len (T : Tab) (s : List Int) : (starts T s).length ≤ s.length := by
  by_cases h : (starts T s).length = 0
  · omega
  · obtain ⟨x, hx⟩ : ∃ x, (starts T s)[(starts T s).length - 1]? = some x := ⟨_, List.getElem?_eq_getElem (by omega)⟩
    have h1 := sorted_ge (starts T s) 0 (starts_sorted T s) (fun _ _ => Nat.zero_le _) _ x hx
    have h2 := begAt_lt ((starts_mem T s x).1 (List.mem_of_getElem? hx))
    omega
theorem starts_nil (T : Tab) : starts T [] = [] := starts_nil_iff.2 rfl
theorem Win.zero (l : List Int) : Win [] l 0 0 l.length := ⟨Nat.le_refl _, Nat.le_refl _, Nat.zero_le _, Nat.le_refl _, rfl, by simp⟩
/-- what stands in a place, and a window that is as wide, or wider -/
theorem Win.put {l m ins : List Int} {f t b e : Nat} (hm : m = l.take f ++ ins ++ l.drop t) (hft : f ≤ t) (ht : t ≤ l.length) (hb : b ≤ f) (he : t + e ≤ l.length) : Win l m (f - b) (t + e) (f + ins.length + e) := by
  have hlf : (l.take f).length = f := by rw [List.length_take]; omega
  refine ⟨by omega, he, by omega, ?_, ?_, ?_⟩
  · rw [hm, List.length_append, List.length_append, hlf, List.length_drop]; omega
  · rw [hm, List.append_assoc, List.take_append_of_le_length (by omega), List.take_take, Nat.min_eq_left (by omega)]
  · have hl : (l.take f ++ ins).length = f + ins.length := by rw [List.length_append, hlf]
    have h1 : m.drop (f + ins.length) = l.drop t := by
      rw [hm, List.drop_append_of_le_length (by omega), List.drop_eq_nil_of_le (by omega), List.nil_append]
    have h2 : m.drop (f + ins.length + e) = (m.drop (f + ins.length)).drop e := by rw [List.drop_drop]
    rw [h2, h1, List.drop_drop]
end Go.Proofs.YtblajooebmjfoaaGreat

/- Units: plain law of places. No program is named here. -/
namespace Go.Proofs.YtblajooebmjfoaaGreat

section
variable {T : Tab} {s : List Int}
theorem starts_zero (T : Tab) {s : List Int} (hs : s ≠ []) : (starts T s)[0]? = some 0 := by
  have h0 := (starts_mem T s 0).2 (begAt_zero T hs)
  obtain ⟨i, hi⟩ := List.mem_iff_getElem?.1 h0
  rcases Nat.eq_zero_or_pos i with rfl | hp
  · exact hi
  · have hl := (List.getElem?_eq_some_iff.1 hi).1
    have hS := starts_sorted T s
    rw [List.pairwise_iff_getElem] at hS
    obtain ⟨a1, a2⟩ := List.getElem?_eq_some_iff.1 hi
    have := hS 0 i (by omega) a1 hp
    omega
/-- the clusters behind a boundary are the rest of all clusters -/
theorem clus_at (H : T.Ok) : ∀ (m a : Nat), (starts T s)[m]? = some a → clus T (s.drop a) = (clus T s).drop m
  | 0, a, h => by
    have hs : s ≠ [] := fun e => by subst e; rw [starts_nil] at h; simp at h
    rw [starts_zero T hs] at h
    cases h
    rfl
  | m + 1, a, h => by
    have hl := (List.getElem?_eq_some_iff.1 h).1
    obtain ⟨b, hb⟩ : ∃ b, (starts T s)[m]? = some b := ⟨_, List.getElem?_eq_getElem (by omega)⟩
    have h1 := (start_next H hb).1 hl
    rw [h] at h1
    have hba : a = b + nx T (s.drop b) := Option.some.inj h1
    have ih := clus_at H m b hb
    have hbl := begAt_lt ((starts_mem T s b).1 (List.mem_of_getElem? hb))
    have hne : s.drop b ≠ [] := fun e => by have := congrArg List.length e; rw [List.length_drop] at this; simp at this; omega
    rw [clus_step T hne] at ih
    have : (clus T s).drop (m + 1) = ((clus T s).drop m).drop 1 := by rw [List.drop_drop]
    rw [this, ← ih, hba, ← List.drop_drop]
    rfl
theorem starts_clus (H : T.Ok) : (starts T s).length = (clus T s).length := by
  by_cases hs : s = []
  · subst hs; rw [starts_nil]; rfl
  · have h0 := starts_zero T hs
    have hl : 0 < (starts T s).length := (List.getElem?_eq_some_iff.1 h0).1
    obtain ⟨a, ha⟩ : ∃ a, (starts T s)[(starts T s).length - 1]? = some a := ⟨_, List.getElem?_eq_getElem (by omega)⟩
    have h1 := clus_at H _ a ha
    have h2 := (start_next H ha).2 (by omega)
    have hbl := begAt_lt ((starts_mem T s a).1 (List.mem_of_getElem? ha))
    have hne : s.drop a ≠ [] := fun e => by have := congrArg List.length e; rw [List.length_drop] at this; simp at this; omega
    rw [clus_step T hne, List.drop_drop] at h1
    have h3 : a + nx T (s.drop a) = s.length := h2
    rw [h3, List.drop_length, clus_nil] at h1
    have h4 := congrArg List.length h1
    rw [List.length_drop] at h4
    simp at h4
    omega
/-- a cluster, by the boundaries around it -/
theorem clus_get (H : T.Ok) {m a : Nat} (h : (starts T s)[m]? = some a) : (clus T s)[m]? = some ((s.drop a).take (nx T (s.drop a))) := by
  have h1 := clus_at H m a h
  have hbl := begAt_lt ((starts_mem T s a).1 (List.mem_of_getElem? h))
  have hne : s.drop a ≠ [] := fun e => by have := congrArg List.length e; rw [List.length_drop] at this; simp at this; omega
  rw [clus_step T hne] at h1
  have h2 : ((clus T s).drop m)[0]? = some ((s.drop a).take (nx T (s.drop a))) := by rw [← h1]; rfl
  rw [List.getElem?_drop] at h2
  exact h2
end
/-- how many units of UTF-16 a scalar has -/
def unN (r : Int) : Nat := if r > 65535 ∧ validB r = true then 2 else 1
def bytesTo (s : List Int) (i : Nat) : Nat := ((s.take i).map sizeN).sum
def unitsTo (s : List Int) (i : Nat) : Nat := ((s.take i).map unN).sum
theorem bytesTo_succ {s : List Int} {i : Nat} {x : Int} (h : s[i]? = some x) : bytesTo s (i + 1) = bytesTo s i + sizeN x := by
  unfold bytesTo; rw [List.take_add_one, h, List.map_append, List.sum_append]; simp
theorem unitsTo_succ {s : List Int} {i : Nat} {x : Int} (h : s[i]? = some x) : unitsTo s (i + 1) = unitsTo s i + unN x := by
  unfold unitsTo; rw [List.take_add_one, h, List.map_append, List.sum_append]; simp
theorem unN_rng (x : Int) : 1 ≤ unN x ∧ unN x ≤ 2 := by unfold unN; split <;> omega
theorem bytesTo_le (s : List Int) : ∀ i, i ≤ s.length → i ≤ bytesTo s i ∧ bytesTo s i ≤ 4 * i
  | 0, _ => by simp [bytesTo]
  | i + 1, h => by
    obtain ⟨x, hx⟩ : ∃ x, s[i]? = some x := ⟨_, List.getElem?_eq_getElem (by omega)⟩
    have := bytesTo_le s i (by omega)
    have h2 := sizeN_rng x
    rw [bytesTo_succ hx]
    omega
theorem unitsTo_le (s : List Int) : ∀ i, i ≤ s.length → i ≤ unitsTo s i ∧ unitsTo s i ≤ 2 * i
  | 0, _ => by simp [unitsTo]
  | i + 1, h => by
    obtain ⟨x, hx⟩ : ∃ x, s[i]? = some x := ⟨_, List.getElem?_eq_getElem (by omega)⟩
    have := unitsTo_le s i (by omega)
    have h2 := unN_rng x
    rw [unitsTo_succ hx]
    omega
/-- a place's numbers: scalars, bytes, units, clusters, columns; of cluster k from a on, at i -/
abbrev Ps := Int × Int × Int × Int × Int
def psE (p : Ps) : List Value := [.int .i64 p.1, .int .i64 p.2.1, .int .i64 p.2.2.1, .int .i64 p.2.2.2.1, .int .i64 p.2.2.2.2]
theorem psE_len (p : Ps) : (psE p).length = 5 := rfl
theorem psE_one (p : Ps) : ∀ u ∈ psE p, u.oneCell' = true := by intro u hu; simp [psE] at hu; rcases hu with rfl | rfl | rfl | rfl | rfl <;> rfl
/-- columns of the first k clusters -/
def colsTo (R : List Rw) (s : List Int) (k : Nat) : Int := wdG (lineG R ((clus (tabOf R) s).take k))
theorem colsTo_succ (R : List Rw) {s : List Int} {k : Nat} {c : List Int} (h : (clus (tabOf R) s)[k]? = some c) : colsTo R s (k + 1) = colsTo R s k + wdG (glOf R c) := by
  unfold colsTo
  rw [List.take_add_one, h]
  show wdG (lineG R ((clus (tabOf R) s).take k ++ [c])) = _
  rw [lineG_snoc, wdG_app]
/-- the place ahead of scalar i, within cluster k that begins at a -/
def plc (R : List Rw) (s : List Int) (k a i : Nat) : Ps := ((i : Int), (bytesTo s i : Int), (unitsTo s i : Int), (if i = a then (k : Int) else (k : Int) + 1), colsTo R s k)
end Go.Proofs.YtblajooebmjfoaaGreat

/- An index: its questions. -/
namespace Go.Proofs.YtblajooebmjfoaaGreat
open Go.RowKit

/-- v is an index: where clusters begin, how many scalars there are -/
def IdxIn (w : World) (v : Value) (S : List Nat) (n : Nat) : Prop := ∃ sv, v = .agg #[sv, .int .i64 ((n : Nat) : Int)] ∧ IntsIn w sv S
theorem IdxIn.below {w w' : World} {v : Value} {S : List Nat} {n : Nat} (h : IdxIn w v S n) (hB : Below w.heap.size w w') : IdxIn w' v S n :=
  let ⟨sv, h1, h2⟩ := h
  ⟨sv, h1, h2.below hB⟩
theorem intE_one (l : List Nat) : ∀ u ∈ l.flatMap nE, u.oneCell' = true := by
  intro u hu
  obtain ⟨x, _, hx⟩ := List.mem_flatMap.1 hu
  simp [nE] at hx
  subst hx; rfl
set_option maxRecDepth 100000 in
set_option maxHeartbeats 4000000 in
theorem clone_ints {w : World} {v : Value} {l : List Nat} (h : IntsIn w v l) (hsz : l.length ≤ 1000000) :
    Calls Tryz.prog 88 #[v] w (IntsPost w l) := by
  have H := Lib.hid h
  obtain ⟨a, cap, rfl, hcap, hmax, hc⟩ := ints_cells h
  unfold maxLen at hmax
  clear h

  cases a with
  | none =>
    have h0 : l = [] := by
      cases l with
      | nil => rfl
      | cons x l => obtain ⟨b, off, e, _⟩ := hc (by simp); cases e
    subst h0
    have hnil := fun W : World => Lib.run_eql_slice_nil (P := Tryz.prog) W 26 3 none 0 cap 0 0 Tryz.underlying26
    clear hc
    go_enter Tryz.func88, Tryz.ntmps88
    go_wp2_with fail
    go_ret
    exact ⟨_, rfl, .refl _ _, Rd.nil _ _ _⟩
  | some ad =>
    have hnil := fun W : World => Lib.run_eql_slice_nil (P := Tryz.prog) W 26 3 (some ad) l.length cap 0 0 Tryz.underlying26
    clear hc
    go_enter Tryz.func88, Tryz.ntmps88
    go_wp2_with (at_builtin; refine wpList_app_rd _ rfl (.tmp 5) (.tmp 6) _ rfl EI _ 0 [] rfl (World.ownsRow_made w #[] 0 (Nat.le_refl _) (by unfold maxLen; omega) (by simp)) _ l.length (l.flatMap nE) rfl (H.out.below (below1 w _)) (intE_one l) (by omega) (by simp) ?_; intro v1 w1 ho hg)
    have hB : Below w.heap.size w w1 := ((Below.refl _ _).alloc (Nat.le_refl _) _).grown hg (by simp) (fun k e => by cases e; exact Nat.le_refl _)
    have HO := Lib.hid ho
    clear ho hg
    go_ret
    refine ⟨_, rfl, hB, ?_⟩
    have := HO.out
    simp only [Nat.zero_add, List.nil_append] at this
    exact rd_of_owns this
section
variable {S : List Nat} {n : Nat} {w : World} {v : Value}
set_option maxRecDepth 100000 in
theorem ilen_any (h : IdxIn w v S n) : Calls Tryz.prog 51 #[v] w fun e w' => e = .returned (.int .i64 ((n : Nat) : Int)) ∧ Below w.heap.size w w' := by
  obtain ⟨sv, rfl, h⟩ := h
  obtain ⟨a, cap, rfl, hcap, hmax, hc⟩ := ints_cells h
  clear h hc
  go_enter Tryz.func51, Tryz.ntmps51
  go_wp2_with fail
  go_ret
  exact ⟨rfl, (Below.refl _ _).alloc (Nat.le_refl _) _⟩
set_option maxRecDepth 100000 in
set_option maxHeartbeats 4000000 in
theorem istarts_any (h : IdxIn w v S n) (hsz : S.length ≤ 1000000) : Calls Tryz.prog 50 #[v] w (IntsPost w S) := by
  obtain ⟨sv, rfl, h⟩ := h
  obtain ⟨a, cap, rfl, hcap, hmax, hc⟩ := ints_cells h
  have HB0 := Lib.hid ((Below.refl w.heap.size w).alloc (Nat.le_refl _) (.cells #[.slice a S.length cap, .int .i64 ((n : Nat) : Int)] 28))
  have HC := Lib.hid (clone_ints (h.below HB0.out) hsz)
  clear h hc
  go_enter Tryz.func50, Tryz.ntmps50
  go_wp2_with fail
  refine HC.out.mono ?_
  rintro e w1 ⟨u, rfl, hB, hI⟩
  have HB := Lib.hid (below_trans' HB0.out hB)
  have HI := Lib.hid hI
  clear hB hI
  go_wp2_with fail
  go_ret
  exact ⟨_, rfl, HB.out, HI.out⟩
set_option maxRecDepth 100000 in
set_option maxHeartbeats 4000000 in
theorem ahead_any (at' : Int) (h : IdxIn w v S n) (hS : S.Pairwise (· < ·)) (hsz : S.length ≤ 1000000) : Calls Tryz.prog 47 #[v, .int .i64 at'] w fun e w' => e = .returned (.int .i64 ((ahd S at' : Nat) : Int)) ∧ Below w.heap.size w w' := by
  obtain ⟨sv, rfl, h⟩ := h
  obtain ⟨a, cap, rfl, hcap, hmax, hc⟩ := ints_cells h
  have HB0 := Lib.hid ((Below.refl w.heap.size w).alloc (Nat.le_refl _) (.cells #[.slice a S.length cap, .int .i64 ((n : Nat) : Int)] 28))
  have HC := Lib.hid (bsi_any _ S at' _ (h.below HB0.out) hS hsz)
  clear h hc hS
  go_enter Tryz.func47, Tryz.ntmps47
  go_wp2_with fail
  refine HC.out.mono ?_
  rintro e w1 ⟨rfl, hB, _⟩
  have HB := Lib.hid (below_trans' HB0.out hB)
  clear hB
  go_wp2_with fail
  go_ret
  exact ⟨rfl, HB.out⟩
/-- where a cluster begins; the end, if there is none such -/
def stA (S : List Nat) (n : Nat) (i : Int) : Nat := if 0 ≤ i then (S[i.toNat]?).getD n else n
set_option maxRecDepth 100000 in
set_option maxHeartbeats 4000000 in
theorem istart_any (i : Int) (h : IdxIn w v S n) : Calls Tryz.prog 46 #[v, .int .i64 i] w fun e w' => e = .returned (.int .i64 ((stA S n i : Nat) : Int)) ∧ Below w.heap.size w w' := by
  obtain ⟨sv, rfl, h⟩ := h
  have HI := Lib.hid h
  obtain ⟨a, cap, rfl, hcap, hmax, hc⟩ := ints_cells h
  unfold maxLen at hmax
  have HB0 := Lib.hid ((Below.refl w.heap.size w).alloc (Nat.le_refl _) (.cells #[.slice a S.length cap, .int .i64 ((n : Nat) : Int)] 28))
  by_cases h0 : i < 0
  · have HV := Lib.hid (show stA S n i = n by unfold stA; rw [if_neg (by omega)])
    clear h hc
    go_enter Tryz.func46, Tryz.ntmps46
    go_wp2_with fail
    go_ret
    exact ⟨ret_i (by rw [HV.out]), HB0.out⟩
  · have q0 : decide (i < 0) = false := decide_eq_false h0
    by_cases h1 : i ≥ (S.length : Int)
    · have HV := Lib.hid (show stA S n i = n by unfold stA; rw [if_pos (by omega), List.getElem?_eq_none (by omega)]; rfl)
      clear h hc h0
      go_enter Tryz.func46, Tryz.ntmps46
      go_wp2_with fail
      go_ret
      exact ⟨ret_i (by rw [HV.out]), HB0.out⟩
    · obtain ⟨k, rfl⟩ : ∃ k : Nat, i = (k : Int) := ⟨i.toNat, by omega⟩
      have q1 : decide ((k : Int) ≥ (S.length : Int)) = false := decide_eq_false h1
      have q2 : decide (S.length ≤ k) = false := by rw [decide_eq_false_iff_not]; omega
      have q3 : (0 : Int) ≤ (k : Int) := by omega
      have q4 : (k : Int) < (S.length : Int) := by omega
      obtain ⟨x, hx⟩ : ∃ x, S[k]? = some x := ⟨S[k], List.getElem?_eq_getElem (by omega)⟩
      have HV := Lib.hid (show stA S n (k : Int) = x by unfold stA; rw [if_pos (by omega)]; show (S[k]?).getD n = x; rw [hx]; rfl)
      obtain ⟨b, off, cap', hv, _, _, _, _, d0⟩ := int_cell (HI.out.below HB0.out) hx
      cases hv
      clear h hc h0 hx h1
      go_enter Tryz.func46, Tryz.ntmps46
      go_wp2_with fail
      go_ret
      exact ⟨ret_i (by rw [HV.out]), HB0.out⟩
end
end Go.Proofs.YtblajooebmjfoaaGreat

/- An index: Floor, Ceil, On. -/
namespace Go.Proofs.YtblajooebmjfoaaGreat
open Go.RowKit

/-- the first boundary that is not ahead of a place, told by an index -/
def clX (S : List Nat) (n : Nat) (a : Int) : Nat := if a ≤ 0 then 0 else stA S n (ahd S a : Nat)
/-- the last one that is not behind it -/
def flX (S : List Nat) (n : Nat) (a : Int) : Nat := if (n : Int) ≤ a then n else if isAt S a = true then a.toNat else if ahd S a = 0 then 0 else (S[ahd S a - 1]?).getD 0
section
variable {S : List Nat} {n : Nat} {w : World} {v : Value}
set_option maxRecDepth 100000 in
set_option maxHeartbeats 4000000 in
theorem iceil_any (a : Int) (h : IdxIn w v S n) (hS : S.Pairwise (· < ·)) (hsz : S.length ≤ 1000000) : Calls Tryz.prog 14 #[v, .int .i64 a] w fun e w' => e = .returned (.int .i64 ((clX S n a : Nat) : Int)) ∧ Below w.heap.size w w' := by
  have HX := Lib.hid h
  obtain ⟨sv, rfl, h⟩ := h
  obtain ⟨sa, cap, rfl, hcap, hmax, hc⟩ := ints_cells h
  have HB0 := Lib.hid ((Below.refl w.heap.size w).alloc (Nat.le_refl _) (.cells #[.slice sa S.length cap, .int .i64 ((n : Nat) : Int)] 28))
  have HSp := Lib.hid hS
  by_cases h0 : a ≤ 0
  · have HV := Lib.hid (show clX S n a = 0 by unfold clX; rw [if_pos h0])
    clear h hc hS
    go_enter Tryz.func14, Tryz.ntmps14
    go_wp2_with fail
    go_ret
    exact ⟨ret_i (by rw [HV.out]; rfl), HB0.out⟩
  · have q0 : decide (a ≤ 0) = false := decide_eq_false h0
    have HV := Lib.hid (show clX S n a = stA S n (ahd S a : Nat) by unfold clX; rw [if_neg h0])
    have hc2 := cell_two_new w (.slice sa S.length cap) (.int .i64 ((n : Nat) : Int)) 28
    have c0 : (w.alloc (.cells #[.slice sa S.length cap, .int .i64 ((n : Nat) : Int)] 28)).cell? ⟨w.heap.size, 0, none⟩ = some (.slice sa S.length cap) := hc2 0 _ rfl
    have c1 : (w.alloc (.cells #[.slice sa S.length cap, .int .i64 ((n : Nat) : Int)] 28)).cell? ⟨w.heap.size, 1, none⟩ = some (.int .i64 ((n : Nat) : Int)) := hc2 1 _ rfl
    clear h hc hS hc2 h0
    go_enter Tryz.func14, Tryz.ntmps14
    go_upto_region 3 with fail
    generalize w.alloc (.cells #[.slice sa S.length cap, .int .i64 ((n : Nat) : Int)] 28) = w0 at c0 c1 HB0 ⊢
    have HA := Lib.hid (fun q : Nat => ahead_any a (HX.out.below (below_dN HB0.out q)) HSp.out hsz)
    have HSt := Lib.hid (fun W (hB : Below w.heap.size w W) => istart_any ((ahd S a : Nat) : Int) (HX.out.below hB))
    go_region_held3 (fun w' => w'.cell? ⟨w.heap.size, 0, none⟩ = some (.slice sa S.length cap) ∧ w'.cell? ⟨w.heap.size, 1, none⟩ = some (.int .i64 ((n : Nat) : Int))) (first | exact ⟨q0, q1⟩ | exact ⟨p0, p1⟩ | exact ⟨c0, c1⟩ | go_keep)
      (first
        | (go_at_call 47; refine (HA.out 1).mono ?_; rintro e w1 ⟨rfl, hB1⟩; have p0 := cell_later hB1 (show (w0.drewN 1).cell? _ = _ from c0); have p1 := cell_later hB1 (show (w0.drewN 1).cell? _ = _ from c1); have HB1 := Lib.hid ((below_dN HB0.out 1).trans (hB1.mono (below_dN HB0.out 1).size)); have HSu := Lib.hid (HSt.out _ HB1.out); clear hB1)
        | (go_at_call 46; refine HSu.out.mono ?_; rintro e w2 ⟨rfl, hB2⟩; have q0 := cell_later hB2 p0; have q1 := cell_later hB2 p1; have HB2 := Lib.hid (HB1.out.trans (hB2.mono HB1.out.size)); clear hB2)
        | fail)
    all_goals go_wp2_with fail
    all_goals go_ret
    all_goals exact ⟨ret_i (by rw [HV.out]), HB2.out⟩
set_option maxRecDepth 100000 in
set_option maxHeartbeats 4000000 in
theorem ifloor_any (a : Int) (h : IdxIn w v S n) (hS : S.Pairwise (· < ·)) (hsz : S.length ≤ 1000000) : Calls Tryz.prog 12 #[v, .int .i64 a] w fun e w' => e = .returned (.int .i64 ((flX S n a : Nat) : Int)) ∧ Below w.heap.size w w' := by
  have HX := Lib.hid h
  obtain ⟨sv, rfl, h⟩ := h
  have HI := Lib.hid h
  obtain ⟨sa, cap, rfl, hcap, hmax, hc⟩ := ints_cells h
  unfold maxLen at hmax
  have HB0 := Lib.hid ((Below.refl w.heap.size w).alloc (Nat.le_refl _) (.cells #[.slice sa S.length cap, .int .i64 ((n : Nat) : Int)] 28))
  have HC := Lib.hid (bsi_any _ S a _ (h.below HB0.out) hS hsz)
  have hc2 := cell_two_new w (.slice sa S.length cap) (.int .i64 ((n : Nat) : Int)) 28
  have c0 : (w.alloc (.cells #[.slice sa S.length cap, .int .i64 ((n : Nat) : Int)] 28)).cell? ⟨w.heap.size, 0, none⟩ = some (.slice sa S.length cap) := hc2 0 _ rfl
  have c1 : (w.alloc (.cells #[.slice sa S.length cap, .int .i64 ((n : Nat) : Int)] 28)).cell? ⟨w.heap.size, 1, none⟩ = some (.int .i64 ((n : Nat) : Int)) := hc2 1 _ rfl
  clear h hc hc2
  go_enter Tryz.func12, Tryz.ntmps12
  go_wp2_with fail
  refine HC.out.mono ?_
  rintro e w1 ⟨rfl, hB, hF⟩
  have p0 := cell_later hB c0
  have p1 := cell_later hB c1
  have HB := Lib.hid (below_trans' HB0.out hB)
  have hIr : IntsIn w1 _ S := HI.out.below HB.out
  have hkl := hF.le
  by_cases h0 : (n : Int) ≤ a
  · have HV := Lib.hid (show flX S n a = n by unfold flX; rw [if_pos h0])
    have q0 : a ≥ (n : Int) := h0
    clear hB hF hIr
    go_wp2_with fail
    go_ret
    exact ⟨ret_i (by rw [HV.out]), HB.out⟩
  · have q0 : decide (a ≥ (n : Int)) = false := decide_eq_false h0
    cases hi : isAt S a with
    | true =>
      have HV := Lib.hid (show ((flX S n a : Nat) : Int) = a by
        unfold flX; rw [if_neg h0, if_pos hi]
        unfold isAt at hi
        have hi := of_decide_eq_true hi
        cases hg : S[ahd S a]? with
        | none => rw [hg] at hi; cases hi
        | some x => rw [hg] at hi; have hi : (x : Int) = a := (by simpa using hi); omega)
      clear hB hF hIr h0
      go_wp2_with fail
      go_ret
      exact ⟨ret_i HV.out.symm, HB.out⟩
    | false =>
      by_cases hk : ahd S a = 0
      · have HV := Lib.hid (show flX S n a = 0 by unfold flX; rw [if_neg h0, hi, if_neg (by decide), if_pos hk])
        have q1 : (((ahd S a : Nat) : Int) == 0) = true := by rw [hk]; rfl
        clear hB hF hIr h0
        rw [hk]
        go_wp2_with fail
        go_ret
        exact ⟨ret_i (by rw [HV.out]; rfl), HB.out⟩
      · obtain ⟨k, hke⟩ : ∃ k, ahd S a = k + 1 := ⟨ahd S a - 1, by omega⟩
        obtain ⟨x, hx⟩ : ∃ x, S[k]? = some x := ⟨S[k], List.getElem?_eq_getElem (by omega)⟩
        have HV := Lib.hid (show flX S n a = x by unfold flX; rw [if_neg h0, hi, if_neg (by decide), if_neg hk, hke, Nat.add_sub_cancel, hx]; rfl)
        obtain ⟨b, off, cap', hv, _, _, _, _, d0⟩ := int_cell hIr hx
        cases hv
        have e1 := IntWalk.i64_in (k : Int) (by omega)
        have q2 : (0 : Int) ≤ (k : Int) := by omega
        have q3 : (k : Int) < (S.length : Int) := by omega
        rw [hke]
        clear hB hF hIr h0 hk hke hx hi hkl
        go_wp2_with fail
        go_ret
        exact ⟨ret_i (by rw [HV.out]), HB.out⟩
/-- so many clusters on, or back -/
def onX (S : List Nat) (n : Nat) (a m : Int) : Nat := stA S n ((ahd S (flX S n a : Nat) : Nat) + min (max m (-((ahd S (flX S n a : Nat) : Nat) : Int))) ((S.length : Int) - ((ahd S (flX S n a : Nat) : Nat) : Int)))
set_option maxRecDepth 100000 in
set_option maxHeartbeats 4000000 in
theorem ion_any (a m : Int) (h : IdxIn w v S n) (hS : S.Pairwise (· < ·)) (hsz : S.length ≤ 1000000) : Calls Tryz.prog 16 #[v, .int .i64 a, .int .i64 m] w fun e w' => e = .returned (.int .i64 ((onX S n a m : Nat) : Int)) ∧ Below w.heap.size w w' := by
  have HX := Lib.hid h
  obtain ⟨sv, rfl, h⟩ := h
  obtain ⟨sa, cap, rfl, hcap, hmax, hc⟩ := ints_cells h
  unfold maxLen at hmax
  have HB0 := Lib.hid ((Below.refl w.heap.size w).alloc (Nat.le_refl _) (.cells #[.slice sa S.length cap, .int .i64 ((n : Nat) : Int)] 28))
  have HSp := Lib.hid hS
  have hc2 := cell_two_new w (.slice sa S.length cap) (.int .i64 ((n : Nat) : Int)) 28
  have c0 : (w.alloc (.cells #[.slice sa S.length cap, .int .i64 ((n : Nat) : Int)] 28)).cell? ⟨w.heap.size, 0, none⟩ = some (.slice sa S.length cap) := hc2 0 _ rfl
  have c1 : (w.alloc (.cells #[.slice sa S.length cap, .int .i64 ((n : Nat) : Int)] 28)).cell? ⟨w.heap.size, 1, none⟩ = some (.int .i64 ((n : Nat) : Int)) := hc2 1 _ rfl
  have HV := Lib.hid (show onX S n a m = stA S n ((ahd S (flX S n a : Nat) : Nat) + min (max m (-((ahd S (flX S n a : Nat) : Nat) : Int))) ((S.length : Int) - ((ahd S (flX S n a : Nat) : Nat) : Int))) from rfl)
  have hkl := ahd_le S (flX S n a : Nat)
  clear h hc hS hc2
  go_enter Tryz.func16, Tryz.ntmps16
  go_upto_region 1 with fail
  generalize w.alloc (.cells #[.slice sa S.length cap, .int .i64 ((n : Nat) : Int)] 28) = w0 at c0 c1 HB0 ⊢
  have HA := Lib.hid (fun q : Nat => ifloor_any a (HX.out.below (below_dN HB0.out q)) HSp.out hsz)
  have HAh := Lib.hid (fun W (hB : Below w.heap.size w W) => ahead_any ((flX S n a : Nat) : Int) (HX.out.below hB) HSp.out hsz)
  go_region_held3 (fun w' => w'.cell? ⟨w.heap.size, 0, none⟩ = some (.slice sa S.length cap) ∧ w'.cell? ⟨w.heap.size, 1, none⟩ = some (.int .i64 ((n : Nat) : Int))) (first | exact ⟨q0, q1⟩ | exact ⟨p0, p1⟩ | exact ⟨c0, c1⟩ | go_keep)
    (first
      | (go_at_call 12; refine (HA.out 1).mono ?_; rintro e w1 ⟨rfl, hB1⟩; have p0 := cell_later hB1 (show (w0.drewN 1).cell? _ = _ from c0); have p1 := cell_later hB1 (show (w0.drewN 1).cell? _ = _ from c1); have HB1 := Lib.hid ((below_dN HB0.out 1).trans (hB1.mono (below_dN HB0.out 1).size)); have HSu := Lib.hid (HAh.out _ HB1.out); clear hB1)
      | (go_at_call 47; refine HSu.out.mono ?_; rintro e w2 ⟨rfl, hB2⟩; have q0 := cell_later hB2 p0; have q1 := cell_later hB2 p1; have HB2 := Lib.hid (HB1.out.trans (hB2.mono HB1.out.size)); clear hB2)
      | fail)
  all_goals
    generalize ahd S ((flX S n a : Nat) : Int) = k at HV hkl ⊢
    have e1 := IntWalk.i64_in (-(k : Int)) (by omega)
    have e2 := IntWalk.i64_in ((S.length : Int) - (k : Int)) (by omega)
    have e3 := IntWalk.i64_in ((k : Int) + min (max m (-(k : Int))) ((S.length : Int) - (k : Int))) (by omega)
    have HSt := Lib.hid (istart_any ((k : Int) + min (max m (-(k : Int))) ((S.length : Int) - (k : Int))) (HX.out.below HB2.out))
    go_wp2_with fail
    refine HSt.out.mono ?_
    rintro e w3 ⟨rfl, hB3⟩
    have HB3 := Lib.hid (HB2.out.trans (hB3.mono HB2.out.size))
    clear hB3
    go_wp2_with fail
    go_ret
    exact ⟨ret_i (by rw [HV.out]), HB3.out⟩
end
end Go.Proofs.YtblajooebmjfoaaGreat

/- Index: plain law of the boundaries around a place, and of those so many on. -/
namespace Go.Proofs.YtblajooebmjfoaaGreat

/-- where clusters begin, of so many scalars -/
structure Bds (S : List Nat) (n : Nat) : Prop where
  sorted : S.Pairwise (· < ·)
  lt : ∀ x ∈ S, x < n
  zero : S[0]? = some 0 ∨ (0 = S.length ∧ 0 = n)
/-- the boundary of a number -/
def bd (S : List Nat) (n k : Nat) : Nat := (S[k]?).getD n
section
variable {S : List Nat} {n : Nat}
theorem sorted_at (hS : S.Pairwise (· < ·)) {i j x y : Nat} (hi : S[i]? = some x) (hj : S[j]? = some y) (h : i < j) : x < y := by
  rw [List.pairwise_iff_getElem] at hS
  obtain ⟨a1, a2⟩ := List.getElem?_eq_some_iff.1 hi
  obtain ⟨b1, b2⟩ := List.getElem?_eq_some_iff.1 hj
  have := hS i j a1 b1 h
  omega
theorem at_some {k : Nat} (h : k < S.length) : ∃ x, S[k]? = some x := ⟨_, List.getElem?_eq_getElem h⟩
theorem at_lt {k x : Nat} (h : S[k]? = some x) : k < S.length := (List.getElem?_eq_some_iff.1 h).1
theorem bd_some {k x : Nat} (h : S[k]? = some x) : bd S n k = x := by unfold bd; rw [h]; rfl
theorem bd_end : bd S n S.length = n := by unfold bd; rw [List.getElem?_eq_none (Nat.le_refl _)]; rfl
theorem stA_nat (k : Nat) : stA S n (k : Int) = bd S n k := by unfold stA bd; rw [if_pos (by omega)]; rfl
theorem bd_lt (H : Bds S n) {k : Nat} (hk : k < S.length) : bd S n k < n := by
  obtain ⟨x, hx⟩ := at_some hk
  rw [bd_some hx]
  exact H.lt x (List.mem_of_getElem? hx)
theorem bd_le (H : Bds S n) (k : Nat) : bd S n k ≤ n := by
  rcases Nat.lt_or_ge k S.length with h | h
  · exact Nat.le_of_lt (bd_lt H h)
  · unfold bd; rw [List.getElem?_eq_none h]; exact Nat.le_refl _
theorem bd_zero (H : Bds S n) : bd S n 0 = 0 := by
  rcases H.zero with h | ⟨h1, h2⟩
  · exact bd_some h
  · unfold bd; rw [List.getElem?_eq_none (by omega)]; exact h2.symm
theorem bd_mono (H : Bds S n) {i j : Nat} (h : i < j) (hj : j ≤ S.length) : bd S n i < bd S n j := by
  obtain ⟨x, hx⟩ := at_some (k := i) (S := S) (by omega)
  rw [bd_some hx]
  rcases Nat.lt_or_ge j S.length with h1 | h1
  · obtain ⟨y, hy⟩ := at_some h1
    rw [bd_some hy]
    exact sorted_at H.sorted hx hy h
  · have : j = S.length := by omega
    subst this
    rw [bd_end]
    exact H.lt x (List.mem_of_getElem? hx)
theorem ahd_at (H : Bds S n) {k : Nat} (hk : k ≤ S.length) : ahd S ((bd S n k : Nat) : Int) = k := by
  refine ahd_eq ⟨hk, fun j s hj hs => ?_, fun j s hj hs => ?_⟩
  · have := bd_mono H hj hk
    rw [bd_some hs] at this
    omega
  · have hjl := at_lt hs
    rcases Nat.lt_or_ge k j with h | h
    · have := bd_mono H h (Nat.le_of_lt hjl)
      rw [bd_some hs] at this
      omega
    · have : k = j := by omega
      subst this
      rw [bd_some hs]
      exact Int.le_refl _
theorem clX_next (H : Bds S n) {k : Nat} (hk : k < S.length) : clX S n ((bd S n k : Nat) + 1 : Int) = bd S n (k + 1) := by
  have h : ahd S ((bd S n k : Nat) + 1 : Int) = k + 1 := by
    refine ahd_eq ⟨hk, fun j s hj hs => ?_, fun j s hj hs => ?_⟩
    · rcases Nat.lt_or_ge j k with h | h
      · have := bd_mono H h (Nat.le_of_lt hk)
        rw [bd_some hs] at this
        omega
      · have : j = k := by omega
        subst this
        rw [bd_some hs]
        omega
    · have := bd_mono H (show k < j by omega) (Nat.le_of_lt (at_lt hs))
      rw [bd_some hs] at this
      omega
  unfold clX
  rw [if_neg (by omega), h, stA_nat]
theorem isAt_some {a : Int} (h : isAt S a = true) : ∃ x : Nat, S[ahd S a]? = some x ∧ (x : Int) = a := by
  unfold isAt at h
  have h := of_decide_eq_true h
  cases hx : S[ahd S a]? with
  | none => rw [hx] at h; cases h
  | some x => rw [hx] at h; exact ⟨x, rfl, by simpa using h⟩
theorem isAt_none {a : Int} (h : ¬ isAt S a = true) {x : Nat} (hx : S[ahd S a]? = some x) : (x : Int) ≠ a := by
  intro e
  apply h
  unfold isAt
  rw [hx, decide_eq_true_eq, ← e]
  rfl
/-- how many begin at a place, or ahead of it -/
def upto (S : List Nat) (a : Int) : Nat := if isAt S a = true then ahd S a + 1 else ahd S a
theorem upto_le (a : Int) : upto S a ≤ S.length := by
  unfold upto
  split
  · rename_i h
    obtain ⟨x, hx, _⟩ := isAt_some h
    exact at_lt hx
  · exact ahd_le S a
theorem upto_lo (hS : S.Pairwise (· < ·)) {a : Int} {i x : Nat} (hx : S[i]? = some x) (h : i < upto S a) : (x : Int) ≤ a := by
  unfold upto at h
  split at h
  · rename_i ht
    obtain ⟨y, hy, hya⟩ := isAt_some ht
    rcases Nat.lt_or_ge i (ahd S a) with h1 | h1
    · have := sorted_at hS hx hy h1; omega
    · have : i = ahd S a := by omega
      subst this
      rw [hx] at hy
      cases hy
      omega
  · have := (ahd_found hS a).lo i x h hx; omega
theorem upto_hi (hS : S.Pairwise (· < ·)) {a : Int} {i x : Nat} (hx : S[i]? = some x) (h : upto S a ≤ i) : a < (x : Int) := by
  unfold upto at h
  split at h
  · rename_i ht
    obtain ⟨y, hy, hya⟩ := isAt_some ht
    have := sorted_at hS hy hx (by omega)
    omega
  · rename_i ht
    have h1 := (ahd_found hS a).hi i x h hx
    rcases Nat.lt_or_ge (ahd S a) i with h2 | h2
    · obtain ⟨y, hy⟩ := at_some (k := ahd S a) (S := S) (by have := at_lt hx; omega)
      have h3 := (ahd_found hS a).hi _ y (Nat.le_refl _) hy
      have := sorted_at hS hy hx h2
      omega
    · have : i = ahd S a := by omega
      subst this
      have := isAt_none ht hx
      omega
/-- the last of the first i that is not behind a place -/
def lstTo (S : List Nat) (a : Int) (i : Nat) : Nat := if min i (upto S a) = 0 then 0 else (S[min i (upto S a) - 1]?).getD 0
theorem lstTo_zero (a : Int) : lstTo S a 0 = 0 := by unfold lstTo; rw [if_pos (by omega)]
theorem lstTo_take (hS : S.Pairwise (· < ·)) {a : Int} {i x : Nat} (hx : S[i]? = some x) (h : (x : Int) ≤ a) : lstTo S a (i + 1) = x := by
  have h1 : i < upto S a := by
    rcases Nat.lt_or_ge i (upto S a) with h1 | h1
    · exact h1
    · have := upto_hi hS hx h1; omega
  have e : min (i + 1) (upto S a) = i + 1 := by omega
  unfold lstTo
  rw [e, if_neg (by omega)]
  show (S[i]?).getD 0 = x
  rw [hx]
  rfl
theorem lstTo_pass (hS : S.Pairwise (· < ·)) {a : Int} {i x : Nat} (hx : S[i]? = some x) (h : ¬ (x : Int) ≤ a) : lstTo S a (i + 1) = lstTo S a i := by
  have h1 : upto S a ≤ i := by
    rcases Nat.lt_or_ge i (upto S a) with h1 | h1
    · exact absurd (upto_lo hS hx h1) h
    · exact h1
  have e1 : min (i + 1) (upto S a) = upto S a := by omega
  have e2 : min i (upto S a) = upto S a := by omega
  unfold lstTo
  rw [e1, e2]
theorem lstTo_end {a : Int} (ha : a < (n : Int)) : lstTo S a S.length = flX S n a := by
  have e : min S.length (upto S a) = upto S a := by have := upto_le (S := S) a; omega
  unfold lstTo flX
  rw [e, if_neg (show ¬ (n : Int) ≤ a by omega)]
  unfold upto
  by_cases ht : isAt S a = true
  · obtain ⟨x, hx, hxa⟩ := isAt_some ht
    rw [if_pos ht, if_pos ht, if_neg (by omega)]
    show (S[ahd S a]?).getD 0 = a.toNat
    rw [hx, ← hxa]
    rfl
  · rw [if_neg ht, if_neg ht]
theorem flX_bd (H : Bds S n) (a : Int) : ∃ k, k ≤ S.length ∧ flX S n a = bd S n k := by
  unfold flX
  by_cases h0 : (n : Int) ≤ a
  · rw [if_pos h0]; exact ⟨S.length, Nat.le_refl _, bd_end.symm⟩
  · rw [if_neg h0]
    by_cases ht : isAt S a = true
    · obtain ⟨x, hx, hxa⟩ := isAt_some ht
      rw [if_pos ht]
      exact ⟨ahd S a, ahd_le S a, by rw [bd_some hx]; omega⟩
    · rw [if_neg ht]
      by_cases h1 : ahd S a = 0
      · rw [if_pos h1]; exact ⟨0, Nat.zero_le _, (bd_zero H).symm⟩
      · rw [if_neg h1]
        have hle := ahd_le S a
        obtain ⟨x, hx⟩ := at_some (k := ahd S a - 1) (S := S) (by omega)
        exact ⟨ahd S a - 1, by omega, by rw [bd_some hx, hx]; rfl⟩
theorem flX_prev (H : Bds S n) {k : Nat} (hk : k < S.length) : flX S n ((bd S n (k + 1) : Nat) - 1 : Int) = bd S n k := by
  have hlt := bd_mono H (show k < k + 1 by omega) hk
  have hle := bd_le H (k + 1)
  obtain ⟨x, hx⟩ := at_some hk
  have hb := bd_some (n := n) hx
  have hlo : ∀ (j s : Nat), j < k → S[j]? = some s → s < x := fun j s hj hs => sorted_at H.sorted hs hx hj
  have hhi : ∀ (j s : Nat), k + 1 ≤ j → S[j]? = some s → bd S n (k + 1) ≤ s := by
    intro j s hj hs
    rcases Nat.lt_or_ge (k + 1) j with h | h
    · have := bd_mono H h (Nat.le_of_lt (at_lt hs)); rw [bd_some hs] at this; omega
    · have : k + 1 = j := by omega
      subst this
      rw [bd_some hs]
      exact Nat.le_refl _
  unfold flX
  rw [if_neg (by omega)]
  by_cases he : x + 1 = bd S n (k + 1)
  · have h : ahd S ((bd S n (k + 1) : Nat) - 1 : Int) = k := by
      refine ahd_eq ⟨Nat.le_of_lt hk, fun j s hj hs => ?_, fun j s hj hs => ?_⟩
      · have := hlo j s hj hs; omega
      · rcases Nat.lt_or_ge k j with h | h
        · have := hhi j s h hs; omega
        · have : k = j := by omega
          subst this
          rw [hx] at hs
          cases hs
          omega
    have ht : isAt S ((bd S n (k + 1) : Nat) - 1 : Int) = true := by
      unfold isAt
      rw [h, hx, decide_eq_true_eq]
      show some (x : Int) = _
      congr 1
      omega
    rw [if_pos ht]
    omega
  · have h : ahd S ((bd S n (k + 1) : Nat) - 1 : Int) = k + 1 := by
      refine ahd_eq ⟨hk, fun j s hj hs => ?_, fun j s hj hs => ?_⟩
      · rcases Nat.lt_or_ge j k with h | h
        · have := hlo j s h hs; omega
        · have : j = k := by omega
          subst this
          rw [hx] at hs
          cases hs
          omega
      · have := hhi j s hj hs; omega
    have ht : ¬ isAt S ((bd S n (k + 1) : Nat) - 1 : Int) = true := by
      intro ht
      obtain ⟨y, hy, hya⟩ := isAt_some ht
      rw [h] at hy
      have := hhi _ y (Nat.le_refl _) hy
      omega
    rw [if_neg ht, h, if_neg (by omega)]
    show (S[k]?).getD 0 = _
    rw [hx, hb]
    rfl
theorem clX_of (H : Bds S n) (a : Int) (h : a ≤ 0) (hl : 0 < S.length) : S[ahd S a]? = some 0 := by
  have h0 : S[0]? = some 0 := H.zero.resolve_right (by omega)
  have : ahd S a = 0 := by
    refine ahd_eq ⟨Nat.zero_le _, fun j s hj hs => by omega, fun j s hj hs => by omega⟩
  rw [this, h0]
/-- the boundary so many on, as the document counts -/
theorem onX_bd (H : Bds S n) {a m : Int} {k : Nat} (hk : k ≤ S.length) (ha : flX S n a = bd S n k) {j : Nat} (hj : (j : Int) = k + min (max m (-(k : Int))) ((S.length : Int) - (k : Int))) : onX S n a m = bd S n j := by
  unfold onX
  rw [ha, ahd_at H hk, ← hj, stA_nat]
end
end Go.Proofs.YtblajooebmjfoaaGreat

/- Units: all places of a text. No program is named here. -/
namespace Go.Proofs.YtblajooebmjfoaaGreat

/-- how many clusters end at a place, or ahead of it -/
def endsTo (T : Tab) (s : List Int) (i : Nat) : Nat := if i = s.length then (clus T s).length else ahd (starts T s) ((i : Int) + 1) - 1
/-- the place ahead of scalar i -/
def PL (R : List Rw) (s : List Int) (i : Nat) : Ps := ((i : Int), (bytesTo s i : Int), (unitsTo s i : Int), (ahd (starts (tabOf R) s) (i : Int) : Int), colsTo R s (endsTo (tabOf R) s i))
section
variable {R : List Rw} {s : List Int}
theorem ahd_within {S : List Nat} (hS : S.Pairwise (· < ·)) {k a i : Nat} (hk : S[k]? = some a) (hai : a < i) (hn : ∀ b, S[k + 1]? = some b → i ≤ b) : ahd S (i : Int) = k + 1 := by
  have hkl := (List.getElem?_eq_some_iff.1 hk).1
  refine ahd_eq ⟨by omega, fun j x hj hx => ?_, fun j x hj hx => ?_⟩
  · rcases Nat.lt_or_ge j k with h | h
    · have := sorted_at hS hx hk h; omega
    · have : j = k := by omega
      subst this
      rw [hx] at hk; cases hk; omega
  · rcases Nat.lt_or_ge (k + 1) j with h | h
    · obtain ⟨b, hb⟩ := at_some (k := k + 1) (S := S) (by have := at_lt hx; omega)
      have h1 := hn b hb
      have h2 := sorted_at hS hb hx h
      omega
    · have : j = k + 1 := by omega
      subst this
      have := hn x hx; omega
theorem ahd_on {S : List Nat} (hS : S.Pairwise (· < ·)) {k a : Nat} (hk : S[k]? = some a) : ahd S (a : Int) = k := by
  have hkl := (List.getElem?_eq_some_iff.1 hk).1
  refine ahd_eq ⟨by omega, fun j x hj hx => ?_, fun j x hj hx => ?_⟩
  · have := sorted_at hS hx hk hj; omega
  · rcases Nat.lt_or_ge k j with h | h
    · have := sorted_at hS hk hx h; omega
    · have : j = k := by omega
      subst this
      rw [hx] at hk; cases hk; omega
theorem PL_at {k a i : Nat} (hk : (starts (tabOf R) s)[k]? = some a) (hai : a ≤ i) (hil : i < s.length) (hn : ∀ b, (starts (tabOf R) s)[k + 1]? = some b → i < b) : PL R s i = plc R s k a i := by
  have hS := starts_sorted (tabOf R) s
  have he : endsTo (tabOf R) s i = k := by
    unfold endsTo
    rw [if_neg (by omega)]
    have := ahd_within hS (i := i + 1) hk (by omega) (fun b hb => hn b hb)
    have e : ((i + 1 : Nat) : Int) = (i : Int) + 1 := by omega
    rw [e] at this
    omega
  unfold PL plc
  rw [he]
  by_cases h : i = a
  · subst h
    rw [if_pos rfl, ahd_on hS hk]
  · rw [if_neg h, ahd_within hS (i := i) hk (by omega) (fun b hb => Nat.le_of_lt (hn b hb))]
    rfl
theorem PL_end (H : (tabOf R).Ok) : PL R s s.length = ((s.length : Int), (bytesTo s s.length : Int), (unitsTo s s.length : Int), ((clus (tabOf R) s).length : Int), colsTo R s (clus (tabOf R) s).length) := by
  have hS := starts_sorted (tabOf R) s
  have h1 : ahd (starts (tabOf R) s) (s.length : Int) = (starts (tabOf R) s).length := by
    refine ahd_eq ⟨Nat.le_refl _, fun j x hj hx => ?_, fun j x hj hx => ?_⟩
    · have := begAt_lt ((starts_mem (tabOf R) s x).1 (List.mem_of_getElem? hx)); omega
    · have := at_lt hx; omega
  unfold PL endsTo
  rw [h1, if_pos rfl, starts_clus H]
/-- all places -/
def PLs (R : List Rw) (s : List Int) : List Ps := (List.range (s.length + 1)).map (PL R s)
theorem PLs_len : (PLs R s).length = s.length + 1 := by simp [PLs]
theorem PLs_get {i : Nat} (h : i ≤ s.length) : (PLs R s)[i]? = some (PL R s i) := by
  unfold PLs; rw [List.getElem?_map, List.getElem?_range (by omega)]; rfl
theorem PLs_take {i : Nat} (h : i ≤ s.length) : (PLs R s).take (i + 1) = (PLs R s).take i ++ [PL R s i] := by rw [List.take_add_one, PLs_get h]; rfl
theorem PLs_take_len {i : Nat} (h : i ≤ s.length + 1) : ((PLs R s).take i).length = i := by rw [List.length_take, PLs_len]; omega
end
end Go.Proofs.YtblajooebmjfoaaGreat

/- seg.Starts once more: what it makes is its own (starts_any of SegE tells only that it reads so). -/
namespace Go.Proofs.YtblajooebmjfoaaGreat
open Go.RowKit

section
variable {R : List Rw} {s : List Int} {w : World} {sv : Value} {tp : Nat}
set_option maxRecDepth 100000 in
set_option maxHeartbeats 8000000 in
theorem starts_own (H : (tabOf R).Ok) (hT : Tb R w tp) (hs : RunesIn w sv s) (ok : RunesOk s) (hl : s.length ≤ 1000000) :
    Calls Tryz.prog 37 #[.pointer (some ⟨tp, 0, none⟩), sv] w fun e w' => ∃ u, e = .returned u ∧ Below w.heap.size w w' ∧ w'.ownsRow w.heap.size 3 1 u (starts (tabOf R) s).length ((starts (tabOf R) s).flatMap nE) := by
  have HT := Lib.hid hT
  have HS := Lib.hid hs
  have HOk := Lib.hid ok
  have HSt := Lib.hid (starts_of H s)
  obtain ⟨sl, cap, rfl, hcap, hmax, _⟩ := runes_cells hs
  unfold maxLen at hmax
  have hW := (Below.refl w.heap.size w).alloc (Nat.le_refl _) (.cells #[.bool false, .int .i64 0, .int .i64 0, .int .i64 0, .bool false] 110)
  have hR0 : stRow (w.alloc (.cells #[.bool false, .int .i64 0, .int .i64 0, .int .i64 0, .bool false] 110)) w.heap.size St0 := heap_alloc_new w _
  have HW := Lib.hid hW
  have HR0 := Lib.hid hR0
  clear hT hs ok hW hR0
  go_enter Tryz.func37, Tryz.ntmps37
  go_wp2_with fail
  go_loopw [6, 13] (fun ov iv wr => ∃ (k : Nat) (L : List Nat) (st : St), k ≤ s.length ∧ L.length ≤ k ∧ iv = .int .i64 ((k : Nat) : Int) ∧ Below w.heap.size w wr ∧ wr.ownsRow (w.heap.size + 1) 3 1 ov L.length (L.flatMap nE) ∧ stRow wr w.heap.size st ∧ L ++ startsF (tabOf R) st k (s.drop k) = starts (tabOf R) s) (fun _ iv _ => s.length - (intOf iv).toNat)
  case atStart => exact ⟨0, [], St0, Nat.zero_le _, Nat.le_refl _, rfl, HW.out, World.ownsRow_nil _ _ _ _, HR0.out, HSt.out⟩
  case round =>
    obtain ⟨k, L, st, hk, hLk, rfl, hB, hO, hR, hE⟩ := hrel
    have HB := Lib.hid hB
    have HE := Lib.hid hE
    have HRr := Lib.hid hR
    obtain ⟨pa, pc, rfl⟩ := slice_of_owns hO
    have HO := Lib.hid hO
    clear hB hO hE
    by_cases hlt : k < s.length
    · obtain ⟨x, hx⟩ : ∃ x, s[k]? = some x := ⟨s[k], List.getElem?_eq_getElem hlt⟩
      have HI := Lib.hid (HOk.out.get hx)
      have HD := Lib.hid (startsF_step (T := tabOf R) (st := st) hx)
      obtain ⟨b0, off, cap', hv, _, _, _, _, d0⟩ := rune_cell (HS.out.below HB.out) hx
      cases hv
      obtain ⟨s0, s1, s2, s3, s4⟩ := st
      have c0 : wr.cell? ⟨w.heap.size, 0, none⟩ = some (.bool s0) := row_cells hR rfl
      have c1 : wr.cell? ⟨w.heap.size, 1, none⟩ = some (.int .i64 s1) := row_cells hR rfl
      have c2 : wr.cell? ⟨w.heap.size, 2, none⟩ = some (.int .i64 s2) := row_cells hR rfl
      have c3 : wr.cell? ⟨w.heap.size, 3, none⟩ = some (.int .i64 s3) := row_cells hR rfl
      have c4 : wr.cell? ⟨w.heap.size, 4, none⟩ = some (.bool s4) := row_cells hR rfl
      have HCall := Lib.hid (step_any ⟨s0, s1, s2, s3, s4⟩ x wr (HT.out.below HB.out) HI.out)
      clear hx hR
      go_wp2_with fail
      refine HCall.out.mono ?_
      rintro e w1 ⟨rfl, hB1⟩
      generalize hn : nextSt (tabOf R) ⟨s0, s1, s2, s3, s4⟩ x = n at HD ⊢
      obtain ⟨n0, n1, n2, n3, n4⟩ := n
      unfold stV
      dsimp only
      have HR1 := Lib.hid (HRr.out.kept hB1)
      have HO1 := Lib.hid (owns_stays HO.out hB1)
      have HB1 := Lib.hid (HB.out.trans (hB1.mono HB.out.size))
      have hsb1 := HR1.out.lt
      clear hn hB1 HRr HO HB c0 c1 c2 c3 c4 d0
      cases hc : cutB (tabOf R) ⟨s0, s1, s2, s3, s4⟩ x with
      | true =>
        have HN := Lib.hid (show (L ++ [k]) ++ startsF (tabOf R) ⟨n0, n1, n2, n3, n4⟩ (k + 1) (s.drop (k + 1)) = starts (tabOf R) s by rw [← HE.out, HD.out, hc]; simp)
        clear hc
        have HOa := Lib.hid (World.ownsRow.alloc HO1.out (.cells #[.bool n0, .int .i64 n1, .int .i64 n2, .int .i64 n3, .bool n4] 110))
        have HBa := Lib.hid (HB1.out.alloc HB1.out.size (.cells #[.bool n0, .int .i64 n1, .int .i64 n2, .int .i64 n3, .bool n4] 110))
        have hbl : w.heap.size + 1 ≤ (w1.alloc (.cells #[.bool n0, .int .i64 n1, .int .i64 n2, .int .i64 n3, .bool n4] 110)).heap.size := by simp; omega
        have HNr := Lib.hid (show stRow (w1.alloc (.cells #[.bool n0, .int .i64 n1, .int .i64 n2, .int .i64 n3, .bool n4] 110)) w1.heap.size ⟨n0, n1, n2, n3, n4⟩ from heap_alloc_new w1 _)
        have HSr := Lib.hid (show stRow (w1.alloc (.cells #[.bool n0, .int .i64 n1, .int .i64 n2, .int .i64 n3, .bool n4] 110)) w.heap.size ⟨s0, s1, s2, s3, s4⟩ from (Below.heap_alloc _ _ _ hsb1).trans HR1.out)
        have HSz := Lib.hid (show (w1.alloc (.cells #[.bool n0, .int .i64 n1, .int .i64 n2, .int .i64 n3, .bool n4] 110)).heap.size = w1.heap.size + 1 by simp)
        go_wp2_with (at_builtin; refine wpList_app1 _ rfl (.tmp 26) (.tmp 28) _ rfl EI _ _ _ rfl HOa.out 1 1 (nE k) (by rw [HSz.out]; rfl) (by decide) rfl (nE_one k) (by omega) hbl ?_; intro g cap w7 ho7 hg7 hf7; have HB2 := Lib.hid (below_app HBa.out HBa.out.size HOa.out (by omega) hg7); have hS7 : stRow w7 w.heap.size ⟨s0, s1, s2, s3, s4⟩ := (hg7.block _ (HSr.out.lt) (fun e => by have := (HOa.out.lt _ e.symm).1; omega)).trans HSr.out; have hN7 : stRow w7 w1.heap.size ⟨n0, n1, n2, n3, n4⟩ := (hg7.block _ (HNr.out.lt) (fun e => by have := (HO1.out.lt _ e.symm).2; omega)).trans HNr.out; have HO2 := Lib.hid ho7; have e0 : w7.cell? ⟨w1.heap.size, 0, none⟩ = some (.bool n0) := row_cells hN7 rfl; have e1 : w7.cell? ⟨w1.heap.size, 1, none⟩ = some (.int .i64 n1) := row_cells hN7 rfl; have e2 : w7.cell? ⟨w1.heap.size, 2, none⟩ = some (.int .i64 n2) := row_cells hN7 rfl; have e3 : w7.cell? ⟨w1.heap.size, 3, none⟩ = some (.int .i64 n3) := row_cells hN7 rfl; have e4 : w7.cell? ⟨w1.heap.size, 4, none⟩ = some (.bool n4) := row_cells hN7 rfl; have c0 : w7.cell? ⟨w.heap.size, 0, none⟩ = some (.bool s0) := row_cells hS7 rfl; have c1 : w7.cell? ⟨w.heap.size, 1, none⟩ = some (.int .i64 s1) := row_cells hS7 rfl; have c2 : w7.cell? ⟨w.heap.size, 2, none⟩ = some (.int .i64 s2) := row_cells hS7 rfl; have c3 : w7.cell? ⟨w.heap.size, 3, none⟩ = some (.int .i64 s3) := row_cells hS7 rfl; have c4 : w7.cell? ⟨w.heap.size, 4, none⟩ = some (.bool s4) := row_cells hS7 rfl; have y0 := row_warm hS7 0; have y1 := row_warm hS7 1; have y2 := row_warm hS7 2; have y3 := row_warm hS7 3; have y4 := row_warm hS7 4; have HS7 := Lib.hid hS7; clear ho7 hg7 hf7 hS7 hN7)
        go_wp2_with fail
        go_roundw
        case rel => exact ⟨k + 1, L ++ [k], ⟨n0, n1, n2, n3, n4⟩, by omega, by simp; omega, by go_num, ((((HB2.out.setCell (Nat.le_refl _) _).setCell (Nat.le_refl _) _).setCell (Nat.le_refl _) _).setCell (Nat.le_refl _) _).setCell (Nat.le_refl _) _, by
                      have ho := owns_store (owns_store (owns_store (owns_store (owns_store HO2.out (b := w.heap.size) (i := 0) (u := .bool n0) (by omega)) (b := w.heap.size) (i := 1) (u := .int .i64 n1) (by omega)) (b := w.heap.size) (i := 2) (u := .int .i64 n2) (by omega)) (b := w.heap.size) (i := 3) (u := .int .i64 n3) (by omega)) (b := w.heap.size) (i := 4) (u := .bool n4) (by omega)
                      rw [flat_snoc, List.length_append]; exact ho, stRow_set HS7.out ⟨n0, n1, n2, n3, n4⟩, HN.out⟩
        case measure => simp [intOf] <;> omega
      | false =>
        have HN := Lib.hid (show L ++ startsF (tabOf R) ⟨n0, n1, n2, n3, n4⟩ (k + 1) (s.drop (k + 1)) = starts (tabOf R) s by rw [← HE.out, HD.out, hc]; simp)
        clear hc
        have HO2 := Lib.hid (World.ownsRow.alloc HO1.out (.cells #[.bool n0, .int .i64 n1, .int .i64 n2, .int .i64 n3, .bool n4] 110))
        have HB2 := Lib.hid (HB1.out.alloc HB1.out.size (.cells #[.bool n0, .int .i64 n1, .int .i64 n2, .int .i64 n3, .bool n4] 110))
        have hS7 : stRow (w1.alloc (.cells #[.bool n0, .int .i64 n1, .int .i64 n2, .int .i64 n3, .bool n4] 110)) w.heap.size ⟨s0, s1, s2, s3, s4⟩ := (Below.heap_alloc _ _ _ hsb1).trans HR1.out
        have c0 : (w1.alloc (.cells #[.bool n0, .int .i64 n1, .int .i64 n2, .int .i64 n3, .bool n4] 110)).cell? ⟨w.heap.size, 0, none⟩ = some (.bool s0) := row_cells hS7 rfl
        have c1 : (w1.alloc (.cells #[.bool n0, .int .i64 n1, .int .i64 n2, .int .i64 n3, .bool n4] 110)).cell? ⟨w.heap.size, 1, none⟩ = some (.int .i64 s1) := row_cells hS7 rfl
        have c2 : (w1.alloc (.cells #[.bool n0, .int .i64 n1, .int .i64 n2, .int .i64 n3, .bool n4] 110)).cell? ⟨w.heap.size, 2, none⟩ = some (.int .i64 s2) := row_cells hS7 rfl
        have c3 : (w1.alloc (.cells #[.bool n0, .int .i64 n1, .int .i64 n2, .int .i64 n3, .bool n4] 110)).cell? ⟨w.heap.size, 3, none⟩ = some (.int .i64 s3) := row_cells hS7 rfl
        have c4 : (w1.alloc (.cells #[.bool n0, .int .i64 n1, .int .i64 n2, .int .i64 n3, .bool n4] 110)).cell? ⟨w.heap.size, 4, none⟩ = some (.bool s4) := row_cells hS7 rfl
        have y0 := row_warm hS7 0
        have y1 := row_warm hS7 1
        have y2 := row_warm hS7 2
        have y3 := row_warm hS7 3
        have y4 := row_warm hS7 4
        have hN7 : stRow (w1.alloc (.cells #[.bool n0, .int .i64 n1, .int .i64 n2, .int .i64 n3, .bool n4] 110)) w1.heap.size ⟨n0, n1, n2, n3, n4⟩ := heap_alloc_new w1 _
        have e0 : (w1.alloc (.cells #[.bool n0, .int .i64 n1, .int .i64 n2, .int .i64 n3, .bool n4] 110)).cell? ⟨w1.heap.size, 0, none⟩ = some (.bool n0) := row_cells hN7 rfl
        have e1 : (w1.alloc (.cells #[.bool n0, .int .i64 n1, .int .i64 n2, .int .i64 n3, .bool n4] 110)).cell? ⟨w1.heap.size, 1, none⟩ = some (.int .i64 n1) := row_cells hN7 rfl
        have e2 : (w1.alloc (.cells #[.bool n0, .int .i64 n1, .int .i64 n2, .int .i64 n3, .bool n4] 110)).cell? ⟨w1.heap.size, 2, none⟩ = some (.int .i64 n2) := row_cells hN7 rfl
        have e3 : (w1.alloc (.cells #[.bool n0, .int .i64 n1, .int .i64 n2, .int .i64 n3, .bool n4] 110)).cell? ⟨w1.heap.size, 3, none⟩ = some (.int .i64 n3) := row_cells hN7 rfl
        have e4 : (w1.alloc (.cells #[.bool n0, .int .i64 n1, .int .i64 n2, .int .i64 n3, .bool n4] 110)).cell? ⟨w1.heap.size, 4, none⟩ = some (.bool n4) := row_cells hN7 rfl
        go_upto_region 9 with fail
        generalize (w1.alloc (.cells #[.bool n0, .int .i64 n1, .int .i64 n2, .int .i64 n3, .bool n4] 110)) = w7 at HO2 HB2 hS7 e0 e1 e2 e3 e4 c0 c1 c2 c3 c4 y0 y1 y2 y3 y4 ⊢
        have HS7 := Lib.hid hS7
        clear hS7 hN7
        go_wp2_with fail
        go_roundw
        case rel => exact ⟨k + 1, L, ⟨n0, n1, n2, n3, n4⟩, by omega, by omega, by go_num, ((((HB2.out.setCell (Nat.le_refl _) _).setCell (Nat.le_refl _) _).setCell (Nat.le_refl _) _).setCell (Nat.le_refl _) _).setCell (Nat.le_refl _) _,
                      owns_store (owns_store (owns_store (owns_store (owns_store HO2.out (by omega)) (by omega)) (by omega)) (by omega)) (by omega), stRow_set HS7.out ⟨n0, n1, n2, n3, n4⟩, HN.out⟩
        case measure => simp [intOf] <;> omega
    · have hke : k = s.length := by omega
      subst hke
      have HF := Lib.hid (show L = starts (tabOf R) s by rw [← HE.out, List.drop_length]; simp [startsF])
      clear hlt hk
      go_wp2_with fail
      go_ret
      exact ⟨_, rfl, HB.out, by rw [← HF.out]; exact owns_mono HO.out (Nat.le_succ _)⟩
end
end Go.Proofs.YtblajooebmjfoaaGreat

/- units.Of: the cells in it. -/
namespace Go.Proofs.YtblajooebmjfoaaGreat
open Go.RowKit

theorem EP : ElemT Tryz.prog 39 46 5 40 := elemT_of (by kernel_rfl) (z := .agg #[.int .i64 0, .int .i64 0, .int .i64 0, .int .i64 0, .int .i64 0]) (by kernel_rfl) rfl (by decide) (by decide)
/-- what units.Of keeps in boxes: the result (h), the map (h + 2), p (h + 3), next (h + 4) -/
structure UW (W wr : World) (h : Nat) (mv : Value) (L : List Ps) (p q : Ps) : Prop where
  below : Below h W wr
  hs : h + 5 ≤ wr.heap.size
  r : wr.heap[h]? = some (.cells #[.slice none 0 0] 41 (0, 0))
  pm : wr.heap[h + 2]? = some (.cells #[mv] 41 (0, 0))
  pp : wr.heap[h + 3]? = some (.cells #[.int .i64 p.1, .int .i64 p.2.1, .int .i64 p.2.2.1, .int .i64 p.2.2.2.1, .int .i64 p.2.2.2.2] 46 (0, 0))
  pn : wr.heap[h + 4]? = some (.cells #[.int .i64 q.1, .int .i64 q.2.1, .int .i64 q.2.2.1, .int .i64 q.2.2.2.1, .int .i64 q.2.2.2.2] 46 (0, 0))
  own : wr.ownsRow (h + 1) 46 5 mv L.length (L.flatMap psE)
  sep : ∀ b, mv.ownBlock = some b → b = h + 1 ∨ h + 5 ≤ b
section
variable {W wr wr' : World} {h : Nat} {mv : Value} {L : List Ps} {p q : Ps}
theorem UW.later (H : UW W wr h mv L p q) (hB : Below wr.heap.size wr wr') : UW W wr' h mv L p q :=
  have hs := H.hs
  ⟨H.below.trans (hB.mono (by omega)), Nat.le_trans hs hB.size, (hB.block h (by omega)).trans H.r, (hB.block (h + 2) (by omega)).trans H.pm, (hB.block (h + 3) (by omega)).trans H.pp, (hB.block (h + 4) (by omega)).trans H.pn, owns_stays H.own hB, H.sep⟩
theorem UW.setP (H : UW W wr h mv L p q) (i : Nat) (v : Value) (p' : Ps) (hp : (#[Value.int .i64 p.1, .int .i64 p.2.1, .int .i64 p.2.2.1, .int .i64 p.2.2.2.1, .int .i64 p.2.2.2.2] : Array Value).setIfInBounds i v = #[.int .i64 p'.1, .int .i64 p'.2.1, .int .i64 p'.2.2.1, .int .i64 p'.2.2.2.1, .int .i64 p'.2.2.2.2]) :
    UW W (wr.setCell ⟨h + 3, i, none⟩ v) h mv L p' q := by
  have hg := setCell_grown wr ⟨h + 3, i, none⟩ v
  have hs := H.hs
  refine ⟨H.below.setCell (by show h ≤ h + 3; omega) v, Nat.le_trans hs hg.size, (hg.block h (by omega) (by intro e; cases e)).trans H.r, (hg.block (h + 2) (by omega) (by intro e; simp at e)).trans H.pm, ?_, (hg.block (h + 4) (by omega) (by intro e; simp at e)).trans H.pn, ?_, H.sep⟩
  · rw [← hp]; exact heap_setCell_same _ _ _ _ _ _ H.pp
  · refine H.own.kept hg ?_
    refine .inr fun e => ?_
    rcases H.sep (h + 3) e with h1 | h1 <;> omega
theorem UW.setN (H : UW W wr h mv L p q) (i : Nat) (v : Value) (q' : Ps) (hq : (#[Value.int .i64 q.1, .int .i64 q.2.1, .int .i64 q.2.2.1, .int .i64 q.2.2.2.1, .int .i64 q.2.2.2.2] : Array Value).setIfInBounds i v = #[.int .i64 q'.1, .int .i64 q'.2.1, .int .i64 q'.2.2.1, .int .i64 q'.2.2.2.1, .int .i64 q'.2.2.2.2]) :
    UW W (wr.setCell ⟨h + 4, i, none⟩ v) h mv L p q' := by
  have hg := setCell_grown wr ⟨h + 4, i, none⟩ v
  have hs := H.hs
  refine ⟨H.below.setCell (by show h ≤ h + 4; omega) v, Nat.le_trans hs hg.size, (hg.block h (by omega) (by intro e; cases e)).trans H.r, (hg.block (h + 2) (by omega) (by intro e; simp at e)).trans H.pm, (hg.block (h + 3) (by omega) (by intro e; simp at e)).trans H.pp, ?_, ?_, H.sep⟩
  · rw [← hq]; exact heap_setCell_same _ _ _ _ _ _ H.pn
  · refine H.own.kept hg ?_
    refine .inr fun e => ?_
    rcases H.sep (h + 4) e with h1 | h1 <;> omega
theorem UW.push (H : UW W wr h mv L p q) {w7 : World} {g cap : Nat} {x : Ps} (ho : w7.ownsRow (h + 1) 46 5 (.slice (some ⟨g, 0, none⟩) (L.length + 1) cap) (L.length + 1) (L.flatMap psE ++ psE x)) (hg : wr.grownBy w7 mv.ownBlock) (hf : mv.ownBlock = some g ∨ wr.heap.size ≤ g) :
    UW W (w7.setCell ⟨h + 2, 0, none⟩ (.slice (some ⟨g, 0, none⟩) (L.length + 1) cap)) h (.slice (some ⟨g, 0, none⟩) (L.length + 1) cap) (L ++ [x]) p q := by
  have hs := H.hs
  have hne : ∀ k, k = h ∨ k = h + 2 ∨ k = h + 3 ∨ k = h + 4 → some k ≠ mv.ownBlock := fun k hk e => by
    rcases H.sep k e.symm with h1 | h1 <;> omega
  have hgg : g = h + 1 ∨ h + 5 ≤ g := by
    rcases hf with hf | hf
    · exact H.sep g hf
    · exact .inr (by omega)
  have hg2 := setCell_grown w7 ⟨h + 2, 0, none⟩ (.slice (some ⟨g, 0, none⟩) (L.length + 1) cap)
  have h7 : h + 5 ≤ w7.heap.size := Nat.le_trans hs hg.size
  have hb7 : Below h W w7 := H.below.grown hg (by omega) (fun k e => by rcases H.sep k e with h1 | h1 <;> omega)
  refine ⟨hb7.setCell (by show h ≤ h + 2; omega) _, Nat.le_trans h7 hg2.size, ?_, ?_, ?_, ?_, ?_, fun b e => ?_⟩
  · exact (hg2.block h (by omega) (by intro e; simp at e)).trans ((hg.block h (by omega) (fun e => hne h (.inl rfl) e)).trans H.r)
  · exact heap_setCell_same _ _ _ _ _ _ ((hg.block (h + 2) (by omega) (fun e => hne (h + 2) (.inr (.inl rfl)) e)).trans H.pm)
  · exact (hg2.block (h + 3) (by omega) (by intro e; simp at e)).trans ((hg.block (h + 3) (by omega) (fun e => hne (h + 3) (.inr (.inr (.inl rfl))) e)).trans H.pp)
  · exact (hg2.block (h + 4) (by omega) (by intro e; simp at e)).trans ((hg.block (h + 4) (by omega) (fun e => hne (h + 4) (.inr (.inr (.inr rfl))) e)).trans H.pn)
  · rw [List.length_append, flat_snoc]
    exact ho.kept hg2 (.inr (fun e => by simp [Value.ownBlock] at e; omega))
  · have e' : g = b := by simpa [Value.ownBlock] using e
    omega
end
abbrev zero5 : Array Value := #[.int .i64 0, .int .i64 0, .int .i64 0, .int .i64 0, .int .i64 0]
theorem UW.start (w : World) (n : Nat) (cs : Array Value) (hcs : cs.size = n * 5) (hn : n ≤ maxLen) :
    UW w (((((w.alloc (.cells #[.slice none 0 0] 41)).alloc (.cells cs 46)).alloc (.cells #[.slice (some ⟨w.heap.size + 1, 0, none⟩) 0 n] 41)).alloc (.cells #[.int .i64 0, .int .i64 0, .int .i64 0, .int .i64 0, .int .i64 0] 46)).alloc (.cells #[.int .i64 0, .int .i64 0, .int .i64 0, .int .i64 0, .int .i64 0] 46))
      w.heap.size (.slice (some ⟨w.heap.size + 1, 0, none⟩) 0 n) [] (0, 0, 0, 0, 0) (0, 0, 0, 0, 0) := by
  have s1 : (w.alloc (.cells #[.slice none 0 0] 41)).heap.size = w.heap.size + 1 := by simp
  have h1 := heap_alloc_new w (.cells #[.slice none 0 0] 41)
  have b1 := (Below.refl w.heap.size w).alloc (Nat.le_refl _) (.cells #[.slice none 0 0] 41)
  generalize w.alloc (.cells #[.slice none 0 0] 41) = w1 at s1 h1 b1 ⊢
  have o2 := World.ownsRow_made (e := 46) (size := 5) (base := w.heap.size + 1) w1 cs n (by omega) hn hcs
  rw [s1] at o2
  have s2 : (w1.alloc (.cells cs 46)).heap.size = w.heap.size + 2 := by simp [s1]
  have h2 := (Below.heap_alloc w1 (.cells cs 46) w.heap.size (by omega)).trans h1
  have b2 := b1.alloc (by omega) (.cells cs 46)
  generalize w1.alloc (.cells cs 46) = w2 at s2 h2 b2 o2 ⊢
  have s3 : (w2.alloc (.cells #[.slice (some ⟨w.heap.size + 1, 0, none⟩) 0 n] 41)).heap.size = w.heap.size + 3 := by simp [s2]
  have h3 := (Below.heap_alloc w2 (.cells #[.slice (some ⟨w.heap.size + 1, 0, none⟩) 0 n] 41) w.heap.size (by omega)).trans h2
  have m3 := heap_alloc_new w2 (.cells #[.slice (some ⟨w.heap.size + 1, 0, none⟩) 0 n] 41)
  rw [s2] at m3
  have b3 := b2.alloc (by omega) (.cells #[.slice (some ⟨w.heap.size + 1, 0, none⟩) 0 n] 41)
  have o3 := o2.alloc (.cells #[.slice (some ⟨w.heap.size + 1, 0, none⟩) 0 n] 41)
  generalize w2.alloc (.cells #[.slice (some ⟨w.heap.size + 1, 0, none⟩) 0 n] 41) = w3 at s3 h3 m3 b3 o3 ⊢
  have s4 : (w3.alloc (.cells #[.int .i64 0, .int .i64 0, .int .i64 0, .int .i64 0, .int .i64 0] 46)).heap.size = w.heap.size + 4 := by simp [s3]
  have h4 := (Below.heap_alloc w3 (.cells #[.int .i64 0, .int .i64 0, .int .i64 0, .int .i64 0, .int .i64 0] 46) w.heap.size (by omega)).trans h3
  have m4 := (Below.heap_alloc w3 (.cells #[.int .i64 0, .int .i64 0, .int .i64 0, .int .i64 0, .int .i64 0] 46) (w.heap.size + 2) (by omega)).trans m3
  have p4 := heap_alloc_new w3 (.cells #[.int .i64 0, .int .i64 0, .int .i64 0, .int .i64 0, .int .i64 0] 46)
  rw [s3] at p4
  have b4 := b3.alloc (by omega) (.cells #[.int .i64 0, .int .i64 0, .int .i64 0, .int .i64 0, .int .i64 0] 46)
  have o4 := o3.alloc (.cells #[.int .i64 0, .int .i64 0, .int .i64 0, .int .i64 0, .int .i64 0] 46)
  generalize w3.alloc (.cells #[.int .i64 0, .int .i64 0, .int .i64 0, .int .i64 0, .int .i64 0] 46) = w4 at s4 h4 m4 p4 b4 o4 ⊢
  have n5 := heap_alloc_new w4 (.cells #[.int .i64 0, .int .i64 0, .int .i64 0, .int .i64 0, .int .i64 0] 46)
  rw [s4] at n5
  exact ⟨b4.alloc (by omega) _, by simp [s4], (Below.heap_alloc w4 _ w.heap.size (by omega)).trans h4, (Below.heap_alloc w4 _ (w.heap.size + 2) (by omega)).trans m4, (Below.heap_alloc w4 _ (w.heap.size + 3) (by omega)).trans p4, n5, o4.alloc _, fun b e => .inl (by simpa [Value.ownBlock] using e.symm)⟩
end Go.Proofs.YtblajooebmjfoaaGreat
