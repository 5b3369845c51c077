/- Joined texts: GlyP. -/
import Derived.Laws.BytesArg
import Derived.Test.YtblajooebmjfoaaZaaa
/- Glyphs: plain law of scalars' bytes, of widths, and of how clusters are shown. No program is named here. -/
namespace Go.Proofs.Ytblajooebmjfoaa

def validB (r : Int) : Bool := (decide (0 ≤ r) && decide (r < 55296)) || (decide (57343 < r) && decide (r ≤ 1114111))
/-- a scalar, or the one that stands for what is none -/
def fixR (r : Int) : Int := if validB r then r else 65533
def sizeN (r : Int) : Nat := if validB r then (if r < 128 then 1 else if r < 2048 then 2 else if r < 65536 then 3 else 4) else 3
/-- a scalar's bytes -/
def putN (r : Int) : List Int :=
  if fixR r < 128 then [fixR r] else if fixR r < 2048 then [192 + fixR r / 64, 128 + fixR r % 64] else if fixR r < 65536 then [224 + fixR r / 4096, 128 + fixR r / 64 % 64, 128 + fixR r % 64]
  else [240 + fixR r / 262144, 128 + fixR r / 4096 % 64, 128 + fixR r / 64 % 64, 128 + fixR r % 64]
theorem validB_iff {r : Int} : validB r = true ↔ (0 ≤ r ∧ r < 55296) ∨ (57343 < r ∧ r ≤ 1114111) := by simp [validB]
theorem fixR_rng (r : Int) : 0 ≤ fixR r ∧ fixR r ≤ 1114111 := by
  unfold fixR
  split
  · rename_i h; have := validB_iff.1 h; omega
  · omega
theorem fixR_ok {r : Int} (h : validB r = true) : fixR r = r := by unfold fixR; rw [if_pos h]
theorem fixR_bad {r : Int} (h : validB r = false) : fixR r = 65533 := by unfold fixR; rw [if_neg (by rw [h]; decide)]
theorem sizeN_fix (r : Int) : sizeN r = if fixR r < 128 then 1 else if fixR r < 2048 then 2 else if fixR r < 65536 then 3 else 4 := by
  unfold sizeN fixR
  by_cases h : validB r = true
  · rw [if_pos h, if_pos h]
  · rw [if_neg h, if_neg h]; rfl
theorem putN_len (r : Int) : (putN r).length = sizeN r := by
  rw [sizeN_fix]
  unfold putN
  split
  · rfl
  · split
    · rfl
    · split <;> rfl
theorem putN_rng (r : Int) : ∀ x ∈ putN r, 0 ≤ x ∧ x ≤ 255 := by
  obtain ⟨h0, h1⟩ := fixR_rng r
  intro x hx
  unfold putN at hx
  generalize fixR r = n at h0 h1 hx
  split at hx
  · simp at hx; omega
  · split at hx
    · simp at hx; omega
    · split at hx
      · simp at hx; omega
      · simp at hx; omega
theorem sizeN_rng (r : Int) : 1 ≤ sizeN r ∧ sizeN r ≤ 4 := by
  rw [sizeN_fix]
  split
  · omega
  · split
    · omega
    · split <;> omega
def encN (l : List Int) : List Int := l.flatMap putN
theorem encN_rng (l : List Int) : ∀ x ∈ encN l, 0 ≤ x ∧ x ≤ 255 := by
  intro x hx
  obtain ⟨r, _, h⟩ := List.mem_flatMap.1 hx
  exact putN_rng r x h
theorem encN_len (l : List Int) : (encN l).length ≤ 4 * l.length := by
  induction l with
  | nil => simp [encN]
  | cons r l ih =>
    have : encN (r :: l) = putN r ++ encN l := rfl
    rw [this, List.length_append, putN_len, List.length_cons]
    have := (sizeN_rng r).2
    omega
theorem encN_pos {l : List Int} (h : l ≠ []) : 1 ≤ (encN l).length := by
  cases l with
  | nil => exact absurd rfl h
  | cons r l =>
    have : encN (r :: l) = putN r ++ encN l := rfl
    rw [this, List.length_append, putN_len]
    have := (sizeN_rng r).1
    omega
def put (r : Int) : ByteArray := strOfNums (putN r)
def enc (l : List Int) : ByteArray := strOfNums (encN l)
theorem put_size (r : Int) : (put r).size = sizeN r := by unfold put; rw [strOfNums_size, putN_len]
theorem enc_size (l : List Int) : (enc l).size = (encN l).length := strOfNums_size _
theorem nums_append (a b : List Int) : strOfNums (a ++ b) = strOfNums a ++ strOfNums b := by
  apply ByteArray.ext
  rw [ByteArray.data_append]
  apply Array.ext'
  rw [Array.toList_append, strOfNums_data, strOfNums_data, strOfNums_data, List.map_append]

section
variable (R : List Rw)
def wideB (r : Int) : Bool := decide (ofA R 7 r = 1)
def hitB (c0 : Int) (i : Nat) (r : Int) : Bool := wideB R r || ((decide (r = 65039) && decide (0 < i)) && (tabOf R).p c0) || ((decide (i = 1) && decide ((tabOf R).b r = 6)) && decide ((tabOf R).b c0 = 6))
def hitsF (c0 : Int) : Nat → List Int → Bool
  | _, [] => false
  | i, r :: l => hitB R c0 i r || hitsF c0 (i + 1) l
/-- how many columns a cluster takes -/
def widN (c : List Int) : Nat := if hitsF R (c.headD 0) 0 c then 2 else 1
def hit1 (c0 : Int) (i : Nat) (r : Int) : Bool := wideB R r || ((decide (r = 65039) && decide (0 < i)) && (tabOf R).p c0)
def hits1 (c0 : Int) : Nat → List Int → Bool
  | _, [] => false
  | i, r :: l => hit1 R c0 i r || hits1 c0 (i + 1) l
def flags2 : List Int → Bool
  | a :: b :: _ => decide ((tabOf R).b a = 6) && decide ((tabOf R).b b = 6)
  | _ => false
theorem hitsF_far (c0 : Int) : ∀ (l : List Int) (i : Nat), 2 ≤ i → hitsF R c0 i l = hits1 R c0 i l
  | [], _, _ => rfl
  | r :: l, i, h => by
    show (hitB R c0 i r || hitsF R c0 (i + 1) l) = (hit1 R c0 i r || hits1 R c0 (i + 1) l)
    rw [hitsF_far c0 l (i + 1) (by omega)]
    have : decide (i = 1) = false := decide_eq_false (by omega)
    unfold hitB hit1
    rw [this, Bool.false_and, Bool.false_and, Bool.or_false]
theorem widN_ref (c : List Int) : widN R c = if hits1 R (c.headD 0) 0 c || flags2 R c then 2 else 1 := by
  unfold widN
  have key : hitsF R (c.headD 0) 0 c = (hits1 R (c.headD 0) 0 c || flags2 R c) := by
    match c with
    | [] => rfl
    | [a] => simp [hitsF, hits1, hitB, hit1, flags2]
    | a :: b :: l =>
      show (hitB R a 0 a || (hitB R a 1 b || hitsF R a 2 l)) = ((hit1 R a 0 a || (hit1 R a 1 b || hits1 R a 2 l)) || (decide ((tabOf R).b a = 6) && decide ((tabOf R).b b = 6)))
      rw [hitsF_far R a l 2 (Nat.le_refl _)]
      have h0 : hitB R a 0 a = hit1 R a 0 a := by simp [hitB, hit1]
      have h1 : hitB R a 1 b = (hit1 R a 1 b || (decide ((tabOf R).b b = 6) && decide ((tabOf R).b a = 6))) := by simp [hitB, hit1]
      rw [h0, h1]
      cases hit1 R a 0 a <;> cases hit1 R a 1 b <;> cases hits1 R a 2 l <;> cases decide ((tabOf R).b a = 6) <;> cases decide ((tabOf R).b b = 6) <;> rfl
  rw [key]
theorem widN_rng (c : List Int) : widN R c = 1 ∨ widN R c = 2 := by
  unfold widN
  split
  · exact .inr rfl
  · exact .inl rfl
/-- step by step: the program's loop -/
theorem hitsF_step {c0 : Int} {c : List Int} {i : Nat} {r : Int} (h : c[i]? = some r) : hitsF R c0 i (c.drop i) = (hitB R c0 i r || hitsF R c0 (i + 1) (c.drop (i + 1))) := by
  rw [drop_of_get h]; rfl
theorem hits1_step {c0 : Int} {c : List Int} {i : Nat} {r : Int} (h : c[i]? = some r) : hits1 R c0 i (c.drop i) = (hit1 R c0 i r || hits1 R c0 (i + 1) (c.drop (i + 1))) := by
  rw [drop_of_get h]; rfl

/-- a glyph: its text, its columns -/
abbrev Gy := ByteArray × Int
def gyE (g : Gy) : List Value := [.string g.1, .int .i64 g.2]
theorem gyE_len (g : Gy) : (gyE g).length = 2 := rfl
theorem gyE_one (g : Gy) : ∀ u ∈ gyE g, u.oneCell' = true := by intro u hu; simp [gyE] at hu; rcases hu with rfl | rfl <;> rfl
theorem gyE_ones (l : List Gy) : ∀ u ∈ l.flatMap gyE, u.oneCell' = true := by
  intro u hu
  obtain ⟨x, _, hx⟩ := List.mem_flatMap.1 hu
  exact gyE_one x u hx
/-- how a scalar that controls is shown -/
def caretG (r : Int) : List Gy := if 0 ≤ r ∧ r < 32 then [(⟨#[94]⟩, 1), (strOfNums [r + 64], 1)] else if r = 127 then [(⟨#[94]⟩, 1), (⟨#[63]⟩, 1)] else [(put 65533, 1)]
def ctlB (b : Int) : Bool := decide (b = 1) || decide (b = 2) || decide (b = 3)
def dotB (b : Int) : Bool := decide (b = 4) || decide (b = 5) || decide (b = 8)
/-- a cluster with what it leans on -/
def lean (c : List Int) : List Int := (if dotB ((tabOf R).b (c.headD 0)) then [9676] else []) ++ c ++ (if (tabOf R).b (c.getLastD 0) = 7 then [9676] else [])
/-- how a cluster is shown -/
def glOf (c : List Int) : List Gy := if c = [] then [] else if ctlB ((tabOf R).b (c.headD 0)) then c.flatMap caretG else [(enc (lean R c), (widN R (lean R c) : Int))]
theorem caretG_len (r : Int) : 1 ≤ (caretG r).length ∧ (caretG r).length ≤ 2 := by
  unfold caretG
  split
  · exact ⟨by simp, by simp⟩
  · split <;> exact ⟨by simp, by simp⟩
theorem carets_len (c : List Int) : c.length ≤ (c.flatMap caretG).length ∧ (c.flatMap caretG).length ≤ 2 * c.length := by
  induction c with
  | nil => exact ⟨Nat.le_refl _, Nat.le_refl _⟩
  | cons r c ih =>
    rw [List.flatMap_cons, List.length_append, List.length_cons]
    have := caretG_len r
    omega
theorem glOf_len {c : List Int} (h : c ≠ []) : 1 ≤ (glOf R c).length ∧ (glOf R c).length ≤ 2 * c.length := by
  have hl : 1 ≤ c.length := List.length_pos_iff.2 h
  unfold glOf
  rw [if_neg h]
  split
  · have := carets_len c; omega
  · exact ⟨Nat.le_refl _, by simp; omega⟩
theorem glOf_le (c : List Int) : (glOf R c).length ≤ 2 * c.length := by
  by_cases h : c = []
  · subst h; exact Nat.le_refl _
  · exact (glOf_len R h).2
theorem lean_ne {c : List Int} (h : c ≠ []) : lean R c ≠ [] := by
  unfold lean
  simp [h]
theorem lean_len (c : List Int) : (lean R c).length ≤ c.length + 2 := by
  unfold lean
  rw [List.length_append, List.length_append]
  split <;> split <;> simp <;> omega
/-- of any glyph that is shown: one column or two, and a text -/
theorem glOf_ok {c : List Int} : ∀ g ∈ glOf R c, (g.2 = 1 ∨ g.2 = 2) ∧ 1 ≤ g.1.size := by
  intro g hg
  unfold glOf at hg
  split at hg
  · simp at hg
  · rename_i h
    split at hg
    · obtain ⟨r, _, h2⟩ := List.mem_flatMap.1 hg
      unfold caretG at h2
      split at h2
      · simp at h2
        rcases h2 with rfl | rfl
        · exact ⟨.inl rfl, by decide⟩
        · exact ⟨.inl rfl, by rw [strOfNums_size]; exact Nat.le_refl _⟩
      · split at h2
        · simp at h2
          rcases h2 with rfl | rfl <;> exact ⟨.inl rfl, by decide⟩
        · simp at h2
          subst h2
          exact ⟨.inl rfl, by show 1 ≤ (put 65533).size; rw [put_size]; exact (sizeN_rng _).1⟩
    · simp at hg
      subst hg
      refine ⟨?_, by show 1 ≤ (enc (lean R c)).size; rw [enc_size]; exact encN_pos (lean_ne R h)⟩
      rcases widN_rng R (lean R c) with h1 | h1
      · exact .inl (by show ((widN R (lean R c) : Nat) : Int) = 1; rw [h1]; rfl)
      · exact .inr (by show ((widN R (lean R c) : Nat) : Int) = 2; rw [h1]; rfl)
/-- the glyphs of clusters, one behind the other, and how many stand ahead of each -/
def lineG (LL : List (List Int)) : List Gy := LL.flatMap (glOf R)
def aheadG (LL : List (List Int)) (k : Nat) : Nat := (lineG R (LL.take k)).length
theorem lineG_snoc (LL : List (List Int)) (c : List Int) : lineG R (LL ++ [c]) = lineG R LL ++ glOf R c := by
  unfold lineG; rw [List.flatMap_append]; simp
theorem aheadG_zero (LL : List (List Int)) : aheadG R LL 0 = 0 := by simp [aheadG, lineG]
theorem aheadG_succ {LL : List (List Int)} {k : Nat} {c : List Int} (h : LL[k]? = some c) : aheadG R LL (k + 1) = aheadG R LL k + (glOf R c).length := by
  unfold aheadG
  rw [List.take_add_one, h]
  show (lineG R (LL.take k ++ [c])).length = _
  rw [lineG_snoc, List.length_append]
theorem aheadG_end (LL : List (List Int)) : aheadG R LL LL.length = (lineG R LL).length := by unfold aheadG; rw [List.take_length]
theorem lineG_ok {LL : List (List Int)} : ∀ g ∈ lineG R LL, (g.2 = 1 ∨ g.2 = 2) ∧ 1 ≤ g.1.size := by
  intro g hg
  obtain ⟨c, _, hc⟩ := List.mem_flatMap.1 hg
  exact glOf_ok R g hc
end
end Go.Proofs.Ytblajooebmjfoaa
