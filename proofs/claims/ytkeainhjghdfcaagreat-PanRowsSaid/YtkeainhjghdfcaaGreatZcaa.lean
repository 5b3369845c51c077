/- Joined texts: GlyP GlyA GlyB GlyC App2 GlyD GlyE GlyG GlyF SegJ SegK. -/
import Derived.Laws.BytesArg
import Derived.Test.YtkeainhjghdfcaaGreatProg
import Derived.IntWalk
import Derived.Deep.RegionHeld3
import Derived.Deep.DeepCutAuto
import Derived.Lib.AppendStr
import Derived.Laws.Concat
import Derived.Test.YtkeainhjghdfcaaGreatZaaa
import Derived.Test.YtkeainhjghdfcaaGreatZbac
import Derived.Test.YtkeainhjghdfcaaGreatZaaw
import Derived.Test.YtkeainhjghdfcaaGreatZaac
import Derived.Test.YtkeainhjghdfcaaGreatZbaa
/- Glyphs: plain law of scalars' bytes, of widths, and of how clusters are shown. No program is named here. -/
namespace Go.Proofs.YtkeainhjghdfcaaGreat

def validB (r : Int) : Bool := (decide (0 ≤ r) && decide (r < 55296)) || (decide (57343 < r) && decide (r ≤ 1114111))
/-- a scalar, or the one that stands for what is none -/
def fixR (r : Int) : Int := if validB r then r else 65533
def sizeN (r : Int) : Nat := if validB r then (if r < 128 then 1 else if r < 2048 then 2 else if r < 65536 then 3 else 4) else 3
/-- a scalar's bytes -/
def putN (r : Int) : List Int :=
  if fixR r < 128 then [fixR r] else if fixR r < 2048 then [192 + fixR r / 64, 128 + fixR r % 64] else if fixR r < 65536 then [224 + fixR r / 4096, 128 + fixR r / 64 % 64, 128 + fixR r % 64]
  else [240 + fixR r / 262144, 128 + fixR r / 4096 % 64, 128 + fixR r / 64 % 64, 128 + fixR r % 64]
theorem validB_iff {r : Int} : validB r = true ↔ (0 ≤ r ∧ r < 55296) ∨ (57343 < r ∧ r ≤ 1114111) := by simp [validB]
theorem fixR_rng (r : Int) : 0 ≤ fixR r ∧ fixR r ≤ 1114111 := by
  unfold fixR
  split
  · rename_i h; have := validB_iff.1 h; omega
  · omega
theorem fixR_ok {r : Int} (h : validB r = true) : fixR r = r := by unfold fixR; rw [if_pos h]
theorem fixR_bad {r : Int} (h : validB r = false) : fixR r = 65533 := by unfold fixR; rw [if_neg (by rw [h]; decide)]
theorem sizeN_fix (r : Int) : sizeN r = if fixR r < 128 then 1 else if fixR r < 2048 then 2 else if fixR r < 65536 then 3 else 4 := by
  unfold sizeN fixR
  by_cases h : validB r = true
  · rw [if_pos h, if_pos h]
  · rw [if_neg h, if_neg h]; rfl
theorem putN_len (r : Int) : (putN r).length = sizeN r := by
  rw [sizeN_fix]
  unfold putN
  split
  · rfl
  · split
    · rfl
    · split <;> rfl
theorem putN_rng (r : Int) : ∀ x ∈ putN r, 0 ≤ x ∧ x ≤ 255 := by
  obtain ⟨h0, h1⟩ := fixR_rng r
  intro x hx
  unfold putN at hx
  generalize fixR r = n at h0 h1 hx
  split at hx
  · simp at hx; omega
  · split at hx
    · simp at hx; omega
    · split at hx
      · simp at hx; omega
      · simp at hx; omega
theorem sizeN_rng (r : Int) : 1 ≤ sizeN r ∧ sizeN r ≤ 4 := by
  rw [sizeN_fix]
  split
  · omega
  · split
    · omega
    · split <;> omega
def encN (l : List Int) : List Int := l.flatMap putN
theorem encN_rng (l : List Int) : ∀ x ∈ encN l, 0 ≤ x ∧ x ≤ 255 := by
  intro x hx
  obtain ⟨r, _, h⟩ := List.mem_flatMap.1 hx
  exact putN_rng r x h
theorem encN_len (l : List Int) : (encN l).length ≤ 4 * l.length := by
  induction l with
  | nil => simp [encN]
  | cons r l ih =>
    have : encN (r :: l) = putN r ++ encN l := rfl
    rw [this, List.length_append, putN_len, List.length_cons]
    have := (sizeN_rng r).2
    omega
theorem encN_pos {l : List Int} (h : l ≠ []) : 1 ≤ (encN l).length := by
  cases l with
  | nil => exact absurd rfl h
  | cons r l =>
    have : encN (r :: l) = putN r ++ encN l := rfl
    rw [this, List.length_append, putN_len]
    have := (sizeN_rng r).1
    omega
def put (r : Int) : ByteArray := strOfNums (putN r)
def enc (l : List Int) : ByteArray := strOfNums (encN l)
theorem put_size (r : Int) : (put r).size = sizeN r := by unfold put; rw [strOfNums_size, putN_len]
theorem enc_size (l : List Int) : (enc l).size = (encN l).length := strOfNums_size _
theorem nums_append (a b : List Int) : strOfNums (a ++ b) = strOfNums a ++ strOfNums b := by
  apply ByteArray.ext
  rw [ByteArray.data_append]
  apply Array.ext'
  rw [Array.toList_append, strOfNums_data, strOfNums_data, strOfNums_data, List.map_append]

section
variable (R : List Rw)
def wideB (r : Int) : Bool := decide (ofA R 7 r = 1)
def hitB (c0 : Int) (i : Nat) (r : Int) : Bool := wideB R r || ((decide (r = 65039) && decide (0 < i)) && (tabOf R).p c0) || ((decide (i = 1) && decide ((tabOf R).b r = 6)) && decide ((tabOf R).b c0 = 6))
def hitsF (c0 : Int) : Nat → List Int → Bool
  | _, [] => false
  | i, r :: l => hitB R c0 i r || hitsF c0 (i + 1) l
/-- how many columns a cluster takes -/
def widN (c : List Int) : Nat := if hitsF R (c.headD 0) 0 c then 2 else 1
def hit1 (c0 : Int) (i : Nat) (r : Int) : Bool := wideB R r || ((decide (r = 65039) && decide (0 < i)) && (tabOf R).p c0)
def hits1 (c0 : Int) : Nat → List Int → Bool
  | _, [] => false
  | i, r :: l => hit1 R c0 i r || hits1 c0 (i + 1) l
def flags2 : List Int → Bool
  | a :: b :: _ => decide ((tabOf R).b a = 6) && decide ((tabOf R).b b = 6)
  | _ => false
theorem hitsF_far (c0 : Int) : ∀ (l : List Int) (i : Nat), 2 ≤ i → hitsF R c0 i l = hits1 R c0 i l
  | [], _, _ => rfl
  | r :: l, i, h => by
    show (hitB R c0 i r || hitsF R c0 (i + 1) l) = (hit1 R c0 i r || hits1 R c0 (i + 1) l)
    rw [hitsF_far c0 l (i + 1) (by omega)]
    have : decide (i = 1) = false := decide_eq_false (by omega)
    unfold hitB hit1
    rw [this, Bool.false_and, Bool.false_and, Bool.or_false]
theorem widN_ref (c : List Int) : widN R c = if hits1 R (c.headD 0) 0 c || flags2 R c then 2 else 1 := by
  unfold widN
  have key : hitsF R (c.headD 0) 0 c = (hits1 R (c.headD 0) 0 c || flags2 R c) := by
    match c with
    | [] => rfl
    | [a] => simp [hitsF, hits1, hitB, hit1, flags2]
    | a :: b :: l =>
      show (hitB R a 0 a || (hitB R a 1 b || hitsF R a 2 l)) = ((hit1 R a 0 a || (hit1 R a 1 b || hits1 R a 2 l)) || (decide ((tabOf R).b a = 6) && decide ((tabOf R).b b = 6)))
      rw [hitsF_far R a l 2 (Nat.le_refl _)]
      have h0 : hitB R a 0 a = hit1 R a 0 a := by simp [hitB, hit1]
      have h1 : hitB R a 1 b = (hit1 R a 1 b || (decide ((tabOf R).b b = 6) && decide ((tabOf R).b a = 6))) := by simp [hitB, hit1]
      rw [h0, h1]
      cases hit1 R a 0 a <;> cases hit1 R a 1 b <;> cases hits1 R a 2 l <;> cases decide ((tabOf R).b a = 6) <;> cases decide ((tabOf R).b b = 6) <;> rfl
  rw [key]
theorem widN_rng (c : List Int) : widN R c = 1 ∨ widN R c = 2 := by
  unfold widN
  split
  · exact .inr rfl
  · exact .inl rfl
/-- step by step: the program's loop -/
theorem hitsF_step {c0 : Int} {c : List Int} {i : Nat} {r : Int} (h : c[i]? = some r) : hitsF R c0 i (c.drop i) = (hitB R c0 i r || hitsF R c0 (i + 1) (c.drop (i + 1))) := by
  rw [drop_of_get h]; rfl
theorem hits1_step {c0 : Int} {c : List Int} {i : Nat} {r : Int} (h : c[i]? = some r) : hits1 R c0 i (c.drop i) = (hit1 R c0 i r || hits1 R c0 (i + 1) (c.drop (i + 1))) := by
  rw [drop_of_get h]; rfl

/-- a glyph: its text, its columns -/
abbrev Gy := ByteArray × Int
def gyE (g : Gy) : List Value := [.string g.1, .int .i64 g.2]
theorem gyE_len (g : Gy) : (gyE g).length = 2 := rfl
theorem gyE_one (g : Gy) : ∀ u ∈ gyE g, u.oneCell' = true := by intro u hu; simp [gyE] at hu; rcases hu with rfl | rfl <;> rfl
theorem gyE_ones (l : List Gy) : ∀ u ∈ l.flatMap gyE, u.oneCell' = true := by
  intro u hu
  obtain ⟨x, _, hx⟩ := List.mem_flatMap.1 hu
  exact gyE_one x u hx
/-- how a scalar that controls is shown -/
def caretG (r : Int) : List Gy := if 0 ≤ r ∧ r < 32 then [(⟨#[94]⟩, 1), (strOfNums [r + 64], 1)] else if r = 127 then [(⟨#[94]⟩, 1), (⟨#[63]⟩, 1)] else [(put 65533, 1)]
def ctlB (b : Int) : Bool := decide (b = 1) || decide (b = 2) || decide (b = 3)
def dotB (b : Int) : Bool := decide (b = 4) || decide (b = 5) || decide (b = 8)
/-- a cluster with what it leans on -/
def lean (c : List Int) : List Int := (if dotB ((tabOf R).b (c.headD 0)) then [9676] else []) ++ c ++ (if (tabOf R).b (c.getLastD 0) = 7 then [9676] else [])
/-- how a cluster is shown -/
def glOf (c : List Int) : List Gy := if c = [] then [] else if ctlB ((tabOf R).b (c.headD 0)) then c.flatMap caretG else [(enc (lean R c), (widN R (lean R c) : Int))]
theorem caretG_len (r : Int) : 1 ≤ (caretG r).length ∧ (caretG r).length ≤ 2 := by
  unfold caretG
  split
  · exact ⟨by simp, by simp⟩
  · split <;> exact ⟨by simp, by simp⟩
theorem carets_len (c : List Int) : c.length ≤ (c.flatMap caretG).length ∧ (c.flatMap caretG).length ≤ 2 * c.length := by
  induction c with
  | nil => exact ⟨Nat.le_refl _, Nat.le_refl _⟩
  | cons r c ih =>
    rw [List.flatMap_cons, List.length_append, List.length_cons]
    have := caretG_len r
    omega
theorem glOf_len {c : List Int} (h : c ≠ []) : 1 ≤ (glOf R c).length ∧ (glOf R c).length ≤ 2 * c.length := by
  have hl : 1 ≤ c.length := List.length_pos_iff.2 h
  unfold glOf
  rw [if_neg h]
  split
  · have := carets_len c; omega
  · exact ⟨Nat.le_refl _, by simp; omega⟩
theorem glOf_le (c : List Int) : (glOf R c).length ≤ 2 * c.length := by
  by_cases h : c = []
  · subst h; exact Nat.le_refl _
  · exact (glOf_len R h).2
theorem lean_ne {c : List Int} (h : c ≠ []) : lean R c ≠ [] := by
  unfold lean
  simp [h]
theorem lean_len (c : List Int) : (lean R c).length ≤ c.length + 2 := by
  unfold lean
  rw [List.length_append, List.length_append]
  split <;> split <;> simp <;> omega
/-- of any glyph that is shown: one column or two, and a text -/
theorem glOf_ok {c : List Int} : ∀ g ∈ glOf R c, (g.2 = 1 ∨ g.2 = 2) ∧ 1 ≤ g.1.size := by
  intro g hg
  unfold glOf at hg
  split at hg
  · simp at hg
  · rename_i h
    split at hg
    · obtain ⟨r, _, h2⟩ := List.mem_flatMap.1 hg
      unfold caretG at h2
      split at h2
      · simp at h2
        rcases h2 with rfl | rfl
        · exact ⟨.inl rfl, by decide⟩
        · exact ⟨.inl rfl, by rw [strOfNums_size]; exact Nat.le_refl _⟩
      · split at h2
        · simp at h2
          rcases h2 with rfl | rfl <;> exact ⟨.inl rfl, by decide⟩
        · simp at h2
          subst h2
          exact ⟨.inl rfl, by show 1 ≤ (put 65533).size; rw [put_size]; exact (sizeN_rng _).1⟩
    · simp at hg
      subst hg
      refine ⟨?_, by show 1 ≤ (enc (lean R c)).size; rw [enc_size]; exact encN_pos (lean_ne R h)⟩
      rcases widN_rng R (lean R c) with h1 | h1
      · exact .inl (by show ((widN R (lean R c) : Nat) : Int) = 1; rw [h1]; rfl)
      · exact .inr (by show ((widN R (lean R c) : Nat) : Int) = 2; rw [h1]; rfl)
/-- the glyphs of clusters, one behind the other, and how many stand ahead of each -/
def lineG (LL : List (List Int)) : List Gy := LL.flatMap (glOf R)
def aheadG (LL : List (List Int)) (k : Nat) : Nat := (lineG R (LL.take k)).length
theorem lineG_snoc (LL : List (List Int)) (c : List Int) : lineG R (LL ++ [c]) = lineG R LL ++ glOf R c := by
  unfold lineG; rw [List.flatMap_append]; simp
theorem aheadG_zero (LL : List (List Int)) : aheadG R LL 0 = 0 := by simp [aheadG, lineG]
theorem aheadG_succ {LL : List (List Int)} {k : Nat} {c : List Int} (h : LL[k]? = some c) : aheadG R LL (k + 1) = aheadG R LL k + (glOf R c).length := by
  unfold aheadG
  rw [List.take_add_one, h]
  show (lineG R (LL.take k ++ [c])).length = _
  rw [lineG_snoc, List.length_append]
theorem aheadG_end (LL : List (List Int)) : aheadG R LL LL.length = (lineG R LL).length := by unfold aheadG; rw [List.take_length]
theorem lineG_ok {LL : List (List Int)} : ∀ g ∈ lineG R LL, (g.2 = 1 ∨ g.2 = 2) ∧ 1 ≤ g.1.size := by
  intro g hg
  obtain ⟨c, _, hc⟩ := List.mem_flatMap.1 hg
  exact glOf_ok R g hc
end
end Go.Proofs.YtkeainhjghdfcaaGreat

/- utf.Valid, Size; the document's Valid. -/
namespace Go.Proofs.YtkeainhjghdfcaaGreat
open Go.RowKit

set_option maxRecDepth 100000 in
set_option maxHeartbeats 2000000 in
theorem valid_any (r : Int) (w : World) : Calls Tryz.prog 197 #[.int .i32 r] w fun e w' => e = .returned (.bool (validB r)) ∧ w = w' := by
  by_cases h0 : r ≥ 0
  · by_cases h1 : r ≤ 1114111
    · by_cases h2 : r < 55296
      · rw [show validB r = true from validB_iff.2 (by omega)]
        go_enter Tryz.func197, Tryz.ntmps197
        go_wp2_with fail
        go_ret
        exact ⟨rfl, rfl⟩
      · have q2 : decide (r < 55296) = false := decide_eq_false h2
        by_cases h3 : r > 57343
        · rw [show validB r = true from validB_iff.2 (by omega)]
          clear h2
          go_enter Tryz.func197, Tryz.ntmps197
          go_wp2_with fail
          go_ret
          exact ⟨rfl, rfl⟩
        · have q3 : decide (r > 57343) = false := decide_eq_false h3
          rw [show validB r = false from by rw [Bool.eq_false_iff]; intro e; have := validB_iff.1 e; omega]
          clear h2 h3
          go_enter Tryz.func197, Tryz.ntmps197
          go_wp2_with fail
          go_ret
          exact ⟨rfl, rfl⟩
    · have q1 : decide (r ≤ 1114111) = false := decide_eq_false h1
      rw [show validB r = false from by rw [Bool.eq_false_iff]; intro e; have := validB_iff.1 e; omega]
      clear h1
      go_enter Tryz.func197, Tryz.ntmps197
      go_wp2_with fail
      go_ret
      exact ⟨rfl, rfl⟩
  · have q0 : decide (r ≥ 0) = false := decide_eq_false h0
    have q4 : decide (0 ≤ r) = false := decide_eq_false h0
    rw [show validB r = false from by rw [Bool.eq_false_iff]; intro e; have := validB_iff.1 e; omega]
    clear h0
    go_enter Tryz.func197, Tryz.ntmps197
    go_wp2_with fail
    go_ret
    exact ⟨rfl, rfl⟩
set_option maxRecDepth 100000 in
set_option maxHeartbeats 2000000 in
theorem rvalid_any (r : Int) (w : World) : Calls Tryz.prog 171 #[.int .i32 r] w fun e w' => e = .returned (.bool (validB r)) ∧ w = w' := by
  by_cases h0 : r ≥ 0
  · by_cases h2 : r < 55296
    · rw [show validB r = true from validB_iff.2 (by omega)]
      go_enter Tryz.func171, Tryz.ntmps171
      go_wp2_with fail
      go_ret
      exact ⟨rfl, rfl⟩
    · have q2 : decide (r < 55296) = false := decide_eq_false h2
      clear h2
      by_cases h3 : r > 57343
      · by_cases h1 : r ≤ 1114111
        · rw [show validB r = true from validB_iff.2 (by omega)]
          go_enter Tryz.func171, Tryz.ntmps171
          go_wp2_with fail
          go_ret
          exact ⟨rfl, rfl⟩
        · have q1 : decide (r ≤ 1114111) = false := decide_eq_false h1
          rw [show validB r = false from by rw [Bool.eq_false_iff]; intro e; have := validB_iff.1 e; omega]
          clear h1
          go_enter Tryz.func171, Tryz.ntmps171
          go_wp2_with fail
          go_ret
          exact ⟨rfl, rfl⟩
      · have q3 : decide (r > 57343) = false := decide_eq_false h3
        have q5 : decide (57343 < r) = false := decide_eq_false h3
        have q2' := of_decide_eq_false q2
        rw [show validB r = false from by rw [Bool.eq_false_iff]; intro e; have := validB_iff.1 e; omega]
        clear h3 q2'
        go_enter Tryz.func171, Tryz.ntmps171
        go_wp2_with fail
        go_ret
        exact ⟨rfl, rfl⟩
  · have q0 : decide (r ≥ 0) = false := decide_eq_false h0
    have q4 : decide (0 ≤ r) = false := decide_eq_false h0
    have q3 : decide (r > 57343) = false := decide_eq_false (by omega)
    have q5 : decide (57343 < r) = false := decide_eq_false (by omega)
    rw [show validB r = false from by rw [Bool.eq_false_iff]; intro e; have := validB_iff.1 e; omega]
    clear h0
    go_enter Tryz.func171, Tryz.ntmps171
    go_wp2_with fail
    go_ret
    exact ⟨rfl, rfl⟩
theorem size_of {r : Int} {n : Int} (h : ((sizeN r : Nat) : Int) = n) {w w' : World} (hw : w = w') : Ending.returned (.int .i64 n) = .returned (.int .i64 ((sizeN r : Nat) : Int)) ∧ w = w' := ⟨by rw [h], hw⟩
set_option maxRecDepth 100000 in
set_option maxHeartbeats 2000000 in
theorem usize_any (r : Int) (w : World) : Calls Tryz.prog 198 #[.int .i32 r] w fun e w' => e = .returned (.int .i64 ((sizeN r : Nat) : Int)) ∧ w = w' := by
  have HV := Lib.hid (valid_any r w)
  by_cases hv : validB r = true
  · have hr := validB_iff.1 hv
    rw [hv] at HV
    have HS := Lib.hid (show sizeN r = (if r < 128 then 1 else if r < 2048 then 2 else if r < 65536 then 3 else 4) by unfold sizeN; rw [if_pos hv])
    clear hv
    by_cases h1 : r < 128
    · go_enter Tryz.func198, Tryz.ntmps198
      go_wp2_with fail
      refine HV.out.mono ?_
      rintro e w' ⟨rfl, rfl⟩
      go_wp2_with fail
      go_ret
      exact size_of (by rw [HS.out, if_pos h1]; rfl) rfl
    · have q1 : decide (r < 128) = false := decide_eq_false h1
      by_cases h2 : r < 2048
      · have HS2 := Lib.hid (show ((sizeN r : Nat) : Int) = 2 by rw [HS.out, if_neg h1, if_pos h2]; rfl)
        clear h1
        go_enter Tryz.func198, Tryz.ntmps198
        go_wp2_with fail
        refine HV.out.mono ?_
        rintro e w' ⟨rfl, rfl⟩
        go_wp2_with fail
        go_ret
        exact size_of HS2.out rfl
      · have q2 : decide (r < 2048) = false := decide_eq_false h2
        by_cases h3 : r < 65536
        · have HS2 := Lib.hid (show ((sizeN r : Nat) : Int) = 3 by rw [HS.out, if_neg h1, if_neg h2, if_pos h3]; rfl)
          clear h1 h2
          go_enter Tryz.func198, Tryz.ntmps198
          go_wp2_with fail
          refine HV.out.mono ?_
          rintro e w' ⟨rfl, rfl⟩
          go_wp2_with fail
          go_ret
          exact size_of HS2.out rfl
        · have q3 : decide (r < 65536) = false := decide_eq_false h3
          have HS2 := Lib.hid (show ((sizeN r : Nat) : Int) = 4 by rw [HS.out, if_neg h1, if_neg h2, if_neg h3]; rfl)
          clear h1 h2 h3
          go_enter Tryz.func198, Tryz.ntmps198
          go_wp2_with fail
          refine HV.out.mono ?_
          rintro e w' ⟨rfl, rfl⟩
          go_wp2_with fail
          go_ret
          exact size_of HS2.out rfl
  · have hv' : validB r = false := Bool.eq_false_iff.2 hv
    have HS2 := Lib.hid (show ((sizeN r : Nat) : Int) = 3 by unfold sizeN; rw [if_neg hv]; rfl)
    rw [hv'] at HV
    clear hv hv'
    go_enter Tryz.func198, Tryz.ntmps198
    go_wp2_with fail
    refine HV.out.mono ?_
    rintro e w' ⟨rfl, rfl⟩
    go_wp2_with fail
    go_ret
    exact size_of HS2.out rfl
end Go.Proofs.YtkeainhjghdfcaaGreat

/- The document's Put; bytes turned to a string. -/
namespace Go.Proofs.YtkeainhjghdfcaaGreat
open Go.RowKit

theorem conv_new (w : World) (xs : List Int) (cs : Array Value) (hc : cs.toList = xs.map (Value.int .u8)) (n : Nat) (hn : xs.length = n) :
    (convert 233 9 (.slice (some ⟨w.heap.size, 0, none⟩) n n)).run Tryz.prog (w.alloc (.cells cs 5)) = .ok (.string (strOfNums xs)) (w.alloc (.cells cs 5)) := by
  refine run_convert_bytes_arg (P := Tryz.prog) (w.alloc (.cells cs 5)) 233 5 Tryz.underlying233 Tryz.underlying5 w.heap.size 0 n n xs hn (fun i hi => ?_) 9 Tryz.underlying9
  rw [Nat.zero_add, cell_of_row _ w.heap.size i cs 5 (0, 0) (heap_alloc_new w _), ← Array.getElem?_toList, hc]
  have hl : i < xs.length := by omega
  simp [List.getElem?_eq_getElem hl]
def PutPost (r : Int) (w : World) (e : Ending) (w' : World) : Prop := e = .returned (.string (put r)) ∧ Below w.heap.size w w'
theorem put_of {r : Int} {xs : List Int} (h : putN r = xs) {w w' : World} (hB : Below w.heap.size w w') : Ending.returned (.string (strOfNums xs)) = .returned (.string (put r)) ∧ Below w.heap.size w w' := by
  unfold put
  rw [h]
  exact ⟨rfl, hB⟩
theorem below1' (w : World) (o : Obj) : Below w.heap.size w (w.alloc o) := (Below.refl _ w).alloc (Nat.le_refl _) o
theorem quo_in (x y : Int) (h : 0 ≤ x) : x.tdiv y = x / y := Int.tdiv_eq_ediv_of_nonneg h
set_option maxRecDepth 100000 in
set_option maxHeartbeats 4000000 in
theorem rput_any (r : Int) (w : World) : Calls Tryz.prog 126 #[.int .i32 r] w fun e w' => e = .returned (.string (put r)) ∧ Below w.heap.size w w' := by
  have HV := Lib.hid (rvalid_any r w)
  have hf := fixR_rng r
  obtain ⟨n, hn⟩ : ∃ n, n = fixR r := ⟨_, rfl⟩
  have HP := Lib.hid (show putN r = if n < 128 then [n] else if n < 2048 then [192 + n / 64, 128 + n % 64] else if n < 65536 then [224 + n / 4096, 128 + n / 64 % 64, 128 + n % 64] else [240 + n / 262144, 128 + n / 4096 % 64, 128 + n / 64 % 64, 128 + n % 64] by unfold putN; rw [hn])
  rw [← hn] at hf
  have hw : IntKind.i64.wrap r = r ∨ validB r = false := by
    by_cases h : validB r = true
    · have := validB_iff.1 h
      exact .inl (IntWalk.i64_in r (by omega))
    · exact .inr (Bool.eq_false_iff.2 h)
  have hn2 : (validB r = true ∧ IntKind.i64.wrap r = n) ∨ (validB r = false ∧ 65533 = n) := by
    by_cases h : validB r = true
    · exact .inl ⟨h, by rw [hn, fixR_ok h]; rcases hw with h1 | h1; exact h1; rw [h] at h1; cases h1⟩
    · have h' := Bool.eq_false_iff.2 h
      exact .inr ⟨h', by rw [hn, fixR_bad h']⟩
  clear hn hw
  have HF := Lib.hid hf
  rcases hn2 with ⟨h1, h2⟩ | ⟨h1, h2⟩
  case' inl =>
    rw [h1] at HV
    clear h1
    go_enter Tryz.func126, Tryz.ntmps126
    go_wp2_with fail
    refine HV.out.mono ?_
    rintro e w' ⟨rfl, rfl⟩
    go_upto_region 4 with fail
  case' inr =>
    rw [h1] at HV
    clear h1
    go_enter Tryz.func126, Tryz.ntmps126
    go_wp2_with fail
    refine HV.out.mono ?_
    rintro e w' ⟨rfl, rfl⟩
    go_upto_region 4 with fail
  case' inr => rw [h2]
  all_goals
    obtain ⟨f0, f1⟩ := HF.out
    clear h2 hf
    by_cases c1 : n < 128
    · have u1 := IntWalk.u8_in n (by omega)
      have cv := conv_new w [n] #[.int .u8 n] rfl 1 rfl
      have HE := Lib.hid (show putN r = [n] by rw [HP.out, if_pos c1])
      clear f0 f1
      go_wp2_with fail
      go_ret
      exact put_of HE.out (below1' _ _)
    · have q1 : decide (n < 128) = false := decide_eq_false c1
      have hd1 := quo_in n 64 f0
      have hm1 := IntWalk.rem_in n 64 f0
      have hi1 := IntWalk.i64_in (n / 64) (by omega)
      have hi2 := IntWalk.i64_in (192 + n / 64) (by omega)
      have hi3 := IntWalk.i64_in (128 + n % 64) (by omega)
      have hi4 := IntWalk.i64_in (n % 64) (by omega)
      by_cases c2 : n < 2048
      · have u1 := IntWalk.u8_in (192 + n / 64) (by omega)
        have u2 := IntWalk.u8_in (128 + n % 64) (by omega)
        have cv := conv_new w [192 + n / 64, 128 + n % 64] #[.int .u8 (192 + n / 64), .int .u8 (128 + n % 64)] rfl 2 rfl
        have HE := Lib.hid (show putN r = [192 + n / 64, 128 + n % 64] by rw [HP.out, if_neg c1, if_pos c2])
        clear f0 f1 c1
        go_wp2_with fail
        go_ret
        exact put_of HE.out (below1' _ _)
      · have q2 : decide (n < 2048) = false := decide_eq_false c2
        have hd2 := quo_in n 4096 f0
        have hm2 := IntWalk.rem_in (n / 64) 64 (by omega)
        have hj1 := IntWalk.i64_in (n / 4096) (by omega)
        have hj2 := IntWalk.i64_in (224 + n / 4096) (by omega)
        have hj3 := IntWalk.i64_in (n / 64 % 64) (by omega)
        have hj4 := IntWalk.i64_in (128 + n / 64 % 64) (by omega)
        have u1 := IntWalk.u8_in (128 + n % 64) (by omega)
        have u2 := IntWalk.u8_in (128 + n / 64 % 64) (by omega)
        by_cases c3 : n < 65536
        · have u3 := IntWalk.u8_in (224 + n / 4096) (by omega)
          have cv := conv_new w [224 + n / 4096, 128 + n / 64 % 64, 128 + n % 64] #[.int .u8 (224 + n / 4096), .int .u8 (128 + n / 64 % 64), .int .u8 (128 + n % 64)] rfl 3 rfl
          have HE := Lib.hid (show putN r = [224 + n / 4096, 128 + n / 64 % 64, 128 + n % 64] by rw [HP.out, if_neg c1, if_neg c2, if_pos c3])
          clear f0 f1 c1 c2
          go_wp2_with fail
          go_ret
          exact put_of HE.out (below1' _ _)
        · have q3 : decide (n < 65536) = false := decide_eq_false c3
          have hd3 := quo_in n 262144 f0
          have hm3 := IntWalk.rem_in (n / 4096) 64 (by omega)
          have hk1 := IntWalk.i64_in (n / 262144) (by omega)
          have hk2 := IntWalk.i64_in (240 + n / 262144) (by omega)
          have hk3 := IntWalk.i64_in (n / 4096 % 64) (by omega)
          have hk4 := IntWalk.i64_in (128 + n / 4096 % 64) (by omega)
          have u3 := IntWalk.u8_in (128 + n / 4096 % 64) (by omega)
          have u4 := IntWalk.u8_in (240 + n / 262144) (by omega)
          have cv := conv_new w [240 + n / 262144, 128 + n / 4096 % 64, 128 + n / 64 % 64, 128 + n % 64] #[.int .u8 (240 + n / 262144), .int .u8 (128 + n / 4096 % 64), .int .u8 (128 + n / 64 % 64), .int .u8 (128 + n % 64)] rfl 4 rfl
          have HE := Lib.hid (show putN r = [240 + n / 262144, 128 + n / 4096 % 64, 128 + n / 64 % 64, 128 + n % 64] by rw [HP.out, if_neg c1, if_neg c2, if_neg c3])
          clear f0 f1 c1 c2 c3
          go_wp2_with fail
          go_ret
          exact put_of HE.out (below1' _ _)
end Go.Proofs.YtkeainhjghdfcaaGreat

/- utf.Put. -/
namespace Go.Proofs.YtkeainhjghdfcaaGreat
open Go.RowKit

theorem make_u8 (w : World) (n : Nat) (hn : n ≤ 8) (cs : Array Value) (hc : madeCells #[.int .u8 0] n = cs) : (Instr.makeSlice 233 (.int .i64 (n : Int)) (.int .i64 (n : Int))).run Tryz.prog w = .ok (.slice (some ⟨w.heap.size, 0, none⟩) n n) (w.alloc (.cells cs 5)) := by
  obtain ⟨i, hi, hz, hs, hb⟩ := info_parts (show (Tryz.prog.info? 5).map (fun i => (i.zero, i.size, i.bytes)) = some (some (.int .u8 0), 1, 1) by kernel_rfl)
  have := run_make (P := Tryz.prog) w 233 5 i (.int .u8 0) Tryz.underlying233 hi hz .i64 .i64 (n : Int) (n : Int) (by omega) (by omega) (by rw [hb]; omega) (by omega)
  rw [hs, Nat.mul_one, Int.toNat_natCast] at this
  rw [this]
  show _ = Result.ok _ (w.alloc (.cells cs 5))
  rw [← hc]
  rfl
theorem and63 (n : Int) (_ : 0 ≤ n) (_ : n ≤ 2147483647) : bits .and .i32 n 63 = n % 64 := by
  have key : (BitVec.ofInt 32 n &&& BitVec.ofInt 32 63).toNat = (n % ((2 ^ 32 : Nat) : Int)).toNat % 64 := by
    rw [BitVec.toNat_and, BitVec.toNat_ofInt, show (BitVec.ofInt 32 63).toNat = 2 ^ 6 - 1 by decide, Nat.and_two_pow_sub_one_eq_mod]
  show IntKind.i32.wrap ((BitVec.ofInt 32 n &&& BitVec.ofInt 32 63).toNat : Nat) = _
  rw [key, IntKind.wrap_i32]
  omega
theorem or128 (n : Int) : bits .or .i32 128 (n % 64) = 128 + n % 64 := by
  have key : ∀ x : Fin 64, bits .or .i32 128 ((x.val : Nat) : Int) = 128 + ((x.val : Nat) : Int) := by decide
  have := key ⟨(n % 64).toNat, by omega⟩
  rwa [show (((n % 64).toNat : Nat) : Int) = n % 64 by omega] at this
theorem or192 (n : Int) (h0 : 0 ≤ n) (h1 : n < 32) : bits .or .u8 192 n = 192 + n := by
  have key : ∀ x : Fin 32, bits .or .u8 192 ((x.val : Nat) : Int) = 192 + ((x.val : Nat) : Int) := by decide
  have := key ⟨n.toNat, by omega⟩
  rwa [show ((n.toNat : Nat) : Int) = n by omega] at this
theorem or224 (n : Int) (h0 : 0 ≤ n) (h1 : n < 16) : bits .or .u8 224 n = 224 + n := by
  have key : ∀ x : Fin 16, bits .or .u8 224 ((x.val : Nat) : Int) = 224 + ((x.val : Nat) : Int) := by decide
  have := key ⟨n.toNat, by omega⟩
  rwa [show ((n.toNat : Nat) : Int) = n by omega] at this
theorem or240 (n : Int) (h0 : 0 ≤ n) (h1 : n < 8) : bits .or .u8 240 n = 240 + n := by
  have key : ∀ x : Fin 8, bits .or .u8 240 ((x.val : Nat) : Int) = 240 + ((x.val : Nat) : Int) := by decide
  have := key ⟨n.toNat, by omega⟩
  rwa [show ((n.toNat : Nat) : Int) = n by omega] at this
theorem conv_row (W : World) (b : Nat) (xs : List Int) (cs : Array Value) (h : W.heap[b]? = some (.cells cs 5 (0, 0))) (hc : cs.toList = xs.map (Value.int .u8)) (n : Nat) (hn : xs.length = n) :
    (convert 233 9 (.slice (some ⟨b, 0, none⟩) n n)).run Tryz.prog W = .ok (.string (strOfNums xs)) W := by
  refine run_convert_bytes_arg (P := Tryz.prog) W 233 5 Tryz.underlying233 Tryz.underlying5 b 0 n n xs hn (fun i hi => ?_) 9 Tryz.underlying9
  rw [Nat.zero_add, cell_of_row _ b i cs 5 (0, 0) h, ← Array.getElem?_toList, hc]
  have hl : i < xs.length := by omega
  simp [List.getElem?_eq_getElem hl]
theorem row_cells' {w : World} {b : Nat} {cs : Array Value} {t : TypeId} (h : w.heap[b]? = some (.cells cs t (0, 0))) {i : Nat} {v : Value} (hi : cs[i]? = some v) : w.cell? ⟨b, i, none⟩ = some v := by
  rw [cell_of_row _ b i cs t (0, 0) h]; exact hi
theorem row_warm' {w : World} {b : Nat} {cs : Array Value} {t : TypeId} (h : w.heap[b]? = some (.cells cs t (0, 0))) (i : Nat) : w.frozen? ⟨b, i, none⟩ = false := by
  unfold World.frozen?; rw [show w.heap[(⟨b, i, none⟩ : Addr).block]? = _ from h]; simp
def shN (n : Int) : Nat → Int
  | 0 => n
  | 1 => n / 64
  | 2 => n / 4096
  | _ => n / 262144
def putCs (n : Int) : Nat → Nat → Array Value
  | 2, 0 => #[.int .u8 0, .int .u8 0]
  | 2, _ => #[.int .u8 0, .int .u8 (128 + n % 64)]
  | 3, 0 => #[.int .u8 0, .int .u8 0, .int .u8 0]
  | 3, 1 => #[.int .u8 0, .int .u8 0, .int .u8 (128 + n % 64)]
  | 3, _ => #[.int .u8 0, .int .u8 (128 + n / 64 % 64), .int .u8 (128 + n % 64)]
  | _, 0 => #[.int .u8 0, .int .u8 0, .int .u8 0, .int .u8 0]
  | _, 1 => #[.int .u8 0, .int .u8 0, .int .u8 0, .int .u8 (128 + n % 64)]
  | _, 2 => #[.int .u8 0, .int .u8 0, .int .u8 (128 + n / 64 % 64), .int .u8 (128 + n % 64)]
  | _, _ => #[.int .u8 0, .int .u8 (128 + n / 4096 % 64), .int .u8 (128 + n / 64 % 64), .int .u8 (128 + n % 64)]
set_option maxRecDepth 100000 in
set_option maxHeartbeats 1000000 in
theorem put_any (r : Int) (w : World) : Calls Tryz.prog 182 #[.int .i32 r] w fun e w' => e = .returned (.string (put r)) ∧ Below w.heap.size w w' := by
  have HV := Lib.hid (valid_any r w)
  obtain ⟨n, hn⟩ : ∃ n, n = fixR r := ⟨_, rfl⟩
  have hf := fixR_rng r
  have HP := Lib.hid (show putN r = if n < 128 then [n] else if n < 2048 then [192 + n / 64, 128 + n % 64] else if n < 65536 then [224 + n / 4096, 128 + n / 64 % 64, 128 + n % 64] else [240 + n / 262144, 128 + n / 4096 % 64, 128 + n / 64 % 64, 128 + n % 64] by unfold putN; rw [hn])
  have hsz : sizeN n = if n < 128 then 1 else if n < 2048 then 2 else if n < 65536 then 3 else 4 := by
    rw [sizeN_fix]
    have : fixR n = n := by
      rw [hn]
      by_cases h : validB r = true
      · rw [fixR_ok h, fixR_ok h]
      · rw [fixR_bad (Bool.eq_false_iff.2 h)]; exact fixR_ok (validB_iff.2 (by omega))
    rw [this]
  have HS := Lib.hid (usize_any n w)
  rw [← hn] at hf
  have hn2 : (validB r = true ∧ n = r) ∨ (validB r = false ∧ n = 65533) := by
    by_cases h : validB r = true
    · exact .inl ⟨h, by rw [hn, fixR_ok h]⟩
    · have h' := Bool.eq_false_iff.2 h
      exact .inr ⟨h', by rw [hn, fixR_bad h']⟩
  have HF := Lib.hid hf
  have HZ := Lib.hid hsz
  clear hn hf hsz
  rcases hn2 with ⟨h1, h2⟩ | ⟨h1, h2⟩
  case' inl =>
    rw [h1] at HV
    subst h2
    clear h1
    go_enter Tryz.func182, Tryz.ntmps182
    go_wp2_with fail
    refine HV.out.mono ?_
    rintro e w' ⟨rfl, rfl⟩
    go_upto_region 3 with fail
  case' inr =>
    rw [h1] at HV
    clear h1
    go_enter Tryz.func182, Tryz.ntmps182
    go_wp2_with fail
    refine HV.out.mono ?_
    rintro e w' ⟨rfl, rfl⟩
    go_upto_region 3 with fail
    rw [← h2]
    clear h2
  all_goals
    clear HV
    go_wp2_with fail
    refine HS.out.mono ?_
    rintro e w' ⟨rfl, rfl⟩
    obtain ⟨f0, f1⟩ := HF.out
    have hz := HZ.out
    by_cases c1 : n < 128
    · rw [if_pos c1] at hz
      rw [hz]
      have u1 := IntWalk.u8_in n (by omega)
      have cv := conv_new w [n] #[.int .u8 n] rfl 1 rfl
      have HE := Lib.hid (show putN _ = [n] by rw [HP.out, if_pos c1])
      clear f0 f1 hz HS c1
      go_wp2_with fail
      go_ret
      exact put_of HE.out (below1' _ _)
    · by_cases c2 : n < 2048
      · rw [if_neg c1, if_pos c2] at hz
        rw [hz]
        have HE := Lib.hid (show putN _ = [192 + n / 64, 128 + n % 64] by rw [HP.out, if_neg c1, if_pos c2])
        clear hz c1 HS
        have mk : (Instr.makeSlice 233 (.int .i64 2) (.int .i64 2)).run Tryz.prog w = .ok (.slice (some ⟨w.heap.size, 0, none⟩) 2 2) (w.alloc (.cells #[.int .u8 0, .int .u8 0] 5)) := make_u8 w 2 (by decide) _ (by kernel_rfl)
        have hr0 := heap_alloc_new w (.cells #[.int .u8 0, .int .u8 0] 5)
        have HB0 := Lib.hid (below1' w (.cells #[.int .u8 0, .int .u8 0] 5))
        go_wp2_with fail
        generalize w.alloc (.cells #[.int .u8 0, .int .u8 0] 5) = w0 at hr0 HB0 ⊢
        clear mk
        go_loopw [0, 5] (fun rv iv wr => ∃ k : Nat, k ≤ 1 ∧ rv = .int .i32 (shN n k) ∧ iv = .int .i64 ((1 - k : Nat) : Int) ∧ wr.heap[w.heap.size]? = some (.cells (putCs n 2 k) 5 (0, 0)) ∧ Below w.heap.size w wr) (fun _ iv _ => (intOf iv).toNat)
        case atStart => exact ⟨0, by decide, rfl, rfl, hr0, HB0.out⟩
        case round =>
          obtain ⟨k, hk, rfl, rfl, hr, hB⟩ := hrel
          have HR := Lib.hid hr
          have HB := Lib.hid hB
          have hk2 : k = 0 ∨ k = 1 := by omega
          clear hB hr0 HB0
          rcases hk2 with rfl | rfl
          · have c1 : wr.cell? ⟨w.heap.size, 1, none⟩ = some (.int .u8 0) := row_cells' hr rfl
            have f1 := row_warm' hr 1
            have a1 := and63 (n) (by omega) (by omega)
            have a2 := or128 (n)
            have a3 : (128 + n % 64) % 256 = 128 + n % 64 := by omega
            clear hr hk
            simp only [shN]
            go_wp2_with fail
            go_roundw
            case rel => exact ⟨1, by decide, rfl, rfl, heap_setCell_same _ _ _ _ _ _ HR.out, HB.out.setCell (p := ⟨w.heap.size, 1, none⟩) (Nat.le_refl _) _⟩
            case measure => simp [intOf]
          · have c1 : wr.cell? ⟨w.heap.size, 0, none⟩ = some (.int .u8 0) := row_cells' hr rfl
            have f1 := row_warm' hr 0
            have a3 : n / 64 % 256 = n / 64 := by omega
            have a2 := or192 (n / 64) (by omega) (by omega)
            have cv := conv_row (wr.setCell ⟨w.heap.size, 0, none⟩ (.int .u8 (192 + n / 64))) w.heap.size [192 + n / 64, 128 + n % 64] _ (heap_setCell_same _ _ _ _ _ _ hr) rfl 2 rfl
            clear hr hk
            simp only [shN]
            go_wp2_with fail
            go_ret
            exact put_of HE.out (HB.out.setCell (p := ⟨w.heap.size, 0, none⟩) (Nat.le_refl _) _)
      · by_cases c3 : n < 65536
        · rw [if_neg c1, if_neg c2, if_pos c3] at hz
          rw [hz]
          have HE := Lib.hid (show putN _ = [224 + n / 4096, 128 + n / 64 % 64, 128 + n % 64] by rw [HP.out, if_neg c1, if_neg c2, if_pos c3])
          clear hz c1 c2 HS
          have mk : (Instr.makeSlice 233 (.int .i64 3) (.int .i64 3)).run Tryz.prog w = .ok (.slice (some ⟨w.heap.size, 0, none⟩) 3 3) (w.alloc (.cells #[.int .u8 0, .int .u8 0, .int .u8 0] 5)) := make_u8 w 3 (by decide) _ (by kernel_rfl)
          have hr0 := heap_alloc_new w (.cells #[.int .u8 0, .int .u8 0, .int .u8 0] 5)
          have HB0 := Lib.hid (below1' w (.cells #[.int .u8 0, .int .u8 0, .int .u8 0] 5))
          go_wp2_with fail
          generalize w.alloc (.cells #[.int .u8 0, .int .u8 0, .int .u8 0] 5) = w0 at hr0 HB0 ⊢
          clear mk
          go_loopw [0, 5] (fun rv iv wr => ∃ k : Nat, k ≤ 2 ∧ rv = .int .i32 (shN n k) ∧ iv = .int .i64 ((2 - k : Nat) : Int) ∧ wr.heap[w.heap.size]? = some (.cells (putCs n 3 k) 5 (0, 0)) ∧ Below w.heap.size w wr) (fun _ iv _ => (intOf iv).toNat)
          case atStart => exact ⟨0, by decide, rfl, rfl, hr0, HB0.out⟩
          case round =>
            obtain ⟨k, hk, rfl, rfl, hr, hB⟩ := hrel
            have HR := Lib.hid hr
            have HB := Lib.hid hB
            have hk2 : k = 0 ∨ k = 1 ∨ k = 2 := by omega
            clear hB hr0 HB0
            rcases hk2 with rfl | rfl | rfl
            · have c1 : wr.cell? ⟨w.heap.size, 2, none⟩ = some (.int .u8 0) := row_cells' hr rfl
              have f1 := row_warm' hr 2
              have a1 := and63 (n) (by omega) (by omega)
              have a2 := or128 (n)
              have a3 : (128 + n % 64) % 256 = 128 + n % 64 := by omega
              clear hr hk
              simp only [shN]
              go_wp2_with fail
              go_roundw
              case rel => exact ⟨1, by decide, rfl, rfl, heap_setCell_same _ _ _ _ _ _ HR.out, HB.out.setCell (p := ⟨w.heap.size, 2, none⟩) (Nat.le_refl _) _⟩
              case measure => simp [intOf]
            · have c1 : wr.cell? ⟨w.heap.size, 1, none⟩ = some (.int .u8 0) := row_cells' hr rfl
              have f1 := row_warm' hr 1
              have a1 := and63 (n / 64) (by omega) (by omega)
              have a2 := or128 (n / 64)
              have a3 : (128 + n / 64 % 64) % 256 = 128 + n / 64 % 64 := by omega
              have a4 : n / 64 / 64 = n / 4096 := by omega
              clear hr hk
              simp only [shN]
              go_wp2_with fail
              go_roundw
              case rel => exact ⟨2, by decide, rfl, rfl, heap_setCell_same _ _ _ _ _ _ HR.out, HB.out.setCell (p := ⟨w.heap.size, 1, none⟩) (Nat.le_refl _) _⟩
              case measure => simp [intOf]
            · have c1 : wr.cell? ⟨w.heap.size, 0, none⟩ = some (.int .u8 0) := row_cells' hr rfl
              have f1 := row_warm' hr 0
              have a3 : n / 4096 % 256 = n / 4096 := by omega
              have a2 := or224 (n / 4096) (by omega) (by omega)
              have cv := conv_row (wr.setCell ⟨w.heap.size, 0, none⟩ (.int .u8 (224 + n / 4096))) w.heap.size [224 + n / 4096, 128 + n / 64 % 64, 128 + n % 64] _ (heap_setCell_same _ _ _ _ _ _ hr) rfl 3 rfl
              clear hr hk
              simp only [shN]
              go_wp2_with fail
              go_ret
              exact put_of HE.out (HB.out.setCell (p := ⟨w.heap.size, 0, none⟩) (Nat.le_refl _) _)
        · rw [if_neg c1, if_neg c2, if_neg c3] at hz
          rw [hz]
          have HE := Lib.hid (show putN _ = [240 + n / 262144, 128 + n / 4096 % 64, 128 + n / 64 % 64, 128 + n % 64] by rw [HP.out, if_neg c1, if_neg c2, if_neg c3])
          clear hz c1 c2 c3 HS
          have mk : (Instr.makeSlice 233 (.int .i64 4) (.int .i64 4)).run Tryz.prog w = .ok (.slice (some ⟨w.heap.size, 0, none⟩) 4 4) (w.alloc (.cells #[.int .u8 0, .int .u8 0, .int .u8 0, .int .u8 0] 5)) := make_u8 w 4 (by decide) _ (by kernel_rfl)
          have hr0 := heap_alloc_new w (.cells #[.int .u8 0, .int .u8 0, .int .u8 0, .int .u8 0] 5)
          have HB0 := Lib.hid (below1' w (.cells #[.int .u8 0, .int .u8 0, .int .u8 0, .int .u8 0] 5))
          go_wp2_with fail
          generalize w.alloc (.cells #[.int .u8 0, .int .u8 0, .int .u8 0, .int .u8 0] 5) = w0 at hr0 HB0 ⊢
          clear mk
          go_loopw [0, 5] (fun rv iv wr => ∃ k : Nat, k ≤ 3 ∧ rv = .int .i32 (shN n k) ∧ iv = .int .i64 ((3 - k : Nat) : Int) ∧ wr.heap[w.heap.size]? = some (.cells (putCs n 4 k) 5 (0, 0)) ∧ Below w.heap.size w wr) (fun _ iv _ => (intOf iv).toNat)
          case atStart => exact ⟨0, by decide, rfl, rfl, hr0, HB0.out⟩
          case round =>
            obtain ⟨k, hk, rfl, rfl, hr, hB⟩ := hrel
            have HR := Lib.hid hr
            have HB := Lib.hid hB
            have hk2 : k = 0 ∨ k = 1 ∨ k = 2 ∨ k = 3 := by omega
            clear hB hr0 HB0
            rcases hk2 with rfl | rfl | rfl | rfl
            · have c1 : wr.cell? ⟨w.heap.size, 3, none⟩ = some (.int .u8 0) := row_cells' hr rfl
              have f1 := row_warm' hr 3
              have a1 := and63 (n) (by omega) (by omega)
              have a2 := or128 (n)
              have a3 : (128 + n % 64) % 256 = 128 + n % 64 := by omega
              clear hr hk
              simp only [shN]
              go_wp2_with fail
              go_roundw
              case rel => exact ⟨1, by decide, rfl, rfl, heap_setCell_same _ _ _ _ _ _ HR.out, HB.out.setCell (p := ⟨w.heap.size, 3, none⟩) (Nat.le_refl _) _⟩
              case measure => simp [intOf]
            · have c1 : wr.cell? ⟨w.heap.size, 2, none⟩ = some (.int .u8 0) := row_cells' hr rfl
              have f1 := row_warm' hr 2
              have a1 := and63 (n / 64) (by omega) (by omega)
              have a2 := or128 (n / 64)
              have a3 : (128 + n / 64 % 64) % 256 = 128 + n / 64 % 64 := by omega
              have a4 : n / 64 / 64 = n / 4096 := by omega
              clear hr hk
              simp only [shN]
              go_wp2_with fail
              go_roundw
              case rel => exact ⟨2, by decide, rfl, rfl, heap_setCell_same _ _ _ _ _ _ HR.out, HB.out.setCell (p := ⟨w.heap.size, 2, none⟩) (Nat.le_refl _) _⟩
              case measure => simp [intOf]
            · have c1 : wr.cell? ⟨w.heap.size, 1, none⟩ = some (.int .u8 0) := row_cells' hr rfl
              have f1 := row_warm' hr 1
              have a1 := and63 (n / 4096) (by omega) (by omega)
              have a2 := or128 (n / 4096)
              have a3 : (128 + n / 4096 % 64) % 256 = 128 + n / 4096 % 64 := by omega
              have a4 : n / 4096 / 64 = n / 262144 := by omega
              clear hr hk
              simp only [shN]
              go_wp2_with fail
              go_roundw
              case rel => exact ⟨3, by decide, rfl, rfl, heap_setCell_same _ _ _ _ _ _ HR.out, HB.out.setCell (p := ⟨w.heap.size, 1, none⟩) (Nat.le_refl _) _⟩
              case measure => simp [intOf]
            · have c1 : wr.cell? ⟨w.heap.size, 0, none⟩ = some (.int .u8 0) := row_cells' hr rfl
              have f1 := row_warm' hr 0
              have a3 : n / 262144 % 256 = n / 262144 := by omega
              have a2 := or240 (n / 262144) (by omega) (by omega)
              have cv := conv_row (wr.setCell ⟨w.heap.size, 0, none⟩ (.int .u8 (240 + n / 262144))) w.heap.size [240 + n / 262144, 128 + n / 4096 % 64, 128 + n / 64 % 64, 128 + n % 64] _ (heap_setCell_same _ _ _ _ _ _ hr) rfl 4 rfl
              clear hr hk
              simp only [shN]
              go_wp2_with fail
              go_ret
              exact put_of HE.out (HB.out.setCell (p := ⟨w.heap.size, 0, none⟩) (Nat.le_refl _) _)
end Go.Proofs.YtkeainhjghdfcaaGreat

/- Appending what lies anywhere; rows of scalars. -/
namespace Go.Proofs.YtkeainhjghdfcaaGreat
open Go.RowKit

/-- append of cells that lie anywhere. -/
theorem wpList_app2 {P : Program} (w : World) {ops : Array Oper} {rest : List Oper} {o : Oper} {act : Act} {Q : Exit → Act → World → Prop} (hgd : o.guard = none) (s x : Operand) (t : TypeId)
    (ho : o.op = .call { callee := .builtin .append, args := #[s, x], argTypes := #[t, t] })
    {base e size bytes : Nat} (E : ElemT P t e size bytes) (v : Value) (n : Nat) (xs : List Value) (hs : act.eval s = v) (hown : w.ownsRow base e size v n xs)
    (a : Addr) (m c : Nat) (news : List Value) (hx : act.eval x = .slice (some a) m c) (hm : 0 < m) (hl : news.length = m * size) (hnews : ∀ j u, news[j]? = some u → w.cell? (a.add j) = some u) (h1 : ∀ u ∈ news, u.oneCell' = true)
    (hbytes : (n + m) * bytes ≤ 140737488355328) (hbase : base ≤ w.heap.size)
    (h : ∀ g cap w', w'.ownsRow base e size (.slice (some ⟨g, 0, none⟩) (n + m) cap) (n + m) (xs ++ news) → w.grownBy w' v.ownBlock → (v.ownBlock = some g ∨ w.heap.size ≤ g) →
      wpList P ops Q rest (act.put o.dst (.slice (some ⟨g, 0, none⟩) (n + m) cap)) w') : wpList P ops Q (o :: rest) act w := by
  obtain ⟨g, cap, w', hr, h2, h3, h4⟩ := run_app (P := P) (ty := o.type) w E v n xs hown a m c news hm hl hnews h1 hbytes hbase
  refine wpList_plain hgd fun _ hK => ?_
  unfold Oper.wp execOp
  simp only [ho, resolve, invoke, builtin, Sem.run_bind, Sem.run_pure, Result.andThen_ok, List.map_toArray, List.map_cons, List.map_nil, hs, hx, hr]
  exact hK _ _ (h g cap w' h2 h3 h4)
theorem addr_off (b off j : Nat) : (⟨b, off, none⟩ : Addr).add j = ⟨b, off + j, none⟩ := by unfold Addr.add; split <;> simp_all
theorem runeE_one (l : List Int) : ∀ u ∈ l.flatMap runeE, u.oneCell' = true := by
  intro u hu
  obtain ⟨x, _, hx⟩ := List.mem_flatMap.1 hu
  simp [runeE] at hx; subst hx; rfl
theorem ER : ElemT Tryz.prog 35 21 1 4 := elemT_of (by kernel_rfl) (z := .int .i32 0) (by kernel_rfl) rfl (by decide) (by decide)
theorem ERR : ElemT Tryz.prog 51 35 1 24 := elemT_of (by kernel_rfl) (z := .slice none 0 0) (by kernel_rfl) rfl (by decide) (by decide)
theorem owns_lower {w : World} {b b' e size n : Nat} {v : Value} {xs : List Value} (h : w.ownsRow b e size v n xs) (hb : b' ≤ b) : w.ownsRow b' e size v n xs :=
  ⟨h.1, h.2.imp id fun ⟨g, cap, cur, e, hg, r⟩ => ⟨g, cap, cur, e, Nat.le_trans hb hg, r⟩⟩
end Go.Proofs.YtkeainhjghdfcaaGreat

/- utf.Encode, the document's Encode. -/
namespace Go.Proofs.YtkeainhjghdfcaaGreat
open Go.RowKit Go.Lib

theorem strCells_nums (xs : List Int) (h : ∀ x ∈ xs, 0 ≤ x ∧ x ≤ 255) : strCells (strOfNums xs) = xs.map (Value.int .u8) := by
  unfold strCells
  rw [strOfNums_data, List.map_map]
  refine List.map_congr_left fun x hx => ?_
  obtain ⟨h0, h1⟩ := h x hx
  show Value.int .u8 (((UInt8.ofNat x.toNat).toNat : Nat) : Int) = _
  congr 1
  rw [UInt8.toNat_ofNat']
  omega
theorem conv_owns {W : World} {base n : Nat} {v : Value} {xs : List Int} (h : W.ownsRow base 5 1 v n (xs.map (Value.int .u8))) :
    (convert 233 9 v).run Tryz.prog W = .ok (.string (strOfNums xs)) W := by
  have hl : xs.length = n := by have := h.1; simpa using this
  rcases h.2 with ⟨rfl, rfl⟩ | ⟨g, cap, cur, rfl, hb, hg, _⟩
  · have : xs = [] := List.eq_nil_of_length_eq_zero hl
    subst this
    exact run_convert_bytes_nil W 233 5 Tryz.underlying233 Tryz.underlying5 0 0 9 Tryz.underlying9
  · have hc := h.cells (g := g) rfl
    refine run_convert_bytes_arg (P := Tryz.prog) W 233 5 Tryz.underlying233 Tryz.underlying5 g 0 n cap xs hl (fun i hi => ?_) 9 Tryz.underlying9
    have := hc i (.int .u8 (xs.getD i 0)) (by rw [List.getElem?_map, List.getElem?_eq_getElem (by omega)]; simp [List.getD, List.getElem?_eq_getElem (show i < xs.length by omega)])
    rw [addr_add] at this
    rw [Nat.zero_add]
    exact this
theorem encN_succ {s : List Int} {k : Nat} {x : Int} (h : s[k]? = some x) : encN (s.take (k + 1)) = encN (s.take k) ++ putN x := by
  rw [List.take_add_one, h]
  unfold encN
  rw [List.flatMap_append]
  simp
theorem encN_take_len (s : List Int) (k : Nat) (hs : s.length ≤ 1000000) : (encN (s.take k)).length ≤ 4000000 := by
  have := encN_len (s.take k)
  rw [List.length_take] at this
  omega
section
variable {s : List Int} {w : World} {sv : Value}
set_option maxRecDepth 100000 in
set_option maxHeartbeats 4000000 in
theorem encode_any (hs : RunesIn w sv s) (hl : s.length ≤ 1000000) :
    Calls Tryz.prog 153 #[sv] w fun e w' => e = .returned (.string (enc s)) ∧ Below w.heap.size w w' := by
  have HS := Lib.hid hs
  obtain ⟨sl, cap, rfl, hcap, hmax, _⟩ := runes_cells hs
  unfold maxLen at hmax
  obtain ⟨iu, hiu, hzu, hsu, hbu⟩ := info_parts (show (Tryz.prog.info? 5).map (fun i => (i.zero, i.size, i.bytes)) = some (some (.int .u8 0), 1, 1) by kernel_rfl)
  have HU := Lib.hid hiu
  have HUz := Lib.hid hzu
  have HUs := Lib.hid hsu
  have HUb := Lib.hid hbu
  clear hs hiu hzu hsu hbu
  go_enter Tryz.func153, Tryz.ntmps153
  go_wp2_with fail
  go_loopw [3, 8] (fun bv iv wr => ∃ k : Nat, k ≤ s.length ∧ iv = .int .i64 ((k : Nat) : Int) ∧ Below w.heap.size w wr ∧ wr.ownsRow w.heap.size 5 1 bv (encN (s.take k)).length ((encN (s.take k)).map (Value.int .u8))) (fun _ iv _ => s.length - (intOf iv).toNat)
  case atStart => exact ⟨0, Nat.zero_le _, rfl, .refl _ _, World.ownsRow_nil _ _ _ _⟩
  case round =>
    obtain ⟨k, hk, rfl, hB, hO⟩ := hrel
    have HB := Lib.hid hB
    obtain ⟨pa, pc, rfl⟩ := slice_of_owns hO
    have HO := Lib.hid hO
    clear hB hO
    by_cases hlt : k < s.length
    · obtain ⟨x, hx⟩ : ∃ x, s[k]? = some x := ⟨s[k], List.getElem?_eq_getElem hlt⟩
      have HN := Lib.hid (encN_succ hx)
      obtain ⟨b0, off, cap', hv, _, _, _, _, d0⟩ := rune_cell (HS.out.below HB.out) hx
      cases hv
      clear hx
      go_wp2_with fail
      refine (put_any x wr).mono ?_
      rintro e w1 ⟨rfl, hB1⟩
      have HB1 := Lib.hid (HB.out.trans (hB1.mono HB.out.size))
      have HO1 := Lib.hid (owns_stays HO.out hB1)
      have hbs := HB1.out.size
      have hsz : (encN (s.take k)).length + (put x).size ≤ 5000000 := by have := encN_take_len s k hl; have := (sizeN_rng x).2; rw [put_size]; omega
      have HSz := Lib.hid hsz
      clear hB1 HO HB d0 hsz
      go_wp2_with (at_builtin; refine wpList_append_own_string _ rfl (.tmp 12) (.tmp 14) _ _ rfl w.heap.size 5 iu Tryz.underlying233 Tryz.underlying9 HU.out HUz.out HUs.out HUb.out _ _ _ rfl HO1.out (put x) rfl (by have := HSz.out; unfold maxLen; omega) (by have := HSz.out; omega) hbs ?_; intro v2 w2 ho2 hg2 _; have HB2 := Lib.hid (below_app HB1.out hbs HO1.out (Nat.le_refl _) hg2); have HO2 := Lib.hid ho2; clear ho2 hg2)
      have HO3 := Lib.hid (show w2.ownsRow w.heap.size 5 1 v2 (encN (s.take (k + 1))).length ((encN (s.take (k + 1))).map (Value.int .u8)) by
        have h := HO2.out
        rw [show put x = strOfNums (putN x) from rfl, strCells_nums _ (putN_rng x), strOfNums_size, ← List.map_append, ← List.length_append, ← HN.out] at h
        exact h)
      go_roundw
      case rel => exact ⟨k + 1, by omega, by go_num, HB2.out, HO3.out⟩
      case measure => simp [intOf] <;> omega
    · have hke : k = s.length := by omega
      subst hke
      rw [List.take_length] at HO
      have cv := conv_owns HO.out
      clear hlt hk
      go_wp2_with fail
      go_ret
      exact ⟨rfl, HB.out⟩
set_option maxRecDepth 100000 in
set_option maxHeartbeats 4000000 in
theorem rencode_any (hs : RunesIn w sv s) (hl : s.length ≤ 1000000) :
    Calls Tryz.prog 94 #[sv] w fun e w' => e = .returned (.string (enc s)) ∧ Below w.heap.size w w' := by
  have HS := Lib.hid hs
  obtain ⟨sl, cap, rfl, hcap, hmax, _⟩ := runes_cells hs
  unfold maxLen at hmax
  clear hs
  go_enter Tryz.func94, Tryz.ntmps94
  go_wp2_with fail
  go_loopw [3, 4] (fun bv iv wr => ∃ k : Nat, k ≤ s.length ∧ iv = .int .i64 ((k : Nat) : Int) ∧ Below w.heap.size w wr ∧ bv = .string (enc (s.take k))) (fun _ iv _ => s.length - (intOf iv).toNat)
  case atStart => exact ⟨0, Nat.zero_le _, rfl, .refl _ _, rfl⟩
  case round =>
    obtain ⟨k, hk, rfl, hB, rfl⟩ := hrel
    have HB := Lib.hid hB
    clear hB
    by_cases hlt : k < s.length
    · obtain ⟨x, hx⟩ : ∃ x, s[k]? = some x := ⟨s[k], List.getElem?_eq_getElem hlt⟩
      have HN := Lib.hid (show enc (s.take (k + 1)) = enc (s.take k) ++ put x by unfold enc put; rw [encN_succ hx, nums_append])
      obtain ⟨b0, off, cap', hv, _, _, _, _, d0⟩ := rune_cell (HS.out.below HB.out) hx
      cases hv
      have r0 : (k : Int) < (s.length : Int) := by omega
      have r1 : (0 : Int) ≤ (k : Int) := by omega
      clear hx
      go_wp2_with fail
      refine (rput_any x wr).mono ?_
      rintro e w1 ⟨rfl, hB1⟩
      have HB1 := Lib.hid (HB.out.trans (hB1.mono HB.out.size))
      have cc := run_string_add_sum (P := Tryz.prog) w1 (enc (s.take k)) (put x) (by have := encN_take_len s k hl; have := (sizeN_rng x).2; rw [put_size, enc_size]; omega)
      have e1 := IntWalk.i64_in ((k : Int) + 1) (by omega)
      clear hB1 HB d0
      go_wp2_with fail
      go_roundw
      case rel => exact ⟨k + 1, by omega, by go_num, HB1.out, by rw [HN.out]⟩
      case measure => simp [intOf] <;> omega
    · have hke : k = s.length := by omega
      subst hke
      rw [List.take_length]
      have r0 : decide ((s.length : Int) < (s.length : Int)) = false := by simp
      clear hlt hk
      go_wp2_with fail
      go_ret
      exact ⟨rfl, HB.out⟩
end
end Go.Proofs.YtkeainhjghdfcaaGreat

/- glyph.Width. -/
namespace Go.Proofs.YtkeainhjghdfcaaGreat
open Go.RowKit

section
variable {R : List Rw} {s : List Int} {w : World} {v sv : Value} {tp : Nat}
theorem wid_of {n : Nat} (h : widN R s = n) {w w' : World} (hB : Below w.heap.size w w') : Ending.returned (.int .i64 (n : Int)) = .returned (.int .i64 ((widN R s : Nat) : Int)) ∧ Below w.heap.size w w' := ⟨by rw [h], hB⟩
set_option maxRecDepth 100000 in
set_option maxHeartbeats 1000000 in
theorem width_any (hT : Tb R w tp) (hs : RunesIn w sv s) (ok : RunesOk s) (hl : s.length ≤ 1000000) :
    Calls Tryz.prog 154 #[.pointer (some ⟨tp, 0, none⟩), sv] w fun e w' => e = .returned (.int .i64 ((widN R s : Nat) : Int)) ∧ Below w.heap.size w w' := by
  have HT := Lib.hid hT
  have HS := Lib.hid hs
  have HOk := Lib.hid ok
  obtain ⟨sl, cap, rfl, hcap, hmax, _⟩ := runes_cells hs
  unfold maxLen at hmax
  clear hT hs ok
  obtain ⟨c0, hc0⟩ : ∃ c0, c0 = s.headD 0 := ⟨_, rfl⟩
  have HW2 := Lib.hid (fun (h : hitsF R c0 0 s = true) => show widN R s = 2 by unfold widN; rw [← hc0, if_pos h])
  have HW1 := Lib.hid (fun (h : hitsF R c0 0 s = false) => show widN R s = 1 by unfold widN; rw [← hc0, h]; rfl)
  have HC0 := Lib.hid hc0
  clear hc0
  go_enter Tryz.func154, Tryz.ntmps154
  go_wp2_with fail
  go_loopw [9] (fun iv wr => ∃ k : Nat, k ≤ s.length ∧ iv = .int .i64 ((k : Nat) : Int) ∧ Below w.heap.size w wr ∧ hitsF R c0 0 s = hitsF R c0 k (s.drop k)) (fun iv _ => s.length - (intOf iv).toNat)
  case atStart => exact ⟨0, Nat.zero_le _, rfl, .refl _ _, rfl⟩
  case round =>
    obtain ⟨k, hk, rfl, hB, hH⟩ := hrel
    have HB := Lib.hid hB
    have HH := Lib.hid hH
    clear hB hH
    by_cases hlt : k < s.length
    · obtain ⟨x, hx⟩ : ∃ x, s[k]? = some x := ⟨s[k], List.getElem?_eq_getElem hlt⟩
      have hx0 : s[0]? = some c0 := by
        rw [HC0.out]
        cases s with
        | nil => simp at hlt
        | cons a l => rfl
      have HI := Lib.hid (HOk.out.get hx)
      have HI0 := Lib.hid (HOk.out.get hx0)
      have HD := Lib.hid (hitsF_step R (c0 := c0) hx)
      have HX0 := Lib.hid hx0
      obtain ⟨b0, off, cap', hv, _, _, _, _, d0⟩ := rune_cell (HS.out.below HB.out) hx
      cases hv
      clear hx hx0
      go_wp2_with fail
      refine (Tb.wide (HT.out.below HB.out) x HI.out).mono ?_
      rintro e w1 ⟨rfl, hB1⟩
      have HB1 := Lib.hid (HB.out.trans (hB1.mono HB.out.size))
      clear hB1 HB d0
      by_cases hwd : wideB R x = true
      · have hwd' : decide (ofA R 7 x = 1) = true := hwd
        have HF := Lib.hid (HW2.out (by rw [HH.out, HD.out]; unfold hitB; rw [hwd]; rfl))
        rw [hwd']
        clear hwd hwd'
        go_wp2_with fail
        go_ret
        exact wid_of HF.out HB1.out
      · have hwd2 : wideB R x = false := Bool.eq_false_iff.2 hwd
        have hwd' : decide (ofA R 7 x = 1) = false := hwd2
        rw [hwd']
        have HWd := Lib.hid hwd2
        clear hwd hwd' hwd2
        have d00 := (rune_cell (HS.out.below HB1.out) HX0.out)
        obtain ⟨b0', off', cap'', hv, _, _, _, _, d0⟩ := d00
        cases hv
        rw [Nat.add_zero] at d0
        obtain ⟨bx, hbx⟩ : ∃ bx, bx = (tabOf R).b x := ⟨_, rfl⟩
        have HBk := Lib.hid (fun (W : World) (h : Tb R W tp) => show Calls Tryz.prog 151 #[.pointer (some ⟨tp, 0, none⟩), .int .i32 x] W (fun e w' => e = .returned (.int .i64 bx) ∧ Below W.heap.size W w') by rw [hbx]; exact Tb.break h x HI.out)
        have HBx := Lib.hid hbx
        clear hbx
        by_cases hf : x = 65039
        case' neg =>
          have q1 : (x == 65039) = false := by simpa using hf
          have HM := Lib.hid (show ((decide (x = 65039) && decide (0 < k)) && (tabOf R).p c0) = false by rw [decide_eq_false hf]; rfl)
          clear hf
          go_upto_region 8 with fail
        case' pos =>
          have q1 : (x == 65039) = true := by simpa using hf
          by_cases hk0 : 0 < k
          case' neg =>
            have q2 : decide ((k : Int) > 0) = false := decide_eq_false (by omega)
            have q2' : decide (0 < k) = false := decide_eq_false hk0
            have HM := Lib.hid (show ((decide (x = 65039) && decide (0 < k)) && (tabOf R).p c0) = false by rw [decide_eq_false hk0, Bool.and_false]; rfl)
            clear hf hk0
            go_upto_region 8 with fail
          case' pos =>
            have q2 : (k : Int) > 0 := by omega
            rw [hf] at HBk
            have HP0 := Lib.hid (show (decide (x = 65039) && decide (0 < k)) = true by rw [decide_eq_true hf, decide_eq_true hk0]; rfl)
            have hw1 := HB1.out
            go_wp2_with fail
            refine (Tb.pict (HT.out.below HB1.out) c0 HI0.out).mono ?_
            rintro e w2 ⟨rfl, hB2⟩
            have HB2 := Lib.hid (HB1.out.trans (hB2.mono HB1.out.size))
            obtain ⟨_, _, _, hv, _, _, _, _, d0⟩ := rune_cell (HS.out.below HB2.out) HX0.out
            cases hv
            rw [Nat.add_zero] at d0
            clear hB2 hw1 hk0 hf
            by_cases hp : (tabOf R).p c0 = true
            case' pos =>
              rw [hp]
              have HF := Lib.hid (HW2.out (by rw [HH.out, HD.out]; unfold hitB; rw [HP0.out, hp]; simp))
              clear hp
              go_wp2_with fail
              go_ret
              exact wid_of HF.out HB2.out
            have hp2 : (tabOf R).p c0 = false := Bool.eq_false_iff.2 hp
            rw [hp2]
            have HM := Lib.hid (show ((decide (x = 65039) && decide (0 < k)) && (tabOf R).p c0) = false by rw [hp2, Bool.and_false])
            clear hp hp2 HB1
            have HB1 := HB2
            clear HB2
            go_upto_region 8 with fail
        all_goals
          by_cases hk1 : ((k : Nat) : Int) = 1
          case' neg =>
            have q3 : (((k : Nat) : Int) == 1) = false := by simpa using hk1
            have HN := Lib.hid (show hitB R c0 k x = false by unfold hitB; rw [HWd.out, HM.out, decide_eq_false (show ¬ k = 1 by omega)]; rfl)
            clear hk1
            go_upto_region 10 with fail
          case' pos =>
            have hk2 : k = 1 := by omega
            have q3 : (((k : Nat) : Int) == 1) = true := by simpa using hk1
            clear hk1
            go_wp2_with fail
            refine (HBk.out _ (HT.out.below HB1.out)).mono ?_
            rintro e w3 ⟨rfl, hB3⟩
            have HB3 := Lib.hid (HB1.out.trans (hB3.mono HB1.out.size))
            obtain ⟨_, _, _, hv, _, _, _, _, d0⟩ := rune_cell (HS.out.below HB3.out) HX0.out
            cases hv
            rw [Nat.add_zero] at d0
            clear hB3
            by_cases hb : bx = 6
            case' neg =>
              have q4 : (bx == 6) = false := by simpa using hb
              have HN := Lib.hid (show hitB R c0 k x = false by unfold hitB; rw [HWd.out, HM.out, ← HBx.out, decide_eq_false hb]; simp)
              clear hb HB1
              have HB1 := HB3
              clear HB3
              go_upto_region 10 with fail
            case' pos =>
              have q4 : (bx == 6) = true := by simpa using hb
              have HBx2 := Lib.hid hb
              clear hb
              go_wp2_with fail
              refine (Tb.break (HT.out.below HB3.out) c0 HI0.out).mono ?_
              rintro e w4 ⟨rfl, hB4⟩
              have HB4 := Lib.hid (HB3.out.trans (hB4.mono HB3.out.size))
              clear hB4
              by_cases hc : (tabOf R).b c0 = 6
              case' neg =>
                have q5 : ((tabOf R).b c0 == 6) = false := by simpa using hc
                have HN := Lib.hid (show hitB R c0 k x = false by unfold hitB; rw [HWd.out, HM.out, decide_eq_false hc]; simp)
                clear hc HB1
                have HB1 := HB4
                clear HB4 HB3
                go_upto_region 10 with fail
              case' pos =>
                have q5 : ((tabOf R).b c0 == 6) = true := by simpa using hc
                have HF := Lib.hid (HW2.out (by rw [HH.out, HD.out]; unfold hitB; rw [← HBx.out, decide_eq_true HBx2.out, decide_eq_true hc, decide_eq_true hk2]; simp))
                clear hc
                go_wp2_with fail
                go_ret
                exact wid_of HF.out HB4.out
          all_goals
            have e1 := IntWalk.i64_in ((k : Int) + 1) (by omega)
            go_wp2_with fail
            go_roundw
            case rel => exact ⟨k + 1, by omega, by go_num, HB1.out, by rw [HH.out, HD.out, HN.out]; rfl⟩
            case measure => simp [intOf] <;> omega
    · have hke : k = s.length := by omega
      subst hke
      have HF := Lib.hid (HW1.out (by rw [HH.out, List.drop_length]; rfl))
      clear hlt hk
      go_wp2_with fail
      go_ret
      exact wid_of HF.out HB.out
end
end Go.Proofs.YtkeainhjghdfcaaGreat

/- glyph: caret; append behind a slice that has no room. -/
namespace Go.Proofs.YtkeainhjghdfcaaGreat
open Go.RowKit

/-- a literal's row is the call's own -/
theorem owns_lit (w : World) (cs : Array Value) (e : TypeId) {base size n : Nat} (hn : cs.size = n * size) (hm : n ≤ maxLen) (hb : base ≤ w.heap.size) :
    (w.alloc (.cells cs e)).ownsRow base e size (.slice (some ⟨w.heap.size, 0, none⟩) n n) n cs.toList :=
  ⟨by simpa using hn, .inr ⟨w.heap.size, n, cs, rfl, hb, heap_alloc_new w _, Nat.le_refl _, hm, hn, by rw [List.take_of_length_le (by simp [hn])]⟩⟩
/-- append behind a slice that is full, whoever owns it: a row of the call's own -/
theorem run_app_full {P : Program} (w : World) {base t ty e size bytes B : Nat} (E : ElemT P t e size bytes) (b : Addr) (n : Nat) (xs : List Value) (hR : Rd B w size (.slice (some b) n n) n xs) (hn : 0 < n)
    (a : Addr) (m c : Nat) (news : List Value) (hm : 0 < m) (hl : news.length = m * size) (hnews : ∀ j u, news[j]? = some u → w.cell? (a.add j) = some u)
    (hbytes : (n + m) * bytes ≤ 140737488355328) (hbase : base ≤ w.heap.size) :
    ∃ v' w', (Builtin.append_ #[t, t] ty #[.slice (some b) n n, .slice (some a) m c]).run P w = .ok v' w' ∧ w'.ownsRow base e size v' (n + m) (xs ++ news) ∧ w.grownBy w' none := by
  obtain ⟨hu, ⟨i, z, hi, hz, hsize, hby, hzs⟩, hsz, hbp⟩ := E
  subst hsize
  subst hby
  have hnm : n + m ≤ 140737488355328 := Nat.le_trans (Nat.le_mul_of_pos_right _ hbp) hbytes
  have h63 : n + m ≤ maxLen := by unfold maxLen; omega
  obtain ⟨a0, cap, hv, _, _, hxl, hc⟩ := hR
  cases hv
  obtain ⟨g, off, hg, _, hcell⟩ := hc hn
  cases hg
  have hlen : (xs ++ news).length = (n + m) * i.size := by rw [List.length_append, hxl, hl, Nat.add_mul]
  have holds : ∀ j u, xs[j]? = some u → w.cell? ((⟨g, off, none⟩ : Addr).add j) = some u := fun j u h => by
    have : (⟨g, off, none⟩ : Addr).add j = ⟨g, off + j, none⟩ := by unfold Addr.add; split <;> simp_all
    rw [this]; exact hcell j u h
  have hr := run_append_grow (P := P) (ty := ty) w t e i z hu hi hz ⟨g, off, none⟩ n n xs hxl holds a m c news hl hnews (by omega) (by unfold maxLen at h63; omega) (growslice_fits (by omega) hbytes)
  have hge := grownCap_ge w (n + m) n e
  have hcm : grownCap w (n + m) n e ≤ maxLen := grownCap_le_maxLen w (n + m) n e h63
  refine ⟨_, _, hr, ⟨hlen, .inr ⟨w.heap.size, _, _, rfl, hbase, heap_alloc_new w.drew _, hge, hcm, ?_, ?_⟩⟩, ⟨rfl, rfl, rfl, by simp, fun k hk _ => Below.heap_alloc w.drew _ k hk⟩⟩
  · simp only [Array.size_append, List.size_toArray, size_zeroCells, hzs, hxl, hl, ← Nat.add_mul]
    congr 1
    omega
  · simp only [Array.toList_append, List.append_assoc]
    rw [← List.append_assoc, ← hlen]
    exact List.take_left
theorem wpList_app_full {P : Program} (w : World) {ops : Array Oper} {rest : List Oper} {o : Oper} {act : Act} {Q : Exit → Act → World → Prop} (hgd : o.guard = none) (s x : Operand) (t : TypeId)
    (ho : o.op = .call { callee := .builtin .append, args := #[s, x], argTypes := #[t, t] })
    {base e size bytes B : Nat} (E : ElemT P t e size bytes) (b : Addr) (n : Nat) (xs : List Value) (hs : act.eval s = .slice (some b) n n) (hR : Rd B w size (.slice (some b) n n) n xs) (hn : 0 < n)
    (a : Addr) (m c : Nat) (news : List Value) (hx : act.eval x = .slice (some a) m c) (hm : 0 < m) (hl : news.length = m * size) (hnews : ∀ j u, news[j]? = some u → w.cell? (a.add j) = some u)
    (hbytes : (n + m) * bytes ≤ 140737488355328) (hbase : base ≤ w.heap.size)
    (h : ∀ v' w', w'.ownsRow base e size v' (n + m) (xs ++ news) → w.grownBy w' none → wpList P ops Q rest (act.put o.dst v') w') : wpList P ops Q (o :: rest) act w := by
  obtain ⟨v', w', hr, h2, h3⟩ := run_app_full (P := P) (ty := o.type) w E b n xs hR hn a m c news hm hl hnews hbytes hbase
  refine wpList_plain hgd fun _ hK => ?_
  unfold Oper.wp execOp
  simp only [ho, resolve, invoke, builtin, Sem.run_bind, Sem.run_pure, Result.andThen_ok, List.map_toArray, List.map_cons, List.map_nil, hs, hx, hr]
  exact hK _ _ (h v' w' h2 h3)
def GlyIn (w : World) (v : Value) (L : List Gy) : Prop := Rs w.heap.size w gyE 2 v L
theorem GlyIn.below {w w' : World} {v : Value} {l : List Gy} (h : GlyIn w v l) (hb : Below w.heap.size w w') : GlyIn w' v l := (Rd.below h hb (Nat.le_refl _)).mono hb.size
theorem EG : ElemT Tryz.prog 23 97 2 24 := elemT_of (by kernel_rfl) (z := .agg #[.string ⟨#[]⟩, .int .i64 0]) (by kernel_rfl) rfl (by decide) (by decide)
set_option maxRecDepth 100000 in
set_option maxHeartbeats 1000000 in
theorem caret_any (r : Int) (w : World) : Calls Tryz.prog 152 #[.int .i32 r] w fun e w' => ∃ u, e = .returned u ∧ Below w.heap.size w w' ∧ GlyIn w' u (caretG r) := by
  by_cases h0 : r ≥ 0
  case' pos =>
    by_cases h1 : r < 32
    case' pos =>
      have HG := Lib.hid (show caretG r = [(⟨#[94]⟩, 1), (strOfNums [r + 64], 1)] by unfold caretG; rw [if_pos ⟨h0, h1⟩])
      have u1 := IntWalk.u8_in r (by omega)
      have u2 := IntWalk.u8_in (r + 64) (by omega)
      have cv := conv_new w [r + 64] #[.int .u8 (r + 64)] rfl 1 rfl
      have HB := Lib.hid ((below1' w (.cells #[.int .u8 (r + 64)] 5)).alloc (by simp) (.cells #[.string ⟨#[94]⟩, .int .i64 1, .string (strOfNums [r + 64]), .int .i64 1] 97))
      have HL := Lib.hid (rs_lit gyE_len (w.alloc (.cells #[.int .u8 (r + 64)] 5)) #[.string ⟨#[94]⟩, .int .i64 1, .string (strOfNums [r + 64]), .int .i64 1] 97 [((⟨#[94]⟩ : ByteArray), (1 : Int)), (strOfNums [r + 64], (1 : Int))] 2 rfl (by decide) rfl)
      go_enter Tryz.func152, Tryz.ntmps152
      go_wp2_with fail
      go_ret
      have hl := HL.out
      rw [show (w.alloc (.cells #[.int .u8 (r + 64)] 5)).heap.size = w.heap.size + 1 by simp] at hl
      exact ⟨_, rfl, HB.out, by rw [HG.out]; exact hl⟩
    have q1 : decide (r < 32) = false := decide_eq_false h1
    have HN := Lib.hid (show ¬ (0 ≤ r ∧ r < 32) by omega)
    clear h1
  case' neg =>
    have q0 : decide (r ≥ 0) = false := decide_eq_false h0
    have q4 : decide (0 ≤ r) = false := decide_eq_false h0
    have HN := Lib.hid (show ¬ (0 ≤ r ∧ r < 32) by omega)
    clear h0
  all_goals
    by_cases h2 : r = 127
    · have e2 : (r == 127) = true := by simpa using h2
      have HG := Lib.hid (show caretG r = [(⟨#[94]⟩, 1), (⟨#[63]⟩, 1)] by unfold caretG; rw [if_neg HN.out, if_pos h2])
      have HB := Lib.hid (below1' w (.cells #[.string ⟨#[94]⟩, .int .i64 1, .string ⟨#[63]⟩, .int .i64 1] 97))
      have HL := Lib.hid (rs_lit gyE_len w #[.string ⟨#[94]⟩, .int .i64 1, .string ⟨#[63]⟩, .int .i64 1] 97 [((⟨#[94]⟩ : ByteArray), (1 : Int)), ((⟨#[63]⟩ : ByteArray), (1 : Int))] 2 rfl (by decide) rfl)
      clear h2
      go_enter Tryz.func152, Tryz.ntmps152
      go_wp2_with fail
      go_ret
      exact ⟨_, rfl, HB.out, by rw [HG.out]; exact HL.out⟩
    · have e2 : (r == 127) = false := by simpa using h2
      have HG := Lib.hid (show caretG r = [(put 65533, 1)] by unfold caretG; rw [if_neg HN.out, if_neg h2])
      clear h2
      go_enter Tryz.func152, Tryz.ntmps152
      go_wp2_with fail
      refine (put_any 65533 w).mono ?_
      rintro e w1 ⟨rfl, hB1⟩
      have HB := Lib.hid (below_new hB1 (.cells #[.string (put 65533), .int .i64 1] 97))
      have HL := Lib.hid (rs_lit gyE_len w1 #[.string (put 65533), .int .i64 1] 97 [(put 65533, (1 : Int))] 1 rfl (by decide) rfl)
      clear hB1
      go_wp2_with fail
      go_ret
      exact ⟨_, rfl, HB.out, by rw [HG.out]; exact HL.out⟩
end Go.Proofs.YtkeainhjghdfcaaGreat

/- The document's Width. -/
namespace Go.Proofs.YtkeainhjghdfcaaGreat
open Go.RowKit

section
variable {R : List Rw} {s : List Int} {w : World} {v sv : Value}
theorem flags2_short {l : List Int} (h : l.length ≤ 1) : flags2 R l = false := by
  match l, h with
  | [], _ => rfl
  | [a], _ => rfl
theorem flags2_at {l : List Int} {a b : Int} (h0 : l[0]? = some a) (h1 : l[1]? = some b) : flags2 R l = (decide ((tabOf R).b a = 6) && decide ((tabOf R).b b = 6)) := by
  match l, h0, h1 with
  | a' :: b' :: _, h0, h1 => simp at h0 h1; subst h0; subst h1; rfl
theorem wid_ref {b fl : Bool} {m : Int} (hb : hits1 R (s.headD 0) 0 s = b) (hf : flags2 R s = fl) (hm : m = if (b || fl) = true then 2 else 1) {w w' : World} (hw : Below w.heap.size w w') :
    Ending.returned (.int .i64 m) = .returned (.int .i64 ((widN R s : Nat) : Int)) ∧ Below w.heap.size w w' := by
  refine ⟨?_, hw⟩
  rw [widN_ref, hb, hf, hm]
  cases b <;> cases fl <;> rfl
set_option maxRecDepth 100000 in
set_option maxHeartbeats 1000000 in
theorem rwidth_any (hR : RowsIn w v R) (hs : RunesIn w sv s) (ok : RunesOk s) (hl : s.length ≤ 1000000) :
    Calls Tryz.prog 95 #[v, sv] w fun e w' => e = .returned (.int .i64 ((widN R s : Nat) : Int)) ∧ Below w.heap.size w w' := by
  have HR := Lib.hid hR
  have HS := Lib.hid hs
  have HOk := Lib.hid ok
  obtain ⟨sl, cap, rfl, hcap, hmax, _⟩ := runes_cells hs
  unfold maxLen at hmax
  clear hR hs ok
  obtain ⟨c0, hc0⟩ : ∃ c0, c0 = s.headD 0 := ⟨_, rfl⟩
  have HC0 := Lib.hid hc0
  clear hc0
  go_enter Tryz.func95, Tryz.ntmps95
  go_wp2_with fail
  go_loopw [5, 6] (fun nv iv wr => ∃ (k : Nat) (b : Bool) (m : Int), k ≤ s.length ∧ nv = .int .i64 m ∧ iv = .int .i64 ((k : Nat) : Int) ∧ (m = if b = true then 2 else 1) ∧ w = wr ∧ hits1 R c0 0 s = (b || hits1 R c0 k (s.drop k))) (fun _ iv _ => s.length - (intOf iv).toNat)
  case atStart => exact ⟨0, false, 1, Nat.zero_le _, rfl, rfl, rfl, rfl, rfl⟩
  case round =>
    obtain ⟨k, b, m, hk, rfl, rfl, hm, rfl, hH⟩ := hrel
    have HM := Lib.hid hm
    have HH := Lib.hid hH
    clear hm hH
    by_cases hlt : k < s.length
    · obtain ⟨x, hx⟩ : ∃ x, s[k]? = some x := ⟨s[k], List.getElem?_eq_getElem hlt⟩
      have hx0 : s[0]? = some c0 := by
        rw [HC0.out]
        cases s with
        | nil => simp at hlt
        | cons a l => rfl
      have HI := Lib.hid (HOk.out.get hx)
      have HI0 := Lib.hid (HOk.out.get hx0)
      have HD := Lib.hid (hits1_step R (c0 := c0) hx)
      obtain ⟨b0, off, cap', hv, _, _, _, _, d0⟩ := rune_cell HS.out hx
      cases hv
      obtain ⟨_, _, _, hv, _, _, _, _, d1⟩ := rune_cell HS.out hx0
      cases hv
      rw [Nat.add_zero] at d1
      have r0 : (k : Int) < (s.length : Int) := by omega
      have r1 : (0 : Int) ≤ (k : Int) := by omega
      clear hx hx0
      go_wp2_with fail
      refine (rof_t 7 x HR.out HI.out).mono ?_
      rintro e w1 ⟨rfl, rfl⟩
      obtain ⟨wd, hwd⟩ : ∃ wd, wd = wideB R x := ⟨_, rfl⟩
      have HWd := Lib.hid hwd
      cases wd with
      | true =>
        have q1 : (ofA R 7 x == 1) = true := by simpa using of_decide_eq_true hwd.symm
        clear hwd
        go_upto_region 7 with fail
        by_cases hk0 : 0 < k
        · have q2 : (k : Int) > 0 := by omega
          by_cases hf : x = 65039
          · have q3 : (x == 65039) = true := by simpa using hf
            have HS7 := Lib.hid (show (decide (x = 65039) && decide (0 < k)) = true by rw [decide_eq_true hf, decide_eq_true hk0]; rfl)
            clear hf hk0
            go_wp2_with fail
            refine (rof_t 5 c0 HR.out HI0.out).mono ?_
            rintro e w1 ⟨rfl, rfl⟩
            by_cases hp : ofA R 5 c0 = 1
            · have q4 : (ofA R 5 c0 == 1) = true := by simpa using hp
              have HP := Lib.hid (show (tabOf R).p c0 = true from decide_eq_true hp)
              clear hp
              have HHit := Lib.hid (show hit1 R c0 k x = true by unfold hit1; rw [← HWd.out]; rfl)
              clear HS7
              have e1 := IntWalk.i64_in ((k : Int) + 1) (by omega)
              go_wp2_with fail
              go_roundw
              case rel => exact ⟨k + 1, b || hit1 R c0 k x, _, by omega, rfl, by go_num, by rw [HHit.out, Bool.or_true]; rfl, by first | rfl | trivial, by rw [HH.out, HD.out, Bool.or_assoc]⟩
              case measure => simp [intOf] <;> omega
            · have q4 : (ofA R 5 c0 == 1) = false := by simpa using hp
              have HP := Lib.hid (show (tabOf R).p c0 = false from decide_eq_false hp)
              clear hp
              have HHit := Lib.hid (show hit1 R c0 k x = true by unfold hit1; rw [← HWd.out]; rfl)
              clear HS7
              have e1 := IntWalk.i64_in ((k : Int) + 1) (by omega)
              go_wp2_with fail
              go_roundw
              case rel => exact ⟨k + 1, b || hit1 R c0 k x, _, by omega, rfl, by go_num, by rw [HHit.out, Bool.or_true]; rfl, by first | rfl | trivial, by rw [HH.out, HD.out, Bool.or_assoc]⟩
              case measure => simp [intOf] <;> omega
          · have q3 : (x == 65039) = false := by simpa using hf
            have HS7 := Lib.hid (show (false || ((decide (x = 65039) && decide (0 < k)) && (tabOf R).p c0)) = false by rw [decide_eq_false hf]; rfl)
            clear hf hk0
            have HHit := Lib.hid (show hit1 R c0 k x = true by unfold hit1; rw [← HWd.out]; rfl)
            clear HS7
            have e1 := IntWalk.i64_in ((k : Int) + 1) (by omega)
            go_wp2_with fail
            go_roundw
            case rel => exact ⟨k + 1, b || hit1 R c0 k x, _, by omega, rfl, by go_num, by rw [HHit.out, Bool.or_true]; rfl, by first | rfl | trivial, by rw [HH.out, HD.out, Bool.or_assoc]⟩
            case measure => simp [intOf] <;> omega
        · have q2 : decide ((k : Int) > 0) = false := decide_eq_false (by omega)
          have q2' : decide (0 < k) = false := decide_eq_false hk0
          have HS7 := Lib.hid (show (false || ((decide (x = 65039) && decide (0 < k)) && (tabOf R).p c0)) = false by rw [decide_eq_false hk0, Bool.and_false]; rfl)
          clear hk0
          have HHit := Lib.hid (show hit1 R c0 k x = true by unfold hit1; rw [← HWd.out]; rfl)
          clear HS7
          have e1 := IntWalk.i64_in ((k : Int) + 1) (by omega)
          go_wp2_with fail
          go_roundw
          case rel => exact ⟨k + 1, b || hit1 R c0 k x, _, by omega, rfl, by go_num, by rw [HHit.out, Bool.or_true]; rfl, by first | rfl | trivial, by rw [HH.out, HD.out, Bool.or_assoc]⟩
          case measure => simp [intOf] <;> omega
      | false =>
        have q1 : (ofA R 7 x == 1) = false := by simpa using of_decide_eq_false hwd.symm
        clear hwd
        go_upto_region 7 with fail
        by_cases hk0 : 0 < k
        · have q2 : (k : Int) > 0 := by omega
          by_cases hf : x = 65039
          · have q3 : (x == 65039) = true := by simpa using hf
            have HS7 := Lib.hid (show (decide (x = 65039) && decide (0 < k)) = true by rw [decide_eq_true hf, decide_eq_true hk0]; rfl)
            clear hf hk0
            go_wp2_with fail
            refine (rof_t 5 c0 HR.out HI0.out).mono ?_
            rintro e w1 ⟨rfl, rfl⟩
            by_cases hp : ofA R 5 c0 = 1
            · have q4 : (ofA R 5 c0 == 1) = true := by simpa using hp
              have HP := Lib.hid (show (tabOf R).p c0 = true from decide_eq_true hp)
              clear hp
              have HHit := Lib.hid (show hit1 R c0 k x = true by unfold hit1; rw [← HWd.out]; rw [HS7.out, HP.out]; rfl)
              clear HS7
              have e1 := IntWalk.i64_in ((k : Int) + 1) (by omega)
              go_wp2_with fail
              go_roundw
              case rel => exact ⟨k + 1, b || hit1 R c0 k x, _, by omega, rfl, by go_num, by rw [HHit.out, Bool.or_true]; rfl, by first | rfl | trivial, by rw [HH.out, HD.out, Bool.or_assoc]⟩
              case measure => simp [intOf] <;> omega
            · have q4 : (ofA R 5 c0 == 1) = false := by simpa using hp
              have HP := Lib.hid (show (tabOf R).p c0 = false from decide_eq_false hp)
              clear hp
              have HHit := Lib.hid (show hit1 R c0 k x = false by unfold hit1; rw [← HWd.out]; rw [HP.out, Bool.and_false]; rfl)
              clear HS7
              have e1 := IntWalk.i64_in ((k : Int) + 1) (by omega)
              go_wp2_with fail
              go_roundw
              case rel => exact ⟨k + 1, b || hit1 R c0 k x, _, by omega, rfl, by go_num, by rw [HHit.out, Bool.or_false]; exact HM.out, by first | rfl | trivial, by rw [HH.out, HD.out, Bool.or_assoc]⟩
              case measure => simp [intOf] <;> omega
          · have q3 : (x == 65039) = false := by simpa using hf
            have HS7 := Lib.hid (show (false || ((decide (x = 65039) && decide (0 < k)) && (tabOf R).p c0)) = false by rw [decide_eq_false hf]; rfl)
            clear hf hk0
            have HHit := Lib.hid (show hit1 R c0 k x = false by unfold hit1; rw [← HWd.out]; exact HS7.out)
            clear HS7
            have e1 := IntWalk.i64_in ((k : Int) + 1) (by omega)
            go_wp2_with fail
            go_roundw
            case rel => exact ⟨k + 1, b || hit1 R c0 k x, _, by omega, rfl, by go_num, by rw [HHit.out, Bool.or_false]; exact HM.out, by first | rfl | trivial, by rw [HH.out, HD.out, Bool.or_assoc]⟩
            case measure => simp [intOf] <;> omega
        · have q2 : decide ((k : Int) > 0) = false := decide_eq_false (by omega)
          have q2' : decide (0 < k) = false := decide_eq_false hk0
          have HS7 := Lib.hid (show (false || ((decide (x = 65039) && decide (0 < k)) && (tabOf R).p c0)) = false by rw [decide_eq_false hk0, Bool.and_false]; rfl)
          clear hk0
          have HHit := Lib.hid (show hit1 R c0 k x = false by unfold hit1; rw [← HWd.out]; exact HS7.out)
          clear HS7
          have e1 := IntWalk.i64_in ((k : Int) + 1) (by omega)
          go_wp2_with fail
          go_roundw
          case rel => exact ⟨k + 1, b || hit1 R c0 k x, _, by omega, rfl, by go_num, by rw [HHit.out, Bool.or_false]; exact HM.out, by first | rfl | trivial, by rw [HH.out, HD.out, Bool.or_assoc]⟩
          case measure => simp [intOf] <;> omega
    · have hke : k = s.length := by omega
      subst hke
      have HT := Lib.hid (show hits1 R (s.headD 0) 0 s = b by rw [← HC0.out, HH.out, List.drop_length]; simp [hits1])
      have r0 : decide ((s.length : Int) < (s.length : Int)) = false := by simp
      clear hlt hk
      by_cases h1 : s.length > 1
      · have q1 : (s.length : Int) > 1 := by omega
        obtain ⟨a, ha⟩ : ∃ x, s[0]? = some x := ⟨s[0], List.getElem?_eq_getElem (by omega)⟩
        obtain ⟨a2, ha2⟩ : ∃ x, s[1]? = some x := ⟨s[1], List.getElem?_eq_getElem (by omega)⟩
        have HI := Lib.hid (HOk.out.get ha)
        have HI2 := Lib.hid (HOk.out.get ha2)
        have HF2 := Lib.hid (flags2_at (R := R) ha ha2)
        obtain ⟨b0, off, cap', hv, _, _, _, _, d0⟩ := rune_cell HS.out ha
        cases hv
        obtain ⟨_, _, _, hv, _, _, _, _, d1⟩ := rune_cell HS.out ha2
        cases hv
        rw [Nat.add_zero] at d0
        have q2 : (0 : Int) < (s.length : Int) := by omega
        have q3 : (1 : Int) < (s.length : Int) := by omega
        clear ha ha2 h1
        go_wp2_with fail
        refine (rbrk_t a HR.out HI.out).mono ?_
        rintro e w1 ⟨rfl, rfl⟩
        by_cases c1 : (tabOf R).b a = 6
        · have e1 : ((tabOf R).b a == 6) = true := by simpa using c1
          have HB1 := Lib.hid c1
          clear c1
          go_wp2_with fail
          refine (rbrk_t a2 HR.out HI2.out).mono ?_
          rintro e w1 ⟨rfl, rfl⟩
          by_cases c2 : (tabOf R).b a2 = 6
          · have e2 : ((tabOf R).b a2 == 6) = true := by simpa using c2
            have HFl := Lib.hid (show flags2 R s = true by rw [HF2.out, decide_eq_true HB1.out, decide_eq_true c2]; rfl)
            clear c2
            go_wp2_with fail
            go_ret
            exact wid_ref HT.out HFl.out (by rw [Bool.or_true]; rfl) (.refl _ _)
          · have e2 : ((tabOf R).b a2 == 6) = false := by simpa using c2
            have HFl := Lib.hid (show flags2 R s = false by rw [HF2.out, decide_eq_false c2, Bool.and_false])
            clear c2
            go_wp2_with fail
            go_ret
            exact wid_ref HT.out HFl.out (by rw [Bool.or_false]; exact HM.out) (.refl _ _)
        · have e1 : ((tabOf R).b a == 6) = false := by simpa using c1
          have HFl := Lib.hid (show flags2 R s = false by rw [HF2.out, decide_eq_false c1]; rfl)
          clear c1
          go_wp2_with fail
          go_ret
          exact wid_ref HT.out HFl.out (by rw [Bool.or_false]; exact HM.out) (.refl _ _)
      · have q1 : decide ((s.length : Int) > 1) = false := decide_eq_false (by omega)
        have q2 : decide (1 < s.length) = false := decide_eq_false (by omega)
        have HFl := Lib.hid (flags2_short (R := R) (l := s) (by omega))
        clear h1
        go_wp2_with fail
        go_ret
        exact wid_ref HT.out HFl.out (by rw [Bool.or_false]; exact HM.out) (.refl _ _)
end
end Go.Proofs.YtkeainhjghdfcaaGreat

/- Clusters one by one: slices.Clone of scalars, seg.Clusters, the document's Clusters. -/
namespace Go.Proofs.YtkeainhjghdfcaaGreat
open Go.RowKit

set_option maxRecDepth 100000 in
set_option maxHeartbeats 400000 in
theorem clone_runes {w : World} {v : Value} {l : List Int} (h : RunesIn w v l) (hn : 0 < l.length) (hsz : l.length ≤ 1000000) :
    Calls Tryz.prog 150 #[v] w fun e w' => ∃ u, e = .returned u ∧ w'.ownsRow w.heap.size 21 1 u l.length (l.flatMap runeE) ∧ Below w.heap.size w w' := by
  obtain ⟨a0, cap, rfl, hcap, hmax, hl, hq⟩ := h
  obtain ⟨b, off, rfl, hb, hc⟩ := hq hn
  have hnews : ∀ j u, (l.flatMap runeE)[j]? = some u → (w.alloc (.cells #[] 21)).cell? ((⟨b, off, none⟩ : Addr).add j) = some u := by
    intro j u hu
    rw [addr_off]
    have hcu := hc j u hu
    exact (World.cell?_of_block (Below.heap_alloc _ _ _ (World.block_lt_of_cell? w _ hcu))).trans hcu
  have hnil := fun W : World => Lib.run_eql_slice_nil (P := Tryz.prog) W 35 21 (some ⟨b, off, none⟩) l.length cap 0 0 Tryz.underlying35
  have H1 := Lib.hid hnews
  have H2 := Lib.hid hl
  have H3 := Lib.hid (runeE_one l)
  clear hnews hl hc hq hmax hcap
  go_enter Tryz.func150, Tryz.ntmps150
  go_wp2_with (at_builtin; refine wpList_app2 _ rfl _ _ _ rfl ER _ 0 [] rfl (World.ownsRow_made w #[] 0 (Nat.le_refl _) (by unfold maxLen; omega) (by simp)) ⟨b, off, none⟩ l.length cap (l.flatMap runeE) rfl hn H2.out H1.out H3.out (by omega) (by simp) ?_; intro g c w1 ho hg hf)
  have hB : Below w.heap.size w w1 := ((Below.refl _ _).alloc (Nat.le_refl _) _).grown hg (by simp) (fun k e => by cases e; exact Nat.le_refl _)
  have HO := Lib.hid ho
  clear ho hg hf
  go_ret
  have := HO.out
  simp only [Nat.zero_add, List.nil_append] at this
  exact ⟨_, rfl, by simpa using this, hB⟩

/-- a text's clusters -/
def clusN (T : Tab) : Nat → List Int → List (List Int)
  | 0, _ => []
  | n + 1, s => match s with
    | [] => []
    | x :: l => (x :: l).take (nx T (x :: l)) :: clusN T n ((x :: l).drop (nx T (x :: l)))
theorem clusN_eq (T : Tab) : ∀ (n m : Nat) (s : List Int), s.length ≤ n → s.length ≤ m → clusN T n s = clusN T m s
  | 0, 0, _, _, _ => rfl
  | 0, m + 1, s, h, _ => by
    have : s = [] := List.eq_nil_of_length_eq_zero (by omega)
    subst this; rfl
  | n + 1, 0, s, _, h => by
    have : s = [] := List.eq_nil_of_length_eq_zero (by omega)
    subst this; rfl
  | n + 1, m + 1, s, h1, h2 => by
    cases s with
    | nil => rfl
    | cons x l =>
      simp only [clusN]
      have hp := nx_pos T (s := x :: l) (by simp)
      rw [clusN_eq T n m _ (by rw [List.length_drop]; omega) (by rw [List.length_drop]; omega)]
def clus (T : Tab) (s : List Int) : List (List Int) := clusN T s.length s
theorem clus_nil (T : Tab) : clus T [] = [] := rfl
theorem clus_step (T : Tab) {s : List Int} (h : s ≠ []) : clus T s = s.take (nx T s) :: clus T (s.drop (nx T s)) := by
  cases s with
  | nil => exact absurd rfl h
  | cons x l =>
    have hp := nx_pos T (s := x :: l) (by simp)
    unfold clus
    show clusN T (l.length + 1) (x :: l) = _
    simp only [clusN]
    rw [clusN_eq T l.length _ _ (by rw [List.length_drop]; simp; omega) (Nat.le_refl _)]
theorem clusN_len (T : Tab) : ∀ (n : Nat) (s : List Int), (clusN T n s).length ≤ n
  | 0, _ => Nat.le_refl _
  | n + 1, s => by
    cases s with
    | nil => simp [clusN]
    | cons x l => simp only [clusN, List.length_cons]; have := clusN_len T n ((x :: l).drop (nx T (x :: l))); omega
/-- v reads as the texts LL -/
def TextsIn (w : World) (v : Value) (LL : List (List Int)) : Prop := ∃ vs : List Value, Rd w.heap.size w 1 v LL.length vs ∧ ∀ (i : Nat) (u : Value) (l : List Int), vs[i]? = some u → LL[i]? = some l → RunesIn w u l
theorem TextsIn.below {w w' : World} {v : Value} {LL : List (List Int)} (h : TextsIn w v LL) (hb : Below w.heap.size w w') : TextsIn w' v LL :=
  let ⟨vs, h1, h2⟩ := h
  ⟨vs, (Rd.below h1 hb (Nat.le_refl _)).mono hb.size, fun i u l hu hl => (h2 i u l hu hl).below hb⟩
section
variable {R : List Rw} {s : List Int} {w : World} {v sv : Value} {tp : Nat}
set_option maxRecDepth 100000 in
set_option maxHeartbeats 8000000 in
theorem clusters_any (hT : Tb R w tp) (hs : RunesIn w sv s) (ok : RunesOk s) (hl : s.length ≤ 1000000) :
    Calls Tryz.prog 98 #[.pointer (some ⟨tp, 0, none⟩), sv] w fun e w' => ∃ u, e = .returned u ∧ Below w.heap.size w w' ∧ TextsIn w' u (clus (tabOf R) s) := by
  have HT := Lib.hid hT
  have HS := Lib.hid hs
  have HOk := Lib.hid ok
  have hlen := clusN_len (tabOf R) s.length s
  obtain ⟨sl, cap, rfl, hcap, hmax, hcells⟩ := runes_cells hs
  unfold maxLen at hmax
  clear hT hs ok
  go_enter Tryz.func98, Tryz.ntmps98
  go_wp2_with fail
  go_loopw [5, 6] (fun ov iv wr => ∃ (k : Nat) (LL : List (List Int)) (vs : List Value), k ≤ s.length ∧ LL.length ≤ k ∧ vs.length = LL.length ∧ iv = .int .i64 ((k : Nat) : Int) ∧ Below w.heap.size w wr ∧ wr.ownsRow w.heap.size 35 1 ov LL.length vs ∧
    (∀ (i : Nat) (u : Value) (l : List Int), vs[i]? = some u → LL[i]? = some l → wr.ownsRow w.heap.size 21 1 u l.length (l.flatMap runeE) ∧ Sep ov u) ∧ LL ++ clus (tabOf R) (s.drop k) = clus (tabOf R) s) (fun _ iv _ => s.length - (intOf iv).toNat)
  case atStart => exact ⟨0, [], [], Nat.zero_le _, Nat.le_refl _, rfl, rfl, .refl _ _, World.ownsRow_nil _ _ _ _, fun i u l h => by simp at h, rfl⟩
  case round =>
    obtain ⟨k, LL, vs, hk, hLk, hvl, rfl, hB, hO, hE, hC⟩ := hrel
    have HB := Lib.hid hB
    have HE := Lib.hid hE
    have HC := Lib.hid hC
    obtain ⟨pa, pc, rfl⟩ := slice_of_owns hO
    have HO := Lib.hid hO
    clear hB hO hE hC
    by_cases hlt : k < s.length
    · have hne : s.drop k ≠ [] := fun e => by have := congrArg List.length e; rw [List.length_drop] at this; simp at this; omega
      have hp := nx_pos (tabOf R) hne
      have hnl : nx (tabOf R) (s.drop k) ≤ s.length - k := by have := nx_le (tabOf R) (s.drop k); rwa [List.length_drop] at this
      have HCall := Lib.hid (next_any k (HT.out.below HB.out) (HS.out.below HB.out) HOk.out hlt hl)
      have HSt := Lib.hid (clus_step (tabOf R) hne)
      generalize hnx : nx (tabOf R) (s.drop k) = n at HCall HSt hp hnl
      clear hnx hne
      obtain ⟨sb, soff, hsl, hsb, _⟩ := hcells (by omega)
      subst hsl
      have r0 : (k : Int) < (s.length : Int) := by omega
      have r1 : (0 : Int) ≤ (k : Int) := by omega
      have r2 : (k : Int) ≤ ((k + n : Nat) : Int) := by omega
      have r3 : ((k + n : Nat) : Int) ≤ (cap : Int) := by omega
      have r4 : (k : Int) ≤ (k : Int) + (n : Int) := by omega
      have r5 : (k : Int) + (n : Int) ≤ (cap : Int) := by omega
      have r6 : ¬ k = cap := by omega
      have r7 : ((k : Int) + (n : Int) - (k : Int)).toNat = n := by omega
      have r8 : ((cap : Int) - (k : Int)).toNat = cap - k := by omega
      have r9 : ((k : Int) + (n : Int)).toNat = k + n := by omega
      go_wp2_with fail
      refine HCall.out.mono ?_
      rintro e w1 ⟨rfl, hB1⟩
      have HB1 := Lib.hid (HB.out.trans (hB1.mono HB.out.size))
      have HO1 := Lib.hid (owns_stays HO.out hB1)
      have HE1 := Lib.hid (fun (i : Nat) (u : Value) (l : List Int) hu hl' => (⟨owns_stays (HE.out i u l hu hl').1 hB1, (HE.out i u l hu hl').2⟩ : w1.ownsRow w.heap.size 21 1 u l.length (l.flatMap runeE) ∧ Sep (.slice pa LL.length pc) u))
      have HSub := Lib.hid (show RunesIn w1 (.slice (some ⟨sb, soff + k, none⟩) (k + n - k) (cap - k)) ((s.take (k + n)).drop k) from runes_sub (HS.out.below HB1.out) (by omega) (by omega) (Nat.lt_of_lt_of_le hsb HB1.out.size))
      have hln : ((s.take (k + n)).drop k).length = n := by rw [List.length_drop, List.length_take]; omega
      rw [show k + n - k = n by omega] at HSub
      have HClone := Lib.hid (clone_runes HSub.out (by omega) (by omega))
      clear hB1 HO HE HB HCall
      go_wp2_with fail
      refine HClone.out.mono ?_
      rintro e w2 ⟨u, rfl, ho, hB2⟩
      have HB2 := Lib.hid (HB1.out.trans (hB2.mono HB1.out.size))
      have HO2 := Lib.hid (owns_stays HO1.out hB2)
      rw [hln] at ho
      have hsep : Sep (.slice pa LL.length pc) u := .inr fun e => by
        cases hob : (Value.slice pa LL.length pc).ownBlock with
        | none =>
          obtain ⟨g, c, rfl, hg, _⟩ := ownBlock_of_owns ho (by omega)
          rw [hob] at e; cases e
        | some b =>
          have h1 := (HO1.out.lt b hob).2
          have h2 := (ho.lt b (by rw [← e]; exact hob)).1
          omega
      have HU := Lib.hid (owns_lower ho HB1.out.size)
      have HE2 := Lib.hid (fun (i : Nat) (u : Value) (l : List Int) hu hl' => (⟨owns_stays (HE1.out i u l hu hl').1 hB2, (HE1.out i u l hu hl').2⟩ : w2.ownsRow w.heap.size 21 1 u l.length (l.flatMap runeE) ∧ Sep (.slice pa LL.length pc) u))
      have HSep := Lib.hid hsep
      have hbs := HB2.out.size
      obtain ⟨ua, uc, rfl⟩ := slice_of_owns ho
      clear ho hB2 hsep HB1 HO1 HE1 HClone HSub
      go_wp2_with (at_builtin; refine wpList_app1 _ rfl (.tmp 16) (.tmp 22) _ rfl ERR _ _ _ rfl HO2.out 1 1 [.slice ua n uc] rfl (by decide) rfl (by intro u hu; simp at hu; subst hu; rfl) (by omega) hbs ?_; intro g c w7 ho7 hg7 hf7)
      have HB7 := Lib.hid (below_app HB2.out hbs HO2.out (Nat.le_refl _) hg7)
      have HO7 := Lib.hid ho7
      have HN := Lib.hid (show (LL ++ [(s.take (k + n)).drop k]) ++ clus (tabOf R) (s.drop (k + n)) = clus (tabOf R) s by
        rw [← HC.out, HSt.out, List.append_assoc]
        congr 1
        rw [List.drop_drop, List.singleton_append, List.drop_take, show k + n - k = n by omega])
      have HE7 := Lib.hid (show ∀ (i : Nat) (u : Value) (l : List Int), (vs ++ [.slice ua n uc])[i]? = some u → (LL ++ [(s.take (k + n)).drop k])[i]? = some l → w7.ownsRow w.heap.size 21 1 u l.length (l.flatMap runeE) ∧ Sep (.slice (some ⟨g, 0, none⟩) (LL.length + 1) c) u from fun i u l hu hl' => by
        by_cases hi : i < vs.length
        · rw [List.getElem?_append_left hi] at hu
          rw [List.getElem?_append_left (by omega)] at hl'
          obtain ⟨h1, h2⟩ := HE2.out i u l hu hl'
          exact And.symm (Sep.app h2 h1 hf7 hg7)
        · have hi' : i = vs.length := by
            have := (List.getElem?_eq_some_iff.1 hu).1
            simp at this; omega
          subst hi'
          rw [List.getElem?_append_right (Nat.le_refl _), Nat.sub_self] at hu
          rw [List.getElem?_append_right (by omega), show vs.length - LL.length = 0 by omega] at hl'
          simp at hu hl'
          subst hu
          subst hl'
          rw [hln]
          exact And.symm (Sep.app HSep.out HU.out hf7 hg7))
      clear ho7 hg7 hf7
      go_wp2_with fail
      go_roundw
      case rel => exact ⟨k + n, LL ++ [(s.take (k + n)).drop k], vs ++ [.slice ua n uc], by omega, by simp; omega, by simp [hvl], rfl, HB7.out, by
                    have ho := HO7.out
                    rw [List.length_append]; exact ho, HE7.out, HN.out⟩
      case measure => simp [intOf] <;> omega
    · have hke : k = s.length := by omega
      subst hke
      have HF := Lib.hid (show LL = clus (tabOf R) s by rw [← HC.out, List.drop_length, clus_nil, List.append_nil])
      clear hlt hk
      go_wp2_with fail
      go_ret
      exact ⟨_, rfl, HB.out, by
        rw [← HF.out]
        exact ⟨vs, rd_of_owns HO.out, fun i u l hu hl' => rd_of_owns (HE.out i u l hu hl').1⟩⟩
end
end Go.Proofs.YtkeainhjghdfcaaGreat

/- The document's Clusters; texts compared; SegClusters: its walk. -/
namespace Go.Proofs.YtkeainhjghdfcaaGreat
open Go.RowKit

section
variable {R : List Rw} {s : List Int} {w : World} {v sv : Value} {tp : Nat}
set_option maxRecDepth 100000 in
set_option maxHeartbeats 8000000 in
theorem rclusters_any (H : (tabOf R).Ok) (hR : RowsIn w v R) (hs : RunesIn w sv s) (ok : RunesOk s) (hl : s.length ≤ 1000000) :
    Calls Tryz.prog 82 #[v, sv] w fun e w' => ∃ u, e = .returned u ∧ Below w.heap.size w w' ∧ TextsIn w' u (clus (tabOf R) s) := by
  have HR := Lib.hid hR
  have HS := Lib.hid hs
  have HOk := Lib.hid ok
  have HTk := Lib.hid H
  obtain ⟨sl, cap, rfl, hcap, hmax, hcells⟩ := runes_cells hs
  unfold maxLen at hmax
  clear hR hs ok H
  go_enter Tryz.func82, Tryz.ntmps82
  go_wp2_with fail
  go_loopw [5, 6] (fun ov iv wr => ∃ (k : Nat) (LL : List (List Int)) (vs : List Value), k ≤ s.length ∧ LL.length ≤ k ∧ vs.length = LL.length ∧ iv = .int .i64 ((k : Nat) : Int) ∧ (k = s.length ∨ begAt (tabOf R) s k = true) ∧ Below w.heap.size w wr ∧ wr.ownsRow w.heap.size 35 1 ov LL.length vs ∧
    (∀ (i : Nat) (u : Value) (l : List Int), vs[i]? = some u → LL[i]? = some l → RunesIn w u l) ∧ LL ++ clus (tabOf R) (s.drop k) = clus (tabOf R) s) (fun _ iv _ => s.length - (intOf iv).toNat)
  case atStart => exact ⟨0, [], [], Nat.zero_le _, Nat.le_refl _, rfl, rfl, by
    cases s with
    | nil => exact .inl rfl
    | cons x l => exact .inr rfl, .refl _ _, World.ownsRow_nil _ _ _ _, fun i u l h => by simp at h, rfl⟩
  case round =>
    obtain ⟨k, LL, vs, hk, hLk, hvl, rfl, hb, hB, hO, hE, hC⟩ := hrel
    have HB := Lib.hid hB
    have HE := Lib.hid hE
    have HC := Lib.hid hC
    have HBg := Lib.hid hb
    obtain ⟨pa, pc, rfl⟩ := slice_of_owns hO
    have HO := Lib.hid hO
    clear hB hO hE hC hb
    by_cases hlt : k < s.length
    · have hne : s.drop k ≠ [] := fun e => by have := congrArg List.length e; rw [List.length_drop] at this; simp at this; omega
      have hbk := HBg.out.resolve_left (by omega)
      have hp := nx_pos (tabOf R) hne
      have hnl : nx (tabOf R) (s.drop k) ≤ s.length - k := by have := nx_le (tabOf R) (s.drop k); rwa [List.length_drop] at this
      have HCall := Lib.hid (rnext_any k (HR.out.below HB.out) (HS.out.below HB.out) HOk.out hlt hl)
      rw [← nx_fnb HTk.out hbk] at HCall
      have HNb := Lib.hid (nx_spec HTk.out hbk).2.2.2
      have HSt := Lib.hid (clus_step (tabOf R) hne)
      generalize hnx : nx (tabOf R) (s.drop k) = n at HCall HSt hp hnl HNb
      clear hnx hne hbk
      obtain ⟨sb, soff, hsl, hsb, _⟩ := hcells (by omega)
      subst hsl
      have r0 : (k : Int) < (s.length : Int) := by omega
      have r1 : (0 : Int) ≤ (k : Int) := by omega
      have r2 : (k : Int) ≤ ((k + n : Nat) : Int) := by omega
      have r3 : ((k + n : Nat) : Int) ≤ (cap : Int) := by omega
      have r4 : (k : Int) ≤ (k : Int) + (n : Int) := by omega
      have r5 : (k : Int) + (n : Int) ≤ (cap : Int) := by omega
      have r6 : ¬ k = cap := by omega
      have r7 : ((k : Int) + (n : Int) - (k : Int)).toNat = n := by omega
      have r8 : ((cap : Int) - (k : Int)).toNat = cap - k := by omega
      have r9 : ((k : Int) + (n : Int)).toNat = k + n := by omega
      go_wp2_with fail
      refine HCall.out.mono ?_
      rintro e w1 ⟨rfl, hB1⟩
      have HB1 := Lib.hid (HB.out.trans (hB1.mono HB.out.size))
      have HO1 := Lib.hid (owns_stays HO.out hB1)
      have HSub := Lib.hid (show RunesIn w (.slice (some ⟨sb, soff + k, none⟩) (k + n - k) (cap - k)) ((s.take (k + n)).drop k) from runes_sub HS.out (by omega) (by omega) hsb)
      have hln : ((s.take (k + n)).drop k).length = n := by rw [List.length_drop, List.length_take]; omega
      rw [show k + n - k = n by omega] at HSub
      have hbs := HB1.out.size
      clear hB1 HO HB HCall
      go_wp2_with (at_builtin; refine wpList_app1 _ rfl (.tmp 16) (.tmp 21) _ rfl ERR _ _ _ rfl HO1.out 1 1 [.slice (some ⟨sb, soff + k, none⟩) n (cap - k)] rfl (by decide) rfl (by intro u hu; simp at hu; subst hu; rfl) (by omega) hbs ?_; intro g c w7 ho7 hg7 hf7)
      have HB7 := Lib.hid (below_app HB1.out hbs HO1.out (Nat.le_refl _) hg7)
      have HO7 := Lib.hid ho7
      have HN := Lib.hid (show (LL ++ [(s.take (k + n)).drop k]) ++ clus (tabOf R) (s.drop (k + n)) = clus (tabOf R) s by
        rw [← HC.out, HSt.out, List.append_assoc]
        congr 1
        rw [List.drop_drop, List.singleton_append, List.drop_take, show k + n - k = n by omega])
      have HE7 := Lib.hid (show ∀ (i : Nat) (u : Value) (l : List Int), (vs ++ [.slice (some ⟨sb, soff + k, none⟩) n (cap - k)])[i]? = some u → (LL ++ [(s.take (k + n)).drop k])[i]? = some l → RunesIn w u l from fun i u l hu hl' => by
        by_cases hi : i < vs.length
        · rw [List.getElem?_append_left hi] at hu
          rw [List.getElem?_append_left (by omega)] at hl'
          exact HE.out i u l hu hl'
        · have hi' : i = vs.length := by
            have := (List.getElem?_eq_some_iff.1 hu).1
            simp at this; omega
          subst hi'
          rw [List.getElem?_append_right (Nat.le_refl _), Nat.sub_self] at hu
          rw [List.getElem?_append_right (by omega), show vs.length - LL.length = 0 by omega] at hl'
          simp at hu hl'
          subst hu
          subst hl'
          exact HSub.out)
      clear ho7 hg7 hf7
      go_wp2_with fail
      go_roundw
      case rel => exact ⟨k + n, LL ++ [(s.take (k + n)).drop k], vs ++ [.slice (some ⟨sb, soff + k, none⟩) n (cap - k)], by omega, by simp; omega, by simp [hvl], rfl, HNb.out, HB7.out, by
                    have ho := HO7.out
                    rw [List.length_append]; exact ho, HE7.out, HN.out⟩
      case measure => simp [intOf] <;> omega
    · have hke : k = s.length := by omega
      subst hke
      have HF := Lib.hid (show LL = clus (tabOf R) s by rw [← HC.out, List.drop_length, clus_nil, List.append_nil])
      clear hlt hk
      go_wp2_with fail
      go_ret
      exact ⟨_, rfl, HB.out, by
        rw [← HF.out]
        exact ⟨vs, rd_of_owns HO.out, fun i u l hu hl' => (HE.out i u l hu hl').below HB.out⟩⟩
end
theorem texts_cell {w : World} {v : Value} {LL : List (List Int)} (h : TextsIn w v LL) {k : Nat} {l : List Int} (hl : LL[k]? = some l) : ∃ b off cap u, v = .slice (some ⟨b, off, none⟩) LL.length cap ∧ cap ≤ maxLen ∧ LL.length ≤ cap ∧ k < LL.length ∧ b < w.heap.size ∧ w.cell? ⟨b, off + k, none⟩ = some u ∧ RunesIn w u l := by
  obtain ⟨vs, ⟨a, cap, rfl, h1, h2, h3, h4⟩, h5⟩ := h
  have hk := (List.getElem?_eq_some_iff.1 hl).1
  obtain ⟨b, off, rfl, hb, hq⟩ := h4 (by omega)
  have hv : vs[k]? = some (vs[k]'(by omega)) := List.getElem?_eq_getElem _
  exact ⟨b, off, cap, _, rfl, h2, h1, hk, hb, hq k _ hv, h5 k _ l hv hl⟩
theorem texts_shape {w : World} {v : Value} {LL : List (List Int)} (h : TextsIn w v LL) : ∃ a cap, v = .slice a LL.length cap ∧ LL.length ≤ cap ∧ cap ≤ maxLen := by
  obtain ⟨vs, ⟨a, cap, rfl, h1, h2, h3, h4⟩, h5⟩ := h
  exact ⟨a, cap, rfl, h1, h2⟩
end Go.Proofs.YtkeainhjghdfcaaGreat
