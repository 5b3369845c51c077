/- Joined texts: TokP TokQ TokD. -/
import Derived.Test.YthlpelfogplomaaZaaa
import Derived.Test.YthlpelfogplomaaZdaa
import Derived.Test.YthlpelfogplomaaZcad
import Derived.Test.YthlpelfogplomaaZcaa
/- Words of a command: plain law of tokens. No program is named here. -/
namespace Go.Proofs.Ythlpelfogplomaa

/-- blanks between tokens -/
def blkR (r : Int) : Bool := r == 32 || r == 9
/-- signs around what is quoted -/
def quoR (r : Int) : Bool := r == 39 || r == 34
/-- up to the sign that ends it: what is meant, what is left; none: it has no end -/
def quoF (q : Int) : List Int → List Int → Option (List Int × List Int)
  | _, [] => none
  | acc, [r] => if r = q then some (acc, []) else none
  | acc, r :: x :: s => if r = q then some (acc, x :: s)
      else if r = 92 ∧ q = 34 ∧ (x = 34 ∨ x = 92) then quoF q (acc ++ [x]) s
      else quoF q (acc ++ [r]) (x :: s)
theorem quoF_len (q : Int) : ∀ (n : Nat) (acc s a t : List Int), s.length ≤ n → quoF q acc s = some (a, t) → t.length < s.length
  | _, acc, [], a, t, _, h => by simp [quoF] at h
  | _, acc, [r], a, t, _, h => by
    unfold quoF at h
    split at h
    · cases h; simp
    · cases h
  | 0, acc, r :: x :: s, a, t, hn, h => by simp at hn
  | n + 1, acc, r :: x :: s, a, t, hn, h => by
    unfold quoF at h
    simp only [List.length_cons] at hn ⊢
    split at h
    · cases h; simp
    · split at h
      · have := quoF_len q n _ s a t (by omega) h; omega
      · have := quoF_len q n _ (x :: s) a t (by simp only [List.length_cons]; omega) h
        simp only [List.length_cons] at this
        omega
/-- a token that begins at once -/
def tokF : Nat → List Int → List Int → Option (List Int × List Int)
  | 0, _, _ => none
  | _ + 1, acc, [] => some (acc, [])
  | f + 1, acc, r :: s => if blkR r = true then some (acc, r :: s)
      else if quoR r = true then (match quoF r acc s with
        | some (a, t) => tokF f a t
        | none => none)
      else if r = 92 then (match s with
        | x :: t => tokF f (acc ++ [x]) t
        | [] => none)
      else tokF f (acc ++ [r]) s
theorem tokF_fuel : ∀ (f g : Nat) (acc s : List Int), s.length < f → s.length < g → tokF f acc s = tokF g acc s
  | 0, _, _, _, h, _ => by omega
  | _ + 1, 0, _, _, _, h => by omega
  | f + 1, g + 1, acc, [], _, _ => rfl
  | f + 1, g + 1, acc, r :: s, h1, h2 => by
    simp only [List.length_cons] at h1 h2
    unfold tokF
    split
    · rfl
    · split
      · cases hq : quoF r acc s with
        | none => rfl
        | some p =>
          obtain ⟨a, t⟩ := p
          have := quoF_len r s.length acc s a t (Nat.le_refl _) hq
          exact tokF_fuel f g a t (by omega) (by omega)
      · split
        · cases s with
          | nil => rfl
          | cons x t =>
            simp only [List.length_cons] at h1 h2
            exact tokF_fuel f g _ t (by omega) (by omega)
        · exact tokF_fuel f g _ s (by omega) (by omega)
def tok (acc s : List Int) : Option (List Int × List Int) := tokF (s.length + 1) acc s
theorem tok_nil (acc : List Int) : tok acc [] = some (acc, []) := rfl
theorem tok_cons (acc : List Int) (r : Int) (s : List Int) : tok acc (r :: s) = if blkR r = true then some (acc, r :: s)
      else if quoR r = true then (match quoF r acc s with
        | some (a, t) => tok a t
        | none => none)
      else if r = 92 then (match s with
        | x :: t => tok (acc ++ [x]) t
        | [] => none)
      else tok (acc ++ [r]) s := by
  unfold tok
  rw [List.length_cons]
  conv => lhs; unfold tokF
  split
  · rfl
  · split
    · cases hq : quoF r acc s with
      | none => rfl
      | some p =>
        obtain ⟨a, t⟩ := p
        have := quoF_len r s.length acc s a t (Nat.le_refl _) hq
        exact tokF_fuel _ _ a t (by omega) (by omega)
    · split
      · cases s with
        | nil => rfl
        | cons x t => exact tokF_fuel _ _ _ t (by simp only [List.length_cons]; omega) (by omega)
      · rfl
/-- the document's machine: within which sign (0: none), what was meant so far, what is left -/
def oneS (q : Int) (acc s : List Int) : Option (List Int × List Int) := if q = 0 then tok acc s else match quoF q acc s with
  | some (a, t) => tok a t
  | none => none
section
variable {q r x : Int} {acc s : List Int}
theorem one_nil0 : oneS 0 acc [] = some (acc, []) := by unfold oneS; rw [if_pos rfl, tok_nil]
theorem one_nilq (h : q ≠ 0) : oneS q acc [] = none := by unfold oneS; rw [if_neg h]; rfl
theorem one_blank (h : blkR r = true) : oneS 0 acc (r :: s) = some (acc, r :: s) := by unfold oneS; rw [if_pos rfl, tok_cons, if_pos h]
theorem quo_ne (h : quoR r = true) : r = 39 ∨ r = 34 := by unfold quoR at h; simpa using h
theorem one_quote (hb : blkR r = false) (h : quoR r = true) : oneS 0 acc (r :: s) = oneS r acc s := by
  have h1 := quo_ne h
  unfold oneS
  rw [if_pos rfl, if_neg (by omega), tok_cons, if_neg (by simp [hb]), if_pos h]
theorem one_esc : oneS 0 acc (92 :: x :: s) = oneS 0 (acc ++ [x]) s := by
  unfold oneS
  rw [if_pos rfl, if_pos rfl, tok_cons, if_neg (by decide), if_neg (by decide), if_pos rfl]
theorem one_esc0 : oneS 0 acc [92] = none := by
  unfold oneS
  rw [if_pos rfl, tok_cons, if_neg (by decide), if_neg (by decide), if_pos rfl]
theorem one_plain (hb : blkR r = false) (h : quoR r = false) (h9 : r ≠ 92) : oneS 0 acc (r :: s) = oneS 0 (acc ++ [r]) s := by
  unfold oneS
  rw [if_pos rfl, if_pos rfl, tok_cons, if_neg (by simp [hb]), if_neg (by simp [h]), if_neg h9]
theorem one_end (h : q ≠ 0) : oneS q acc (q :: s) = oneS 0 acc s := by
  unfold oneS
  rw [if_neg h, if_pos rfl]
  cases s with
  | nil => unfold quoF; rw [if_pos rfl]
  | cons x s => unfold quoF; rw [if_pos rfl]
theorem one_escq (h : x = 34 ∨ x = 92) : oneS 34 acc (92 :: x :: s) = oneS 34 (acc ++ [x]) s := by
  unfold oneS
  rw [if_neg (by decide), if_neg (by decide)]
  conv => lhs; unfold quoF
  rw [if_neg (by decide), if_pos ⟨rfl, rfl, h⟩]
theorem one_plainq (h0 : q ≠ 0) (h : r ≠ q) (he : ¬ (r = 92 ∧ q = 34 ∧ ∃ x, s[0]? = some x ∧ (x = 34 ∨ x = 92))) : oneS q acc (r :: s) = oneS q (acc ++ [r]) s := by
  unfold oneS
  rw [if_neg h0, if_neg h0]
  cases s with
  | nil => unfold quoF; rw [if_neg h]
  | cons x s =>
    conv => lhs; unfold quoF
    rw [if_neg h, if_neg (fun hh => he ⟨hh.1, hh.2.1, x, rfl, hh.2.2⟩)]
end
/-- does a scalar mean itself everywhere? -/
def bareR (r : Int) : Bool := (decide (97 ≤ r) && decide (r ≤ 122)) || (decide (65 ≤ r) && decide (r ≤ 90)) || (decide (45 ≤ r) && decide (r ≤ 57)) || r == 95
/-- what stands for a scalar within ' -/
def qOf (r : Int) : List Int := if r = 39 then [39, 92, 39, 39] else [r]
/-- a text as one token -/
def quoteF (l : List Int) : List Int := if l ≠ [] ∧ l.all bareR = true then l else [39] ++ l.flatMap qOf ++ [39]
theorem bare_not {r : Int} (h : bareR r = true) : blkR r = false ∧ quoR r = false ∧ r ≠ 92 := by
  unfold bareR at h
  simp only [Bool.or_eq_true, Bool.and_eq_true, decide_eq_true_eq, beq_iff_eq] at h
  refine ⟨?_, ?_, by omega⟩
  · unfold blkR
    rw [Bool.or_eq_false_iff, beq_eq_false_iff_ne, beq_eq_false_iff_ne]
    omega
  · unfold quoR
    rw [Bool.or_eq_false_iff, beq_eq_false_iff_ne, beq_eq_false_iff_ne]
    omega
theorem one_bare : ∀ (l acc rest : List Int), l.all bareR = true → oneS 0 acc (l ++ rest) = oneS 0 (acc ++ l) rest
  | [], acc, rest, _ => by simp
  | r :: l, acc, rest, h => by
    rw [List.all_cons, Bool.and_eq_true] at h
    obtain ⟨h1, h2, h3⟩ := bare_not h.1
    rw [List.cons_append, one_plain h1 h2 h3, one_bare l _ rest h.2, List.append_assoc]
    rfl
theorem one_body : ∀ (l acc rest : List Int), oneS 39 acc (l.flatMap qOf ++ 39 :: rest) = oneS 0 (acc ++ l) rest
  | [], acc, rest => by
    show oneS 39 acc (39 :: rest) = _
    rw [one_end (by decide), List.append_nil]
  | r :: l, acc, rest => by
    rw [List.flatMap_cons]
    unfold qOf
    by_cases h : r = 39
    · rw [if_pos h, h]
      show oneS 39 acc (39 :: 92 :: 39 :: 39 :: (l.flatMap qOf ++ 39 :: rest)) = _
      rw [one_end (by decide), one_esc, one_quote (by decide) (by decide), one_body l, List.append_assoc]
      rfl
    · rw [if_neg h]
      show oneS 39 acc (r :: (l.flatMap qOf ++ 39 :: rest)) = _
      rw [one_plainq (by decide) h (by rintro ⟨_, h2, _⟩; exact absurd h2 (by decide)), one_body l, List.append_assoc]
      rfl
/-- a text, quoted, is one token that means it -/
theorem tok_quote {rest : List Int} (hr : rest = [] ∨ ∃ b t, rest = b :: t ∧ blkR b = true) (l acc : List Int) : tok acc (quoteF l ++ rest) = some (acc ++ l, rest) := by
  have e : ∀ a s, tok a s = oneS 0 a s := fun a s => by unfold oneS; rw [if_pos rfl]
  have hend : ∀ a, oneS 0 a rest = some (a, rest) := fun a => by
    rcases hr with rfl | ⟨b, t, rfl, hb⟩
    · exact one_nil0
    · exact one_blank hb
  rw [e]
  unfold quoteF
  by_cases h : l ≠ [] ∧ l.all bareR = true
  · rw [if_pos h, one_bare l acc rest h.2, hend]
  · rw [if_neg h]
    show oneS 0 acc ([39] ++ l.flatMap qOf ++ [39] ++ rest) = _
    rw [List.append_assoc, List.append_assoc]
    show oneS 0 acc (39 :: (l.flatMap qOf ++ 39 :: rest)) = _
    rw [one_quote (by decide) (by decide), one_body, hend]
end Go.Proofs.Ythlpelfogplomaa

/- Words of a command: a text cut into tokens, plainly. No program is named here. -/
namespace Go.Proofs.Ythlpelfogplomaa

/-- a token: from, up to, what it means -/
abbrev Tk := Nat × Nat × List Int
theorem tokF_len : ∀ (f : Nat) (acc s a t : List Int), tokF f acc s = some (a, t) → t.length ≤ s.length
  | 0, acc, s, a, t, h => by simp [tokF] at h
  | f + 1, acc, [], a, t, h => by simp only [tokF, Option.some.injEq, Prod.mk.injEq] at h; rw [← h.2]; exact Nat.le_refl _
  | f + 1, acc, r :: s, a, t, h => by
    unfold tokF at h
    simp only [List.length_cons]
    split at h
    · cases h; simp
    · split at h
      · cases hq : quoF r acc s with
        | none => rw [hq] at h; cases h
        | some p =>
          obtain ⟨a', t'⟩ := p
          rw [hq] at h
          have h1 := quoF_len r s.length acc s a' t' (Nat.le_refl _) hq
          have h2 := tokF_len f a' t' a t h
          omega
      · split at h
        · cases s with
          | nil => cases h
          | cons x u =>
            have := tokF_len f _ u a t h
            simp only [List.length_cons]
            omega
        · have := tokF_len f _ s a t h
          omega
/-- behind a token that begins at once less is left -/
theorem tok_less {acc s a t : List Int} {r : Int} (hb : blkR r = false) (h : tok acc (r :: s) = some (a, t)) : t.length ≤ s.length := by
  rw [tok_cons, if_neg (by simp [hb])] at h
  split at h
  · cases hq : quoF r acc s with
    | none => rw [hq] at h; cases h
    | some p =>
      obtain ⟨a', t'⟩ := p
      rw [hq] at h
      have h1 := quoF_len r s.length acc s a' t' (Nat.le_refl _) hq
      have h2 := tokF_len _ a' t' a t h
      omega
  · split at h
    · cases s with
      | nil => cases h
      | cons x u =>
        have := tokF_len _ _ u a t h
        simp only [List.length_cons]
        omega
    · exact tokF_len _ _ s a t h
/-- tokens, or where one that has no end begins -/
def splF (n : Nat) : Nat → List Tk → List Int → Except Nat (List Tk)
  | 0, out, _ => .ok out
  | _ + 1, out, [] => .ok out
  | f + 1, out, r :: s => if blkR r = true then splF n f out s
      else match tok [] (r :: s) with
        | some (a, t) => splF n f (out ++ [(n - (s.length + 1), n - t.length, a)]) t
        | none => .error (n - (s.length + 1))
theorem splF_fuel (n : Nat) : ∀ (f g : Nat) (out : List Tk) (s : List Int), s.length < f → s.length < g → splF n f out s = splF n g out s
  | 0, _, _, _, h, _ => by omega
  | _ + 1, 0, _, _, _, h => by omega
  | f + 1, g + 1, out, [], _, _ => rfl
  | f + 1, g + 1, out, r :: s, h1, h2 => by
    simp only [List.length_cons] at h1 h2
    unfold splF
    split
    · exact splF_fuel n f g out s (by omega) (by omega)
    · rename_i hb
      cases ht : tok [] (r :: s) with
      | none => rfl
      | some p =>
        obtain ⟨a, t⟩ := p
        have := tok_less (by simpa using hb) ht
        exact splF_fuel n f g _ t (by omega) (by omega)
def splS (n : Nat) (out : List Tk) (s : List Int) : Except Nat (List Tk) := splF n (s.length + 1) out s
section
variable {n : Nat} {out : List Tk} {r : Int} {s : List Int}
theorem spl_nil : splS n out [] = .ok out := rfl
theorem spl_blank (h : blkR r = true) : splS n out (r :: s) = splS n out s := by
  unfold splS
  rw [List.length_cons]
  conv => lhs; unfold splF
  rw [if_pos h]
theorem spl_none (h : blkR r = false) (ht : tok [] (r :: s) = none) : splS n out (r :: s) = .error (n - (s.length + 1)) := by
  unfold splS
  rw [List.length_cons]
  conv => lhs; unfold splF
  rw [if_neg (by simp [h]), ht]
theorem spl_some {a t : List Int} (h : blkR r = false) (ht : tok [] (r :: s) = some (a, t)) : splS n out (r :: s) = splS n (out ++ [(n - (s.length + 1), n - t.length, a)]) t := by
  have := tok_less h ht
  unfold splS
  rw [List.length_cons]
  conv => lhs; unfold splF
  rw [if_neg (by simp [h]), ht]
  exact splF_fuel n _ _ _ t (by omega) (by omega)
end
/-- what is put ahead of each text: a blank, a tab ahead of it -/
def segQ (tab : Bool) (first : Bool) (l : List Int) : List Int := (if !first && tab then [9] else []) ++ [32] ++ quoteF l
theorem quoteF_head (l : List Int) : ∃ r s, quoteF l = r :: s ∧ blkR r = false := by
  unfold quoteF
  by_cases h : l ≠ [] ∧ l.all bareR = true
  · rw [if_pos h]
    match l, h with
    | r :: l, h =>
      have := h.2
      rw [List.all_cons, Bool.and_eq_true] at this
      exact ⟨r, l, rfl, (bare_not this.1).1⟩
  · rw [if_neg h]
    exact ⟨39, l.flatMap qOf ++ [39], rfl, by decide⟩
/-- quoted texts, blanks between, are cut as they were -/
theorem spl_quoted (n : Nat) (tab : Bool) : ∀ (L : List (List Int)) (first : Bool) (out : List Tk), ∃ toks : List Tk, splS n out (L.zipIdx.flatMap fun p => segQ tab (first && p.2 == 0) p.1) = .ok (out ++ toks) ∧ toks.map (fun k => k.2.2) = L := by
  intro L
  suffices h : ∀ (L : List (List Int)) (out : List Tk) (g : Nat → Bool) (i : Nat), ∃ toks : List Tk, splS n out ((L.zipIdx i).flatMap fun p => segQ tab (g p.2) p.1) = .ok (out ++ toks) ∧ toks.map (fun k => k.2.2) = L from
    fun first out => h L out (fun j => first && j == 0) 0
  intro L
  induction L with
  | nil => intro out g i; exact ⟨[], by rw [List.append_nil]; rfl, rfl⟩
  | cons l L ih =>
    intro out g i
    rw [List.zipIdx_cons, List.flatMap_cons]
    generalize hT : ((L.zipIdx (i + 1)).flatMap fun p => segQ tab (g p.2) p.1) = T
    have hrest : T = [] ∨ ∃ b t, T = b :: t ∧ blkR b = true := by
      rw [← hT]
      cases L with
      | nil => exact .inl rfl
      | cons l2 L =>
        right
        rw [List.zipIdx_cons, List.flatMap_cons]
        unfold segQ
        split
        · exact ⟨9, _, rfl, by decide⟩
        · exact ⟨32, _, rfl, by decide⟩
    obtain ⟨r, s, hq, hb⟩ := quoteF_head l
    have htk := tok_quote hrest l []
    rw [hq, List.cons_append, List.nil_append] at htk
    obtain ⟨toks, h1, h2⟩ := ih (out ++ [(n - ((s ++ T).length + 1), n - T.length, l)]) g (i + 1)
    rw [hT] at h1
    refine ⟨(n - ((s ++ T).length + 1), n - T.length, l) :: toks, ?_, by rw [List.map_cons, h2]⟩
    have e : splS n out (quoteF l ++ T) = .ok (out ++ (n - ((s ++ T).length + 1), n - T.length, l) :: toks) := by
      rw [hq, List.cons_append, spl_some hb htk, h1, List.append_assoc]
      rfl
    show splS n out (segQ tab (g i) l ++ T) = _
    unfold segQ
    rw [List.append_assoc]
    split
    · show splS n out (9 :: 32 :: (quoteF l ++ T)) = _
      rw [spl_blank (by decide), spl_blank (by decide), e]
    · show splS n out (32 :: (quoteF l ++ T)) = _
      rw [spl_blank (by decide), e]
end Go.Proofs.Ythlpelfogplomaa

/- Tokens: the cells of one that is being made. -/
namespace Go.Proofs.Ythlpelfogplomaa
open Go.RowKit

theorem range3 {w : World} {b : Nat} {u v x : Value} (h0 : w.cell? ⟨b, 0, none⟩ = some u) (h1 : w.cell? ⟨b, 1, none⟩ = some v) (h2 : w.cell? ⟨b, 2, none⟩ = some x) : w.rangeAt b 0 [u, v, x] := fun j y hy => by
  match j with
  | 0 => simp at hy; subst hy; exact h0
  | 1 => simp at hy; subst hy; exact h1
  | 2 => simp at hy; subst hy; exact h2
  | j + 3 => simp at hy
/-- a token being made: the result (h), the token (h + 1), what it means above -/
structure TW (T : TypeId) (wr : World) (h : Nat) (f t : Int) (tv : Value) (acc : List Int) : Prop where
  hs : h + 2 ≤ wr.heap.size
  r : wr.heap[h]? = some (.cells #[.int .i64 0, .int .i64 0, .slice none 0 0] T (0, 0))
  tk : wr.heap[h + 1]? = some (.cells #[.int .i64 f, .int .i64 t, tv] T (0, 0))
  own : wr.ownsRow (h + 2) 21 1 tv acc.length (acc.flatMap runeE)
section
variable {T : TypeId} {wr wr' : World} {h : Nat} {f t : Int} {tv : Value} {acc : List Int}
theorem TW.later (H : TW T wr h f t tv acc) (hB : Below wr.heap.size wr wr') : TW T wr' h f t tv acc :=
  have hs := H.hs
  ⟨Nat.le_trans hs hB.size, (hB.block h (by omega)).trans H.r, (hB.block (h + 1) (by omega)).trans H.tk, owns_stays H.own hB⟩
theorem TW.setTo (H : TW T wr h f t tv acc) (n : Int) : TW T (wr.setCell ⟨h + 1, 1, none⟩ (.int .i64 n)) h f n tv acc := by
  have hg := setCell_grown wr ⟨h + 1, 1, none⟩ (.int .i64 n)
  have hs := H.hs
  exact ⟨Nat.le_trans hs hg.size, (hg.block h (by omega) (by intro e; simp at e)).trans H.r, heap_setCell_same _ _ _ _ _ _ H.tk, owns_store H.own (by omega)⟩
theorem TW.tk7 (H : TW T wr h f t tv acc) {w7 : World} (hg : wr.grownBy w7 tv.ownBlock) : w7.heap[h + 1]? = some (.cells #[.int .i64 f, .int .i64 t, tv] T (0, 0)) :=
  have hs := H.hs
  (hg.block (h + 1) (by omega) (fun e => by have := (H.own.lt _ e.symm).1; omega)).trans H.tk
theorem TW.push (H : TW T wr h f t tv acc) {w7 : World} {g cap : Nat} {x : Int} (ho : w7.ownsRow (h + 2) 21 1 (.slice (some ⟨g, 0, none⟩) (acc.length + 1) cap) (acc.length + 1) (acc.flatMap runeE ++ runeE x)) (hg : wr.grownBy w7 tv.ownBlock) :
    TW T (w7.setCell ⟨h + 1, 2, none⟩ (.slice (some ⟨g, 0, none⟩) (acc.length + 1) cap)) h f t (.slice (some ⟨g, 0, none⟩) (acc.length + 1) cap) (acc ++ [x]) := by
  have hs := H.hs
  have hg2 := setCell_grown w7 ⟨h + 1, 2, none⟩ (.slice (some ⟨g, 0, none⟩) (acc.length + 1) cap)
  have h7 : h + 2 ≤ w7.heap.size := Nat.le_trans hs hg.size
  refine ⟨Nat.le_trans h7 hg2.size, ?_, heap_setCell_same _ _ _ _ _ _ (H.tk7 hg), ?_⟩
  · exact (hg2.block h (by omega) (by intro e; simp at e)).trans ((hg.block h (by omega) (fun e => by have := (H.own.lt _ e.symm).1; omega)).trans H.r)
  · rw [List.length_append, flat_snoc]
    exact owns_store ho (by omega)
theorem TW.below (H : TW T wr h f t tv acc) {W w7 : World} (hB : Below h W wr) (hg : wr.grownBy w7 tv.ownBlock) (u : Value) : Below h W (w7.setCell ⟨h + 1, 2, none⟩ u) :=
  (below_app hB (by have := H.hs; omega) H.own (by omega) hg).setCell (by show h ≤ h + 1; omega) u
theorem TW.start (w : World) (T : TypeId) (f : Int) : TW T ((w.alloc (.cells #[.int .i64 0, .int .i64 0, .slice none 0 0] T)).alloc (.cells #[.int .i64 f, .int .i64 0, .slice none 0 0] T)) w.heap.size f 0 (.slice none 0 0) [] := by
  have s1 : (w.alloc (.cells #[.int .i64 0, .int .i64 0, .slice none 0 0] T)).heap.size = w.heap.size + 1 := by simp
  have h1 := heap_alloc_new w (.cells #[.int .i64 0, .int .i64 0, .slice none 0 0] T)
  generalize w.alloc (.cells #[.int .i64 0, .int .i64 0, .slice none 0 0] T) = w1 at s1 h1 ⊢
  have n2 := heap_alloc_new w1 (.cells #[.int .i64 f, .int .i64 0, .slice none 0 0] T)
  rw [s1] at n2
  exact ⟨by simp [s1], (Below.heap_alloc w1 _ w.heap.size (by omega)).trans h1, n2, World.ownsRow_nil _ _ _ _⟩
theorem TW.startB (w : World) (T : TypeId) (f : Int) : Below w.heap.size w ((w.alloc (.cells #[.int .i64 0, .int .i64 0, .slice none 0 0] T)).alloc (.cells #[.int .i64 f, .int .i64 0, .slice none 0 0] T)) :=
  ((Below.refl _ w).alloc (Nat.le_refl _) _).alloc (by simp) _
/-- behind the result's cells are written -/
theorem TW.done (H : TW T wr h f t tv acc) (a b c : Value) : (((wr.setCell ⟨h, 0, none⟩ a).setCell ⟨h, 1, none⟩ b).setCell ⟨h, 2, none⟩ c).ownsRow h 21 1 tv acc.length (acc.flatMap runeE) :=
  owns_lower (owns_store (owns_store (owns_store H.own (by omega)) (by omega)) (by omega)) (by omega)
end
/-- what is told of one token -/
def TokPost (s : List Int) (at' : Nat) (w : World) (e : Ending) (w' : World) : Prop := ∃ (f t : Int) (ua : Option Addr) (un uc : Nat) (ok : Bool), e = .returned (.tuple #[.agg #[.int .i64 f, .int .i64 t, .slice ua un uc], .bool ok]) ∧ Below w.heap.size w w' ∧
  match tok [] (s.drop at') with
  | some (a, r) => ok = true ∧ f = (at' : Int) ∧ t = ((s.length - r.length : Nat) : Int) ∧ w'.ownsRow w.heap.size 21 1 (.slice ua un uc) a.length (a.flatMap runeE)
  | none => ok = false
end Go.Proofs.Ythlpelfogplomaa
