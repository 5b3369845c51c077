/- Joined texts: DecP GlyR. -/
import Derived.Test.YthlpelfogplomaaGreatZcaa
import Derived.Test.YthlpelfogplomaaGreatZcad
/- Bytes read as scalars, plainly: the decoder and the document; what is put is read. No program is named here. -/
namespace Go.Proofs.YthlpelfogplomaaGreat

/-- a decoder: how many bytes more, so far, from where to where the next one may be, its value -/
structure Dc where
  nd : Int
  hv : Int
  lo : Int
  hi : Int
  vl : Int
def Dc0 : Dc := ⟨0, 0, 0, 0, 0⟩
/-- behind a first byte -/
def Dc1 (b : Int) : Dc := ⟨if b < 224 then 1 else if b < 240 then 2 else 3, 1, if b = 224 then 160 else if b = 240 then 144 else 128, if b = 237 then 159 else if b = 244 then 143 else 191, if b < 224 then b % 32 else if b < 240 then b % 16 else b % 8⟩
def fstD (b : Int) : Dc × List Int := if b < 128 then (Dc0, [b]) else if b < 194 ∨ 244 < b then (Dc0, [65533]) else (Dc1 b, [])
def fdD (d : Dc) (b : Int) : Dc × List Int :=
  if d.nd = 0 then fstD b else if b < d.lo ∨ d.hi < b then ((fstD b).1, 65533 :: (fstD b).2)
  else if d.nd = 1 then (Dc0, [d.vl * 64 + b % 64]) else (⟨d.nd - 1, d.hv + 1, 128, 191, d.vl * 64 + b % 64⟩, [])
def endD (d : Dc) : List Int := if d.nd = 0 then [] else [65533]
/-- what a decoder tells of bytes -/
def decS (d : Dc) : List Int → List Int
  | [] => endD d
  | b :: l => (fdD d b).2 ++ decS (fdD d b).1 l
def stD (d : Dc) : List Int → Dc
  | [] => d
  | b :: l => stD (fdD d b).1 l
def outD (d : Dc) : List Int → List Int
  | [] => []
  | b :: l => (fdD d b).2 ++ outD (fdD d b).1 l
theorem decS_out : ∀ (l : List Int) (d : Dc), decS d l = outD d l ++ endD (stD d l)
  | [], d => rfl
  | b :: l, d => by
    show (fdD d b).2 ++ decS (fdD d b).1 l = (fdD d b).2 ++ outD (fdD d b).1 l ++ endD (stD (fdD d b).1 l)
    rw [decS_out l, List.append_assoc]
theorem stD_snoc : ∀ (l : List Int) (d : Dc) (b : Int), stD d (l ++ [b]) = (fdD (stD d l) b).1
  | [], _, _ => rfl
  | x :: l, d, b => stD_snoc l (fdD d x).1 b
theorem outD_snoc : ∀ (l : List Int) (d : Dc) (b : Int), outD d (l ++ [b]) = outD d l ++ (fdD (stD d l) b).2
  | [], d, b => by show (fdD d b).2 ++ [] = [] ++ _; rw [List.append_nil]; rfl
  | x :: l, d, b => by
    show (fdD d x).2 ++ outD (fdD d x).1 (l ++ [b]) = (fdD d x).2 ++ outD (fdD d x).1 l ++ _
    rw [outD_snoc l, List.append_assoc]
    rfl
section
variable {d : Dc} {b : Int} {l : List Int}
theorem dec_nil (h : d.nd ≠ 0) : decS d [] = [65533] := by unfold decS endD; rw [if_neg h]
theorem dec_nil0 : decS Dc0 [] = [] := rfl
theorem dec_0 (b : Int) (l : List Int) : decS Dc0 (b :: l) = (fstD b).2 ++ decS (fstD b).1 l := by
  show (fdD Dc0 b).2 ++ decS (fdD Dc0 b).1 l = _
  unfold fdD
  rw [if_pos (show Dc0.nd = 0 from rfl)]
theorem dec_bad (h : d.nd ≠ 0) (hb : b < d.lo ∨ d.hi < b) : decS d (b :: l) = 65533 :: decS Dc0 (b :: l) := by
  rw [dec_0]
  show (fdD d b).2 ++ decS (fdD d b).1 l = _
  unfold fdD
  rw [if_neg h, if_pos hb]
  rfl
theorem dec_last (h : d.nd = 1) (hb : ¬ (b < d.lo ∨ d.hi < b)) : decS d (b :: l) = (d.vl * 64 + b % 64) :: decS Dc0 l := by
  show (fdD d b).2 ++ decS (fdD d b).1 l = _
  unfold fdD
  rw [if_neg (by omega), if_neg hb, if_pos h]
  rfl
theorem dec_more (h : d.nd ≠ 0) (h1 : d.nd ≠ 1) (hb : ¬ (b < d.lo ∨ d.hi < b)) : decS d (b :: l) = decS ⟨d.nd - 1, d.hv + 1, 128, 191, d.vl * 64 + b % 64⟩ l := by
  show (fdD d b).2 ++ decS (fdD d b).1 l = _
  unfold fdD
  rw [if_neg h, if_neg hb, if_neg h1]
  rfl
theorem dec_low (h : b < 128) : decS Dc0 (b :: l) = b :: decS Dc0 l := by
  rw [dec_0]; unfold fstD; rw [if_pos h]; rfl
theorem dec_none (h : ¬ b < 128) (h1 : b < 194 ∨ 244 < b) : decS Dc0 (b :: l) = 65533 :: decS Dc0 l := by
  rw [dec_0]; unfold fstD; rw [if_neg h, if_pos h1]; rfl
theorem dec_one (h : ¬ b < 128) (h1 : ¬ (b < 194 ∨ 244 < b)) : decS Dc0 (b :: l) = decS (Dc1 b) l := by
  rw [dec_0]; unfold fstD; rw [if_neg h, if_neg h1]; rfl
end

/-- may a byte stand at a place of a row that begins so? -/
def mayB (c : Int) (i : Nat) (b : Int) : Bool :=
  if i = 0 then decide (c < 128) || (decide (194 ≤ c) && decide (c ≤ 244))
  else if i = 1 ∧ c = 224 then decide (160 ≤ b) && decide (b ≤ 191)
  else if i = 1 ∧ c = 237 then decide (128 ≤ b) && decide (b ≤ 159)
  else if i = 1 ∧ c = 240 then decide (144 ≤ b) && decide (b ≤ 191)
  else if i = 1 ∧ c = 244 then decide (128 ≤ b) && decide (b ≤ 143)
  else decide (128 ≤ b) && decide (b ≤ 191)
def longN (c : Int) : Nat := if c < 128 then 1 else if c < 224 then 2 else if c < 240 then 3 else 4
def rowGo (c : Int) : Nat → List Int → Nat
  | i, [] => i
  | i, b :: l => if i < longN c ∧ mayB c i b = true then rowGo c (i + 1) l else i
/-- how many bytes at the beginning are one of a row -/
def rowN (s : List Int) : Nat := rowGo (s.headD 0) 0 s
def wholeB (s : List Int) : Bool := decide (0 < rowN s) && decide (rowN s = longN (s.headD 0))
/-- of a whole row -/
def valN : List Int → Int
  | [] => 0
  | [c] => c
  | c :: l => l.foldl (fun v b => 64 * v + b - 128) (if l.length = 2 then c - 224 else if l.length = 3 then c - 240 else c - 192)
def docF : Nat → List Int → List Int
  | 0, _ => []
  | _ + 1, [] => []
  | n + 1, b :: l => (if wholeB (b :: l) = true then valN ((b :: l).take (rowN (b :: l))) else 65533) :: docF n ((b :: l).drop (max (rowN (b :: l)) 1))
/-- the document's scalars of bytes -/
def docD (s : List Int) : List Int := docF s.length s
theorem docF_fuel : ∀ (n m : Nat) (s : List Int), s.length ≤ n → s.length ≤ m → docF n s = docF m s
  | n, m, [], _, _ => by cases n <;> cases m <;> rfl
  | 0, m, b :: l, h, _ => by simp at h
  | n + 1, 0, b :: l, _, h => by simp at h
  | n + 1, m + 1, b :: l, h1, h2 => by
    simp only [List.length_cons] at h1 h2
    unfold docF
    rw [docF_fuel n m _ (by rw [List.length_drop, List.length_cons]; omega) (by rw [List.length_drop, List.length_cons]; omega)]
theorem docD_cons (b : Int) (l : List Int) : docD (b :: l) = (if wholeB (b :: l) = true then valN ((b :: l).take (rowN (b :: l))) else 65533) :: docD ((b :: l).drop (max (rowN (b :: l)) 1)) := by
  unfold docD
  show docF (l.length + 1) (b :: l) = _
  conv => lhs; unfold docF
  rw [docF_fuel l.length _ _ (by rw [List.length_drop, List.length_cons]; omega) (Nat.le_refl _)]
theorem rowGo_nil (c : Int) (i : Nat) : rowGo c i [] = i := rfl
theorem rowGo_yes {c : Int} {i : Nat} {b : Int} {l : List Int} (h : i < longN c ∧ mayB c i b = true) : rowGo c i (b :: l) = rowGo c (i + 1) l := by
  conv => lhs; unfold rowGo
  rw [if_pos h]
theorem rowGo_no {c : Int} {i : Nat} {b : Int} {l : List Int} (h : ¬ (i < longN c ∧ mayB c i b = true)) : rowGo c i (b :: l) = i := by
  conv => lhs; unfold rowGo
  rw [if_neg h]
theorem rowGo_end (c : Int) (s : List Int) : rowGo c (longN c) s = longN c := by
  cases s with
  | nil => rfl
  | cons b l => exact rowGo_no (by omega)
theorem whole_of {b : Int} {l : List Int} {n : Nat} (h : rowN (b :: l) = n) : wholeB (b :: l) = (decide (0 < n) && decide (n = longN b)) := by
  unfold wholeB; rw [h]; rfl
theorem doc_bad {b : Int} {l : List Int} {n : Nat} (h : rowN (b :: l) = n) (hn : n < longN b) : docD (b :: l) = 65533 :: docD ((b :: l).drop (max n 1)) := by
  rw [docD_cons, whole_of h, h, if_neg (by simp; omega)]
theorem doc_whole {b : Int} {l : List Int} (h : rowN (b :: l) = longN b) : docD (b :: l) = valN ((b :: l).take (longN b)) :: docD ((b :: l).drop (longN b)) := by
  have h1 : 0 < longN b := by unfold longN; split; · omega
                              split; · omega
                              split <;> omega
  rw [docD_cons, whole_of h, h, if_pos (by simp; omega), Nat.max_eq_left (by omega)]
theorem row_1 {b : Int} (h : b < 128 ∨ (194 ≤ b ∧ b ≤ 244)) (l : List Int) : rowN (b :: l) = rowGo b 1 l := by
  unfold rowN
  refine rowGo_yes ⟨?_, ?_⟩
  · show 0 < longN b
    unfold longN; split; · omega
    split; · omega
    split <;> omega
  · unfold mayB; rw [if_pos rfl]; simp; omega
/-- may the second byte be it? -/
theorem may_1 {c b : Int} : mayB c 1 b = true ↔ ¬ (b < (Dc1 c).lo ∨ (Dc1 c).hi < b) := by
  unfold mayB Dc1
  rw [if_neg (by omega)]
  by_cases h1 : c = 224
  · subst h1; simp
  · rw [if_neg (fun h => h1 h.2)]
    by_cases h2 : c = 237
    · subst h2; simp
    · rw [if_neg (fun h => h2 h.2)]
      by_cases h3 : c = 240
      · subst h3; simp
      · rw [if_neg (fun h => h3 h.2)]
        by_cases h4 : c = 244
        · subst h4; simp
        · rw [if_neg (fun h => h4 h.2)]
          simp only [if_neg h1, if_neg h2, if_neg h3, if_neg h4, Bool.and_eq_true, decide_eq_true_eq]
          omega
theorem may_2 {c b : Int} {i : Nat} (hi : 2 ≤ i) : mayB c i b = true ↔ 128 ≤ b ∧ b ≤ 191 := by
  unfold mayB
  rw [if_neg (by omega), if_neg (by omega), if_neg (by omega), if_neg (by omega), if_neg (by omega), Bool.and_eq_true, decide_eq_true_eq, decide_eq_true_eq]
/-- what the decoder tells is what the document tells -/
theorem dec_doc : ∀ (n : Nat) (s : List Int), s.length ≤ n → (∀ x ∈ s, 0 ≤ x ∧ x ≤ 255) → decS Dc0 s = docD s
  | _, [], _, _ => rfl
  | 0, b :: l, h, _ => by simp at h
  | n + 1, b :: l, h, hb => by
    have hl : l.length ≤ n := by simpa using h
    have ih : ∀ t : List Int, (∃ k, 1 ≤ k ∧ t = (b :: l).drop k) → decS Dc0 t = docD t := by
      rintro t ⟨k, hk, rfl⟩
      refine dec_doc n _ (by rw [List.length_drop, List.length_cons]; omega) (fun x hx => hb x (List.mem_of_mem_drop hx))
    by_cases h1 : b < 128
    · rw [dec_low h1, doc_whole (by rw [row_1 (.inl h1), show longN b = 1 by unfold longN; rw [if_pos h1]]; have := rowGo_end b l; rw [show longN b = 1 by unfold longN; rw [if_pos h1]] at this; exact this), show longN b = 1 by unfold longN; rw [if_pos h1]]
      rw [ih l ⟨1, Nat.le_refl _, rfl⟩]
      rfl
    · by_cases h2 : b < 194 ∨ 244 < b
      · have hr : rowN (b :: l) = 0 := by
          unfold rowN
          refine rowGo_no fun h => ?_
          have h3 := h.2
          unfold mayB at h3
          rw [if_pos rfl, List.headD_cons] at h3
          simp at h3
          omega
        rw [dec_none h1 h2, doc_bad hr (by unfold longN; split; · omega
                                           split; · omega
                                           split <;> omega)]
        rw [ih l ⟨1, Nat.le_refl _, rfl⟩]
        rfl
      · have hr := row_1 (b := b) (.inr (by omega)) l
        rw [dec_one h1 h2]
        have hL : longN b = (Dc1 b).nd.toNat + 1 := by
          unfold longN Dc1
          rw [if_neg h1]
          split
          · rfl
          · split <;> rfl
        have hnd : (Dc1 b).nd = 1 ∨ (Dc1 b).nd = 2 ∨ (Dc1 b).nd = 3 := by
          unfold Dc1
          show (if b < 224 then (1 : Int) else if b < 240 then 2 else 3) = 1 ∨ _
          split
          · exact .inl rfl
          · split
            · exact .inr (.inl rfl)
            · exact .inr (.inr rfl)
        have hv : (Dc1 b).vl = if (Dc1 b).nd = 1 then b - 192 else if (Dc1 b).nd = 2 then b - 224 else b - 240 := by
          have := hb b List.mem_cons_self
          unfold Dc1
          show (if b < 224 then b % 32 else if b < 240 then b % 16 else b % 8) = if (if b < 224 then (1 : Int) else if b < 240 then 2 else 3) = 1 then b - 192 else if (if b < 224 then (1 : Int) else if b < 240 then 2 else 3) = 2 then b - 224 else b - 240
          by_cases h4 : b < 224
          · rw [if_pos h4, if_pos h4, if_pos rfl]; omega
          · rw [if_neg h4, if_neg h4]
            by_cases h5 : b < 240
            · rw [if_pos h5, if_pos h5, if_neg (by decide), if_pos rfl]; omega
            · rw [if_neg h5, if_neg h5, if_neg (by decide), if_neg (by decide)]; omega
        cases l with
        | nil =>
          rw [dec_nil (by omega), doc_bad (n := 1) hr (by omega)]
          rfl
        | cons b1 l =>
          have hb1 := hb b1 (by simp)
          by_cases m1 : mayB b 1 b1 = true
          · rw [rowGo_yes ⟨by omega, m1⟩] at hr
            rcases hnd with e | e | e
            · have hl2 : longN b = 2 := by rw [hL, e]; rfl
              rw [dec_last e (may_1.1 m1), doc_whole (by rw [hr]; have := rowGo_end b l; rw [hl2] at this ⊢; exact this), hl2]
              rw [ih l ⟨2, by omega, rfl⟩, hv, if_pos e]
              have : valN ((b :: b1 :: l).take 2) = 64 * (b - 192) + b1 - 128 := rfl
              rw [this]
              have := may_1.1 m1
              have hlh : 128 ≤ (Dc1 b).lo ∧ (Dc1 b).hi ≤ 191 := by
                unfold Dc1
                show 128 ≤ (if b = 224 then (160 : Int) else if b = 240 then 144 else 128) ∧ (if b = 237 then (159 : Int) else if b = 244 then 143 else 191) ≤ 191
                constructor
                · split; · decide
                  split <;> decide
                · split; · decide
                  split <;> decide
              rw [show (b - 192) * 64 + b1 % 64 = 64 * (b - 192) + b1 - 128 by omega]
              rfl
            all_goals
              have hlh : 128 ≤ (Dc1 b).lo ∧ (Dc1 b).hi ≤ 191 := by
                unfold Dc1
                show 128 ≤ (if b = 224 then (160 : Int) else if b = 240 then 144 else 128) ∧ (if b = 237 then (159 : Int) else if b = 244 then 143 else 191) ≤ 191
                constructor
                · split; · decide
                  split <;> decide
                · split; · decide
                  split <;> decide
              have m1' := may_1.1 m1
              rw [dec_more (by omega) (by omega) m1', hv]
              cases l with
              | nil =>
                rw [dec_nil (by show (Dc1 b).nd - 1 ≠ 0; omega), doc_bad (n := 2) hr (by omega)]
                rfl
              | cons b2 l =>
                by_cases m2 : 128 ≤ b2 ∧ b2 ≤ 191
                · rw [rowGo_yes ⟨by omega, (may_2 (Nat.le_refl _)).2 m2⟩] at hr
                  first
                    | (have hl3 : longN b = 3 := by rw [hL, e]; rfl
                       rw [dec_last (by show (Dc1 b).nd - 1 = 1; omega) (by show ¬ (b2 < 128 ∨ 191 < b2); omega), doc_whole (by rw [hr]; have := rowGo_end b l; rw [hl3] at this ⊢; exact this), hl3]
                       rw [ih l ⟨3, by omega, rfl⟩, if_neg (by omega), if_pos e]
                       have hval : valN ((b :: b1 :: b2 :: l).take 3) = 64 * (64 * (b - 224) + b1 - 128) + b2 - 128 := rfl
                       rw [hval]
                       rw [show ((b - 224) * 64 + b1 % 64) * 64 + b2 % 64 = 64 * (64 * (b - 224) + b1 - 128) + b2 - 128 by omega]
                       rfl)
                    | (rw [dec_more (by show (Dc1 b).nd - 1 ≠ 0; omega) (by show (Dc1 b).nd - 1 ≠ 1; omega) (by show ¬ (b2 < 128 ∨ 191 < b2); omega)]
                       cases l with
                       | nil =>
                         rw [dec_nil (by show (Dc1 b).nd - 1 - 1 ≠ 0; omega), doc_bad (n := 3) hr (by omega)]
                         rfl
                       | cons b3 l =>
                         by_cases m3 : 128 ≤ b3 ∧ b3 ≤ 191
                         · rw [rowGo_yes ⟨by omega, (may_2 (by omega)).2 m3⟩] at hr
                           have hl4 : longN b = 4 := by rw [hL, e]; rfl
                           rw [dec_last (by show (Dc1 b).nd - 1 - 1 = 1; omega) (by show ¬ (b3 < 128 ∨ 191 < b3); omega), doc_whole (by rw [hr]; have := rowGo_end b l; rw [hl4] at this ⊢; exact this), hl4]
                           rw [ih l ⟨4, by omega, rfl⟩, if_neg (by omega), if_neg (by omega)]
                           have hval : valN ((b :: b1 :: b2 :: b3 :: l).take 4) = 64 * (64 * (64 * (b - 240) + b1 - 128) + b2 - 128) + b3 - 128 := rfl
                           rw [hval]
                           rw [show (((b - 240) * 64 + b1 % 64) * 64 + b2 % 64) * 64 + b3 % 64 = 64 * (64 * (64 * (b - 240) + b1 - 128) + b2 - 128) + b3 - 128 by omega]
                           rfl
                         · rw [rowGo_no (fun h => m3 ((may_2 (by omega)).1 h.2))] at hr
                           rw [dec_bad (by show (Dc1 b).nd - 1 - 1 ≠ 0; omega) (by show b3 < 128 ∨ 191 < b3; omega), doc_bad (n := 3) hr (by omega), ih (b3 :: l) ⟨3, by omega, rfl⟩]
                           rfl)
                · rw [rowGo_no (fun h => m2 ((may_2 (Nat.le_refl _)).1 h.2))] at hr
                  rw [dec_bad (by show (Dc1 b).nd - 1 ≠ 0; omega) (by show b2 < 128 ∨ 191 < b2; omega), doc_bad (n := 2) hr (by omega), ih (b2 :: l) ⟨2, by omega, rfl⟩]
                  rfl
          · rw [rowGo_no (fun h => m1 h.2)] at hr
            have hbad : b1 < (Dc1 b).lo ∨ (Dc1 b).hi < b1 := by
              by_cases q : b1 < (Dc1 b).lo ∨ (Dc1 b).hi < b1
              · exact q
              · exact absurd (may_1.2 q) m1
            rw [dec_bad (by omega) hbad, doc_bad (n := 1) hr (by omega), ih (b1 :: l) ⟨1, by omega, rfl⟩]
            rfl
/-- a scalar's bytes are read as it -/
theorem dec_put {r : Int} (h : validB r = true) (l : List Int) : decS Dc0 (putN r ++ l) = r :: decS Dc0 l := by
  have hv := validB_iff.1 h
  unfold putN
  rw [fixR_ok h]
  split
  · rename_i h1
    exact dec_low h1
  · split
    · show decS Dc0 ((192 + r / 64) :: (128 + r % 64) :: l) = _
      have e1 : (Dc1 (192 + r / 64)).nd = 1 := by unfold Dc1; show (if _ then (1 : Int) else _) = 1; rw [if_pos (by omega)]
      have e2 : (Dc1 (192 + r / 64)).vl = r / 64 := by unfold Dc1; show (if _ then _ else _) = _; rw [if_pos (by omega)]; omega
      have e3 : ¬ ((128 + r % 64) < (Dc1 (192 + r / 64)).lo ∨ (Dc1 (192 + r / 64)).hi < (128 + r % 64)) := by
        unfold Dc1
        show ¬ ((128 + r % 64) < (if _ then (160 : Int) else if _ then 144 else 128) ∨ (if _ then (159 : Int) else if _ then 143 else 191) < (128 + r % 64))
        rw [if_neg (by omega), if_neg (by omega), if_neg (by omega), if_neg (by omega)]
        omega
      rw [dec_one (by omega) (by omega), dec_last e1 e3, e2, show r / 64 * 64 + (128 + r % 64) % 64 = r by omega]
    · split
      · show decS Dc0 ((224 + r / 4096) :: (128 + r / 64 % 64) :: (128 + r % 64) :: l) = _
        have e1 : (Dc1 (224 + r / 4096)).nd = 2 := by unfold Dc1; show (if _ then (1 : Int) else if _ then 2 else 3) = 2; rw [if_neg (by omega), if_pos (by omega)]
        have e2 : (Dc1 (224 + r / 4096)).vl = r / 4096 := by unfold Dc1; show (if _ then _ else if _ then _ else _) = _; rw [if_neg (by omega), if_pos (by omega)]; omega
        have e3 : ¬ ((128 + r / 64 % 64) < (Dc1 (224 + r / 4096)).lo ∨ (Dc1 (224 + r / 4096)).hi < (128 + r / 64 % 64)) := by
          unfold Dc1
          show ¬ ((128 + r / 64 % 64) < (if _ then (160 : Int) else if _ then 144 else 128) ∨ (if _ then (159 : Int) else if _ then 143 else 191) < (128 + r / 64 % 64))
          split
          · rw [if_neg (by omega), if_neg (by omega)]; omega
          · rw [if_neg (by omega)]
            split
            · omega
            · rw [if_neg (by omega)]; omega
        rw [dec_one (by omega) (by omega), dec_more (by omega) (by omega) e3, e2]
        rw [dec_last (by show (Dc1 (224 + r / 4096)).nd - 1 = 1; omega) (by show ¬ ((128 + r % 64) < 128 ∨ 191 < (128 + r % 64)); omega)]
        show ((r / 4096 * 64 + (128 + r / 64 % 64) % 64) * 64 + (128 + r % 64) % 64) :: _ = _
        rw [show (r / 4096 * 64 + (128 + r / 64 % 64) % 64) * 64 + (128 + r % 64) % 64 = r by omega]
      · show decS Dc0 ((240 + r / 262144) :: (128 + r / 4096 % 64) :: (128 + r / 64 % 64) :: (128 + r % 64) :: l) = _
        have e1 : (Dc1 (240 + r / 262144)).nd = 3 := by unfold Dc1; show (if _ then (1 : Int) else if _ then 2 else 3) = 3; rw [if_neg (by omega), if_neg (by omega)]
        have e2 : (Dc1 (240 + r / 262144)).vl = r / 262144 := by unfold Dc1; show (if _ then _ else if _ then _ else _) = _; rw [if_neg (by omega), if_neg (by omega)]; omega
        have e3 : ¬ ((128 + r / 4096 % 64) < (Dc1 (240 + r / 262144)).lo ∨ (Dc1 (240 + r / 262144)).hi < (128 + r / 4096 % 64)) := by
          unfold Dc1
          show ¬ ((128 + r / 4096 % 64) < (if _ then (160 : Int) else if _ then 144 else 128) ∨ (if _ then (159 : Int) else if _ then 143 else 191) < (128 + r / 4096 % 64))
          rw [if_neg (show ¬ 240 + r / 262144 = 224 by omega), if_neg (show ¬ 240 + r / 262144 = 237 by omega)]
          split
          · rw [if_neg (by omega)]; omega
          · split <;> omega
        rw [dec_one (by omega) (by omega), dec_more (by omega) (by omega) e3, e2]
        rw [dec_more (by show (Dc1 (240 + r / 262144)).nd - 1 ≠ 0; omega) (by show (Dc1 (240 + r / 262144)).nd - 1 ≠ 1; omega) (by show ¬ ((128 + r / 64 % 64) < 128 ∨ 191 < (128 + r / 64 % 64)); omega)]
        rw [dec_last (by show (Dc1 (240 + r / 262144)).nd - 1 - 1 = 1; omega) (by show ¬ ((128 + r % 64) < 128 ∨ 191 < (128 + r % 64)); omega)]
        show (((r / 262144 * 64 + (128 + r / 4096 % 64) % 64) * 64 + (128 + r / 64 % 64) % 64) * 64 + (128 + r % 64) % 64) :: _ = _
        rw [show ((r / 262144 * 64 + (128 + r / 4096 % 64) % 64) * 64 + (128 + r / 64 % 64) % 64) * 64 + (128 + r % 64) % 64 = r by omega]
/-- the bytes of scalars are read as these -/
theorem dec_enc : ∀ (l : List Int), (∀ r ∈ l, validB r = true) → decS Dc0 (encN l) = l
  | [], _ => rfl
  | r :: l, h => by
    show decS Dc0 ((r :: l).flatMap putN) = _
    rw [List.flatMap_cons, dec_put (h r List.mem_cons_self)]
    have := dec_enc l (fun x hx => h x (List.mem_cons_of_mem _ hx))
    unfold encN at this
    rw [this]
end Go.Proofs.YthlpelfogplomaaGreat

/- Glyphs read again, plainly: a line of glyphs, sent as bytes, is taken for these. No program is named here. -/
namespace Go.Proofs.YthlpelfogplomaaGreat
open Go.RowKit

/-- a state behind scalars -/
def stF (T : Tab) : St → List Int → St
  | st, [] => st
  | st, r :: l => stF T (nextSt T st r) l
/-- no cluster begins within -/
def noCut (T : Tab) : St → List Int → Prop
  | _, [] => True
  | st, r :: l => cutB T st r = false ∧ noCut T (nextSt T st r) l
/-- one cluster, from a fresh start -/
def solid (T : Tab) (g : List Int) : Prop := ∃ a l, g = a :: l ∧ noCut T (nextSt T St0 a) l
/-- clusters, one behind the other, behind a state -/
def ChG (T : Tab) : St → List (List Int) → Prop
  | _, [] => True
  | st, g :: L => solid T g ∧ cutB T st (g.headD 0) = true ∧ ChG T (stF T St0 g) L
def lastS (T : Tab) : St → List (List Int) → St
  | st, [] => st
  | _, g :: L => lastS T (stF T St0 g) L
theorem stF_app (T : Tab) : ∀ (a : List Int) (st : St) (b : List Int), stF T st (a ++ b) = stF T (stF T st a) b
  | [], _, _ => rfl
  | x :: a, st, b => stF_app T a (nextSt T st x) b
theorem noCut_app (T : Tab) : ∀ (a : List Int) (st : St) (b : List Int), noCut T st (a ++ b) ↔ noCut T st a ∧ noCut T (stF T st a) b
  | [], _, _ => ⟨fun h => ⟨trivial, h⟩, fun h => h.2⟩
  | x :: a, st, b => by
    have ih := noCut_app T a (nextSt T st x) b
    show (_ ∧ noCut T (nextSt T st x) (a ++ b)) ↔ (_ ∧ noCut T (nextSt T st x) a) ∧ _
    rw [ih, and_assoc]
    rfl
theorem ChG_app (T : Tab) : ∀ (A : List (List Int)) (st : St) (B : List (List Int)), ChG T st (A ++ B) ↔ ChG T st A ∧ ChG T (lastS T st A) B
  | [], _, _ => ⟨fun h => ⟨trivial, h⟩, fun h => h.2⟩
  | g :: A, st, B => by
    have ih := ChG_app T A (stF T St0 g) B
    show (solid T g ∧ _ ∧ ChG T (stF T St0 g) (A ++ B)) ↔ (solid T g ∧ _ ∧ ChG T (stF T St0 g) A) ∧ ChG T (lastS T (stF T St0 g) A) B
    rw [ih]
    exact ⟨fun h => ⟨⟨h.1, h.2.1, h.2.2.1⟩, h.2.2.2⟩, fun h => ⟨h.1.1, h.1.2.1, h.1.2.2, h.2⟩⟩
theorem lastS_app (T : Tab) : ∀ (A : List (List Int)) (st : St) (B : List (List Int)), lastS T st (A ++ B) = lastS T (lastS T st A) B
  | [], _, _ => rfl
  | g :: A, _, B => lastS_app T A (stF T St0 g) B
theorem cut_0 (T : Tab) (r : Int) : cutB T St0 r = true := rfl
theorem ChG.start {T : Tab} {st : St} {L : List (List Int)} (h : ChG T st L) : ChG T St0 L := by
  cases L with
  | nil => trivial
  | cons g L => exact ⟨h.1, cut_0 T _, h.2.2⟩
theorem ChG.sub {T : Tab} {st : St} {L : List (List Int)} (h : ChG T st L) (a n : Nat) : ChG T St0 ((L.drop a).take n) := by
  have h1 : ChG T St0 (L.drop a) := by
    rw [← List.take_append_drop a L, ChG_app] at h
    exact h.2.start
  rw [← List.take_append_drop n (L.drop a), ChG_app] at h1
  exact h1.1
theorem run_solid (T : Tab) : ∀ (l : List Int) (st : St) (rest : List Int), noCut T st l → (rest = [] ∨ ∃ h t, rest = h :: t ∧ cutB T (stF T st l) h = true) → runLen T st (l ++ rest) = l.length
  | [], st, rest, _, h => by
    rcases h with rfl | ⟨h, t, rfl, hc⟩
    · rfl
    · have hc' : cutB T st h = true := hc
      show (if cutB T st h then 0 else _) = 0
      rw [if_pos hc']
  | x :: l, st, rest, hn, h => by
    show (if cutB T st x then 0 else runLen T (nextSt T st x) (l ++ rest) + 1) = _
    rw [hn.1, if_neg (by decide), run_solid T l (nextSt T st x) rest hn.2 h]
    rfl
theorem solid_ne {T : Tab} {g : List Int} (h : solid T g) : g ≠ [] := by
  obtain ⟨a, l, rfl, _⟩ := h
  simp
/-- clusters, one behind the other, are found again -/
theorem clus_chain (T : Tab) : ∀ (L : List (List Int)), ChG T St0 L → clus T L.flatten = L
  | [], _ => rfl
  | g :: L, h => by
    obtain ⟨⟨a, l, rfl, hn⟩, _, h2⟩ := h
    have hnx : nx T ((a :: l) ++ L.flatten) = (a :: l).length := by
      show runLen T (nextSt T St0 a) (l ++ L.flatten) + 1 = l.length + 1
      rw [run_solid T l _ _ hn ?_]
      cases L with
      | nil => exact .inl rfl
      | cons k L =>
        obtain ⟨⟨b, m, rfl, _⟩, hc, _⟩ := h2
        exact .inr ⟨b, m ++ L.flatten, rfl, hc⟩
    have ih := clus_chain T L h2.start
    rw [List.flatten_cons, clus_step T (by simp), hnx, List.take_left, List.drop_left, ih]
theorem run_cut (T : Tab) : ∀ (l : List Int) (st : St), noCut T st (l.take (runLen T st l)) ∧ (∀ h, l[runLen T st l]? = some h → cutB T (stF T st (l.take (runLen T st l))) h = true)
  | [], st => ⟨trivial, fun h hh => by simp at hh⟩
  | x :: l, st => by
    by_cases hc : cutB T st x = true
    · have e : runLen T st (x :: l) = 0 := by
        show (if cutB T st x then 0 else _) = 0
        rw [if_pos hc]
      rw [e]
      refine ⟨trivial, fun h hh => ?_⟩
      have e : x = h := by simpa using hh
      subst e
      exact hc
    · have e : runLen T st (x :: l) = runLen T (nextSt T st x) l + 1 := by
        show (if cutB T st x then 0 else _) = _
        rw [if_neg hc]
      rw [e, List.take_succ_cons]
      have ih := run_cut T l (nextSt T st x)
      exact ⟨⟨Bool.eq_false_iff.2 hc, ih.1⟩, fun h hh => ih.2 h (by simpa using hh)⟩
/-- a text's clusters are such -/
theorem ch_clus (T : Tab) : ∀ (n : Nat) (s : List Int) (st : St), s.length ≤ n → (∀ h, s[0]? = some h → cutB T st h = true) → ChG T st (clus T s)
  | n, [], _, _, _ => by rw [clus_nil]; trivial
  | 0, a :: l, _, h, _ => by simp at h
  | n + 1, a :: l, st, h, hc => by
    rw [clus_step T (by simp)]
    have hr := run_cut T l (nextSt T St0 a)
    have hnx : nx T (a :: l) = runLen T (nextSt T St0 a) l + 1 := rfl
    rw [hnx, List.take_succ_cons, List.drop_succ_cons]
    refine ⟨⟨a, _, rfl, hr.1⟩, hc a rfl, ch_clus T n _ _ (by rw [List.length_drop]; simp at h; omega) fun k hk => ?_⟩
    rw [List.getElem?_drop, Nat.add_zero] at hk
    exact hr.2 k hk
/-- a scalar with no properties -/
structure dull (T : Tab) (x : Int) : Prop where
  b : T.b x = 0
  p : T.p x = false
  c : T.c x = 0
def StD : St := ⟨true, 0, 0, 0, false⟩
theorem dull_next {T : Tab} {x : Int} (h : dull T x) (st : St) : nextSt T st x = StD := by
  unfold nextSt nextP nextC
  rw [h.b, h.p, h.c, if_neg (by decide), if_neg (by omega), if_neg (by omega), if_neg (by decide), if_neg (by omega), if_neg (by omega)]
  rfl
theorem dull_solid {T : Tab} (x : Int) : solid T [x] := ⟨x, [], rfl, trivial⟩
theorem hang_0 (a : Int) : hangulB a 0 = false := by unfold hangulB; simp
theorem hang_0' (b : Int) : hangulB 0 b = false := by unfold hangulB; simp
theorem dull_cut {T : Tab} {x : Int} (h : dull T x) {st : St} (h7 : st.last ≠ 7) : cutB T st x = true := by
  unfold cutB
  have hs : sticksB st.last 0 = false := by
    unfold sticksB
    split
    · rfl
    · split
      · rfl
      · rw [if_neg (show ¬ ((0 : Int) = 1 ∨ (0 : Int) = 2 ∨ (0 : Int) = 3) by decide), if_neg (show ¬ ((0 : Int) = 4 ∨ (0 : Int) = 5 ∨ (0 : Int) = 8) by decide)]
        first
          | rw [if_neg h7, hang_0]
          | rw [hang_0]
  rw [h.b, h.p, h.c, hs]
  simp
theorem D_cut {T : Tab} {r : Int} (h4 : T.b r ≠ 4) (h5 : T.b r ≠ 5) (h8 : T.b r ≠ 8) : cutB T StD r = true := by
  have hs : sticksB 0 (T.b r) = false := by
    unfold sticksB
    rw [if_neg (by decide), if_neg (by decide)]
    split
    · rfl
    · rw [if_neg (by omega), if_neg (by decide), hang_0']
  unfold cutB StD
  rw [hs]
  simp
theorem dull_stick {T : Tab} {x r : Int} (h : dull T x) (hr : T.b r = 4 ∨ T.b r = 5 ∨ T.b r = 8) : cutB T (nextSt T St0 x) r = false ∧ nextSt T (nextSt T St0 x) r = nextSt T St0 r := by
  rw [dull_next h]
  constructor
  · have hs : sticksB 0 (T.b r) = true := by
      unfold sticksB
      rw [if_neg (by decide), if_neg (by decide), if_neg (by omega), if_pos hr]
    unfold cutB StD
    rw [hs]
    rfl
  · unfold nextSt nextP nextC StD St0
    have h6 : decide (T.b r = 6) = false := decide_eq_false (by omega)
    rw [h6]
/-- the state behind a cluster, and that behind its glyphs -/
def Akin (st st' : St) : Prop := (st' = st ∧ st.last ≠ 7) ∨ st' = StD
theorem Akin.last {st st' : St} (h : Akin st st') : st'.last ≠ 7 := by
  rcases h with ⟨rfl, h⟩ | rfl
  · exact h
  · decide
/-- dull scalars, each alone -/
theorem dulls_chain {T : Tab} : ∀ (L : List (List Int)) (st : St), (∀ g ∈ L, ∃ x, g = [x] ∧ dull T x) → st.last ≠ 7 → ChG T st L ∧ (L ≠ [] → lastS T st L = StD)
  | [], _, _, _ => ⟨trivial, fun h => absurd rfl h⟩
  | g :: L, st, h, h7 => by
    obtain ⟨x, rfl, hx⟩ := h g List.mem_cons_self
    have hs : stF T St0 [x] = StD := dull_next hx St0
    obtain ⟨i1, i2⟩ := dulls_chain L StD (fun k hk => h k (List.mem_cons_of_mem _ hk)) (by decide)
    refine ⟨⟨dull_solid x, dull_cut hx h7, by rw [hs]; exact i1⟩, fun _ => ?_⟩
    show lastS T (stF T St0 [x]) L = StD
    rw [hs]
    cases L with
    | nil => rfl
    | cons k L => exact i2 (by simp)
theorem stF_last (T : Tab) : ∀ (l : List Int) (st : St), l ≠ [] → (stF T st l).last = T.b (l.getLastD 0)
  | [], _, h => absurd rfl h
  | [x], _, _ => rfl
  | x :: y :: l, st, _ => by
    show (stF T (nextSt T st x) (y :: l)).last = _
    rw [stF_last T (y :: l) _ (by simp)]
    simp [List.getLastD]
section
variable (R : List Rw)
/-- what a scalar that controls is shown as -/
def caretS (r : Int) : List (List Int) := if 0 ≤ r ∧ r < 32 then [[94], [r + 64]] else if r = 127 then [[94], [63]] else [[65533]]
/-- the scalars of a cluster's glyphs -/
def sclOf (c : List Int) : List (List Int) := if c = [] then [] else if ctlB ((tabOf R).b (c.headD 0)) then c.flatMap caretS else [lean R c]
/-- scalars that stand for others have no properties -/
structure DullR : Prop where
  d : ∀ x, (x = 94 ∨ x = 63 ∨ x = 65533 ∨ x = 9676 ∨ x = 120 ∨ x = 121 ∨ (64 ≤ x ∧ x < 96)) → dull (tabOf R) x
  w : ∀ x, (x = 94 ∨ x = 63 ∨ x = 65533 ∨ x = 9676 ∨ x = 120 ∨ x = 121 ∨ (64 ≤ x ∧ x < 96)) → wideB R x = false
variable {R}
theorem caret_dull (D : DullR R) (r : Int) : ∀ g ∈ caretS r, ∃ x, g = [x] ∧ dull (tabOf R) x := by
  intro g hg
  unfold caretS at hg
  split at hg
  · rename_i h
    simp only [List.mem_cons, List.not_mem_nil, or_false] at hg
    rcases hg with rfl | rfl
    · exact ⟨_, rfl, D.d _ (.inl rfl)⟩
    · exact ⟨_, rfl, D.d _ (by omega)⟩
  · split at hg
    · simp only [List.mem_cons, List.not_mem_nil, or_false] at hg
      rcases hg with rfl | rfl
      · exact ⟨_, rfl, D.d _ (.inl rfl)⟩
      · exact ⟨_, rfl, D.d _ (.inr (.inl rfl))⟩
    · simp only [List.mem_cons, List.not_mem_nil, or_false] at hg
      subst hg
      exact ⟨_, rfl, D.d _ (by omega)⟩
theorem caretS_ne (r : Int) : caretS r ≠ [] := by
  unfold caretS
  split
  · simp
  · split <;> simp
/-- a cluster that leans on nothing -/
theorem lean_solid (D : DullR R) {c : List Int} (hs : solid (tabOf R) c) (hc : ctlB ((tabOf R).b (c.headD 0)) = false) :
    solid (tabOf R) (lean R c) ∧ Akin (stF (tabOf R) St0 c) (stF (tabOf R) St0 (lean R c)) ∧
    ((lean R c).headD 0 = 9676 ∨ ((lean R c).headD 0 = c.headD 0 ∧ dotB ((tabOf R).b (c.headD 0)) = false)) := by
  have d9 := D.d 9676 (by omega)
  obtain ⟨a, l, rfl, hn⟩ := hs
  -- what stands ahead
  have h1 : ∃ l1, (if dotB ((tabOf R).b ((a :: l).headD 0)) then [9676] else []) ++ (a :: l) = l1 ∧ solid (tabOf R) l1 ∧ stF (tabOf R) St0 l1 = stF (tabOf R) St0 (a :: l) ∧ (l1.headD 0 = 9676 ∨ (l1.headD 0 = a ∧ dotB ((tabOf R).b a) = false)) ∧ l1 ≠ [] := by
    by_cases hd : dotB ((tabOf R).b a) = true
    · have hb : (tabOf R).b a = 4 ∨ (tabOf R).b a = 5 ∨ (tabOf R).b a = 8 := by simpa [dotB, or_assoc] using hd
      obtain ⟨e1, e2⟩ := dull_stick d9 hb
      refine ⟨9676 :: a :: l, by rw [List.headD_cons, if_pos hd]; rfl, ⟨9676, a :: l, rfl, e1, by rw [e2]; exact hn⟩, ?_, .inl rfl, by simp⟩
      show stF (tabOf R) (nextSt (tabOf R) (nextSt (tabOf R) St0 9676) a) l = stF (tabOf R) (nextSt (tabOf R) St0 a) l
      rw [e2]
    · refine ⟨a :: l, by rw [List.headD_cons, if_neg hd]; rfl, ⟨a, l, rfl, hn⟩, rfl, .inr ⟨rfl, Bool.eq_false_iff.2 hd⟩, by simp⟩
  obtain ⟨l1, e1, hs1, hst, hh, hne⟩ := h1
  have hlast := stF_last (tabOf R) (a :: l) St0 (by simp)
  unfold lean
  rw [e1]
  by_cases h7 : (tabOf R).b ((a :: l).getLastD 0) = 7
  · rw [if_pos h7]
    obtain ⟨x, m, rfl, hm⟩ := hs1
    refine ⟨⟨x, m ++ [9676], rfl, (noCut_app _ _ _ _).2 ⟨hm, ?_, trivial⟩⟩, .inr ?_, ?_⟩
    · have hst' : stF (tabOf R) (nextSt (tabOf R) St0 x) m = stF (tabOf R) St0 (a :: l) := hst
      rw [hst']
      have hsm : ∀ (k : List Int) (st : St), st.some = true → (stF (tabOf R) st k).some = true := by
        intro k
        induction k with
        | nil => intro st h; exact h
        | cons y k ih => intro st _; exact ih _ rfl
      have hsome : (stF (tabOf R) St0 (a :: l)).some = true := hsm l _ rfl
      have hs7 : sticksB 7 0 = true := by decide
      unfold cutB
      rw [hlast, h7, d9.b, hs7, hsome]
      rfl
    · rw [List.cons_append, show x :: (m ++ [9676]) = (x :: m) ++ [9676] from rfl, stF_app]
      exact dull_next d9 _
    · exact hh
  · rw [if_neg h7, List.append_nil]
    refine ⟨hs1, .inl ⟨hst, by rw [hlast]; exact h7⟩, hh⟩
/-- glyphs of clusters, one behind the other -/
theorem scl_chain (D : DullR R) : ∀ (L : List (List Int)) (st st' : St), ChG (tabOf R) st L → Akin st st' → ChG (tabOf R) st' (L.flatMap (sclOf R)) ∧ (lastS (tabOf R) st' (L.flatMap (sclOf R))).last ≠ 7
  | [], _, _, _, hA => ⟨trivial, hA.last⟩
  | c :: L, st, st', h, hA => by
    obtain ⟨hs, hcut, hL⟩ := h
    have hne := solid_ne hs
    rw [List.flatMap_cons, ChG_app, lastS_app]
    have key : ChG (tabOf R) st' (sclOf R c) ∧ Akin (stF (tabOf R) St0 c) (lastS (tabOf R) st' (sclOf R c)) := by
      unfold sclOf
      rw [if_neg hne]
      by_cases hc : ctlB ((tabOf R).b (c.headD 0)) = true
      · rw [if_pos hc]
        have h1 := dulls_chain (T := tabOf R) (c.flatMap caretS) st' (fun g hg => by
          obtain ⟨r, _, hr⟩ := List.mem_flatMap.1 hg
          exact caret_dull D r g hr) hA.last
        refine ⟨h1.1, .inr (h1.2 ?_)⟩
        cases c with
        | nil => exact absurd rfl hne
        | cons r c =>
          rw [List.flatMap_cons]
          intro e
          exact caretS_ne r (List.append_eq_nil_iff.1 e).1
      · rw [if_neg hc]
        have hc' : ctlB ((tabOf R).b (c.headD 0)) = false := Bool.eq_false_iff.2 hc
        obtain ⟨h1, h2, h3⟩ := lean_solid D hs hc'
        refine ⟨⟨h1, ?_, trivial⟩, h2⟩
        rcases h3 with h3 | ⟨h3, h4⟩
        · rw [h3]
          exact dull_cut (D.d 9676 (by omega)) hA.last
        · rw [h3]
          rcases hA with ⟨rfl, _⟩ | rfl
          · exact hcut
          · have hb : (tabOf R).b (c.headD 0) ≠ 4 ∧ (tabOf R).b (c.headD 0) ≠ 5 ∧ (tabOf R).b (c.headD 0) ≠ 8 := by
              simp only [dotB, Bool.or_eq_false_iff, decide_eq_false_iff_not] at h4
              exact ⟨h4.1.1, h4.1.2, h4.2⟩
            exact D_cut hb.1 hb.2.1 hb.2.2
    have ih := scl_chain D L _ _ hL key.2
    exact ⟨⟨key.1, ih.1⟩, ih.2⟩
/-- any text's glyphs, from any on up to any, are found again -/
theorem reads_again (D : DullR R) (s : List Int) (a n : Nat) : clus (tabOf R) ((((clus (tabOf R) s).flatMap (sclOf R)).drop a).take n).flatten = (((clus (tabOf R) s).flatMap (sclOf R)).drop a).take n := by
  have h := scl_chain D (clus (tabOf R) s) St0 St0 (ch_clus (tabOf R) s.length s St0 (Nat.le_refl _) (fun _ _ => rfl)) (.inl ⟨rfl, by decide⟩)
  exact clus_chain _ _ (h.1.sub a n)
/-- and between plain letters -/
theorem reads_between (D : DullR R) (s : List Int) : clus (tabOf R) ([[120]] ++ (clus (tabOf R) s).flatMap (sclOf R) ++ [[121]]).flatten = [[120]] ++ (clus (tabOf R) s).flatMap (sclOf R) ++ [[121]] := by
  refine clus_chain _ _ ?_
  have h := scl_chain D (clus (tabOf R) s) St0 StD (ch_clus (tabOf R) s.length s St0 (Nat.le_refl _) (fun _ _ => rfl)) (.inr rfl)
  have h120 := D.d 120 (by omega)
  have h121 := D.d 121 (by omega)
  rw [ChG_app]
  refine ⟨⟨dull_solid _, rfl, ?_⟩, dull_solid _, ?_, trivial⟩
  · rw [show stF (tabOf R) St0 [120] = StD from dull_next h120 _]
    exact h.1
  · show cutB (tabOf R) (lastS (tabOf R) (stF (tabOf R) St0 [120]) ((clus (tabOf R) s).flatMap (sclOf R))) 121 = true
    rw [show stF (tabOf R) St0 [120] = StD from dull_next h120 _]
    exact dull_cut h121 h.2
end
end Go.Proofs.YthlpelfogplomaaGreat
