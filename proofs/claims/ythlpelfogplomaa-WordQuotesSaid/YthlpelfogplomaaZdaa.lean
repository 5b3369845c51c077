/- Joined texts: FlowP FlowA FlowB FlowC FlowD. -/
import Derived.Test.YthlpelfogplomaaZcad
import Derived.Test.YthlpelfogplomaaZcab
import Derived.Test.YthlpelfogplomaaZcaa
import Derived.Test.YthlpelfogplomaaZaaa
/- Flow: plain law of rows that are broken between words. No program is named here. -/
namespace Go.Proofs.Ythlpelfogplomaa

/-- a cluster's columns -/
def wC (R : List Rw) (c : List Int) : Int := wdG (glOf R c)
/-- is a cluster a blank? -/
def blkC (c : List Int) : Bool := decide (c = [32])
def sumW (R : List Rw) (LL : List (List Int)) : Int := wdG (lineG R LL)
/-- columns without the blanks at the end -/
def shW (R : List Rw) : List (List Int) → Int
  | [] => 0
  | c :: LL => if (c :: LL).all blkC then 0 else wC R c + shW R LL
section
variable {R : List Rw}
theorem wC_nonneg (c : List Int) : 0 ≤ wC R c := by
  have := (wdG_rng (L := lineG R [c]) (fun g hg => (lineG_ok R g hg).1)).1
  have e : lineG R [c] = glOf R c := by simp [lineG]
  rw [e] at this
  exact this
theorem sumW_nil : sumW R [] = 0 := rfl
theorem sumW_app (A B : List (List Int)) : sumW R (A ++ B) = sumW R A + sumW R B := by
  unfold sumW lineG
  rw [List.flatMap_append, wdG_app]
theorem sumW_one (c : List Int) : sumW R [c] = wC R c := by unfold sumW lineG wC; simp
theorem sumW_cons (c : List Int) (A : List (List Int)) : sumW R (c :: A) = wC R c + sumW R A := by
  rw [show c :: A = [c] ++ A from rfl, sumW_app, sumW_one]
theorem sumW_nonneg : ∀ A : List (List Int), 0 ≤ sumW R A
  | [] => by rw [sumW_nil]; exact Int.le_refl _
  | c :: A => by
    have h1 := wC_nonneg (R := R) c
    have h2 := sumW_nonneg A
    rw [sumW_cons]; omega
theorem shW_all : ∀ {A : List (List Int)}, A.all blkC = true → shW R A = 0
  | [], _ => rfl
  | c :: A, h => by unfold shW; rw [if_pos h]
theorem shW_blanks : ∀ (A : List (List Int)) {B : List (List Int)}, B.all blkC = true → shW R (A ++ B) = shW R A
  | [], B, h => shW_all h
  | c :: A, B, h => by
    have ih := shW_blanks A h
    rw [List.cons_append]
    unfold shW
    have e : (c :: (A ++ B)).all blkC = (c :: A).all blkC := by rw [← List.cons_append, List.all_append, h, Bool.and_true]
    rw [e, ih]
theorem shW_snoc : ∀ (A : List (List Int)) {c : List Int}, blkC c = false → shW R (A ++ [c]) = sumW R (A ++ [c])
  | [], c, h => by
    show shW R [c] = sumW R [c]
    unfold shW
    rw [if_neg (by simp [h]), sumW_one]
    show wC R c + 0 = _
    omega
  | a :: A, c, h => by
    have ih := shW_snoc A h
    rw [List.cons_append]
    unfold shW
    rw [if_neg (by simp [h]), ih, sumW_cons]
theorem shW_step (A : List (List Int)) (c : List Int) : shW R (A ++ [c]) = if blkC c = true then shW R A else sumW R (A ++ [c]) := by
  by_cases h : blkC c = true
  · rw [if_pos h, shW_blanks A (by simp [h])]
  · rw [if_neg h, shW_snoc A (by simpa using h)]
theorem shW_le : ∀ A : List (List Int), 0 ≤ shW R A ∧ shW R A ≤ sumW R A
  | [] => ⟨Int.le_refl _, Int.le_refl _⟩
  | c :: A => by
    have h1 := wC_nonneg (R := R) c
    have h2 := shW_le A
    have h3 := sumW_nonneg (R := R) A
    unfold shW
    rw [sumW_cons]
    split <;> omega
theorem shW_up (A : List (List Int)) (c : List Int) : shW R A ≤ shW R (A ++ [c]) := by
  have h1 := shW_le (R := R) A
  have h2 := wC_nonneg (R := R) c
  rw [shW_step, sumW_app, sumW_one]
  split <;> omega
theorem shW_mono (LL : List (List Int)) : ∀ {i j : Nat}, i ≤ j → j ≤ LL.length → shW R (LL.take i) ≤ shW R (LL.take j) := by
  intro i j hij
  induction hij with
  | refl => intro _; exact Int.le_refl _
  | step _ ih =>
    intro hj
    rename_i m _
    obtain ⟨c, hc⟩ : ∃ c, LL[m]? = some c := ⟨_, List.getElem?_eq_getElem (by omega)⟩
    have h1 := ih (by omega)
    have h2 := shW_up (R := R) (LL.take m) c
    have e : LL.take (m + 1) = LL.take m ++ [c] := by rw [List.take_add_one, hc]; rfl
    show shW R (LL.take i) ≤ shW R (LL.take (m + 1))
    rw [e]
    omega
/-- the blanks at the end left out: what is left of so many -/
theorem shW_trim (LL : List (List Int)) {m : Nat} (hb : (LL.drop m).all blkC = true) (hm : m = 0 ∨ ∃ c, LL[m - 1]? = some c ∧ blkC c = false) : shW R LL = sumW R (LL.take m) := by
  have h1 := shW_blanks (R := R) (LL.take m) hb
  rw [List.take_append_drop] at h1
  rw [h1]
  rcases hm with rfl | ⟨c, hc, hc2⟩
  · rfl
  · have hml := (List.getElem?_eq_some_iff.1 hc).1
    cases m with
    | zero => exact rfl
    | succ m =>
      rw [Nat.add_sub_cancel] at hc
      have e : LL.take (m + 1) = LL.take m ++ [c] := by rw [List.take_add_one, hc]; rfl
      rw [e, shW_snoc _ hc2]
end
/-- the greatest number that is not 0, not above n and says yes -/
def lastN (p : Nat → Bool) : Nat → Option Nat
  | 0 => none
  | n + 1 => if p (n + 1) then some (n + 1) else lastN p n
theorem lastN_some {p : Nat → Bool} : ∀ {n e : Nat}, lastN p n = some e → 1 ≤ e ∧ e ≤ n ∧ p e = true ∧ ∀ j, e < j → j ≤ n → p j = false
  | 0, e, h => by simp [lastN] at h
  | n + 1, e, h => by
    unfold lastN at h
    by_cases hp : p (n + 1) = true
    · rw [if_pos hp] at h; cases h
      exact ⟨by omega, Nat.le_refl _, hp, fun j a b => by omega⟩
    · rw [if_neg hp] at h
      obtain ⟨h1, h2, h3, h4⟩ := lastN_some h
      refine ⟨h1, by omega, h3, fun j a b => ?_⟩
      rcases Nat.eq_or_lt_of_le b with rfl | hl
      · simpa using hp
      · exact h4 j a (by omega)
theorem lastN_none {p : Nat → Bool} : ∀ {n : Nat}, lastN p n = none → ∀ j, 1 ≤ j → j ≤ n → p j = false
  | 0, _, j, a, b => by omega
  | n + 1, h, j, a, b => by
    unfold lastN at h
    by_cases hp : p (n + 1) = true
    · rw [if_pos hp] at h; cases h
    · rw [if_neg hp] at h
      rcases Nat.eq_or_lt_of_le b with rfl | hl
      · simpa using hp
      · exact lastN_none h j a (by omega)
theorem lastN_is {p : Nat → Bool} {n e : Nat} (h1 : 1 ≤ e) (h2 : e ≤ n) (h3 : p e = true) (h4 : ∀ j, e < j → j ≤ n → p j = false) : lastN p n = some e := by
  cases h : lastN p n with
  | none => rw [lastN_none h e h1 h2] at h3; cases h3
  | some e' =>
    obtain ⟨a1, a2, a3, a4⟩ := lastN_some h
    rcases Nat.lt_trichotomy e e' with hl | rfl | hl
    · rw [h4 e' hl a2] at a3; cases a3
    · rfl
    · rw [a4 e hl h2] at h3; cases h3
theorem lastN_no {p : Nat → Bool} : ∀ {n : Nat}, (∀ j, 1 ≤ j → j ≤ n → p j = false) → lastN p n = none
  | 0, _ => rfl
  | n + 1, h => by
    unfold lastN
    rw [if_neg (by rw [h (n + 1) (by omega) (Nat.le_refl _)]; decide)]
    exact lastN_no fun j a b => h j a (by omega)
section
variable (R : List Rw) (LL : List (List Int)) (cols : Int)
def fitN (n : Nat) : Bool := decide (shW R (LL.take n) ≤ cols)
/-- may a row end there? behind blanks, ahead of what is none; at the end -/
def brkN (n : Nat) : Bool := decide (n = LL.length) || (match LL[n - 1]?, LL[n]? with | some a, some b => blkC a && !blkC b | _, _ => false)
/-- how many clusters the first row has -/
def endN : Nat := match lastN (fun n => brkN LL n && fitN R LL cols n) LL.length with
  | some n => n
  | none => match lastN (fitN R LL cols) LL.length with
    | some n => n
    | none => 1
end
section
variable {R : List Rw} {LL : List (List Int)} {cols : Int}
theorem fitN_down {i j : Nat} (hij : i ≤ j) (hj : j ≤ LL.length) (h : fitN R LL cols j = true) : fitN R LL cols i = true := by
  unfold fitN at h ⊢
  rw [decide_eq_true_eq] at h ⊢
  have := shW_mono (R := R) LL hij hj
  omega
theorem endN_rng (h : LL ≠ []) : 1 ≤ endN R LL cols ∧ endN R LL cols ≤ LL.length := by
  have hl : 0 < LL.length := List.length_pos_iff.2 h
  unfold endN
  cases h1 : lastN (fun n => brkN LL n && fitN R LL cols n) LL.length with
  | some n => obtain ⟨a, b, _⟩ := lastN_some h1; exact ⟨a, b⟩
  | none =>
    cases h2 : lastN (fitN R LL cols) LL.length with
    | some n => obtain ⟨a, b, _⟩ := lastN_some h2; exact ⟨a, b⟩
    | none => exact ⟨Nat.le_refl _, hl⟩
/-- a row that does not fit has one cluster -/
theorem endN_fit (_ : LL ≠ []) : fitN R LL cols (endN R LL cols) = true ∨ endN R LL cols = 1 := by
  unfold endN
  cases h1 : lastN (fun n => brkN LL n && fitN R LL cols n) LL.length with
  | some n =>
    obtain ⟨_, _, c, _⟩ := lastN_some h1
    rw [Bool.and_eq_true] at c
    exact .inl c.2
  | none =>
    cases h2 : lastN (fitN R LL cols) LL.length with
    | some n => obtain ⟨_, _, c, _⟩ := lastN_some h2; exact .inl c
    | none => exact .inr rfl
/-- what the program finds on its way up: m is the last that fits, b the last of these that a row may end at (0: none) -/
theorem endN_up {m b : Nat} (hm : m ≤ LL.length) (hf : ∀ j, 1 ≤ j → j ≤ m → fitN R LL cols j = true) (hn : m = LL.length ∨ fitN R LL cols (m + 1) = false)
    (hb : b ≤ m) (hb1 : b = 0 ∨ brkN LL b = true) (hb2 : ∀ j, b < j → j ≤ m → brkN LL j = false) : endN R LL cols = if 0 < b then b else if 0 < m then m else 1 := by
  have hno : ∀ j, m < j → j ≤ LL.length → fitN R LL cols j = false := by
    intro j h1 h2
    rcases hn with h | h
    · omega
    · rcases hc : fitN R LL cols j with _ | _
      · rfl
      · rw [fitN_down (i := m + 1) (by omega) h2 hc] at h; cases h
  by_cases h0 : 0 < b
  · rw [if_pos h0]
    unfold endN
    rw [lastN_is (p := fun n => brkN LL n && fitN R LL cols n) (n := LL.length) (e := b) h0 (by omega) (by
      show (brkN LL b && fitN R LL cols b) = true
      rw [hf b h0 hb, hb1.resolve_left (by omega)]; rfl) (fun j a c => by
      show (brkN LL j && fitN R LL cols j) = false
      rcases Nat.lt_or_ge m j with hl | hl
      · rw [hno j hl c, Bool.and_false]
      · rw [hb2 j a hl, Bool.false_and])]
  · rw [if_neg h0]
    unfold endN
    rw [lastN_no (p := fun n => brkN LL n && fitN R LL cols n) (n := LL.length) (fun j a c => by
      show (brkN LL j && fitN R LL cols j) = false
      rcases Nat.lt_or_ge m j with hl | hl
      · rw [hno j hl c, Bool.and_false]
      · rw [hb2 j (by omega) hl, Bool.false_and])]
    by_cases h1 : 0 < m
    · rw [if_pos h1]
      show (match lastN (fitN R LL cols) LL.length with | some n => n | none => 1) = m
      rw [lastN_is h1 hm (hf m h1 (Nat.le_refl _)) hno]
    · rw [if_neg h1]
      show (match lastN (fitN R LL cols) LL.length with | some n => n | none => 1) = 1
      rw [lastN_no (fun j a c => hno j (by omega) c)]
end
/-- a row: from, up to, columns -/
abbrev Rw3 := Int × Int × Int
def szL (LL : List (List Int)) : Nat := (LL.map List.length).sum
/-- the rows of clusters, from a place on -/
def rowsL (R : List Rw) (cols : Int) : Nat → List (List Int) → Nat → List Rw3
  | 0, _, _ => []
  | _ + 1, [], _ => []
  | f + 1, c :: LL, at' => ((at' : Int), ((at' + szL ((c :: LL).take (endN R (c :: LL) cols)) : Nat) : Int), shW R ((c :: LL).take (endN R (c :: LL) cols))) :: rowsL R cols f ((c :: LL).drop (endN R (c :: LL) cols)) (at' + szL ((c :: LL).take (endN R (c :: LL) cols)))
def rowsFl (R : List Rw) (cols : Int) (LL : List (List Int)) (at' : Nat) : List Rw3 := rowsL R cols LL.length LL at'
theorem rowsL_fuel (R : List Rw) (cols : Int) : ∀ (f g : Nat) (LL : List (List Int)) (at' : Nat), LL.length ≤ f → LL.length ≤ g → rowsL R cols f LL at' = rowsL R cols g LL at'
  | 0, 0, _, _, _, _ => rfl
  | 0, g + 1, LL, at', h, _ => by
    have : LL = [] := List.eq_nil_of_length_eq_zero (by omega)
    subst this; rfl
  | f + 1, 0, LL, at', _, h => by
    have : LL = [] := List.eq_nil_of_length_eq_zero (by omega)
    subst this; rfl
  | f + 1, g + 1, [], at', _, _ => rfl
  | f + 1, g + 1, c :: LL, at', h1, h2 => by
    have hr := endN_rng (R := R) (cols := cols) (LL := c :: LL) (by simp)
    have hl : ((c :: LL).drop (endN R (c :: LL) cols)).length ≤ LL.length := by rw [List.length_drop]; simp only [List.length_cons] at hr ⊢; omega
    simp only [List.length_cons] at h1 h2
    unfold rowsL
    rw [rowsL_fuel R cols f g _ _ (by omega) (by omega)]
theorem rowsFl_nil (R : List Rw) (cols : Int) (at' : Nat) : rowsFl R cols [] at' = [] := rfl
theorem rowsFl_step (R : List Rw) (cols : Int) {LL : List (List Int)} (h : LL ≠ []) (at' : Nat) : rowsFl R cols LL at' = ((at' : Int), ((at' + szL (LL.take (endN R LL cols)) : Nat) : Int), shW R (LL.take (endN R LL cols))) :: rowsFl R cols (LL.drop (endN R LL cols)) (at' + szL (LL.take (endN R LL cols))) := by
  cases LL with
  | nil => exact absurd rfl h
  | cons c LL =>
    have hr := endN_rng (R := R) (cols := cols) (LL := c :: LL) (by simp)
    unfold rowsFl
    rw [List.length_cons]
    show rowsL R cols (LL.length + 1) (c :: LL) at' = _
    conv => lhs; unfold rowsL
    rw [rowsL_fuel R cols LL.length _ _ _ (by rw [List.length_drop]; simp only [List.length_cons] at hr ⊢; omega) (Nat.le_refl _)]
end Go.Proofs.Ythlpelfogplomaa

/- flow: pieces in a world; shown. -/
namespace Go.Proofs.Ythlpelfogplomaa
open Go.RowKit

/-- a piece: where it begins, its columns, whether it is a blank -/
abbrev Pc3 := Int × Int × Bool
def pcE (p : Pc3) : List Value := [.int .i64 p.1, .int .i64 p.2.1, .bool p.2.2]
theorem pcE_len (p : Pc3) : (pcE p).length = 3 := rfl
theorem pcE_one (p : Pc3) : ∀ u ∈ pcE p, u.oneCell' = true := by intro u hu; simp [pcE] at hu; rcases hu with rfl | rfl | rfl <;> rfl
abbrev PcsIn (w : World) (v : Value) (X : List Pc3) : Prop := Rs w.heap.size w pcE 3 v X
theorem PcsIn.below {w w' : World} {v : Value} {X : List Pc3} (h : PcsIn w v X) (hb : Below w.heap.size w w') : PcsIn w' v X := (Rd.below h hb (Nat.le_refl _)).mono hb.size
theorem pcs_shape {w : World} {v : Value} {X : List Pc3} (h : PcsIn w v X) : ∃ a cap, v = .slice a X.length cap ∧ X.length ≤ cap ∧ cap ≤ maxLen := by
  obtain ⟨a, cap, rfl, h1, h2, _⟩ := h
  exact ⟨a, cap, rfl, h1, h2⟩
theorem pcs_cells {w : World} {v : Value} {X : List Pc3} (h : PcsIn w v X) {k : Nat} {x : Pc3} (hx : X[k]? = some x) : ∃ b off cap, v = .slice (some ⟨b, off, none⟩) X.length cap ∧ cap ≤ maxLen ∧ X.length ≤ cap ∧ k < X.length ∧ b < w.heap.size ∧
    w.cell? ⟨b, off + k * 3, none⟩ = some (.int .i64 x.1) ∧ w.cell? ⟨b, off + k * 3 + 1, none⟩ = some (.int .i64 x.2.1) ∧ w.cell? ⟨b, off + k * 3 + 2, none⟩ = some (.bool x.2.2) := by
  obtain ⟨a, cap, rfl, hcap, hmax, _, hcells⟩ := h
  have hk := (List.getElem?_eq_some_iff.1 hx).1
  obtain ⟨b, off, rfl, hbl, hcq⟩ := hcells (by omega)
  exact ⟨b, off, cap, rfl, hmax, hcap, hk, hbl, flat_cell pcE_len hcq hx 0 rfl, flat_cell pcE_len hcq hx 1 rfl, flat_cell pcE_len hcq hx 2 rfl⟩
/-- a part of a row of pieces -/
theorem pcs_sub {w : World} {b off cap : Nat} {X : List Pc3} (h : PcsIn w (.slice (some ⟨b, off, none⟩) X.length cap) X) {i j : Nat} (hij : i ≤ j) (hj : j ≤ X.length) (hb : b < w.heap.size) : PcsIn w (.slice (some ⟨b, off + i * 3, none⟩) (j - i) (cap - i)) ((X.take j).drop i) := by
  obtain ⟨a', cap', hv, h1, h2, h3, h4⟩ := h
  cases hv
  have hl : ((X.take j).drop i).length = j - i := by rw [List.length_drop, List.length_take]; omega
  refine ⟨some ⟨b, off + i * 3, none⟩, cap - i, by rw [hl], by omega, by omega, by rw [flat_len pcE_len], fun hn => ⟨b, off + i * 3, rfl, hb, fun k u hu => ?_⟩⟩
  obtain ⟨b', off', e, _, hq⟩ := h4 (by omega)
  cases e
  have hk : k < (((X.take j).drop i).flatMap pcE).length := (List.getElem?_eq_some_iff.1 hu).1
  rw [flat_len pcE_len, hl] at hk
  have hx : k / 3 < j - i := by omega
  obtain ⟨x, hx1⟩ : ∃ x, X[i + k / 3]? = some x := ⟨_, List.getElem?_eq_getElem (by omega)⟩
  have hx2 : ((X.take j).drop i)[k / 3]? = some x := by
    rw [List.getElem?_drop, List.getElem?_take, if_pos (by omega)]; exact hx1
  obtain ⟨y, hy⟩ : ∃ y, (pcE x)[k % 3]? = some y := ⟨_, List.getElem?_eq_getElem (by rw [pcE_len]; omega)⟩
  have g1 := flat_get pcE_len _ _ x (k % 3) y hx2 hy
  have e1 : k / 3 * 3 + k % 3 = k := by omega
  rw [e1, hu] at g1
  cases g1
  have g2 := flat_cell pcE_len hq hx1 (k % 3) hy
  have e2 : off + (i + k / 3) * 3 + k % 3 = off + i * 3 + k := by omega
  rw [e2] at g2
  exact g2
/-- pieces that are those of clusters -/
def PcsOf (R : List Rw) (X : List Pc3) (C : List (List Int)) : Prop := X.length = C.length ∧ ∀ (j : Nat) (c : List Int), C[j]? = some c → ∃ a : Int, X[j]? = some (a, wC R c, blkC c)
set_option maxRecDepth 100000 in
set_option maxHeartbeats 2000000 in
theorem shown_any {R : List Rw} {X : List Pc3} {C : List (List Int)} {w : World} {v : Value} (hX : PcsIn w v X) (hC : PcsOf R X C) (hB : ∀ k, sumW R (C.take k) ≤ 1000000000) :
    Calls Try.prog 44 #[v] w fun e w' => e = .returned (.int .i64 (shW R C)) ∧ Below w.heap.size w w' := by
  have HX := Lib.hid hX
  have HC := Lib.hid hC.2
  have HBd := Lib.hid hB
  have hlen := hC.1
  obtain ⟨sa, sc, rfl, hcap, hmax⟩ := pcs_shape hX
  unfold maxLen at hmax
  clear hX hC hB
  go_enter Try.func44, Try.ntmps44
  go_wp2_with fail
  go_loopw [3, 4, 9] (fun nv av iv wr => ∃ (k : Nat) (n a : Int), k ≤ X.length ∧ nv = .int .i64 n ∧ av = .int .i64 a ∧ iv = .int .i64 ((k : Nat) : Int) ∧ Below w.heap.size w wr ∧ n = shW R (C.take k) ∧ a = sumW R (C.take k)) (fun _ _ iv _ => X.length - (intOf iv).toNat)
  case atStart => exact ⟨0, 0, 0, Nat.zero_le _, rfl, rfl, rfl, .refl _ _, rfl, rfl⟩
  case round =>
    obtain ⟨k, n, a, hk, rfl, rfl, rfl, hB, hn, ha⟩ := hrel
    have HN := Lib.hid hn
    have HA := Lib.hid ha
    by_cases hlt : k < X.length
    · obtain ⟨c, hc⟩ : ∃ c, C[k]? = some c := ⟨C[k]'(by omega), List.getElem?_eq_getElem (by omega)⟩
      obtain ⟨f, hx⟩ := HC.out k c hc
      have hT : C.take (k + 1) = C.take k ++ [c] := by rw [List.take_add_one, hc]; rfl
      have h1 := HBd.out (k + 1)
      have h2 := sumW_nonneg (R := R) (C.take k)
      have h3 := wC_nonneg (R := R) c
      have h4 : sumW R (C.take (k + 1)) = a + wC R c := by rw [hT, sumW_app, sumW_one, ha]
      have h5 := shW_step (R := R) (C.take k) c
      rw [← hT, h4, ← hn] at h5
      obtain ⟨b, off, _, hv, _, _, _, _, d0, d1, d2⟩ := pcs_cells (HX.out.below hB) hx
      cases hv
      generalize wC R c = wd at h3 h4 h5 d1
      generalize blkC c = bl at h5 d2
      have HN' := Lib.hid h5
      have HA' := Lib.hid h4
      rw [h4] at h1
      rw [← ha] at h2
      have HB' := Lib.hid (hB.trans ((below1 wr (.cells #[.int .i64 f, .int .i64 wd, .bool bl] 75)).mono hB.size))
      have e1 := IntWalk.i64_in (a + wd) (by omega)
      have e2 := IntWalk.i64_in ((k : Int) + 1) (by omega)
      have s0 : (k : Int) < (X.length : Int) := by omega
      clear hc hx hT hn ha hB h5 h4
      cases bl
      · rw [if_neg (by decide)] at HN'
        go_wp2_with fail
        go_roundw
        case rel => exact ⟨k + 1, a + wd, a + wd, by omega, rfl, rfl, by go_num, HB'.out, HN'.out.symm, HA'.out.symm⟩
        case measure => simp [intOf] <;> omega
      · rw [if_pos rfl] at HN'
        go_wp2_with fail
        go_roundw
        case rel => exact ⟨k + 1, n, a + wd, by omega, rfl, rfl, by go_num, HB'.out, HN'.out.symm, HA'.out.symm⟩
        case measure => simp [intOf] <;> omega
    · have hke : k = X.length := by omega
      subst hke
      have HE := Lib.hid (show n = shW R C by rw [hn, List.take_of_length_le (by omega)])
      have s0 : decide ((X.length : Int) < (X.length : Int)) = false := by simp
      have HB' := Lib.hid hB
      clear hn ha hB hlt
      go_wp2_with fail
      go_ret
      exact ⟨by rw [← HE.out]; rfl, HB'.out⟩
end Go.Proofs.Ythlpelfogplomaa

/- flow: where a row ends. -/
namespace Go.Proofs.Ythlpelfogplomaa
open Go.RowKit

/-- the pieces of clusters, and one at the end -/
structure AllOf (R : List Rw) (X : List Pc3) (LL : List (List Int)) : Prop where
  len : X.length = LL.length + 1
  at' : ∀ (j : Nat) (c : List Int), LL[j]? = some c → X[j]? = some (((szL (LL.take j) : Nat) : Int), wC R c, blkC c)
  last : X[LL.length]? = some (((szL LL : Nat) : Int), 0, false)
theorem AllOf.sub {R : List Rw} {X : List Pc3} {LL : List (List Int)} (h : AllOf R X LL) {i j : Nat} (hij : i ≤ j) (hj : j ≤ LL.length) : PcsOf R ((X.take j).drop i) ((LL.drop i).take (j - i)) := by
  have hl := h.len
  refine ⟨by rw [List.length_drop, List.length_take, List.length_take, List.length_drop]; omega, fun q c hc => ?_⟩
  have hq := (List.getElem?_eq_some_iff.1 hc).1
  rw [List.length_take, List.length_drop] at hq
  rw [List.getElem?_take, if_pos (by omega), List.getElem?_drop] at hc
  exact ⟨_, by rw [List.getElem?_drop, List.getElem?_take, if_pos (by omega)]; exact h.at' (i + q) c hc⟩
theorem AllOf.blk {R : List Rw} {X : List Pc3} {LL : List (List Int)} (h : AllOf R X LL) {from' m : Nat} (hm : from' + m < LL.length) (h0 : 1 ≤ m) {a b : Pc3} (ha : X[from' + m - 1]? = some a) (hb : X[from' + m]? = some b) : brkN (LL.drop from') m = (a.2.2 && !b.2.2) := by
  obtain ⟨c, hc⟩ : ∃ c, LL[from' + m - 1]? = some c := ⟨_, List.getElem?_eq_getElem (by omega)⟩
  obtain ⟨d, hd⟩ : ∃ d, LL[from' + m]? = some d := ⟨_, List.getElem?_eq_getElem hm⟩
  rw [h.at' _ c hc] at ha
  rw [h.at' _ d hd] at hb
  cases ha
  cases hb
  unfold brkN
  rw [List.getElem?_drop, List.getElem?_drop, show from' + (m - 1) = from' + m - 1 by omega, hc, hd, List.length_drop]
  have : decide (m = LL.length - from') = false := decide_eq_false (by omega)
  rw [this]
  rfl
theorem brkN_len (LL : List (List Int)) : brkN LL LL.length = true := by unfold brkN; simp
set_option maxRecDepth 100000 in
set_option maxHeartbeats 8000000 in
theorem end_any {R : List Rw} {X : List Pc3} {LL : List (List Int)} {w : World} {v : Value} (cols : Int) (hX : PcsIn w v X) (hA : AllOf R X LL) (hB : ∀ i k, sumW R ((LL.drop i).take k) ≤ 1000000000) (hl : LL.length ≤ 1000000) {q : Nat} (hq : q < LL.length) :
    Calls Try.prog 43 #[v, .int .i64 (q : Int), .int .i64 cols] w fun e w' => e = .returned (.int .i64 ((q + endN R (LL.drop q) cols : Nat) : Int)) ∧ Below w.heap.size w w' := by
  have HX := Lib.hid hX
  have HA := Lib.hid hA
  have HBd := Lib.hid hB
  have hlen := hA.len
  have HLen := Lib.hid hlen
  obtain ⟨x0, hx0⟩ : ∃ x, X[0]? = some x := ⟨_, List.getElem?_eq_getElem (by omega)⟩
  obtain ⟨sb, soff, sc, rfl, hmax, hcap, _, hsb, _⟩ := pcs_cells hX hx0
  unfold maxLen at hmax
  obtain ⟨D, hD⟩ : ∃ D, D = LL.drop q := ⟨_, rfl⟩
  have hDl : D.length = LL.length - q := by rw [hD, List.length_drop]
  have HD := Lib.hid hD
  have HE := Lib.hid (fun (m b : Nat) (h1 : m ≤ D.length) (h2 : ∀ j, 1 ≤ j → j ≤ m → fitN R D cols j = true) (h3 : m = D.length ∨ fitN R D cols (m + 1) = false) (h4 : b ≤ m) (h5 : b = 0 ∨ brkN D b = true) (h6 : ∀ j, b < j → j ≤ m → brkN D j = false) => endN_up (R := R) (LL := D) (cols := cols) h1 h2 h3 h4 h5 h6)
  rw [← hD]
  clear hX hA hB hx0 hD
  have e0 := IntWalk.i64_in ((X.length : Int) - 1) (by omega)
  have e1 := IntWalk.i64_in ((q : Int) + 1) (by omega)
  clear hlen
  go_enter Try.func43, Try.ntmps43
  go_wp2_with fail
  go_loopw [8, 9, 10] (fun wv sv tv wr => ∃ (m b W Sm Tm : Nat), m ≤ D.length ∧ wv = .int .i64 (W : Int) ∧ sv = .int .i64 (Sm : Int) ∧ tv = .int .i64 (Tm : Int) ∧ W = q + b ∧ Sm = q + m ∧ Tm = q + m + 1 ∧ Below w.heap.size w wr ∧ (∀ j, 1 ≤ j → j ≤ m → fitN R D cols j = true) ∧ b ≤ m ∧ (b = 0 ∨ brkN D b = true) ∧ (∀ j, b < j → j ≤ m → brkN D j = false)) (fun _ _ tv _ => LL.length + 1 - (intOf tv).toNat)
  case atStart => exact ⟨0, 0, q, q, q + 1, Nat.zero_le _, rfl, rfl, by go_num, rfl, rfl, rfl, .refl _ _, fun j a b => by omega, Nat.le_refl _, .inl rfl, fun j a b => by omega⟩
  case round =>
    obtain ⟨m, b, W, Sm, Tm, hm, rfl, rfl, rfl, hW, hSm, hTm, hB, hf, hb, hb1, hb2⟩ := hrel
    have HB := Lib.hid hB
    have HFt := Lib.hid hf
    have HB1 := Lib.hid hb1
    have HB2 := Lib.hid hb2
    have HMle := Lib.hid hm
    have HBm := Lib.hid hb
    have HW := Lib.hid hW
    have HSm := Lib.hid hSm
    have HTm := Lib.hid hTm
    have HDl := Lib.hid hDl
    have hlen := HLen.out
    by_cases hlt : m < D.length
    · have hC := HA.out.sub (i := q) (j := Tm) (by omega) (by omega)
      rw [← HD.out, show Tm - q = m + 1 by omega] at hC
      have HSh := Lib.hid (shown_any (R := R) (pcs_sub (HX.out.below hB) (i := q) (j := Tm) (by omega) (by omega) (Nat.lt_of_lt_of_le hsb hB.size)) hC (fun k => by rw [List.take_take, HD.out]; exact HBd.out q _))
      have s0 : (Tm : Int) ≤ (X.length : Int) - 1 := by omega
      have s1 : (0 : Int) ≤ (q : Int) := by omega
      have s2 : (q : Int) ≤ (Tm : Int) := by omega
      have s3 : (Tm : Int) ≤ (sc : Int) := by omega
      have s5 : ((sc : Int) - (q : Int)).toNat = sc - q := by omega
      have s6 : ¬ q = sc := by omega
      have HSw := Lib.hid (show fitN R D cols (m + 1) = decide (shW R (D.take (m + 1)) ≤ cols) from rfl)
      generalize shW R (D.take (m + 1)) = sw at HSh HSw
      have htl : (Tm = LL.length ∧ m + 1 = D.length) ∨ (Tm < LL.length ∧ m + 1 < D.length) := by omega
      have ht1 : 1 ≤ Tm := by omega
      have hml : m + 1 ≤ D.length := by omega
      clear hB hf hb1 hb2 hW hSm hTm hm hb hDl hlt hC hlen
      go_wp2_with fail
      refine HSh.out.mono ?_
      rintro e w2 ⟨rfl, hB2⟩
      have HBx := Lib.hid (below_trans' HB.out hB2)
      clear hB2 HB HSh
      by_cases hfit : sw ≤ cols
      · have g0 : decide (sw > cols) = false := decide_eq_false (by omega)
        have HF1 := Lib.hid (show fitN R D cols (m + 1) = true by rw [HSw.out]; exact decide_eq_true hfit)
        have HFn := Lib.hid (show ∀ j, 1 ≤ j → j ≤ m + 1 → fitN R D cols j = true from fun j h1 h2 => by
          rcases Nat.lt_or_ge m j with h3 | h3
          · have : j = m + 1 := by omega
            subst this; exact HF1.out
          · exact HFt.out j h1 h3)
        have e5 := IntWalk.i64_in ((Tm : Int) + 1) (by omega)
        have e6 := IntWalk.i64_in ((Tm : Int) - 1) (by omega)
        have HMl := Lib.hid hml
        rcases htl with ⟨h1, h2⟩ | ⟨h1, h2⟩
        · have g1 : ((Tm : Int) == (X.length : Int) - 1) = true := by have := HLen.out; simp; omega
          have HBk := Lib.hid (show brkN D (m + 1) = true by rw [h2]; exact brkN_len D)
          clear hfit h1 h2 hml
          go_wp2_with fail
          go_roundw
          case rel => exact ⟨m + 1, m + 1, Tm, Tm, Tm + 1, HMl.out, rfl, rfl, by go_num, by rw [HTm.out]; omega, by rw [HTm.out]; omega, by rw [HTm.out]; omega, HBx.out, HFn.out, Nat.le_refl _, .inr HBk.out, fun j a b => by omega⟩
          case measure => have := HLen.out; simp [intOf] <;> omega
        · have g1 : ((Tm : Int) == (X.length : Int) - 1) = false := by have := HLen.out; rw [beq_eq_false_iff_ne]; omega
          have hlen := HLen.out
          obtain ⟨xa, hxa⟩ : ∃ x, X[Tm - 1]? = some x := ⟨_, List.getElem?_eq_getElem (by omega)⟩
          obtain ⟨xb, hxb⟩ : ∃ x, X[Tm]? = some x := ⟨_, List.getElem?_eq_getElem (by omega)⟩
          have HBk := Lib.hid (show brkN D (m + 1) = (xa.2.2 && !xb.2.2) by
            have hT := HTm.out
            rw [HD.out]
            exact HA.out.blk (from' := q) (m := m + 1) (by omega) (by omega) (by rw [← hxa]; congr 1; omega) (by rw [← hxb]; congr 1; omega))
          obtain ⟨_, _, _, hv, _, _, _, _, _, _, a2⟩ := pcs_cells (HX.out.below HBx.out) hxa
          cases hv
          obtain ⟨_, _, _, hv, _, _, _, _, _, _, b2⟩ := pcs_cells (HX.out.below HBx.out) hxb
          cases hv
          have g2 : (0 : Int) ≤ (Tm : Int) - 1 := by omega
          have g3 : (Tm : Int) - 1 < (X.length : Int) := by omega
          have g4 : ((Tm : Int) - 1).toNat = Tm - 1 := by omega
          have g5 : (Tm : Int) < (X.length : Int) := by omega
          generalize xa.2.2 = ba at HBk a2
          generalize xb.2.2 = bb at HBk b2
          clear hfit h1 h2 hml hxa hxb hlen
          cases ba <;> cases bb
          case true.false =>
            go_wp2_with fail
            go_roundw
            case rel => exact ⟨m + 1, m + 1, Tm, Tm, Tm + 1, HMl.out, rfl, rfl, by go_num, by rw [HTm.out]; omega, by rw [HTm.out]; omega, by rw [HTm.out]; omega, HBx.out, HFn.out, Nat.le_refl _, .inr HBk.out, fun j a b => by omega⟩
            case measure => have := HLen.out; simp [intOf] <;> omega
          all_goals
            go_wp2_with fail
            go_roundw
            case rel => exact ⟨m + 1, b, W, Tm, Tm + 1, HMl.out, rfl, rfl, by go_num, HW.out, by rw [HTm.out]; omega, by rw [HTm.out]; omega, HBx.out, HFn.out, Nat.le_trans HBm.out (Nat.le_succ _), HB1.out, fun j a c => by
              rcases Nat.lt_or_ge m j with h3 | h3
              · have : j = m + 1 := by omega
                subst this; exact HBk.out
              · exact HB2.out j a h3⟩
            case measure => have := HLen.out; simp [intOf] <;> omega
      · have g0 : sw > cols := by omega
        have HNo := Lib.hid (show m = D.length ∨ fitN R D cols (m + 1) = false from .inr (by rw [HSw.out]; exact decide_eq_false hfit))
        clear hfit htl hml
        have HEn := Lib.hid (HE.out m b HMle.out HFt.out HNo.out HBm.out HB1.out HB2.out)
        by_cases hb0 : 0 < b
        · have HV := Lib.hid (show W = q + endN R D cols by rw [HEn.out, if_pos hb0]; exact HW.out)
          have t1 : (W : Int) > (q : Int) := by have := HW.out; omega
          clear hb0
          go_wp2_with fail
          go_ret
          exact ⟨by rw [← HV.out]; rfl, HBx.out⟩
        · have t1 : ¬ q < W := by have := HW.out; omega
          by_cases hm0 : 0 < m
          · have HV := Lib.hid (show Sm = q + endN R D cols by rw [HEn.out, if_neg hb0, if_pos hm0]; exact HSm.out)
            have t2 : (Sm : Int) > (q : Int) := by have := HSm.out; omega
            clear hb0 hm0
            go_wp2_with fail
            go_ret
            exact ⟨by rw [← HV.out]; rfl, HBx.out⟩
          · have HV := Lib.hid (show q + 1 = q + endN R D cols by rw [HEn.out, if_neg hb0, if_neg hm0])
            have t2 : ¬ q < Sm := by have := HSm.out; omega
            clear hb0 hm0
            go_wp2_with fail
            go_ret
            exact ⟨by rw [← HV.out]; rfl, HBx.out⟩
    · have HNo := Lib.hid (show m = D.length ∨ fitN R D cols (m + 1) = false from .inl (by omega))
      have HBx := HB
      have s0 : decide ((Tm : Int) ≤ (X.length : Int) - 1) = false := decide_eq_false (by omega)
      clear hB hf hb1 hb2 hlt hW hSm hTm hm hb hDl hlen
      have HEn := Lib.hid (HE.out m b HMle.out HFt.out HNo.out HBm.out HB1.out HB2.out)
      by_cases hb0 : 0 < b
      · have HV := Lib.hid (show W = q + endN R D cols by rw [HEn.out, if_pos hb0]; exact HW.out)
        have t1 : (W : Int) > (q : Int) := by have := HW.out; omega
        clear hb0
        go_wp2_with fail
        go_ret
        exact ⟨by rw [← HV.out]; rfl, HBx.out⟩
      · have t1 : ¬ q < W := by have := HW.out; omega
        by_cases hm0 : 0 < m
        · have HV := Lib.hid (show Sm = q + endN R D cols by rw [HEn.out, if_neg hb0, if_pos hm0]; exact HSm.out)
          have t2 : (Sm : Int) > (q : Int) := by have := HSm.out; omega
          clear hb0 hm0
          go_wp2_with fail
          go_ret
          exact ⟨by rw [← HV.out]; rfl, HBx.out⟩
        · have HV := Lib.hid (show q + 1 = q + endN R D cols by rw [HEn.out, if_neg hb0, if_neg hm0])
          have t2 : ¬ q < Sm := by have := HSm.out; omega
          clear hb0 hm0
          go_wp2_with fail
          go_ret
          exact ⟨by rw [← HV.out]; rfl, HBx.out⟩
end Go.Proofs.Ythlpelfogplomaa

/- flow: the pieces of a text. -/
namespace Go.Proofs.Ythlpelfogplomaa
open Go.RowKit

theorem EPc : ElemT Try.prog 71 75 3 24 := elemT_of (by kernel_rfl) (z := .agg #[.int .i64 0, .int .i64 0, .bool false]) (by kernel_rfl) rfl (by decide) (by decide)
theorem gly_apart2 {w : World} {v : Value} {l : List Gy} (h : GlyIn w v l) {b : Nat} {cs : Array Value} {t : TypeId} (hc : w.heap[b]? = some (.cells cs t (0, 0))) (hcs : ∀ (i : Nat) (u : Value), cs[i]? = some u → ∀ s : ByteArray, u ≠ Value.string s) {k : Nat} {x : Gy} (hx : l[k]? = some x) :
    ∃ g off cap, v = .slice (some ⟨g, off, none⟩) l.length cap ∧ g < w.heap.size ∧ g ≠ b ∧ w.cell? ⟨g, off + k * 2, none⟩ = some (.string x.1) ∧ w.cell? ⟨g, off + k * 2 + 1, none⟩ = some (.int .i64 x.2) := by
  obtain ⟨g, off, cap, rfl, _, _, hg, d0, d1⟩ := gly_cells h hx
  refine ⟨g, off, cap, rfl, hg, fun e => ?_, d0, d1⟩
  subst e
  rw [cell_of_row _ _ _ _ _ _ hc] at d0
  exact hcs _ _ (by simpa using d0) _ rfl
theorem no_str (a q : Int) (bl : Bool) : ∀ (i : Nat) (u : Value), (#[Value.int .i64 a, .int .i64 q, .bool bl] : Array Value)[i]? = some u → ∀ s : ByteArray, u ≠ Value.string s := fun j u hu s e => by
  subst e
  match j with
  | 0 => cases Option.some.inj hu
  | 1 => cases Option.some.inj hu
  | 2 => cases Option.some.inj hu
  | j + 3 => simp at hu
theorem szL_snoc (LL : List (List Int)) {k : Nat} {c : List Int} (h : LL[k]? = some c) : szL (LL.take (k + 1)) = szL (LL.take k) + c.length := by
  unfold szL
  rw [List.take_add_one, h, List.map_append, List.sum_append]
  simp
theorem szL_flat (LL : List (List Int)) : szL LL = LL.flatten.length := by
  unfold szL; rw [List.length_flatten]
theorem szL_take_le (LL : List (List Int)) (k : Nat) : szL (LL.take k) ≤ szL LL := by
  have h : szL LL = szL (LL.take k) + szL (LL.drop k) := by
    unfold szL
    rw [← List.sum_append, ← List.map_append, List.take_append_drop]
  omega
section
variable {R : List Rw} {s : List Int} {w : World} {sv : Value} {tp : Nat}
set_option maxRecDepth 100000 in
set_option maxHeartbeats 8000000 in
theorem pieces_any (hT : Tb R w tp) (hs : RunesIn w sv s) (ok : RunesOk s) (hl : s.length ≤ 100000) :
    Calls Try.prog 42 #[.pointer (some ⟨tp, 0, none⟩), sv] w fun e w' => ∃ u X, e = .returned u ∧ Below w.heap.size w w' ∧ PcsIn w' u X ∧ AllOf R X (clus (tabOf R) s) := by
  have HT := Lib.hid hT
  have HCl := Lib.hid (clusters_any hT hs ok (by omega))
  have HNe := Lib.hid (clus_ne (tabOf R) s.length s (Nat.le_refl _))
  have HMem := Lib.hid (fun c (h : c ∈ clus (tabOf R) s) (x : Int) (hx : x ∈ c) => ok x (clus_mem (tabOf R) s.length s (Nat.le_refl _) c h x hx))
  have hLl : (clus (tabOf R) s).length ≤ s.length := clusN_len (tabOf R) s.length s
  have hSz : szL (clus (tabOf R) s) = s.length := by rw [szL_flat, clus_flat (tabOf R) s.length s (Nat.le_refl _)]
  have HTk := Lib.hid (szL_take_le (clus (tabOf R) s))
  generalize clus (tabOf R) s = LL at HCl HNe HMem hLl hSz HTk ⊢
  obtain ⟨sl, cap, rfl, hcap, hmax, _⟩ := runes_cells hs
  unfold maxLen at hmax
  clear hT hs ok
  go_enter Try.func42, Try.ntmps42
  go_wp2_with fail
  refine HCl.out.mono ?_
  rintro e w1 ⟨tu, rfl, hB1, hX1⟩
  have HB1 := Lib.hid hB1
  have HX := Lib.hid hX1
  have HT1 := Lib.hid (HT.out.below hB1)
  obtain ⟨ta, tcap, rfl, ht1, ht2⟩ := texts_shape hX1
  unfold maxLen at ht2
  clear hB1 hX1 HCl HT
  go_wp2_with fail
  go_loopw [5, 6, 16] (fun ov av iv wr => ∃ (k : Nat) (X : List Pc3), k ≤ LL.length ∧ av = .int .i64 ((szL (LL.take k) : Nat) : Int) ∧ iv = .int .i64 ((k : Nat) : Int) ∧ Below w1.heap.size w1 wr ∧ wr.ownsRow w1.heap.size 75 3 ov X.length (X.flatMap pcE) ∧ X.length = k ∧ (∀ (j : Nat) (c : List Int), j < k → LL[j]? = some c → X[j]? = some (((szL (LL.take j) : Nat) : Int), wC R c, blkC c))) (fun _ _ iv _ => LL.length - (intOf iv).toNat)
  case atStart => exact ⟨0, [], Nat.zero_le _, rfl, rfl, .refl _ _, World.ownsRow_nil _ _ _ _, rfl, fun j c h => by omega⟩
  case round =>
    obtain ⟨k, X, hk, rfl, rfl, hB, hO, hXl, hXs⟩ := hrel
    have HB := Lib.hid hB
    have HO := Lib.hid hO
    have HXs := Lib.hid hXs
    have HXl := Lib.hid hXl
    obtain ⟨pa, pc, rfl⟩ := slice_of_owns hO
    have hsz := HTk.out k
    obtain ⟨A, hA⟩ : ∃ A, A = szL (LL.take k) := ⟨_, rfl⟩
    have HA := Lib.hid hA
    rw [← hA] at hsz ⊢
    by_cases hlt : k < LL.length
    · obtain ⟨c, hc⟩ : ∃ c, LL[k]? = some c := ⟨LL[k], List.getElem?_eq_getElem hlt⟩
      have hcm := List.mem_of_getElem? hc
      have HC := Lib.hid hc
      have hcl := HNe.out c hcm
      have hsn := szL_snoc LL hc
      rw [← hA] at hsn
      have hsz2 := HTk.out (k + 1)
      obtain ⟨tb, toff, cp, cu, hv, _, _, _, _, d0, hcu⟩ := texts_cell (HX.out.below hB) hc
      cases hv
      obtain ⟨x, hx⟩ : ∃ x, c[0]? = some x := ⟨c[0]'(List.length_pos_iff.2 hcl.1), List.getElem?_eq_getElem _⟩
      obtain ⟨rb, roff, rcap, hv, _, hrc, hc0, _, l0⟩ := rune_cell hcu hx
      cases hv
      have l0 : wr.cell? ⟨rb, roff, none⟩ = some (.int .i32 x) := by simpa using l0
      have HCu := Lib.hid hcu
      have HSn := Lib.hid hsn
      have s0 : (k : Int) < (LL.length : Int) := by omega
      have s1 : (0 : Int) ≤ (k : Int) := by omega
      have s2 : (0 : Int) < (c.length : Int) := by omega
      have e1 := IntWalk.i64_in ((k : Int) + 1) (by omega)
      have e2 := IntWalk.i64_in ((A : Int) + (c.length : Int)) (by omega)
      have hbl : (c.length = 1 ∧ x = 32 ∧ blkC c = true) ∨ (c.length = 1 ∧ x ≠ 32 ∧ blkC c = false) ∨ (c.length ≠ 1 ∧ blkC c = false) := by
        unfold blkC
        match c, hx, hcl with
        | [y], hx, _ =>
          have : y = x := by simpa using hx
          subst this
          by_cases h : y = 32
          · subst h; exact .inl ⟨rfl, rfl, by decide⟩
          · exact .inr (.inl ⟨rfl, h, by simpa using h⟩)
        | y :: z :: c, _, _ => exact .inr (.inr ⟨by simp, by simp⟩)
      obtain ⟨bl, hb⟩ : ∃ bl, bl = blkC c := ⟨_, rfl⟩
      have HBl := Lib.hid hb
      rw [← hb] at hbl
      have HOkc := Lib.hid (show RunesOk c from HMem.out c hcm)
      clear hB hO hXs hXl hc hcm hcu hsn hA hb hx hlt
      rcases hbl with ⟨h1, h2, h3⟩ | ⟨h1, h2, h3⟩ | ⟨h1, h2⟩
      case' inl =>
        have g1 : ((c.length : Int) == 1) = true := by simp; omega
        subst h2
        subst h3
        clear h1
        clear hc0
        go_upto_region 7 with fail
        have hr := heap_alloc_new wr (.cells #[.int .i64 (A : Int), .int .i64 0, .bool true] 75)
        have hb0 := below1 wr (.cells #[.int .i64 (A : Int), .int .i64 0, .bool true] 75)
        generalize wr.alloc (.cells #[.int .i64 (A : Int), .int .i64 0, .bool true] 75) = w2 at hr hb0 ⊢
        obtain ⟨bl, hbl⟩ : ∃ bl, bl = true := ⟨_, rfl⟩
        rw [← hbl] at hr HBl
        clear hbl g1
      case' inr.inl =>
        have g1 : ((c.length : Int) == 1) = true := by simp; omega
        have g2 : (x == 32) = false := by simpa using h2
        subst h3
        clear h1 h2
        clear hc0
        go_upto_region 7 with fail
        have hr := heap_alloc_new wr (.cells #[.int .i64 (A : Int), .int .i64 0, .bool false] 75)
        have hb0 := below1 wr (.cells #[.int .i64 (A : Int), .int .i64 0, .bool false] 75)
        generalize wr.alloc (.cells #[.int .i64 (A : Int), .int .i64 0, .bool false] 75) = w2 at hr hb0 ⊢
        obtain ⟨bl, hbl⟩ : ∃ bl, bl = false := ⟨_, rfl⟩
        rw [← hbl] at hr HBl
        clear hbl g1
      case' inr.inr =>
        have g1 : ((c.length : Int) == 1) = false := by simp; omega
        subst h2
        clear h1
        clear hc0
        go_upto_region 7 with fail
        have hr := heap_alloc_new wr (.cells #[.int .i64 (A : Int), .int .i64 0, .bool false] 75)
        have hb0 := below1 wr (.cells #[.int .i64 (A : Int), .int .i64 0, .bool false] 75)
        generalize wr.alloc (.cells #[.int .i64 (A : Int), .int .i64 0, .bool false] 75) = w2 at hr hb0 ⊢
        obtain ⟨bl, hbl⟩ : ∃ bl, bl = false := ⟨_, rfl⟩
        rw [← hbl] at hr HBl
        clear hbl g1
      all_goals
        have HO2 := Lib.hid (owns_stays HO.out hb0)
        have HB2 := Lib.hid (HB.out.trans (hb0.mono HB.out.size))
        have HGof := Lib.hid (gof_any (HT1.out.below HB2.out) (HCu.out.below hb0) HOkc.out (by omega))
        have hob : ∀ b, (Value.slice pa X.length pc).ownBlock = some b → b ≠ wr.heap.size := fun b e => by have := (HO.out.lt b e).2; omega
        have HOb := Lib.hid hob
        have HGo := Lib.hid (show ∀ g ∈ glOf R c, g.2 = 1 ∨ g.2 = 2 from fun g hg => (lineG_ok R (LL := [c]) g (by simpa [lineG] using hg)).1)
        have hgl := glOf_le R c
        have HWc := Lib.hid (show wC R c = wdG (glOf R c) from rfl)
        generalize glOf R c = G at HGof HGo hgl HWc
        clear hb0 HCu l0 d0 hob
        go_wp2_with fail
        refine HGof.out.mono ?_
        rintro e w3 ⟨gu, rfl, hB3, hG3⟩
        have HG3 := Lib.hid hG3
        obtain ⟨ga, gc, rfl, hg1, hg2⟩ := gly_shape hG3
        unfold maxLen at hg2
        have HR3 := Lib.hid ((hB3.block _ (row_len hr)).trans hr)
        have HO3 := Lib.hid (owns_stays HO2.out hB3)
        have hpb : wr.heap.size < w3.heap.size := Nat.lt_of_lt_of_le (row_len hr) hB3.size
        have hpb2 := HB.out.size
        have HB3 := Lib.hid (HB2.out.trans (hB3.mono HB2.out.size))
        generalize wr.heap.size = pb at HR3 HOb hpb hpb2 ⊢
        clear hB3 hG3 HGof HO2 HB2 HO HB hr
        go_wp2_with fail
        go_loopw [35] (fun nv wr2 => ∃ (m : Nat) (q : Int), m ≤ G.length ∧ nv = .int .i64 ((m : Nat) : Int) ∧ Below w1.heap.size w1 wr2 ∧ Kept (fun j => j = pb) w3 wr2 ∧ wr2.ownsRow w1.heap.size 75 3 (.slice pa X.length pc) X.length (X.flatMap pcE) ∧ wr2.heap[pb]? = some (.cells #[.int .i64 (A : Int), .int .i64 q, .bool bl] 75 (0, 0)) ∧ q = wdG (G.take m)) (fun nv _ => G.length - (intOf nv).toNat)
        case atStart => exact ⟨0, 0, Nat.zero_le _, rfl, HB3.out, Kept.refl _ _, HO3.out, HR3.out, rfl⟩
        case round =>
          obtain ⟨m, q, hm, rfl, hB, hK, hO, hR, hq⟩ := hrel
          have HBm := Lib.hid hB
          have HKm := Lib.hid hK
          have HOm := Lib.hid hO
          have HQ := Lib.hid hq
          have hwr := wdG_rng (L := G.take m) (fun g hg => HGo.out g (List.mem_of_mem_take hg))
          rw [List.length_take, ← hq] at hwr
          by_cases hlt : m < G.length
          · obtain ⟨y, hy⟩ : ∃ y, G[m]? = some y := ⟨G[m], List.getElem?_eq_getElem hlt⟩
            have hyo := HGo.out y (List.mem_of_getElem? hy)
            have HN := Lib.hid (show wdG (G.take (m + 1)) = wdG (G.take m) + y.2 by rw [take_snoc hy, wdG_app, wdG_one])
            obtain ⟨y1, y2⟩ := y
            have hy2 : y2 = 1 ∨ y2 = 2 := hyo
            obtain ⟨gb, goff, gcap, hv, hgb, hgne, d0, d1⟩ := gly_apart2 HG3.out HR3.out (no_str _ _ _) hy
            cases hv
            have d0 := hK.cell d0 hgne
            have d1 := hK.cell d1 hgne
            have e3 := IntWalk.i64_in (q + y2) (by omega)
            have e4 := IntWalk.i64_in ((m : Int) + 1) (by omega)
            have s5 : (m : Int) < (G.length : Int) := by omega
            have HRm := Lib.hid hR
            clear hB hK hO hR hq hy hyo hwr hlt
            go_upto_region 10 with fail
            have hb := below1 wr (.cells #[.string y1, .int .i64 y2] 59)
            have g1 := row_cells (i := 1) (heap_alloc_new wr (.cells #[.string y1, .int .i64 y2] 59)) rfl
            have HBa := Lib.hid (HBm.out.trans (hb.mono HBm.out.size))
            have HKa := Lib.hid (HKm.out.trans (Kept.of_below hb))
            have HOa := Lib.hid (owns_stays HOm.out hb)
            have hRa := (hb.block _ (row_len HRm.out)).trans HRm.out
            generalize wr.alloc (.cells #[.string y1, .int .i64 y2] 59) = w4 at g1 HBa HKa HOa hRa ⊢
            have n1 := row_cells (i := 1) hRa rfl
            have v1 := row_warm hRa 1
            have HRa := Lib.hid hRa
            clear hb hRa d0 d1 HBm HKm HOm HRm
            go_wp2_with fail
            go_roundw
            case rel => exact ⟨m + 1, q + y2, by omega, by go_num, HBa.out.setCell (by show w1.heap.size ≤ pb; omega) _, HKa.out.trans (kept_setCell _ _ _ rfl), HOa.out.kept (setCell_grown w4 ⟨pb, 1, none⟩ _) (.inr (fun e => HOb.out _ e rfl)), heap_setCell_same _ pb 1 _ _ (Value.int .i64 (q + y2)) HRa.out, by rw [HN.out, HQ.out]⟩
            case measure => simp [intOf] <;> omega
          · have hme : m = G.length := by omega
            subst hme
            rw [List.take_length] at hq
            have HQc := Lib.hid (show q = wC R c by rw [hq, HWc.out])
            have s5 : decide ((G.length : Int) < (G.length : Int)) = false := by simp
            have n0 := row_cells (i := 0) hR rfl
            have n1 := row_cells (i := 1) hR rfl
            have n2 := row_cells (i := 2) hR rfl
            have hbig : (X.length + 1) * 24 ≤ 140737488355328 := by have := HXl.out; omega
            have hbs := hB.size
            clear hB hK hO hR hq hlt hwr
            go_wp2_with (at_builtin; go_loud (refine wpList_app1 _ rfl (.tmp 46) (.tmp 48) _ rfl EPc _ _ _ rfl HOm.out 1 1 (pcE ((A : Int), q, bl)) rfl (by decide) rfl (pcE_one _) hbig hbs ?_); intro g cp7 w7 ho7 hg7 hf7; have HB7 := Lib.hid (below_app HBm.out hbs HOm.out (Nat.le_refl _) hg7); have HO7 := Lib.hid ho7; clear ho7 hg7 hf7)
            go_roundw
            case rel =>
              refine ⟨k + 1, X ++ [((A : Int), q, bl)], by omega, by rw [HSn.out]; go_num, by go_num, HB7.out, by rw [List.length_append, flat_snoc]; exact HO7.out, by rw [List.length_append, HXl.out]; rfl, fun j c' hj hc' => ?_⟩
              rcases Nat.lt_or_ge j k with h | h
              · rw [List.getElem?_append_left (by have := HXl.out; omega)]
                exact HXs.out j c' h hc'
              · have hjk : j = k := by omega
                subst hjk
                rw [HC.out] at hc'
                cases hc'
                rw [List.getElem?_append_right (by have := HXl.out; omega), HXl.out, Nat.sub_self, ← HA.out, ← HQc.out, ← HBl.out]
                rfl
            case measure => simp [intOf] <;> omega
    · have hke : k = LL.length := by omega
      have hbig : (X.length + 1) * 24 ≤ 140737488355328 := by omega
      have hbs := hB.size
      have HAe := Lib.hid (show A = szL LL by rw [hA, hke, List.take_length])
      have HKe := Lib.hid hke
      have s0 : ¬ k < LL.length := hlt
      clear hB hO hXs hXl hlt hA hke
      go_wp2_with (at_builtin; go_loud (refine wpList_app1 _ rfl (.tmp 55) (.tmp 58) _ rfl EPc _ _ _ rfl HO.out 1 1 (pcE ((A : Int), 0, false)) rfl (by decide) rfl (pcE_one _) hbig hbs ?_); intro g cp7 w7 ho7 hg7 hf7; have HB7 := Lib.hid (below_app HB.out hbs HO.out (Nat.le_refl _) hg7); have HO7 := Lib.hid ho7; clear ho7 hg7 hf7)
      go_ret
      have hXk : X.length = LL.length := by rw [HXl.out, HKe.out]
      refine ⟨_, X ++ [((A : Int), 0, false)], rfl, below_trans' HB1.out HB7.out, rd_of_owns (base := w1.heap.size) (e := 75) (by rw [List.length_append, flat_snoc]; exact HO7.out), by rw [List.length_append, hXk]; rfl, fun j c' hc' => ?_, ?_⟩
      · have hj := (List.getElem?_eq_some_iff.1 hc').1
        rw [List.getElem?_append_left (by omega)]
        exact HXs.out j c' (by rw [HKe.out]; exact hj) hc'
      · rw [List.getElem?_append_right (by omega), hXk, Nat.sub_self, HAe.out]
        rfl
end
end Go.Proofs.Ythlpelfogplomaa

/- flow.Of: its walk. -/
namespace Go.Proofs.Ythlpelfogplomaa
open Go.RowKit

theorem oper_app1 {P : Program} (w : World) {o : Oper} {act : Act} {K : Act → World → Prop} {Q : Exit → Act → World → Prop} (s x : Operand) (t : TypeId)
    (ho : o.op = .call { callee := .builtin .append, args := #[s, x], argTypes := #[t, t] })
    {base e size bytes : Nat} (E : ElemT P t e size bytes) (v : Value) (n : Nat) (xs : List Value) (hs : act.eval s = v) (hown : w.ownsRow base e size v n xs)
    (m c : Nat) (news : List Value) (hx : act.eval x = .slice (some ⟨w.heap.size, 0, none⟩) m c) (hm : 0 < m) (hl : news.length = m * size) (h1 : ∀ u ∈ news, u.oneCell' = true)
    (hbytes : (n + m) * bytes ≤ 140737488355328) (hbase : base ≤ w.heap.size)
    (h : ∀ g cap w', w'.ownsRow base e size (.slice (some ⟨g, 0, none⟩) (n + m) cap) (n + m) (xs ++ news) → w.grownBy w' v.ownBlock → (v.ownBlock = some g ∨ w.heap.size ≤ g) →
      K (act.put o.dst (.slice (some ⟨g, 0, none⟩) (n + m) cap)) w') : o.wp P act (w.alloc (.cells news.toArray e)) K Q := by
  have hnews : ∀ j u, news[j]? = some u → (w.alloc (.cells news.toArray e)).cell? ((⟨w.heap.size, 0, none⟩ : Addr).add j) = some u := by
    intro j u hu
    have hadd : (⟨w.heap.size, 0, none⟩ : Addr).add j = ⟨w.heap.size, j, none⟩ := by unfold Addr.add; split <;> simp_all
    rw [hadd, cell_of_row _ w.heap.size j news.toArray e (0, 0) (heap_alloc_new w _)]
    simpa using hu
  obtain ⟨g, cap, w', hr, h2, h3, h4⟩ := run_app (P := P) (ty := o.type) (w.alloc (.cells news.toArray e)) E v n xs (hown.alloc _) _ m c news hm hl hnews h1 hbytes (by simp; omega)
  unfold Oper.wp execOp
  simp only [ho, resolve, invoke, builtin, Sem.run_bind, Sem.run_pure, Result.andThen_ok, List.map_toArray, List.map_cons, List.map_nil, hs, hx, hr]
  refine h g cap w' h2 ?_ ?_
  · exact ⟨h3.os, h3.tape, h3.output, Nat.le_trans (by simp) h3.size, fun k hk hne => (h3.block k (by simp; omega) hne).trans (Below.heap_alloc w _ k hk)⟩
  · rcases h4 with h4 | h4
    · exact .inl h4
    · exact .inr (by simp at h4; omega)
def r3E (p : Rw3) : List Value := [.int .i64 p.1, .int .i64 p.2.1, .int .i64 p.2.2]
theorem r3E_len (p : Rw3) : (r3E p).length = 3 := rfl
theorem r3E_one (p : Rw3) : ∀ u ∈ r3E p, u.oneCell' = true := by intro u hu; simp [r3E] at hu; rcases hu with rfl | rfl | rfl <;> rfl
abbrev Rw3In (w : World) (v : Value) (L : List Rw3) : Prop := Rs w.heap.size w r3E 3 v L
theorem Rw3In.below {w w' : World} {v : Value} {L : List Rw3} (h : Rw3In w v L) (hb : Below w.heap.size w w') : Rw3In w' v L := (Rd.below h hb (Nat.le_refl _)).mono hb.size
theorem EFr : ElemT Try.prog 26 31 3 24 := elemT_of (by kernel_rfl) (z := .agg #[.int .i64 0, .int .i64 0, .int .i64 0]) (by kernel_rfl) rfl (by decide) (by decide)
theorem AllOf.from' {R : List Rw} {X : List Pc3} {LL : List (List Int)} (h : AllOf R X LL) {j : Nat} (hj : j ≤ LL.length) : ∃ (wd : Int) (bl : Bool), X[j]? = some (((szL (LL.take j) : Nat) : Int), wd, bl) := by
  rcases Nat.lt_or_ge j LL.length with hl | hl
  · obtain ⟨c, hc⟩ : ∃ c, LL[j]? = some c := ⟨_, List.getElem?_eq_getElem hl⟩
    exact ⟨_, _, h.at' j c hc⟩
  · have : j = LL.length := by omega
    subst this
    rw [List.take_length]
    exact ⟨_, _, h.last⟩
theorem szL_add (LL : List (List Int)) (k n : Nat) : szL (LL.take (k + n)) = szL (LL.take k) + szL ((LL.drop k).take n) := by
  unfold szL
  rw [List.take_add, List.map_append, List.sum_append]
section
variable {R : List Rw} {s : List Int} {w : World} {sv : Value} {tp : Nat}
set_option maxRecDepth 100000 in
set_option maxHeartbeats 8000000 in
theorem fof_any (cols : Int) (hT : Tb R w tp) (hs : RunesIn w sv s) (ok : RunesOk s) (hl : s.length ≤ 100000) :
    Calls Try.prog 12 #[.pointer (some ⟨tp, 0, none⟩), sv, .int .i64 cols] w fun e w' => ∃ u, e = .returned u ∧ Below w.heap.size w w' ∧ Rw3In w' u (rowsFl R cols (clus (tabOf R) s) 0) := by
  have HP := Lib.hid (pieces_any hT hs ok hl)
  have hLl : (clus (tabOf R) s).length ≤ s.length := clusN_len (tabOf R) s.length s
  have HBd := Lib.hid (show ∀ i k, sumW R (((clus (tabOf R) s).drop i).take k) ≤ 1000000000 by
    intro i k
    have h1 := wdG_rng (L := lineG R (((clus (tabOf R) s).drop i).take k)) (fun g hg => (lineG_ok R g hg).1)
    have h2 := lineG_le R (((clus (tabOf R) s).drop i).take k)
    have h3 : (((clus (tabOf R) s).drop i).take k).flatten.length ≤ s.length := by
      have e := clus_flat (tabOf R) s.length s (Nat.le_refl _)
      rw [← szL_flat]
      have h5 := szL_add (clus (tabOf R) s) i k
      have h4 := szL_take_le (clus (tabOf R) s) (i + k)
      have h6 : szL (clus (tabOf R) s) = s.length := by rw [szL_flat, e]
      omega
    show wdG _ ≤ _
    omega)
  have hSz : szL (clus (tabOf R) s) = s.length := by rw [szL_flat, clus_flat (tabOf R) s.length s (Nat.le_refl _)]
  have HTk := Lib.hid (szL_take_le (clus (tabOf R) s))
  generalize clus (tabOf R) s = LL at HP hLl HBd hSz HTk ⊢
  obtain ⟨sl, cap, rfl, hcap, hmax, _⟩ := runes_cells hs
  clear hT hs ok
  go_enter Try.func12, Try.ntmps12
  go_wp2_with fail
  refine HP.out.mono ?_
  rintro e w1 ⟨pu, X, rfl, hB1, hX1, hA1⟩
  have HB1 := Lib.hid hB1
  have HX := Lib.hid hX1
  have HA := Lib.hid hA1
  have hXl := hA1.len
  have HXl := Lib.hid hXl
  obtain ⟨x0, hx0⟩ : ∃ x, X[0]? = some x := ⟨_, List.getElem?_eq_getElem (by omega)⟩
  obtain ⟨sb, soff, sc, rfl, hm2, hcap2, _, hsb, _⟩ := pcs_cells hX1 hx0
  unfold maxLen at hm2
  clear hB1 hX1 hA1 HP hx0
  have e0 := IntWalk.i64_in ((X.length : Int) - 1) (by omega)
  clear hXl
  go_wp2_with fail
  go_loopw [8, 9] (fun ov av wr => ∃ (k : Nat) (L : List Rw3), k ≤ LL.length ∧ av = .int .i64 ((k : Nat) : Int) ∧ Below w1.heap.size w1 wr ∧ wr.ownsRow w1.heap.size 31 3 ov L.length (L.flatMap r3E) ∧ L.length ≤ k ∧ L ++ rowsFl R cols (LL.drop k) (szL (LL.take k)) = rowsFl R cols LL 0) (fun _ av _ => LL.length - (intOf av).toNat)
  case atStart => exact ⟨0, [], Nat.zero_le _, rfl, .refl _ _, World.ownsRow_nil _ _ _ _, Nat.le_refl _, rfl⟩
  case round =>
    obtain ⟨k, L, hk, rfl, hB, hO, hL, hR⟩ := hrel
    have HB := Lib.hid hB
    have HO := Lib.hid hO
    have HRr := Lib.hid hR
    obtain ⟨pa, pc, rfl⟩ := slice_of_owns hO
    have hXl := HXl.out
    by_cases hlt : k < LL.length
    · have HEnd := Lib.hid (end_any cols (HX.out.below hB) HA.out HBd.out (by omega) hlt)
      have hne : LL.drop k ≠ [] := fun e => by have := congrArg List.length e; rw [List.length_drop] at this; simp at this; omega
      have hrg := endN_rng (R := R) (cols := cols) hne
      have hst := rowsFl_step R cols hne (szL (LL.take k))
      rw [List.length_drop] at hrg
      generalize endN R (LL.drop k) cols = n at HEnd hrg hst
      rw [← szL_add, List.drop_drop] at hst
      have HSt := Lib.hid hst
      have HRg := Lib.hid hrg
      have HLk := Lib.hid hL
      have HLt := Lib.hid hlt
      have s0 : (k : Int) < (X.length : Int) - 1 := by omega
      clear hB hO hR hne hst hXl hrg hL hlt
      go_wp2_with fail
      refine HEnd.out.mono ?_
      rintro e w2 ⟨rfl, hB2⟩
      have HB2 := Lib.hid (HB.out.trans (hB2.mono HB.out.size))
      have HO2 := Lib.hid (owns_stays HO.out hB2)
      clear hB2 HB HO HEnd
      have hrg := HRg.out
      have hlt := HLt.out
      have hXl := HXl.out
      have hL := HLk.out
      obtain ⟨kw, kb, hxk⟩ := HA.out.from' (Nat.le_of_lt hlt)
      obtain ⟨ew, eb, hxe⟩ := HA.out.from' (j := k + n) (by omega)
      obtain ⟨kn, hkn⟩ : ∃ kn, kn = k + n := ⟨_, rfl⟩
      rw [← hkn] at hxe HSt ⊢
      obtain ⟨A, hA'⟩ : ∃ A, A = szL (LL.take k) := ⟨_, rfl⟩
      obtain ⟨A', hA''⟩ : ∃ A, A = szL (LL.take kn) := ⟨_, rfl⟩
      rw [← hA'] at hxk HSt
      rw [← hA''] at hxe HSt
      obtain ⟨_, _, _, hv, _, _, _, _, d0, _, _⟩ := pcs_cells (HX.out.below HB2.out) hxk
      cases hv
      obtain ⟨_, _, _, hv, _, _, _, _, d1, _, _⟩ := pcs_cells (HX.out.below HB2.out) hxe
      cases hv
      have hC := HA.out.sub (i := k) (j := kn) (by omega) (by omega)
      rw [show kn - k = n by omega] at hC
      have HSh := Lib.hid (fun (W : World) (hX : PcsIn W (.slice (some ⟨sb, soff, none⟩) X.length sc) X) => shown_any (R := R) (pcs_sub hX (i := k) (j := kn) (by omega) (by omega) (by obtain ⟨_, _, h1, _, _, _, h4⟩ := hX; cases h1; obtain ⟨_, _, h5, h6, _⟩ := h4 (by omega); cases h5; exact h6)) hC (fun j => by rw [List.take_take]; exact HBd.out k _))
      generalize shW R ((LL.drop k).take n) = sw at HSh HSt
      have s1 : (0 : Int) ≤ (k : Int) := by omega
      have s2 : (k : Int) < (X.length : Int) := by omega
      have s3 : (kn : Int) < (X.length : Int) := by omega
      have s4 : (k : Int) ≤ (kn : Int) := by omega
      have s5 : (kn : Int) ≤ (sc : Int) := by omega
      have s6 : ¬ sc = k := by omega
      have s7 : (0 : Int) ≤ (kn : Int) := by omega
      have hrg1 : k < kn ∧ kn ≤ LL.length := by omega
      have hbig : (L.length + 1) * 24 ≤ 140737488355328 := by omega
      have HA1 := Lib.hid hA'
      have HA2 := Lib.hid hA''
      have HKn := Lib.hid hkn
      have HXk := Lib.hid hxk
      have HXe := Lib.hid hxe
      clear hxk hxe hA' hA'' hkn hC hXl hL hrg hlt
      go_upto_region 6 with fail
      refine wp_region_held_drew (S := fun w' => w'.cell? ⟨sb, soff + k * 3, none⟩ = some (.int .i64 (A : Int)) ∧ w'.cell? ⟨sb, soff + kn * 3, none⟩ = some (.int .i64 (A' : Int))) (by kernel_rfl) ⟨d0, d1⟩ (fun hHeld => ?_)
      refine hd_take 0 rfl (by kernel_rfl) (by kernel_rfl) (by kernel_rfl) (fun _ _ _ h => h) (by rfl) (by intro w hSw; (try dsimp only at hSw); obtain ⟨hs1, hs2⟩ := hSw; go_simp; first | done | with_reducible rfl) hHeld ?_
      try simp only [Act.put, List.setIfInBounds_toArray, List.set_cons_zero, List.set_cons_succ]
      refine hd_take 1 rfl (by kernel_rfl) (by kernel_rfl) (by kernel_rfl) (fun _ _ _ h => h) (by rfl) (by intro w hSw; (try dsimp only at hSw); obtain ⟨hs1, hs2⟩ := hSw; go_simp; first | done | with_reducible rfl) hHeld ?_
      try simp only [Act.put, List.setIfInBounds_toArray, List.set_cons_zero, List.set_cons_succ]
      refine hd_take 2 rfl (by kernel_rfl) (by kernel_rfl) (by kernel_rfl) (fun _ _ _ h => h) (by rfl) (by intro w hSw; (try dsimp only at hSw); obtain ⟨hs1, hs2⟩ := hSw; go_simp; first | done | with_reducible rfl) hHeld ?_
      try simp only [Act.put, List.setIfInBounds_toArray, List.set_cons_zero, List.set_cons_succ]
      refine hd_take 3 rfl (by kernel_rfl) (by kernel_rfl) (by kernel_rfl) (fun _ _ _ h => h) (by rfl) (by intro w hSw; (try dsimp only at hSw); obtain ⟨hs1, hs2⟩ := hSw; go_simp; first | done | with_reducible rfl) hHeld ?_
      try simp only [Act.put, List.setIfInBounds_toArray, List.set_cons_zero, List.set_cons_succ]
      refine hd_take 4 rfl (by kernel_rfl) (by kernel_rfl) (by kernel_rfl) (fun _ _ _ h => h) (by rfl) (by intro w hSw; (try dsimp only at hSw); obtain ⟨hs1, hs2⟩ := hSw; go_simp; first | done | with_reducible rfl) hHeld ?_
      try simp only [Act.put, List.setIfInBounds_toArray, List.set_cons_zero, List.set_cons_succ]
      refine hd_take 5 rfl (by kernel_rfl) (by kernel_rfl) (by kernel_rfl) (fun _ _ _ h => h) (by rfl) (by intro w hSw; (try dsimp only at hSw); obtain ⟨hs1, hs2⟩ := hSw; go_simp; first | done | with_reducible rfl) hHeld ?_
      try simp only [Act.put, List.setIfInBounds_toArray, List.set_cons_zero, List.set_cons_succ]
      refine hd_take 6 rfl (by kernel_rfl) (by kernel_rfl) (by kernel_rfl) (fun _ _ _ h => h) (by rfl) (by intro w hSw; (try dsimp only at hSw); obtain ⟨hs1, hs2⟩ := hSw; go_simp; first | done | with_reducible rfl) hHeld ?_
      try simp only [Act.put, List.setIfInBounds_toArray, List.set_cons_zero, List.set_cons_succ]
      refine hd_take 7 rfl (by kernel_rfl) (by kernel_rfl) (by kernel_rfl) (fun _ _ _ h => h) (by rfl) (by intro w hSw; (try dsimp only at hSw); obtain ⟨hs1, hs2⟩ := hSw; go_simp; first | done | with_reducible rfl) hHeld ?_
      try simp only [Act.put, List.setIfInBounds_toArray, List.set_cons_zero, List.set_cons_succ]
      refine hd_take 8 rfl (by kernel_rfl) (by kernel_rfl) (by kernel_rfl) (fun _ _ _ h => h) (by rfl) (by intro w hSw; (try dsimp only at hSw); obtain ⟨hs1, hs2⟩ := hSw; go_simp; first | done | with_reducible rfl) hHeld ?_
      try simp only [Act.put, List.setIfInBounds_toArray, List.set_cons_zero, List.set_cons_succ]
      refine hd_take 9 rfl (by kernel_rfl) (by kernel_rfl) (by kernel_rfl) (fun _ _ _ h => h) (by rfl) (by intro w hSw; (try dsimp only at hSw); obtain ⟨hs1, hs2⟩ := hSw; go_simp; first | done | with_reducible rfl) hHeld ?_
      try simp only [Act.put, List.setIfInBounds_toArray, List.set_cons_zero, List.set_cons_succ]
      refine hd_take 10 rfl (by kernel_rfl) (by kernel_rfl) (by kernel_rfl) (fun _ _ _ h => h) (by rfl) (by intro w hSw; (try dsimp only at hSw); obtain ⟨hs1, hs2⟩ := hSw; go_simp; first | done | with_reducible rfl) hHeld ?_
      try simp only [Act.put, List.setIfInBounds_toArray, List.set_cons_zero, List.set_cons_succ]
      refine hd_take 11 rfl (by kernel_rfl) (by kernel_rfl) (by kernel_rfl) (fun _ _ _ h => h) (by rfl) (by intro w hSw; (try dsimp only at hSw); obtain ⟨hs1, hs2⟩ := hSw; go_simp; first | done | with_reducible rfl) hHeld ?_
      try simp only [Act.put, List.setIfInBounds_toArray, List.set_cons_zero, List.set_cons_succ]
      refine hd_take 12 rfl (by kernel_rfl) (by kernel_rfl) (by kernel_rfl) (fun _ _ _ h => h) (by rfl) (by intro w hSw; (try dsimp only at hSw); obtain ⟨hs1, hs2⟩ := hSw; go_simp; first | done | with_reducible rfl) hHeld ?_
      try simp only [Act.put, List.setIfInBounds_toArray, List.set_cons_zero, List.set_cons_succ]
      refine hd_take 13 rfl (by kernel_rfl) (by kernel_rfl) (by kernel_rfl) (fun _ _ _ h => h) (by rfl) (by intro w hSw; (try dsimp only at hSw); obtain ⟨hs1, hs2⟩ := hSw; go_simp; first | done | with_reducible rfl) hHeld ?_
      try simp only [Act.put, List.setIfInBounds_toArray, List.set_cons_zero, List.set_cons_succ]
      refine hd_take 14 rfl (by kernel_rfl) (by kernel_rfl) (by kernel_rfl) (fun _ _ _ h => h) (by rfl) (by intro w hSw; (try dsimp only at hSw); obtain ⟨hs1, hs2⟩ := hSw; go_simp; first | done | with_reducible rfl) hHeld ?_
      try simp only [Act.put, List.setIfInBounds_toArray, List.set_cons_zero, List.set_cons_succ]
      refine hd_step 15 (by kernel_rfl) rfl (fun K hK => ?_)
      go_simp
      go_at_call 44
      refine (HSh.out _ (show PcsIn w2.drew _ _ from PcsIn.below HX.out (show Below w1.heap.size w1 w2.drew from below_dN HB2.out 1))).mono ?_
      rintro e w3 ⟨rfl, hB3⟩
      have d03 := cell_later hB3 (show w2.drew.cell? _ = _ from d0)
      have d13 := cell_later hB3 (show w2.drew.cell? _ = _ from d1)
      have HBd2 := Lib.hid (show Below w1.heap.size w1 w2.drew from below_dN HB2.out 1)
      have HB3 := Lib.hid (HBd2.out.trans (hB3.mono HBd2.out.size))
      have HO3 := Lib.hid (owns_stays (show w2.drew.ownsRow w1.heap.size 31 3 (.slice pa L.length pc) L.length (L.flatMap r3E) from HO2.out) hB3)
      clear hB3
      go_wp2_with fail
      refine hK.out _ _ ⟨d03, d13⟩ (fun hHeld => ?_)
      clear hK K
      try simp only [Act.put, List.setIfInBounds_toArray, List.set_cons_zero, List.set_cons_succ]
      refine hd_take 16 rfl (by kernel_rfl) (by kernel_rfl) (by kernel_rfl) (fun _ _ _ h => h) (by rfl) (by intro w hSw; (try dsimp only at hSw); obtain ⟨hs1, hs2⟩ := hSw; go_simp; first | done | with_reducible rfl) hHeld ?_
      try simp only [Act.put, List.setIfInBounds_toArray, List.set_cons_zero, List.set_cons_succ]
      refine hd_step 17 (by kernel_rfl) rfl (fun K hK => ?_)
      go_simp
      have hb4 := below1 w3 (.cells #[.int .i64 (A : Int), .int .i64 (A' : Int), .int .i64 sw] 31)
      refine hK.out _ _ ⟨cell_later hb4 d03, cell_later hb4 d13⟩ (fun hHeld => ?_)
      clear hK K
      try simp only [Act.put, List.setIfInBounds_toArray, List.set_cons_zero, List.set_cons_succ]
      refine hd_step 18 (by kernel_rfl) rfl (fun K hK => ?_)
      rw [if_pos (by rfl)]
      refine oper_app1 w3 (.tmp 23) (.tmp 40) _ rfl EFr _ _ _ rfl HO3.out 1 1 (r3E ((A : Int), (A' : Int), sw)) rfl (by decide) rfl (r3E_one _) hbig HB3.out.size ?_
      intro g cp7 w7 ho7 hg7 hf7
      have HB7 := Lib.hid (below_app HB3.out HB3.out.size HO3.out (Nat.le_refl _) hg7)
      have HO7 := Lib.hid ho7
      clear ho7 hg7 hf7
      obtain ⟨_, _, _, hv, _, _, _, _, d07, _, _⟩ := pcs_cells (PcsIn.below HX.out HB7.out) HXk.out
      cases hv
      obtain ⟨_, _, _, hv, _, _, _, _, d17, _, _⟩ := pcs_cells (PcsIn.below HX.out HB7.out) HXe.out
      cases hv
      refine hK.out _ _ ⟨d07, d17⟩ (fun hHeld => ?_)
      clear hK K
      try simp only [Act.put, List.setIfInBounds_toArray, List.set_cons_zero, List.set_cons_succ]
      refine hd_step 19 (by kernel_rfl) rfl (fun K hK => ?_)
      go_simp
      refine hK.out _ _ ⟨d07, d17⟩ (fun hHeld => ?_)
      clear hK K
      try simp only [Act.put, List.setIfInBounds_toArray, List.set_cons_zero, List.set_cons_succ]
      refine wpAnyH_done (by kernel_rfl) ?_ _
      have HRn := Lib.hid (show (L ++ [((A : Int), (A' : Int), sw)]) ++ rowsFl R cols (LL.drop kn) (szL (LL.take kn)) = rowsFl R cols LL 0 by
        have h1 := HRr.out
        rw [← HA1.out, HSt.out] at h1
        rw [← HA2.out, List.append_assoc]
        exact h1)
      have HLn := Lib.hid (show (L ++ [((A : Int), (A' : Int), sw)]).length ≤ kn by rw [List.length_append]; have := HLk.out; simp; omega)
      clear hHeld d03 d13 d07 d17 hb4 HO3 HB3 HBd2 HSh HRr HSt d0 d1 HB2 HO2
      go_wp2_with fail
      go_roundw
      case rel => exact ⟨kn, L ++ [((A : Int), (A' : Int), sw)], hrg1.2, rfl, HB7.out, by rw [List.length_append, flat_snoc]; exact HO7.out, HLn.out, HRn.out⟩
      case measure => simp [intOf] <;> omega
    · have hke : k = LL.length := by omega
      have HRe := Lib.hid (show L = rowsFl R cols LL 0 by rw [hke, List.drop_length, rowsFl_nil, List.append_nil] at hR; exact hR)
      have s0 : decide ((k : Int) < (X.length : Int) - 1) = false := decide_eq_false (by omega)
      clear hB hO hR hL hlt hke hXl
      go_wp2_with fail
      go_ret
      exact ⟨_, rfl, below_trans' HB1.out HB.out, by rw [← HRe.out]; exact rd_of_owns HO.out⟩
end
end Go.Proofs.Ythlpelfogplomaa
