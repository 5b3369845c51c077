/- The plain law of grids: rows of cells; loosening a cell, putting a glyph, erasing; what stays true of wide cells. No program here. -/
import Derived.Test.YtokenlecnbploaaWrapA
namespace Go.Proofs.Ytokenlecnbploaa

def blankC : Gl := (⟨#[32]⟩, 1)
def zeroC : Gl := (⟨#[]⟩, 0)
def cellAt (l : List Gl) (c : Nat) : Gl := l.getD c blankC
theorem cellAt_set (l : List Gl) (i : Nat) (x : Gl) (c : Nat) (hi : i < l.length) : cellAt (l.set i x) c = if c = i then x else cellAt l c := by
  unfold cellAt
  rw [List.getD_eq_getElem?_getD, List.getD_eq_getElem?_getD]
  by_cases h : c = i
  · subst h; rw [List.getElem?_set_self hi, if_pos rfl]; rfl
  · rw [List.getElem?_set_ne (by omega), if_neg h]
theorem cellAt_of {l : List Gl} {c : Nat} {x : Gl} (h : l[c]? = some x) : cellAt l c = x := by unfold cellAt; rw [List.getD_eq_getElem?_getD, h]; rfl
theorem get_cellAt {l : List Gl} {c : Nat} (h : c < l.length) : l[c]? = some (cellAt l c) := by unfold cellAt; rw [List.getD_eq_getElem?_getD, List.getElem?_eq_getElem h]; rfl

def looseRow (l : List Gl) (k : Nat) : List Gl :=
  (if (cellAt l k).2 = 0 then l.set (k - 1) blankC else if (cellAt l k).2 = 2 then l.set (k + 1) blankC else l).set k blankC
theorem looseRow_len (l : List Gl) (k : Nat) : (looseRow l k).length = l.length := by
  unfold looseRow; rw [List.length_set]; split
  · simp
  · split <;> simp

/-- what holds of a row -/
def fine (l : List Gl) (c : Nat) : Prop :=
  ((cellAt l c).2 = 0 ∧ (cellAt l c).1 = ⟨#[]⟩ ∧ 1 ≤ c ∧ (cellAt l (c - 1)).2 = 2) ∨ (cellAt l c).2 = 1 ∨ ((cellAt l c).2 = 2 ∧ c + 1 < l.length ∧ (cellAt l (c + 1)).2 = 0)
def wfRow (l : List Gl) : Prop := ∀ c, c < l.length → fine l c

theorem cellAt_loose {l : List Gl} (hw : wfRow l) {k : Nat} (hk : k < l.length) (c : Nat) :
    cellAt (looseRow l k) c = if c = k then blankC else if (cellAt l k).2 = 0 ∧ c + 1 = k then blankC else if (cellAt l k).2 = 2 ∧ c = k + 1 then blankC else cellAt l c := by
  unfold looseRow
  have hf := hw k hk
  unfold fine at hf
  rcases hf with ⟨h1, _, h2, _⟩ | h1 | ⟨h1, h2, _⟩
  · rw [if_pos h1, cellAt_set _ _ _ _ (by simpa using hk), cellAt_set _ _ _ _ (by omega)]
    by_cases hc : c = k
    · rw [if_pos hc, if_pos hc]
    · rw [if_neg hc, if_neg hc]
      by_cases h3 : c + 1 = k
      · rw [if_pos (by omega), if_pos ⟨h1, h3⟩]
      · rw [if_neg (by omega), if_neg (fun h => h3 h.2), if_neg (fun h => by omega)]
  · rw [if_neg (by omega), if_neg (by omega), cellAt_set _ _ _ _ hk]
    by_cases hc : c = k
    · rw [if_pos hc, if_pos hc]
    · rw [if_neg hc, if_neg hc, if_neg (fun h => by omega), if_neg (fun h => by omega)]
  · rw [if_neg (by omega), if_pos h1, cellAt_set _ _ _ _ (by simpa using hk), cellAt_set _ _ _ _ h2]
    by_cases hc : c = k
    · rw [if_pos hc, if_pos hc]
    · rw [if_neg hc, if_neg hc]
      by_cases h3 : c = k + 1
      · rw [if_pos h3, if_neg (fun h => by omega), if_pos ⟨h1, h3⟩]
      · rw [if_neg h3, if_neg (fun h => by omega), if_neg (fun h => h3 h.2)]

theorem blank_w : blankC.2 = 1 := rfl

theorem wf_loose {l : List Gl} (hw : wfRow l) {k : Nat} (hk : k < l.length) : wfRow (looseRow l k) := by
  intro c hc
  rw [looseRow_len] at hc
  have hl := looseRow_len l k
  have hat := cellAt_loose hw hk
  have hfk := hw k hk
  have hfc := hw c hc
  unfold fine at hfk hfc ⊢
  rw [hl]
  by_cases h1 : c = k
  · rw [hat c, if_pos h1]; exact .inr (.inl rfl)
  by_cases h2 : (cellAt l k).2 = 0 ∧ c + 1 = k
  · rw [hat c, if_neg h1, if_pos h2]; exact .inr (.inl rfl)
  by_cases h3 : (cellAt l k).2 = 2 ∧ c = k + 1
  · rw [hat c, if_neg h1, if_neg h2, if_pos h3]; exact .inr (.inl rfl)
  rw [hat c, if_neg h1, if_neg h2, if_neg h3]
  rcases hfc with ⟨a1, a2, a3, a4⟩ | a1 | ⟨a1, a2, a3⟩
  · refine .inl ⟨a1, a2, a3, ?_⟩
    rw [hat (c - 1)]
    rw [if_neg (fun e => by rw [e] at a4; exact h3 ⟨a4, by omega⟩), if_neg (fun e => by omega)]
    rw [if_neg]
    · exact a4
    · rintro ⟨e1, e2⟩
      rcases hfk with ⟨b1, _⟩ | b1 | ⟨_, _, b3⟩
      · omega
      · omega
      · rw [e2] at a4; omega
  · exact .inr (.inl a1)
  · refine .inr (.inr ⟨a1, a2, ?_⟩)
    rw [hat (c + 1)]
    rw [if_neg (fun e => by rw [e] at a3; exact h2 ⟨a3, e⟩)]
    rw [if_neg]
    · rw [if_neg (fun e => by omega)]
      exact a3
    · rintro ⟨e1, e2⟩
      rcases hfk with ⟨_, _, _, b4⟩ | b1 | ⟨b1, _⟩
      · rw [← e2, Nat.add_sub_cancel] at b4; omega
      · omega
      · omega

def putRow (l : List Gl) (k : Nat) (x : Gl) : List Gl :=
  if x.2 = 2 then ((looseRow (looseRow l k) (k + 1)).set (k + 1) zeroC).set k x else (looseRow l k).set k x
theorem putRow_len (l : List Gl) (k : Nat) (x : Gl) : (putRow l k x).length = l.length := by
  unfold putRow; split <;> simp [looseRow_len]

theorem wf_put {l : List Gl} (hw : wfRow l) {k : Nat} {x : Gl} (hk : k < l.length) (hx : x.2 = 1 ∨ x.2 = 2 ∧ k + 1 < l.length) : wfRow (putRow l k x) := by
  have hw1 := wf_loose hw hk
  have hl1 := looseRow_len l k
  have hb1 : cellAt (looseRow l k) k = blankC := by rw [cellAt_loose hw hk, if_pos rfl]
  rcases hx with hx | ⟨hx, hk1⟩
  · unfold putRow
    rw [if_neg (by omega)]
    generalize looseRow l k = m at *
    intro c hc
    rw [List.length_set] at hc
    have hf := hw1 c hc
    unfold fine at hf ⊢
    rw [List.length_set]
    by_cases h1 : c = k
    · subst h1; rw [cellAt_set _ _ _ _ (by omega), if_pos rfl]; exact .inr (.inl hx)
    · rw [cellAt_set _ _ _ _ (by omega), if_neg h1]
      rcases hf with ⟨a1, a2, a3, a4⟩ | a1 | ⟨a1, a2, a3⟩
      · refine .inl ⟨a1, a2, a3, ?_⟩
        rw [cellAt_set _ _ _ _ (by omega), if_neg (fun e => by rw [e, hb1, blank_w] at a4; omega)]
        exact a4
      · exact .inr (.inl a1)
      · refine .inr (.inr ⟨a1, a2, ?_⟩)
        rw [cellAt_set _ _ _ _ (by omega), if_neg (fun e => by rw [e, hb1, blank_w] at a3; omega)]
        exact a3
  · unfold putRow
    rw [if_pos hx]
    have hk2 : k + 1 < (looseRow l k).length := by omega
    have hw2 := wf_loose hw1 hk2
    have hl2 := looseRow_len (looseRow l k) (k + 1)
    have hb2 : cellAt (looseRow (looseRow l k) (k + 1)) (k + 1) = blankC := by rw [cellAt_loose hw1 hk2, if_pos rfl]
    have hb3 : cellAt (looseRow (looseRow l k) (k + 1)) k = blankC := by
      rw [cellAt_loose hw1 hk2, if_neg (by omega)]
      split
      · rfl
      · rw [if_neg (by omega), hb1]
    generalize looseRow (looseRow l k) (k + 1) = m at *
    have hat : ∀ c, cellAt ((m.set (k + 1) zeroC).set k x) c = if c = k then x else if c = k + 1 then zeroC else cellAt m c := by
      intro c; rw [cellAt_set _ _ _ _ (by rw [List.length_set]; omega), cellAt_set _ _ _ _ (by omega)]
    intro c hc
    have hc' : c < m.length := by simpa using hc
    have hf := hw2 c hc'
    unfold fine at hf ⊢
    simp only [List.length_set]
    by_cases h1 : c = k
    · subst h1
      rw [hat c, if_pos rfl, hat (c + 1), if_neg (by omega), if_pos rfl]
      exact .inr (.inr ⟨hx, by omega, rfl⟩)
    by_cases h2 : c = k + 1
    · subst h2
      rw [hat (k + 1), if_neg (by omega), if_pos rfl, Nat.add_sub_cancel, hat k, if_pos rfl]
      exact .inl ⟨rfl, rfl, by omega, hx⟩
    rw [hat c, if_neg h1, if_neg h2]
    rcases hf with ⟨a1, a2, a3, a4⟩ | a1 | ⟨a1, a2, a3⟩
    · refine .inl ⟨a1, a2, a3, ?_⟩
      rw [hat (c - 1), if_neg (fun e => by rw [e, hb3, blank_w] at a4; omega), if_neg (fun e => by rw [e, hb2, blank_w] at a4; omega)]
      exact a4
    · exact .inr (.inl a1)
    · refine .inr (.inr ⟨a1, a2, ?_⟩)
      rw [hat (c + 1), if_neg (fun e => by rw [e, hb3, blank_w] at a3; omega), if_neg (fun e => by rw [e, hb2, blank_w] at a3; omega)]
      exact a3

/-- erased from a column on, as far as n columns -/
def eraseRow (l : List Gl) (c : Nat) : Nat → List Gl
  | 0 => l
  | n + 1 => looseRow (eraseRow l c n) (c + n)
theorem eraseRow_len (l : List Gl) (c n : Nat) : (eraseRow l c n).length = l.length := by
  induction n with
  | zero => rfl
  | succ n ih => unfold eraseRow; rw [looseRow_len, ih]
theorem wf_erase {l : List Gl} (hw : wfRow l) {c : Nat} : ∀ n, c + n ≤ l.length → wfRow (eraseRow l c n) := by
  intro n
  induction n with
  | zero => intro _; exact hw
  | succ n ih => intro h; unfold eraseRow; exact wf_loose (ih (by omega)) (by rw [eraseRow_len]; omega)
theorem erase_blank {l : List Gl} (hw : wfRow l) : ∀ n, n ≤ l.length → ∀ c, c < n → cellAt (eraseRow l 0 n) c = blankC := by
  intro n
  induction n with
  | zero => intro _ c h; omega
  | succ n ih =>
    intro hn c hc
    unfold eraseRow
    rw [Nat.zero_add, cellAt_loose (wf_erase hw n (by omega)) (by rw [eraseRow_len]; omega)]
    split
    · rfl
    · split
      · rfl
      · split
        · rfl
        · exact ih (by omega) c (by omega)
theorem erase_all {l : List Gl} (hw : wfRow l) : eraseRow l 0 l.length = List.replicate l.length blankC := by
  refine List.ext_getElem? fun c => ?_
  rcases Nat.lt_or_ge c l.length with h | h
  · rw [get_cellAt (by rw [eraseRow_len]; exact h), erase_blank hw _ (Nat.le_refl _) c h, List.getElem?_replicate, if_pos h]
  · rw [List.getElem?_eq_none (by rw [eraseRow_len]; exact h), List.getElem?_eq_none (by simpa using h)]

theorem wf_blank (n : Nat) : wfRow (List.replicate n blankC) := by
  intro c hc
  have h : cellAt (List.replicate n blankC) c = blankC := cellAt_of (by rw [List.getElem?_replicate, if_pos (by simpa using hc)])
  unfold fine
  rw [h]
  exact .inr (.inl rfl)

/-! ### Rows one behind the other -/
def shape (n m : Nat) (G : List (List Gl)) : Prop := G.length = n ∧ ∀ l ∈ G, l.length = m
theorem flat_at {m : Nat} : ∀ {G : List (List Gl)}, (∀ l ∈ G, l.length = m) → ∀ {r c : Nat} {l : List Gl}, G[r]? = some l → c < m → G.flatten[r * m + c]? = l[c]? := by
  intro G
  induction G with
  | nil => intro _ r c l h; simp at h
  | cons l0 G ih =>
    intro hG r c l hr hc
    have h0 := hG l0 List.mem_cons_self
    rw [List.flatten_cons]
    cases r with
    | zero =>
      simp at hr; subst hr
      rw [Nat.zero_mul, Nat.zero_add, List.getElem?_append_left (by omega)]
    | succ r =>
      rw [Nat.succ_mul, List.getElem?_append_right (by omega), h0, show r * m + m + c - m = r * m + c by omega]
      exact ih (fun l hl => hG l (List.mem_cons_of_mem _ hl)) (by simpa using hr) hc
theorem flat_length {m : Nat} : ∀ {G : List (List Gl)}, (∀ l ∈ G, l.length = m) → G.flatten.length = G.length * m := by
  intro G
  induction G with
  | nil => intro _; simp
  | cons l0 G ih =>
    intro hG
    rw [List.flatten_cons, List.length_append, ih (fun l hl => hG l (List.mem_cons_of_mem _ hl)), hG l0 List.mem_cons_self, List.length_cons, Nat.succ_mul]
    omega
theorem flat_set {m : Nat} : ∀ {G : List (List Gl)}, (∀ l ∈ G, l.length = m) → ∀ {r c : Nat} {l : List Gl} (x : Gl), G[r]? = some l → c < m → G.flatten.set (r * m + c) x = (G.set r (l.set c x)).flatten := by
  intro G
  induction G with
  | nil => intro _ r c l x h; simp at h
  | cons l0 G ih =>
    intro hG r c l x hr hc
    have h0 := hG l0 List.mem_cons_self
    rw [List.flatten_cons]
    cases r with
    | zero =>
      simp at hr; subst hr
      rw [Nat.zero_mul, Nat.zero_add, List.set_append_left _ _ (by omega), List.set_cons_zero, List.flatten_cons]
    | succ r =>
      rw [Nat.succ_mul, List.set_append_right _ _ (by omega), h0, show r * m + m + c - m = r * m + c by omega, List.set_cons_succ, List.flatten_cons]
      rw [ih (fun l hl => hG l (List.mem_cons_of_mem _ hl)) x (by simpa using hr) hc]
end Go.Proofs.Ytokenlecnbploaa
