/- The plain law of going among words: one step, the way back, and where the step leads in the list of a row or a column. -/
namespace Go.Proofs.Ytokenlecnbploaa

def goN (rows n p : Nat) : Nat → Nat
  | 0 => if rows ≤ p then p - rows else p % rows + (n - 1 - p % rows) / rows * rows
  | 1 => if p + rows < n then p + rows else p % rows
  | 2 => if 0 < p % rows then p - 1 else min (p / rows * rows + rows) n - 1
  | _ => if p % rows + 1 < rows ∧ p + 1 < n then p + 1 else p / rows * rows

theorem decomp (p rows : Nat) (hr : 0 < rows) : p / rows * rows + p % rows = p ∧ p % rows < rows := ⟨by rw [Nat.mul_comm]; exact Nat.div_add_mod p rows, Nat.mod_lt _ hr⟩

theorem mod_far {rows i p : Nat} (hr : 0 < rows) (h : i % rows = p % rows) : i = p ∨ i + rows ≤ p ∨ p + rows ≤ i := by
  obtain ⟨h1, h2⟩ := decomp i rows hr
  obtain ⟨h3, h4⟩ := decomp p rows hr
  rcases Nat.lt_trichotomy (i / rows) (p / rows) with hlt | he | hgt
  · have := Nat.mul_le_mul_right rows (show i / rows + 1 ≤ p / rows by omega)
    rw [Nat.succ_mul] at this
    omega
  · rw [he] at h1; omega
  · have := Nat.mul_le_mul_right rows (show p / rows + 1 ≤ i / rows by omega)
    rw [Nat.succ_mul] at this
    omega

theorem div_iff {rows i p : Nat} (hr : 0 < rows) : i / rows = p / rows ↔ p / rows * rows ≤ i ∧ i < p / rows * rows + rows := by
  obtain ⟨h1, h2⟩ := decomp i rows hr
  constructor
  · intro h; rw [h] at h1; omega
  · rintro ⟨a, b⟩
    exact Nat.div_eq_of_lt_le a (by rw [Nat.succ_mul]; exact b)

theorem mod_add_mul (r k rows : Nat) (h : r < rows) : (r + k * rows) % rows = r ∧ (r + k * rows) / rows = k := by
  constructor
  · rw [Nat.mul_comm, Nat.add_mul_mod_self_left, Nat.mod_eq_of_lt h]
  · rw [Nat.mul_comm, Nat.add_mul_div_left _ _ (by omega), Nat.div_eq_of_lt h, Nat.zero_add]

/-- the last one of p's row -/
theorem last_row {rows n p : Nat} (hr : 0 < rows) (hp : p < n) : ∃ k, (n - 1 - p % rows) / rows = k ∧ p % rows + k * rows < n ∧ n ≤ p % rows + k * rows + rows ∧ p / rows ≤ k := by
  obtain ⟨h1, h2⟩ := decomp p rows hr
  obtain ⟨h3, h4⟩ := decomp (n - 1 - p % rows) rows hr
  have hm : p % rows ≤ p := by omega
  refine ⟨_, rfl, by omega, by omega, ?_⟩
  have : p / rows * rows ≤ n - 1 - p % rows := by omega
  exact (Nat.le_div_iff_mul_le hr).2 this

theorem goN_lt {rows n p : Nat} (hr : 0 < rows) (hp : p < n) (way : Nat) : goN rows n p way < n := by
  obtain ⟨h1, h2⟩ := decomp p rows hr
  unfold goN
  split
  · split
    · omega
    · obtain ⟨k, hk, k1, _⟩ := last_row hr hp; rw [hk]; exact k1
  · split <;> omega
  · split <;> omega
  · split <;> omega

def backWay : Nat → Nat
  | 0 => 1
  | 1 => 0
  | 2 => 3
  | _ => 2

theorem goN_back {rows n p : Nat} (hr : 0 < rows) (hp : p < n) (way : Nat) (hw : way < 4) : goN rows n (goN rows n p way) (backWay way) = p := by
  obtain ⟨h1, h2⟩ := decomp p rows hr
  obtain ⟨k, hk, k1, k2, k3⟩ := last_row hr hp
  rcases (show way = 0 ∨ way = 1 ∨ way = 2 ∨ way = 3 by omega) with rfl | rfl | rfl | rfl
  · show (if goN rows n p 0 + rows < n then goN rows n p 0 + rows else goN rows n p 0 % rows) = p
    simp only [goN, hk]
    by_cases h : rows ≤ p
    · rw [if_pos h, if_pos (by omega)]; omega
    · rw [if_neg h, if_neg (by omega), (mod_add_mul _ k rows h2).1, Nat.mod_eq_of_lt (by omega)]
  · show (if rows ≤ goN rows n p 1 then goN rows n p 1 - rows else goN rows n p 1 % rows + (n - 1 - goN rows n p 1 % rows) / rows * rows) = p
    simp only [goN]
    by_cases h : p + rows < n
    · rw [if_pos h, if_pos (by omega)]; omega
    · rw [if_neg h, if_neg (by omega), Nat.mod_eq_of_lt h2, hk]
      have : k = p / rows := by
        rcases Nat.lt_or_ge (p / rows) k with hlt | hge
        · have := Nat.mul_le_mul_right rows (show p / rows + 1 ≤ k by omega)
          rw [Nat.succ_mul] at this
          omega
        · omega
      rw [this]; omega
  · show (if goN rows n p 2 % rows + 1 < rows ∧ goN rows n p 2 + 1 < n then goN rows n p 2 + 1 else goN rows n p 2 / rows * rows) = p
    simp only [goN]
    by_cases h : 0 < p % rows
    · rw [if_pos h]
      have e : p - 1 = (p % rows - 1) + p / rows * rows := by omega
      have hm : (p - 1) % rows = p % rows - 1 := by rw [e, (mod_add_mul _ _ rows (by omega)).1]
      rw [if_pos ⟨by rw [hm]; omega, by omega⟩]; omega
    · rw [if_neg h]
      have hpf : p = p / rows * rows := by omega
      by_cases h5 : p / rows * rows + rows ≤ n
      · have hmin : min (p / rows * rows + rows) n = p / rows * rows + rows := by omega
        rw [hmin]
        have e : p / rows * rows + rows - 1 = (rows - 1) + p / rows * rows := by omega
        rw [if_neg, e, (mod_add_mul _ _ rows (by omega)).2]
        · omega
        · rw [e, (mod_add_mul _ _ rows (by omega)).1]; omega
      · have hmin : min (p / rows * rows + rows) n = n := by omega
        rw [hmin, if_neg (by omega)]
        have : (n - 1) / rows = p / rows := (div_iff hr).2 ⟨by omega, by omega⟩
        rw [this]; omega
  · show (if 0 < goN rows n p 3 % rows then goN rows n p 3 - 1 else min (goN rows n p 3 / rows * rows + rows) n - 1) = p
    simp only [goN]
    by_cases h : p % rows + 1 < rows ∧ p + 1 < n
    · rw [if_pos h]
      have e : p + 1 = (p % rows + 1) + p / rows * rows := by omega
      have hm : (p + 1) % rows = p % rows + 1 := by rw [e, (mod_add_mul _ _ rows (by omega)).1]
      rw [if_pos (by rw [hm]; omega)]; omega
    · rw [if_neg h]
      have e : p / rows * rows = 0 + p / rows * rows := by omega
      have hm := mod_add_mul 0 (p / rows) rows hr
      rw [Nat.zero_add] at hm
      rw [if_neg (by rw [hm.1]; omega), hm.2]
      omega

/-! ### Where a step leads, in a list of numbers that a test lets by -/
def cnt (P : Nat → Bool) (b : Nat) : Nat := ((List.range b).filter P).length
theorem cnt_succ (P : Nat → Bool) (b : Nat) : cnt P (b + 1) = cnt P b + if P b then 1 else 0 := by
  unfold cnt; rw [List.range_succ, List.filter_append, List.length_append]; by_cases h : P b <;> simp [h]
theorem cnt_flat (P : Nat → Bool) {a : Nat} : ∀ {b : Nat}, a ≤ b → (∀ i, a ≤ i → i < b → P i = false) → cnt P b = cnt P a := by
  intro b hab
  induction b with
  | zero => intro _; have : a = 0 := by omega
            subst this; rfl
  | succ b ih =>
    intro h
    rcases Nat.eq_or_lt_of_le hab with he | hlt
    · rw [he]
    · rw [cnt_succ, ih (by omega) (fun i h1 h2 => h i h1 (by omega)), h b (by omega) (by omega)]; rfl
theorem filter_get (P : Nat → Bool) {n b : Nat} (hb : b < n) (hP : P b = true) : ((List.range n).filter P)[cnt P b]? = some b := by
  induction n with
  | zero => omega
  | succ n ih =>
    rw [List.range_succ, List.filter_append]
    rcases Nat.lt_or_ge b n with h | h
    · have := ih h
      rw [List.getElem?_append_left (List.getElem?_eq_some_iff.1 this).1]
      exact this
    · have : b = n := by omega
      subst this
      rw [show cnt P b = ((List.range b).filter P).length from rfl, List.getElem?_append_right (Nat.le_refl _)]
      simp [hP]

def inLine (rows p way : Nat) (i : Nat) : Bool := if way < 2 then i % rows == p % rows else i / rows == p / rows

/-- One on, or back, round the list: just goN. -/
theorem goN_list {rows n p : Nat} (hr : 0 < rows) (hp : p < n) (way : Nat) (hw : way < 4) :
    0 < cnt (inLine rows p way) n ∧ cnt (inLine rows p way) p < cnt (inLine rows p way) n ∧
    ((List.range n).filter (inLine rows p way))[if way = 0 ∨ way = 2 then (cnt (inLine rows p way) p + cnt (inLine rows p way) n - 1) % cnt (inLine rows p way) n else (cnt (inLine rows p way) p + 1) % cnt (inLine rows p way) n]? = some (goN rows n p way) := by
  obtain ⟨h1, h2⟩ := decomp p rows hr
  obtain ⟨k, hk, k1, k2, k3⟩ := last_row hr hp
  obtain ⟨P, hP⟩ : ∃ P, P = inLine rows p way := ⟨_, rfl⟩
  rw [← hP]
  have hPp : P p = true := by rw [hP]; unfold inLine; split <;> simp
  have hc1 : cnt P (p + 1) = cnt P p + 1 := by rw [cnt_succ, hPp]; rfl
  have hmono : ∀ a b, a ≤ b → cnt P a ≤ cnt P b := by
    intro a b hab
    induction b with
    | zero => have : a = 0 := by omega
              subst this; exact Nat.le_refl _
    | succ b ih =>
      rcases Nat.eq_or_lt_of_le hab with he | hlt
      · rw [he]; exact Nat.le_refl _
      · rw [cnt_succ]; have := ih (by omega); omega
  have hlt := hmono (p + 1) n hp
  refine ⟨by omega, by omega, ?_⟩
  -- what lies on, and back
  have on : ∀ b, p < b → b < n → P b = true → (∀ i, p < i → i < b → P i = false) → ((List.range n).filter P)[(cnt P p + 1) % cnt P n]? = some b := by
    intro b b1 b2 b3 b4
    have e : cnt P b = cnt P p + 1 := by rw [cnt_flat P (a := p + 1) (by omega) (fun i h1 h2 => b4 i (by omega) h2), hc1]
    have h5 := hmono (b + 1) n b2
    rw [cnt_succ, b3] at h5
    simp only [if_true] at h5
    rw [Nat.mod_eq_of_lt (by omega), ← e]
    exact filter_get P b2 b3
  have onEnd : ∀ b, b < n → P b = true → (∀ i, i < b → P i = false) → (∀ i, p < i → i < n → P i = false) → ((List.range n).filter P)[(cnt P p + 1) % cnt P n]? = some b := by
    intro b b2 b3 b4 b5
    have e : cnt P n = cnt P p + 1 := by rw [cnt_flat P (a := p + 1) (by omega) (fun i h1 h2 => b5 i (by omega) h2), hc1]
    have e0 : cnt P b = 0 := cnt_flat P (a := 0) (by omega) (fun i _ h2 => b4 i h2)
    rw [← e, Nat.mod_self, ← e0]
    exact filter_get P b2 b3
  have back : ∀ b, b < p → P b = true → (∀ i, b < i → i < p → P i = false) → ((List.range n).filter P)[(cnt P p + cnt P n - 1) % cnt P n]? = some b := by
    intro b b2 b3 b4
    have e : cnt P p = cnt P b + 1 := by rw [cnt_flat P (a := b + 1) (by omega) (fun i h1 h2 => b4 i (by omega) h2), cnt_succ, b3]; rfl
    have : (cnt P p + cnt P n - 1) % cnt P n = cnt P b := by
      rw [show cnt P p + cnt P n - 1 = cnt P b + cnt P n by omega, Nat.add_mod_right, Nat.mod_eq_of_lt (by omega)]
    rw [this]
    exact filter_get P (by omega) b3
  have backEnd : ∀ b, b < n → P b = true → (∀ i, i < p → P i = false) → (∀ i, b < i → i < n → P i = false) → ((List.range n).filter P)[(cnt P p + cnt P n - 1) % cnt P n]? = some b := by
    intro b b2 b3 b4 b5
    have e0 : cnt P p = 0 := cnt_flat P (a := 0) (by omega) (fun i _ h2 => b4 i h2)
    have e : cnt P n = cnt P b + 1 := by rw [cnt_flat P (a := b + 1) (by omega) (fun i h1 h2 => b5 i (by omega) h2), cnt_succ, b3]; rfl
    have : (cnt P p + cnt P n - 1) % cnt P n = cnt P b := by rw [Nat.mod_eq_of_lt (by omega)]; omega
    rw [this]
    exact filter_get P b2 b3
  rcases (show way = 0 ∨ way = 1 ∨ way = 2 ∨ way = 3 by omega) with rfl | rfl | rfl | rfl
  · have hrow : ∀ i, P i = true ↔ i % rows = p % rows := by intro i; rw [hP]; simp [inLine]
    have hno : ∀ i, i % rows ≠ p % rows → P i = false := by intro i h; have := hrow i; cases hb : P i <;> simp_all
    rw [if_pos (by omega)]
    simp only [goN, hk]
    split
    · refine back _ (by omega) ((hrow _).2 ?_) (fun i a b => hno i (fun e => by have := mod_far hr e; omega))
      rw [← Nat.mod_eq_sub_mod (by omega)]
    · refine backEnd _ k1 ((hrow _).2 (mod_add_mul _ k rows h2).1) (fun i a => hno i (fun e => by have := mod_far hr e; omega)) (fun i a b => hno i (fun e => ?_))
      have := mod_far (i := i) (p := p % rows + k * rows) hr (by rw [e, (mod_add_mul _ k rows h2).1])
      omega
  · have hrow : ∀ i, P i = true ↔ i % rows = p % rows := by intro i; rw [hP]; simp [inLine]
    have hno : ∀ i, i % rows ≠ p % rows → P i = false := by intro i h; have := hrow i; cases hb : P i <;> simp_all
    rw [if_neg (by omega)]
    simp only [goN]
    split
    · exact on _ (by omega) (by assumption) ((hrow _).2 (Nat.add_mod_right _ _)) (fun i a b => hno i (fun e => by have := mod_far hr e; omega))
    · refine onEnd _ (by omega) ((hrow _).2 (Nat.mod_mod _ _)) (fun i a => hno i (fun e => ?_)) (fun i a b => hno i (fun e => by have := mod_far hr e; omega))
      rw [Nat.mod_eq_of_lt (by omega)] at e
      omega
  · have hcol : ∀ i, P i = true ↔ (p / rows * rows ≤ i ∧ i < p / rows * rows + rows) := by intro i; rw [hP, ← div_iff hr]; simp [inLine]
    have hno : ∀ i, ¬ (p / rows * rows ≤ i ∧ i < p / rows * rows + rows) → P i = false := by
      intro i h
      rcases hb : P i with _ | _
      · rfl
      · exact absurd ((hcol i).1 hb) h
    rw [if_pos (by omega)]
    simp only [goN]
    split
    · exact back _ (by omega) ((hcol _).2 (by omega)) (fun i a b => by omega)
    · exact backEnd _ (by omega) ((hcol _).2 (by omega)) (fun i a => hno i (by omega)) (fun i a b => hno i (by omega))
  · have hcol : ∀ i, P i = true ↔ (p / rows * rows ≤ i ∧ i < p / rows * rows + rows) := by intro i; rw [hP, ← div_iff hr]; simp [inLine]
    have hno : ∀ i, ¬ (p / rows * rows ≤ i ∧ i < p / rows * rows + rows) → P i = false := by
      intro i h
      rcases hb : P i with _ | _
      · rfl
      · exact absurd ((hcol i).1 hb) h
    rw [if_neg (by omega)]
    simp only [goN]
    split
    · exact on _ (by omega) (by omega) ((hcol _).2 (by omega)) (fun i a b => by omega)
    · exact onEnd _ (by omega) ((hcol _).2 (by omega)) (fun i a => hno i (by omega)) (fun i a b => hno i (by omega))
end Go.Proofs.Ytokenlecnbploaa
