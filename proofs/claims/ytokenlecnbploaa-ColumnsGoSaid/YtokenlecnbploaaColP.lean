/- The plain law of plans: the widths of columns, chunk by chunk, and element by element. -/
namespace Go.Proofs.Ytokenlecnbploaa

def maxL (zs : List Int) : Int := zs.foldl max 0
theorem maxL_snoc (zs : List Int) (z : Int) : maxL (zs ++ [z]) = max (maxL zs) z := by simp [maxL]
def chunk (zs : List Int) (rows c : Nat) : List Int := (zs.drop (c * rows)).take rows
def planL (zs : List Int) (rows : Nat) : List Int := (List.range ((zs.length + rows - 1) / rows)).map fun c => maxL (chunk zs rows c)

theorem ceil_div {n q m rows : Nat} (h : n = q * rows + m) (hm : m < rows) : (n + rows - 1) / rows = if m = 0 then q else q + 1 := by
  split
  · rename_i h0
    refine Nat.div_eq_of_lt_le ?_ ?_
    · omega
    · rw [Nat.succ_mul]; omega
  · refine Nat.div_eq_of_lt_le ?_ ?_
    · rw [Nat.succ_mul]; omega
    · rw [Nat.succ_mul, Nat.succ_mul]; omega

theorem planL_len (zs : List Int) (rows : Nat) : (planL zs rows).length = (zs.length + rows - 1) / rows := by simp [planL]

theorem chunk_snoc_before (zs : List Int) (z : Int) {rows c : Nat} (h : c * rows + rows ≤ zs.length) : chunk (zs ++ [z]) rows c = chunk zs rows c := by
  unfold chunk
  rw [List.drop_append_of_le_length (by omega), List.take_append_of_le_length (by simp; omega)]

theorem chunk_snoc_last (zs : List Int) (z : Int) {rows c : Nat} (h : c * rows ≤ zs.length) (h2 : zs.length < c * rows + rows) : chunk (zs ++ [z]) rows c = chunk zs rows c ++ [z] := by
  unfold chunk
  rw [List.drop_append_of_le_length h, List.take_append, List.take_of_length_le (by simp; omega), List.take_of_length_le (l := [z]) (by simp; omega)]

theorem planL_get (zs : List Int) (rows c : Nat) (h : c < (zs.length + rows - 1) / rows) : (planL zs rows)[c]? = some (maxL (chunk zs rows c)) := by
  unfold planL; rw [List.getElem?_map, List.getElem?_range h]; rfl

theorem plan_div (n rows : Nat) (hr : 0 < rows) : n = n / rows * rows + n % rows ∧ n % rows < rows := ⟨by rw [Nat.mul_comm]; exact (Nat.div_add_mod n rows).symm, Nat.mod_lt _ hr⟩

/-- One element more: a new column. -/
theorem planL_new (zs : List Int) (z : Int) (rows : Nat) (hr : 0 < rows) (hm : zs.length % rows = 0) :
    planL (zs ++ [z]) rows = planL zs rows ++ [max 0 z] ∧ (planL zs rows).length = zs.length / rows := by
  obtain ⟨h1, h2⟩ := plan_div zs.length rows hr
  have hl : (planL zs rows).length = zs.length / rows := by rw [planL_len, ceil_div h1 h2, if_pos hm]
  refine ⟨?_, hl⟩
  have hl2 : (planL (zs ++ [z]) rows).length = zs.length / rows + 1 := by
    rw [planL_len]
    have e : (zs ++ [z]).length + rows - 1 = zs.length + rows := by rw [List.length_append, List.length_singleton]; omega
    rw [e, Nat.add_div_right _ hr]
  generalize hq : zs.length / rows = q at *
  refine List.ext_getElem? fun c => ?_
  rcases Nat.lt_trichotomy c q with hc | hc | hc
  · rw [List.getElem?_append_left (by omega), planL_get _ _ _ (by rw [← planL_len]; omega), planL_get _ _ _ (by rw [← planL_len]; omega), chunk_snoc_before]
    have := Nat.mul_le_mul_right rows (show c + 1 ≤ q by omega)
    rw [Nat.succ_mul] at this
    omega
  · subst hc
    rw [List.getElem?_append_right (by omega), hl, Nat.sub_self, planL_get _ _ _ (by rw [← planL_len]; omega), chunk_snoc_last _ _ (by omega) (by omega), maxL_snoc]
    have : chunk zs rows c = [] := by unfold chunk; rw [List.drop_of_length_le (by omega), List.take_nil]
    rw [this]
    rfl
  · rw [List.getElem?_eq_none (by omega), List.getElem?_eq_none (by simp; omega)]

/-- One element more in the last column. -/
theorem planL_old (zs : List Int) (z : Int) (rows : Nat) (hr : 0 < rows) (hm : zs.length % rows ≠ 0) :
    ∃ x, (planL zs rows)[zs.length / rows]? = some x ∧ planL (zs ++ [z]) rows = (planL zs rows).set (zs.length / rows) (max x z) := by
  obtain ⟨h1, h2⟩ := plan_div zs.length rows hr
  have hl : (planL zs rows).length = zs.length / rows + 1 := by rw [planL_len, ceil_div h1 h2, if_neg hm]
  have hl2 : (planL (zs ++ [z]) rows).length = zs.length / rows + 1 := by
    rw [planL_len]
    have e : (zs ++ [z]).length + rows - 1 = zs.length + rows := by rw [List.length_append, List.length_singleton]; omega
    rw [e, Nat.add_div_right _ hr]
  generalize hq : zs.length / rows = q at *
  refine ⟨_, planL_get zs rows q (by rw [← planL_len]; omega), List.ext_getElem? fun c => ?_⟩
  rcases Nat.lt_trichotomy c q with hc | hc | hc
  · rw [List.getElem?_set_ne (by omega), planL_get _ _ _ (by rw [← planL_len]; omega), planL_get _ _ _ (by rw [← planL_len]; omega), chunk_snoc_before]
    have := Nat.mul_le_mul_right rows (show c + 1 ≤ q by omega)
    rw [Nat.succ_mul] at this
    omega
  · subst hc
    rw [List.getElem?_set_self (by omega), planL_get _ _ _ (by rw [← planL_len]; omega), chunk_snoc_last _ _ (by omega) (by omega), maxL_snoc]
  · rw [List.getElem?_eq_none (by omega), List.getElem?_eq_none (by simp; omega)]

theorem maxL_bd {B : Int} (hB : 0 ≤ B) : ∀ zs : List Int, (∀ z ∈ zs, z ≤ B) → 0 ≤ maxL zs ∧ maxL zs ≤ B := by
  intro zs
  have key : ∀ (l : List Int) (x : Int), 0 ≤ x → x ≤ B → (∀ z ∈ l, z ≤ B) → 0 ≤ l.foldl max x ∧ l.foldl max x ≤ B := by
    intro l
    induction l with
    | nil => intro x h1 h2 _; exact ⟨h1, h2⟩
    | cons y l ih =>
      intro x h1 h2 h3
      have hy := h3 y List.mem_cons_self
      exact ih (max x y) (by omega) (by omega) (fun z hz => h3 z (List.mem_cons_of_mem _ hz))
  exact key zs 0 (Int.le_refl _) hB

theorem planL_bd {B : Int} (hB : 0 ≤ B) (zs : List Int) (rows : Nat) (h : ∀ z ∈ zs, z ≤ B) : ∀ z ∈ planL zs rows, 0 ≤ z ∧ z ≤ B := by
  intro z hz
  unfold planL at hz
  obtain ⟨c, _, rfl⟩ := List.mem_map.1 hz
  exact maxL_bd hB _ (fun y hy => h y (List.mem_of_mem_drop (List.mem_of_mem_take hy)))
end Go.Proofs.Ytokenlecnbploaa
