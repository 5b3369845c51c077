/- Joined texts: UnitM UnitR UnitC UnitD. -/
import Derived.Test.YtblajooebmjfoaaGreatZdaa
import Derived.Test.YtblajooebmjfoaaGreatZaaa
/- units.Map: what it is, in a world. -/
namespace Go.Proofs.YtblajooebmjfoaaGreat
open Go.RowKit

def psV (p : Ps) : Value := .agg #[.int .i64 p.1, .int .i64 p.2.1, .int .i64 p.2.2.1, .int .i64 p.2.2.2.1, .int .i64 p.2.2.2.2]
/-- a row of places -/
abbrev PsIn (w : World) (v : Value) (L : List Ps) : Prop := Rs w.heap.size w psE 5 v L
theorem PsIn.below {w w' : World} {v : Value} {L : List Ps} (h : PsIn w v L) (hb : Below w.heap.size w w') : PsIn w' v L := (Rd.below h hb (Nat.le_refl _)).mono hb.size
/-- a map whose places are those -/
def MapIn (w : World) (v : Value) (L : List Ps) : Prop := ∃ mv, v = .agg #[mv] ∧ PsIn w mv L
theorem MapIn.below {w w' : World} {v : Value} {L : List Ps} (h : MapIn w v L) (hB : Below w.heap.size w w') : MapIn w' v L := by
  obtain ⟨mv, rfl, h⟩ := h
  exact ⟨mv, rfl, PsIn.below h hB⟩
theorem map_zero (w : World) : MapIn w (.agg #[.slice none 0 0]) [] := ⟨_, rfl, Rd.nil _ _ _⟩
theorem ps_cells {w : World} {v : Value} {L : List Ps} (hR : PsIn w v L) {k : Nat} {x : Ps} (hx : L[k]? = some x) : ∃ b off cap, v = .slice (some ⟨b, off, none⟩) L.length cap ∧ cap ≤ maxLen ∧ L.length ≤ cap ∧ k < L.length ∧ b < w.heap.size ∧
    w.cell? ⟨b, off + k * 5, none⟩ = some (.int .i64 x.1) ∧ w.cell? ⟨b, off + k * 5 + 1, none⟩ = some (.int .i64 x.2.1) ∧ w.cell? ⟨b, off + k * 5 + 2, none⟩ = some (.int .i64 x.2.2.1) ∧ w.cell? ⟨b, off + k * 5 + 3, none⟩ = some (.int .i64 x.2.2.2.1) ∧ w.cell? ⟨b, off + k * 5 + 4, none⟩ = some (.int .i64 x.2.2.2.2) := by
  obtain ⟨a, cap, rfl, hcap, hmax, _, hcells⟩ := hR
  have hk := (List.getElem?_eq_some_iff.1 hx).1
  obtain ⟨b, off, rfl, hbl, hcq⟩ := hcells (by omega)
  exact ⟨b, off, cap, rfl, hmax, hcap, hk, hbl, flat_cell psE_len hcq hx 0 rfl, flat_cell psE_len hcq hx 1 rfl, flat_cell psE_len hcq hx 2 rfl, flat_cell psE_len hcq hx 3 rfl, flat_cell psE_len hcq hx 4 rfl⟩
theorem ps_shape {w : World} {v : Value} {L : List Ps} (hR : PsIn w v L) : ∃ a cap, v = .slice a L.length cap ∧ L.length ≤ cap ∧ cap ≤ maxLen := by
  obtain ⟨a, cap, rfl, h1, h2, _⟩ := hR
  exact ⟨a, cap, rfl, h1, h2⟩

end Go.Proofs.YtblajooebmjfoaaGreat

/- Units: the last place that is not behind a number; the numbers rise. No program is named here. -/
namespace Go.Proofs.YtblajooebmjfoaaGreat

/-- a number of a place, by its kind -/
def psN (p : Ps) : Nat → Int
  | 0 => p.1
  | 1 => p.2.1
  | 2 => p.2.2.1
  | 3 => p.2.2.2.1
  | _ => p.2.2.2.2
theorem psE_at (p : Ps) {k : Nat} (h : k < 5) : (psE p)[k]? = some (.int .i64 (psN p k)) := by
  have : k = 0 ∨ k = 1 ∨ k = 2 ∨ k = 3 ∨ k = 4 := by omega
  rcases this with rfl | rfl | rfl | rfl | rfl <;> rfl
def psLe (p q : Ps) : Prop := ∀ k, psN p k ≤ psN q k
/-- how many places are not behind a number -/
def cntLe (L : List Ps) (k : Nat) (n : Int) : Nat := (L.takeWhile fun p => decide (psN p k ≤ n)).length
structure FoundP (L : List Ps) (k : Nat) (n : Int) (i : Nat) : Prop where
  le : i ≤ L.length
  lo : ∀ (j : Nat) (p : Ps), j < i → L[j]? = some p → psN p k ≤ n
  hi : ∀ (j : Nat) (p : Ps), i ≤ j → L[j]? = some p → ¬ psN p k ≤ n
theorem cnt_eq {k : Nat} {n : Int} : ∀ {L : List Ps} {i : Nat}, FoundP L k n i → cntLe L k n = i
  | [], i, h => by have := h.le; simp at this; subst this; rfl
  | x :: L, 0, h => by
    have := h.hi 0 x (Nat.le_refl _) rfl
    unfold cntLe
    rw [List.takeWhile_cons_of_neg (by simpa using this)]
    rfl
  | x :: L, i + 1, h => by
    have h0 := h.lo 0 x (by omega) rfl
    have ih := cnt_eq (L := L) (i := i) ⟨by have := h.le; simp at this; omega, fun j p hj hp => h.lo (j + 1) p (by omega) (by simpa using hp), fun j p hj hp => h.hi (j + 1) p (by omega) (by simpa using hp)⟩
    unfold cntLe at ih ⊢
    rw [List.takeWhile_cons_of_pos (by simpa using h0), List.length_cons, ih]
abbrev noP : Ps := (0, 0, 0, 0, 0)
/-- the last place that is not behind a number -/
def lastLe (L : List Ps) (k : Nat) (n : Int) : Ps := if cntLe L k n = 0 then noP else (L[cntLe L k n - 1]?).getD noP
section
variable {L : List Ps} {k : Nat} {n : Int}
theorem mono_at (h : L.Pairwise psLe) {i j : Nat} {p q : Ps} (hp : L[i]? = some p) (hq : L[j]? = some q) (hij : i ≤ j) (k : Nat) : psN p k ≤ psN q k := by
  rcases Nat.lt_or_ge i j with hl | hl
  · obtain ⟨a1, a2⟩ := List.getElem?_eq_some_iff.1 hp
    obtain ⟨b1, b2⟩ := List.getElem?_eq_some_iff.1 hq
    have := List.pairwise_iff_getElem.1 h i j a1 b1 hl k
    rw [a2, b2] at this
    exact this
  · have : i = j := by omega
    subst this
    rw [hp] at hq; cases hq; exact Int.le_refl _
theorem cnt_found (h : L.Pairwise psLe) : ∀ m, m ≤ L.length → (∀ j p, m ≤ j → L[j]? = some p → ¬ psN p k ≤ n) → ∃ i, FoundP L k n i
  | 0, _, hh => ⟨0, Nat.zero_le _, fun j p hj => by omega, hh⟩
  | m + 1, hm, hh => by
    obtain ⟨x, hx⟩ : ∃ x, L[m]? = some x := ⟨_, List.getElem?_eq_getElem (by omega)⟩
    by_cases hl : psN x k ≤ n
    · exact ⟨m + 1, hm, fun j p hj hp => Int.le_trans (mono_at h hp hx (by omega) k) hl, hh⟩
    · refine cnt_found h m (by omega) fun j p hj hp => ?_
      rcases Nat.eq_or_lt_of_le hj with rfl | hlt
      · rw [hx] at hp; cases hp; exact hl
      · exact hh j p hlt hp
theorem cnt_is (h : L.Pairwise psLe) : FoundP L k n (cntLe L k n) := by
  obtain ⟨i, hi⟩ := cnt_found (k := k) (n := n) h L.length (Nat.le_refl _) (fun j p hj hp => by have := (List.getElem?_eq_some_iff.1 hp).1; omega)
  rw [cnt_eq hi]; exact hi
theorem cnt_le : cntLe L k n ≤ L.length := by unfold cntLe; exact (List.takeWhile_prefix _).length_le
end
theorem sum_take (f : Int → Nat) (s : List Int) {i j : Nat} (h : i ≤ j) : ((s.take i).map f).sum ≤ ((s.take j).map f).sum := by
  have h1 : s.take j = s.take i ++ (s.take j).drop i := by
    rw [show s.take i = (s.take j).take i by rw [List.take_take, Nat.min_eq_left h]]
    exact (List.take_append_drop i (s.take j)).symm
  rw [h1, List.map_append, List.sum_append]
  omega
theorem takeWhile_len_mono {α} {p q : α → Bool} (h : ∀ x, p x = true → q x = true) : ∀ l : List α, (l.takeWhile p).length ≤ (l.takeWhile q).length
  | [] => Nat.le_refl _
  | x :: l => by
    by_cases hx : p x = true
    · rw [List.takeWhile_cons_of_pos hx, List.takeWhile_cons_of_pos (h x hx)]
      have := takeWhile_len_mono h l
      simp only [List.length_cons]; omega
    · rw [List.takeWhile_cons_of_neg hx]
      exact Nat.zero_le _
theorem ahd_mono (S : List Nat) {a b : Int} (h : a ≤ b) : ahd S a ≤ ahd S b := by
  unfold ahd
  exact takeWhile_len_mono (fun x hx => by simp only [decide_eq_true_eq] at hx ⊢; omega) S
section
variable {R : List Rw} {s : List Int}
theorem wdG_pos (R : List Rw) (LL : List (List Int)) : 0 ≤ wdG (lineG R LL) := (wdG_rng (fun g hg => (lineG_ok R g hg).1)).1
theorem colsTo_mono (R : List Rw) (s : List Int) {i j : Nat} (h : i ≤ j) : colsTo R s i ≤ colsTo R s j := by
  have h1 : (clus (tabOf R) s).take j = (clus (tabOf R) s).take i ++ ((clus (tabOf R) s).take j).drop i := by
    rw [show (clus (tabOf R) s).take i = ((clus (tabOf R) s).take j).take i by rw [List.take_take, Nat.min_eq_left h]]
    exact (List.take_append_drop i _).symm
  have h2 := wdG_pos R (((clus (tabOf R) s).take j).drop i)
  have h3 : lineG R ((clus (tabOf R) s).take j) = lineG R ((clus (tabOf R) s).take i) ++ lineG R (((clus (tabOf R) s).take j).drop i) := by
    conv => lhs; rw [h1]
    unfold lineG
    rw [List.flatMap_append]
  unfold colsTo
  rw [h3, wdG_app]
  omega
theorem endsTo_mono (H : (tabOf R).Ok) {i j : Nat} (hij : i ≤ j) : endsTo (tabOf R) s i ≤ endsTo (tabOf R) s j ∨ j > s.length ∨ i > s.length := by
  rcases Nat.lt_or_ge s.length j with h | h
  · exact .inr (.inl h)
  refine .inl ?_
  unfold endsTo
  have h1 := ahd_mono (starts (tabOf R) s) (a := (i : Int) + 1) (b := (j : Int) + 1) (by omega)
  have h2 := ahd_le (starts (tabOf R) s) ((i : Int) + 1)
  rw [starts_clus H] at h2
  split <;> split <;> omega
theorem PL_le (H : (tabOf R).Ok) {i j : Nat} (hij : i ≤ j) (hj : j ≤ s.length) : psLe (PL R s i) (PL R s j) := by
  have h1 := sum_take sizeN s hij
  have h2 := sum_take unN s hij
  have h3 := ahd_mono (starts (tabOf R) s) (a := (i : Int)) (b := (j : Int)) (by omega)
  have h4 := colsTo_mono R s (show endsTo (tabOf R) s i ≤ endsTo (tabOf R) s j by rcases endsTo_mono (s := s) H hij with h | h | h <;> omega)
  intro k
  match k with
  | 0 => show (i : Int) ≤ (j : Int); omega
  | 1 => show (bytesTo s i : Int) ≤ (bytesTo s j : Int); unfold bytesTo; omega
  | 2 => show (unitsTo s i : Int) ≤ (unitsTo s j : Int); unfold unitsTo; omega
  | 3 => show (ahd _ (i : Int) : Int) ≤ (ahd _ (j : Int) : Int); omega
  | _ + 4 => exact h4
theorem PLs_mono (H : (tabOf R).Ok) : (PLs R s).Pairwise psLe := by
  refine List.pairwise_iff_getElem.2 fun i j hi hj hij => ?_
  rw [PLs_len] at hi hj
  have e1 := (List.getElem?_eq_some_iff.1 (PLs_get (R := R) (s := s) (i := i) (by omega))).2
  have e2 := (List.getElem?_eq_some_iff.1 (PLs_get (R := R) (s := s) (i := j) (by omega))).2
  rw [e1, e2]
  exact PL_le H (by omega) (by omega)
theorem PL_zero : PL R s 0 = noP := by
  have hS := starts_sorted (tabOf R) s
  have h1 : ahd (starts (tabOf R) s) ((0 : Nat) : Int) = 0 := ahd_eq ⟨Nat.zero_le _, fun j x hj => by omega, fun j x _ hx => by omega⟩
  have h2 : endsTo (tabOf R) s 0 = 0 := by
    unfold endsTo
    by_cases h : s = []
    · subst h; rfl
    · rw [if_neg (by intro e; exact h (List.eq_nil_of_length_eq_zero e.symm))]
      have := ahd_within hS (i := 1) (starts_zero (tabOf R) h) (by omega) (fun b hb => by
        have := sorted_at hS (starts_zero (tabOf R) h) hb (by omega); omega)
      have e : (((1 : Nat) : Int)) = ((0 : Nat) : Int) + 1 := rfl
      rw [← e, this]
  unfold PL
  rw [h1, h2]
  simp [bytesTo, unitsTo, colsTo, lineG, wdG]
/-- the place at a number of scalars, of bytes, of units -/
theorem cnt_at (H : (tabOf R).Ok) {k i : Nat} (hi : i ≤ s.length) (hs : ∀ j, i < j → j ≤ s.length → psN (PL R s i) k < psN (PL R s j) k) : cntLe (PLs R s) k (psN (PL R s i) k) = i + 1 := by
  refine cnt_eq ⟨by rw [PLs_len]; omega, fun j p hj hp => mono_at (PLs_mono H) hp (PLs_get hi) (by omega) k, fun j p hj hp => ?_⟩
  have hjl := (List.getElem?_eq_some_iff.1 hp).1
  rw [PLs_len] at hjl
  rw [PLs_get (by omega)] at hp
  cases hp
  have := hs j (by omega) (by omega)
  omega
theorem last_at (H : (tabOf R).Ok) {k i : Nat} (hi : i ≤ s.length) (hs : ∀ j, i < j → j ≤ s.length → psN (PL R s i) k < psN (PL R s j) k) : lastLe (PLs R s) k (psN (PL R s i) k) = PL R s i := by
  unfold lastLe
  rw [cnt_at H hi hs, if_neg (by omega), Nat.add_sub_cancel, PLs_get hi]
  rfl
theorem sum_take_lt (f : Int → Nat) (hf : ∀ x, 1 ≤ f x) (s : List Int) {i j : Nat} (h : i < j) (hj : j ≤ s.length) : ((s.take i).map f).sum < ((s.take j).map f).sum := by
  obtain ⟨x, hx⟩ : ∃ x, s[i]? = some x := ⟨_, List.getElem?_eq_getElem (by omega)⟩
  have h1 := sum_take f s (i := i + 1) (j := j) (by omega)
  rw [List.take_add_one, hx, List.map_append, List.sum_append] at h1
  have := hf x
  have e : ((some x).toList.map f).sum = f x := by simp
  rw [e] at h1
  omega
theorem bytes_up {i j : Nat} (h : i < j) (hj : j ≤ s.length) : psN (PL R s i) 1 < psN (PL R s j) 1 := by
  have := sum_take_lt sizeN (fun x => (sizeN_rng x).1) s h hj
  show (bytesTo s i : Int) < (bytesTo s j : Int)
  unfold bytesTo; omega
theorem units_up {i j : Nat} (h : i < j) (hj : j ≤ s.length) : psN (PL R s i) 2 < psN (PL R s j) 2 := by
  have := sum_take_lt unN (fun x => (unN_rng x).1) s h hj
  show (unitsTo s i : Int) < (unitsTo s j : Int)
  unfold unitsTo; omega
theorem scalars_up {i j : Nat} (h : i < j) : psN (PL R s i) 0 < psN (PL R s j) 0 := by
  show (i : Int) < (j : Int); omega
/-- the document's loop: the last of the first i places that is not behind a number -/
theorem last_min (L : List Ps) (k : Nat) (n : Int) (h0 : (L[0]?).getD noP = noP) : (L[min L.length (cntLe L k n) - 1]?).getD noP = lastLe L k n := by
  rw [Nat.min_eq_right cnt_le]
  unfold lastLe
  by_cases h : cntLe L k n = 0
  · rw [if_pos h, h]; exact h0
  · rw [if_neg h]
end
theorem ahd_succ {S : List Nat} (hS : S.Pairwise (· < ·)) (k : Nat) : ahd S ((k : Int) + 1) = ahd S (k : Int) + (if k ∈ S then 1 else 0) := by
  have hF := ahd_found hS (k : Int)
  by_cases hm : k ∈ S
  · rw [if_pos hm]
    obtain ⟨j, hj⟩ := List.mem_iff_getElem?.1 hm
    have e : ahd S (k : Int) = j := by rw [ahd_on hS hj]
    rw [e]
    refine ahd_eq ⟨at_lt hj, fun q x hq hx => ?_, fun q x hq hx => ?_⟩
    · rcases Nat.lt_or_ge q j with h | h
      · have := sorted_at hS hx hj h; omega
      · have : q = j := by omega
        subst this
        rw [hx] at hj; cases hj; omega
    · have := sorted_at hS hj hx (by omega); omega
  · rw [if_neg hm, Nat.add_zero]
    refine ahd_eq ⟨hF.le, fun q x hq hx => by have := hF.lo q x hq hx; omega, fun q x hq hx => ?_⟩
    have h1 := hF.hi q x hq hx
    have h2 : x ≠ k := fun e => hm (by rw [← e]; exact List.mem_of_getElem? hx)
    omega
section
variable {R : List Rw} {s : List Int}
theorem endsTo_eq {k i : Nat} (hk : k < (starts (tabOf R) s).length) (h1 : bd (starts (tabOf R) s) s.length k ≤ i) (h2 : i < bd (starts (tabOf R) s) s.length (k + 1)) : endsTo (tabOf R) s i = k := by
  have hS := starts_sorted (tabOf R) s
  obtain ⟨a, ha⟩ := at_some hk
  rw [bd_some ha] at h1
  have hn : i < s.length := by
    rcases Nat.lt_or_ge (k + 1) (starts (tabOf R) s).length with h | h
    · obtain ⟨b, hb⟩ := at_some h
      rw [bd_some hb] at h2
      have := begAt_lt ((starts_mem (tabOf R) s b).1 (List.mem_of_getElem? hb))
      omega
    · unfold bd at h2
      rw [List.getElem?_eq_none h] at h2
      exact h2
  unfold endsTo
  rw [if_neg (by omega)]
  have := ahd_within hS (i := i + 1) ha (by omega) (fun b hb => by rw [bd_some hb] at h2; omega)
  have e : ((i + 1 : Nat) : Int) = (i : Int) + 1 := by omega
  rw [e] at this
  omega
theorem endsTo_end : endsTo (tabOf R) s s.length = (clus (tabOf R) s).length := by unfold endsTo; rw [if_pos rfl]
theorem bds_of : Bds (starts (tabOf R) s) s.length := by
  refine ⟨starts_sorted _ _, fun x hx => begAt_lt ((starts_mem _ s x).1 hx), ?_⟩
  by_cases h : s = []
  · subst h; exact .inr ⟨by rw [starts_nil]; rfl, rfl⟩
  · exact .inl (starts_zero _ h)
/-- a cluster, and where it ends -/
theorem clus_bd (H : (tabOf R).Ok) {k : Nat} {c : List Int} (h : (clus (tabOf R) s)[k]? = some c) : k < (starts (tabOf R) s).length ∧ bd (starts (tabOf R) s) s.length k + c.length = bd (starts (tabOf R) s) s.length (k + 1) := by
  have hk : k < (starts (tabOf R) s).length := by rw [starts_clus H]; exact (List.getElem?_eq_some_iff.1 h).1
  refine ⟨hk, ?_⟩
  obtain ⟨a, ha⟩ := at_some hk
  rw [bd_some ha]
  rw [clus_get H ha] at h
  cases h
  obtain ⟨h1, h2, _, _⟩ := nx_spec H ((starts_mem (tabOf R) s a).1 (List.mem_of_getElem? ha))
  rw [List.length_take, List.length_drop, Nat.min_eq_left (by omega)]
  have h3 := start_next H ha
  rcases Nat.lt_or_ge (k + 1) (starts (tabOf R) s).length with h | h
  · rw [bd_some (h3.1 h)]; rfl
  · have h4 := h3.2 (by omega)
    unfold bd
    rw [List.getElem?_eq_none h]
    exact h4
end
/-- is it a kind? -/
def kindOk (k : Int) : Bool := decide (0 ≤ k) && decide (k ≤ 4)
/-- the last place that is not behind a number of a kind -/
def atP (L : List Ps) (kind n : Int) : Ps := if kindOk kind = true then lastLe L kind.toNat n else noP
/-- the document's loop, behind so many places -/
def midP (L : List Ps) (k : Nat) (n : Int) (i : Nat) : Ps := (L[min i (cntLe L k n) - 1]?).getD noP
section
variable {L : List Ps} {k : Nat} {n : Int}
theorem mid_zero (h0 : L[0]? = some noP) : midP L k n 0 = noP := by
  unfold midP
  rw [Nat.zero_min, Nat.zero_sub, h0]
  rfl
theorem mid_le (hP : L.Pairwise psLe) {i : Nat} {x : Ps} (hx : L[i]? = some x) (h : psN x k ≤ n) : midP L k n (i + 1) = x := by
  have hF := cnt_is (k := k) (n := n) hP
  have : i < cntLe L k n := Nat.lt_of_not_le fun hle => hF.hi i x hle hx h
  unfold midP
  rw [Nat.min_eq_left (by omega), Nat.add_sub_cancel, hx]
  rfl
theorem mid_gt (hP : L.Pairwise psLe) {i : Nat} {x : Ps} (hx : L[i]? = some x) (h : ¬ psN x k ≤ n) : midP L k n (i + 1) = midP L k n i := by
  have hF := cnt_is (k := k) (n := n) hP
  have : cntLe L k n ≤ i := Nat.le_of_not_lt fun hlt => h (hF.lo i x hlt hx)
  unfold midP
  rw [Nat.min_eq_right (by omega), Nat.min_eq_right this]
theorem mid_end (h0 : L[0]? = some noP) : midP L k n L.length = lastLe L k n := last_min L k n (by rw [h0]; rfl)
end
end Go.Proofs.YtblajooebmjfoaaGreat

/- units.Map: Len, the search for a place. -/
namespace Go.Proofs.YtblajooebmjfoaaGreat
open Go.RowKit

def cmpP (p : Ps) (k : Nat) (n : Int) : Int := if psN p k ≤ n then -1 else 1
set_option maxRecDepth 100000 in
set_option maxHeartbeats 1000000 in
theorem pat1_any (p : Ps) (k : Nat) (n : Int) (kb : Nat) (w : World) (hk : k < 5) (hc : w.cell? ⟨kb, 0, none⟩ = some (.int .i64 (k : Int))) :
    Calls Tryz.prog 57 #[psV p, .int .i64 n, .pointer (some ⟨kb, 0, none⟩)] w fun e w' => e = .returned (.int .i64 (cmpP p k n)) ∧ Below w.heap.size w w' := by
  obtain ⟨p0, p1, p2, p3, p4⟩ := p
  unfold psV
  have hb := below1 w (.cells #[.int .i64 p0, .int .i64 p1, .int .i64 p2, .int .i64 p3, .int .i64 p4] 46)
  have c0 := cell_later hb hc
  have hr := heap_alloc_new w (.cells #[.int .i64 p0, .int .i64 p1, .int .i64 p2, .int .i64 p3, .int .i64 p4] 46)
  obtain ⟨x, hx⟩ : ∃ x, x = psN (p0, p1, p2, p3, p4) k := ⟨_, rfl⟩
  have hxc : (#[Value.int .i64 p0, .int .i64 p1, .int .i64 p2, .int .i64 p3, .int .i64 p4] : Array Value)[k]? = some (.int .i64 x) := by
    have := psE_at (p0, p1, p2, p3, p4) hk
    rw [← hx] at this
    simpa [psE] using this
  have c1 := row_cells hr hxc
  have HB := Lib.hid hb
  have HV := Lib.hid (show cmpP (p0, p1, p2, p3, p4) k n = if x ≤ n then -1 else 1 by unfold cmpP; rw [← hx])
  have k0 : (0 : Int) ≤ (k : Int) := by omega
  have k1 : (k : Int) < 5 := by omega
  clear hc hr hxc hx hb
  by_cases h1 : x ≤ n
  · have HR := Lib.hid (show cmpP (p0, p1, p2, p3, p4) k n = -1 by rw [HV.out, if_pos h1])
    clear HV
    go_enter Tryz.func57, Tryz.ntmps57
    go_wp2_with fail
    go_ret
    exact ⟨by rw [HR.out]; rfl, HB.out⟩
  · have q1 : decide (x ≤ n) = false := decide_eq_false h1
    have HR := Lib.hid (show cmpP (p0, p1, p2, p3, p4) k n = 1 by rw [HV.out, if_neg h1])
    clear HV h1
    go_enter Tryz.func57, Tryz.ntmps57
    go_wp2_with fail
    go_ret
    exact ⟨by rw [HR.out]; rfl, HB.out⟩
set_option maxRecDepth 100000 in
set_option maxHeartbeats 1000000 in
theorem psearch_any (v : Value) (L : List Ps) (k : Nat) (n : Int) (kb : Nat) (w : World) (hR : PsIn w v L) (hP : L.Pairwise psLe) (hl : L.length ≤ 1114112) (hk : k < 5) (hc : w.cell? ⟨kb, 0, none⟩ = some (.int .i64 (k : Int))) :
    Calls Tryz.prog 56 #[v, .int .i64 n, .func (.func 57) #[] #[.pointer (some ⟨kb, 0, none⟩)]] w fun e w' => ∃ ok, e = .returned (.tuple #[.int .i64 (cntLe L k n : Nat), .bool ok]) ∧ Below w.heap.size w w' := by
  have HR := Lib.hid hR
  obtain ⟨sa, sc, rfl, hcap, hmax⟩ := ps_shape hR
  unfold maxLen at hmax
  have HP := Lib.hid (fun (i j : Nat) (p q : Ps) (h1 : L[i]? = some p) (h2 : L[j]? = some q) (h3 : i ≤ j) => mono_at hP h1 h2 h3 k)
  have HC := Lib.hid hc
  clear hP hR hc
  go_enter Tryz.func56, Tryz.ntmps56
  go_wp2
  go_loopw [9, 10] (fun iv jv wr => ∃ i j : Nat, iv = .int .i64 ((i : Nat) : Int) ∧ jv = .int .i64 ((j : Nat) : Int) ∧ i ≤ j ∧ j ≤ L.length ∧ Below w.heap.size w wr ∧ (∀ (q : Nat) (s : Ps), q < i → L[q]? = some s → psN s k ≤ n) ∧ (∀ (q : Nat) (s : Ps), j ≤ q → L[q]? = some s → n < psN s k)) (fun iv jv _ => (intOf jv).toNat - (intOf iv).toNat)
  case atStart => exact ⟨0, L.length, rfl, rfl, Nat.zero_le _, Nat.le_refl _, .refl _ _, fun q s h => by omega, fun q s h h2 => by have := (List.getElem?_eq_some_iff.1 h2).1; omega⟩
  case round =>
    obtain ⟨i, j, rfl, rfl, hij, hjl, hB, hlo, hhi⟩ := hrel
    have HB := Lib.hid hB
    have HLo := Lib.hid hlo
    have HHi := Lib.hid hhi
    clear hlo hhi
    by_cases hlt : i < j
    · obtain ⟨h, hh⟩ : ∃ h : Nat, h = (i + j) / 2 := ⟨_, rfl⟩
      have hhl : h < L.length := by omega
      have hih : i ≤ h := by omega
      have hhj : h < j := by omega
      obtain ⟨x, hx⟩ : ∃ x, L[h]? = some x := ⟨L[h], List.getElem?_eq_getElem hhl⟩
      obtain ⟨b, off, cap', hv, _, _, _, _, d0, d1, d2, d3, d4⟩ := ps_cells (PsIn.below HR.out hB) hx
      cases hv
      have HX := Lib.hid hx
      have s1 : (((i : Nat) : Int) + ((j : Nat) : Int)) / 2 = ((h : Nat) : Int) := by omega
      have e1 := IntWalk.i64_in (((i : Nat) : Int) + ((j : Nat) : Int)) (by omega)
      have e2 := IntWalk.i64_in ((h : Int) + 1) (by omega)
      have p0 : ((i : Nat) : Int) < ((j : Nat) : Int) := by omega
      have HCall := Lib.hid (pat1_any x k n kb wr hk (cell_later hB HC.out))
      unfold psV at HCall
      clear hB hx hh
      go_wp2_with fail
      refine HCall.out.mono ?_
      rintro e w2 ⟨rfl, hB2⟩
      have HB2 := Lib.hid (below_trans' HB.out hB2)
      clear hB2 HB d0 d1 d2 d3 d4 HCall
      by_cases h1 : psN x k ≤ n
      · rw [show cmpP x k n = -1 by unfold cmpP; rw [if_pos h1]]
        have H1 := Lib.hid h1
        clear h1
        go_wp2_with fail
        go_roundw
        case rel => exact ⟨h + 1, j, by go_num, rfl, by omega, by omega, HB2.out, fun q s hq hs => Int.le_trans (HP.out q h s x hs HX.out (by omega)) H1.out, HHi.out⟩
        case measure => simp [intOf]; omega
      · rw [show cmpP x k n = 1 by unfold cmpP; rw [if_neg h1]]
        have H1 := Lib.hid (show n < psN x k by omega)
        clear h1
        go_wp2_with fail
        go_roundw
        case rel => exact ⟨i, h, rfl, rfl, by omega, by omega, HB2.out, HLo.out, fun q s hq hs => Int.lt_of_lt_of_le H1.out (HP.out h q x s HX.out hs hq)⟩
        case measure => simp [intOf]; omega
    · have hie : i = j := by omega
      subst hie
      have HF := Lib.hid (show cntLe L k n = i from cnt_eq ⟨hjl, HLo.out, fun q s hq hs => by have := HHi.out q s hq hs; omega⟩)
      by_cases hin : i < L.length
      · obtain ⟨x, hx⟩ : ∃ x, L[i]? = some x := ⟨L[i], List.getElem?_eq_getElem hin⟩
        obtain ⟨b, off, cap', hv, _, _, _, _, d0, d1, d2, d3, d4⟩ := ps_cells (PsIn.below HR.out hB) hx
        cases hv
        have h1 := HHi.out i x (Nat.le_refl _) hx
        have HCall := Lib.hid (pat1_any x k n kb wr hk (cell_later hB HC.out))
        rw [show cmpP x k n = 1 by unfold cmpP; rw [if_neg (by omega)]] at HCall
        unfold psV at HCall
        have p0 : decide ((i : Int) < (i : Int)) = false := by simp
        clear hB hx h1 hlt
        go_wp2_with fail
        refine HCall.out.mono ?_
        rintro e w2 ⟨rfl, hB2⟩
        have HB2 := Lib.hid (below_trans' HB.out hB2)
        clear hB2
        go_wp2_with fail
        go_ret2
        exact ⟨false, by rw [HF.out]; rfl, HB2.out⟩
      · have p0 : decide ((i : Int) < (i : Int)) = false := by simp
        clear hB hlt
        go_wp2
        go_ret2
        exact ⟨false, by rw [HF.out]; rfl, HB.out⟩
end Go.Proofs.YtblajooebmjfoaaGreat

/- units.Map: Len, At, Turn. -/
namespace Go.Proofs.YtblajooebmjfoaaGreat
open Go.RowKit

theorem range5o {w : World} {b o : Nat} {u0 u1 u2 u3 u4 : Value} (h0 : w.cell? ⟨b, o, none⟩ = some u0) (h1 : w.cell? ⟨b, o + 1, none⟩ = some u1) (h2 : w.cell? ⟨b, o + 2, none⟩ = some u2) (h3 : w.cell? ⟨b, o + 3, none⟩ = some u3) (h4 : w.cell? ⟨b, o + 4, none⟩ = some u4) : w.rangeAt b o [u0, u1, u2, u3, u4] := fun j x hx => by
  match j with
  | 0 => simp at hx; subst hx; exact h0
  | 1 => simp at hx; subst hx; exact h1
  | 2 => simp at hx; subst hx; exact h2
  | 3 => simp at hx; subst hx; exact h3
  | 4 => simp at hx; subst hx; exact h4
  | j + 5 => simp at hx
/-- the last place of all -/
def endP (L : List Ps) : Ps := (L[L.length - 1]?).getD noP
abbrev zPos : Obj := .cells #[.int .i64 0, .int .i64 0, .int .i64 0, .int .i64 0, .int .i64 0] 46
abbrev cPos (p : Ps) : Obj := .cells #[.int .i64 p.1, .int .i64 p.2.1, .int .i64 p.2.2.1, .int .i64 p.2.2.2.1, .int .i64 p.2.2.2.2] 46
set_option maxRecDepth 100000 in
set_option maxHeartbeats 1000000 in
theorem ulen_any {w : World} {v : Value} {L : List Ps} (h : MapIn w v L) : Calls Tryz.prog 23 #[v] w fun e w' => e = .returned (psV (endP L)) ∧ Below w.heap.size w w' := by
  obtain ⟨mv, rfl, hR⟩ := h
  obtain ⟨sa, sc, rfl, hcap, hmax⟩ := ps_shape hR
  unfold maxLen at hmax
  have HR := Lib.hid hR
  clear hR
  go_enter Tryz.func23, Tryz.ntmps23
  go_upto_region 1 with fail
  have hb := below1 w (.cells #[.slice sa L.length sc] 41)
  have c0 := row_cells (i := 0) (heap_alloc_new w (.cells #[.slice sa L.length sc] 41)) rfl
  have hsz : (w.alloc (.cells #[.slice sa L.length sc] 41)).heap.size = w.heap.size + 1 := by simp
  generalize w.alloc (.cells #[.slice sa L.length sc] 41) = w1 at hb c0 hsz ⊢
  have hb2 := below1 w1 (.cells #[.int .i64 0, .int .i64 0, .int .i64 0, .int .i64 0, .int .i64 0] 46)
  have hr := heap_alloc_new w1 (.cells #[.int .i64 0, .int .i64 0, .int .i64 0, .int .i64 0, .int .i64 0] 46)
  have c0 := cell_later hb2 c0
  have HB := Lib.hid (hb.trans (hb2.mono (by omega)))
  generalize w1.alloc (.cells #[.int .i64 0, .int .i64 0, .int .i64 0, .int .i64 0, .int .i64 0] 46) = w2 at hb2 hr c0 HB ⊢
  rw [hsz] at hr
  have f0 := row_warm hr 0
  have f1 := row_warm hr 1
  have f2 := row_warm hr 2
  have f3 := row_warm hr 3
  have f4 := row_warm hr 4
  have z0 := row_cells (i := 0) hr rfl
  have z1 := row_cells (i := 1) hr rfl
  have z2 := row_cells (i := 2) hr rfl
  have z3 := row_cells (i := 3) hr rfl
  have z4 := row_cells (i := 4) hr rfl
  have hR2 := PsIn.below HR.out HB.out
  clear hb hb2 hr
  by_cases h0 : L.length = 0
  · have hL : L = [] := List.eq_nil_of_length_eq_zero h0
    subst hL
    clear hR2
    go_wp2_with fail
    refine ret_cell1 (ad := ⟨w.heap.size + 1, 0, none⟩) rfl rfl (run_loadVar_mid _ _ 0 _ [.int .i64 0, .int .i64 0, .int .i64 0, .int .i64 0, .int .i64 0] _ (range5 (by go_simp) (by go_simp) (by go_simp) (by go_simp) (by go_simp)) Tryz.underlying46 rfl (by kernel_rfl)) rfl ⟨rfl, ((((HB.out.setCell (by simp) _).setCell (by simp) _).setCell (by simp) _).setCell (by simp) _).setCell (by simp) _⟩
  · obtain ⟨x, hx⟩ : ∃ x, L[L.length - 1]? = some x := ⟨L[L.length - 1], List.getElem?_eq_getElem (by omega)⟩
    have HE := Lib.hid (show endP L = x by unfold endP; rw [hx]; rfl)
    obtain ⟨x0, x1, x2, x3, x4⟩ := x
    obtain ⟨b, off, cap', hv, _, _, hml, hbl, d0, d1, d2, d3, d4⟩ := ps_cells hR2 hx
    cases hv
    have e1 := IntWalk.i64_in ((L.length : Int) - 1) (by omega)
    clear hx hR2
    go_wp2_with fail
    refine ret_cell1 (ad := ⟨w.heap.size + 1, 0, none⟩) rfl rfl (run_loadVar_mid _ _ 0 _ [.int .i64 x0, .int .i64 x1, .int .i64 x2, .int .i64 x3, .int .i64 x4] _ (range5 (by go_simp) (by go_simp) (by go_simp) (by go_simp) (by go_simp)) Tryz.underlying46 rfl (by kernel_rfl)) rfl ⟨by rw [HE.out]; rfl, ((((HB.out.setCell (by simp) _).setCell (by simp) _).setCell (by simp) _).setCell (by simp) _).setCell (by simp) _⟩
theorem run_pos {w : World} {b : Nat} {x0 x1 x2 x3 x4 : Int} (z0 : w.cell? ⟨b, 0, none⟩ = some (.int .i64 x0)) (z1 : w.cell? ⟨b, 1, none⟩ = some (.int .i64 x1)) (z2 : w.cell? ⟨b, 2, none⟩ = some (.int .i64 x2)) (z3 : w.cell? ⟨b, 3, none⟩ = some (.int .i64 x3)) (z4 : w.cell? ⟨b, 4, none⟩ = some (.int .i64 x4)) : (loadVar 46 ⟨b, 0, none⟩).run Tryz.prog w = .ok (.agg #[.int .i64 x0, .int .i64 x1, .int .i64 x2, .int .i64 x3, .int .i64 x4]) w :=
  run_loadVar_mid _ _ 0 _ [.int .i64 x0, .int .i64 x1, .int .i64 x2, .int .i64 x3, .int .i64 x4] _ (range5 z0 z1 z2 z3 z4) Tryz.underlying46 rfl (by kernel_rfl)
set_option maxRecDepth 100000 in
set_option maxHeartbeats 4000000 in
theorem uat_any {w : World} {v : Value} {L : List Ps} (kind n : Int) (h : MapIn w v L) (hP : L.Pairwise psLe) (hl : L.length ≤ 1114112) :
    Calls Tryz.prog 21 #[v, .int .i64 kind, .int .i64 n] w fun e w' => e = .returned (.tuple #[psV (atP L kind n), .bool (kindOk kind)]) ∧ Below w.heap.size w w' := by
  obtain ⟨mv, rfl, hR⟩ := h
  obtain ⟨sa, sc, rfl, hcap, hmax⟩ := ps_shape hR
  unfold maxLen at hmax
  have HR := Lib.hid hR
  have HP := Lib.hid hP
  clear hR hP
  go_enter Tryz.func21, Tryz.ntmps21
  go_upto_region 1 with fail
  have hb := below1 w (.cells #[.slice sa L.length sc] 41)
  have c0 := row_cells (i := 0) (heap_alloc_new w (.cells #[.slice sa L.length sc] 41)) rfl
  have hsz : (w.alloc (.cells #[.slice sa L.length sc] 41)).heap.size = w.heap.size + 1 := by simp
  generalize w.alloc (.cells #[.slice sa L.length sc] 41) = w1 at hb c0 hsz ⊢
  have hb1 := below1 w1 (.cells #[.int .i64 kind] 3)
  have k0 := row_cells (i := 0) (heap_alloc_new w1 (.cells #[.int .i64 kind] 3)) rfl
  have c0 := cell_later hb1 c0
  have hsz1 : (w1.alloc (.cells #[.int .i64 kind] 3)).heap.size = w.heap.size + 2 := by simp [hsz]
  generalize w1.alloc (.cells #[.int .i64 kind] 3) = w2 at hb1 k0 c0 hsz1 ⊢
  have hb2 := below1 w2 (.cells #[.int .i64 0, .int .i64 0, .int .i64 0, .int .i64 0, .int .i64 0] 46)
  have hr := heap_alloc_new w2 (.cells #[.int .i64 0, .int .i64 0, .int .i64 0, .int .i64 0, .int .i64 0] 46)
  have c0 := cell_later hb2 c0
  have k0 := cell_later hb2 k0
  have HB := Lib.hid ((hb.trans (hb1.mono (by omega))).trans (hb2.mono (by omega)))
  generalize w2.alloc (.cells #[.int .i64 0, .int .i64 0, .int .i64 0, .int .i64 0, .int .i64 0] 46) = w3 at hb2 hr c0 k0 HB ⊢
  rw [hsz1] at hr
  rw [hsz] at k0
  obtain ⟨h, hh⟩ : ∃ h, w.heap.size = h := ⟨_, rfl⟩
  have HH := Lib.hid hh
  rw [show w.heap.size + 1 + 1 = w.heap.size + 2 from rfl]
  rw [hh] at hr k0 c0 ⊢
  have HRw := Lib.hid hr
  clear hb hb1 hb2 hr hsz hsz1 hh
  by_cases hk : kindOk kind = true
  · have hk' := hk
    unfold kindOk at hk'
    rw [Bool.and_eq_true, decide_eq_true_eq, decide_eq_true_eq] at hk'
    obtain ⟨k, rfl⟩ : ∃ k : Nat, kind = (k : Int) := ⟨kind.toNat, by omega⟩
    have HK := Lib.hid (show atP L (k : Int) n = lastLe L k n by unfold atP; rw [if_pos hk]; rfl)
    have HKk := Lib.hid hk
    have hk5 : k < 5 := by omega
    have q1 : decide ((k : Int) < 0) = false := decide_eq_false (by omega)
    have q2 : decide ((k : Int) > 4) = false := decide_eq_false (by omega)
    have HS := Lib.hid (psearch_any _ L k n (h + 1) w3 (PsIn.below HR.out HB.out) HP.out hl hk5 k0)
    clear hk hk'
    go_wp2_with fail
    refine HS.out.mono ?_
    rintro e w4 ⟨ok, rfl, hB4⟩
    have c0 := cell_later hB4 c0
    have hr : w4.heap[h + 2]? = some (.cells #[.int .i64 0, .int .i64 0, .int .i64 0, .int .i64 0, .int .i64 0] 46 (0, 0)) := (hB4.block _ (row_len HRw.out)).trans HRw.out
    have f0 := row_warm hr 0
    have f1 := row_warm hr 1
    have f2 := row_warm hr 2
    have f3 := row_warm hr 3
    have f4 := row_warm hr 4
    have z0 := row_cells (i := 0) hr rfl
    have z1 := row_cells (i := 1) hr rfl
    have z2 := row_cells (i := 2) hr rfl
    have z3 := row_cells (i := 3) hr rfl
    have z4 := row_cells (i := 4) hr rfl
    have HB4 := Lib.hid (below_trans' HB.out hB4)
    have hcl := cnt_le (L := L) (k := k) (n := n)
    have HLe := Lib.hid (show lastLe L k n = if cntLe L k n = 0 then noP else (L[cntLe L k n - 1]?).getD noP from rfl)
    obtain ⟨c, hc⟩ : ∃ c, c = cntLe L k n := ⟨_, rfl⟩
    rw [← hc] at hcl HLe ⊢
    clear hr k0 HS HRw hB4 hc
    by_cases hc0 : c = 0
    · subst hc0
      have HV := Lib.hid (show atP L (k : Int) n = noP by rw [HK.out, HLe.out, if_pos rfl])
      clear HR
      go_wp2_with fail
      refine ret_cell_tmp (x := .bool true) (ad := ⟨h + 2, 0, none⟩) rfl rfl rfl (run_pos (x0 := 0) (x1 := 0) (x2 := 0) (x3 := 0) (x4 := 0) (by go_simp) (by go_simp) (by go_simp) (by go_simp) (by go_simp)) rfl ⟨by rw [HV.out, HKk.out]; rfl, ?_⟩
      have hB := HB4.out
      rw [HH.out] at hB ⊢
      exact ((((hB.setCell (by simp) _).setCell (by simp) _).setCell (by simp) _).setCell (by simp) _).setCell (by simp) _
    · obtain ⟨x, hx⟩ : ∃ x, L[c - 1]? = some x := ⟨L[c - 1], List.getElem?_eq_getElem (by omega)⟩
      have HV := Lib.hid (show atP L (k : Int) n = x by rw [HK.out, HLe.out, if_neg hc0, hx]; rfl)
      obtain ⟨x0, x1, x2, x3, x4⟩ := x
      obtain ⟨b, off, cap', hv, _, _, hml, hbl, d0, d1, d2, d3, d4⟩ := ps_cells (PsIn.below HR.out HB4.out) hx
      cases hv
      have e1 := IntWalk.i64_in ((c : Int) - 1) (by omega)
      have e2 : ((c : Int) == 0) = false := by simpa using hc0
      clear hx HR
      go_wp2_with fail
      refine ret_cell_tmp (x := .bool true) (ad := ⟨h + 2, 0, none⟩) rfl rfl rfl (run_pos (x0 := x0) (x1 := x1) (x2 := x2) (x3 := x3) (x4 := x4) (by go_simp) (by go_simp) (by go_simp) (by go_simp) (by go_simp)) rfl ⟨by rw [HV.out, HKk.out]; rfl, ?_⟩
      have hB := HB4.out
      rw [HH.out] at hB ⊢
      exact ((((hB.setCell (by simp) _).setCell (by simp) _).setCell (by simp) _).setCell (by simp) _).setCell (by simp) _
  · have HKk := Lib.hid (show kindOk kind = false by simpa using hk)
    have HV := Lib.hid (show atP L kind n = noP by unfold atP; rw [if_neg hk])
    have hr := HRw.out
    have f0 := row_warm hr 0
    have f1 := row_warm hr 1
    have f2 := row_warm hr 2
    have f3 := row_warm hr 3
    have f4 := row_warm hr 4
    have z0 := row_cells (i := 0) hr rfl
    have z1 := row_cells (i := 1) hr rfl
    have z2 := row_cells (i := 2) hr rfl
    have z3 := row_cells (i := 3) hr rfl
    have z4 := row_cells (i := 4) hr rfl
    clear hr HRw HR
    by_cases hn : kind < 0
    case' pos => skip
    case' neg =>
      have q1 : decide (kind < 0) = false := decide_eq_false hn
      have q2 : kind > 4 := by
        unfold kindOk at hk
        rw [Bool.and_eq_true, decide_eq_true_eq, decide_eq_true_eq] at hk
        omega
      clear hn
    all_goals
      clear hk
      go_wp2_with fail
      refine ret_cell_tmp (x := .bool false) (ad := ⟨h + 2, 0, none⟩) rfl rfl rfl (run_pos (x0 := 0) (x1 := 0) (x2 := 0) (x3 := 0) (x4 := 0) (by go_simp) (by go_simp) (by go_simp) (by go_simp) (by go_simp)) rfl ⟨by rw [HV.out, HKk.out]; rfl, ?_⟩
      have hB := HB.out
      rw [HH.out] at hB ⊢
      exact ((((hB.setCell (by simp) _).setCell (by simp) _).setCell (by simp) _).setCell (by simp) _).setCell (by simp) _
theorem psV_at (p : Ps) {k : Nat} (h : k < 5) : (#[Value.int .i64 p.1, .int .i64 p.2.1, .int .i64 p.2.2.1, .int .i64 p.2.2.2.1, .int .i64 p.2.2.2.2] : Array Value)[k]? = some (.int .i64 (psN p k)) := by
  have := psE_at p h
  simpa [psE] using this
/-- a number, turned -/
def turnN (L : List Ps) (f n t : Int) : Int := if kindOk f = true ∧ kindOk t = true then psN (atP L f n) t.toNat else 0
set_option maxRecDepth 100000 in
set_option maxHeartbeats 4000000 in
theorem uturn_any {w : World} {v : Value} {L : List Ps} (f n t : Int) (h : MapIn w v L) (hP : L.Pairwise psLe) (hl : L.length ≤ 1114112) :
    Calls Tryz.prog 25 #[v, .int .i64 f, .int .i64 n, .int .i64 t] w fun e w' => e = .returned (.tuple #[.int .i64 (turnN L f n t), .bool (kindOk f && kindOk t)]) ∧ Below w.heap.size w w' := by
  have HM := Lib.hid h
  have HP := Lib.hid hP
  obtain ⟨mv, rfl, hR⟩ := h
  obtain ⟨sa, sc, rfl, hcap, hmax⟩ := ps_shape hR
  unfold maxLen at hmax
  clear hR hP
  go_enter Tryz.func25, Tryz.ntmps25
  have hb := below1 w (.cells #[.slice sa L.length sc] 41)
  have HB := Lib.hid hb
  have HA := Lib.hid (uat_any f n (HM.out.below hb) HP.out hl)
  clear hb
  go_wp2_with fail
  refine HA.out.mono ?_
  rintro e w2 ⟨rfl, hB2⟩
  have HB2 := Lib.hid (below_trans' HB.out hB2)
  obtain ⟨p, hp⟩ : ∃ p, p = atP L f n := ⟨_, rfl⟩
  obtain ⟨o, ho⟩ : ∃ o, o = kindOk f := ⟨_, rfl⟩
  have hT : turnN L f n t = if o = true ∧ kindOk t = true then psN p t.toNat else 0 := by rw [hp, ho]; rfl
  have HT := Lib.hid hT
  have HO := Lib.hid ho
  rw [← hp, ← ho]
  clear HA hB2 HB hT hp ho
  have hb3 := below1 w2 (cPos p)
  have hr := heap_alloc_new w2 (cPos p)
  have HB3 := Lib.hid (below_trans' HB2.out hb3)
  unfold psV
  by_cases ho : o = true
  · subst ho
    by_cases hk : kindOk t = true
    · have hk' := hk
      unfold kindOk at hk'
      rw [Bool.and_eq_true, decide_eq_true_eq, decide_eq_true_eq] at hk'
      obtain ⟨k, rfl⟩ : ∃ k : Nat, t = (k : Int) := ⟨t.toNat, by omega⟩
      have q1 : decide ((k : Int) < 0) = false := decide_eq_false (by omega)
      have q2 : decide ((k : Int) > 4) = false := decide_eq_false (by omega)
      have c1 := row_cells hr (psV_at p (k := k) (by omega))
      have k0 : (0 : Int) ≤ (k : Int) := by omega
      have k1 : (k : Int) < 5 := by omega
      have HV := Lib.hid (show (if true = true ∧ kindOk (k : Int) = true then psN p ((k : Int)).toNat else 0) = psN p k by rw [if_pos ⟨rfl, hk⟩]; rfl)
      have HK := Lib.hid hk
      unfold cPos at c1
      clear hk hk' hr hb3
      go_wp2_with fail
      go_ret2
      exact ⟨by rw [HT.out, HV.out, ← HO.out, HK.out]; rfl, HB3.out⟩
    · have HV := Lib.hid (show (if true = true ∧ kindOk t = true then psN p t.toNat else 0) = 0 by rw [if_neg (fun h => hk h.2)])
      have HK := Lib.hid (show kindOk t = false by simpa using hk)
      clear hr hb3
      by_cases hn : t < 0
      case' pos => skip
      case' neg =>
        have q1 : decide (t < 0) = false := decide_eq_false hn
        have q2 : t > 4 := by
          unfold kindOk at hk
          rw [Bool.and_eq_true, decide_eq_true_eq, decide_eq_true_eq] at hk
          omega
        clear hn
      all_goals
        clear hk
        go_wp2_with fail
        go_ret2
        exact ⟨by rw [HT.out, HV.out, ← HO.out, HK.out]; rfl, HB3.out⟩
  · have hof : o = false := by simpa using ho
    subst hof
    have HV := Lib.hid (show (if false = true ∧ kindOk t = true then psN p t.toNat else 0) = 0 by rw [if_neg (fun h => by cases h.1)])
    clear hr hb3 ho
    go_wp2_with fail
    go_ret2
    exact ⟨by rw [HT.out, HV.out, ← HO.out]; rfl, HB3.out⟩
end Go.Proofs.YtblajooebmjfoaaGreat
