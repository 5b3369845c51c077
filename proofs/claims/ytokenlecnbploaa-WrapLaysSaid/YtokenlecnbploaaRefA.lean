/- The document's grid: a row of cells; one cell loosened. -/
import Derived.Test.YtokenlecnbploaaGridH
namespace Go.Proofs.Ytokenlecnbploaa
open Go.RowKit

/-- The block rb has the cells xs. -/
structure RowAt (w : World) (rb : Nat) (xs : List Gl) : Prop where
  cells : ∀ j u, (xs.flatMap genc)[j]? = some u → w.cell? ⟨rb, j, none⟩ = some u
  free : ∀ j, w.frozen? ⟨rb, j, none⟩ = false

theorem RowAt.text {w : World} {rb : Nat} {xs : List Gl} (h : RowAt w rb xs) {k : Nat} {x : Gl} (hk : xs[k]? = some x) : w.cell? ⟨rb, k * 2, none⟩ = some (.string x.1) := by
  have := flat_get genc_len xs k x 0 _ hk rfl
  exact h.cells _ _ this
theorem RowAt.width {w : World} {rb : Nat} {xs : List Gl} (h : RowAt w rb xs) {k : Nat} {x : Gl} (hk : xs[k]? = some x) : w.cell? ⟨rb, k * 2 + 1, none⟩ = some (.int .i64 x.2) := by
  have := flat_get genc_len xs k x 1 _ hk rfl
  exact h.cells _ _ this
theorem RowAt.lt {w : World} {rb : Nat} {xs : List Gl} (h : RowAt w rb xs) {k : Nat} (hk : k < xs.length) : rb < w.heap.size :=
  World.block_lt_of_cell? w _ (h.text (List.getElem?_eq_getElem hk))
theorem RowAt.same {w w' : World} {rb : Nat} {xs : List Gl} (h : RowAt w rb xs) (hl : w'.heap[rb]? = w.heap[rb]?) : RowAt w' rb xs :=
  ⟨fun j u hu => (World.cell?_of_block (a := ⟨rb, j, none⟩) hl).trans (h.cells j u hu), fun j => (World.frozen?_of_block (a := ⟨rb, j, none⟩) hl).trans (h.free j)⟩

theorem RowAt.set {w : World} {rb : Nat} {xs : List Gl} (h : RowAt w rb xs) {k : Nat} (hk : k < xs.length) (x : Gl) :
    RowAt ((w.setCell ⟨rb, k * 2, none⟩ (.string x.1)).setCell ⟨rb, k * 2 + 1, none⟩ (.int .i64 x.2)) rb (xs.set k x) := by
  have hx := get_cellAt hk
  refine ⟨?_, ?_⟩
  · intro j u hu
    obtain ⟨i, y, hy, q, hq, rfl, hqu⟩ := flat_index genc_len _ j u hu
    by_cases hik : i = k
    · subst hik
      rw [List.getElem?_set_self hk] at hy
      obtain rfl : x = y := by simpa using hy
      rcases (show q = 0 ∨ q = 1 by omega) with rfl | rfl
      · rw [World.cell?_setCell_other _ _ _ _ (by intro e; injection e with _ e2; omega), Nat.add_zero, World.cell?_setCell_same' _ _ _ (by rw [h.text hx]; rfl)]
        exact hqu
      · rw [World.cell?_setCell_same' _ _ _ (by rw [World.cell?_setCell_other _ _ _ _ (by intro e; injection e with _ e2; omega), h.width hx]; rfl)]
        exact hqu
    · rw [List.getElem?_set_ne (by omega)] at hy
      rw [World.cell?_setCell_other _ _ _ _ (by intro e; injection e with _ e2; omega), World.cell?_setCell_other _ _ _ _ (by intro e; injection e with _ e2; omega)]
      exact h.cells _ _ (flat_get genc_len xs i y q u hy hqu)
  · intro j
    rw [World.frozen?_setCell, World.frozen?_setCell]
    exact h.free j

/-- a row's cell set, behind a block that was laid -/
theorem RowAt.put {w : World} {rb : Nat} {xs : List Gl} (h : RowAt w rb xs) {k : Nat} (hk : k < xs.length) (x : Gl) (o : Obj) :
    RowAt (((w.setCell ⟨rb, k * 2, none⟩ (.string x.1)).setCell ⟨rb, k * 2 + 1, none⟩ (.int .i64 x.2)).alloc o) rb (xs.set k x) ∧
    w.grownBy (((w.setCell ⟨rb, k * 2, none⟩ (.string x.1)).setCell ⟨rb, k * 2 + 1, none⟩ (.int .i64 x.2)).alloc o) (some rb) := by
  have hl := h.lt hk
  constructor
  · exact (h.set hk x).same (Below.heap_alloc _ _ _ (by simpa using hl))
  · refine ⟨rfl, rfl, rfl, by simp, fun j hj hne => ?_⟩
    have h1 : j ≠ rb := fun e => hne (by rw [e])
    exact ((Below.heap_alloc _ _ _ (by simpa using hj)).trans (Below.heap_setCell _ _ _ _ h1)).trans (Below.heap_setCell _ _ _ _ h1)
theorem RowAt.put0 {w : World} {rb : Nat} {xs : List Gl} (h : RowAt w rb xs) {k : Nat} (hk : k < xs.length) (x : Gl) :
    RowAt ((w.setCell ⟨rb, k * 2, none⟩ (.string x.1)).setCell ⟨rb, k * 2 + 1, none⟩ (.int .i64 x.2)) rb (xs.set k x) ∧
    w.grownBy ((w.setCell ⟨rb, k * 2, none⟩ (.string x.1)).setCell ⟨rb, k * 2 + 1, none⟩ (.int .i64 x.2)) (some rb) := by
  refine ⟨h.set hk x, rfl, rfl, rfl, by simp, fun j hj hne => ?_⟩
  have h1 : j ≠ rb := fun e => hne (by rw [e])
  exact (Below.heap_setCell _ _ _ _ h1).trans (Below.heap_setCell _ _ _ _ h1)

structure RFacts (w : World) (rb k : Nat) (t : ByteArray) (d : Int) : Prop where
  t0 : w.cell? ⟨rb, k * 2, none⟩ = some (.string t)
  t1 : w.cell? ⟨rb, k * 2 + 1, none⟩ = some (.int .i64 d)
  f0 : w.frozen? ⟨rb, k * 2, none⟩ = false
  f1 : w.frozen? ⟨rb, k * 2 + 1, none⟩ = false
  lt : rb < w.heap.size
theorem RowAt.facts {w : World} {rb : Nat} {xs : List Gl} (h : RowAt w rb xs) {k : Nat} (hk : k < xs.length) : RFacts w rb k (cellAt xs k).1 (cellAt xs k).2 :=
  ⟨h.text (get_cellAt hk), h.width (get_cellAt hk), h.free _, h.free _, h.lt hk⟩

set_option maxHeartbeats 400000 in
theorem rblank_any (w : World) : Calls Try.prog 49 #[] w fun e w' => e = .returned (.agg #[.string ⟨#[32]⟩, .int .i64 1]) ∧ w.alloc (.cells #[.string ⟨#[32]⟩, .int .i64 1] 87) = w' := by
  go_enter Try.func49, Try.ntmps49
  go_wp2
  exact bodyPost_ret (v := .agg #[.string ⟨#[32]⟩, .int .i64 1]) (by simp [results, Try.results49, go_sem]) rfl ⟨rfl, rfl⟩

theorem looseRow_one {l : List Gl} {c : Nat} (h : (cellAt l c).2 = 1) : looseRow l c = l.set c blankC := by unfold looseRow; rw [if_neg (by omega), if_neg (by omega)]
theorem looseRow_two {l : List Gl} {c : Nat} (h : (cellAt l c).2 = 2) : looseRow l c = (l.set (c + 1) blankC).set c blankC := by unfold looseRow; rw [if_neg (by omega), if_pos h]
theorem looseRow_zero {l : List Gl} {c : Nat} (h : (cellAt l c).2 = 0) : looseRow l c = (l.set (c - 1) blankC).set c blankC := by unfold looseRow; rw [if_pos h]

set_option maxRecDepth 100000 in
set_option maxHeartbeats 1000000 in
theorem rloose_any (rb m cap c : Nat) (xs : List Gl) (w : World) (hR : RowAt w rb xs) (hl : xs.length = m) (hw : wfRow xs) (hk : c < m) (hm : m ≤ 1073741824) :
    Calls Try.prog 59 #[.slice (some ⟨rb, 0, none⟩) m cap, .int .i64 c] w fun e w' => e = .returned (.tuple #[]) ∧ w.grownBy w' (some rb) ∧ RowAt w' rb (looseRow xs c) := by
  subst hl
  have hf := hw c hk
  unfold fine at hf
  obtain ⟨t0, t1, f0, f1, hlb⟩ := hR.facts hk
  have hk0 : (0 : Int) ≤ (c : Int) := by omega
  have hk1 : (c : Int) < (xs.length : Int) := by omega
  rcases hf with ⟨h1, _, h2, h3⟩ | h1 | ⟨h1, h2, _⟩
  · rw [looseRow_zero h1]
    rw [h1] at t1
    obtain ⟨s0, s1, r0, r1, _⟩ := hR.facts (k := c - 1) (by omega)
    have hj0 : (0 : Int) ≤ (c : Int) - 1 := by omega
    have hj1 : (c : Int) - 1 < (xs.length : Int) := by omega
    have hj3 : ((c : Int) - 1).toNat = c - 1 := by omega
    have hj5 : (1 : Int) ≤ (c : Int) := by omega
    have hp := hR.put (k := c - 1) (by omega) blankC (.cells #[.string ⟨#[32]⟩, .int .i64 1] 87)
    dsimp only [blankC] at hp
    go_enter Try.func59, Try.ntmps59
    go_wp2_with fail
    refine (rblank_any _).mono ?_
    rintro e w' ⟨rfl, rfl⟩
    go_wp2_with fail
    generalize ((w.setCell ⟨rb, (c - 1) * 2, none⟩ (Value.string ⟨#[32]⟩)).setCell ⟨rb, (c - 1) * 2 + 1, none⟩ (Value.int .i64 1)).alloc (Obj.cells #[.string ⟨#[32]⟩, .int .i64 1] 87) = W1 at hp ⊢
    clear s0 s1 r0 r1 t0 t1 f0 f1
    have hR1 : RowAt W1 rb (xs.set (c - 1) blankC) := hp.1
    obtain ⟨t0, t1, f0, f1, hlb1⟩ := hR1.facts (k := c) (by rw [List.length_set]; omega)
    have hp2 := hR1.put (k := c) (by rw [List.length_set]; omega) blankC (.cells #[.string ⟨#[32]⟩, .int .i64 1] 87)
    refine (rblank_any _).mono ?_
    rintro e w' ⟨rfl, rfl⟩
    go_wp2
    go_end0
    exact ⟨rfl, grown_trans hp.2 hp2.2, hp2.1⟩
  · rw [looseRow_one h1]
    rw [h1] at t1
    have hp := hR.put (k := c) (by omega) blankC (.cells #[.string ⟨#[32]⟩, .int .i64 1] 87)
    go_enter Try.func59, Try.ntmps59
    go_wp2_with fail
    refine (rblank_any _).mono ?_
    rintro e w' ⟨rfl, rfl⟩
    go_wp2
    go_end0
    exact ⟨rfl, hp.2, hp.1⟩
  · rw [looseRow_two h1]
    rw [h1] at t1
    obtain ⟨s0, s1, r0, r1, _⟩ := hR.facts (k := c + 1) (by omega)
    have hj0 : (0 : Int) ≤ (c : Int) + 1 := by omega
    have hj1 : (c : Int) + 1 < (xs.length : Int) := by omega
    have hj3 : ((c : Int) + 1).toNat = c + 1 := by omega
    have hp := hR.put (k := c + 1) (by omega) blankC (.cells #[.string ⟨#[32]⟩, .int .i64 1] 87)
    dsimp only [blankC] at hp
    go_enter Try.func59, Try.ntmps59
    go_wp2_with fail
    refine (rblank_any _).mono ?_
    rintro e w' ⟨rfl, rfl⟩
    go_wp2_with fail
    generalize ((w.setCell ⟨rb, (c + 1) * 2, none⟩ (Value.string ⟨#[32]⟩)).setCell ⟨rb, (c + 1) * 2 + 1, none⟩ (Value.int .i64 1)).alloc (Obj.cells #[.string ⟨#[32]⟩, .int .i64 1] 87) = W1 at hp ⊢
    clear s0 s1 r0 r1 t0 t1 f0 f1
    have hR1 : RowAt W1 rb (xs.set (c + 1) blankC) := hp.1
    obtain ⟨t0, t1, f0, f1, hlb1⟩ := hR1.facts (k := c) (by rw [List.length_set]; omega)
    have hp2 := hR1.put (k := c) (by rw [List.length_set]; omega) blankC (.cells #[.string ⟨#[32]⟩, .int .i64 1] 87)
    refine (rblank_any _).mono ?_
    rintro e w' ⟨rfl, rfl⟩
    go_wp2
    go_end0
    exact ⟨rfl, grown_trans hp.2 hp2.2, hp2.1⟩
end Go.Proofs.Ytokenlecnbploaa
