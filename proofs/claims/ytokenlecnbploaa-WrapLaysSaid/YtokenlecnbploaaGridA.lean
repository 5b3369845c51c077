/- grid: one cell loosened. -/
import Derived.Test.YtokenlecnbploaaGridP
import Derived.Test.YtokenlecnbploaaLaw
import Derived.Deep.QuietTactic
import Derived.BigQuiet
import Derived.Deep.RegionHeld3
import Derived.IntWalk
namespace Go.Proofs.Ytokenlecnbploaa
open Go.RowKit

/-- p is a pointer to a grid of n rows and m columns, whose cells are xs; it lies in the blocks gb and lb. -/
structure GridAt (w : World) (gb lb n m cap : Nat) (xs : List Gl) : Prop where
  c0 : w.cell? ⟨gb, 0, none⟩ = some (.int .i64 n)
  c1 : w.cell? ⟨gb, 1, none⟩ = some (.int .i64 m)
  c2 : w.cell? ⟨gb, 2, none⟩ = some (.slice (some ⟨lb, 0, none⟩) (n * m) cap)
  ne : gb ≠ lb
  len : xs.length = n * m
  hcap : n * m ≤ cap
  capm : cap ≤ maxLen
  cells : ∀ j u, (xs.flatMap genc)[j]? = some u → w.cell? ⟨lb, j, none⟩ = some u
  free : ∀ j, w.frozen? ⟨lb, j, none⟩ = false

theorem GridAt.glt {w : World} {gb lb n m cap : Nat} {xs : List Gl} (h : GridAt w gb lb n m cap xs) : gb < w.heap.size := World.block_lt_of_cell? w _ h.c0
theorem GridAt.text {w : World} {gb lb n m cap : Nat} {xs : List Gl} (h : GridAt w gb lb n m cap xs) {k : Nat} {x : Gl} (hk : xs[k]? = some x) : w.cell? ⟨lb, k * 2, none⟩ = some (.string x.1) := by
  have := flat_get genc_len xs k x 0 _ hk rfl
  exact h.cells _ _ this
theorem GridAt.width {w : World} {gb lb n m cap : Nat} {xs : List Gl} (h : GridAt w gb lb n m cap xs) {k : Nat} {x : Gl} (hk : xs[k]? = some x) : w.cell? ⟨lb, k * 2 + 1, none⟩ = some (.int .i64 x.2) := by
  have := flat_get genc_len xs k x 1 _ hk rfl
  exact h.cells _ _ this
theorem GridAt.llt {w : World} {gb lb n m cap : Nat} {xs : List Gl} (h : GridAt w gb lb n m cap xs) {k : Nat} (hk : k < xs.length) : lb < w.heap.size :=
  World.block_lt_of_cell? w _ (h.text (List.getElem?_eq_getElem hk))

set_option maxHeartbeats 400000 in
theorem blank_any (w : World) : Calls Try.prog 46 #[] w fun e w' => e = .returned (.agg #[.string ⟨#[32]⟩, .int .i64 1]) ∧ w.alloc (.cells #[.string ⟨#[32]⟩, .int .i64 1] 61) = w' := by
  go_enter Try.func46, Try.ntmps46
  go_wp2
  exact bodyPost_ret (v := .agg #[.string ⟨#[32]⟩, .int .i64 1]) (by simp [results, Try.results46, go_sem]) rfl ⟨rfl, rfl⟩

theorem GridAt.same {w w' : World} {gb lb n m cap : Nat} {xs : List Gl} (h : GridAt w gb lb n m cap xs) (hg : w'.heap[gb]? = w.heap[gb]?) (hl : w'.heap[lb]? = w.heap[lb]?) : GridAt w' gb lb n m cap xs :=
  ⟨(World.cell?_of_block (a := ⟨gb, 0, none⟩) hg).trans h.c0, (World.cell?_of_block (a := ⟨gb, 1, none⟩) hg).trans h.c1, (World.cell?_of_block (a := ⟨gb, 2, none⟩) hg).trans h.c2, h.ne, h.len, h.hcap, h.capm,
    fun j u hu => (World.cell?_of_block (a := ⟨lb, j, none⟩) hl).trans (h.cells j u hu), fun j => (World.frozen?_of_block (a := ⟨lb, j, none⟩) hl).trans (h.free j)⟩

theorem GridAt.set {w : World} {gb lb n m cap : Nat} {xs : List Gl} (h : GridAt w gb lb n m cap xs) {k : Nat} (hk : k < xs.length) (x : Gl) :
    GridAt ((w.setCell ⟨lb, k * 2, none⟩ (.string x.1)).setCell ⟨lb, k * 2 + 1, none⟩ (.int .i64 x.2)) gb lb n m cap (xs.set k x) := by
  have hne : ∀ o p : Nat, (⟨lb, o, none⟩ : Addr) ≠ ⟨gb, p, none⟩ := by intro o p e; injection e with e1; exact h.ne e1.symm
  have hx := get_cellAt hk
  refine ⟨?_, ?_, ?_, h.ne, by rw [List.length_set]; exact h.len, h.hcap, h.capm, ?_, ?_⟩
  · rw [World.cell?_setCell_other _ _ _ _ (hne _ _), World.cell?_setCell_other _ _ _ _ (hne _ _)]; exact h.c0
  · rw [World.cell?_setCell_other _ _ _ _ (hne _ _), World.cell?_setCell_other _ _ _ _ (hne _ _)]; exact h.c1
  · rw [World.cell?_setCell_other _ _ _ _ (hne _ _), World.cell?_setCell_other _ _ _ _ (hne _ _)]; exact h.c2
  · intro j u hu
    obtain ⟨i, y, hy, q, hq, rfl, hqu⟩ := flat_index genc_len _ j u hu
    by_cases hik : i = k
    · subst hik
      rw [List.getElem?_set_self hk] at hy
      obtain rfl : x = y := by simpa using hy
      rcases (show q = 0 ∨ q = 1 by omega) with rfl | rfl
      · rw [World.cell?_setCell_other _ _ _ _ (by intro e; injection e with _ e2; omega), Nat.add_zero, World.cell?_setCell_same' _ _ _ (by rw [h.text hx]; rfl)]
        exact hqu
      · rw [World.cell?_setCell_same' _ _ _ (by rw [World.cell?_setCell_other _ _ _ _ (by intro e; injection e with _ e2; omega), h.width hx]; rfl)]
        exact hqu
    · rw [List.getElem?_set_ne (by omega)] at hy
      rw [World.cell?_setCell_other _ _ _ _ (by intro e; injection e with _ e2; omega), World.cell?_setCell_other _ _ _ _ (by intro e; injection e with _ e2; omega)]
      exact h.cells _ _ (flat_get genc_len xs i y q u hy hqu)
  · intro j
    rw [World.frozen?_setCell, World.frozen?_setCell]
    exact h.free j

/-- The world behind 'g.l[k] = x', blocks laid and draws beside it. -/
theorem GridAt.put {w : World} {gb lb n m cap : Nat} {xs : List Gl} (h : GridAt w gb lb n m cap xs) {k : Nat} (hk : k < xs.length) (x : Gl) (o : Obj) :
    GridAt ((((w.setCell ⟨lb, k * 2, none⟩ (.string x.1)).setCell ⟨lb, k * 2 + 1, none⟩ (.int .i64 x.2)).alloc o).drew) gb lb n m cap (xs.set k x) ∧
    w.grownBy ((((w.setCell ⟨lb, k * 2, none⟩ (.string x.1)).setCell ⟨lb, k * 2 + 1, none⟩ (.int .i64 x.2)).alloc o).drew) (some lb) := by
  have hg := h.glt
  have hl := h.llt hk
  constructor
  · refine (h.set hk x).same ?_ ?_
    · exact Below.heap_alloc _ _ _ (by simpa using hg)
    · exact Below.heap_alloc _ _ _ (by simpa using hl)
  · refine ⟨rfl, rfl, rfl, by simp, fun j hj hne => ?_⟩
    have h1 : j ≠ lb := fun e => hne (by rw [e])
    exact ((Below.heap_alloc _ _ _ (by simpa using hj)).trans (Below.heap_setCell _ _ _ _ h1)).trans (Below.heap_setCell _ _ _ _ h1)

/-- The same, no block beside it. -/
theorem GridAt.put0 {w : World} {gb lb n m cap : Nat} {xs : List Gl} (h : GridAt w gb lb n m cap xs) {k : Nat} (hk : k < xs.length) (x : Gl) :
    GridAt (((w.setCell ⟨lb, k * 2, none⟩ (.string x.1)).setCell ⟨lb, k * 2 + 1, none⟩ (.int .i64 x.2)).drew) gb lb n m cap (xs.set k x) ∧
    w.grownBy (((w.setCell ⟨lb, k * 2, none⟩ (.string x.1)).setCell ⟨lb, k * 2 + 1, none⟩ (.int .i64 x.2)).drew) (some lb) := by
  constructor
  · exact (h.set hk x).same rfl rfl
  · refine ⟨rfl, rfl, rfl, by simp, fun j hj hne => ?_⟩
    have h1 : j ≠ lb := fun e => hne (by rw [e])
    exact (Below.heap_setCell _ _ _ _ h1).trans (Below.heap_setCell _ _ _ _ h1)

theorem grown_trans {w w1 w2 : World} {r : Option Nat} (h : w.grownBy w1 r) (k : w1.grownBy w2 r) : w.grownBy w2 r :=
  ⟨k.os.trans h.os, k.tape.trans h.tape, k.output.trans h.output, Nat.le_trans h.size k.size, fun j hj hne => (k.block j (Nat.lt_of_lt_of_le hj h.size) hne).trans (h.block j hj hne)⟩

/-- What a region 'g.l[j] = Blank()' asks of the world at hand. -/
structure GFacts (w : World) (gb lb n m cap : Nat) (k : Nat) (t : ByteArray) (d : Int) : Prop where
  c2 : w.cell? ⟨gb, 2, none⟩ = some (.slice (some ⟨lb, 0, none⟩) (n * m) cap)
  t0 : w.cell? ⟨lb, k * 2, none⟩ = some (.string t)
  t1 : w.cell? ⟨lb, k * 2 + 1, none⟩ = some (.int .i64 d)
  f0 : w.frozen? ⟨lb, k * 2, none⟩ = false
  f1 : w.frozen? ⟨lb, k * 2 + 1, none⟩ = false
  lb1 : lb < w.heap.size
  gb1 : gb < w.heap.size
theorem GridAt.facts {w : World} {gb lb n m cap : Nat} {xs : List Gl} (h : GridAt w gb lb n m cap xs) {k : Nat} (hk : k < xs.length) : GFacts w gb lb n m cap k (cellAt xs k).1 (cellAt xs k).2 :=
  ⟨h.c2, h.text (get_cellAt hk), h.width (get_cellAt hk), h.free _, h.free _, h.llt hk, h.glt⟩

def looseFlat (xs : List Gl) (k : Nat) : List Gl := (if (cellAt xs k).2 = 0 then xs.set (k - 1) blankC else if (cellAt xs k).2 = 2 then xs.set (k + 1) blankC else xs).set k blankC

set_option maxRecDepth 100000 in
set_option maxHeartbeats 1000000 in
theorem loose_one (gb lb n m cap k : Nat) (xs : List Gl) (w : World) (hG : GridAt w gb lb n m cap xs) (hk : k < xs.length) (h1 : (cellAt xs k).2 = 1) :
    Calls Try.prog 56 #[.pointer (some ⟨gb, 0, none⟩), .int .i64 k] w fun e w' => e = .returned (.tuple #[]) ∧ w.grownBy w' (some lb) ∧ GridAt w' gb lb n m cap (xs.set k blankC) := by
  obtain ⟨c2, t0, t1, f0, f1, hlb, hgl⟩ := hG.facts hk
  rw [h1] at t1
  have hlen := hG.len
  have hk1 : (k : Int) < ((n * m : Nat) : Int) := by omega
  have hne : ¬ gb = lb := hG.ne
  have hne' : ¬ lb = gb := fun e => hG.ne e.symm
  have hk0 : (0 : Int) ≤ (k : Int) := by omega
  have hk2 : (k : Int) < (n : Int) * (m : Int) := by rw [← Int.natCast_mul]; exact hk1
  go_enter Try.func56, Try.ntmps56
  go_wp2
  go_region_held3 (fun w' => w'.cell? ⟨gb, 2, none⟩ = some (.slice (some ⟨lb, 0, none⟩) (n * m) cap)) (go_keep) (first | (go_at_call 46; refine (blank_any _).mono ?_; rintro e w' ⟨rfl, rfl⟩))
  go_wp2
  go_end0
  exact ⟨rfl, (hG.put hk blankC _).2, (hG.put hk blankC _).1⟩

set_option maxRecDepth 100000 in
set_option maxHeartbeats 1000000 in
theorem loose_two (gb lb n m cap k : Nat) (xs : List Gl) (w : World) (hG : GridAt w gb lb n m cap xs) (hk : k + 1 < xs.length) (hsz : n * m ≤ 1073741824) (h1 : (cellAt xs k).2 = 2) :
    Calls Try.prog 56 #[.pointer (some ⟨gb, 0, none⟩), .int .i64 k] w fun e w' => e = .returned (.tuple #[]) ∧ w.grownBy w' (some lb) ∧ GridAt w' gb lb n m cap ((xs.set (k + 1) blankC).set k blankC) := by
  obtain ⟨c2, t0, t1, f0, f1, hlb, hgl⟩ := hG.facts (k := k) (by omega)
  obtain ⟨_, s0, s1, r0, r1, _, _⟩ := hG.facts (k := k + 1) hk
  rw [h1] at t1
  have hlen := hG.len
  have hk1 : (k : Int) < ((n * m : Nat) : Int) := by omega
  have hj1 : (k : Int) + 1 < ((n * m : Nat) : Int) := by omega
  have hne : ¬ gb = lb := hG.ne
  have hne' : ¬ lb = gb := fun e => hG.ne e.symm
  have hk0 : (0 : Int) ≤ (k : Int) := by omega
  have hj0 : (0 : Int) ≤ (k : Int) + 1 := by omega
  have hk2 : (k : Int) < (n : Int) * (m : Int) := by rw [← Int.natCast_mul]; exact hk1
  have hj2 : (k : Int) + 1 < (n : Int) * (m : Int) := by rw [← Int.natCast_mul]; exact hj1
  have hj3 : ((k : Int) + 1).toNat = k + 1 := by omega
  have e1 := IntWalk.i64_in ((k : Int) + 1) (by omega)
  go_enter Try.func56, Try.ntmps56
  go_wp2
  go_region_held3 (fun w' => w'.cell? ⟨gb, 2, none⟩ = some (.slice (some ⟨lb, 0, none⟩) (n * m) cap)) (go_keep) (first | (go_at_call 46; refine (blank_any _).mono ?_; rintro e w' ⟨rfl, rfl⟩))
  have hp := hG.put (k := k + 1) (by omega) blankC (.cells #[.string ⟨#[32]⟩, .int .i64 1] 61)
  dsimp only [blankC] at hp
  generalize ((((w.setCell ⟨lb, (k + 1) * 2, none⟩ (Value.string ⟨#[32]⟩)).setCell ⟨lb, (k + 1) * 2 + 1, none⟩ (Value.int .i64 1)).alloc (Obj.cells #[Value.string ⟨#[32]⟩, Value.int .i64 1] 61)).drew) = W1 at hp ⊢
  obtain ⟨hG1, hg1⟩ := hp
  have hG1' : GridAt W1 gb lb n m cap (xs.set (k + 1) blankC) := hG1
  obtain ⟨d2, u0, u1, v0, v1, hlb1, hgl1⟩ := hG1'.facts (k := k) (by rw [List.length_set]; omega)
  clear c2 t0 t1 f0 f1 s0 s1 r0 r1 hG1
  go_wp2
  go_region_held3 (fun w' => w'.cell? ⟨gb, 2, none⟩ = some (.slice (some ⟨lb, 0, none⟩) (n * m) cap)) (go_keep) (first | (go_at_call 46; refine (blank_any _).mono ?_; rintro e w' ⟨rfl, rfl⟩))
  go_wp2
  go_end0
  exact ⟨rfl, grown_trans hg1 (hG1'.put (by rw [List.length_set]; omega) blankC _).2, (hG1'.put (by rw [List.length_set]; omega) blankC _).1⟩

set_option maxRecDepth 100000 in
set_option maxHeartbeats 1000000 in
theorem loose_zero (gb lb n m cap k : Nat) (xs : List Gl) (w : World) (hG : GridAt w gb lb n m cap xs) (hk : k < xs.length) (hk9 : 1 ≤ k) (hsz : n * m ≤ 1073741824) (h1 : (cellAt xs k).2 = 0) :
    Calls Try.prog 56 #[.pointer (some ⟨gb, 0, none⟩), .int .i64 k] w fun e w' => e = .returned (.tuple #[]) ∧ w.grownBy w' (some lb) ∧ GridAt w' gb lb n m cap ((xs.set (k - 1) blankC).set k blankC) := by
  obtain ⟨c2, t0, t1, f0, f1, hlb, hgl⟩ := hG.facts (k := k) (by omega)
  obtain ⟨_, s0, s1, r0, r1, _, _⟩ := hG.facts (k := k - 1) (by omega)
  rw [h1] at t1
  have hlen := hG.len
  have hk1 : (k : Int) < ((n * m : Nat) : Int) := by omega
  have hj1 : (k : Int) - 1 < ((n * m : Nat) : Int) := by omega
  have hne : ¬ gb = lb := hG.ne
  have hne' : ¬ lb = gb := fun e => hG.ne e.symm
  have hk0 : (0 : Int) ≤ (k : Int) := by omega
  have hj0 : (0 : Int) ≤ (k : Int) - 1 := by omega
  have hj5 : (1 : Int) ≤ (k : Int) := by omega
  have hk2 : (k : Int) < (n : Int) * (m : Int) := by rw [← Int.natCast_mul]; exact hk1
  have hj2 : (k : Int) - 1 < (n : Int) * (m : Int) := by rw [← Int.natCast_mul]; exact hj1
  have hj3 : ((k : Int) - 1).toNat = k - 1 := by omega
  have e1 := IntWalk.i64_in ((k : Int) - 1) (by omega)
  go_enter Try.func56, Try.ntmps56
  go_wp2
  go_region_held3 (fun w' => w'.cell? ⟨gb, 2, none⟩ = some (.slice (some ⟨lb, 0, none⟩) (n * m) cap)) (go_keep) (first | (go_at_call 46; refine (blank_any _).mono ?_; rintro e w' ⟨rfl, rfl⟩))
  have hp := hG.put (k := k - 1) (by omega) blankC (.cells #[.string ⟨#[32]⟩, .int .i64 1] 61)
  dsimp only [blankC] at hp
  generalize ((((w.setCell ⟨lb, (k - 1) * 2, none⟩ (Value.string ⟨#[32]⟩)).setCell ⟨lb, (k - 1) * 2 + 1, none⟩ (Value.int .i64 1)).alloc (Obj.cells #[Value.string ⟨#[32]⟩, Value.int .i64 1] 61)).drew) = W1 at hp ⊢
  obtain ⟨hG1, hg1⟩ := hp
  have hG1' : GridAt W1 gb lb n m cap (xs.set (k - 1) blankC) := hG1
  obtain ⟨d2, u0, u1, v0, v1, hlb1, hgl1⟩ := hG1'.facts (k := k) (by rw [List.length_set]; omega)
  clear c2 t0 t1 f0 f1 s0 s1 r0 r1 hG1
  go_wp2
  go_region_held3 (fun w' => w'.cell? ⟨gb, 2, none⟩ = some (.slice (some ⟨lb, 0, none⟩) (n * m) cap)) (go_keep) (first | (go_at_call 46; refine (blank_any _).mono ?_; rintro e w' ⟨rfl, rfl⟩))
  go_wp2
  go_end0
  exact ⟨rfl, grown_trans hg1 (hG1'.put (by rw [List.length_set]; omega) blankC _).2, (hG1'.put (by rw [List.length_set]; omega) blankC _).1⟩

end Go.Proofs.Ytokenlecnbploaa
