/- A range over a function whose rounds never leave: the caller's memory below the loop's first block is what the rounds speak of; the iterator may keep variables of its own in cells. No program is named here. -/
import Derived.RangeFuncNested
import Derived.RangeFuncBound
import Derived.RangeFuncCalls
import Derived.RangeFuncLeaves
import Derived.Shelf.Abstract
import Derived.Test.YtokenlecnbploaaBase
namespace Go.Proofs.Ytokenlecnbploaa
open Go.RowKit

def DepBelow (m : Nat) (J : Nat → World → Prop) : Prop := ∀ k W W', J k W → Below m W W' → J k W'
def KeepFrom (B : Nat) (W W' : World) : Prop := W.heap.size ≤ W'.heap.size ∧ ∀ k, B ≤ k → k < W.heap.size → W'.heap[k]? = W.heap[k]?

theorem KeepFrom.refl (B : Nat) (W : World) : KeepFrom B W W := ⟨Nat.le_refl _, fun _ _ _ => rfl⟩
theorem KeepFrom.trans {B : Nat} {a b c : World} (h : KeepFrom B a b) (k : KeepFrom B b c) : KeepFrom B a c :=
  ⟨Nat.le_trans h.1 k.1, fun i hi hl => (k.2 i hi (by have := h.1; omega)).trans (h.2 i hi hl)⟩
theorem KeepFrom.alloc {B : Nat} {a w : World} (h : KeepFrom B a w) (o : Obj) : KeepFrom B a (w.alloc o) :=
  h.trans ⟨by simp, fun k _ hl => Below.heap_alloc w o k hl⟩
theorem KeepFrom.setCell {B : Nat} {a w : World} (h : KeepFrom B a w) {p : Addr} (hp : p.block < B) (u : Value) : KeepFrom B a (w.setCell p u) :=
  h.trans ⟨by simp [World.setCell], fun k hk _ => Below.heap_setCell w p u k (by omega)⟩
theorem KeepFrom.grown {B : Nat} {a w w' : World} {row : Option Nat} (h : KeepFrom B a w) (hg : w.grownBy w' row) (hr : ∀ k, row = some k → k < B) : KeepFrom B a w' :=
  h.trans ⟨hg.size, fun k hk hl => hg.block k hl (fun e => by have := hr k e.symm; omega)⟩
theorem KeepFrom.mono {B B' : Nat} {a w : World} (h : KeepFrom B a w) (hb : B ≤ B') : KeepFrom B' a w := ⟨h.1, fun k hk hl => h.2 k (by omega) hl⟩

theorem KeepFrom.cell {B : Nat} {W W' : World} (h : KeepFrom B W W') {a : Addr} {v : Value} (hb : B ≤ a.block) (hc : W.cell? a = some v) : W'.cell? a = some v :=
  (World.cell?_of_block (h.2 a.block hb (World.block_lt_of_cell? W a hc))).trans hc
theorem KeepFrom.frozen {B : Nat} {W W' : World} (h : KeepFrom B W W') {a : Addr} {v : Value} (hb : B ≤ a.block) (hc : W.cell? a = some v) : W'.frozen? a = W.frozen? a :=
  World.frozen?_of_block (h.2 a.block hb (World.block_lt_of_cell? W a hc))

/-- The iterator g, its captured variables lb, tells the list xs, if only what Pre says of memory lasts. -/
def SeqT {α : Type} (F : Fence) (n : Nat) (P : Program) (g : Nat) (lb : Array Value) (encs : α → Array Value) (xs : List α) (Pre : World → Prop) : Prop :=
  ∀ (l : Nat) (J : Nat → World → Prop) (W : World), (∀ k W1, J k W1 → Pre W1 ∧ W.heap.size ≤ W1.heap.size) → DepBelow W.heap.size J →
    (∀ k x W1, xs[k]? = some x → J k W1 → YieldAt F (n - 1) P l (encs x) W1 fun e W' => e = .returned (.bool true) ∧ J (k + 1) W' ∧ KeepFrom W.heap.size W1 W') → J 0 W →
    CallsIn F n P g (#[.func (.yield l) #[] #[]] ++ lb) W fun e W' => (∃ v, e = .returned v) ∧ J xs.length W'

def roundT (I : Nat → World → Prop) (B k : Nat) (W : World) : Exit → Act → World → Prop
  | .normal, _, W' => KeepFrom B W W' ∧ I k W'
  | _, _, _ => False

theorem below_putObj {m : Nat} (W : World) (l : Nat) (o : Obj) (h : m ≤ l) : Below m W (W.putObj l o) :=
  ⟨rfl, rfl, rfl, by simp, fun k hk => World.putObj_heap_other (by omega)⟩

theorem wpIn_rangeT {α : Type} {F : Fence} {n : Nat} {P : Program} {g : Operand} {ps : Array Tmp} {assign body : Code} {Q : Exit → Act → World → Prop} {a : Act} {w : World}
    (hro : F.round = none) (h1 : 1 ≤ n) {gf : Nat} {lb : Array Value} (hg : a.eval g = .func (.func gf) #[] lb) (hFg : F.fn gf) (eg : ∀ args w, (callFunc gf args).run P w = .ok (.enter gf args) w)
    {encs : α → Array Value} {xs : List α} {Pre : World → Prop} (hseq : SeqT F (n - 1) P gf lb encs xs Pre) (hps : ∀ x, (encs x).size = ps.size)
    (I : Nat → World → Prop) (hI : DepBelow w.heap.size I) (hPre : ∀ k W1, I k W1 → Pre W1) (h0 : I 0 w)
    (hround : ∀ (l k : Nat) (x : α) (W : World), xs[k]? = some x → w.heap.size + 1 < W.heap.size → I k W → ∀ (K : Act → World → Prop),
      (∀ a1 W1, Below W.heap.size W W1 → (∀ W2, Below w.heap.size W1 W2 → KeepFrom (w.heap.size + 2) W1 W2 → body.wpIn (F.inRound l) (n - 1 - 1) P (roundT I w.heap.size (k + 1) W2) a1 W2) → K a1 W1) →
      assign.wpIn (F.inRound l) (n - 1 - 1) P (Exit.then K (fun _ _ _ => False)) { tmps := (ps.zip (encs x)).foldl (fun t (p, v) => t.setIfInBounds p v) a.tmps, defers := [] } W)
    (hdone : ∀ (D : Nat) (W : World), w.heap.size ≤ D → I xs.length W → W.heap[D]? = some (.deferred (some [])) → Q .normal { a with defers := { target := .collected D, args := #[] } :: a.defers } W) :
    (Code.rangeFunc g ps assign body).wpIn F n P Q a w := by
  refine wpIn_rangeFunc ?_
  intro fn hfn
  rw [hro]
  obtain ⟨rec, hrec⟩ : ∃ rec : LoopState → Option Code → Loop, rec = fun st pe => { state := st, pending := pe, fn, tmps := a.tmps, params := ps, assign, body, defers := w.heap.size } := ⟨_, rfl⟩
  obtain ⟨W1, hW1⟩ : ∃ W1, (w.alloc (.deferred (some []))).alloc (.loop (rec .ready none)) = W1 := ⟨_, rfl⟩
  have hsz : W1.heap.size = w.heap.size + 2 := by rw [← hW1]; simp
  have hL1 : W1.heap[w.heap.size + 1]? = some (.loop (rec .ready none)) := by
    rw [← hW1]; have := World.alloc_heap_new (w.alloc (.deferred (some []))) (.loop (rec .ready none)); rwa [World.size_alloc] at this
  have hK1 : W1.heap[w.heap.size]? = some (.deferred (some [])) := by
    rw [← hW1]; exact (Below.heap_alloc _ _ _ (by simp)).trans (World.alloc_heap_new w _)
  have hI1 : I 0 W1 := by rw [← hW1]; exact hI _ _ _ h0 (((Below.refl _ w).alloc (Nat.le_refl _) _).alloc (by simp) _)
  refine ⟨w.heap.size + 1, [{ target := .collected w.heap.size, args := #[] }], W1, { target := .fn (.func gf) lb, args := #[.func (.yield (w.heap.size + 1)) #[] #[]] }, W1, gf,
    #[.func (.yield (w.heap.size + 1)) #[] #[]] ++ lb, W1, ?_, ?_, ?_, ?_, fun _ => h1, ?_⟩
  · rw [← hW1, hrec]; exact run_enterLoop_outer _ _ _ _ _
  · simp only [resolve, hg]
    simp [go_sem]
  · intro f' hf'; simp [Target.leads] at hf'; subst hf'; exact hFg
  · simp [invoke, go_sem, eg]
  · refine (hseq (w.heap.size + 1)
      (fun k W => I k W ∧ W.heap[w.heap.size + 1]? = some (.loop (rec .ready none)) ∧ W.heap[w.heap.size]? = some (.deferred (some [])))
      W1 (fun k W2 h => ⟨hPre k W2 h.1, by have := (Array.getElem?_eq_some_iff.1 h.2.1).1; omega⟩)
      (fun k A B hs hb => ⟨hI k A B hs.1 (hb.mono (by omega)), (hb.block _ (by omega)).trans hs.2.1, (hb.block _ (by omega)).trans hs.2.2⟩) ?_ ⟨hI1, hL1, hK1⟩).mono ?_
    · rintro k x W hx ⟨hi, hl, hk⟩
      have hlt : w.heap.size + 1 < W.heap.size := (Array.getElem?_eq_some_iff.1 hl).1
      have hy := run_yield (P := P) (args := encs x) hl (by rw [hrec]; exact hps x)
      rw [hrec] at hy
      refine ⟨fn, _, assign, body, hy, roundIn_of_wpIn hfn (hround (w.heap.size + 1) k x W hx hlt hi _ ?_)⟩
      intro a1 Wa hBa hbody
      have hla : Wa.heap[w.heap.size + 1]? = some (.loop (rec .ready none)) := (hBa.block _ (by omega)).trans hl
      have hka : Wa.heap[w.heap.size]? = some (.deferred (some [])) := (hBa.block _ (by omega)).trans hk
      have hlta : w.heap.size + 1 < Wa.heap.size := (Array.getElem?_eq_some_iff.1 hla).1
      refine ⟨_, run_beginRound hla (by rw [hrec]), ?_⟩
      have hl2 : (Wa.putObj (w.heap.size + 1) (.loop { rec .ready none with state := .busy })).heap[w.heap.size + 1]? = some (.loop { rec .ready none with state := .busy }) := World.putObj_heap_same hlta
      have hk2 : (Wa.putObj (w.heap.size + 1) (.loop { rec .ready none with state := .busy })).heap[w.heap.size]? = some (.deferred (some [])) := (World.putObj_heap_other (by omega)).trans hka
      have hka2 : KeepFrom (w.heap.size + 2) Wa (Wa.putObj (w.heap.size + 1) (.loop { rec .ready none with state := .busy })) := ⟨by simp, fun j hj _ => World.putObj_heap_other (by omega)⟩
      refine wpIn_mono (hbody _ (below_putObj _ _ _ (by omega)) hka2) ?_
      rintro e a3 W3 hp
      cases e with
      | normal =>
        obtain ⟨hk3, hi3⟩ := hp
        have hl3 : W3.heap[w.heap.size + 1]? = some (.loop { rec .ready none with state := .busy }) := (hk3.2 _ (by omega) (by simpa using hlta)).trans hl2
        have hk4 : W3.heap[w.heap.size]? = some (.deferred (some [])) := (hk3.2 _ (by omega) (by simp; omega)).trans hk2
        have hr := run_endRound (P := P) none hl3
        rw [hrec] at hr
        refine ⟨_, _, hr, rfl, ⟨hI _ _ _ hi3 (below_putObj _ _ _ (by omega)), ?_, (World.putObj_heap_other (by omega)).trans hk4⟩, ?_⟩
        · rw [hrec]; exact World.putObj_heap_same (Array.getElem?_eq_some_iff.1 hl3).1
        · rw [hsz]
          have k1 : KeepFrom (w.heap.size + 2) W Wa := ⟨hBa.size, fun j _ hj => hBa.block j hj⟩
          exact ((k1.trans hka2).trans (hk3.mono (by omega))).trans ⟨by simp, fun j hj _ => World.putObj_heap_other (by omega)⟩
      | ret => exact hp.elim
      | exit id => exact hp.elim
      | goto t => exact hp.elim
      | panic ch => exact hp.elim
      | outgrown => exact hp.elim
    · rintro e W2 ⟨⟨v, rfl⟩, hi, hl, hk⟩
      exact ⟨none, _, by have := run_endLoop (P := P) hl (by rw [hrec]; simp); rw [hrec] at this; exact this, hdone _ _ (Nat.le_refl _) (hI _ _ _ hi (below_putObj _ _ _ (by omega))) ((World.putObj_heap_other (by omega)).trans hk)⟩
end Go.Proofs.Ytokenlecnbploaa
