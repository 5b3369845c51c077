/- The document's grid: rows, each in a block of its own; is a cell there. -/
import Derived.Test.YtokenlecnbploaaRefA
namespace Go.Proofs.Ytokenlecnbploaa
open Go.RowKit

structure RefAt (w : World) (B ob : Nat) (rb rc : Nat → Nat) (m : Nat) (G : List (List Gl)) : Prop where
  outer : ∀ r, r < G.length → w.cell? ⟨ob, r, none⟩ = some (.slice (some ⟨rb r, 0, none⟩) m (rc r))
  rows : ∀ r l, G[r]? = some l → RowAt w (rb r) l
  shape : ∀ l ∈ G, l.length = m
  wf : ∀ l ∈ G, wfRow l
  ne : ∀ r, r < G.length → rb r ≠ ob
  inj : ∀ r s, r < G.length → s < G.length → rb r = rb s → r = s
  base : ∀ r, r < G.length → B ≤ rb r
  hob : B ≤ ob
  pos : 0 < m
  small : m ≤ 1073741824
  few : G.length ≤ 1073741824

theorem RefAt.row {w : World} {B ob m : Nat} {rb rc : Nat → Nat} {G : List (List Gl)} (h : RefAt w B ob rb rc m G) {r : Nat} {l : List Gl} (hr : G[r]? = some l) :
    l.length = m ∧ wfRow l ∧ r < G.length ∧ w.cell? ⟨ob, r, none⟩ = some (.slice (some ⟨rb r, 0, none⟩) m (rc r)) ∧ RowAt w (rb r) l ∧ rb r ≠ ob ∧ rb r < w.heap.size ∧ ob < w.heap.size := by
  have hl := (List.getElem?_eq_some_iff.1 hr).1
  have h1 := h.shape l (List.mem_of_getElem? hr)
  have h2 := h.outer r hl
  have h3 := h.rows r l hr
  exact ⟨h1, h.wf l (List.mem_of_getElem? hr), hl, h2, h3, h.ne r hl, h3.lt (k := 0) (by have := h.pos; omega), World.block_lt_of_cell? w _ h2⟩

theorem RefAt.set {w w' : World} {B ob m : Nat} {rb rc : Nat → Nat} {G : List (List Gl)} (h : RefAt w B ob rb rc m G) {r : Nat} {l : List Gl} (hr : r < G.length)
    (hg : w.grownBy w' (some (rb r))) (hR : RowAt w' (rb r) l) (hl : l.length = m) (hw : wfRow l) : RefAt w' B ob rb rc m (G.set r l) := by
  have hlen : (G.set r l).length = G.length := List.length_set
  refine ⟨?_, ?_, set_shape h.shape hl, set_wf h.wf hw, ?_, ?_, ?_, h.hob, h.pos, h.small, by rw [hlen]; exact h.few⟩
  · intro s hs
    rw [hlen] at hs
    exact hg.cell (h.outer s hs) (by intro e; injection e with e; exact h.ne r hr e.symm)
  · intro s k hk
    by_cases hsr : s = r
    · subst hsr
      rw [List.getElem?_set_self hr] at hk
      obtain rfl : l = k := by simpa using hk
      exact hR
    · rw [List.getElem?_set_ne (by omega)] at hk
      obtain ⟨_, _, hs, _, h5, _, h7, _⟩ := h.row hk
      exact h5.same (hg.block _ h7 (by intro e; injection e with e; exact hsr (h.inj s r hs hr e)))
  · intro s hs; rw [hlen] at hs; exact h.ne s hs
  · intro s t hs ht; rw [hlen] at hs ht; exact h.inj s t hs ht
  · intro s hs; rw [hlen] at hs; exact h.base s hs

theorem RefAt.same {w w' : World} {B ob m : Nat} {rb rc : Nat → Nat} {G : List (List Gl)} (h : RefAt w B ob rb rc m G)
    (ho : w'.heap[ob]? = w.heap[ob]?) (hr : ∀ r, r < G.length → w'.heap[rb r]? = w.heap[rb r]?) : RefAt w' B ob rb rc m G :=
  ⟨fun r h1 => (World.cell?_of_block (a := ⟨ob, r, none⟩) ho).trans (h.outer r h1), fun r l h1 => (h.rows r l h1).same (hr r (List.getElem?_eq_some_iff.1 h1).1), h.shape, h.wf, h.ne, h.inj, h.base, h.hob, h.pos, h.small, h.few⟩
theorem RefAt.grown {w w' : World} {B ob m lb : Nat} {rb rc : Nat → Nat} {G : List (List Gl)} (h : RefAt w B ob rb rc m G) (hg : w.grownBy w' (some lb)) (h1 : lb ≠ ob) (h2 : ∀ r, r < G.length → lb ≠ rb r) (h3 : 0 < G.length) : RefAt w' B ob rb rc m G := by
  have hob : ob < w.heap.size := World.block_lt_of_cell? w _ (h.outer 0 h3)
  refine h.same (hg.block _ hob (by intro e; injection e with e; exact h1 e.symm)) fun r hr => ?_
  have := h.row (List.getElem?_eq_getElem hr)
  exact hg.block _ this.2.2.2.2.2.2.1 (by intro e; injection e with e; exact h2 r hr e.symm)

set_option maxRecDepth 100000 in
set_option maxHeartbeats 400000 in
theorem refIn_yes (ob n m cap : Nat) (b0 c0 : Nat) (r c : Int) (w : World) (h1 : 0 ≤ r) (h2 : r < n) (h3 : 0 ≤ c) (h4 : c < m)
    (ho : w.cell? ⟨ob, r.toNat, none⟩ = some (.slice (some ⟨b0, 0, none⟩) m c0)) :
    Calls Try.prog 58 #[.slice (some ⟨ob, 0, none⟩) n cap, .int .i64 r, .int .i64 c] w fun e w' => e = .returned (.bool true) ∧ w = w' := by
  go_enter Try.func58, Try.ntmps58
  go_wp2
  go_ret
  exact ⟨rfl, rfl⟩

set_option maxRecDepth 100000 in
set_option maxHeartbeats 400000 in
theorem refIn_out (o : Option Addr) (n cap : Nat) (r c : Int) (w : World) (h : r < 0 ∨ ¬ r < n ∨ c < 0) :
    Calls Try.prog 58 #[.slice o n cap, .int .i64 r, .int .i64 c] w fun e w' => e = .returned (.bool false) ∧ w = w' := by
  have h' : r < 0 ∨ (0 ≤ r ∧ ¬ r < n) ∨ (0 ≤ r ∧ r < n ∧ c < 0) := by omega
  clear h
  rcases h' with h1 | ⟨h1, h2⟩ | ⟨h1, h2, h3⟩
  all_goals
    go_enter Try.func58, Try.ntmps58
    go_wp2
    go_ret
    exact ⟨rfl, rfl⟩

set_option maxRecDepth 100000 in
set_option maxHeartbeats 400000 in
theorem refIn_far (ob n m cap : Nat) (b0 c0 : Nat) (r c : Int) (w : World) (h1 : 0 ≤ r) (h2 : r < n) (h3 : 0 ≤ c) (h4 : ¬ c < m)
    (ho : w.cell? ⟨ob, r.toNat, none⟩ = some (.slice (some ⟨b0, 0, none⟩) m c0)) :
    Calls Try.prog 58 #[.slice (some ⟨ob, 0, none⟩) n cap, .int .i64 r, .int .i64 c] w fun e w' => e = .returned (.bool false) ∧ w = w' := by
  go_enter Try.func58, Try.ntmps58
  go_wp2
  go_ret
  exact ⟨rfl, rfl⟩

theorem refIn_no (ob n m cap : Nat) (rb rc : Nat → Nat) (r c : Int) (w : World) (ho : ∀ r, r < n → w.cell? ⟨ob, r, none⟩ = some (.slice (some ⟨rb r, 0, none⟩) m (rc r))) (h : ¬ (0 ≤ r ∧ r < n ∧ 0 ≤ c ∧ c < m)) :
    Calls Try.prog 58 #[.slice (some ⟨ob, 0, none⟩) n cap, .int .i64 r, .int .i64 c] w fun e w' => e = .returned (.bool false) ∧ w = w' := by
  by_cases h1 : r < 0 ∨ ¬ r < n ∨ c < 0
  · exact refIn_out _ n cap r c w h1
  · have : r.toNat < n := by omega
    exact refIn_far ob n m cap (rb r.toNat) (rc r.toNat) r c w (by omega) (by omega) (by omega) (by omega) (ho _ this)
end Go.Proofs.Ytokenlecnbploaa
