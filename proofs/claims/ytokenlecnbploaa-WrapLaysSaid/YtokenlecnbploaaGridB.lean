/- grid: is a cell there; a cell loosened, by rows. -/
import Derived.Test.YtokenlecnbploaaGridA
namespace Go.Proofs.Ytokenlecnbploaa
open Go.RowKit

set_option maxRecDepth 100000 in
set_option maxHeartbeats 400000 in
theorem in_yes (gb n m : Nat) (r c : Int) (w : World) (c0 : w.cell? ⟨gb, 0, none⟩ = some (.int .i64 n)) (c1 : w.cell? ⟨gb, 1, none⟩ = some (.int .i64 m)) (h1 : 0 ≤ r) (h2 : r < n) (h3 : 0 ≤ c) (h4 : c < m) :
    Calls Try.prog 52 #[.pointer (some ⟨gb, 0, none⟩), .int .i64 r, .int .i64 c] w fun e w' => e = .returned (.bool true) ∧ w = w' := by
  go_enter Try.func52, Try.ntmps52
  go_wp2
  go_ret
  exact ⟨rfl, rfl⟩

set_option maxRecDepth 100000 in
set_option maxHeartbeats 400000 in
theorem in_no (gb n m : Nat) (r c : Int) (w : World) (c0 : w.cell? ⟨gb, 0, none⟩ = some (.int .i64 n)) (c1 : w.cell? ⟨gb, 1, none⟩ = some (.int .i64 m)) (h : ¬ (0 ≤ r ∧ r < n ∧ 0 ≤ c ∧ c < m)) :
    Calls Try.prog 52 #[.pointer (some ⟨gb, 0, none⟩), .int .i64 r, .int .i64 c] w fun e w' => e = .returned (.bool false) ∧ w = w' := by
  have h' : r < 0 ∨ (0 ≤ r ∧ ¬ r < n) ∨ (0 ≤ r ∧ r < n ∧ c < 0) ∨ (0 ≤ r ∧ r < n ∧ 0 ≤ c ∧ ¬ c < m) := by omega
  clear h
  rcases h' with h1 | ⟨h1, h2⟩ | ⟨h1, h2, h3⟩ | ⟨h1, h2, h3, h4⟩
  all_goals
    go_enter Try.func52, Try.ntmps52
    go_wp2
    go_ret
    exact ⟨rfl, rfl⟩

set_option maxRecDepth 100000 in
set_option maxHeartbeats 400000 in
theorem in_nil (r c : Int) (w : World) :
    Calls Try.prog 52 #[.pointer none, .int .i64 r, .int .i64 c] w fun e w' => e = .returned (.bool false) ∧ w = w' := by
  go_enter Try.func52, Try.ntmps52
  go_wp2
  go_ret
  exact ⟨rfl, rfl⟩

/-- A grid by rows: as the document has it. -/
structure GridG (w : World) (gb lb m cap : Nat) (G : List (List Gl)) : Prop where
  grid : GridAt w gb lb G.length m cap G.flatten
  shape : ∀ l ∈ G, l.length = m
  wf : ∀ l ∈ G, wfRow l
  small : G.length * m ≤ 1073741824

theorem GridG.row {w : World} {gb lb m cap : Nat} {G : List (List Gl)} (h : GridG w gb lb m cap G) {r : Nat} {l : List Gl} (hr : G[r]? = some l) : l.length = m ∧ wfRow l ∧ r < G.length :=
  ⟨h.shape l (List.mem_of_getElem? hr), h.wf l (List.mem_of_getElem? hr), (List.getElem?_eq_some_iff.1 hr).1⟩
theorem GridG.index {w : World} {gb lb m cap : Nat} {G : List (List Gl)} (h : GridG w gb lb m cap G) {r c : Nat} {l : List Gl} (hr : G[r]? = some l) (hc : c < m) : r * m + c < G.flatten.length ∧ cellAt G.flatten (r * m + c) = cellAt l c := by
  obtain ⟨h1, _, h2⟩ := h.row hr
  have hf := (flat_at h.shape hr hc).trans (get_cellAt (l := l) (by omega))
  exact ⟨(List.getElem?_eq_some_iff.1 hf).1, cellAt_of hf⟩
theorem set_shape {m : Nat} {G : List (List Gl)} (h : ∀ l ∈ G, l.length = m) {r : Nat} {l : List Gl} (hl : l.length = m) : ∀ k ∈ G.set r l, k.length = m := by
  intro k hk
  rcases List.mem_or_eq_of_mem_set hk with h1 | rfl
  · exact h k h1
  · exact hl
theorem set_wf {G : List (List Gl)} (h : ∀ l ∈ G, wfRow l) {r : Nat} {l : List Gl} (hl : wfRow l) : ∀ k ∈ G.set r l, wfRow k := by
  intro k hk
  rcases List.mem_or_eq_of_mem_set hk with h1 | rfl
  · exact h k h1
  · exact hl
theorem GridG.mk' {w : World} {gb lb m cap : Nat} {G : List (List Gl)} (h : GridG w gb lb m cap G) {w' : World} {r : Nat} {l : List Gl} (hg : GridAt w' gb lb G.length m cap (G.set r l).flatten) (hl : l.length = m) (hw : wfRow l) : GridG w' gb lb m cap (G.set r l) :=
  ⟨by rw [List.length_set]; exact hg, set_shape h.shape hl, set_wf h.wf hw, by rw [List.length_set]; exact h.small⟩

/-- loose, by rows -/
theorem loose_G (gb lb m cap r c : Nat) (G : List (List Gl)) (l : List Gl) (w : World) (hG : GridG w gb lb m cap G) (hr : G[r]? = some l) (hc : c < m) :
    Calls Try.prog 56 #[.pointer (some ⟨gb, 0, none⟩), .int .i64 (r * m + c : Nat)] w fun e w' => e = .returned (.tuple #[]) ∧ w.grownBy w' (some lb) ∧ GridG w' gb lb m cap (G.set r (looseRow l c)) := by
  obtain ⟨hl, hw, hrl⟩ := hG.row hr
  obtain ⟨hi, hat⟩ := hG.index hr hc
  have hcl : c < l.length := by omega
  have hwl := wf_loose hw hcl
  have hll := looseRow_len l c
  have hfin := hw c hcl
  unfold fine at hfin
  rcases hfin with ⟨h1, _, h2, _⟩ | h1 | ⟨h1, h2, _⟩
  · refine (loose_zero gb lb G.length m cap (r * m + c) G.flatten w hG.grid hi (by omega) hG.small (by rw [hat]; exact h1)).mono ?_
    rintro e w' ⟨rfl, hg, hG'⟩
    refine ⟨rfl, hg, hG.mk' ?_ (by omega) hwl⟩
    have e1 : r * m + c - 1 = r * m + (c - 1) := by omega
    rw [e1, flat_set hG.shape _ hr (by omega), flat_set (set_shape hG.shape (by rw [List.length_set]; exact hl)) _ (List.getElem?_set_self hrl) hc, List.set_set] at hG'
    have : looseRow l c = (l.set (c - 1) blankC).set c blankC := by unfold looseRow; rw [if_pos h1]
    rw [this]; exact hG'
  · refine (loose_one gb lb G.length m cap (r * m + c) G.flatten w hG.grid hi (by rw [hat]; exact h1)).mono ?_
    rintro e w' ⟨rfl, hg, hG'⟩
    refine ⟨rfl, hg, hG.mk' ?_ (by omega) hwl⟩
    rw [flat_set hG.shape _ hr hc] at hG'
    have : looseRow l c = l.set c blankC := by unfold looseRow; rw [if_neg (by omega), if_neg (by omega)]
    rw [this]; exact hG'
  · have hc1 : c + 1 < m := by omega
    refine (loose_two gb lb G.length m cap (r * m + c) G.flatten w hG.grid (hG.index hr hc1).1 hG.small (by rw [hat]; exact h1)).mono ?_
    rintro e w' ⟨rfl, hg, hG'⟩
    refine ⟨rfl, hg, hG.mk' ?_ (by omega) hwl⟩
    have e1 : r * m + c + 1 = r * m + (c + 1) := by omega
    rw [e1, flat_set hG.shape _ hr hc1, flat_set (set_shape hG.shape (by rw [List.length_set]; exact hl)) _ (List.getElem?_set_self hrl) hc, List.set_set] at hG'
    have : looseRow l c = (l.set (c + 1) blankC).set c blankC := by unfold looseRow; rw [if_neg (by omega), if_pos h1]
    rw [this]; exact hG'

theorem GridG.grown {w w' : World} {gb lb m cap : Nat} {G : List (List Gl)} (h : GridG w gb lb m cap G) (hg : w'.heap[gb]? = w.heap[gb]?) (hl : w'.heap[lb]? = w.heap[lb]?) : GridG w' gb lb m cap G := ⟨h.grid.same hg hl, h.shape, h.wf, h.small⟩
end Go.Proofs.Ytokenlecnbploaa
