/- grid.At. -/
import Derived.Test.YtokenlecnbploaaGridF
namespace Go.Proofs.Ytokenlecnbploaa
open Go.RowKit

set_option maxRecDepth 100000 in
set_option maxHeartbeats 1000000 in
theorem at_some (gb lb m cap r c : Nat) (G : List (List Gl)) (l : List Gl) (w : World) (hG : GridG w gb lb m cap G) (hr : G[r]? = some l) (hc : c < m) :
    Calls Try.prog 32 #[.pointer (some ⟨gb, 0, none⟩), .int .i64 r, .int .i64 c] w fun e w' => e = .returned (.agg #[.string (cellAt l c).1, .int .i64 (cellAt l c).2]) ∧ Below w.heap.size w w' := by
  obtain ⟨hl, hw, hrl⟩ := hG.row hr
  obtain ⟨q, hq⟩ : ∃ q, q = r * m := ⟨_, rfl⟩
  have hqi : (r : Int) * (m : Int) = (q : Int) := by rw [hq, Int.natCast_mul]
  obtain ⟨hix, hat⟩ := hG.index hr hc
  have hsm := hG.small
  have hln := hG.grid.len
  rw [← hq] at hix hat
  have hgl := hG.grid.glt
  have c0 := hG.grid.c0
  have c1 := hG.grid.c1
  obtain ⟨c2, t0, t1, f0, f1, hlb, hgb⟩ := hG.grid.facts hix
  rw [hat] at t0 t1
  have hk1 : (q : Int) + (c : Int) < ((G.length * m : Nat) : Int) := by omega
  have hk0 : (0 : Int) ≤ (q : Int) + (c : Int) := by omega
  have hk2 : (q : Int) + (c : Int) < (G.length : Int) * (m : Int) := by rw [← Int.natCast_mul]; exact hk1
  have hk3 : ((q : Int) + (c : Int)).toNat = q + c := by omega
  have hqb : (q : Int) ≤ 1073741824 := by omega
  have e1 := IntWalk.i64_in (q : Int) (by omega)
  have e2 := IntWalk.i64_in ((q : Int) + (c : Int)) (by omega)
  generalize cellAt l c = x at *
  obtain ⟨t, d⟩ := x
  dsimp only at *
  clear hG hq hix hat hw
  go_enter Try.func32, Try.ntmps32
  go_wp2_with (go_at_call 52; refine (in_yes gb G.length m _ _ _ (by go_simp) (by go_simp) (by omega) (by omega) (by omega) (by omega)).mono ?_; rintro e w' ⟨rfl, rfl⟩)
  have hn1 : ¬ w.heap.size = gb := by omega
  have hn2 : ¬ gb = w.heap.size := by omega
  have hn3 : ¬ w.heap.size = lb := by omega
  have hn4 : ¬ lb = w.heap.size := by omega
  go_region_held3 (fun w' => w'.cell? ⟨gb, 2, none⟩ = some (.slice (some ⟨lb, 0, none⟩) (G.length * m) cap) ∧ w'.cell? ⟨gb, 1, none⟩ = some (.int .i64 m) ∧ w'.cell? ⟨lb, (q + c) * 2, none⟩ = some (.string t) ∧ w'.cell? ⟨lb, (q + c) * 2 + 1, none⟩ = some (.int .i64 d)) (go_keep) (first | fail)
  go_wp2
  exact bodyPost_ret (v := .agg #[.string t, .int .i64 d]) (by simp [results, Try.results32, go_sem]) rfl ⟨rfl, ((Below.refl _ _).alloc (Nat.le_refl _) _).drew⟩

set_option maxRecDepth 100000 in
set_option maxHeartbeats 1000000 in
theorem at_none (gb n m : Nat) (r c : Int) (w : World) (c0 : w.cell? ⟨gb, 0, none⟩ = some (.int .i64 n)) (c1 : w.cell? ⟨gb, 1, none⟩ = some (.int .i64 m)) (h : ¬ (0 ≤ r ∧ r < n ∧ 0 ≤ c ∧ c < m)) :
    Calls Try.prog 32 #[.pointer (some ⟨gb, 0, none⟩), .int .i64 r, .int .i64 c] w fun e w' => e = .returned (.agg #[.string ⟨#[]⟩, .int .i64 0]) ∧ Below w.heap.size w w' := by
  have hgb := World.block_lt_of_cell? w _ c0
  go_enter Try.func32, Try.ntmps32
  go_wp2_with (go_at_call 52; refine (in_no gb n m _ _ _ (by go_simp) (by go_simp) h).mono ?_; rintro e w' ⟨rfl, rfl⟩)
  exact bodyPost_ret (v := .agg #[.string ⟨#[]⟩, .int .i64 0]) (by simp [results, Try.results32, go_sem]) rfl ⟨rfl, (Below.refl _ _).alloc (Nat.le_refl _) _⟩

set_option maxRecDepth 100000 in
set_option maxHeartbeats 1000000 in
theorem at_nil (r c : Int) (w : World) :
    Calls Try.prog 32 #[.pointer none, .int .i64 r, .int .i64 c] w fun e w' => e = .returned (.agg #[.string ⟨#[]⟩, .int .i64 0]) ∧ Below w.heap.size w w' := by
  go_enter Try.func32, Try.ntmps32
  go_wp2_with (go_at_call 52; refine (in_nil _ _ _).mono ?_; rintro e w' ⟨rfl, rfl⟩)
  exact bodyPost_ret (v := .agg #[.string ⟨#[]⟩, .int .i64 0]) (by simp [results, Try.results32, go_sem]) rfl ⟨rfl, (Below.refl _ _).alloc (Nat.le_refl _) _⟩
end Go.Proofs.Ytokenlecnbploaa
