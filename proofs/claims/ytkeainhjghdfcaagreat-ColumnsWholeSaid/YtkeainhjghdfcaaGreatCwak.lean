/- Joined texts: TrieX. -/
import Derived.StillTailTactics
import Derived.Test.YtkeainhjghdfcaaGreatCwab
import Derived.Test.YtkeainhjghdfcaaGreatCwaj
import Derived.Test.YtkeainhjghdfcaaGreatCwaa

/- trie.Get at pairs. -/
namespace Go.Proofs.YtkeainhjghdfcaaGreat
open Go.RowKit

set_option maxRecDepth 100000 in
set_option maxHeartbeats 1000000 in
theorem get_pair (g : Int → Pr) (B tb : Nat) (i : Int) (w : World) (h : TrieAt penc 2 g B w tb) (_ : B ≤ w.heap.size) :
    Calls Tryz.prog 69 #[.pointer (some ⟨tb, 0, none⟩), .int .i64 i] w fun e w' => e = .returned (aggP (if 0 ≤ i ∧ i < 1114112 then g i else ((0, 0) : Pr))) ∧ Below w.heap.size w w' := by
  have h0 : w.cell? ⟨tb, 0, none⟩ = some (.int .i64 1114112) := let ⟨_, _, _, _, _, h0, _⟩ := h; h0
  have l0 : tb < w.heap.size := World.block_lt_of_cell? w _ h0
  by_cases hi : 0 ≤ i ∧ i < 1114112
  · rw [if_pos hi]
    obtain ⟨m, r, hm, hr, rfl⟩ : ∃ m r : Nat, m < 8704 ∧ r < 128 ∧ i = 128 * (m : Int) + r := ⟨(i / 128).toNat, (i % 128).toNat, by omega, by omega, by omega⟩
    obtain ⟨b1, o1, n1, c1, b2, o2, n2, c2, k, _, h1, h2, h3, h4, h5, h6⟩ := trieAt_cells (enc := penc) (sz := 2) penc_len h hm hr
    have h70 := h6 0 _ rfl
    have h71 := h6 1 _ rfl
    generalize g (128 * (m : Int) + r) = x at h70 h71 ⊢
    clear h6 h
    have q1 : decide (128 * (m : Int) + (r : Int) < 0) = false := by rw [decide_eq_false_iff_not]; omega
    have q2 : decide (128 * (m : Int) + (r : Int) ≥ 1114112) = false := by rw [decide_eq_false_iff_not]; omega
    have hq : (128 * (m : Int) + (r : Int)).tdiv 128 = m := by rw [Int.tdiv_eq_ediv_of_nonneg (by omega)]; omega
    have hr' : (128 * (m : Int) + (r : Int)).tmod 128 = r := by rw [Int.tmod_eq_emod_of_nonneg (by omega)]; omega
    clear hi
    have e1 := IntWalk.i64_in (m : Int) (by omega)
    have e2 := IntWalk.i64_in (r : Int) (by omega)
    have p1 : ((m : Nat) : Int) < (n1 : Int) := by omega
    have p2 : ((k : Nat) : Int) < (n2 : Int) := by omega
    have p3 : ((r : Nat) : Int) < 128 := by omega
    rw [Nat.add_zero] at h70
    have l1 : b1 < w.heap.size := World.block_lt_of_cell? w _ h4
    have l2 : b2 < w.heap.size := World.block_lt_of_cell? w _ h70
    go_enter Tryz.func69, Tryz.ntmps69
    go_wp2_with fail
    have hW : Below w.heap.size w (w.alloc (.cells #[.int .i32 0, .int .i32 0] 125)) := (Below.refl w.heap.size w).alloc (Nat.le_refl _) _
    have hrow : (w.alloc (.cells #[.int .i32 0, .int .i32 0] 125)).heap[w.heap.size]? = some (.cells #[.int .i32 0, .int .i32 0] 125 (0, 0)) := heap_alloc_new w _
    replace h1 := cell_later hW h1
    replace h2 := cell_later hW h2
    replace h4 := cell_later hW h4
    replace h70 := cell_later hW h70
    replace h71 := cell_later hW h71
    have n0 : ¬ tb = w.heap.size := by omega
    have n1' : ¬ b1 = w.heap.size := by omega
    have n2' : ¬ b2 = w.heap.size := by omega
    have hWs : w.heap.size < (w.alloc (.cells #[.int .i32 0, .int .i32 0] 125)).heap.size := row_len hrow
    clear h0 l0 l1 l2
    generalize w.alloc (.cells #[.int .i32 0, .int .i32 0] 125) = W at hW hrow h1 h2 h4 h70 h71 hWs ⊢
    have hz0 : W.cell? ⟨w.heap.size, 0, none⟩ = some (.int .i32 0) := by rw [cell_of_row _ _ 0 _ _ _ hrow]; rfl
    have hf0 : W.frozen? ⟨w.heap.size, 0, none⟩ = false := by unfold World.frozen?; rw [hrow]; simp
    have hz1 : W.cell? ⟨w.heap.size, 1, none⟩ = some (.int .i32 0) := by rw [cell_of_row _ _ 1 _ _ _ hrow]; rfl
    have hf1 : W.frozen? ⟨w.heap.size, 1, none⟩ = false := by unfold World.frozen?; rw [hrow]; simp
    clear hrow
    have HW := Lib.hid hW
    clear hW
    refine wp_region_still_tail 15 (by kernel_rfl) (by kernel_rfl) ?_
    simp only [List.take_succ_cons, List.take_zero, List.drop_succ_cons, List.drop_zero]
    repeat still_step
    refine wpStill_nil ?_
    go_wp2_with fail
    refine ret_cell1 (ad := ⟨w.heap.size, 0, none⟩) rfl rfl (run_loadVar_mid _ _ 0 _ [.int .i32 x.1, .int .i32 x.2] _ (range2 (by go_simp) (by go_simp)) Tryz.underlying125 rfl (by kernel_rfl)) rfl ⟨rfl, below_dN ((HW.out.setCell (Nat.le_refl _) _).setCell (Nat.le_refl _) _) 1⟩
  · rw [if_neg hi]
    by_cases hn : i < 0
    · clear hi
      go_enter Tryz.func69, Tryz.ntmps69
      go_wp2_with fail
      refine ret_cell1 (ad := ⟨w.heap.size, 0, none⟩) rfl rfl (run_loadVar_mid _ _ 0 _ [.int .i32 0, .int .i32 0] _ (range2 (by go_simp) (by go_simp)) Tryz.underlying125 rfl (by kernel_rfl)) rfl ⟨rfl, ((Below.refl w.heap.size w).alloc (Nat.le_refl _) _).alloc (by simp) _⟩
    · have q1 : decide (i < 0) = false := by rw [decide_eq_false_iff_not]; exact hn
      have q2 : i ≥ 1114112 := by omega
      clear hi hn
      go_enter Tryz.func69, Tryz.ntmps69
      go_wp2_with fail
      refine ret_cell1 (ad := ⟨w.heap.size, 0, none⟩) rfl rfl (run_loadVar_mid _ _ 0 _ [.int .i32 0, .int .i32 0] _ (range2 (by go_simp) (by go_simp)) Tryz.underlying125 rfl (by kernel_rfl)) rfl ⟨rfl, ((Below.refl w.heap.size w).alloc (Nat.le_refl _) _).alloc (by simp) _⟩
end Go.Proofs.YtkeainhjghdfcaaGreat
