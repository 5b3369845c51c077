/- grid.New. -/
import Derived.Test.YtokenlecnbploaaGridE
namespace Go.Proofs.Ytokenlecnbploaa
open Go.RowKit

theorem Egc : ElemT Try.prog 77 61 2 24 := elemT_of (by kernel_rfl) (z := .agg #[.string ⟨#[]⟩, .int .i64 0]) (by kernel_rfl) rfl (by decide) (by decide)
theorem info_gc : (Try.prog.info? 61).map (fun i => (i.zero, i.size, i.bytes)) = some (some (.agg #[.string ⟨#[]⟩, .int .i64 0]), 2, 24) := by kernel_rfl

theorem made_get (N j : Nat) (u : Value) (h : ((List.replicate N zeroC).flatMap genc)[j]? = some u) : (madeCells #[.string ⟨#[]⟩, .int .i64 0] (N * 2)).toList[j]? = some u := by
  obtain ⟨i, y, hy, q, hq, rfl, hqu⟩ := flat_index genc_len _ j u h
  rw [List.getElem?_replicate] at hy
  split at hy
  · rename_i hi
    obtain rfl : zeroC = y := by simpa using hy
    unfold madeCells
    rw [Array.getElem?_toList, Array.getElem?_map, Array.getElem?_range, if_pos (by omega)]
    have : (i * 2 + q) % 2 = q := by omega
    simp only [Option.map_some]
    rcases (show q = 0 ∨ q = 1 by omega) with rfl | rfl
    · simp at this; simp [genc, zeroC] at hqu; simp [hqu]
    · simp [genc, zeroC] at hqu; simp [hqu, this]
  · cases hy

theorem gridAt_mk {w : World} {gb lb n m cap base : Nat} {xs : List Gl} {ys : List Value} (ho : w.ownsRow base 61 2 (.slice (some ⟨lb, 0, none⟩) (n * m) cap) (n * m) ys) (hy : ∀ (j : Nat) (u : Value), (xs.flatMap genc)[j]? = some u → ys[j]? = some u)
    (c0 : w.cell? ⟨gb, 0, none⟩ = some (.int .i64 n)) (c1 : w.cell? ⟨gb, 1, none⟩ = some (.int .i64 m)) (c2 : w.cell? ⟨gb, 2, none⟩ = some (.slice (some ⟨lb, 0, none⟩) (n * m) cap)) (hne : gb ≠ lb) (hl : xs.length = n * m) (hcap : n * m ≤ cap) (hcm : cap ≤ maxLen) :
    GridAt w gb lb n m cap xs :=
  ⟨c0, c1, c2, hne, hl, hcap, hcm, fun j u hu => by
    have hj := (List.getElem?_eq_some_iff.1 hu).1
    rw [flat_len genc_len, hl] at hj
    exact (ho.cellAt j hj).trans (hy j u hu), fun j => ho.frozenAt j⟩

set_option maxRecDepth 100000 in
set_option maxHeartbeats 400000 in
theorem new_none (n m : Int) (w : World) (h : n < 1 ∨ 500 < n ∨ m < 2 ∨ 1000 < m) :
    Calls Try.prog 28 #[.int .i64 n, .int .i64 m] w fun e w' => e = .returned (.pointer none) ∧ w = w' := by
  have h' : n < 1 ∨ (1 ≤ n ∧ 500 < n) ∨ (1 ≤ n ∧ n ≤ 500 ∧ m < 2) ∨ (1 ≤ n ∧ n ≤ 500 ∧ 2 ≤ m ∧ 1000 < m) := by omega
  clear h
  rcases h' with h1 | ⟨h1, h2⟩ | ⟨h1, h2, h3⟩ | ⟨h1, h2, h3, h4⟩
  all_goals
    go_enter Try.func28, Try.ntmps28
    go_wp2
    go_ret
    exact ⟨rfl, rfl⟩

set_option maxRecDepth 100000 in
set_option maxHeartbeats 1000000 in
theorem new_some (n m : Nat) (w : World) (h1 : 1 ≤ n) (h2 : n ≤ 500) (h3 : 2 ≤ m) (h4 : m ≤ 1000) :
    Calls Try.prog 28 #[.int .i64 n, .int .i64 m] w fun e w' => ∃ gb lb, e = .returned (.pointer (some ⟨gb, 0, none⟩)) ∧ w.heap.size ≤ gb ∧ w.heap.size ≤ lb ∧ Below w.heap.size w w' ∧ GridG w' gb lb m (n * m) (List.replicate n (List.replicate m blankC)) := by
  obtain ⟨ie, hie, hze, hse, hbe⟩ := info_parts info_gc
  have hnm : n * m ≤ 500 * 1000 := Nat.mul_le_mul h2 h4
  have hnm0 : 0 < n * m := Nat.mul_pos h1 (by omega)
  obtain ⟨N, hN⟩ : ∃ N, N = n * m := ⟨_, rfl⟩
  have hNi : (n : Int) * (m : Int) = (N : Int) := by rw [hN, Int.natCast_mul]
  rw [← hN] at hnm hnm0 ⊢
  have HN := Lib.hid hN
  clear hN
  have q1 : decide ((n : Int) < 1) = false := decide_eq_false (by omega)
  have q2 : decide ((500 : Int) < n) = false := decide_eq_false (by omega)
  have q3 : decide ((m : Int) < 2) = false := decide_eq_false (by omega)
  have q4 : decide ((1000 : Int) < m) = false := decide_eq_false (by omega)
  go_enter Try.func28, Try.ntmps28
  go_wp2_with (at_make; refine wpList_make_full _ rfl _ _ _ rfl w.heap.size 61 ie _ 2 Egc.und hie hze hse _ _ _ _ N rfl rfl rfl rfl (by rw [hbe]; omega) (by unfold maxLen; omega) (Nat.le_refl _) ?_; intro w1 ho1 hg1)
  have hlt1 := ho1.lt w.heap.size rfl
  have hB1 : Below w.heap.size w w1 := (Below.refl _ w).grown hg1 (Nat.le_refl _) (fun k e => by cases e)
  have hG0 : GridAt (w1.alloc (.cells #[.int .i64 n, .int .i64 m, .slice (some ⟨w.heap.size, 0, none⟩) N N] 85)) w1.heap.size w.heap.size n m (n * m) (List.replicate (n * m) zeroC) := by
    rw [HN.out] at ho1 ⊢
    exact gridAt_mk (ho1.alloc _) (fun j u hu => made_get (n * m) j u hu) (by go_simp) (by go_simp) (by go_simp) (by omega) (by simp) (Nat.le_refl _) (by rw [← HN.out]; unfold maxLen; omega)
  have hBx : Below w.heap.size w (w1.alloc (.cells #[.int .i64 n, .int .i64 m, .slice (some ⟨w.heap.size, 0, none⟩) N N] 85)) := hB1.alloc (by omega) _
  have hfin : ∀ w', GridAt w' w1.heap.size w.heap.size n m (n * m) (wiped (List.replicate (n * m) zeroC) (n * m)) → GridG w' w1.heap.size w.heap.size m (n * m) (List.replicate n (List.replicate m blankC)) := by
    intro w' h
    refine ⟨?_, ?_, ?_, by rw [List.length_replicate, ← HN.out]; omega⟩
    · rw [List.length_replicate, flatten_blank]
      have : wiped (List.replicate (n * m) zeroC) (n * m) = List.replicate (n * m) blankC := by unfold wiped; rw [List.drop_of_length_le (by simp), List.append_nil]
      rw [← this]; exact h
    · intro l hl; rw [(List.mem_replicate.1 hl).2]; simp
    · intro l hl; rw [(List.mem_replicate.1 hl).2]; exact wf_blank m
  have HF := Lib.hid hfin
  have HO := Lib.hid ho1
  clear hfin ho1
  go_loopw [34] (fun i wr => ∃ k : Nat, k ≤ N ∧ i = .int .i64 k ∧ Below w.heap.size w wr ∧ GridAt wr w1.heap.size w.heap.size n m (n * m) (wiped (List.replicate (n * m) zeroC) k)) (fun i _ => N - (intOf i).toNat)
  case atStart => exact ⟨0, Nat.zero_le _, rfl, hBx, by simpa [wiped] using hG0⟩
  case round =>
    obtain ⟨k, hk, rfl, hB, hGr⟩ := hrel
    clear hG0 hBx hB1 hg1
    by_cases hlt : k < N
    · have hkx : k < (wiped (List.replicate (n * m) zeroC) k).length := by rw [wiped_len _ k (by rw [List.length_replicate, ← HN.out]; omega), List.length_replicate, ← HN.out]; exact hlt
      obtain ⟨c2, t0, t1, f0, f1, hlb, hgl⟩ := hGr.facts hkx
      rw [← HN.out] at c2
      have hne : ¬ w1.heap.size = w.heap.size := hGr.ne
      have hne' : ¬ w.heap.size = w1.heap.size := fun e => hGr.ne e.symm
      have hk0 : (0 : Int) ≤ (k : Int) := by omega
      have hk1 : (k : Int) < (N : Int) := by omega
      have HS := Lib.hid (wiped_succ (List.replicate (n * m) zeroC) k (by rw [List.length_replicate, ← HN.out]; exact hlt))
      rw [← HN.out] at t0 t1
      go_wp2
      go_region_held3 (fun w' => w'.cell? ⟨w1.heap.size, 2, none⟩ = some (.slice (some ⟨w.heap.size, 0, none⟩) N N)) (go_keep) (first | (go_at_call 46; refine (blank_any _).mono ?_; rintro e w' ⟨rfl, rfl⟩))
      have hp := hGr.put hkx blankC (.cells #[.string ⟨#[32]⟩, .int .i64 1] 61)
      rw [HS.out] at hp
      dsimp only [blankC] at hp
      generalize ((((wr.setCell ⟨w.heap.size, k * 2, none⟩ (Value.string ⟨#[32]⟩)).setCell ⟨w.heap.size, k * 2 + 1, none⟩ (Value.int .i64 1)).alloc (Obj.cells #[Value.string ⟨#[32]⟩, Value.int .i64 1] 61)).drew) = W1 at hp ⊢
      have hB2 : Below w.heap.size w W1 := hB.grown hp.2 hB.size (fun k e => by cases e; exact Nat.le_refl _)
      clear c2 t0 t1 f0 f1
      go_wp2
      refine ⟨⟨k + 1, by omega, by go_num, hB2, hp.1⟩, by simp [intOf]; omega⟩
    · have hkn : k = N := by omega
      subst hkn
      have HG := Lib.hid hGr
      clear hGr
      go_wp2
      go_ret
      refine ⟨_, w.heap.size, rfl, by omega, Nat.le_refl _, hB, ?_⟩
      have := HF.out wr (by have h := HG.out; rw [HN.out] at h; exact h)
      rw [HN.out]; exact this
end Go.Proofs.Ytokenlecnbploaa
