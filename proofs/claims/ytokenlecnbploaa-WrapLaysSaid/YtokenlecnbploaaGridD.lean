/- grid: Put where there is no room; Erase; Clear; Size; At. -/
import Derived.Test.YtokenlecnbploaaGridC
namespace Go.Proofs.Ytokenlecnbploaa
open Go.RowKit

def roomy (n m : Nat) (r c d : Int) : Prop := 0 ≤ r ∧ r < n ∧ 0 ≤ c ∧ c < m ∧ (d = 1 ∨ d = 2 ∧ c + 1 < m)

set_option maxRecDepth 100000 in
set_option maxHeartbeats 1000000 in
theorem put_no (gb n m : Nat) (r c d : Int) (t : ByteArray) (w : World) (c0 : w.cell? ⟨gb, 0, none⟩ = some (.int .i64 n)) (c1 : w.cell? ⟨gb, 1, none⟩ = some (.int .i64 m)) (hm : m ≤ 1073741824) (h : ¬ roomy n m r c d) :
    Calls Try.prog 45 #[.pointer (some ⟨gb, 0, none⟩), .int .i64 r, .int .i64 c, .agg #[.string t, .int .i64 d]] w fun e w' => e = .returned (.bool false) ∧ Below w.heap.size w w' := by
  have hgb := World.block_lt_of_cell? w _ c0
  unfold roomy at h
  by_cases h1 : 0 ≤ r ∧ r < n ∧ 0 ≤ c ∧ c < m
  · have h2 : d < 1 ∨ (1 ≤ d ∧ 2 < d) ∨ (d = 2 ∧ c + 1 = m) := by omega
    rcases h2 with h2 | ⟨h2, h3⟩ | ⟨h2, h3⟩
    · go_enter Try.func45, Try.ntmps45
      go_wp2_with (go_at_call 52; refine (in_yes gb n m _ _ _ (by go_simp) (by go_simp) h1.1 h1.2.1 h1.2.2.1 h1.2.2.2).mono ?_; rintro e w' ⟨rfl, rfl⟩)
      go_ret
      exact ⟨rfl, (Below.refl _ _).alloc (Nat.le_refl _) _⟩
    · go_enter Try.func45, Try.ntmps45
      go_wp2_with (go_at_call 52; refine (in_yes gb n m _ _ _ (by go_simp) (by go_simp) h1.1 h1.2.1 h1.2.2.1 h1.2.2.2).mono ?_; rintro e w' ⟨rfl, rfl⟩)
      go_ret
      exact ⟨rfl, (Below.refl _ _).alloc (Nat.le_refl _) _⟩
    · subst h2
      obtain ⟨q1, q2, q3, q4⟩ := h1
      go_enter Try.func45, Try.ntmps45
      go_wp2_with fail
      refine (in_yes gb n m _ _ _ (by go_simp) (by go_simp) q1 q2 q3 q4).mono ?_
      rintro e w' ⟨rfl, rfl⟩
      go_wp2_with fail
      refine (in_no gb n m _ _ _ (by go_simp) (by go_simp) (by omega)).mono ?_
      rintro e w' ⟨rfl, rfl⟩
      go_wp2
      go_ret
      exact ⟨rfl, (Below.refl _ _).alloc (Nat.le_refl _) _⟩
  · clear h
    go_enter Try.func45, Try.ntmps45
    go_wp2_with (go_at_call 52; refine (in_no gb n m _ _ _ (by go_simp) (by go_simp) h1).mono ?_; rintro e w' ⟨rfl, rfl⟩)
    go_ret
    exact ⟨rfl, (Below.refl _ _).alloc (Nat.le_refl _) _⟩

set_option maxRecDepth 100000 in
set_option maxHeartbeats 1000000 in
theorem put_nil (r c d : Int) (t : ByteArray) (w : World) :
    Calls Try.prog 45 #[.pointer none, .int .i64 r, .int .i64 c, .agg #[.string t, .int .i64 d]] w fun e w' => e = .returned (.bool false) ∧ Below w.heap.size w w' := by
  go_enter Try.func45, Try.ntmps45
  go_wp2_with (go_at_call 52; refine (in_nil _ _ _).mono ?_; rintro e w' ⟨rfl, rfl⟩)
  go_ret
  exact ⟨rfl, (Below.refl _ _).alloc (Nat.le_refl _) _⟩

set_option maxRecDepth 100000 in
set_option maxHeartbeats 400000 in
theorem size_some (gb n m : Nat) (w : World) (c0 : w.cell? ⟨gb, 0, none⟩ = some (.int .i64 n)) (c1 : w.cell? ⟨gb, 1, none⟩ = some (.int .i64 m)) :
    Calls Try.prog 31 #[.pointer (some ⟨gb, 0, none⟩)] w fun e w' => e = .returned (.tuple #[.int .i64 n, .int .i64 m]) ∧ Below w.heap.size w w' := by
  go_enter Try.func31, Try.ntmps31
  go_wp2
  go_quiet (fail)
  go_wp2
  go_ret2
  exact ⟨rfl, below_drewN (Below.refl _ _) _⟩

set_option maxHeartbeats 400000 in
theorem size_nil (w : World) :
    Calls Try.prog 31 #[.pointer none] w fun e w' => e = .returned (.tuple #[.int .i64 0, .int .i64 0]) ∧ w = w' := by
  go_enter Try.func31, Try.ntmps31
  go_wp2
  go_ret2
  exact ⟨rfl, rfl⟩
end Go.Proofs.Ytokenlecnbploaa
