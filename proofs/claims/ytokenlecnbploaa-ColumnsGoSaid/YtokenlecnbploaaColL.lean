/- Plan.Go walked. -/
import Derived.Test.YtokenlecnbploaaColF
import Derived.Test.YtokenlecnbploaaColK
import Derived.IntWalk
namespace Go.Proofs.Ytokenlecnbploaa
open Go.RowKit

theorem ret_ib {a b : Int} {t : Bool} (h : a = b) : Ending.returned (.tuple #[.int .i64 a, .bool t]) = .returned (.tuple #[.int .i64 b, .bool t]) := by rw [h]

set_option maxRecDepth 100000 in
set_option maxHeartbeats 1000000 in
theorem go_left (rows n p : Nat) (va : Option Addr) (vl vc : Nat) (w : World) (hr : 0 < rows) (hr2 : rows ≤ 9223372036854775807) (hn : n ≤ 65536) (hp : p < n) :
    Calls Try.prog 34 #[.agg #[.int .i64 rows, .slice va vl vc], .int .i64 n, .int .i64 p, .int .i64 0] w fun e w' => e = .returned (.tuple #[.int .i64 (goN rows n p 0 : Nat), .bool true]) ∧ Below w.heap.size w w' := by
  obtain ⟨h1, h2⟩ := decomp p rows hr
  obtain ⟨k, hk, k1, k2, k3⟩ := last_row hr hp
  have hg : goN rows n p 0 = goN rows n p 0 := rfl
  conv at hg => rhs; simp only [goN]
  try rw [hk] at hg
  obtain ⟨r, hrr⟩ : ∃ r, r = p % rows := ⟨_, rfl⟩
  obtain ⟨f, hff⟩ : ∃ f, f = p / rows * rows := ⟨_, rfl⟩
  obtain ⟨m, hmm⟩ : ∃ m, m = k * rows := ⟨_, rfl⟩
  have hri : (p : Int) % (rows : Int) = (r : Int) := by rw [hrr]; rfl
  have hrt : (p : Int).tmod (rows : Int) = (r : Int) := by rw [hrr]; rfl
  have hkr : (n - 1 - r) / rows = k := by rw [hrr]; exact hk
  have hkd : ((n - 1 - r : Nat) : Int).tdiv (rows : Int) = (k : Int) := by rw [← hkr]; rfl
  have hnk : ((n - 1 - r : Nat) : Int) = (n : Int) - 1 - (r : Int) := by rw [hrr]; omega
  rw [hnk] at hkd
  have hmi : (k : Int) * (rows : Int) = (m : Int) := by rw [hmm]; simp
  rw [← hrr, ← hff] at h1
  try rw [← hrr] at hg
  try rw [← hff] at hg
  rw [← hrr] at h2 k1 k2
  rw [← hmm] at k1 k2
  try rw [← hmm] at hg
  have e1 := IntWalk.i64_in ((p : Int) - (r : Int)) (by omega)
  have hkm : k ≤ m := by rw [hmm]; exact Nat.le_mul_of_pos_right k hr
  have hfr : f + rows ≤ 9223372036854775807 := by
    rcases Nat.eq_zero_or_pos (p / rows) with hz | hz
    · rw [hff, hz]; omega
    · have := Nat.mul_le_mul_right rows hz
      omega
  clear hrr hff hk hkr hmm hnk k3
  have HG := Lib.hid hg
  clear hg
  by_cases hc : rows ≤ p
  · go_enter Try.func34, Try.ntmps34
    go_wp2
    go_quiet (fail)
    go_wp2
    go_ret2
    exact ⟨ret_ib (by rw [HG.out]; rw [if_pos hc]; try omega), below_drewN ((Below.alloc (Below.refl _ _) (Nat.le_refl _) _)) _⟩
  · have e2 := IntWalk.i64_in ((n : Int) - 1) (by omega)
    have e3 := IntWalk.i64_in ((n : Int) - 1 - (r : Int)) (by omega)
    have e4 := IntWalk.i64_in (k : Int) (by omega)
    have e5 := IntWalk.i64_in (m : Int) (by omega)
    have e6 := IntWalk.i64_in ((r : Int) + (m : Int)) (by omega)
    go_enter Try.func34, Try.ntmps34
    go_wp2
    go_quiet (fail)
    go_wp2
    go_quiet (fail)
    go_wp2
    go_ret2
    exact ⟨ret_ib (by rw [HG.out]; rw [if_neg hc]; try omega), below_drewN (below_drewN (Below.alloc (Below.refl _ _) (Nat.le_refl _) _) _) _⟩

set_option maxRecDepth 100000 in
set_option maxHeartbeats 1000000 in
theorem go_right (rows n p : Nat) (va : Option Addr) (vl vc : Nat) (w : World) (hr : 0 < rows) (hr2 : rows ≤ 9223372036854775807) (hn : n ≤ 65536) (hp : p < n) :
    Calls Try.prog 34 #[.agg #[.int .i64 rows, .slice va vl vc], .int .i64 n, .int .i64 p, .int .i64 1] w fun e w' => e = .returned (.tuple #[.int .i64 (goN rows n p 1 : Nat), .bool true]) ∧ Below w.heap.size w w' := by
  obtain ⟨h1, h2⟩ := decomp p rows hr
  obtain ⟨k, hk, k1, k2, k3⟩ := last_row hr hp
  have hg : goN rows n p 1 = goN rows n p 1 := rfl
  conv at hg => rhs; simp only [goN]
  try rw [hk] at hg
  obtain ⟨r, hrr⟩ : ∃ r, r = p % rows := ⟨_, rfl⟩
  obtain ⟨f, hff⟩ : ∃ f, f = p / rows * rows := ⟨_, rfl⟩
  obtain ⟨m, hmm⟩ : ∃ m, m = k * rows := ⟨_, rfl⟩
  have hri : (p : Int) % (rows : Int) = (r : Int) := by rw [hrr]; rfl
  have hrt : (p : Int).tmod (rows : Int) = (r : Int) := by rw [hrr]; rfl
  have hkr : (n - 1 - r) / rows = k := by rw [hrr]; exact hk
  have hkd : ((n - 1 - r : Nat) : Int).tdiv (rows : Int) = (k : Int) := by rw [← hkr]; rfl
  have hnk : ((n - 1 - r : Nat) : Int) = (n : Int) - 1 - (r : Int) := by rw [hrr]; omega
  rw [hnk] at hkd
  have hmi : (k : Int) * (rows : Int) = (m : Int) := by rw [hmm]; simp
  rw [← hrr, ← hff] at h1
  try rw [← hrr] at hg
  try rw [← hff] at hg
  rw [← hrr] at h2 k1 k2
  rw [← hmm] at k1 k2
  try rw [← hmm] at hg
  have e1 := IntWalk.i64_in ((p : Int) - (r : Int)) (by omega)
  have hkm : k ≤ m := by rw [hmm]; exact Nat.le_mul_of_pos_right k hr
  have hfr : f + rows ≤ 9223372036854775807 := by
    rcases Nat.eq_zero_or_pos (p / rows) with hz | hz
    · rw [hff, hz]; omega
    · have := Nat.mul_le_mul_right rows hz
      omega
  clear hrr hff hk hkr hmm hnk k3
  have HG := Lib.hid hg
  clear hg
  by_cases hc : p + rows < n
  · have hc1 : (p : Int) < (n : Int) - (rows : Int) := by omega
    go_enter Try.func34, Try.ntmps34
    go_wp2
    go_quiet (fail)
    go_wp2
    go_ret2
    exact ⟨ret_ib (by rw [HG.out]; rw [if_pos hc]; try omega), below_drewN ((Below.alloc (Below.refl _ _) (Nat.le_refl _) _)) _⟩
  · have hc1 : ¬ (p : Int) < (n : Int) - (rows : Int) := by omega
    go_enter Try.func34, Try.ntmps34
    go_wp2
    go_quiet (fail)
    go_wp2
    go_ret2
    exact ⟨ret_ib (by rw [HG.out]; rw [if_neg hc]; try omega), below_drewN ((Below.alloc (Below.refl _ _) (Nat.le_refl _) _)) _⟩

set_option maxRecDepth 100000 in
set_option maxHeartbeats 1000000 in
theorem go_up (rows n p : Nat) (va : Option Addr) (vl vc : Nat) (w : World) (hr : 0 < rows) (hr2 : rows ≤ 9223372036854775807) (hn : n ≤ 65536) (hp : p < n) :
    Calls Try.prog 34 #[.agg #[.int .i64 rows, .slice va vl vc], .int .i64 n, .int .i64 p, .int .i64 2] w fun e w' => e = .returned (.tuple #[.int .i64 (goN rows n p 2 : Nat), .bool true]) ∧ Below w.heap.size w w' := by
  obtain ⟨h1, h2⟩ := decomp p rows hr
  obtain ⟨k, hk, k1, k2, k3⟩ := last_row hr hp
  have hg : goN rows n p 2 = goN rows n p 2 := rfl
  conv at hg => rhs; simp only [goN]
  try rw [hk] at hg
  obtain ⟨r, hrr⟩ : ∃ r, r = p % rows := ⟨_, rfl⟩
  obtain ⟨f, hff⟩ : ∃ f, f = p / rows * rows := ⟨_, rfl⟩
  obtain ⟨m, hmm⟩ : ∃ m, m = k * rows := ⟨_, rfl⟩
  have hri : (p : Int) % (rows : Int) = (r : Int) := by rw [hrr]; rfl
  have hrt : (p : Int).tmod (rows : Int) = (r : Int) := by rw [hrr]; rfl
  have hkr : (n - 1 - r) / rows = k := by rw [hrr]; exact hk
  have hkd : ((n - 1 - r : Nat) : Int).tdiv (rows : Int) = (k : Int) := by rw [← hkr]; rfl
  have hnk : ((n - 1 - r : Nat) : Int) = (n : Int) - 1 - (r : Int) := by rw [hrr]; omega
  rw [hnk] at hkd
  have hmi : (k : Int) * (rows : Int) = (m : Int) := by rw [hmm]; simp
  rw [← hrr, ← hff] at h1
  try rw [← hrr] at hg
  try rw [← hff] at hg
  rw [← hrr] at h2 k1 k2
  rw [← hmm] at k1 k2
  try rw [← hmm] at hg
  have e1 := IntWalk.i64_in ((p : Int) - (r : Int)) (by omega)
  have hkm : k ≤ m := by rw [hmm]; exact Nat.le_mul_of_pos_right k hr
  have hfr : f + rows ≤ 9223372036854775807 := by
    rcases Nat.eq_zero_or_pos (p / rows) with hz | hz
    · rw [hff, hz]; omega
    · have := Nat.mul_le_mul_right rows hz
      omega
  clear hrr hff hk hkr hmm hnk k3
  have HG := Lib.hid hg
  clear hg
  by_cases hc : 0 < r
  · have hc1 : (0 : Int) < (r : Int) := by omega
    go_enter Try.func34, Try.ntmps34
    go_wp2
    go_quiet (fail)
    go_wp2
    go_ret2
    exact ⟨ret_ib (by rw [HG.out]; rw [if_pos hc]; try omega), below_drewN ((Below.alloc (Below.refl _ _) (Nat.le_refl _) _)) _⟩
  · have hc1 : ¬ (0 : Int) < (r : Int) := by omega
    go_enter Try.func34, Try.ntmps34
    go_wp2
    go_quiet (fail)
    go_wp2
    all_goals
      go_ret2
      exact ⟨ret_ib (by rw [HG.out]; rw [if_neg hc]; omega), below_drewN ((Below.alloc (Below.refl _ _) (Nat.le_refl _) _)) _⟩

set_option maxRecDepth 100000 in
set_option maxHeartbeats 1000000 in
theorem go_down (rows n p : Nat) (va : Option Addr) (vl vc : Nat) (w : World) (hr : 0 < rows) (hr2 : rows ≤ 9223372036854775807) (hn : n ≤ 65536) (hp : p < n) :
    Calls Try.prog 34 #[.agg #[.int .i64 rows, .slice va vl vc], .int .i64 n, .int .i64 p, .int .i64 3] w fun e w' => e = .returned (.tuple #[.int .i64 (goN rows n p 3 : Nat), .bool true]) ∧ Below w.heap.size w w' := by
  obtain ⟨h1, h2⟩ := decomp p rows hr
  have hg : goN rows n p 3 = if p % rows + 1 < rows ∧ p + 1 < n then p + 1 else p / rows * rows := rfl
  obtain ⟨r, hrr⟩ : ∃ r, r = p % rows := ⟨_, rfl⟩
  obtain ⟨f, hff⟩ : ∃ f, f = p / rows * rows := ⟨_, rfl⟩
  have hri : (p : Int) % (rows : Int) = (r : Int) := by rw [hrr]; rfl
  have hrt : (p : Int).tmod (rows : Int) = (r : Int) := by rw [hrr]; rfl
  rw [← hrr, ← hff] at h1 hg
  rw [← hrr] at h2
  have e1 := IntWalk.i64_in ((p : Int) - (r : Int)) (by omega)
  clear hrr hff
  have HG := Lib.hid hg
  clear hg
  by_cases hc : r + 1 < rows
  · have hc1 : (r : Int) < (rows : Int) - 1 := by omega
    by_cases hd : p + 1 < n
    all_goals
      go_enter Try.func34, Try.ntmps34
      go_wp2
      go_quiet (fail)
      go_wp2
      go_ret2
    · exact ⟨ret_ib (by rw [HG.out, if_pos ⟨hc, hd⟩]; omega), below_drewN (Below.alloc (Below.refl _ _) (Nat.le_refl _) _) _⟩
    · exact ⟨ret_ib (by rw [HG.out, if_neg (fun h => hd h.2)]; omega), below_drewN (Below.alloc (Below.refl _ _) (Nat.le_refl _) _) _⟩
  · have hc1 : ¬ (r : Int) < (rows : Int) - 1 := by omega
    go_enter Try.func34, Try.ntmps34
    go_wp2
    go_quiet (fail)
    go_wp2
    go_ret2
    exact ⟨ret_ib (by rw [HG.out, if_neg (fun h => hc h.1)]; omega), below_drewN (Below.alloc (Below.refl _ _) (Nat.le_refl _) _) _⟩

set_option maxRecDepth 100000 in
set_option maxHeartbeats 1000000 in
/-- What is no place among words, or no way. -/
theorem go_bad (rows n p way : Int) (va : Option Addr) (vl vc : Nat) (w : World) (hb : rows < 1 ∨ n < 1 ∨ 65536 < n ∨ p < 0 ∨ n ≤ p) :
    Calls Try.prog 34 #[.agg #[.int .i64 rows, .slice va vl vc], .int .i64 n, .int .i64 p, .int .i64 way] w fun e w' => e = .returned (.tuple #[.int .i64 0, .bool false]) ∧ Below w.heap.size w w' := by
  have hb' : rows < 1 ∨ (1 ≤ rows ∧ n < 1) ∨ (1 ≤ rows ∧ 1 ≤ n ∧ 65536 < n) ∨ (1 ≤ rows ∧ 1 ≤ n ∧ n ≤ 65536 ∧ p < 0) ∨ (1 ≤ rows ∧ 1 ≤ n ∧ n ≤ 65536 ∧ 0 ≤ p ∧ n ≤ p) := by omega
  clear hb
  rcases hb' with h1 | ⟨h1, h2⟩ | ⟨h1, h2, h3⟩ | ⟨h1, h2, h3, h4⟩ | ⟨h1, h2, h3, h4, h5⟩
  all_goals
    go_enter Try.func34, Try.ntmps34
    go_wp2
    go_ret2
    exact ⟨rfl, Below.alloc (Below.refl _ _) (Nat.le_refl _) _⟩

set_option maxRecDepth 100000 in
set_option maxHeartbeats 1000000 in
theorem go_noway (rows n p : Nat) (way : Int) (va : Option Addr) (vl vc : Nat) (w : World) (hr : 0 < rows) (hr2 : rows ≤ 9223372036854775807) (hn : n ≤ 65536) (hp : p < n) (hw : way < 0 ∨ 3 < way) :
    Calls Try.prog 34 #[.agg #[.int .i64 rows, .slice va vl vc], .int .i64 n, .int .i64 p, .int .i64 way] w fun e w' => e = .returned (.tuple #[.int .i64 0, .bool false]) ∧ Below w.heap.size w w' := by
  obtain ⟨h1, h2⟩ := decomp p rows hr
  obtain ⟨r, hrr⟩ : ∃ r, r = p % rows := ⟨_, rfl⟩
  have hri : (p : Int) % (rows : Int) = (r : Int) := by rw [hrr]; rfl
  have hrt : (p : Int).tmod (rows : Int) = (r : Int) := by rw [hrr]; rfl
  rw [← hrr] at h1 h2
  have e1 := IntWalk.i64_in ((p : Int) - (r : Int)) (by omega)
  clear hrr
  have w0 : (way == 0) = false := by simp; omega
  have w1 : (way == 1) = false := by simp; omega
  have w2 : (way == 2) = false := by simp; omega
  have w3 : (way == 3) = false := by simp; omega
  go_enter Try.func34, Try.ntmps34
  go_wp2
  go_quiet (fail)
  go_wp2
  go_ret2
  exact ⟨rfl, below_drewN (Below.alloc (Below.refl _ _) (Nat.le_refl _) _) _⟩

/-- Plan.Go, any way. -/
theorem go_any (rows n p way : Nat) (va : Option Addr) (vl vc : Nat) (w : World) (hr : 0 < rows) (hr2 : rows ≤ 9223372036854775807) (hn : n ≤ 65536) (hp : p < n) (hw : way < 4) :
    Calls Try.prog 34 #[.agg #[.int .i64 rows, .slice va vl vc], .int .i64 n, .int .i64 p, .int .i64 way] w fun e w' => e = .returned (.tuple #[.int .i64 (goN rows n p way : Nat), .bool true]) ∧ Below w.heap.size w w' := by
  rcases (show way = 0 ∨ way = 1 ∨ way = 2 ∨ way = 3 by omega) with rfl | rfl | rfl | rfl
  · exact go_left rows n p va vl vc w hr hr2 hn hp
  · exact go_right rows n p va vl vc w hr hr2 hn hp
  · exact go_up rows n p va vl vc w hr hr2 hn hp
  · exact go_down rows n p va vl vc w hr hr2 hn hp
end Go.Proofs.Ytokenlecnbploaa
