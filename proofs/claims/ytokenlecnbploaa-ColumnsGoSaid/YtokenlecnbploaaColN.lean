/- The walk of ColumnsGo. -/
import Derived.Test.YtokenlecnbploaaColM
namespace Go.Proofs.Ytokenlecnbploaa
open Go.RowKit

def goOk (rows n p way : Int) : Prop := 1 ≤ rows ∧ 1 ≤ n ∧ n ≤ 65536 ∧ 0 ≤ p ∧ p < n ∧ 0 ≤ way ∧ way ≤ 3
instance (rows n p way : Int) : Decidable (goOk rows n p way) := by unfold goOk; exact inferInstance
def goZ (rows n p way : Int) : Int × Bool := if goOk rows n p way then (((goN rows.toNat n.toNat p.toNat way.toNat : Nat) : Int), true) else (0, false)

theorem goZ_calls (rows n p way : Int) (va : Option Addr) (vl vc : Nat) (w : World) (hr2 : rows ≤ 9223372036854775807) :
    Calls Try.prog 34 #[.agg #[.int .i64 rows, .slice va vl vc], .int .i64 n, .int .i64 p, .int .i64 way] w fun e w' => e = .returned (.tuple #[.int .i64 (goZ rows n p way).1, .bool (goZ rows n p way).2]) ∧ Below w.heap.size w w' := by
  by_cases h : goOk rows n p way
  · have e : goZ rows n p way = (((goN rows.toNat n.toNat p.toNat way.toNat : Nat) : Int), true) := if_pos h
    rw [e]
    obtain ⟨h1, h2, h3, h4, h5, h6, h7⟩ := h
    have k := go_any rows.toNat n.toNat p.toNat way.toNat va vl vc w (by omega) (by omega) (by omega) (by omega) (by omega)
    rw [Int.toNat_of_nonneg (by omega), Int.toNat_of_nonneg (by omega), Int.toNat_of_nonneg (by omega), Int.toNat_of_nonneg (by omega)] at k
    exact k
  · have e : goZ rows n p way = (0, false) := if_neg h
    rw [e]
    unfold goOk at h
    by_cases hb : rows < 1 ∨ n < 1 ∨ 65536 < n ∨ p < 0 ∨ n ≤ p
    · exact go_bad rows n p way va vl vc w hb
    · have k := go_noway rows.toNat n.toNat p.toNat way va vl vc w (by omega) (by omega) (by omega) (by omega) (by omega)
      rw [Int.toNat_of_nonneg (by omega), Int.toNat_of_nonneg (by omega), Int.toNat_of_nonneg (by omega)] at k
      exact k

theorem refGoZ_calls (rows n p way : Int) (w : World) (hr2 : rows ≤ 9223372036854775807) :
    Calls Try.prog 35 #[.int .i64 rows, .int .i64 n, .int .i64 p, .int .i64 way] w fun e w' => e = .returned (.tuple #[.int .i64 (goZ rows n p way).1, .bool (goZ rows n p way).2]) ∧ Below w.heap.size w w' := by
  by_cases h : goOk rows n p way
  · have e : goZ rows n p way = (((goN rows.toNat n.toNat p.toNat way.toNat : Nat) : Int), true) := if_pos h
    rw [e]
    obtain ⟨h1, h2, h3, h4, h5, h6, h7⟩ := h
    have k := refGo_any rows.toNat n.toNat p.toNat way.toNat w (by omega) (by omega) (by omega) (by omega) (by omega)
    rw [Int.toNat_of_nonneg (by omega), Int.toNat_of_nonneg (by omega), Int.toNat_of_nonneg (by omega), Int.toNat_of_nonneg (by omega)] at k
    exact k
  · have e : goZ rows n p way = (0, false) := if_neg h
    rw [e]
    unfold goOk at h
    exact refGo_bad rows n p way w (by omega)

def backZ (way : Int) : Int := (backWay way.toNat : Nat)
theorem backZ0 : backZ 0 = 1 := rfl
theorem backZ1 : backZ 1 = 0 := rfl
theorem backZ2 : backZ 2 = 3 := rfl
theorem backZ3 : backZ 3 = 2 := rfl
theorem goZ_back {rows n p way : Int} (h : goOk rows n p way) : goZ rows n (goZ rows n p way).1 (backZ way) = (p, true) := by
  have e : goZ rows n p way = (((goN rows.toNat n.toNat p.toNat way.toNat : Nat) : Int), true) := if_pos h
  rw [e]
  obtain ⟨h1, h2, h3, h4, h5, h6, h7⟩ := h
  have hlt := goN_lt (rows := rows.toNat) (n := n.toNat) (p := p.toNat) (by omega) (by omega) way.toNat
  have hb := goN_back (rows := rows.toNat) (n := n.toNat) (p := p.toNat) (by omega) (by omega) way.toNat (by omega)
  have hw : backWay way.toNat ≤ 3 := by unfold backWay; split <;> omega
  have hok : goOk rows n ((goN rows.toNat n.toNat p.toNat way.toNat : Nat) : Int) (backZ way) := ⟨h1, h2, h3, by omega, by omega, by unfold backZ; omega, by unfold backZ; omega⟩
  show (if goOk rows n ((goN rows.toNat n.toNat p.toNat way.toNat : Nat) : Int) (backZ way) then _ else _) = _
  rw [if_pos hok]
  unfold backZ
  rw [Int.toNat_natCast, Int.toNat_natCast, hb, Int.toNat_of_nonneg h4]

set_option maxRecDepth 100000 in
set_option maxHeartbeats 1000000 in
theorem columnsGo_any (rows n p way : Int) (w : World) (hr2 : rows ≤ 9223372036854775807) :
    Calls Try.prog 9 #[.int .i64 rows, .int .i64 n, .int .i64 p, .int .i64 way] w fun e w' => e = .returned (.bool true) ∧ Below w.heap.size w w' := by
  by_cases hn : 300 < n
  · skip
    by_cases hok : goOk rows 300 p way
    · have hb := goZ_back hok
      have he : (goZ rows 300 p way).2 = true := by unfold goZ; rw [if_pos hok]
      obtain ⟨_, _, _, _, _, hw1, hw2⟩ := hok
      generalize hg : goZ rows 300 p way = g at *
      obtain ⟨a, ok⟩ := g
      have he' : ok = true := he
      subst he'
      have HG := Lib.hid hg
      have HB := Lib.hid hb
      clear hg hb he
      rcases (show way = 0 ∨ way = 1 ∨ way = 2 ∨ way = 3 by omega) with rfl | rfl | rfl | rfl
      all_goals
        go_enter Try.func9, Try.ntmps9
        go_wp2_with fail
        refine (goZ_calls rows 300 p _ none 0 0 _ hr2).mono ?_
        rintro e w1 ⟨rfl, hB1⟩
        rw [HG.out]
        have c0 : w1.cell? ⟨w.heap.size, 0, none⟩ = some (.int .i64 rows) := (hB1.cell (p := ⟨w.heap.size, 0, none⟩) (by show w.heap.size < _; simp)).trans (by go_simp)
        have c1 : w1.cell? ⟨w.heap.size, 1, none⟩ = some (.slice none 0 0) := (hB1.cell (p := ⟨w.heap.size, 1, none⟩) (by show w.heap.size < _; simp)).trans (by go_simp)
        have hB1' : Below w.heap.size w w1 := ((Below.refl _ w).alloc (Nat.le_refl _) _).trans (hB1.mono (by simp))
        have hwl := World.block_lt_of_cell? w1 _ c0
        go_wp2_with fail
        refine (refGoZ_calls rows 300 p _ _ hr2).mono ?_
        rintro e w2 ⟨rfl, hB2⟩
        rw [HG.out]
        have d0 : w2.cell? ⟨w.heap.size, 0, none⟩ = some (.int .i64 rows) := (hB2.cell (p := ⟨w.heap.size, 0, none⟩) hwl).trans c0
        have d1 : w2.cell? ⟨w.heap.size, 1, none⟩ = some (.slice none 0 0) := (hB2.cell (p := ⟨w.heap.size, 1, none⟩) hwl).trans c1
        have hB2' := below_trans' hB1' hB2
        have hwl2 := World.block_lt_of_cell? w2 _ d0
        clear hB1 hB2 c0 c1
        go_wp2_with fail
        refine (goZ_calls rows 300 a _ none 0 0 _ hr2).mono ?_
        rintro e w3 ⟨rfl, hB3⟩
        have hz := HB.out
        first | rw [backZ0] at hz | rw [backZ1] at hz | rw [backZ2] at hz | rw [backZ3] at hz
        rw [hz]
        clear hz HG HB
        go_wp2_with (go_at_call 23; refine (awake45_any _).mono ?_; rintro e w4 ⟨rfl, hB4⟩)
        go_ret
        exact ⟨rfl, below_trans' (below_trans' (below_new hB2' _) hB3) hB4⟩
    · have hg : goZ rows 300 p way = (0, false) := if_neg hok
      have HG := Lib.hid hg
      clear hg hok
      go_enter Try.func9, Try.ntmps9
      go_wp2_with fail
      refine (goZ_calls rows 300 p _ none 0 0 _ hr2).mono ?_
      rintro e w1 ⟨rfl, hB1⟩
      rw [HG.out]
      have hB1' : Below w.heap.size w w1 := ((Below.refl _ w).alloc (Nat.le_refl _) _).trans (hB1.mono (by simp))
      clear hB1
      go_wp2_with fail
      refine (refGoZ_calls rows 300 p _ _ hr2).mono ?_
      rintro e w2 ⟨rfl, hB2⟩
      rw [HG.out]
      go_wp2_with (go_at_call 23; refine (awake45_any _).mono ?_; rintro e w4 ⟨rfl, hB4⟩)
      go_ret
      exact ⟨rfl, below_trans' (below_trans' hB1' hB2) hB4⟩
  · skip
    by_cases hok : goOk rows n p way
    · have hb := goZ_back hok
      have he : (goZ rows n p way).2 = true := by unfold goZ; rw [if_pos hok]
      obtain ⟨_, _, _, _, _, hw1, hw2⟩ := hok
      generalize hg : goZ rows n p way = g at *
      obtain ⟨a, ok⟩ := g
      have he' : ok = true := he
      subst he'
      have HG := Lib.hid hg
      have HB := Lib.hid hb
      clear hg hb he
      rcases (show way = 0 ∨ way = 1 ∨ way = 2 ∨ way = 3 by omega) with rfl | rfl | rfl | rfl
      all_goals
        go_enter Try.func9, Try.ntmps9
        go_wp2_with fail
        refine (goZ_calls rows n p _ none 0 0 _ hr2).mono ?_
        rintro e w1 ⟨rfl, hB1⟩
        rw [HG.out]
        have c0 : w1.cell? ⟨w.heap.size, 0, none⟩ = some (.int .i64 rows) := (hB1.cell (p := ⟨w.heap.size, 0, none⟩) (by show w.heap.size < _; simp)).trans (by go_simp)
        have c1 : w1.cell? ⟨w.heap.size, 1, none⟩ = some (.slice none 0 0) := (hB1.cell (p := ⟨w.heap.size, 1, none⟩) (by show w.heap.size < _; simp)).trans (by go_simp)
        have hB1' : Below w.heap.size w w1 := ((Below.refl _ w).alloc (Nat.le_refl _) _).trans (hB1.mono (by simp))
        have hwl := World.block_lt_of_cell? w1 _ c0
        go_wp2_with fail
        refine (refGoZ_calls rows n p _ _ hr2).mono ?_
        rintro e w2 ⟨rfl, hB2⟩
        rw [HG.out]
        have d0 : w2.cell? ⟨w.heap.size, 0, none⟩ = some (.int .i64 rows) := (hB2.cell (p := ⟨w.heap.size, 0, none⟩) hwl).trans c0
        have d1 : w2.cell? ⟨w.heap.size, 1, none⟩ = some (.slice none 0 0) := (hB2.cell (p := ⟨w.heap.size, 1, none⟩) hwl).trans c1
        have hB2' := below_trans' hB1' hB2
        have hwl2 := World.block_lt_of_cell? w2 _ d0
        clear hB1 hB2 c0 c1
        go_wp2_with fail
        refine (goZ_calls rows n a _ none 0 0 _ hr2).mono ?_
        rintro e w3 ⟨rfl, hB3⟩
        have hz := HB.out
        first | rw [backZ0] at hz | rw [backZ1] at hz | rw [backZ2] at hz | rw [backZ3] at hz
        rw [hz]
        clear hz HG HB
        go_wp2_with (go_at_call 23; refine (awake45_any _).mono ?_; rintro e w4 ⟨rfl, hB4⟩)
        go_ret
        exact ⟨rfl, below_trans' (below_trans' (below_new hB2' _) hB3) hB4⟩
    · have hg : goZ rows n p way = (0, false) := if_neg hok
      have HG := Lib.hid hg
      clear hg hok
      go_enter Try.func9, Try.ntmps9
      go_wp2_with fail
      refine (goZ_calls rows n p _ none 0 0 _ hr2).mono ?_
      rintro e w1 ⟨rfl, hB1⟩
      rw [HG.out]
      have hB1' : Below w.heap.size w w1 := ((Below.refl _ w).alloc (Nat.le_refl _) _).trans (hB1.mono (by simp))
      clear hB1
      go_wp2_with fail
      refine (refGoZ_calls rows n p _ _ hr2).mono ?_
      rintro e w2 ⟨rfl, hB2⟩
      rw [HG.out]
      go_wp2_with (go_at_call 23; refine (awake45_any _).mono ?_; rintro e w4 ⟨rfl, hB4⟩)
      go_ret
      exact ⟨rfl, below_trans' (below_trans' hB1' hB2) hB4⟩
end Go.Proofs.Ytokenlecnbploaa
