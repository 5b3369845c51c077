/- The walk of GridSizes. -/
import Derived.Test.YtokenlecnbploaaGridT
namespace Go.Proofs.Ytokenlecnbploaa
open Go.RowKit Go.ChangeShapes Go.WideShapes Go.ChangeAt

set_option maxRecDepth 100000 in
theorem same_nil_nil (w : World) : Calls Try.prog 40 #[.pointer none, .pointer none] w fun e w' => e = .returned (.bool true) ∧ w = w' := by
  go_enter Try.func40, Try.ntmps40
  go_wp2
  go_ret
  exact ⟨rfl, rfl⟩
set_option maxRecDepth 100000 in
theorem same_some_nil (a : Addr) (w : World) : Calls Try.prog 40 #[.pointer (some a), .pointer none] w fun e w' => e = .returned (.bool false) ∧ w = w' := by
  go_enter Try.func40, Try.ntmps40
  go_wp2
  go_ret
  exact ⟨rfl, rfl⟩
set_option maxRecDepth 100000 in
theorem copy_nil (w : World) : Calls Try.prog 39 #[.pointer none] w fun e w' => e = .returned (.pointer none) ∧ w = w' := by
  go_enter Try.func39, Try.ntmps39
  go_wp2
  go_ret
  exact ⟨rfl, rfl⟩
set_option maxRecDepth 100000 in
theorem row_nil (r : Int) (w : World) : Calls Try.prog 44 #[.pointer none, .int .i64 r] w fun e w' => e = .returned (.slice none 0 0) ∧ w = w' := by
  go_enter Try.func44, Try.ntmps44
  go_wp2_with (go_at_call 52; refine (in_nil _ _ _).mono ?_; rintro e w' ⟨rfl, rfl⟩)
  go_ret
  exact ⟨rfl, rfl⟩

/-- the row's number that counts -/
def rowsOf (rows cols : Int) : Int := if 40 < rows ∧ rows ≤ 500 ∧ 40 < cols then 40 else rows

set_option maxRecDepth 100000 in
set_option maxHeartbeats 1000000 in
theorem gridSizes_none (rows cols r c : Int) (w : World) (h : ¬ (1 ≤ rows ∧ rows ≤ 500 ∧ 2 ≤ cols ∧ cols ≤ 1000)) :
    Calls Try.prog 13 #[.int .i64 rows, .int .i64 cols, .int .i64 r, .int .i64 c] w fun e w' => e = .returned (.bool true) ∧ Below w.heap.size w w' := by
  have h' : rows < 1 ∨ (40 < rows ∧ ¬ rows ≤ 500) ∨ (1 ≤ rows ∧ rows ≤ 40 ∧ cols < 2) ∨ (40 < rows ∧ rows ≤ 500 ∧ cols ≤ 40 ∧ cols < 2) ∨ (1 ≤ rows ∧ rows ≤ 40 ∧ 40 < cols ∧ ¬ cols ≤ 1000) ∨ (40 < rows ∧ rows ≤ 500 ∧ 40 < cols ∧ ¬ cols ≤ 1000) := by omega
  clear h
  have hfin : ∀ w1, Below w.heap.size w w1 → Calls Try.prog 33 #[] w1 fun e w' => e = .returned (.bool true) ∧ Below w.heap.size w w' := by
    intro w1 h1
    refine (awake27_any w1).mono ?_
    rintro e w' ⟨rfl, hB⟩
    exact ⟨rfl, below_trans' h1 hB⟩
  have HF := Lib.hid hfin
  clear hfin
  rcases h' with h1 | ⟨h1, h2⟩ | ⟨h1, h2, h3⟩ | ⟨h1, h2, h3, h4⟩ | ⟨h1, h2, h3, h4⟩ | ⟨h1, h2, h3, h4⟩
  rotate_left 4
  all_goals try have q4 : decide (cols ≤ 1000) = false := decide_eq_false h4
  all_goals
    go_enter Try.func13, Try.ntmps13
    go_wp2_with fail
    refine (new_none _ _ w (by omega)).mono ?_
    rintro e w1 ⟨rfl, rfl⟩
    go_wp2_with fail
    refine (size_nil w).mono ?_
    rintro e w1 ⟨rfl, rfl⟩
    go_wp2_with fail
    refine (erase_nil _ _ w).mono ?_
    rintro e w1 ⟨rfl, rfl⟩
    go_wp2_with fail
    refine (clear_nil w).mono ?_
    rintro e w1 ⟨rfl, rfl⟩
    go_wp2_with fail
    refine (at_nil _ _ w).mono ?_
    rintro e w1 ⟨rfl, hB1⟩
    go_wp2_with fail
    refine (row_nil _ w1).mono ?_
    rintro e w2 ⟨rfl, rfl⟩
    go_wp2_with fail
    refine (put_nil _ _ _ _ w1).mono ?_
    rintro e w2 ⟨rfl, hB2⟩
    go_wp2_with fail
    refine (same_nil_nil w2).mono ?_
    rintro e w3 ⟨rfl, rfl⟩
    go_wp2_with fail
    refine (copy_nil w2).mono ?_
    rintro e w3 ⟨rfl, rfl⟩
    go_wp2_with fail
    refine (HF.out w2 (below_trans' hB1 hB2)).mono ?_
    rintro e w3 ⟨rfl, hB3⟩
    go_wp2
    go_ret
    exact ⟨rfl, hB3⟩

theorem blank_at (gb lb m cap n : Nat) (r c : Int) (w : World) (hG : GridG w gb lb m cap (List.replicate n (List.replicate m blankC))) (h : 0 ≤ r ∧ r < n ∧ 0 ≤ c ∧ c < m) :
    Calls Try.prog 32 #[.pointer (some ⟨gb, 0, none⟩), .int .i64 r, .int .i64 c] w fun e w' => e = .returned (.agg #[.string ⟨#[32]⟩, .int .i64 1]) ∧ Below w.heap.size w w' := by
  have hx : cellAt (rowAt (List.replicate n (List.replicate m blankC)) r.toNat) c.toNat = blankC := by
    have : rowAt (List.replicate n (List.replicate m blankC)) r.toNat = List.replicate m blankC := by
      unfold rowAt; rw [List.getD_eq_getElem?_getD, List.getElem?_replicate, if_pos (by omega)]; rfl
    rw [this]
    exact cellAt_of (by rw [List.getElem?_replicate, if_pos (by omega)])
  have := at_any gb lb m cap _ r c w hG h.1 (by rw [List.length_replicate]; exact h.2.1) h.2.2.1 h.2.2.2
  rw [hx] at this
  exact this

theorem inside4 (n m r c : Int) : (0 ≤ r ∧ r < n ∧ 0 ≤ c ∧ c < m) ∨ r < 0 ∨ (0 ≤ r ∧ ¬ r < n) ∨ (0 ≤ r ∧ r < n ∧ c < 0) ∨ (0 ≤ r ∧ r < n ∧ 0 ≤ c ∧ ¬ c < m) := by omega

set_option maxRecDepth 100000 in
set_option maxHeartbeats 4000000 in
theorem gridSizes_in (rows n cols : Nat) (r c : Int) (w : World) (h1 : 1 ≤ n) (h2 : n ≤ 500) (h3 : 2 ≤ cols) (h4 : cols ≤ 1000) (hc : (rows ≤ 40 ∧ n = rows) ∨ (40 < rows ∧ rows ≤ 500 ∧ cols ≤ 40 ∧ n = rows) ∨ (40 < rows ∧ rows ≤ 500 ∧ 40 < cols ∧ n = 40)) (hi : 0 ≤ r ∧ r < n ∧ 0 ≤ c ∧ c < cols) :
    Calls Try.prog 13 #[.int .i64 rows, .int .i64 cols, .int .i64 r, .int .i64 c] w fun e w' => e = .returned (.bool true) ∧ Below w.heap.size w w' := by
  have hfin : ∀ w1, Below w.heap.size w w1 → Calls Try.prog 33 #[] w1 fun e w' => e = .returned (.bool true) ∧ Below w.heap.size w w' := by
    intro w1 h1
    refine (awake27_any w1).mono ?_
    rintro e w' ⟨rfl, hB⟩
    exact ⟨rfl, below_trans' h1 hB⟩
  have HF := Lib.hid hfin
  have k1 : (1 : Int) ≤ (n : Int) := by omega
  have k2 : (n : Int) ≤ 500 := by omega
  have k3 : (2 : Int) ≤ (cols : Int) := by omega
  have k4 : (cols : Int) ≤ 1000 := by omega
  have HI := Lib.hid hi
  clear hfin
  obtain ⟨i1, i2, i3, i4⟩ := hi
  rcases hc with ⟨hc, rfl⟩ | ⟨hc, hd, he, rfl⟩ | ⟨hc, hd, he, rfl⟩
  all_goals
    have k5 := hc
    go_enter Try.func13, Try.ntmps13
    go_wp2_with fail
    refine (new_some _ cols w h1 h2 h3 h4).mono ?_
    rintro e w1 ⟨gb, lb, rfl, hgb, hlb, hB1, hG1⟩
    have c0 := hG1.grid.c0
    have c1 := hG1.grid.c1
    rw [List.length_replicate] at c0
    have HG := Lib.hid hG1
    have HB := Lib.hid hB1
    have HC0 := Lib.hid c0
    have HC1 := Lib.hid c1
    clear hG1 hB1 c0 c1
    go_wp2_with fail
    refine (size_some gb _ cols w1 HC0.out HC1.out).mono ?_
    rintro e w2 ⟨rfl, hB2⟩
    have hG2 := HG.out.kept (by rw [List.length_replicate]; omega) (by omega) (P := fun _ => False) (.of_below hB2) id id
    have HG2 := Lib.hid hG2
    have HB2 := Lib.hid (below_trans' HB.out hB2)
    have HC20 := Lib.hid (cell_later hB2 HC0.out)
    have HC21 := Lib.hid (cell_later hB2 HC1.out)
    clear hG2 hB2
    go_wp2_with fail
    refine (blank_at gb lb cols _ _ r c w2 HG2.out HI.out).mono ?_
    rintro e w3 ⟨rfl, hB3⟩
    have HB3 := Lib.hid (below_trans' HB2.out hB3)
    clear hB3
    go_wp2_with fail
    refine (blank_any w3).mono ?_
    rintro e w4 ⟨rfl, rfl⟩
    go_wp2_with fail
    refine (same_some_nil _ _).mono ?_
    rintro e w4 ⟨rfl, rfl⟩
    go_wp2_with fail
    refine (HF.out _ (below_new HB3.out _)).mono ?_
    rintro e w5 ⟨rfl, hB5⟩
    go_wp2
    go_ret
    exact ⟨rfl, hB5⟩

set_option maxRecDepth 100000 in
set_option maxHeartbeats 4000000 in
theorem gridSizes_out (rows n cols : Nat) (r c : Int) (w : World) (h1 : 1 ≤ n) (h2 : n ≤ 500) (h3 : 2 ≤ cols) (h4 : cols ≤ 1000) (hc : (rows ≤ 40 ∧ n = rows) ∨ (40 < rows ∧ rows ≤ 500 ∧ cols ≤ 40 ∧ n = rows) ∨ (40 < rows ∧ rows ≤ 500 ∧ 40 < cols ∧ n = 40)) (hi : r < 0 ∨ (0 ≤ r ∧ ¬ r < n) ∨ (0 ≤ r ∧ r < n ∧ c < 0) ∨ (0 ≤ r ∧ r < n ∧ 0 ≤ c ∧ ¬ c < cols)) :
    Calls Try.prog 13 #[.int .i64 rows, .int .i64 cols, .int .i64 r, .int .i64 c] w fun e w' => e = .returned (.bool true) ∧ Below w.heap.size w w' := by
  have hfin : ∀ w1, Below w.heap.size w w1 → Calls Try.prog 33 #[] w1 fun e w' => e = .returned (.bool true) ∧ Below w.heap.size w w' := by
    intro w1 h1
    refine (awake27_any w1).mono ?_
    rintro e w' ⟨rfl, hB⟩
    exact ⟨rfl, below_trans' h1 hB⟩
  have HF := Lib.hid hfin
  have k1 : (1 : Int) ≤ (n : Int) := by omega
  have k2 : (n : Int) ≤ 500 := by omega
  have k3 : (2 : Int) ≤ (cols : Int) := by omega
  have k4 : (cols : Int) ≤ 1000 := by omega
  have HI := Lib.hid hi
  clear hfin
  rcases hi with i1 | ⟨i1, i2⟩ | ⟨i1, i2, i3⟩ | ⟨i1, i2, i3, i4⟩
  rotate_left 3
  have q4 : decide (c < (cols : Int)) = false := decide_eq_false i4
  all_goals rcases hc with ⟨hc, rfl⟩ | ⟨hc, hd, he, rfl⟩ | ⟨hc, hd, he, rfl⟩
  all_goals
    have k5 := hc
    go_enter Try.func13, Try.ntmps13
    go_wp2_with fail
    refine (new_some _ cols w h1 h2 h3 h4).mono ?_
    rintro e w1 ⟨gb, lb, rfl, hgb, hlb, hB1, hG1⟩
    have c0 := hG1.grid.c0
    have c1 := hG1.grid.c1
    rw [List.length_replicate] at c0
    have HG := Lib.hid hG1
    have HB := Lib.hid hB1
    have HC0 := Lib.hid c0
    have HC1 := Lib.hid c1
    clear hG1 hB1 c0 c1
    go_wp2_with fail
    refine (size_some gb _ cols w1 HC0.out HC1.out).mono ?_
    rintro e w2 ⟨rfl, hB2⟩
    have hG2 := HG.out.kept (by rw [List.length_replicate]; omega) (by omega) (P := fun _ => False) (.of_below hB2) id id
    have HG2 := Lib.hid hG2
    have HB2 := Lib.hid (below_trans' HB.out hB2)
    have HC20 := Lib.hid (cell_later hB2 HC0.out)
    have HC21 := Lib.hid (cell_later hB2 HC1.out)
    clear hG2 hB2
    go_wp2_with fail
    refine (at_none gb _ cols r c w2 HC20.out HC21.out (by have := HI.out; omega)).mono ?_
    rintro e w3 ⟨rfl, hB3⟩
    have HB3 := Lib.hid (below_trans' HB2.out hB3)
    clear hB3
    go_wp2_with fail
    refine (blank_any w3).mono ?_
    rintro e w4 ⟨rfl, rfl⟩
    go_wp2_with fail
    refine (same_some_nil _ _).mono ?_
    rintro e w4 ⟨rfl, rfl⟩
    go_wp2_with fail
    refine (HF.out _ (below_new HB3.out _)).mono ?_
    rintro e w5 ⟨rfl, hB5⟩
    go_wp2
    go_ret
    exact ⟨rfl, hB5⟩

theorem gridSizes_any (rows cols r c : Int) (w : World) :
    Calls Try.prog 13 #[.int .i64 rows, .int .i64 cols, .int .i64 r, .int .i64 c] w fun e w' => e = .returned (.bool true) ∧ Below w.heap.size w w' := by
  by_cases h : 1 ≤ rows ∧ rows ≤ 500 ∧ 2 ≤ cols ∧ cols ≤ 1000
  · obtain ⟨p, hp⟩ : ∃ p : Nat, rows = (p : Int) := ⟨rows.toNat, by omega⟩
    obtain ⟨q, hq⟩ : ∃ q : Nat, cols = (q : Int) := ⟨cols.toNat, by omega⟩
    subst hp hq
    obtain ⟨n, h1, h2, hc⟩ : ∃ n : Nat, 1 ≤ n ∧ n ≤ 500 ∧ ((p ≤ 40 ∧ n = p) ∨ (40 < p ∧ p ≤ 500 ∧ q ≤ 40 ∧ n = p) ∨ (40 < p ∧ p ≤ 500 ∧ 40 < q ∧ n = 40)) := by
      by_cases h5 : 40 < p ∧ 40 < q
      · exact ⟨40, by omega, by omega, by omega⟩
      · exact ⟨p, by omega, by omega, by omega⟩
    by_cases hi : 0 ≤ r ∧ r < n ∧ 0 ≤ c ∧ c < q
    · exact gridSizes_in p n q r c w h1 h2 (by omega) (by omega) hc hi
    · exact gridSizes_out p n q r c w h1 h2 (by omega) (by omega) hc (by omega)
  · exact gridSizes_none rows cols r c w h
end Go.Proofs.Ytokenlecnbploaa
