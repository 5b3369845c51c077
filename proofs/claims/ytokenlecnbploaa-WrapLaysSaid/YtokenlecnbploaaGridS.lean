/- The walk of GridPlays. -/
import Derived.Test.YtokenlecnbploaaGridR
import Derived.Test.YtokenlecnbploaaGridN
namespace Go.Proofs.Ytokenlecnbploaa
open Go.RowKit

theorem doB_self (n m : Nat) (d : Dd) : doB n m n m d = true := by unfold doB; split <;> simp

theorem doneSame {gb lb m cap B ob ocap n : Nat} {rb rc : Nat → Nat} {G : List (List Gl)} {d : Dd} {wr : World} (hG : GridG wr gb lb m cap G) (hH : RefAt wr B ob rb rc m G) (hn : 0 < n) (hm : 0 < m) (hGn : G.length = n) (ha : Apart gb lb ob n rb) :
    Calls Try.prog 30 #[.pointer (some ⟨gb, 0, none⟩), .slice (some ⟨ob, 0, none⟩) n ocap, .agg #[.int .i64 d.k, .int .i64 d.r, .int .i64 d.c, .string d.x.1, .int .i64 d.x.2]] wr fun e w' =>
      e = .returned (.bool true) ∧ Done wr w' gb lb m cap B ob m rb rc n (doG G m d) (doG G m d) := by
  have h := does_any gb lb m cap B ob m ocap rb rc G G d wr hG hH (by omega) hm (by omega) (by rw [hGn]; exact ha)
  rw [hGn, doB_self] at h
  exact h

theorem same27_n {gb lb m cap B ob ocap n : Nat} {rb rc : Nat → Nat} {G : List (List Gl)} {wr : World} (hG : GridG wr gb lb m cap G) (hH : RefAt wr B ob rb rc m G) (hn : 0 < n) (hm : 0 < m) (hGn : G.length = n) :
    Calls Try.prog 36 #[.pointer (some ⟨gb, 0, none⟩), .slice (some ⟨ob, 0, none⟩) n ocap] wr fun e w' => e = .returned (.bool true) ∧ Below wr.heap.size wr w' ∧ GridG w' gb lb m cap G ∧ RefAt w' B ob rb rc m G := by
  subst hGn
  refine (same27_yes gb lb m cap B ob ocap rb rc G wr hG hH hn hm).mono ?_
  rintro e w' ⟨rfl, hB⟩
  exact ⟨rfl, hB, hG.kept hn hm (P := fun _ => False) (.of_below hB) id id, hH.kept hn (P := fun _ => False) (.of_below hB) id fun _ _ => id⟩

theorem apart_new {w w1 w2 : World} {gb lb ob n m cap : Nat} {rb rc : Nat → Nat} (hn : 0 < n) (hm : 0 < m) (hG1 : GridG w1 gb lb m cap (List.replicate n (List.replicate m blankC))) (hH2 : RefAt w2 w1.heap.size ob rb rc m (List.replicate n (List.replicate m blankC)))
    (hlb : w.heap.size ≤ lb) (hB1 : Below w.heap.size w w1) (hB2 : Below w1.heap.size w1 w2) : Apart gb lb ob n rb ∧ GridG w2 gb lb m cap (List.replicate n (List.replicate m blankC)) ∧ Below w.heap.size w w2 ∧ (∀ j, j = lb ∨ Rows n rb j → w.heap.size ≤ j) := by
  have hl1 : 0 < (List.replicate n (List.replicate m blankC)).length := by rw [List.length_replicate]; omega
  have hglt := hG1.grid.glt
  have hllt := hG1.llt hl1 (by omega)
  refine ⟨⟨fun e => by have := hH2.hob; omega, fun e => by have := hH2.hob; omega, fun i hi e => by have := hH2.base i (by rw [List.length_replicate]; exact hi); omega, fun i hi e => by have := hH2.base i (by rw [List.length_replicate]; exact hi); omega⟩, ?_, ?_, ?_⟩
  · exact hG1.kept hl1 (by omega) (P := fun _ => False) (.of_below hB2) id id
  · exact below_trans' hB1 hB2
  · rintro j (rfl | ⟨i, hi, rfl⟩)
    · exact hlb
    · have := hH2.base i (by rw [List.length_replicate]; exact hi)
      have := hB1.size
      omega

set_option maxRecDepth 100000 in
set_option maxHeartbeats 1000000 in
theorem gridPlays_some (rows cols : Int) (v : Value) (l : List Dd) (w : World) (hR : Rs w.heap.size w denc 5 v l) (h1 : 1 ≤ rows % 8) (h2 : 2 ≤ cols % 16) :
    Calls Try.prog 10 #[.int .i64 rows, .int .i64 cols, v] w fun e w' => e = .returned (.bool true) ∧ Below w.heap.size w w' := by
  obtain ⟨a, cap0, rfl, hcap, hmax, hxl, hcells⟩ := hR
  unfold maxLen at hmax
  obtain ⟨n, hn⟩ : ∃ n : Nat, rows % 8 = (n : Int) := ⟨(rows % 8).toNat, by omega⟩
  obtain ⟨m, hm⟩ : ∃ m : Nat, cols % 16 = (m : Int) := ⟨(cols % 16).toNat, by omega⟩
  have n1 : 1 ≤ n := by omega
  have n2 : n ≤ 8 := by omega
  have m1 : 2 ≤ m := by omega
  have m2 : m ≤ 16 := by omega
  have hb3 := and7 rows
  have hb7 := and15 cols
  have n0 : ((n : Int) == 0) = false := by simp; omega
  have HC := Lib.hid hcells
  clear hxl hcells h1 h2
  go_enter Try.func10, Try.ntmps10
  go_wp2_with fail
  refine (new_some n m w n1 (by omega) m1 (by omega)).mono ?_
  rintro e w1 ⟨gb, lb, rfl, hgb, hlb, hB1, hG1⟩
  go_wp2_with fail
  refine (refNew_some n m w1 n1 (by omega) m1 (by omega)).mono ?_
  rintro e w2 ⟨ob, ocap, rb, rc, rfl, hB2, hH2⟩
  obtain ⟨ha, hG2, hB02, hbase⟩ := apart_new (by omega) (by omega) hG1 hH2 hlb hB1 hB2
  have HA := Lib.hid ha
  have HBs := Lib.hid hbase
  have HGx := Lib.hid hG2
  have HHx := Lib.hid hH2
  have HB02 := Lib.hid hB02
  clear hG1 hH2 hG2 hB1 hB2 hB02 ha hbase hb3 hb7
  go_wp2_with fail
  go_loopw [9] (fun i wr => ∃ k G, k ≤ l.length ∧ k ≤ 40 ∧ i = .int .i64 ((k : Nat) : Int) ∧ Below w.heap.size w wr ∧ GridG wr gb lb m (n * m) G ∧ RefAt wr w1.heap.size ob rb rc m G ∧ G.length = n) (fun i _ => l.length - (intOf i).toNat)
  case atStart => exact ⟨0, _, Nat.zero_le _, by omega, rfl, HB02.out, HGx.out, HHx.out, by simp⟩
  case round =>
    obtain ⟨k, G, hk1, hk2, rfl, hB, hG, hH, hGn⟩ := hrel
    by_cases hlt : k < l.length ∧ k < 40
    · obtain ⟨hlt1, hlt2⟩ := hlt
      obtain ⟨d, hd⟩ : ∃ d, l[k]? = some d := ⟨l[k], by simp [hlt1]⟩
      obtain ⟨b, off, rfl, hbl, hcq⟩ := HC.out (by omega)
      have d0 : wr.cell? ⟨b, off + k * 5, none⟩ = some (.int .i64 d.k) := cell_later hB (flat_cell denc_len hcq hd 0 rfl)
      have q40 : decide ((k : Int) < 40) = true := decide_eq_true (by omega)
      have d1 : wr.cell? ⟨b, off + k * 5 + 1, none⟩ = some (.int .i64 d.r) := cell_later hB (flat_cell denc_len hcq hd 1 rfl)
      have d2 : wr.cell? ⟨b, off + k * 5 + 2, none⟩ = some (.int .i64 d.c) := cell_later hB (flat_cell denc_len hcq hd 2 rfl)
      have d3 : wr.cell? ⟨b, off + k * 5 + 3, none⟩ = some (.string d.x.1) := cell_later hB (flat_cell denc_len hcq hd 3 rfl)
      have d4 : wr.cell? ⟨b, off + k * 5 + 4, none⟩ = some (.int .i64 d.x.2) := cell_later hB (flat_cell denc_len hcq hd 4 rfl)
      have HX := Lib.hid (doneSame (d := d) (ocap := ocap) hG hH (by omega) (by omega) hGn HA.out)
      have HY := Lib.hid ((doG_len G m d).trans hGn)
      have hBs := hB.size
      clear hG hH hGn hcq hd
      go_wp2_with fail
      refine HX.out.mono ?_
      rintro e w3 ⟨rfl, hD⟩
      obtain ⟨hK, hG3, hH3⟩ := hD
      have hB3 : Below w.heap.size w w3 := hB.trans (hK.below hBs HBs.out)
      have HS := Lib.hid (same27_n (ocap := ocap) hG3 hH3 (by omega) (by omega) HY.out)
      clear hG3 hH3 hK d0 d1 d2 d3 d4
      go_wp2_with fail
      refine HS.out.mono ?_
      rintro e w4 ⟨rfl, hB4, hG4, hH4⟩
      have HB4 := Lib.hid (below_trans' hB3 hB4)
      have HG4 := Lib.hid hG4
      have HH4 := Lib.hid hH4
      clear hG4 hH4 hB4 hB3
      go_wp2
      go_roundw
      case rel => exact ⟨k + 1, _, by omega, by omega, by go_num, HB4.out, HG4.out, HH4.out, HY.out⟩
      case measure => simp [intOf]; omega
    · clear hG hH hGn
      by_cases hlt1 : k < l.length
      · have q40 : decide ((k : Int) < 40) = false := decide_eq_false (by omega)
        go_wp2_with fail
        refine (awake27_any _).mono ?_
        rintro e w4 ⟨rfl, hB4⟩
        go_wp2
        go_ret
        exact ⟨rfl, below_trans' hB hB4⟩
      · have q41 : ¬ ((k : Int) < (l.length : Int)) := by omega
        go_wp2_with fail
        refine (awake27_any _).mono ?_
        rintro e w4 ⟨rfl, hB4⟩
        go_wp2
        go_ret
        exact ⟨rfl, below_trans' hB hB4⟩

set_option maxRecDepth 100000 in
set_option maxHeartbeats 1000000 in
theorem gridPlays_none (rows cols : Int) (v : Value) (l : List Dd) (w : World) (hR : Rs w.heap.size w denc 5 v l) (h : ¬ (1 ≤ rows % 8 ∧ 2 ≤ cols % 16)) :
    Calls Try.prog 10 #[.int .i64 rows, .int .i64 cols, v] w fun e w' => e = .returned (.bool true) ∧ Below w.heap.size w w' := by
  obtain ⟨a, cap0, rfl, hcap, hmax, hxl, hcells⟩ := hR
  unfold maxLen at hmax
  have hb3 := and7 rows
  have hb7 := and15 cols
  have hno : rows % 8 < 1 ∨ 500 < rows % 8 ∨ cols % 16 < 2 ∨ 1000 < cols % 16 := by omega
  have HN := Lib.hid hno
  have HC := Lib.hid hcells
  clear hxl hcells h hno
  go_enter Try.func10, Try.ntmps10
  go_wp2_with fail
  refine (new_none _ _ w HN.out).mono ?_
  rintro e w1 ⟨rfl, rfl⟩
  go_wp2_with fail
  refine (refNew_none _ _ w HN.out).mono ?_
  rintro e w1 ⟨rfl, rfl⟩
  go_wp2_with fail
  go_loopw [9] (fun i wr => ∃ k : Nat, k ≤ l.length ∧ k ≤ 40 ∧ i = .int .i64 ((k : Nat) : Int) ∧ Below w.heap.size w wr) (fun i _ => l.length - (intOf i).toNat)
  case atStart => exact ⟨0, Nat.zero_le _, by omega, rfl, .refl _ _⟩
  case round =>
    obtain ⟨k, hk1, hk2, rfl, hB⟩ := hrel
    by_cases hlt : k < l.length ∧ k < 40
    · obtain ⟨hlt1, hlt2⟩ := hlt
      obtain ⟨d, hd⟩ : ∃ d, l[k]? = some d := ⟨l[k], by simp [hlt1]⟩
      obtain ⟨b, off, rfl, hbl, hcq⟩ := HC.out (by omega)
      have d0 : wr.cell? ⟨b, off + k * 5, none⟩ = some (.int .i64 d.k) := cell_later hB (flat_cell denc_len hcq hd 0 rfl)
      have q40 : decide ((k : Int) < 40) = true := decide_eq_true (by omega)
      have d1 : wr.cell? ⟨b, off + k * 5 + 1, none⟩ = some (.int .i64 d.r) := cell_later hB (flat_cell denc_len hcq hd 1 rfl)
      have d2 : wr.cell? ⟨b, off + k * 5 + 2, none⟩ = some (.int .i64 d.c) := cell_later hB (flat_cell denc_len hcq hd 2 rfl)
      have d3 : wr.cell? ⟨b, off + k * 5 + 3, none⟩ = some (.string d.x.1) := cell_later hB (flat_cell denc_len hcq hd 3 rfl)
      have d4 : wr.cell? ⟨b, off + k * 5 + 4, none⟩ = some (.int .i64 d.x.2) := cell_later hB (flat_cell denc_len hcq hd 4 rfl)
      have HX := Lib.hid (does_nil d wr)
      have hBs := hB.size
      clear hcq hd
      go_wp2_with fail
      refine HX.out.mono ?_
      rintro e w3 ⟨rfl, hB3⟩
      clear d0 d1 d2 d3 d4
      go_wp2_with fail
      refine (same27_nil w3).mono ?_
      rintro e w4 ⟨rfl, hB4⟩
      have HB4 := Lib.hid (below_trans' (below_trans' hB hB3) hB4)
      clear hB4 hB3
      go_wp2
      go_roundw
      case rel => exact ⟨k + 1, by omega, by omega, by go_num, HB4.out⟩
      case measure => simp [intOf]; omega
    · by_cases hlt1 : k < l.length
      · have q40 : decide ((k : Int) < 40) = false := decide_eq_false (by omega)
        go_wp2_with fail
        refine (awake27_any _).mono ?_
        rintro e w4 ⟨rfl, hB4⟩
        go_wp2
        go_ret
        exact ⟨rfl, below_trans' hB hB4⟩
      · have q41 : ¬ ((k : Int) < (l.length : Int)) := by omega
        go_wp2_with fail
        refine (awake27_any _).mono ?_
        rintro e w4 ⟨rfl, hB4⟩
        go_wp2
        go_ret
        exact ⟨rfl, below_trans' hB hB4⟩

theorem gridPlays_any (rows cols : Int) (v : Value) (l : List Dd) (w : World) (hR : Rs w.heap.size w denc 5 v l) :
    Calls Try.prog 10 #[.int .i64 rows, .int .i64 cols, v] w fun e w' => e = .returned (.bool true) ∧ Below w.heap.size w w' := by
  by_cases h : 1 ≤ rows % 8 ∧ 2 ≤ cols % 16
  · exact gridPlays_some rows cols v l w hR h.1 h.2
  · exact gridPlays_none rows cols v l w hR h
end Go.Proofs.Ytokenlecnbploaa
