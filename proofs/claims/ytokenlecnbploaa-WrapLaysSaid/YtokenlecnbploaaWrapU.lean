/- The walk of WrapLays. -/
import Derived.Test.YtokenlecnbploaaWrapT
namespace Go.Proofs.Ytokenlecnbploaa
open Go.RowKit Go.ChangeShapes Go.WideShapes Go.ChangeAt

set_option maxRecDepth 100000 in
set_option maxHeartbeats 1000000 in
theorem lay_none (v : Value) (n m top : Int) (w : World) (h : n < 1 ∨ 500 < n ∨ m < 2 ∨ 1000 < m) :
    Calls Try.prog 37 #[v, .int .i64 n, .int .i64 m, .int .i64 top] w fun e w' => e = .returned (.pointer none) ∧ w = w' := by
  have H := Lib.hid h
  clear h
  go_enter Try.func37, Try.ntmps37
  go_wp2_with fail
  refine (new_none n m w H.out).mono ?_
  rintro e w1 ⟨rfl, rfl⟩
  go_wp2
  go_ret
  exact ⟨rfl, rfl⟩

set_option maxRecDepth 100000 in
set_option maxHeartbeats 1000000 in
theorem refLay_none (v : Value) (l : List Gl) (n m top : Int) (w : World) (hR : Rs w.heap.size w genc 2 v l) (hlen : l.length ≤ 1073741824) (ht : thin l) (hm : m ≤ 9223372036854775807) (h : n < 1 ∨ 500 < n ∨ m < 2 ∨ 1000 < m) :
    Calls Try.prog 38 #[v, .int .i64 n, .int .i64 m, .int .i64 top] w fun e w' => e = .returned (.slice none 0 0) ∧ Below w.heap.size w w' := by
  have HP := Lib.hid (refPlace_any v l m w hR hlen hm ht)
  obtain ⟨a, cap, rfl, _⟩ := id hR
  have H := Lib.hid h
  clear h hR ht
  rcases Nat.eq_zero_or_pos l.length with h0 | h0
  · rw [h0] at HP ⊢
    go_enter Try.func38, Try.ntmps38
    go_wp2_with fail
    refine (refNew_none n m w H.out).mono ?_
    rintro e w1 ⟨rfl, rfl⟩
    go_wp2_with fail
    refine HP.out.mono ?_
    rintro e w1 ⟨vs, rfl, hB, _⟩
    go_wp2
    go_loop [11] (fun i => i = .int .i64 0) (fun _ => 0)
    case atStart => rfl
    case round =>
      subst hrel
      go_wp2
      go_ret
      exact ⟨rfl, hB⟩
  · have h1 : (0 : Int) < (l.length : Int) := by omega
    go_enter Try.func38, Try.ntmps38
    go_wp2_with fail
    refine (refNew_none n m w H.out).mono ?_
    rintro e w1 ⟨rfl, rfl⟩
    go_wp2_with fail
    refine HP.out.mono ?_
    rintro e w1 ⟨vs, rfl, hB, _⟩
    go_wp2
    go_loop [11] (fun i => i = .int .i64 0) (fun _ => 0)
    case atStart => rfl
    case round =>
      subst hrel
      go_wp2
      go_ret
      exact ⟨rfl, hB⟩

set_option maxRecDepth 100000 in
set_option maxHeartbeats 4000000 in
theorem wrapLays_some (v : Value) (l : List Gl) (rows cols top : Int) (n m : Nat) (w : World) (hR : Rs w.heap.size w genc 2 v l) (t1 : -1000 ≤ top) (t2 : top ≤ 1000) (h1 : 1 ≤ n) (h2 : n ≤ 40) (h3 : 2 ≤ m) (h4 : m ≤ 1000) (hm : cols = (m : Int)) (hc : (rows ≤ 40 ∧ rows = (n : Int)) ∨ (40 < rows ∧ n = 40)) :
    Calls Try.prog 11 #[v, .int .i64 rows, .int .i64 cols, .int .i64 top] w fun e w' => e = .returned (.bool true) ∧ Below w.heap.size w w' := by
  subst hm
  have HLn := Lib.hid (show (fewl l).length ≤ 100 by rw [fewl_length]; omega)
  have HTh := Lib.hid (fewl_thin l)
  have HR := Lib.hid hR
  clear hR
  rcases hc with ⟨hc, rfl⟩ | ⟨hc, rfl⟩
  all_goals
    go_enter Try.func11, Try.ntmps11
    go_wp2_with fail
    refine (few_any v l w HR.out).mono ?_
    rintro e w1 ⟨va, vb, rfl, hB1, ha, hb⟩
    have HB1 := Lib.hid hB1
    have HA := Lib.hid ha
    have HB := Lib.hid hb
    clear hB1 ha hb
    go_wp2_with fail
    refine (lay_some _ m top va (fewl l) w1 (rd_of_owns HA.out) HLn.out HTh.out h1 (by omega) h3 h4 t1 t2).mono ?_
    rintro e w2 ⟨gb, lb, rfl, hgb, hlb, hB2, hG2⟩
    have HB2 := Lib.hid hB2
    have HG2 := Lib.hid hG2
    clear hB2 hG2
    go_wp2_with fail
    refine (refLay_some _ m top vb (fewl l) w2 ((rd_of_owns HB.out).below HB2.out (Nat.le_refl _) |>.mono HB2.out.size) HLn.out HTh.out h1 (by omega) h3 h4 t1 t2).mono ?_
    rintro e w3 ⟨ob, ocap, rb, rc, rfl, hB3, hH3⟩
    have HB3 := Lib.hid (below_trans' (below_trans' HB1.out HB2.out) hB3)
    have HG3 := Lib.hid (HG2.out.kept (by rw [layG_len, List.length_replicate]; omega) (by omega) (P := fun _ => False) (.of_below hB3) id id)
    have HH3 := Lib.hid hH3
    clear hB3 hH3
    go_wp2_with fail
    refine (same27_n HG3.out HH3.out (by omega) (by omega) ((layG_len _ _ _ _ _ _).trans (by rw [List.length_replicate]))).mono ?_
    rintro e w4 ⟨rfl, hB4, _, _⟩
    have HB4 := Lib.hid (below_trans' HB3.out hB4)
    clear hB4
    go_wp2_with fail
    refine (awake28_any _).mono ?_
    rintro e w5 ⟨rfl, hB5⟩
    have HB5 := Lib.hid (below_trans' HB4.out hB5)
    clear hB5
    go_wp2
    go_ret
    exact ⟨rfl, HB5.out⟩

set_option maxRecDepth 100000 in
set_option maxHeartbeats 4000000 in
theorem wrapLays_none (v : Value) (l : List Gl) (rows cols top : Int) (w : World) (hR : Rs w.heap.size w genc 2 v l) (hcm : cols ≤ 9223372036854775807) (t1 : -1000 ≤ top) (t2 : top ≤ 1000) (h : rows < 1 ∨ cols < 2 ∨ 1000 < cols) :
    Calls Try.prog 11 #[v, .int .i64 rows, .int .i64 cols, .int .i64 top] w fun e w' => e = .returned (.bool true) ∧ Below w.heap.size w w' := by
  have HLn := Lib.hid (show (fewl l).length ≤ 1073741824 by rw [fewl_length]; omega)
  have HTh := Lib.hid (fewl_thin l)
  have HR := Lib.hid hR
  have HN := Lib.hid h
  clear hR h
  have hc : rows ≤ 40 ∨ 40 < rows := by omega
  rcases hc with hc | hc
  all_goals
    go_enter Try.func11, Try.ntmps11
    go_wp2_with fail
    refine (few_any v l w HR.out).mono ?_
    rintro e w1 ⟨va, vb, rfl, hB1, ha, hb⟩
    have HB1 := Lib.hid hB1
    have HB := Lib.hid hb
    clear hB1 ha hb
    go_wp2_with fail
    refine (lay_none va _ cols top w1 (by have := HN.out; omega)).mono ?_
    rintro e w2 ⟨rfl, rfl⟩
    go_wp2_with fail
    refine (refLay_none vb (fewl l) _ cols top w1 (rd_of_owns HB.out) HLn.out HTh.out hcm (by have := HN.out; omega)).mono ?_
    rintro e w3 ⟨rfl, hB3⟩
    have HB3 := Lib.hid (below_trans' HB1.out hB3)
    clear hB3
    go_wp2_with fail
    refine (same27_nil _).mono ?_
    rintro e w4 ⟨rfl, hB4⟩
    have HB4 := Lib.hid (below_trans' HB3.out hB4)
    clear hB4
    go_wp2_with fail
    refine (awake28_any _).mono ?_
    rintro e w5 ⟨rfl, hB5⟩
    have HB5 := Lib.hid (below_trans' HB4.out hB5)
    clear hB5
    go_wp2
    go_ret
    exact ⟨rfl, HB5.out⟩

set_option maxRecDepth 100000 in
set_option maxHeartbeats 1000000 in
theorem wrapLays_far (v : Value) (rows cols top : Int) (w : World) (h : top < -1000 ∨ (-1000 ≤ top ∧ 1000 < top)) :
    Calls Try.prog 11 #[v, .int .i64 rows, .int .i64 cols, .int .i64 top] w fun e w' => e = .returned (.bool true) ∧ Below w.heap.size w w' := by
  rcases h with h | ⟨h, h'⟩
  all_goals
    go_enter Try.func11, Try.ntmps11
    go_wp2_with fail
    refine (awake28_any _).mono ?_
    rintro e w5 ⟨rfl, hB5⟩
    go_wp2
    go_ret
    exact ⟨rfl, hB5⟩

theorem wrapLays_any (v : Value) (l : List Gl) (rows cols top : Int) (w : World) (hR : Rs w.heap.size w genc 2 v l) (hcm : cols ≤ 9223372036854775807) :
    Calls Try.prog 11 #[v, .int .i64 rows, .int .i64 cols, .int .i64 top] w fun e w' => e = .returned (.bool true) ∧ Below w.heap.size w w' := by
  by_cases ht : -1000 ≤ top ∧ top ≤ 1000
  · by_cases h : rows < 1 ∨ cols < 2 ∨ 1000 < cols
    · exact wrapLays_none v l rows cols top w hR hcm ht.1 ht.2 h
    · by_cases h5 : rows ≤ 40
      · exact wrapLays_some v l rows cols top rows.toNat cols.toNat w hR ht.1 ht.2 (by omega) (by omega) (by omega) (by omega) (by omega) (by omega)
      · exact wrapLays_some v l rows cols top 40 cols.toNat w hR ht.1 ht.2 (by omega) (by omega) (by omega) (by omega) (by omega) (by omega)
  · exact wrapLays_far v rows cols top w (by omega)
end Go.Proofs.Ytokenlecnbploaa
