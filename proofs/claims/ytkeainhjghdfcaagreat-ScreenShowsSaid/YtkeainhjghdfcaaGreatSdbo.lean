/- Joined texts: ScrL. -/
import Derived.Test.YtkeainhjghdfcaaGreatSdbn
import Derived.Test.YtkeainhjghdfcaaGreatSdbh
import Derived.Test.YtkeainhjghdfcaaGreatSdbe

/- The document's Of where there is no screen; law29.Same; the texts of no screen. -/
namespace Go.Proofs.YtkeainhjghdfcaaGreat
open Go.RowKit

section
variable {P : List (List Int)} {s : List Int} {w : World} {pv sv rv : Value}
set_option maxRecDepth 100000 in
set_option maxHeartbeats 4000000 in
theorem dof_none (hP : TextsIn w pv P) (hs : RunesIn w sv s) (c : Int) {rows cols : Int} (hno : rows < 1 ∨ 500 < rows ∨ cols < 2 ∨ 1000 < cols) :
    Calls Tryz.prog 24 #[rv, .agg #[pv, sv, .int .i64 c], .int .i64 rows, .int .i64 cols] w fun e w' => e = .returned (.agg #[.slice none 0 0, .int .i64 0, .int .i64 0]) ∧ Below w.heap.size w w' := by
  obtain ⟨sl, scap, rfl, _, _, _⟩ := runes_cells hs
  obtain ⟨pa, pcap, rfl, _, _⟩ := texts_shape hP
  have hba := below1 w (.cells #[.slice pa P.length pcap, .slice sl s.length scap, .int .i64 c] 53)
  have hbb := below1 (w.alloc (.cells #[.slice pa P.length pcap, .slice sl s.length scap, .int .i64 c] 53)) (.cells #[.slice none 0 0, .int .i64 0, .int .i64 0] 66)
  have hnb := heap_alloc_new (w.alloc (.cells #[.slice pa P.length pcap, .slice sl s.length scap, .int .i64 c] 53)) (.cells #[.slice none 0 0, .int .i64 0, .int .i64 0] 66)
  have hza : (w.alloc (.cells #[.slice pa P.length pcap, .slice sl s.length scap, .int .i64 c] 53)).heap.size = w.heap.size + 1 := by simp
  rw [hza] at hbb hnb
  have HB1 := Lib.hid (hba.trans (hbb.mono (by omega)))
  have HNR := Lib.hid hnb
  have hb4 : rows < 1 ∨ (¬ rows < 1 ∧ 500 < rows) ∨ (¬ rows < 1 ∧ ¬ 500 < rows ∧ cols < 2) ∨ (¬ rows < 1 ∧ ¬ 500 < rows ∧ ¬ cols < 2 ∧ 1000 < cols) := by omega
  clear hP hs hba hbb hnb hza hno
  go_enter Tryz.func24, Tryz.ntmps24
  go_upto_region 1 with fail
  generalize (w.alloc (.cells #[.slice pa P.length pcap, .slice sl s.length scap, .int .i64 c] 53)).alloc (.cells #[.slice none 0 0, .int .i64 0, .int .i64 0] 66) = w1 at HB1 HNR ⊢
  have r0 := row_cells (i := 0) HNR.out rfl
  have r1 := row_cells (i := 1) HNR.out rfl
  have r2 := row_cells (i := 2) HNR.out rfl
  have rw0 := row_warm HNR.out 0
  have rw1 := row_warm HNR.out 1
  have rw2 := row_warm HNR.out 2
  rcases hb4 with k1 | ⟨k1, k2⟩ | ⟨k1, k2, k3⟩ | ⟨k1, k2, k3, k4⟩
  case' inl => have g5 : decide (rows < 1) = true := decide_eq_true k1
  case' inr.inl =>
    have g5 : decide (rows < 1) = false := decide_eq_false k1
    have g6 : decide (rows > 500) = true := decide_eq_true k2
  case' inr.inr.inl =>
    have g5 : decide (rows < 1) = false := decide_eq_false k1
    have g6 : decide (rows > 500) = false := decide_eq_false k2
    have g7 : decide (cols < 2) = true := decide_eq_true k3
  case' inr.inr.inr =>
    have g5 : decide (rows < 1) = false := decide_eq_false k1
    have g6 : decide (rows > 500) = false := decide_eq_false k2
    have g7 : decide (cols < 2) = false := decide_eq_false k3
    have g8 : decide (cols > 1000) = true := decide_eq_true k4
  all_goals
    go_wp2_with fail
    refine ret_cell1 (ad := ⟨w.heap.size + 1, 0, none⟩) rfl rfl (run_loadVar_mid _ _ 0 _ [.slice none 0 0, .int .i64 0, .int .i64 0] _ (range3s (by go_simp) (by go_simp) (by go_simp)) Tryz.underlying66 rfl (by kernel_rfl)) rfl ?_
    exact ⟨rfl, ((HB1.out.setCell (by show w.heap.size ≤ w.heap.size + 1; omega) _).setCell (by show w.heap.size ≤ w.heap.size + 1; omega) _).setCell (by show w.heap.size ≤ w.heap.size + 1; omega) _⟩
end
set_option maxRecDepth 100000 in
set_option maxHeartbeats 4000000 in
theorem same29_any {w : World} {ga oa : Option Addr} {n cap : Nat} {cr cc : Int}
    (hS : ∀ w', Below w.heap.size w w' → Calls Tryz.prog 80 #[.pointer ga, .slice oa n cap] w' fun e w'' => e = .returned (.bool true) ∧ Below w'.heap.size w' w'') :
    Calls Tryz.prog 25 #[.agg #[.pointer ga, .int .i64 cr, .int .i64 cc], .agg #[.slice oa n cap, .int .i64 cr, .int .i64 cc]] w fun e w' => e = .returned (.bool true) ∧ Below w.heap.size w w' := by
  have hba := below1 w (.cells #[.pointer ga, .int .i64 cr, .int .i64 cc] 59)
  have hna := heap_alloc_new w (.cells #[.pointer ga, .int .i64 cr, .int .i64 cc] 59)
  have hbb := below1 (w.alloc (.cells #[.pointer ga, .int .i64 cr, .int .i64 cc] 59)) (.cells #[.slice oa n cap, .int .i64 cr, .int .i64 cc] 66)
  have hnb := heap_alloc_new (w.alloc (.cells #[.pointer ga, .int .i64 cr, .int .i64 cc] 59)) (.cells #[.slice oa n cap, .int .i64 cr, .int .i64 cc] 66)
  have hza : (w.alloc (.cells #[.pointer ga, .int .i64 cr, .int .i64 cc] 59)).heap.size = w.heap.size + 1 := by simp
  rw [hza] at hbb hnb
  have HB1 := Lib.hid (hba.trans (hbb.mono (by omega)))
  have HNV := Lib.hid ((hbb.block _ (by omega)).trans hna)
  have HNR := Lib.hid hnb
  have HS := Lib.hid hS
  clear hba hbb hna hnb hza hS
  go_enter Tryz.func25, Tryz.ntmps25
  go_upto_region 1 with fail
  generalize (w.alloc (.cells #[.pointer ga, .int .i64 cr, .int .i64 cc] 59)).alloc (.cells #[.slice oa n cap, .int .i64 cr, .int .i64 cc] 66) = w1 at HB1 HNV HNR ⊢
  have v0 := row_cells (i := 0) HNV.out rfl
  have r0 := row_cells (i := 0) HNR.out rfl
  go_wp2_with fail
  refine (HS.out w1 HB1.out).mono ?_
  rintro e w2 ⟨rfl, hB2⟩
  have v1 := cell_later hB2 (row_cells (i := 1) HNV.out rfl)
  have v2 := cell_later hB2 (row_cells (i := 2) HNV.out rfl)
  have r1 := cell_later hB2 (row_cells (i := 1) HNR.out rfl)
  have r2 := cell_later hB2 (row_cells (i := 2) HNR.out rfl)
  have HB2 := Lib.hid (below_trans' HB1.out hB2)
  clear v0 r0 hB2
  go_wp2_with fail
  go_ret
  exact ⟨rfl, HB2.out⟩
set_option maxRecDepth 100000 in
set_option maxHeartbeats 4000000 in
theorem stext_nil (w : World) (r c : Int) :
    Calls Tryz.prog 26 #[.agg #[.pointer none, .int .i64 r, .int .i64 c]] w fun e w' => e = .returned (.slice none 0 0) ∧ Below w.heap.size w w' := by
  have hb1 := below1 w (.cells #[.pointer none, .int .i64 r, .int .i64 c] 59)
  have hn1 := heap_alloc_new w (.cells #[.pointer none, .int .i64 r, .int .i64 c] 59)
  have HB1 := Lib.hid hb1
  have HN1 := Lib.hid hn1
  clear hb1 hn1
  go_enter Tryz.func26, Tryz.ntmps26
  go_upto_region 1 with fail
  generalize w.alloc (.cells #[.pointer none, .int .i64 r, .int .i64 c] 59) = w1 at HB1 HN1 ⊢
  have y0 := row_cells (i := 0) HN1.out rfl
  go_wp2_with fail
  refine (size_nil w1).mono ?_
  rintro e w2 ⟨rfl, rfl⟩
  clear y0
  go_wp2_with fail
  go_loopw [5, 18] (fun ov iv wr => iv = .int .i64 0 ∧ ov = .slice none 0 0 ∧ wr = w1) (fun _ _ _ => 0)
  case atStart => exact ⟨rfl, rfl, rfl⟩
  case round =>
    obtain ⟨rfl, rfl, rfl⟩ := hrel
    go_wp2_with fail
    go_ret
    exact ⟨rfl, HB1.out⟩
end Go.Proofs.YtkeainhjghdfcaaGreat
