/- Joined texts: ScrM. -/
import Derived.Deep.CutRange
import Derived.Test.YtkeainhjghdfcaaGreatSdbl
import Derived.Test.YtkeainhjghdfcaaGreatSdbo
import Derived.Test.YtkeainhjghdfcaaGreatSdbh
import Derived.Test.YtkeainhjghdfcaaGreatSdbp
import Derived.Test.YtkeainhjghdfcaaGreatSdbe
import Derived.Test.YtkeainhjghdfcaaGreatSdac

/- ScreenShows: its walk. (Printed by gen_sshows.py.) -/
namespace Go.Proofs.YtkeainhjghdfcaaGreat
open Go.RowKit

set_option maxRecDepth 100000 in
set_option maxHeartbeats 16000000 in
theorem screenShows_any {P : List (List Int)} {s : List Int} {w : World} {pv sv : Value} (hP : TextsIn w pv P) (hPo : ∀ p ∈ P, RunesOk p) (hs : RunesIn w sv s) (ok : RunesOk s) (c rows cols : Int) (hcm : cols ≤ 9223372036854775807) :
    Calls Tryz.prog 5 #[.agg #[pv, sv, .int .i64 c], .int .i64 rows, .int .i64 cols] w fun e w' => e = .returned (.bool true) ∧ Below w.heap.size w w' := by
  obtain ⟨R, HFc, hrows⟩ := apiRows_any
  have HF := Lib.hid HFc
  have HRows := Lib.hid hrows
  have HTk := Lib.hid HFc.seg.tab
  clear HFc hrows
  obtain ⟨sl, scap, rfl, _, _, _⟩ := runes_cells hs
  obtain ⟨pa, pcap, rfl, _, _⟩ := texts_shape hP
  have hba := below1 w (.cells #[.slice pa P.length pcap, .slice sl s.length scap, .int .i64 c] 53)
  have hna := heap_alloc_new w (.cells #[.slice pa P.length pcap, .slice sl s.length scap, .int .i64 c] 53)
  have HBa := Lib.hid hba
  have HNa := Lib.hid hna
  have HFew := Lib.hid (few29_own hba hP hs c)
  have HPk := Lib.hid (fewP_ok hPo)
  have HOk := Lib.hid (show RunesOk (s.take 100) from ok.take 100)
  have HPl := Lib.hid (fewP_len P)
  have hsl : (s.take 100).length ≤ 100 := by rw [List.length_take]; omega
  clear hba hna hP hs hPo ok
  go_enter Tryz.func5, Tryz.ntmps5
  go_upto_region 1 with fail
  generalize w.alloc (.cells #[.slice pa P.length pcap, .slice sl s.length scap, .int .i64 c] 53) = w1 at HBa HNa HFew ⊢
  have y0 := row_cells (i := 0) HNa.out rfl
  have y1 := row_cells (i := 1) HNa.out rfl
  have y2 := row_cells (i := 2) HNa.out rfl
  go_wp2_with fail
  refine HFew.out.mono ?_
  rintro e w2 ⟨pv', sv', rfl, hB2, vs, hO2, hln, hel, hs2⟩
  obtain ⟨oa, oc, rfl⟩ := slice_of_owns hO2
  obtain ⟨sa, sc, rfl, _, _, _⟩ := runes_cells hs2
  generalize hvn : vs.length = vn at hO2 ⊢
  generalize hsn : (s.take 100).length = sn at hs2 hsl ⊢
  have HVn := Lib.hid hvn
  have HSn := Lib.hid hsn
  have HLn := Lib.hid hln
  clear hvn hsn hln
  have hpl := row_len HNa.out
  have hrp := (hB2.block _ hpl).trans HNa.out
  have z0 := row_cells (i := 0) hrp rfl
  have z1 := row_cells (i := 1) hrp rfl
  have z2 := row_cells (i := 2) hrp rfl
  have zw0 := row_warm hrp 0
  have zw1 := row_warm hrp 1
  have zw2 := row_warm hrp 2
  go_upto_region 2 with fail
  have hB3 : Below w.heap.size w (((w2.setCell ⟨w.heap.size, 0, none⟩ (.slice oa vn oc)).setCell ⟨w.heap.size, 1, none⟩ (.slice sa sn sc)).setCell ⟨w.heap.size, 2, none⟩ (.int .i64 c)) :=
    (((HBa.out.trans (hB2.mono HBa.out.size)).setCell (Nat.le_refl _) _).setCell (Nat.le_refl _) _).setCell (Nat.le_refl _) _
  have hn3 : (((w2.setCell ⟨w.heap.size, 0, none⟩ (.slice oa vn oc)).setCell ⟨w.heap.size, 1, none⟩ (.slice sa sn sc)).setCell ⟨w.heap.size, 2, none⟩ (.int .i64 c)).heap[w.heap.size]? = some (.cells #[.slice oa vn oc, .slice sa sn sc, .int .i64 c] 53 (0, 0)) :=
    heap_setCell_same _ _ _ _ _ _ (heap_setCell_same _ _ _ _ _ _ (heap_setCell_same _ _ _ _ _ _ hrp))
  have hO3 : (((w2.setCell ⟨w.heap.size, 0, none⟩ (.slice oa vn oc)).setCell ⟨w.heap.size, 1, none⟩ (.slice sa sn sc)).setCell ⟨w.heap.size, 2, none⟩ (.int .i64 c)).ownsRow w1.heap.size 35 1 (.slice oa vn oc) vn vs := owns_store (owns_store (owns_store hO2 hpl) hpl) hpl
  have HP3 := Lib.hid (texts_of_own2 hO3 HVn.out hB3 HLn.out hel)
  have HS3 := Lib.hid (hs2.below hB3)
  have HB3 := Lib.hid hB3
  have HN3 := Lib.hid hn3
  clear hO3 hn3 hB3 hrp z0 z1 z2 zw0 zw1 zw2 hO2 hel hs2 hB2 y0 y1 y2 HFew HBa HNa hpl
  generalize ((w2.setCell ⟨w.heap.size, 0, none⟩ (.slice oa vn oc)).setCell ⟨w.heap.size, 1, none⟩ (.slice sa sn sc)).setCell ⟨w.heap.size, 2, none⟩ (.int .i64 c) = w3 at HP3 HS3 HB3 HN3 ⊢
  have y0 := row_cells (i := 0) HN3.out rfl
  have y1 := row_cells (i := 1) HN3.out rfl
  have y2 := row_cells (i := 2) HN3.out rfl
  have hcr : rows ≤ 30 ∨ (30 < rows ∧ rows ≤ 500) ∨ (30 < rows ∧ ¬ rows ≤ 500) := by omega
  have hcc : cols ≤ 60 ∨ (60 < cols ∧ cols ≤ 1000) ∨ (60 < cols ∧ ¬ cols ≤ 1000) := by omega
  go_cut [19] from 14 to 19 (fun r wx => (∃ b : Bool, r = .bool b) ∧ wx = w3)
  case first =>
    rcases hcr with hr | ⟨hr, hr2⟩ | ⟨hr, hr2⟩
    · have g1 : decide (rows > 30) = false := decide_eq_false (by omega)
      go_wp2_with fail
      go_meet
      case rel => exact ⟨⟨_, rfl⟩, rfl⟩
    · have g1 : decide (rows > 30) = true := decide_eq_true hr
      have g2 : decide (rows ≤ 500) = true := decide_eq_true hr2
      go_wp2_with fail
      go_meet
      case rel => exact ⟨⟨_, rfl⟩, rfl⟩
    · have g1 : decide (rows > 30) = true := decide_eq_true hr
      have g2 : decide (rows ≤ 500) = false := decide_eq_false hr2
      go_wp2_with fail
      go_meet
      case rel => exact ⟨⟨_, rfl⟩, rfl⟩
  case rest =>
  obtain ⟨⟨b1, hb1⟩, hw3⟩ := hcut
  subst hb1
  rw [hw3]
  clear hw3 hcr
  obtain ⟨rr, hrr⟩ : ∃ rr : Int, rr = if b1 = true then 30 else rows := ⟨_, rfl⟩
  cases b1
  all_goals
    first | rw [if_pos rfl] at hrr | rw [if_neg (by decide)] at hrr
    go_upto_region 4 with fail
    rw [← hrr]
    clear hrr
    go_cut [25] from 20 to 25 (fun r wx => (∃ b : Bool, r = .bool b) ∧ wx = w3)
    case first =>
      rcases hcc with hc | ⟨hc, hc2⟩ | ⟨hc, hc2⟩
      · have g3 : decide (cols > 60) = false := decide_eq_false (by omega)
        go_wp2_with fail
        go_meet
        case rel => exact ⟨⟨_, rfl⟩, rfl⟩
      · have g3 : decide (cols > 60) = true := decide_eq_true hc
        have g4 : decide (cols ≤ 1000) = true := decide_eq_true hc2
        go_wp2_with fail
        go_meet
        case rel => exact ⟨⟨_, rfl⟩, rfl⟩
      · have g3 : decide (cols > 60) = true := decide_eq_true hc
        have g4 : decide (cols ≤ 1000) = false := decide_eq_false hc2
        go_wp2_with fail
        go_meet
        case rel => exact ⟨⟨_, rfl⟩, rfl⟩
    case rest =>
    obtain ⟨⟨b2, hb2⟩, hw3⟩ := hcut
    subst hb2
    rw [hw3]
    clear hw3 hcc
    obtain ⟨cl, hcl⟩ : ∃ cl : Int, cl = if b2 = true then 60 else cols := ⟨_, rfl⟩
    have hc9 : cl ≤ 9223372036854775807 := by rw [hcl]; split <;> omega
    cases b2
    all_goals
      first | rw [if_pos rfl] at hcl | rw [if_neg (by decide)] at hcl
      go_upto_region 6 with fail
      rw [← hcl]
      clear hcl
      go_wp2_with fail
      refine (HRows.out _).mono ?_
      rintro e w4 ⟨v, rfl, hB4, hR⟩
      have HR4 := Lib.hid hR
      have HB4 := Lib.hid hB4
      clear hB4 hR y0 y1 y2
      have y0 := cell_later HB4.out (row_cells (i := 0) HN3.out rfl)
      have y1 := cell_later HB4.out (row_cells (i := 1) HN3.out rfl)
      have y2 := cell_later HB4.out (row_cells (i := 2) HN3.out rfl)
      go_upto_region 7 with fail
      go_cut [8] from 27 to 33 (fun r wx => ∃ (q : Nat) (ga : Option Addr) (cr cc : Int), r = .pointer (some ⟨q, 0, none⟩) ∧ wx.heap[q]? = some (.cells #[.pointer ga, .int .i64 cr, .int .i64 cc] 59 (0, 0)) ∧ w4.heap.size ≤ q ∧ Below w4.heap.size w4 wx ∧ OfIs wx (viewG R (fewP P) (s.take 100)) (curK R (fewP P) (s.take 100) c) rr cl ga cr cc)
      case first =>
        refine wp_region_held_drew (S := fun w' => w'.cell? ⟨w.heap.size, 0, none⟩ = some (.slice oa vn oc) ∧ w'.cell? ⟨w.heap.size, 1, none⟩ = some (.slice sa sn sc) ∧ w'.cell? ⟨w.heap.size, 2, none⟩ = some (.int .i64 c)) (by kernel_rfl) ⟨y0, y1, y2⟩ (fun hHeld => ?_)
        obtain ⟨wd, hwd⟩ : ∃ wd, wd = w4.drew := ⟨_, rfl⟩
        rw [← hwd] at hHeld ⊢
        have HBc := Lib.hid (show Below w4.heap.size w4 wd by rw [hwd]; exact below_dN (.refl _ _) 1)
        clear hwd
        refine hd_take 0 rfl (by kernel_rfl) (by kernel_rfl) (by kernel_rfl) (fun _ _ _ h => h) (by rfl) (by intro w hSw; (try dsimp only at hSw); obtain ⟨hs1, hs2, hs3⟩ := hSw; go_simp; first | done | with_reducible rfl) hHeld ?_
        try simp only [Act.put, List.setIfInBounds_toArray, List.set_cons_zero, List.set_cons_succ]
        refine hd_take 2 rfl (by kernel_rfl) (by kernel_rfl) (by kernel_rfl) (fun _ _ _ h => h) (by rfl) (by intro w hSw; (try dsimp only at hSw); obtain ⟨hs1, hs2, hs3⟩ := hSw; go_simp; first | done | with_reducible rfl) hHeld ?_
        try simp only [Act.put, List.setIfInBounds_toArray, List.set_cons_zero, List.set_cons_succ]
        refine hd_take 4 rfl (by kernel_rfl) (by kernel_rfl) (by kernel_rfl) (fun _ _ _ h => h) (by rfl) (by intro w hSw; (try dsimp only at hSw); obtain ⟨hs1, hs2, hs3⟩ := hSw; go_simp; first | done | with_reducible rfl) hHeld ?_
        try simp only [Act.put, List.setIfInBounds_toArray, List.set_cons_zero, List.set_cons_succ]
        refine hd_take 5 rfl (by kernel_rfl) (by kernel_rfl) (by kernel_rfl) (fun _ _ _ h => h) (by rfl) (by intro w hSw; (try dsimp only at hSw); obtain ⟨hs1, hs2, hs3⟩ := hSw; go_simp; first | done | with_reducible rfl) hHeld ?_
        try simp only [Act.put, List.setIfInBounds_toArray, List.set_cons_zero, List.set_cons_succ]
        refine hd_two 1 7 (by kernel_rfl) rfl rfl (fun K hK => ?_) (fun K hK => ?_)
        case' refine_2 =>
          go_simp
          have hqs := HBc.out.size
          have hBx := below1 wd (.cells #[.pointer none, .int .i64 0, .int .i64 0] 59)
          have HQ := Lib.hid (heap_alloc_new wd (.cells #[.pointer none, .int .i64 0, .int .i64 0] 59))
          have HBc := Lib.hid (HBc.out.trans (hBx.mono HBc.out.size))
          clear hBx
          generalize wd.alloc (.cells #[.pointer none, .int .i64 0, .int .i64 0] 59) = wz at HBc HQ ⊢
          generalize wd.heap.size = q at HQ hqs ⊢
          refine hK.out _ _ ⟨cell_later HBc.out y0, cell_later HBc.out y1, cell_later HBc.out y2⟩ (fun hHeld => ?_)
          clear hK K
          try simp only [Act.put, List.setIfInBounds_toArray, List.set_cons_zero, List.set_cons_succ]
          refine hd_step 1 (by kernel_rfl) rfl (fun K hK => ?_)
          go_simp
          go_at_call 19
          refine (build_tb v R _ (HR4.out.below HBc.out) HF.out.ok).mono ?_
          rintro e w5 ⟨tp, rfl, hBx, hT⟩
          have HQ := Lib.hid ((hBx.block _ (row_len HQ.out)).trans HQ.out)
          have HBc := Lib.hid (HBc.out.trans (hBx.mono HBc.out.size))
          have HTc := Lib.hid hT
          clear hT
          clear hBx
          go_wp2_with fail
          refine hK.out _ _ ⟨cell_later HBc.out y0, cell_later HBc.out y1, cell_later HBc.out y2⟩ (fun hHeld => ?_)
          clear hK K
          try simp only [Act.put, List.setIfInBounds_toArray, List.set_cons_zero, List.set_cons_succ]
          refine hd_step 3 (by kernel_rfl) rfl (fun K hK => ?_)
          go_simp
          go_at_call 23
          refine (view29_any _ _ _ _ _ _ c _).mono ?_
          rintro e w6 ⟨rfl, hBx⟩
          have HTc := Lib.hid (HTc.out.below hBx)
          have HQ := Lib.hid ((hBx.block _ (row_len HQ.out)).trans HQ.out)
          have HBc := Lib.hid (HBc.out.trans (hBx.mono HBc.out.size))
          clear hBx
          go_wp2_with fail
          refine hK.out _ _ ⟨cell_later HBc.out y0, cell_later HBc.out y1, cell_later HBc.out y2⟩ (fun hHeld => ?_)
          clear hK K
          try simp only [Act.put, List.setIfInBounds_toArray, List.set_cons_zero, List.set_cons_succ]
          refine hd_step 6 (by kernel_rfl) rfl (fun K hK => ?_)
          go_simp
          go_at_call 22
          refine (sof_any HTk.out HTc.out (HP3.out.below (HB4.out.trans (HBc.out.mono HB4.out.size))) HPk.out HPl.out (HS3.out.below (HB4.out.trans (HBc.out.mono HB4.out.size))) HOk.out (by rw [List.length_take]; omega) c _ _ hc9).mono ?_
          rintro e w7 ⟨ga, cr, cc, rfl, hBx, hOf⟩
          have HTc := Lib.hid (HTc.out.below hBx)
          have HQ := Lib.hid ((hBx.block _ (row_len HQ.out)).trans HQ.out)
          have HBc := Lib.hid (HBc.out.trans (hBx.mono HBc.out.size))
          have HOf := Lib.hid hOf
          clear hOf
          clear hBx
          go_wp2_with fail
          refine hK.out _ _ ⟨cell_later HBc.out y0, cell_later HBc.out y1, cell_later HBc.out y2⟩ (fun hHeld => ?_)
          clear hK K
          try simp only [Act.put, List.setIfInBounds_toArray, List.set_cons_zero, List.set_cons_succ]
          rename World => wf
        case' refine_1 =>
          go_simp
          go_at_call 19
          refine (build_tb v R _ (HR4.out.below HBc.out) HF.out.ok).mono ?_
          rintro e w5 ⟨tp, rfl, hBx, hT⟩
          have HBc := Lib.hid (HBc.out.trans (hBx.mono HBc.out.size))
          have HTc := Lib.hid hT
          clear hT
          clear hBx
          go_wp2_with fail
          refine hK.out _ _ ⟨cell_later HBc.out y0, cell_later HBc.out y1, cell_later HBc.out y2⟩ (fun hHeld => ?_)
          clear hK K
          try simp only [Act.put, List.setIfInBounds_toArray, List.set_cons_zero, List.set_cons_succ]
          refine hd_two 3 7 (by kernel_rfl) rfl rfl (fun K hK => ?_) (fun K hK => ?_)
          case' refine_2 =>
            go_simp
            have hqs := HBc.out.size
            have hBx := below1 w5 (.cells #[.pointer none, .int .i64 0, .int .i64 0] 59)
            have HQ := Lib.hid (heap_alloc_new w5 (.cells #[.pointer none, .int .i64 0, .int .i64 0] 59))
            have HTc := Lib.hid (HTc.out.below hBx)
            have HBc := Lib.hid (HBc.out.trans (hBx.mono HBc.out.size))
            clear hBx
            generalize w5.alloc (.cells #[.pointer none, .int .i64 0, .int .i64 0] 59) = wz at HBc HQ HTc ⊢
            generalize w5.heap.size = q at HQ hqs ⊢
            refine hK.out _ _ ⟨cell_later HBc.out y0, cell_later HBc.out y1, cell_later HBc.out y2⟩ (fun hHeld => ?_)
            clear hK K
            try simp only [Act.put, List.setIfInBounds_toArray, List.set_cons_zero, List.set_cons_succ]
            refine hd_step 3 (by kernel_rfl) rfl (fun K hK => ?_)
            go_simp
            go_at_call 23
            refine (view29_any _ _ _ _ _ _ c _).mono ?_
            rintro e w6 ⟨rfl, hBx⟩
            have HTc := Lib.hid (HTc.out.below hBx)
            have HQ := Lib.hid ((hBx.block _ (row_len HQ.out)).trans HQ.out)
            have HBc := Lib.hid (HBc.out.trans (hBx.mono HBc.out.size))
            clear hBx
            go_wp2_with fail
            refine hK.out _ _ ⟨cell_later HBc.out y0, cell_later HBc.out y1, cell_later HBc.out y2⟩ (fun hHeld => ?_)
            clear hK K
            try simp only [Act.put, List.setIfInBounds_toArray, List.set_cons_zero, List.set_cons_succ]
            refine hd_step 6 (by kernel_rfl) rfl (fun K hK => ?_)
            go_simp
            go_at_call 22
            refine (sof_any HTk.out HTc.out (HP3.out.below (HB4.out.trans (HBc.out.mono HB4.out.size))) HPk.out HPl.out (HS3.out.below (HB4.out.trans (HBc.out.mono HB4.out.size))) HOk.out (by rw [List.length_take]; omega) c _ _ hc9).mono ?_
            rintro e w7 ⟨ga, cr, cc, rfl, hBx, hOf⟩
            have HTc := Lib.hid (HTc.out.below hBx)
            have HQ := Lib.hid ((hBx.block _ (row_len HQ.out)).trans HQ.out)
            have HBc := Lib.hid (HBc.out.trans (hBx.mono HBc.out.size))
            have HOf := Lib.hid hOf
            clear hOf
            clear hBx
            go_wp2_with fail
            refine hK.out _ _ ⟨cell_later HBc.out y0, cell_later HBc.out y1, cell_later HBc.out y2⟩ (fun hHeld => ?_)
            clear hK K
            try simp only [Act.put, List.setIfInBounds_toArray, List.set_cons_zero, List.set_cons_succ]
            rename World => wf
          case' refine_1 =>
            go_simp
            go_at_call 23
            refine (view29_any _ _ _ _ _ _ c _).mono ?_
            rintro e w6 ⟨rfl, hBx⟩
            have HTc := Lib.hid (HTc.out.below hBx)
            have HBc := Lib.hid (HBc.out.trans (hBx.mono HBc.out.size))
            clear hBx
            go_wp2_with fail
            refine hK.out _ _ ⟨cell_later HBc.out y0, cell_later HBc.out y1, cell_later HBc.out y2⟩ (fun hHeld => ?_)
            clear hK K
            try simp only [Act.put, List.setIfInBounds_toArray, List.set_cons_zero, List.set_cons_succ]
            refine hd_two 6 7 (by kernel_rfl) rfl rfl (fun K hK => ?_) (fun K hK => ?_)
            case' refine_2 =>
              go_simp
              have hqs := HBc.out.size
              have hBx := below1 w6 (.cells #[.pointer none, .int .i64 0, .int .i64 0] 59)
              have HQ := Lib.hid (heap_alloc_new w6 (.cells #[.pointer none, .int .i64 0, .int .i64 0] 59))
              have HTc := Lib.hid (HTc.out.below hBx)
              have HBc := Lib.hid (HBc.out.trans (hBx.mono HBc.out.size))
              clear hBx
              generalize w6.alloc (.cells #[.pointer none, .int .i64 0, .int .i64 0] 59) = wz at HBc HQ HTc ⊢
              generalize w6.heap.size = q at HQ hqs ⊢
              refine hK.out _ _ ⟨cell_later HBc.out y0, cell_later HBc.out y1, cell_later HBc.out y2⟩ (fun hHeld => ?_)
              clear hK K
              try simp only [Act.put, List.setIfInBounds_toArray, List.set_cons_zero, List.set_cons_succ]
              refine hd_step 6 (by kernel_rfl) rfl (fun K hK => ?_)
              go_simp
              go_at_call 22
              refine (sof_any HTk.out HTc.out (HP3.out.below (HB4.out.trans (HBc.out.mono HB4.out.size))) HPk.out HPl.out (HS3.out.below (HB4.out.trans (HBc.out.mono HB4.out.size))) HOk.out (by rw [List.length_take]; omega) c _ _ hc9).mono ?_
              rintro e w7 ⟨ga, cr, cc, rfl, hBx, hOf⟩
              have HTc := Lib.hid (HTc.out.below hBx)
              have HQ := Lib.hid ((hBx.block _ (row_len HQ.out)).trans HQ.out)
              have HBc := Lib.hid (HBc.out.trans (hBx.mono HBc.out.size))
              have HOf := Lib.hid hOf
              clear hOf
              clear hBx
              go_wp2_with fail
              refine hK.out _ _ ⟨cell_later HBc.out y0, cell_later HBc.out y1, cell_later HBc.out y2⟩ (fun hHeld => ?_)
              clear hK K
              try simp only [Act.put, List.setIfInBounds_toArray, List.set_cons_zero, List.set_cons_succ]
              rename World => wf
            case' refine_1 =>
              go_simp
              go_at_call 22
              refine (sof_any HTk.out HTc.out (HP3.out.below (HB4.out.trans (HBc.out.mono HB4.out.size))) HPk.out HPl.out (HS3.out.below (HB4.out.trans (HBc.out.mono HB4.out.size))) HOk.out (by rw [List.length_take]; omega) c _ _ hc9).mono ?_
              rintro e w7 ⟨ga, cr, cc, rfl, hBx, hOf⟩
              have HTc := Lib.hid (HTc.out.below hBx)
              have HBc := Lib.hid (HBc.out.trans (hBx.mono HBc.out.size))
              have HOf := Lib.hid hOf
              clear hOf
              clear hBx
              go_wp2_with fail
              refine hK.out _ _ ⟨cell_later HBc.out y0, cell_later HBc.out y1, cell_later HBc.out y2⟩ (fun hHeld => ?_)
              clear hK K
              try simp only [Act.put, List.setIfInBounds_toArray, List.set_cons_zero, List.set_cons_succ]
              refine hd_step 7 (by kernel_rfl) rfl (fun K hK => ?_)
              go_simp
              have hqs := HBc.out.size
              have hBx := below1 w7 (.cells #[.pointer none, .int .i64 0, .int .i64 0] 59)
              have HQ := Lib.hid (heap_alloc_new w7 (.cells #[.pointer none, .int .i64 0, .int .i64 0] 59))
              have HTc := Lib.hid (HTc.out.below hBx)
              have HOf := Lib.hid (HOf.out.later hBx)
              have HBc := Lib.hid (HBc.out.trans (hBx.mono HBc.out.size))
              clear hBx
              generalize w7.alloc (.cells #[.pointer none, .int .i64 0, .int .i64 0] 59) = wz at HBc HQ HTc HOf ⊢
              generalize w7.heap.size = q at HQ hqs ⊢
              refine hK.out _ _ ⟨cell_later HBc.out y0, cell_later HBc.out y1, cell_later HBc.out y2⟩ (fun hHeld => ?_)
              clear hK K
              try simp only [Act.put, List.setIfInBounds_toArray, List.set_cons_zero, List.set_cons_succ]
              rename World => wf
        all_goals
          refine hd_step 8 (by kernel_rfl) rfl (fun K hK => ?_)
          have z0 := row_cells (i := 0) HQ.out rfl
          have zw0 := row_warm HQ.out 0
          have z1 := row_cells (i := 1) HQ.out rfl
          have zw1 := row_warm HQ.out 1
          have z2 := row_cells (i := 2) HQ.out rfl
          have zw2 := row_warm HQ.out 2
          go_simp
          have hB9 : Below w4.heap.size w4 (((wf.setCell ⟨q, 0, none⟩ (.pointer ga)).setCell ⟨q, 1, none⟩ (.int .i64 cr)).setCell ⟨q, 2, none⟩ (.int .i64 cc)) := ((HBc.out.setCell (by show w4.heap.size ≤ q; exact hqs) _).setCell (by show w4.heap.size ≤ q; exact hqs) _).setCell (by show w4.heap.size ≤ q; exact hqs) _
          refine hK.out _ _ ⟨cell_later hB9 y0, cell_later hB9 y1, cell_later hB9 y2⟩ (fun hHeld => ?_)
          clear hK K
          try simp only [Act.put, List.setIfInBounds_toArray, List.set_cons_zero, List.set_cons_succ]
          refine wpAnyH_done (by kernel_rfl) ?_ _
          have hof := HOf.out.put HQ.out (.pointer ga) (.int .i64 cr) (.int .i64 cc)
          have hq9 : (((wf.setCell ⟨q, 0, none⟩ (.pointer ga)).setCell ⟨q, 1, none⟩ (.int .i64 cr)).setCell ⟨q, 2, none⟩ (.int .i64 cc)).heap[q]? = some (.cells #[.pointer ga, .int .i64 cr, .int .i64 cc] 59 (0, 0)) := heap_setCell_same _ _ _ _ _ _ (heap_setCell_same _ _ _ _ _ _ (heap_setCell_same _ _ _ _ _ _ HQ.out))
          have HBf := Lib.hid hB9
          clear hHeld hB9 z0 z1 z2 zw0 zw1 zw2 HQ HOf HBc HTc
          generalize (((wf.setCell ⟨q, 0, none⟩ (.pointer ga)).setCell ⟨q, 1, none⟩ (.int .i64 cr)).setCell ⟨q, 2, none⟩ (.int .i64 cc)) = w9 at hof hq9 HBf ⊢
          go_wp2_with fail
          go_meet
          case rel => exact ⟨q, ga, cr, cc, rfl, hq9, hqs, HBf.out, hof⟩
      case rest =>
      obtain ⟨q, ga, cr, cc, hqq, hq9, hqs, HBf, hof⟩ := hcut
      subst hqq
      rename World => w9
      have HB9 := Lib.hid (HB4.out.trans (HBf.mono HB4.out.size))
      have HQ := Lib.hid hq9
      have HR9 := Lib.hid (HR4.out.below HBf)
      have HP9 := Lib.hid (HP3.out.below HB9.out)
      have HS9 := Lib.hid (HS3.out.below HB9.out)
      have HBw := Lib.hid (HB3.out.trans (HB9.out.mono HB3.out.size))
      clear y0 y1 y2 hq9 HBf HR4 HB4 HP3 HS3
      have y0 := cell_later HB9.out (row_cells (i := 0) HN3.out rfl)
      have y1 := cell_later HB9.out (row_cells (i := 1) HN3.out rfl)
      have y2 := cell_later HB9.out (row_cells (i := 2) HN3.out rfl)
      rcases hof with ⟨hbad, rfl, rfl, rfl⟩ | ⟨n, m, gb, lb, rfl, rfl, h1, h2, h3, h4, rfl, h8, h9, hG⟩
      · go_wp2_with fail
        refine (dof_none HP9.out HS9.out c hbad).mono ?_
        rintro e w10 ⟨rfl, hB10⟩
        have HBw := Lib.hid (HBw.out.trans (hB10.mono HBw.out.size))
        have hx := below1 w10 (.cells #[.slice none 0 0, .int .i64 0, .int .i64 0] 66)
        have HX := Lib.hid (heap_alloc_new w10 (.cells #[.slice none 0 0, .int .i64 0, .int .i64 0] 66))
        have HQ := Lib.hid ((hx.block _ (row_len ((hB10.block _ (row_len HQ.out)).trans HQ.out))).trans ((hB10.block _ (row_len HQ.out)).trans HQ.out))
        have HBw := Lib.hid (HBw.out.trans (hx.mono HBw.out.size))
        clear hB10 hx y0 y1 y2 hbad
        go_upto_region 9 with fail
        generalize w10.alloc (.cells #[.slice none 0 0, .int .i64 0, .int .i64 0] 66) = w11 at HX HQ HBw ⊢
        generalize w10.heap.size = q2 at HX ⊢
        have s0 := row_cells (i := 0) HQ.out rfl
        have s1 := row_cells (i := 1) HQ.out rfl
        have s2 := row_cells (i := 2) HQ.out rfl
        have x0 := row_cells (i := 0) HX.out rfl
        have x1 := row_cells (i := 1) HX.out rfl
        have x2 := row_cells (i := 2) HX.out rfl
        go_wp2_with fail
        refine (same29_any (fun W _ => same27_nil W)).mono ?_
        rintro e w12 ⟨rfl, hB12⟩
        have s0 := cell_later hB12 s0
        have s1 := cell_later hB12 s1
        have s2 := cell_later hB12 s2
        have x0 := cell_later hB12 x0
        have HBw := Lib.hid (HBw.out.trans (hB12.mono HBw.out.size))
        clear hB12
        go_wp2_with fail
        refine (stext_nil w12 0 0).mono ?_
        rintro e w13 ⟨rfl, hB13⟩
        have x0 := cell_later hB13 x0
        have HBw := Lib.hid (HBw.out.trans (hB13.mono HBw.out.size))
        clear hB13
        go_wp2_with fail
        go_loopw [11] (fun iv wr => iv = .int .i64 0 ∧ wr = w13) (fun _ _ => 0)
        case atStart => exact ⟨rfl, rfl⟩
        case round =>
          obtain ⟨rfl, rfl⟩ := hrel
          go_wp2_with fail
          refine (fin29 HBw.out).mono ?_
          rintro e w' ⟨rfl, hB⟩
          have HBz := Lib.hid hB
          clear hB
          go_wp2_with fail
          go_ret
          exact ⟨rfl, HBz.out⟩
      · obtain ⟨n1, hn1⟩ : ∃ n1, n1 = n := ⟨_, rfl⟩
        have HG9 := Lib.hid hG
        have HSz := Lib.hid (fun h => scG_sz R HPk.out HPl.out (show (s.take 100).length ≤ 100 by rw [List.length_take]; omega) (n := n) (m := m) (k := curK R (fewP P) (s.take 100) c) h4 h)
        clear hn1 n1 hG
        go_wp2_with fail
        refine (dof_yes HTk.out HR9.out HP9.out HPk.out HPl.out HS9.out HOk.out (by rw [List.length_take]; omega) c h1 h2 h3 h4).mono ?_
        rintro e w10 ⟨B, ob, ocap, rb, rc, rfl, hB10, hH⟩
        rw [← h8, ← h9]
        have hgl := scG_len (viewG R (fewP P) (s.take 100)) n m (curK R (fewP P) (s.take 100) c)
        generalize scG (viewG R (fewP P) (s.take 100)) n m (curK R (fewP P) (s.take 100) c) = G at HG9 HSz hH hgl
        have HGs := Lib.hid (HSz.out HG9.out.shape)
        have hGp : 0 < G.length := by omega
        have hmp : 0 < m := by omega
        have HH := Lib.hid (fun (W : World) (hb : Below w10.heap.size w10 W) => hH.kept hGp (P := fun _ => False) (.of_below hb) id fun _ _ => id)
        have HG := Lib.hid (fun (W : World) (hb : Below w9.heap.size w9 W) => HG9.out.kept hGp hmp (P := fun _ => False) (.of_below hb) id id)
        have HBw := Lib.hid (HBw.out.trans (hB10.mono HBw.out.size))
        have hx := below1 w10 (.cells #[.slice (some ⟨ob, 0, none⟩) n ocap, .int .i64 cr, .int .i64 cc] 66)
        have HX := Lib.hid (heap_alloc_new w10 (.cells #[.slice (some ⟨ob, 0, none⟩) n ocap, .int .i64 cr, .int .i64 cc] 66))
        have HQ := Lib.hid ((hx.block _ (row_len ((hB10.block _ (row_len HQ.out)).trans HQ.out))).trans ((hB10.block _ (row_len HQ.out)).trans HQ.out))
        have HBw := Lib.hid (HBw.out.trans (hx.mono HBw.out.size))
        have HG11 := Lib.hid (HG.out _ (hB10.trans (hx.mono hB10.size)))
        have HH11 := Lib.hid (HH.out _ hx)
        clear hB10 hx y0 y1 y2 h8 h9 hH HG9 HSz
        go_upto_region 9 with fail
        generalize w10.alloc (.cells #[.slice (some ⟨ob, 0, none⟩) n ocap, .int .i64 cr, .int .i64 cc] 66) = w11 at HX HQ HBw HG11 HH11 ⊢
        generalize w10.heap.size = q2 at HX ⊢
        have s0 := row_cells (i := 0) HQ.out rfl
        have s1 := row_cells (i := 1) HQ.out rfl
        have s2 := row_cells (i := 2) HQ.out rfl
        have x0 := row_cells (i := 0) HX.out rfl
        have x1 := row_cells (i := 1) HX.out rfl
        have x2 := row_cells (i := 2) HX.out rfl
        have HSm := Lib.hid (fun (W : World) (hb : Below w11.heap.size w11 W) => same27_yes gb lb m (n * m) B ob ocap rb rc G W (HG11.out.kept hGp hmp (P := fun _ => False) (.of_below hb) id id) (HH11.out.kept hGp (P := fun _ => False) (.of_below hb) id fun _ _ => id) hGp hmp)
        rw [hgl] at HSm
        go_wp2_with fail
        refine (same29_any HSm.out).mono ?_
        rintro e w12 ⟨rfl, hB12⟩
        have s0 := cell_later hB12 s0
        have s1 := cell_later hB12 s1
        have s2 := cell_later hB12 s2
        have x0 := cell_later hB12 x0
        have HG12 := Lib.hid (HG11.out.kept hGp hmp (P := fun _ => False) (.of_below hB12) id id)
        have HH12 := Lib.hid (HH11.out.kept hGp (P := fun _ => False) (.of_below hB12) id fun _ _ => id)
        have HBw := Lib.hid (HBw.out.trans (hB12.mono HBw.out.size))
        clear hB12 x1 x2 HSm HG11 HH11 HH HG
        go_wp2_with fail
        refine (stext_any HG12.out hGp hmp h4 (by omega) HGs.out).mono ?_
        rintro e w13 ⟨u, rfl, hB13, hO13⟩
        have x0 := cell_later hB13 x0
        have HH13 := Lib.hid (HH12.out.kept hGp (P := fun _ => False) (.of_below hB13) id fun _ _ => id)
        have HBw := Lib.hid (HBw.out.trans (hB13.mono HBw.out.size))
        have HU := Lib.hid (strs_of_owns (l := G.map txtC) hO13 (by rw [List.length_map]))
        obtain ⟨ua, uc, rfl, _, _⟩ := strs_shape HU.out
        rw [List.length_map, hgl]
        have HGl := Lib.hid hgl
        clear hB13 hO13 s0 s1 s2 HG12 HH12 hgl
        go_wp2_with fail
        go_loopw [11] (fun iv wr => ∃ k : Nat, k ≤ n ∧ iv = .int .i64 ((k : Nat) : Int) ∧ Below w13.heap.size w13 wr) (fun iv _ => n - (intOf iv).toNat)
        case atStart => exact ⟨0, Nat.zero_le _, rfl, .refl _ _⟩
        case round =>
          obtain ⟨k, hk, rfl, hB⟩ := hrel
          have HB := Lib.hid hB
          by_cases hlt : k < n
          · obtain ⟨l, hl⟩ : ∃ l, G[k]? = some l := ⟨_, List.getElem?_eq_getElem (by rw [HGl.out]; exact hlt)⟩
            have hrow := (HH13.out.kept hGp (P := fun _ => False) (.of_below hB) id fun _ _ => id).row hl
            obtain ⟨b, off, _, hv, _, _, _, _, d0⟩ := strs_cell (HU.out.below hB) (k := k) (t := txtC l) (by rw [List.getElem?_map, hl]; rfl)
            rw [List.length_map, HGl.out] at hv
            cases hv
            obtain ⟨hlm, _, _, o0, hRR, _, _, _⟩ := hrow
            have hls := HGs.out l (List.mem_of_getElem? hl)
            have x0k := cell_later hB x0
            have HTx := Lib.hid (fun (W : World) (hb : Below wr.heap.size wr W) => rtext_any (w := W) (rb := rb k) (cap := rc k) (l := l) (hRR.same (hb.block _ (hRR.lt (k := 0) (by omega)))))
            have r0 : (k : Int) < (n : Int) := by omega
            have r1 : (0 : Int) ≤ (k : Int) := by omega
            have e2 := IntWalk.i64_in ((k : Int) + 1) (by omega)
            clear hB hRR
            go_upto_region 17 with fail
            refine wp_region_held_drew (S := fun w' => w'.cell? ⟨b, off + k, none⟩ = some (.string (txtC l)) ∧ w'.cell? ⟨q2, 0, none⟩ = some (.slice (some ⟨ob, 0, none⟩) n ocap) ∧ w'.cell? ⟨ob, k, none⟩ = some (.slice (some ⟨rb k, 0, none⟩) m (rc k))) (by kernel_rfl) ⟨d0, x0k, o0⟩ (fun hHeld => ?_)
            refine hd_take 0 rfl (by kernel_rfl) (by kernel_rfl) (by kernel_rfl) (fun _ _ _ h => h) (by rfl) (by intro w hSw; (try dsimp only at hSw); obtain ⟨hs1, hs2, hs3⟩ := hSw; go_simp; first | done | with_reducible rfl) hHeld ?_
            try simp only [Act.put, List.setIfInBounds_toArray, List.set_cons_zero, List.set_cons_succ]
            refine hd_take 1 rfl (by kernel_rfl) (by kernel_rfl) (by kernel_rfl) (fun _ _ _ h => h) (by rfl) (by intro w hSw; (try dsimp only at hSw); obtain ⟨hs1, hs2, hs3⟩ := hSw; go_simp; first | done | with_reducible rfl) hHeld ?_
            try simp only [Act.put, List.setIfInBounds_toArray, List.set_cons_zero, List.set_cons_succ]
            refine hd_take 2 rfl (by kernel_rfl) (by kernel_rfl) (by kernel_rfl) (fun _ _ _ h => h) (by rfl) (by intro w hSw; (try dsimp only at hSw); obtain ⟨hs1, hs2, hs3⟩ := hSw; go_simp; first | done | with_reducible rfl) hHeld ?_
            try simp only [Act.put, List.setIfInBounds_toArray, List.set_cons_zero, List.set_cons_succ]
            refine hd_take 3 rfl (by kernel_rfl) (by kernel_rfl) (by kernel_rfl) (fun _ _ _ h => h) (by rfl) (by intro w hSw; (try dsimp only at hSw); obtain ⟨hs1, hs2, hs3⟩ := hSw; go_simp; first | done | with_reducible rfl) hHeld ?_
            try simp only [Act.put, List.setIfInBounds_toArray, List.set_cons_zero, List.set_cons_succ]
            refine hd_take 4 rfl (by kernel_rfl) (by kernel_rfl) (by kernel_rfl) (fun _ _ _ h => h) (by rfl) (by intro w hSw; (try dsimp only at hSw); obtain ⟨hs1, hs2, hs3⟩ := hSw; go_simp; first | done | with_reducible rfl) hHeld ?_
            try simp only [Act.put, List.setIfInBounds_toArray, List.set_cons_zero, List.set_cons_succ]
            refine hd_take 5 rfl (by kernel_rfl) (by kernel_rfl) (by kernel_rfl) (fun _ _ _ h => h) (by rfl) (by intro w hSw; (try dsimp only at hSw); obtain ⟨hs1, hs2, hs3⟩ := hSw; go_simp; first | done | with_reducible rfl) hHeld ?_
            try simp only [Act.put, List.setIfInBounds_toArray, List.set_cons_zero, List.set_cons_succ]
            refine hd_take 6 rfl (by kernel_rfl) (by kernel_rfl) (by kernel_rfl) (fun _ _ _ h => h) (by rfl) (by intro w hSw; (try dsimp only at hSw); obtain ⟨hs1, hs2, hs3⟩ := hSw; go_simp; first | done | with_reducible rfl) hHeld ?_
            try simp only [Act.put, List.setIfInBounds_toArray, List.set_cons_zero, List.set_cons_succ]
            refine hd_take 7 rfl (by kernel_rfl) (by kernel_rfl) (by kernel_rfl) (fun _ _ _ h => h) (by rfl) (by intro w hSw; (try dsimp only at hSw); obtain ⟨hs1, hs2, hs3⟩ := hSw; go_simp; first | done | with_reducible rfl) hHeld ?_
            try simp only [Act.put, List.setIfInBounds_toArray, List.set_cons_zero, List.set_cons_succ]
            refine hd_take 8 rfl (by kernel_rfl) (by kernel_rfl) (by kernel_rfl) (fun _ _ _ h => h) (by rfl) (by intro w hSw; (try dsimp only at hSw); obtain ⟨hs1, hs2, hs3⟩ := hSw; go_simp; first | done | with_reducible rfl) hHeld ?_
            try simp only [Act.put, List.setIfInBounds_toArray, List.set_cons_zero, List.set_cons_succ]
            refine hd_step 9 (by kernel_rfl) rfl (fun K hK => ?_)
            go_simp
            go_at_call 27
            rw [← hlm]
            refine (HTx.out wr.drew (below_dN (.refl _ _) 1) (by omega) hls).mono ?_
            rintro e w14 ⟨rfl, hB14⟩
            have hB14 : Below wr.heap.size wr w14 := (below_dN (.refl _ _) 1).trans hB14
            have HBr := Lib.hid (HB.out.trans (hB14.mono HB.out.size))
            go_wp2_with fail
            refine hK.out _ _ ⟨cell_later hB14 d0, cell_later hB14 x0k, cell_later hB14 o0⟩ (fun hHeld => ?_)
            clear hK K
            try simp only [Act.put, List.setIfInBounds_toArray, List.set_cons_zero, List.set_cons_succ]
            refine hd_take 10 rfl (by kernel_rfl) (by kernel_rfl) (by kernel_rfl) (fun _ _ _ h => h) (by rfl) (by intro w hSw; (try dsimp only at hSw); obtain ⟨hs1, hs2, hs3⟩ := hSw; go_simp; first | done | with_reducible rfl) hHeld ?_
            try simp only [Act.put, List.setIfInBounds_toArray, List.set_cons_zero, List.set_cons_succ]
            refine wpAnyH_done (by kernel_rfl) ?_ _
            clear hHeld d0 x0k o0 HTx hB14
            go_wp2_with fail
            go_roundw
            case rel => exact ⟨k + 1, by omega, by go_num, HBr.out⟩
            case measure => simp [intOf] <;> omega
          · have s0 : ¬ k < n := hlt
            clear hB hlt hk
            go_wp2_with fail
            refine (fin29 (HBw.out.trans (HB.out.mono HBw.out.size))).mono ?_
            rintro e w' ⟨rfl, hB⟩
            have HBz := Lib.hid hB
            clear hB
            go_wp2_with fail
            go_ret
            exact ⟨rfl, HBz.out⟩
end Go.Proofs.YtkeainhjghdfcaaGreat
