/- Joined texts: ScrN. -/
import Derived.Deep.CutRange
import Derived.Test.YtkeainhjghdfcaaGreatSwbk
import Derived.Test.YtkeainhjghdfcaaGreatSwbh
import Derived.Test.YtkeainhjghdfcaaGreatSwac
import Derived.Test.YtkeainhjghdfcaaGreatSwab

/- ScreenWhole: its walk. (Printed by gen_swhole.py.) -/
namespace Go.Proofs.YtkeainhjghdfcaaGreat
open Go.RowKit

set_option maxRecDepth 100000 in
set_option maxHeartbeats 16000000 in
theorem screenWhole_any {P : List (List Int)} {s : List Int} {w : World} {pv sv : Value} (hP : TextsIn w pv P) (hPo : ∀ p ∈ P, RunesOk p) (hs : RunesIn w sv s) (ok : RunesOk s) (c cols : Int) :
    Calls Tryz.prog 7 #[.agg #[pv, sv, .int .i64 c], .int .i64 cols] w fun e w' => e = .returned (.bool true) ∧ Below w.heap.size w w' := by
  obtain ⟨R, HFc, hwd, hrows⟩ := flatRows_any
  have HF := Lib.hid HFc
  have HRows := Lib.hid hrows
  have HTk := Lib.hid HFc.seg.tab
  clear HFc hrows
  obtain ⟨sl, scap, rfl, _, _, _⟩ := runes_cells hs
  obtain ⟨pa, pcap, rfl, _, _⟩ := texts_shape hP
  have hba := below1 w (.cells #[.slice pa P.length pcap, .slice sl s.length scap, .int .i64 c] 53)
  have hna := heap_alloc_new w (.cells #[.slice pa P.length pcap, .slice sl s.length scap, .int .i64 c] 53)
  have HBa := Lib.hid hba
  have HNa := Lib.hid hna
  have HFew := Lib.hid (few29_own hba hP hs c)
  have HPk := Lib.hid (fewP_ok hPo)
  have HOk := Lib.hid (show RunesOk (s.take 100) from ok.take 100)
  have HPl := Lib.hid (fewP_len P)
  have hsl : (s.take 100).length ≤ 100 := by rw [List.length_take]; omega
  clear hba hna hP hs hPo ok
  go_enter Tryz.func7, Tryz.ntmps7
  go_upto_region 1 with fail
  generalize w.alloc (.cells #[.slice pa P.length pcap, .slice sl s.length scap, .int .i64 c] 53) = w1 at HBa HNa HFew ⊢
  have y0 := row_cells (i := 0) HNa.out rfl
  have y1 := row_cells (i := 1) HNa.out rfl
  have y2 := row_cells (i := 2) HNa.out rfl
  go_wp2_with fail
  refine HFew.out.mono ?_
  rintro e w2 ⟨pv', sv', rfl, hB2, vs, hO2, hln, hel, hs2⟩
  obtain ⟨oa, oc, rfl⟩ := slice_of_owns hO2
  obtain ⟨sa, sc, rfl, _, _, _⟩ := runes_cells hs2
  generalize hvn : vs.length = vn at hO2 ⊢
  generalize hsn : (s.take 100).length = sn at hs2 hsl ⊢
  have HVn := Lib.hid hvn
  have HSn := Lib.hid hsn
  have HLn := Lib.hid hln
  clear hvn hsn hln
  have hpl := row_len HNa.out
  have hrp := (hB2.block _ hpl).trans HNa.out
  have z0 := row_cells (i := 0) hrp rfl
  have z1 := row_cells (i := 1) hrp rfl
  have z2 := row_cells (i := 2) hrp rfl
  have zw0 := row_warm hrp 0
  have zw1 := row_warm hrp 1
  have zw2 := row_warm hrp 2
  go_upto_region 2 with fail
  have hB3 : Below w.heap.size w (((w2.setCell ⟨w.heap.size, 0, none⟩ (.slice oa vn oc)).setCell ⟨w.heap.size, 1, none⟩ (.slice sa sn sc)).setCell ⟨w.heap.size, 2, none⟩ (.int .i64 c)) :=
    (((HBa.out.trans (hB2.mono HBa.out.size)).setCell (Nat.le_refl _) _).setCell (Nat.le_refl _) _).setCell (Nat.le_refl _) _
  have hn3 : (((w2.setCell ⟨w.heap.size, 0, none⟩ (.slice oa vn oc)).setCell ⟨w.heap.size, 1, none⟩ (.slice sa sn sc)).setCell ⟨w.heap.size, 2, none⟩ (.int .i64 c)).heap[w.heap.size]? = some (.cells #[.slice oa vn oc, .slice sa sn sc, .int .i64 c] 53 (0, 0)) :=
    heap_setCell_same _ _ _ _ _ _ (heap_setCell_same _ _ _ _ _ _ (heap_setCell_same _ _ _ _ _ _ hrp))
  have hO3 : (((w2.setCell ⟨w.heap.size, 0, none⟩ (.slice oa vn oc)).setCell ⟨w.heap.size, 1, none⟩ (.slice sa sn sc)).setCell ⟨w.heap.size, 2, none⟩ (.int .i64 c)).ownsRow w1.heap.size 35 1 (.slice oa vn oc) vn vs := owns_store (owns_store (owns_store hO2 hpl) hpl) hpl
  have HP3 := Lib.hid (texts_of_own2 hO3 HVn.out hB3 HLn.out hel)
  have HS3 := Lib.hid (hs2.below hB3)
  have HB3 := Lib.hid hB3
  have HN3 := Lib.hid hn3
  clear hO3 hn3 hB3 hrp z0 z1 z2 zw0 zw1 zw2 hO2 hel hs2 hB2 y0 y1 y2 HFew HBa HNa hpl
  generalize ((w2.setCell ⟨w.heap.size, 0, none⟩ (.slice oa vn oc)).setCell ⟨w.heap.size, 1, none⟩ (.slice sa sn sc)).setCell ⟨w.heap.size, 2, none⟩ (.int .i64 c) = w3 at HP3 HS3 HB3 HN3 ⊢
  have y0 := row_cells (i := 0) HN3.out rfl
  have y1 := row_cells (i := 1) HN3.out rfl
  have y2 := row_cells (i := 2) HN3.out rfl
  have e1 : bits .and .i64 cols 31 = cols % 32 := i64_and_mask 5 (by decide) cols
  obtain ⟨m, hm⟩ : ∃ m : Nat, (m : Int) = 2 + cols % 32 := ⟨(2 + cols % 32).toNat, by omega⟩
  have e4 := IntWalk.i64_in (2 + cols % 32) (by omega)
  have m1 : 2 ≤ m := by omega
  have m2 : m ≤ 1000 := by omega
  go_upto_region 3 with fail
  rw [← hm]
  clear e1 e4 hm
  go_wp2_with fail
  refine (HRows.out _).mono ?_
  rintro e w4 ⟨v, rfl, hB4, hR⟩
  have HR4 := Lib.hid hR
  have HB4 := Lib.hid hB4
  clear hB4 hR y0 y1 y2
  have y0 := cell_later HB4.out (row_cells (i := 0) HN3.out rfl)
  have y1 := cell_later HB4.out (row_cells (i := 1) HN3.out rfl)
  have y2 := cell_later HB4.out (row_cells (i := 2) HN3.out rfl)
  go_upto_region 4 with fail
  go_cut [6] from 28 to 33 (fun r wx => ∃ (q gb lb : Nat) (cr cc : Int), r = .pointer (some ⟨q, 0, none⟩) ∧ wx.heap[q]? = some (.cells #[.pointer (some ⟨gb, 0, none⟩), .int .i64 cr, .int .i64 cc] 59 (0, 0)) ∧ w4.heap.size ≤ q ∧ Below w4.heap.size w4 wx ∧ GridG wx gb lb m (500 * m) (scG (viewG R (fewP P) (s.take 100)) 500 m (curK R (fewP P) (s.take 100) c)))
  case first =>
    refine wp_region_held_drew (S := fun w' => w'.cell? ⟨w.heap.size, 0, none⟩ = some (.slice oa vn oc) ∧ w'.cell? ⟨w.heap.size, 1, none⟩ = some (.slice sa sn sc) ∧ w'.cell? ⟨w.heap.size, 2, none⟩ = some (.int .i64 c)) (by kernel_rfl) ⟨y0, y1, y2⟩ (fun hHeld => ?_)
    obtain ⟨wd, hwd⟩ : ∃ wd, wd = w4.drew := ⟨_, rfl⟩
    rw [← hwd] at hHeld ⊢
    have HBc := Lib.hid (show Below w4.heap.size w4 wd by rw [hwd]; exact below_dN (.refl _ _) 1)
    clear hwd
    refine hd_take 0 rfl (by kernel_rfl) (by kernel_rfl) (by kernel_rfl) (fun _ _ _ h => h) (by rfl) (by intro w hSw; (try dsimp only at hSw); obtain ⟨hs1, hs2, hs3⟩ := hSw; go_simp; first | done | with_reducible rfl) hHeld ?_
    try simp only [Act.put, List.setIfInBounds_toArray, List.set_cons_zero, List.set_cons_succ]
    refine hd_take 2 rfl (by kernel_rfl) (by kernel_rfl) (by kernel_rfl) (fun _ _ _ h => h) (by rfl) (by intro w hSw; (try dsimp only at hSw); obtain ⟨hs1, hs2, hs3⟩ := hSw; go_simp; first | done | with_reducible rfl) hHeld ?_
    try simp only [Act.put, List.setIfInBounds_toArray, List.set_cons_zero, List.set_cons_succ]
    refine hd_take 4 rfl (by kernel_rfl) (by kernel_rfl) (by kernel_rfl) (fun _ _ _ h => h) (by rfl) (by intro w hSw; (try dsimp only at hSw); obtain ⟨hs1, hs2, hs3⟩ := hSw; go_simp; first | done | with_reducible rfl) hHeld ?_
    try simp only [Act.put, List.setIfInBounds_toArray, List.set_cons_zero, List.set_cons_succ]
    refine hd_two 1 6 (by kernel_rfl) rfl rfl (fun K hK => ?_) (fun K hK => ?_)
    case' refine_2 =>
      go_simp
      have hqs := HBc.out.size
      have hBx := below1 wd (.cells #[.pointer none, .int .i64 0, .int .i64 0] 59)
      have HQ := Lib.hid (heap_alloc_new wd (.cells #[.pointer none, .int .i64 0, .int .i64 0] 59))
      have HBc := Lib.hid (HBc.out.trans (hBx.mono HBc.out.size))
      clear hBx
      generalize wd.alloc (.cells #[.pointer none, .int .i64 0, .int .i64 0] 59) = wz at HBc HQ ⊢
      generalize wd.heap.size = q at HQ hqs ⊢
      refine hK.out _ _ ⟨cell_later HBc.out y0, cell_later HBc.out y1, cell_later HBc.out y2⟩ (fun hHeld => ?_)
      clear hK K
      try simp only [Act.put, List.setIfInBounds_toArray, List.set_cons_zero, List.set_cons_succ]
      refine hd_step 1 (by kernel_rfl) rfl (fun K hK => ?_)
      go_simp
      go_at_call 19
      refine (build_tb v R _ (HR4.out.below HBc.out) HF.out.ok).mono ?_
      rintro e w5 ⟨tp, rfl, hBx, hT⟩
      have HQ := Lib.hid ((hBx.block _ (row_len HQ.out)).trans HQ.out)
      have HBc := Lib.hid (HBc.out.trans (hBx.mono HBc.out.size))
      have HTc := Lib.hid hT
      clear hT
      clear hBx
      go_wp2_with fail
      refine hK.out _ _ ⟨cell_later HBc.out y0, cell_later HBc.out y1, cell_later HBc.out y2⟩ (fun hHeld => ?_)
      clear hK K
      try simp only [Act.put, List.setIfInBounds_toArray, List.set_cons_zero, List.set_cons_succ]
      refine hd_step 3 (by kernel_rfl) rfl (fun K hK => ?_)
      go_simp
      go_at_call 23
      refine (view29_any _ _ _ _ _ _ c _).mono ?_
      rintro e w6 ⟨rfl, hBx⟩
      have HTc := Lib.hid (HTc.out.below hBx)
      have HQ := Lib.hid ((hBx.block _ (row_len HQ.out)).trans HQ.out)
      have HBc := Lib.hid (HBc.out.trans (hBx.mono HBc.out.size))
      clear hBx
      go_wp2_with fail
      refine hK.out _ _ ⟨cell_later HBc.out y0, cell_later HBc.out y1, cell_later HBc.out y2⟩ (fun hHeld => ?_)
      clear hK K
      try simp only [Act.put, List.setIfInBounds_toArray, List.set_cons_zero, List.set_cons_succ]
      refine hd_step 5 (by kernel_rfl) rfl (fun K hK => ?_)
      go_simp
      go_at_call 22
      refine (sof_any HTk.out HTc.out (HP3.out.below (HB4.out.trans (HBc.out.mono HB4.out.size))) HPk.out HPl.out (HS3.out.below (HB4.out.trans (HBc.out.mono HB4.out.size))) HOk.out (by rw [List.length_take]; omega) c _ _ (by omega)).mono ?_
      rintro e w7 ⟨ga, cr, cc, rfl, hBx, hOf⟩
      have HTc := Lib.hid (HTc.out.below hBx)
      have HQ := Lib.hid ((hBx.block _ (row_len HQ.out)).trans HQ.out)
      have HBc := Lib.hid (HBc.out.trans (hBx.mono HBc.out.size))
      have HOf := Lib.hid hOf
      clear hOf
      clear hBx
      go_wp2_with fail
      refine hK.out _ _ ⟨cell_later HBc.out y0, cell_later HBc.out y1, cell_later HBc.out y2⟩ (fun hHeld => ?_)
      clear hK K
      try simp only [Act.put, List.setIfInBounds_toArray, List.set_cons_zero, List.set_cons_succ]
      rename World => wf
    case' refine_1 =>
      go_simp
      go_at_call 19
      refine (build_tb v R _ (HR4.out.below HBc.out) HF.out.ok).mono ?_
      rintro e w5 ⟨tp, rfl, hBx, hT⟩
      have HBc := Lib.hid (HBc.out.trans (hBx.mono HBc.out.size))
      have HTc := Lib.hid hT
      clear hT
      clear hBx
      go_wp2_with fail
      refine hK.out _ _ ⟨cell_later HBc.out y0, cell_later HBc.out y1, cell_later HBc.out y2⟩ (fun hHeld => ?_)
      clear hK K
      try simp only [Act.put, List.setIfInBounds_toArray, List.set_cons_zero, List.set_cons_succ]
      refine hd_two 3 6 (by kernel_rfl) rfl rfl (fun K hK => ?_) (fun K hK => ?_)
      case' refine_2 =>
        go_simp
        have hqs := HBc.out.size
        have hBx := below1 w5 (.cells #[.pointer none, .int .i64 0, .int .i64 0] 59)
        have HQ := Lib.hid (heap_alloc_new w5 (.cells #[.pointer none, .int .i64 0, .int .i64 0] 59))
        have HTc := Lib.hid (HTc.out.below hBx)
        have HBc := Lib.hid (HBc.out.trans (hBx.mono HBc.out.size))
        clear hBx
        generalize w5.alloc (.cells #[.pointer none, .int .i64 0, .int .i64 0] 59) = wz at HBc HQ HTc ⊢
        generalize w5.heap.size = q at HQ hqs ⊢
        refine hK.out _ _ ⟨cell_later HBc.out y0, cell_later HBc.out y1, cell_later HBc.out y2⟩ (fun hHeld => ?_)
        clear hK K
        try simp only [Act.put, List.setIfInBounds_toArray, List.set_cons_zero, List.set_cons_succ]
        refine hd_step 3 (by kernel_rfl) rfl (fun K hK => ?_)
        go_simp
        go_at_call 23
        refine (view29_any _ _ _ _ _ _ c _).mono ?_
        rintro e w6 ⟨rfl, hBx⟩
        have HTc := Lib.hid (HTc.out.below hBx)
        have HQ := Lib.hid ((hBx.block _ (row_len HQ.out)).trans HQ.out)
        have HBc := Lib.hid (HBc.out.trans (hBx.mono HBc.out.size))
        clear hBx
        go_wp2_with fail
        refine hK.out _ _ ⟨cell_later HBc.out y0, cell_later HBc.out y1, cell_later HBc.out y2⟩ (fun hHeld => ?_)
        clear hK K
        try simp only [Act.put, List.setIfInBounds_toArray, List.set_cons_zero, List.set_cons_succ]
        refine hd_step 5 (by kernel_rfl) rfl (fun K hK => ?_)
        go_simp
        go_at_call 22
        refine (sof_any HTk.out HTc.out (HP3.out.below (HB4.out.trans (HBc.out.mono HB4.out.size))) HPk.out HPl.out (HS3.out.below (HB4.out.trans (HBc.out.mono HB4.out.size))) HOk.out (by rw [List.length_take]; omega) c _ _ (by omega)).mono ?_
        rintro e w7 ⟨ga, cr, cc, rfl, hBx, hOf⟩
        have HTc := Lib.hid (HTc.out.below hBx)
        have HQ := Lib.hid ((hBx.block _ (row_len HQ.out)).trans HQ.out)
        have HBc := Lib.hid (HBc.out.trans (hBx.mono HBc.out.size))
        have HOf := Lib.hid hOf
        clear hOf
        clear hBx
        go_wp2_with fail
        refine hK.out _ _ ⟨cell_later HBc.out y0, cell_later HBc.out y1, cell_later HBc.out y2⟩ (fun hHeld => ?_)
        clear hK K
        try simp only [Act.put, List.setIfInBounds_toArray, List.set_cons_zero, List.set_cons_succ]
        rename World => wf
      case' refine_1 =>
        go_simp
        go_at_call 23
        refine (view29_any _ _ _ _ _ _ c _).mono ?_
        rintro e w6 ⟨rfl, hBx⟩
        have HTc := Lib.hid (HTc.out.below hBx)
        have HBc := Lib.hid (HBc.out.trans (hBx.mono HBc.out.size))
        clear hBx
        go_wp2_with fail
        refine hK.out _ _ ⟨cell_later HBc.out y0, cell_later HBc.out y1, cell_later HBc.out y2⟩ (fun hHeld => ?_)
        clear hK K
        try simp only [Act.put, List.setIfInBounds_toArray, List.set_cons_zero, List.set_cons_succ]
        refine hd_two 5 6 (by kernel_rfl) rfl rfl (fun K hK => ?_) (fun K hK => ?_)
        case' refine_2 =>
          go_simp
          have hqs := HBc.out.size
          have hBx := below1 w6 (.cells #[.pointer none, .int .i64 0, .int .i64 0] 59)
          have HQ := Lib.hid (heap_alloc_new w6 (.cells #[.pointer none, .int .i64 0, .int .i64 0] 59))
          have HTc := Lib.hid (HTc.out.below hBx)
          have HBc := Lib.hid (HBc.out.trans (hBx.mono HBc.out.size))
          clear hBx
          generalize w6.alloc (.cells #[.pointer none, .int .i64 0, .int .i64 0] 59) = wz at HBc HQ HTc ⊢
          generalize w6.heap.size = q at HQ hqs ⊢
          refine hK.out _ _ ⟨cell_later HBc.out y0, cell_later HBc.out y1, cell_later HBc.out y2⟩ (fun hHeld => ?_)
          clear hK K
          try simp only [Act.put, List.setIfInBounds_toArray, List.set_cons_zero, List.set_cons_succ]
          refine hd_step 5 (by kernel_rfl) rfl (fun K hK => ?_)
          go_simp
          go_at_call 22
          refine (sof_any HTk.out HTc.out (HP3.out.below (HB4.out.trans (HBc.out.mono HB4.out.size))) HPk.out HPl.out (HS3.out.below (HB4.out.trans (HBc.out.mono HB4.out.size))) HOk.out (by rw [List.length_take]; omega) c _ _ (by omega)).mono ?_
          rintro e w7 ⟨ga, cr, cc, rfl, hBx, hOf⟩
          have HTc := Lib.hid (HTc.out.below hBx)
          have HQ := Lib.hid ((hBx.block _ (row_len HQ.out)).trans HQ.out)
          have HBc := Lib.hid (HBc.out.trans (hBx.mono HBc.out.size))
          have HOf := Lib.hid hOf
          clear hOf
          clear hBx
          go_wp2_with fail
          refine hK.out _ _ ⟨cell_later HBc.out y0, cell_later HBc.out y1, cell_later HBc.out y2⟩ (fun hHeld => ?_)
          clear hK K
          try simp only [Act.put, List.setIfInBounds_toArray, List.set_cons_zero, List.set_cons_succ]
          rename World => wf
        case' refine_1 =>
          go_simp
          go_at_call 22
          refine (sof_any HTk.out HTc.out (HP3.out.below (HB4.out.trans (HBc.out.mono HB4.out.size))) HPk.out HPl.out (HS3.out.below (HB4.out.trans (HBc.out.mono HB4.out.size))) HOk.out (by rw [List.length_take]; omega) c _ _ (by omega)).mono ?_
          rintro e w7 ⟨ga, cr, cc, rfl, hBx, hOf⟩
          have HTc := Lib.hid (HTc.out.below hBx)
          have HBc := Lib.hid (HBc.out.trans (hBx.mono HBc.out.size))
          have HOf := Lib.hid hOf
          clear hOf
          clear hBx
          go_wp2_with fail
          refine hK.out _ _ ⟨cell_later HBc.out y0, cell_later HBc.out y1, cell_later HBc.out y2⟩ (fun hHeld => ?_)
          clear hK K
          try simp only [Act.put, List.setIfInBounds_toArray, List.set_cons_zero, List.set_cons_succ]
          refine hd_step 6 (by kernel_rfl) rfl (fun K hK => ?_)
          go_simp
          have hqs := HBc.out.size
          have hBx := below1 w7 (.cells #[.pointer none, .int .i64 0, .int .i64 0] 59)
          have HQ := Lib.hid (heap_alloc_new w7 (.cells #[.pointer none, .int .i64 0, .int .i64 0] 59))
          have HTc := Lib.hid (HTc.out.below hBx)
          have HOf := Lib.hid (HOf.out.later hBx)
          have HBc := Lib.hid (HBc.out.trans (hBx.mono HBc.out.size))
          clear hBx
          generalize w7.alloc (.cells #[.pointer none, .int .i64 0, .int .i64 0] 59) = wz at HBc HQ HTc HOf ⊢
          generalize w7.heap.size = q at HQ hqs ⊢
          refine hK.out _ _ ⟨cell_later HBc.out y0, cell_later HBc.out y1, cell_later HBc.out y2⟩ (fun hHeld => ?_)
          clear hK K
          try simp only [Act.put, List.setIfInBounds_toArray, List.set_cons_zero, List.set_cons_succ]
          rename World => wf
    all_goals
      refine hd_step 7 (by kernel_rfl) rfl (fun K hK => ?_)
      have z0 := row_cells (i := 0) HQ.out rfl
      have zw0 := row_warm HQ.out 0
      have z1 := row_cells (i := 1) HQ.out rfl
      have zw1 := row_warm HQ.out 1
      have z2 := row_cells (i := 2) HQ.out rfl
      have zw2 := row_warm HQ.out 2
      go_simp
      have hB9 : Below w4.heap.size w4 (((wf.setCell ⟨q, 0, none⟩ (.pointer ga)).setCell ⟨q, 1, none⟩ (.int .i64 cr)).setCell ⟨q, 2, none⟩ (.int .i64 cc)) := ((HBc.out.setCell (by show w4.heap.size ≤ q; exact hqs) _).setCell (by show w4.heap.size ≤ q; exact hqs) _).setCell (by show w4.heap.size ≤ q; exact hqs) _
      refine hK.out _ _ ⟨cell_later hB9 y0, cell_later hB9 y1, cell_later hB9 y2⟩ (fun hHeld => ?_)
      clear hK K
      try simp only [Act.put, List.setIfInBounds_toArray, List.set_cons_zero, List.set_cons_succ]
      refine wpAnyH_done (by kernel_rfl) ?_ _
      have hof := HOf.out.put HQ.out (.pointer ga) (.int .i64 cr) (.int .i64 cc)
      have hq9 : (((wf.setCell ⟨q, 0, none⟩ (.pointer ga)).setCell ⟨q, 1, none⟩ (.int .i64 cr)).setCell ⟨q, 2, none⟩ (.int .i64 cc)).heap[q]? = some (.cells #[.pointer ga, .int .i64 cr, .int .i64 cc] 59 (0, 0)) := heap_setCell_same _ _ _ _ _ _ (heap_setCell_same _ _ _ _ _ _ (heap_setCell_same _ _ _ _ _ _ HQ.out))
      have HBf := Lib.hid hB9
      clear hHeld hB9 z0 z1 z2 zw0 zw1 zw2 HQ HOf HBc HTc
      generalize (((wf.setCell ⟨q, 0, none⟩ (.pointer ga)).setCell ⟨q, 1, none⟩ (.int .i64 cr)).setCell ⟨q, 2, none⟩ (.int .i64 cc)) = w9 at hof hq9 HBf ⊢
      obtain ⟨gb, lb, hga, hG⟩ : ∃ gb lb, ga = some ⟨gb, 0, none⟩ ∧ GridG w9 gb lb m (500 * m) (scG (viewG R (fewP P) (s.take 100)) 500 m (curK R (fewP P) (s.take 100) c)) := by
        rcases hof with ⟨hbad, _⟩ | ⟨n, m', gb, lb, hn, hm', _, _, _, _, hga, _, _, hG⟩
        · omega
        · obtain rfl : n = 500 := by omega
          obtain rfl : m' = m := by omega
          exact ⟨gb, lb, hga, hG⟩
      subst hga
      clear hof
      go_wp2_with fail
      go_meet
      case rel => exact ⟨q, gb, lb, cr, cc, rfl, hq9, hqs, HBf.out, hG⟩
  case rest =>
  obtain ⟨sq, gb, lb, cr, cc, hqq, hq9, hqs, HBf, hG⟩ := hcut
  subst hqq
  rename World => wa
  have HB9 := Lib.hid (HB4.out.trans (HBf.mono HB4.out.size))
  have HQ := Lib.hid hq9
  have HR1 := Lib.hid (HR4.out.below HBf)
  have HP1 := Lib.hid (HP3.out.below HB9.out)
  have HS1 := Lib.hid (HS3.out.below HB9.out)
  have HBw := Lib.hid (HB3.out.trans (HB9.out.mono HB3.out.size))
  have HV1 := Lib.hid ((HB9.out.block _ (row_len HN3.out)).trans HN3.out)
  have hsl : (s.take 100).length ≤ 100 := by rw [List.length_take]; omega
  have hLl := view_le R HPk.out HPl.out hsl
  have hth := view_thin R (fewP P) (s.take 100)
  have HTh := Lib.hid hth
  have hWh := scG_whole (k := curK R (fewP P) (s.take 100) c) (n := 500) m1 hth (by omega)
  have HWh := Lib.hid hWh
  have HCt := Lib.hid (count_live hwd (P := fewP P) (s := s.take 100))
  have HPlk := Lib.hid (fun k => Nat.le_trans (partsG_take_le R (m := 20) (fun p hp => (HPk.out p hp).2) (P := fewP P) k) (show (fewP P).length * (2 * 20) ≤ 160 by have := HPl.out; omega))
  have hll := line_le R (s.take 100)
  have HGk := Lib.hid (fun (W : World) (hb : Below wa.heap.size wa W) => hG.kept (by rw [scG_len]; omega) (by omega) (P := fun _ => False) (.of_below hb) id id)
  have hGl := scG_len (viewG R (fewP P) (s.take 100)) 500 m (curK R (fewP P) (s.take 100) c)
  generalize scG (viewG R (fewP P) (s.take 100)) 500 m (curK R (fewP P) (s.take 100) c) = GG at HWh HGk hGl
  have HGl := Lib.hid hGl
  clear y0 y1 y2 hq9 HBf HR4 HB4 HP3 HS3 hwd hG hth hWh hGl
  generalize fewP P = Q at HPk HPl HLn HP1 hLl HTh HWh HCt HPlk ⊢
  generalize s.take 100 = t at HOk HSn HS1 hsl hLl HTh HWh HCt hll ⊢
  have hvq : vn = Q.length := by rw [← HVn.out, HLn.out]
  have hst : sn = t.length := HSn.out.symm
  subst hvq
  subst hst
  have hpp : Q.length ≤ 4 := HPl.out
  have hpm : ∀ k, (partsG R (Q.take k)).length ≤ 160 := HPlk.out
  have HPm := Lib.hid hpm
  clear hpm HVn HSn HLn
  obtain ⟨pa', pcap', hv, hp1, hp2⟩ := texts_shape HP1.out
  cases hv
  unfold maxLen at hp2
  go_wp2_with fail
  go_loopw [7, 8] (fun lv iv wr => ∃ (k : Nat) (G : List Gy), k ≤ Q.length ∧ iv = .int .i64 ((k : Nat) : Int) ∧ Below wa.heap.size wa wr ∧ wr.ownsRow wa.heap.size 81 2 lv G.length (G.flatMap gyE) ∧ G = partsG R (Q.take k)) (fun _ iv _ => Q.length - (intOf iv).toNat)
  case atStart => exact ⟨0, [], Nat.zero_le _, rfl, .refl _ _, World.ownsRow_nil _ _ _ _, rfl⟩
  case round =>
    obtain ⟨k, G, hk, rfl, hB, hO, hG⟩ := hrel
    have HB := Lib.hid hB
    have HG := Lib.hid hG
    have HO := Lib.hid hO
    have hGl : G.length ≤ 160 := by rw [hG]; exact HPm.out k
    have hbs := hB.size
    obtain ⟨oa', oc', rfl⟩ := slice_of_owns hO
    have y0 := cell_later hB (row_cells (i := 0) HV1.out rfl)
    clear hB hO hG
    by_cases hlt : k < Q.length
    · obtain ⟨p, hp⟩ : ∃ p, Q[k]? = some p := ⟨Q[k], List.getElem?_eq_getElem hlt⟩
      have hpm := List.mem_of_getElem? hp
      have hpq := HPk.out p hpm
      have HOp := Lib.hid hpq.1
      have hpn := hpq.2
      have hpll := line_le R p
      have HGn := Lib.hid (show G ++ lineG R (clus (tabOf R) p) = partsG R (Q.take (k + 1)) by rw [partsG_snoc R Q hp, HG.out])
      obtain ⟨b, off, cp, cu, hv, _, _, _, _, d00, hcu⟩ := texts_cell HP1.out hp
      cases hv
      have d0 := cell_later HB.out d00
      have HPu := Lib.hid hcu
      have hbig : (G.length + (lineG R (clus (tabOf R) p)).length) * 24 ≤ 140737488355328 := by omega
      have e1 := IntWalk.i64_in ((k : Int) + 1) (by omega)
      have s0 : (k : Int) < (Q.length : Int) := by omega
      have s1 : (0 : Int) ≤ (k : Int) := by omega
      clear hp hpm hpq d00 hcu hpll
      go_wp2_with fail
      refine (rline_any HTk.out (HR1.out.below HB.out) (HPu.out.below HB.out) HOp.out (by omega)).mono ?_
      rintro e w8 ⟨u8, a8, rfl, hB8, hI8, _⟩
      have HB8 := Lib.hid (HB.out.trans (hB8.mono HB.out.size))
      have HO8 := Lib.hid (owns_stays HO.out hB8)
      have HI8 := Lib.hid hI8
      have hbs8 := HB8.out.size
      clear hB8 hI8 HO HB d0 y0
      go_wp2_with (at_builtin; go_loud (refine wpList_app_rd _ rfl (.tmp 51) (.tmp 52) _ rfl Erg _ _ _ rfl HO8.out _ _ _ rfl HI8.out (gyE_ones _) hbig hbs8 ?_); intro v9 w9 ho9 hg9; have HB9 := Lib.hid (below_app HB8.out hbs8 HO8.out (Nat.le_refl _) hg9); have HO9 := Lib.hid ho9; clear ho9 hg9)
      go_roundw
      case rel => exact ⟨k + 1, G ++ lineG R (clus (tabOf R) p), by omega, by go_num, HB9.out, by rw [List.length_append, List.flatMap_append]; exact HO9.out, HGn.out⟩
      case measure => simp [intOf] <;> omega
    · have hke : k = Q.length := by omega
      subst hke
      rw [List.take_length] at HG
      have y1 := cell_later HB.out (row_cells (i := 1) HV1.out rfl)
      have s0 : ¬ (Q.length : Int) < (Q.length : Int) := by omega
      have HVl := Lib.hid (show (viewG R Q t).length = G.length + (lineG R (clus (tabOf R) t)).length by unfold viewG; rw [List.length_append, HG.out])
      have HVg := Lib.hid (show G.flatMap gyE ++ (lineG R (clus (tabOf R) t)).flatMap gyE = (viewG R Q t).flatMap gyE by unfold viewG; rw [List.flatMap_append, HG.out])
      clear hlt hk
      go_wp2_with fail
      refine (rline_any HTk.out (HR1.out.below HB.out) (HS1.out.below HB.out) HOk.out (by omega)).mono ?_
      rintro e w2 ⟨u2, a2, rfl, hB2, hU2, _⟩
      have HB2 := Lib.hid (HB.out.trans (hB2.mono HB.out.size))
      have HO2 := Lib.hid (owns_stays HO.out hB2)
      have HU2 := Lib.hid hU2
      have hbs2 := HB2.out.size
      have hbig : (G.length + (lineG R (clus (tabOf R) t)).length) * 24 ≤ 140737488355328 := by omega
      clear hB2 hU2 HB HO y0 y1 s0
      go_wp2_with (at_builtin; go_loud (refine wpList_app_rd _ rfl (.tmp 61) (.tmp 62) _ rfl Erg _ _ _ rfl HO2.out _ _ _ rfl HU2.out (gyE_ones _) hbig hbs2 ?_); intro v9 w9 ho9 hg9; rw [← HVl.out, HVg.out] at ho9; obtain ⟨va, vc, rfl⟩ := slice_of_owns ho9; have HB9 := Lib.hid (below_app HB2.out hbs2 HO2.out (Nat.le_refl _) hg9); have HU9 := Lib.hid (show Rs w9.heap.size w9 genc 2 (.slice va (viewG R Q t).length vc) (viewG R Q t) from rgly_of_owns ho9); clear ho9 hg9)
      generalize viewG R Q t = L at hLl HTh HWh HCt HU9 ⊢
      refine (refPlace_any _ L m w9 HU9.out (by omega) (by omega) HTh.out).mono ?_
      rintro e w10 ⟨vs', rfl, hB10, hsp⟩
      have hspl : (spotsL m L).length = L.length + 1 := by rw [spotsL_len, if_neg (by omega)]
      rw [hspl] at hsp
      obtain ⟨sg, scp, rfl, hsg, hsg2⟩ := ownBlock_of_owns hsp (by omega)
      have HSp := Lib.hid (fun (k : Nat) (hk : k ≤ L.length) => spot_cells (by omega) hsp hk)
      have HB10 := Lib.hid (HB9.out.trans (hB10.mono HB9.out.size))
      have HU10 := Lib.hid (show GlyIn w10 (.slice va L.length vc) L from (Rd.below HU9.out hB10 (Nat.le_refl _)).mono hB10.size)
      have HQ10 := Lib.hid ((HB10.out.block _ (row_len HQ.out)).trans HQ.out)
      have HG10 := Lib.hid (HGk.out w10 HB10.out)
      clear hB10 hsp hspl HB9 HU9 HU2 HO2 HB2 HVl HVg HG HQ HGk HR1 HS1 HP1
      go_wp2_with fail
      go_loopw [14, 15] (fun sv iv wr => ∃ k : Nat, k ≤ L.length ∧ iv = .int .i64 ((k : Nat) : Int) ∧ sv = .int .i64 (((L.take k).countP inky : Nat) : Int) ∧ Below w10.heap.size w10 wr) (fun _ iv _ => L.length - (intOf iv).toNat)
      case atStart => exact ⟨0, Nat.zero_le _, rfl, rfl, .refl _ _⟩
      case round =>
        obtain ⟨k, hk, rfl, rfl, hB⟩ := hrel
        have HB := Lib.hid hB
        have hct : (L.take k).countP inky ≤ L.length := Nat.le_trans List.countP_le_length (by rw [List.length_take]; omega)
        by_cases hlt : k < L.length
        · obtain ⟨g, hg⟩ : ∃ g, L[k]? = some g := ⟨L[k], List.getElem?_eq_getElem hlt⟩
          have hib := itemAt_bd (m : Int) (by omega) L HTh.out k (by omega)
          have hic := item_col (cols := (m : Int)) (by omega) HTh.out (k := k) (by omega)
          have hat := HWh.out.at_ k hlt g hg
          obtain ⟨p0, p1⟩ := HSp.out k (by omega)
          have hcn := count_snoc (p := inky) hg
          generalize itemAt m L k = it at hib hic hat p0 p1
          obtain ⟨ir, ic⟩ := it
          dsimp only at hib hic hat p0 p1
          obtain ⟨r, rfl⟩ : ∃ r : Nat, ir = r := ⟨ir.toNat, by omega⟩
          obtain ⟨cc', rfl⟩ : ∃ c : Nat, ic = c := ⟨ic.toNat, by omega⟩
          rw [Int.toNat_natCast, Int.toNat_natCast] at hat
          have hrl : r < GG.length := by rw [HGl.out]; omega
          have HAt := Lib.hid (fun (W : World) (hb : Below wr.heap.size wr W) => gat_some gb lb m (500 * m) r cc' GG (rowAt GG r) W ((HG10.out.kept (by rw [HGl.out]; omega) (by omega) (P := fun _ => False) (.of_below hB) id id).kept (by rw [HGl.out]; omega) (by omega) (P := fun _ => False) (.of_below hb) id id) (get_rowAt hrl) (by omega))
          rw [show cellAt (rowAt GG r) cc' = g from hat] at HAt
          have HCn := Lib.hid hcn
          obtain ⟨b, off, _, hv, _, _, _, d0, d1⟩ := gly_cells (HU10.out.below hB) hg
          cases hv
          have p0 := cell_later hB p0
          have p1 := cell_later hB p1
          have q0 := cell_later hB (row_cells (i := 0) HQ10.out rfl)
          obtain ⟨gt, gw⟩ := g
          dsimp only at d0 d1 HAt
          have s0 : (k : Int) < (L.length : Int) := by omega
          have s0' : (k : Int) < ((L.length + 1 : Nat) : Int) := by omega
          have s0'' : (k : Int) < (L.length : Int) + 1 := by omega
          have s1 : (0 : Int) ≤ (k : Int) := by omega
          have e2 := IntWalk.i64_in ((k : Int) + 1) (by omega)
          clear hg hib hic hat hcn hB hrl
          go_upto_region 18 with fail
          go_cut [16] from 73 to 85 (fun xr wx => ∃ xq : Nat, xr = .pointer (some ⟨xq, 0, none⟩) ∧ wx.heap[xq]? = some (.cells #[.string gt, .int .i64 gw] 48 (0, 0)) ∧ Below wr.heap.size wr wx)
          case first =>
            refine wp_region_held_drew (S := fun w' => w'.cell? ⟨sq, 0, none⟩ = some (.pointer (some ⟨gb, 0, none⟩)) ∧ w'.cell? ⟨sg, k * 2, none⟩ = some (.int .i64 (r : Int)) ∧ w'.cell? ⟨sg, k * 2 + 1, none⟩ = some (.int .i64 (cc' : Int)) ∧ w'.cell? ⟨b, off + k * 2, none⟩ = some (.string gt) ∧ w'.cell? ⟨b, off + k * 2 + 1, none⟩ = some (.int .i64 gw)) (by kernel_rfl) ⟨q0, p0, p1, d0, d1⟩ (fun hHeld => ?_)
            obtain ⟨wd, hwd⟩ : ∃ wd, wd = wr.drew := ⟨_, rfl⟩
            rw [← hwd] at hHeld ⊢
            have HBc := Lib.hid (show Below wr.heap.size wr wd by rw [hwd]; exact below_dN (.refl _ _) 1)
            clear hwd
            refine hd_take 0 rfl (by kernel_rfl) (by kernel_rfl) (by kernel_rfl) (fun _ _ _ h => h) (by rfl) (by intro w hSw; (try dsimp only at hSw); obtain ⟨hs1, hs2, hs3, hs4, hs5⟩ := hSw; go_simp; first | done | with_reducible rfl) hHeld ?_
            try simp only [Act.put, List.setIfInBounds_toArray, List.set_cons_zero, List.set_cons_succ]
            refine hd_take 1 rfl (by kernel_rfl) (by kernel_rfl) (by kernel_rfl) (fun _ _ _ h => h) (by rfl) (by intro w hSw; (try dsimp only at hSw); obtain ⟨hs1, hs2, hs3, hs4, hs5⟩ := hSw; go_simp; first | done | with_reducible rfl) hHeld ?_
            try simp only [Act.put, List.setIfInBounds_toArray, List.set_cons_zero, List.set_cons_succ]
            refine hd_take 2 rfl (by kernel_rfl) (by kernel_rfl) (by kernel_rfl) (fun _ _ _ h => h) (by rfl) (by intro w hSw; (try dsimp only at hSw); obtain ⟨hs1, hs2, hs3, hs4, hs5⟩ := hSw; go_simp; first | done | with_reducible rfl) hHeld ?_
            try simp only [Act.put, List.setIfInBounds_toArray, List.set_cons_zero, List.set_cons_succ]
            refine hd_take 3 rfl (by kernel_rfl) (by kernel_rfl) (by kernel_rfl) (fun _ _ _ h => h) (by rfl) (by intro w hSw; (try dsimp only at hSw); obtain ⟨hs1, hs2, hs3, hs4, hs5⟩ := hSw; go_simp; first | done | with_reducible rfl) hHeld ?_
            try simp only [Act.put, List.setIfInBounds_toArray, List.set_cons_zero, List.set_cons_succ]
            refine hd_take 4 rfl (by kernel_rfl) (by kernel_rfl) (by kernel_rfl) (fun _ _ _ h => h) (by rfl) (by intro w hSw; (try dsimp only at hSw); obtain ⟨hs1, hs2, hs3, hs4, hs5⟩ := hSw; go_simp; first | done | with_reducible rfl) hHeld ?_
            try simp only [Act.put, List.setIfInBounds_toArray, List.set_cons_zero, List.set_cons_succ]
            refine hd_take 5 rfl (by kernel_rfl) (by kernel_rfl) (by kernel_rfl) (fun _ _ _ h => h) (by rfl) (by intro w hSw; (try dsimp only at hSw); obtain ⟨hs1, hs2, hs3, hs4, hs5⟩ := hSw; go_simp; first | done | with_reducible rfl) hHeld ?_
            try simp only [Act.put, List.setIfInBounds_toArray, List.set_cons_zero, List.set_cons_succ]
            refine hd_take 6 rfl (by kernel_rfl) (by kernel_rfl) (by kernel_rfl) (fun _ _ _ h => h) (by rfl) (by intro w hSw; (try dsimp only at hSw); obtain ⟨hs1, hs2, hs3, hs4, hs5⟩ := hSw; go_simp; first | done | with_reducible rfl) hHeld ?_
            try simp only [Act.put, List.setIfInBounds_toArray, List.set_cons_zero, List.set_cons_succ]
            refine hd_take 7 rfl (by kernel_rfl) (by kernel_rfl) (by kernel_rfl) (fun _ _ _ h => h) (by rfl) (by intro w hSw; (try dsimp only at hSw); obtain ⟨hs1, hs2, hs3, hs4, hs5⟩ := hSw; go_simp; first | done | with_reducible rfl) hHeld ?_
            try simp only [Act.put, List.setIfInBounds_toArray, List.set_cons_zero, List.set_cons_succ]
            refine hd_take 8 rfl (by kernel_rfl) (by kernel_rfl) (by kernel_rfl) (fun _ _ _ h => h) (by rfl) (by intro w hSw; (try dsimp only at hSw); obtain ⟨hs1, hs2, hs3, hs4, hs5⟩ := hSw; go_simp; first | done | with_reducible rfl) hHeld ?_
            try simp only [Act.put, List.setIfInBounds_toArray, List.set_cons_zero, List.set_cons_succ]
            refine hd_take 9 rfl (by kernel_rfl) (by kernel_rfl) (by kernel_rfl) (fun _ _ _ h => h) (by rfl) (by intro w hSw; (try dsimp only at hSw); obtain ⟨hs1, hs2, hs3, hs4, hs5⟩ := hSw; go_simp; first | done | with_reducible rfl) hHeld ?_
            try simp only [Act.put, List.setIfInBounds_toArray, List.set_cons_zero, List.set_cons_succ]
            refine hd_take 10 rfl (by kernel_rfl) (by kernel_rfl) (by kernel_rfl) (fun _ _ _ h => h) (by rfl) (by intro w hSw; (try dsimp only at hSw); obtain ⟨hs1, hs2, hs3, hs4, hs5⟩ := hSw; go_simp; first | done | with_reducible rfl) hHeld ?_
            try simp only [Act.put, List.setIfInBounds_toArray, List.set_cons_zero, List.set_cons_succ]
            refine hd_take 11 rfl (by kernel_rfl) (by kernel_rfl) (by kernel_rfl) (fun _ _ _ h => h) (by rfl) (by intro w hSw; (try dsimp only at hSw); obtain ⟨hs1, hs2, hs3, hs4, hs5⟩ := hSw; go_simp; first | done | with_reducible rfl) hHeld ?_
            try simp only [Act.put, List.setIfInBounds_toArray, List.set_cons_zero, List.set_cons_succ]
            refine hd_two 12 13 (by kernel_rfl) rfl rfl (fun K hK => ?_) (fun K hK => ?_)
            case' refine_2 =>
              go_simp
              have hqs := HBc.out.size
              have hBx := below1 wd (.cells #[.string ⟨#[]⟩, .int .i64 0] 48)
              have HQ := Lib.hid (heap_alloc_new wd (.cells #[.string ⟨#[]⟩, .int .i64 0] 48))
              have HBc := Lib.hid (HBc.out.trans (hBx.mono HBc.out.size))
              clear hBx
              generalize wd.alloc (.cells #[.string ⟨#[]⟩, .int .i64 0] 48) = wz at HBc HQ ⊢
              generalize wd.heap.size = q at HQ hqs ⊢
              refine hK.out _ _ ⟨cell_later HBc.out q0, cell_later HBc.out p0, cell_later HBc.out p1, cell_later HBc.out d0, cell_later HBc.out d1⟩ (fun hHeld => ?_)
              clear hK K
              try simp only [Act.put, List.setIfInBounds_toArray, List.set_cons_zero, List.set_cons_succ]
              refine hd_step 12 (by kernel_rfl) rfl (fun K hK => ?_)
              go_simp
              go_at_call 32
              refine (HAt.out _ HBc.out).mono ?_
              rintro e w12 ⟨rfl, hBx⟩
              have HQ := Lib.hid ((hBx.block _ (row_len HQ.out)).trans HQ.out)
              have HBc := Lib.hid (HBc.out.trans (hBx.mono HBc.out.size))
              clear hBx
              go_wp2_with fail
              refine hK.out _ _ ⟨cell_later HBc.out q0, cell_later HBc.out p0, cell_later HBc.out p1, cell_later HBc.out d0, cell_later HBc.out d1⟩ (fun hHeld => ?_)
              clear hK K
              try simp only [Act.put, List.setIfInBounds_toArray, List.set_cons_zero, List.set_cons_succ]
              rename World => wf
            case' refine_1 =>
              go_simp
              go_at_call 32
              refine (HAt.out _ HBc.out).mono ?_
              rintro e w12 ⟨rfl, hBx⟩
              have HBc := Lib.hid (HBc.out.trans (hBx.mono HBc.out.size))
              clear hBx
              go_wp2_with fail
              refine hK.out _ _ ⟨cell_later HBc.out q0, cell_later HBc.out p0, cell_later HBc.out p1, cell_later HBc.out d0, cell_later HBc.out d1⟩ (fun hHeld => ?_)
              clear hK K
              try simp only [Act.put, List.setIfInBounds_toArray, List.set_cons_zero, List.set_cons_succ]
              refine hd_step 13 (by kernel_rfl) rfl (fun K hK => ?_)
              go_simp
              have hqs := HBc.out.size
              have hBx := below1 w12 (.cells #[.string ⟨#[]⟩, .int .i64 0] 48)
              have HQ := Lib.hid (heap_alloc_new w12 (.cells #[.string ⟨#[]⟩, .int .i64 0] 48))
              have HBc := Lib.hid (HBc.out.trans (hBx.mono HBc.out.size))
              clear hBx
              generalize w12.alloc (.cells #[.string ⟨#[]⟩, .int .i64 0] 48) = wz at HBc HQ ⊢
              generalize w12.heap.size = q at HQ hqs ⊢
              refine hK.out _ _ ⟨cell_later HBc.out q0, cell_later HBc.out p0, cell_later HBc.out p1, cell_later HBc.out d0, cell_later HBc.out d1⟩ (fun hHeld => ?_)
              clear hK K
              try simp only [Act.put, List.setIfInBounds_toArray, List.set_cons_zero, List.set_cons_succ]
              rename World => wf
            all_goals
              refine hd_step 14 (by kernel_rfl) rfl (fun K hK => ?_)
              have z0 := row_cells (i := 0) HQ.out rfl
              have z1 := row_cells (i := 1) HQ.out rfl
              have zw0 := row_warm HQ.out 0
              have zw1 := row_warm HQ.out 1
              go_simp
              have hB9 : Below wr.heap.size wr ((wf.setCell ⟨q, 0, none⟩ (.string gt)).setCell ⟨q, 1, none⟩ (.int .i64 gw)) := (HBc.out.setCell (by show wr.heap.size ≤ q; exact hqs) _).setCell (by show wr.heap.size ≤ q; exact hqs) _
              refine hK.out _ _ ⟨cell_later hB9 q0, cell_later hB9 p0, cell_later hB9 p1, cell_later hB9 d0, cell_later hB9 d1⟩ (fun hHeld => ?_)
              clear hK K
              try simp only [Act.put, List.setIfInBounds_toArray, List.set_cons_zero, List.set_cons_succ]
              refine wpAnyH_done (by kernel_rfl) ?_ _
              have hq9 : ((wf.setCell ⟨q, 0, none⟩ (.string gt)).setCell ⟨q, 1, none⟩ (.int .i64 gw)).heap[q]? = some (.cells #[.string gt, .int .i64 gw] 48 (0, 0)) := heap_setCell_same _ _ _ _ _ _ (heap_setCell_same _ _ _ _ _ _ HQ.out)
              clear hHeld z0 z1 zw0 zw1 HQ HBc
              generalize ((wf.setCell ⟨q, 0, none⟩ (.string gt)).setCell ⟨q, 1, none⟩ (.int .i64 gw)) = w9' at hq9 hB9 ⊢
              go_wp2_with fail
              go_meet
              case rel => exact ⟨q, rfl, hq9, hB9⟩
          case rest =>
          obtain ⟨xq, hxq, hxc, hxB⟩ := hcut
          subst hxq
          rename World => w15
          have d0 := cell_later hxB d0
          have d1 := cell_later hxB d1
          have x0 := row_cells (i := 0) hxc rfl
          have x1 := row_cells (i := 1) hxc rfl
          have HB15 := Lib.hid (HB.out.trans (hxB.mono HB.out.size))
          clear p0 p1 q0 HAt hxc hxB HB
          go_upto_region 19 with fail
          refine wp_region_held_drew (S := fun w' => w'.cell? ⟨xq, 0, none⟩ = some (.string gt) ∧ w'.cell? ⟨xq, 1, none⟩ = some (.int .i64 gw) ∧ w'.cell? ⟨b, off + k * 2, none⟩ = some (.string gt) ∧ w'.cell? ⟨b, off + k * 2 + 1, none⟩ = some (.int .i64 gw)) (by kernel_rfl) ⟨x0, x1, d0, d1⟩ (fun hHeld => ?_)
          refine hd_take 0 rfl (by kernel_rfl) (by kernel_rfl) (by kernel_rfl) (fun _ _ _ h => h) (by rfl) (by intro w hSw; (try dsimp only at hSw); obtain ⟨hs1, hs2, hs3, hs4⟩ := hSw; go_simp; first | done | with_reducible rfl) hHeld ?_
          try simp only [Act.put, List.setIfInBounds_toArray, List.set_cons_zero, List.set_cons_succ]
          refine hd_take 1 rfl (by kernel_rfl) (by kernel_rfl) (by kernel_rfl) (fun _ _ _ h => h) (by rfl) (by intro w hSw; (try dsimp only at hSw); obtain ⟨hs1, hs2, hs3, hs4⟩ := hSw; go_simp; first | done | with_reducible rfl) hHeld ?_
          try simp only [Act.put, List.setIfInBounds_toArray, List.set_cons_zero, List.set_cons_succ]
          refine hd_take 2 rfl (by kernel_rfl) (by kernel_rfl) (by kernel_rfl) (fun _ _ _ h => h) (by rfl) (by intro w hSw; (try dsimp only at hSw); obtain ⟨hs1, hs2, hs3, hs4⟩ := hSw; go_simp; first | done | with_reducible rfl) hHeld ?_
          try simp only [Act.put, List.setIfInBounds_toArray, List.set_cons_zero, List.set_cons_succ]
          refine hd_take 3 rfl (by kernel_rfl) (by kernel_rfl) (by kernel_rfl) (fun _ _ _ h => h) (by rfl) (by intro w hSw; (try dsimp only at hSw); obtain ⟨hs1, hs2, hs3, hs4⟩ := hSw; go_simp; first | done | with_reducible rfl) hHeld ?_
          try simp only [Act.put, List.setIfInBounds_toArray, List.set_cons_zero, List.set_cons_succ]
          refine hd_take 4 rfl (by kernel_rfl) (by kernel_rfl) (by kernel_rfl) (fun _ _ _ h => h) (by rfl) (by intro w hSw; (try dsimp only at hSw); obtain ⟨hs1, hs2, hs3, hs4⟩ := hSw; go_simp; first | done | with_reducible rfl) hHeld ?_
          try simp only [Act.put, List.setIfInBounds_toArray, List.set_cons_zero, List.set_cons_succ]
          refine hd_take 5 rfl (by kernel_rfl) (by kernel_rfl) (by kernel_rfl) (fun _ _ _ h => h) (by rfl) (by intro w hSw; (try dsimp only at hSw); obtain ⟨hs1, hs2, hs3, hs4⟩ := hSw; go_simp; first | done | with_reducible rfl) hHeld ?_
          try simp only [Act.put, List.setIfInBounds_toArray, List.set_cons_zero, List.set_cons_succ]
          refine hd_take 6 rfl (by kernel_rfl) (by kernel_rfl) (by kernel_rfl) (fun _ _ _ h => h) (by rfl) (by intro w hSw; (try dsimp only at hSw); obtain ⟨hs1, hs2, hs3, hs4⟩ := hSw; go_simp; first | done | with_reducible rfl) hHeld ?_
          try simp only [Act.put, List.setIfInBounds_toArray, List.set_cons_zero, List.set_cons_succ]
          refine hd_take 7 rfl (by kernel_rfl) (by kernel_rfl) (by kernel_rfl) (fun _ _ _ h => h) (by rfl) (by intro w hSw; (try dsimp only at hSw); obtain ⟨hs1, hs2, hs3, hs4⟩ := hSw; go_simp; first | done | with_reducible rfl) hHeld ?_
          try simp only [Act.put, List.setIfInBounds_toArray, List.set_cons_zero, List.set_cons_succ]
          refine hd_take 8 rfl (by kernel_rfl) (by kernel_rfl) (by kernel_rfl) (fun _ _ _ h => h) (by rfl) (by intro w hSw; (try dsimp only at hSw); obtain ⟨hs1, hs2, hs3, hs4⟩ := hSw; go_simp; first | done | with_reducible rfl) hHeld ?_
          try simp only [Act.put, List.setIfInBounds_toArray, List.set_cons_zero, List.set_cons_succ]
          refine hd_take 9 rfl (by kernel_rfl) (by kernel_rfl) (by kernel_rfl) (fun _ _ _ h => h) (by rfl) (by intro w hSw; (try dsimp only at hSw); obtain ⟨hs1, hs2, hs3, hs4⟩ := hSw; go_simp; first | done | with_reducible rfl) hHeld ?_
          try simp only [Act.put, List.setIfInBounds_toArray, List.set_cons_zero, List.set_cons_succ]
          refine hd_take 10 rfl (by kernel_rfl) (by kernel_rfl) (by kernel_rfl) (fun _ _ _ h => h) (by rfl) (by intro w hSw; (try dsimp only at hSw); obtain ⟨hs1, hs2, hs3, hs4⟩ := hSw; go_simp; first | done | with_reducible rfl) hHeld ?_
          try simp only [Act.put, List.setIfInBounds_toArray, List.set_cons_zero, List.set_cons_succ]
          refine hd_take 11 rfl (by kernel_rfl) (by kernel_rfl) (by kernel_rfl) (fun _ _ _ h => h) (by rfl) (by intro w hSw; (try dsimp only at hSw); obtain ⟨hs1, hs2, hs3, hs4⟩ := hSw; go_simp; first | done | with_reducible rfl) hHeld ?_
          try simp only [Act.put, List.setIfInBounds_toArray, List.set_cons_zero, List.set_cons_succ]
          refine hd_take 12 rfl (by kernel_rfl) (by kernel_rfl) (by kernel_rfl) (fun _ _ _ h => h) (by rfl) (by intro w hSw; (try dsimp only at hSw); obtain ⟨hs1, hs2, hs3, hs4⟩ := hSw; go_simp; first | done | with_reducible rfl) hHeld ?_
          try simp only [Act.put, List.setIfInBounds_toArray, List.set_cons_zero, List.set_cons_succ]
          refine hd_take 13 rfl (by kernel_rfl) (by kernel_rfl) (by kernel_rfl) (fun _ _ _ h => h) (by rfl) (by intro w hSw; (try dsimp only at hSw); obtain ⟨hs1, hs2, hs3, hs4⟩ := hSw; go_simp; first | done | with_reducible rfl) hHeld ?_
          try simp only [Act.put, List.setIfInBounds_toArray, List.set_cons_zero, List.set_cons_succ]
          refine hd_take 14 rfl (by kernel_rfl) (by kernel_rfl) (by kernel_rfl) (fun _ _ _ h => h) (by rfl) (by intro w hSw; (try dsimp only at hSw); obtain ⟨hs1, hs2, hs3, hs4⟩ := hSw; go_simp; first | done | with_reducible rfl) hHeld ?_
          try simp only [Act.put, List.setIfInBounds_toArray, List.set_cons_zero, List.set_cons_succ]
          refine hd_take 15 rfl (by kernel_rfl) (by kernel_rfl) (by kernel_rfl) (fun _ _ _ h => h) (by rfl) (by intro w hSw; (try dsimp only at hSw); obtain ⟨hs1, hs2, hs3, hs4⟩ := hSw; go_simp; first | done | with_reducible rfl) hHeld ?_
          try simp only [Act.put, List.setIfInBounds_toArray, List.set_cons_zero, List.set_cons_succ]
          refine hd_take 16 rfl (by kernel_rfl) (by kernel_rfl) (by kernel_rfl) (fun _ _ _ h => h) (by rfl) (by intro w hSw; (try dsimp only at hSw); obtain ⟨hs1, hs2, hs3, hs4⟩ := hSw; go_simp; first | done | with_reducible rfl) hHeld ?_
          try simp only [Act.put, List.setIfInBounds_toArray, List.set_cons_zero, List.set_cons_succ]
          refine hd_take 17 rfl (by kernel_rfl) (by kernel_rfl) (by kernel_rfl) (fun _ _ _ h => h) (by rfl) (by intro w hSw; (try dsimp only at hSw); obtain ⟨hs1, hs2, hs3, hs4⟩ := hSw; go_simp; first | done | with_reducible rfl) hHeld ?_
          try simp only [Act.put, List.setIfInBounds_toArray, List.set_cons_zero, List.set_cons_succ]
          refine wpAnyH_done (by kernel_rfl) ?_ _
          have e5 := IntWalk.i64_in ((((L.take k).countP inky : Nat) : Int) + 1) (by omega)
          have d0' : w15.drew.cell? ⟨b, off + k * 2, none⟩ = some (.string gt) := d0
          have HB16 := Lib.hid (show Below w10.heap.size w10 w15.drew from below_dN HB15.out 1)
          clear hHeld x0 x1 d0 d1 HB15
          generalize w15.drew = w16 at d0' HB16 ⊢
          by_cases hgt : gt = ⟨#[32]⟩
          · have hc1 : (L.take (k + 1)).countP inky = (L.take k).countP inky := by rw [HCn.out]; unfold inky; rw [decide_eq_true (show (gt, gw).1 = ⟨#[32]⟩ from hgt)]; simp
            have hn : (gt.toList == [32]) = true := by rw [hgt]; decide +kernel
            have HC1 := Lib.hid hc1
            clear hc1 HCn hgt
            go_wp2_with fail
            go_roundw
            case rel => exact ⟨k + 1, by omega, by go_num, by rw [HC1.out], HB16.out⟩
            case measure => simp [intOf] <;> omega
          · have hc1 : (L.take (k + 1)).countP inky = (L.take k).countP inky + 1 := by rw [HCn.out]; unfold inky; rw [decide_eq_false (show ¬ (gt, gw).1 = ⟨#[32]⟩ from hgt)]; simp
            have hn : (gt.toList == [32]) = false := by
              rw [beq_eq_false_iff_ne]
              exact fun e => hgt (toList_inj (e.trans (by decide +kernel)))
            have HC1 := Lib.hid hc1
            clear hc1 HCn
            go_wp2_with fail
            go_roundw
            case rel => exact ⟨k + 1, by omega, by go_num, by rw [HC1.out]; go_num, HB16.out⟩
            case measure => simp [intOf] <;> omega
        · have hke : k = L.length := by omega
          subst hke
          rw [List.take_length]
          have hcL : L.countP inky ≤ L.length := List.countP_le_length
          have hcG : (cntG GG : Int) = (L.countP inky : Nat) := by rw [HWh.out.cnt, List.take_length, HCt.out]
          have hGr := HG10.out.kept (by rw [HGl.out]; omega) (by omega) (P := fun _ => False) (.of_below hB) id id
          have c0 := hGr.grid.c0
          have c1 := hGr.grid.c1
          have q0 := cell_later hB (row_cells (i := 0) HQ10.out rfl)
          have HShp := Lib.hid hGr.shape
          have HCg := Lib.hid hcG
          clear hcG hlt hk hB hct
          generalize L.countP inky = C at hcL HCg ⊢
          have hC : C ≤ 400 := by omega
          go_wp2_with fail
          refine (size_some gb GG.length m wr c0 c1).mono ?_
          rintro e w17 ⟨rfl, hB17⟩
          have HB17 := Lib.hid (HB.out.trans (hB17.mono HB.out.size))
          clear c0 c1 q0 hB17 HB hGr
          go_wp2_with fail
          go_loopw [14, 19] (fun sv rv wr => ∃ r : Nat, r ≤ GG.length ∧ rv = .int .i64 ((r : Nat) : Int) ∧ sv = .int .i64 ((C : Int) - (cntG (GG.take r) : Nat)) ∧ Below w17.heap.size w17 wr) (fun _ rv _ => GG.length - (intOf rv).toNat)
          case atStart => exact ⟨0, Nat.zero_le _, rfl, by simp [cntG], .refl _ _⟩
          case round =>
            rename World => wo
            obtain ⟨r, hr, rfl, rfl, hBo⟩ := hrel
            have HBo := Lib.hid hBo
            by_cases hrl : r < GG.length
            · obtain ⟨l, hl⟩ : ∃ l, GG[r]? = some l := ⟨GG[r], List.getElem?_eq_getElem hrl⟩
              have hlm := HShp.out l (List.mem_of_getElem? hl)
              have HSn := Lib.hid (cntG_snoc hl)
              have hcr : cntG (GG.take r) ≤ 500 * m := by
                have h1 := cntG_le (G := GG.take r) (m := m) fun x hx => HShp.out x (List.mem_of_mem_take hx)
                have h2 : (GG.take r).length * m ≤ 500 * m := Nat.mul_le_mul_right _ (by rw [List.length_take, HGl.out]; omega)
                omega
              have HL := Lib.hid hl
              have e3 := IntWalk.i64_in ((r : Int) + 1) (by have := HGl.out; omega)
              clear hl hBo
              go_wp2_with fail
              go_loopw [14, 20] (fun sv cv wj => ∃ j : Nat, j ≤ m ∧ cv = .int .i64 ((j : Nat) : Int) ∧ sv = .int .i64 ((C : Int) - (cntG (GG.take r) : Nat) - ((l.take j).countP live : Nat)) ∧ Below w17.heap.size w17 wj) (fun _ cv _ => m - (intOf cv).toNat)
              case atStart => exact ⟨0, Nat.zero_le _, rfl, by simp, HBo.out⟩
              case round =>
                rename World => wj
                obtain ⟨j, hj, rfl, rfl, hBj⟩ := hrel
                have HBj := Lib.hid hBj
                by_cases hjm : j < m
                · have hBg : Below w10.heap.size w10 wj := HB17.out.trans (hBj.mono HB17.out.size)
                  have HAt := Lib.hid (gat_some gb lb m (500 * m) r j GG l wj (HG10.out.kept (by rw [HGl.out]; omega) (by omega) (P := fun _ => False) (.of_below hBg) id id) HL.out hjm)
                  have q0 := cell_later hBg (row_cells (i := 0) HQ10.out rfl)
                  have hcj : l[j]? = some (cellAt l j) := get_cellAt (by omega)
                  have HCs := Lib.hid (count_snoc (p := live) hcj)
                  have hlc : (l.take j).countP live ≤ 1000 := Nat.le_trans List.countP_le_length (by rw [List.length_take]; omega)
                  have hcr2 : cntG (GG.take r) ≤ 500000 := by omega
                  generalize cellAt l j = x at HAt HCs
                  obtain ⟨xt, xw⟩ := x
                  dsimp only at HAt
                  have e4 := IntWalk.i64_in ((j : Int) + 1) (by omega)
                  have e5 := IntWalk.i64_in ((C : Int) - (cntG (GG.take r) : Nat) - ((l.take j).countP live : Nat) - 1) (by omega)
                  clear hBg hcj hBj
                  go_wp2_with fail
                  refine HAt.out.mono ?_
                  rintro e w18 ⟨rfl, hB18⟩
                  have hnx := heap_alloc_new w18 (.cells #[.string xt, .int .i64 xw] 48)
                  have HBx := Lib.hid ((HBj.out.trans (hB18.mono HBj.out.size)).trans ((below1 w18 (.cells #[.string xt, .int .i64 xw] 48)).mono (HBj.out.trans (hB18.mono HBj.out.size)).size))
                  clear hB18 q0 HAt
                  go_upto_region 31 with fail
                  generalize w18.alloc (.cells #[.string xt, .int .i64 xw] 48) = wx at hnx HBx ⊢
                  generalize w18.heap.size = xq at hnx ⊢
                  have x0 := row_cells (i := 0) hnx rfl
                  have x1 := row_cells (i := 1) hnx rfl
                  clear hnx
                  have HBl := Lib.hid (fun (q : Nat) => blank_any (wx.drewN q))
                  have hnb := fun (q : Nat) => below1 (wx.drewN q) (.cells #[.string ⟨#[32]⟩, .int .i64 1] 48)
                  have xb0 : ((wx.drewN 1).alloc (.cells #[.string ⟨#[32]⟩, .int .i64 1] 48)).cell? ⟨xq, 0, none⟩ = some (.string xt) := cell_later (hnb 1) (show (wx.drewN 1).cell? _ = _ from x0)
                  have xb1 : ((wx.drewN 1).alloc (.cells #[.string ⟨#[32]⟩, .int .i64 1] 48)).cell? ⟨xq, 1, none⟩ = some (.int .i64 xw) := cell_later (hnb 1) (show (wx.drewN 1).cell? _ = _ from x1)
                  have HBb := Lib.hid (show Below w17.heap.size w17 ((wx.drewN 1).alloc (.cells #[.string ⟨#[32]⟩, .int .i64 1] 48)) from (below_dN HBx.out 1).alloc (by have := HBx.out.size; exact this) _)
                  have hq := fun W => neq_gcell (xt, xw) blankC W
                  clear hnb
                  by_cases hbl : ((xt, xw) : Gl) = blankC
                  · have hqf : ∀ W, Sem.run Tryz.prog (binOp .neq 48 (.agg #[.string xt, .int .i64 xw]) (.agg #[.string ⟨#[32]⟩, .int .i64 1])) W = .ok (.bool false) W := fun W => by rw [show (Value.agg #[.string ⟨#[32]⟩, .int .i64 1]) = .agg #[.string blankC.1, .int .i64 blankC.2] from rfl]; have := hq W; dsimp only at this; rw [this, decide_eq_true hbl]; rfl
                    have HE := Lib.hid (show (l.take (j + 1)).countP live = (l.take j).countP live by rw [HCs.out]; unfold live; rw [decide_eq_true hbl]; simp)
                    clear hq hbl HCs
                    refine wp_region_held_drew (S := fun w' => w'.cell? ⟨xq, 0, none⟩ = some (.string xt) ∧ w'.cell? ⟨xq, 1, none⟩ = some (.int .i64 xw)) (by kernel_rfl) ⟨x0, x1⟩ (fun hHeld => ?_)
                    refine hd_take 0 rfl (by kernel_rfl) (by kernel_rfl) (by kernel_rfl) (fun _ _ _ h => h) (by rfl) (by intro w hSw; (try dsimp only at hSw); obtain ⟨hs1, hs2⟩ := hSw; go_simp; first | done | with_reducible rfl) hHeld ?_
                    try simp only [Act.put, List.setIfInBounds_toArray, List.set_cons_zero, List.set_cons_succ]
                    refine hd_step 1 (by kernel_rfl) rfl (fun K hK => ?_)
                    go_simp
                    go_at_call 33
                    refine (HBl.out 1).mono ?_
                    rintro e w19 ⟨rfl, rfl⟩
                    go_wp2_with fail
                    refine hK.out _ _ ⟨xb0, xb1⟩ (fun hHeld => ?_)
                    clear hK K
                    try simp only [Act.put, List.setIfInBounds_toArray, List.set_cons_zero, List.set_cons_succ]
                    refine hd_take 2 rfl (by kernel_rfl) (by kernel_rfl) (by kernel_rfl) (fun _ _ _ h => h) (by rfl) (by intro w hSw; (try dsimp only at hSw); obtain ⟨hs1, hs2⟩ := hSw; go_simp; first | done | with_reducible rfl) hHeld ?_
                    try simp only [Act.put, List.setIfInBounds_toArray, List.set_cons_zero, List.set_cons_succ]
                    refine hd_take 3 rfl (by kernel_rfl) (by kernel_rfl) (by kernel_rfl) (fun _ _ _ h => h) (by rfl) (by intro w hSw; (try dsimp only at hSw); obtain ⟨hs1, hs2⟩ := hSw; go_simp; first | done | with_reducible rfl) hHeld ?_
                    try simp only [Act.put, List.setIfInBounds_toArray, List.set_cons_zero, List.set_cons_succ]
                    refine hd_skip 4 rfl (by kernel_rfl) (by kernel_rfl) (by kernel_rfl) (fun _ _ _ h => h) (by rfl) hHeld ?_
                    try simp only [Act.put, List.setIfInBounds_toArray, List.set_cons_zero, List.set_cons_succ]
                    refine hd_skip 5 rfl (by kernel_rfl) (by kernel_rfl) (by kernel_rfl) (fun _ _ _ h => h) (by rfl) hHeld ?_
                    try simp only [Act.put, List.setIfInBounds_toArray, List.set_cons_zero, List.set_cons_succ]
                    refine hd_skip 6 rfl (by kernel_rfl) (by kernel_rfl) (by kernel_rfl) (fun _ _ _ h => h) (by rfl) hHeld ?_
                    try simp only [Act.put, List.setIfInBounds_toArray, List.set_cons_zero, List.set_cons_succ]
                    refine hd_take 7 rfl (by kernel_rfl) (by kernel_rfl) (by kernel_rfl) (fun _ _ _ h => h) (by rfl) (by intro w hSw; (try dsimp only at hSw); obtain ⟨hs1, hs2⟩ := hSw; go_simp; first | done | with_reducible rfl) hHeld ?_
                    try simp only [Act.put, List.setIfInBounds_toArray, List.set_cons_zero, List.set_cons_succ]
                    refine wpAnyH_done (by kernel_rfl) ?_ _
                    clear hHeld x0 x1 xb0 xb1
                    go_wp2_with fail
                    go_roundw
                    case rel => exact ⟨j + 1, by omega, by go_num, by rw [HE.out], HBb.out⟩
                    case measure => simp [intOf] <;> omega
                  · have hqf : ∀ W, Sem.run Tryz.prog (binOp .neq 48 (.agg #[.string xt, .int .i64 xw]) (.agg #[.string ⟨#[32]⟩, .int .i64 1])) W = .ok (.bool true) W := fun W => by rw [show (Value.agg #[.string ⟨#[32]⟩, .int .i64 1]) = .agg #[.string blankC.1, .int .i64 blankC.2] from rfl]; have := hq W; dsimp only at this; rw [this, decide_eq_false hbl]; rfl
                    by_cases hwp : 0 < xw
                    · have hg0 : decide (xw > 0) = true := decide_eq_true hwp
                      have HE := Lib.hid (show (l.take (j + 1)).countP live = (l.take j).countP live + 1 by rw [HCs.out]; unfold live; rw [decide_eq_false hbl, decide_eq_true (show 0 < (xt, xw).2 from hwp)]; rfl)
                      clear hq hbl HCs hwp
                      refine wp_region_held_drew (S := fun w' => w'.cell? ⟨xq, 0, none⟩ = some (.string xt) ∧ w'.cell? ⟨xq, 1, none⟩ = some (.int .i64 xw)) (by kernel_rfl) ⟨x0, x1⟩ (fun hHeld => ?_)
                      refine hd_take 0 rfl (by kernel_rfl) (by kernel_rfl) (by kernel_rfl) (fun _ _ _ h => h) (by rfl) (by intro w hSw; (try dsimp only at hSw); obtain ⟨hs1, hs2⟩ := hSw; go_simp; first | done | with_reducible rfl) hHeld ?_
                      try simp only [Act.put, List.setIfInBounds_toArray, List.set_cons_zero, List.set_cons_succ]
                      refine hd_step 1 (by kernel_rfl) rfl (fun K hK => ?_)
                      go_simp
                      go_at_call 33
                      refine (HBl.out 1).mono ?_
                      rintro e w19 ⟨rfl, rfl⟩
                      go_wp2_with fail
                      refine hK.out _ _ ⟨xb0, xb1⟩ (fun hHeld => ?_)
                      clear hK K
                      try simp only [Act.put, List.setIfInBounds_toArray, List.set_cons_zero, List.set_cons_succ]
                      refine hd_take 2 rfl (by kernel_rfl) (by kernel_rfl) (by kernel_rfl) (fun _ _ _ h => h) (by rfl) (by intro w hSw; (try dsimp only at hSw); obtain ⟨hs1, hs2⟩ := hSw; go_simp; first | done | with_reducible rfl) hHeld ?_
                      try simp only [Act.put, List.setIfInBounds_toArray, List.set_cons_zero, List.set_cons_succ]
                      refine hd_take 3 rfl (by kernel_rfl) (by kernel_rfl) (by kernel_rfl) (fun _ _ _ h => h) (by rfl) (by intro w hSw; (try dsimp only at hSw); obtain ⟨hs1, hs2⟩ := hSw; go_simp; first | done | with_reducible rfl) hHeld ?_
                      try simp only [Act.put, List.setIfInBounds_toArray, List.set_cons_zero, List.set_cons_succ]
                      refine hd_take 4 rfl (by kernel_rfl) (by kernel_rfl) (by kernel_rfl) (fun _ _ _ h => h) (by rfl) (by intro w hSw; (try dsimp only at hSw); obtain ⟨hs1, hs2⟩ := hSw; go_simp; first | done | with_reducible rfl) hHeld ?_
                      try simp only [Act.put, List.setIfInBounds_toArray, List.set_cons_zero, List.set_cons_succ]
                      refine hd_take 5 rfl (by kernel_rfl) (by kernel_rfl) (by kernel_rfl) (fun _ _ _ h => h) (by rfl) (by intro w hSw; (try dsimp only at hSw); obtain ⟨hs1, hs2⟩ := hSw; go_simp; first | done | with_reducible rfl) hHeld ?_
                      try simp only [Act.put, List.setIfInBounds_toArray, List.set_cons_zero, List.set_cons_succ]
                      refine hd_take 6 rfl (by kernel_rfl) (by kernel_rfl) (by kernel_rfl) (fun _ _ _ h => h) (by rfl) (by intro w hSw; (try dsimp only at hSw); obtain ⟨hs1, hs2⟩ := hSw; go_simp; first | done | with_reducible rfl) hHeld ?_
                      try simp only [Act.put, List.setIfInBounds_toArray, List.set_cons_zero, List.set_cons_succ]
                      refine hd_take 7 rfl (by kernel_rfl) (by kernel_rfl) (by kernel_rfl) (fun _ _ _ h => h) (by rfl) (by intro w hSw; (try dsimp only at hSw); obtain ⟨hs1, hs2⟩ := hSw; go_simp; first | done | with_reducible rfl) hHeld ?_
                      try simp only [Act.put, List.setIfInBounds_toArray, List.set_cons_zero, List.set_cons_succ]
                      refine wpAnyH_done (by kernel_rfl) ?_ _
                      clear hHeld x0 x1 xb0 xb1
                      go_wp2_with fail
                      go_roundw
                      case rel => exact ⟨j + 1, by omega, by go_num, by rw [HE.out]; congr 1; omega, HBb.out⟩
                      case measure => simp [intOf] <;> omega
                    · have hg0 : decide (xw > 0) = false := decide_eq_false (by omega)
                      have HE := Lib.hid (show (l.take (j + 1)).countP live = (l.take j).countP live by rw [HCs.out]; unfold live; rw [decide_eq_false (show ¬ 0 < (xt, xw).2 from hwp)]; simp)
                      clear hq hbl HCs hwp
                      refine wp_region_held_drew (S := fun w' => w'.cell? ⟨xq, 0, none⟩ = some (.string xt) ∧ w'.cell? ⟨xq, 1, none⟩ = some (.int .i64 xw)) (by kernel_rfl) ⟨x0, x1⟩ (fun hHeld => ?_)
                      refine hd_take 0 rfl (by kernel_rfl) (by kernel_rfl) (by kernel_rfl) (fun _ _ _ h => h) (by rfl) (by intro w hSw; (try dsimp only at hSw); obtain ⟨hs1, hs2⟩ := hSw; go_simp; first | done | with_reducible rfl) hHeld ?_
                      try simp only [Act.put, List.setIfInBounds_toArray, List.set_cons_zero, List.set_cons_succ]
                      refine hd_step 1 (by kernel_rfl) rfl (fun K hK => ?_)
                      go_simp
                      go_at_call 33
                      refine (HBl.out 1).mono ?_
                      rintro e w19 ⟨rfl, rfl⟩
                      go_wp2_with fail
                      refine hK.out _ _ ⟨xb0, xb1⟩ (fun hHeld => ?_)
                      clear hK K
                      try simp only [Act.put, List.setIfInBounds_toArray, List.set_cons_zero, List.set_cons_succ]
                      refine hd_take 2 rfl (by kernel_rfl) (by kernel_rfl) (by kernel_rfl) (fun _ _ _ h => h) (by rfl) (by intro w hSw; (try dsimp only at hSw); obtain ⟨hs1, hs2⟩ := hSw; go_simp; first | done | with_reducible rfl) hHeld ?_
                      try simp only [Act.put, List.setIfInBounds_toArray, List.set_cons_zero, List.set_cons_succ]
                      refine hd_take 3 rfl (by kernel_rfl) (by kernel_rfl) (by kernel_rfl) (fun _ _ _ h => h) (by rfl) (by intro w hSw; (try dsimp only at hSw); obtain ⟨hs1, hs2⟩ := hSw; go_simp; first | done | with_reducible rfl) hHeld ?_
                      try simp only [Act.put, List.setIfInBounds_toArray, List.set_cons_zero, List.set_cons_succ]
                      refine hd_take 4 rfl (by kernel_rfl) (by kernel_rfl) (by kernel_rfl) (fun _ _ _ h => h) (by rfl) (by intro w hSw; (try dsimp only at hSw); obtain ⟨hs1, hs2⟩ := hSw; go_simp; first | done | with_reducible rfl) hHeld ?_
                      try simp only [Act.put, List.setIfInBounds_toArray, List.set_cons_zero, List.set_cons_succ]
                      refine hd_take 5 rfl (by kernel_rfl) (by kernel_rfl) (by kernel_rfl) (fun _ _ _ h => h) (by rfl) (by intro w hSw; (try dsimp only at hSw); obtain ⟨hs1, hs2⟩ := hSw; go_simp; first | done | with_reducible rfl) hHeld ?_
                      try simp only [Act.put, List.setIfInBounds_toArray, List.set_cons_zero, List.set_cons_succ]
                      refine hd_take 6 rfl (by kernel_rfl) (by kernel_rfl) (by kernel_rfl) (fun _ _ _ h => h) (by rfl) (by intro w hSw; (try dsimp only at hSw); obtain ⟨hs1, hs2⟩ := hSw; go_simp; first | done | with_reducible rfl) hHeld ?_
                      try simp only [Act.put, List.setIfInBounds_toArray, List.set_cons_zero, List.set_cons_succ]
                      refine hd_take 7 rfl (by kernel_rfl) (by kernel_rfl) (by kernel_rfl) (fun _ _ _ h => h) (by rfl) (by intro w hSw; (try dsimp only at hSw); obtain ⟨hs1, hs2⟩ := hSw; go_simp; first | done | with_reducible rfl) hHeld ?_
                      try simp only [Act.put, List.setIfInBounds_toArray, List.set_cons_zero, List.set_cons_succ]
                      refine wpAnyH_done (by kernel_rfl) ?_ _
                      clear hHeld x0 x1 xb0 xb1
                      go_wp2_with fail
                      go_roundw
                      case rel => exact ⟨j + 1, by omega, by go_num, by rw [HE.out], HBb.out⟩
                      case measure => simp [intOf] <;> omega
                · have hje : j = m := by omega
                  have HE := Lib.hid (show (C : Int) - (cntG (GG.take r) : Nat) - ((l.take j).countP live : Nat) = (C : Int) - (cntG (GG.take (r + 1)) : Nat) by rw [HSn.out, hje, ← hlm, List.take_length]; omega)
                  rw [HE.out]
                  clear hBj HE
                  go_wp2_with fail
                  go_roundw
                  case rel => exact ⟨r + 1, by omega, by go_num, rfl, HBj.out⟩
                  case measure => simp [intOf] <;> omega
            · have hre : r = GG.length := by omega
              have HE := Lib.hid (show (C : Int) - (cntG (GG.take r) : Nat) = 0 by rw [hre, List.take_length]; have := HCg.out; omega)
              rw [HE.out]
              have hrn : ¬ r < GG.length := hrl
              clear hBo HE hrl hr
              go_wp2_with fail
              refine (fin29 (HBw.out.trans ((HB10.out.trans ((HB17.out.trans (HBo.out.mono HB17.out.size)).mono HB10.out.size)).mono HBw.out.size))).mono ?_
              rintro e w' ⟨rfl, hB⟩
              have HBz := Lib.hid hB
              clear hB
              go_wp2_with fail
              go_ret
              exact ⟨rfl, HBz.out⟩
end Go.Proofs.YtkeainhjghdfcaaGreat
