/- Joined texts: ScrI. -/
import Derived.Deep.CutRange
import Derived.Test.YtkeainhjghdfcaaGreatSdbi
import Derived.Test.YtkeainhjghdfcaaGreatSdbk

/- ScreenCursor: its walk. (Printed by gen_scursor.py.) -/
namespace Go.Proofs.YtkeainhjghdfcaaGreat
open Go.RowKit

theorem texts_of_own2 {W : World} {w0 : World} {B n : Nat} {e : TypeId} {pv : Value} {vs : List Value} {LL : List (List Int)} (h : W.ownsRow B e 1 pv n vs) (hn : vs.length = n) (hb : Below w0.heap.size w0 W) (hl : vs.length = LL.length) (hel : ∀ (i : Nat) (u : Value) (l : List Int), vs[i]? = some u → LL[i]? = some l → RunesIn w0 u l) : TextsIn W pv LL := by
  subst hn
  exact texts_of_own h hb hl hel
set_option maxRecDepth 100000 in
set_option maxHeartbeats 16000000 in
theorem screenCursor_any {P : List (List Int)} {s : List Int} {w : World} {pv sv : Value} (hP : TextsIn w pv P) (hPo : ∀ p ∈ P, RunesOk p) (hs : RunesIn w sv s) (ok : RunesOk s) (c rows cols : Int) (hcm : cols ≤ 9223372036854775807) :
    Calls Tryz.prog 6 #[.agg #[pv, sv, .int .i64 c], .int .i64 rows, .int .i64 cols] w fun e w' => e = .returned (.bool true) ∧ Below w.heap.size w w' := by
  obtain ⟨R, HFc, hrows⟩ := apiRows_any
  have HF := Lib.hid HFc
  have HRows := Lib.hid hrows
  have HTk := Lib.hid HFc.seg.tab
  clear HFc hrows
  obtain ⟨sl, scap, rfl, _, _, _⟩ := runes_cells hs
  obtain ⟨pa, pcap, rfl, _, _⟩ := texts_shape hP
  have hba := below1 w (.cells #[.slice pa P.length pcap, .slice sl s.length scap, .int .i64 c] 53)
  have hna := heap_alloc_new w (.cells #[.slice pa P.length pcap, .slice sl s.length scap, .int .i64 c] 53)
  have HBa := Lib.hid hba
  have HNa := Lib.hid hna
  have HFew := Lib.hid (few29_own hba hP hs c)
  have HPk := Lib.hid (fewP_ok hPo)
  have HOk := Lib.hid (show RunesOk (s.take 100) from ok.take 100)
  have HPl := Lib.hid (fewP_len P)
  have hsl : (s.take 100).length ≤ 100 := by rw [List.length_take]; omega
  clear hba hna hP hs hPo ok
  go_enter Tryz.func6, Tryz.ntmps6
  go_upto_region 1 with fail
  generalize w.alloc (.cells #[.slice pa P.length pcap, .slice sl s.length scap, .int .i64 c] 53) = w1 at HBa HNa HFew ⊢
  have y0 := row_cells (i := 0) HNa.out rfl
  have y1 := row_cells (i := 1) HNa.out rfl
  have y2 := row_cells (i := 2) HNa.out rfl
  go_wp2_with fail
  refine HFew.out.mono ?_
  rintro e w2 ⟨pv', sv', rfl, hB2, vs, hO2, hln, hel, hs2⟩
  obtain ⟨oa, oc, rfl⟩ := slice_of_owns hO2
  obtain ⟨sa, sc, rfl, _, _, _⟩ := runes_cells hs2
  generalize hvn : vs.length = vn at hO2 ⊢
  generalize hsn : (s.take 100).length = sn at hs2 hsl ⊢
  have HVn := Lib.hid hvn
  have HSn := Lib.hid hsn
  have HLn := Lib.hid hln
  clear hvn hsn hln
  have hpl := row_len HNa.out
  have hrp := (hB2.block _ hpl).trans HNa.out
  have z0 := row_cells (i := 0) hrp rfl
  have z1 := row_cells (i := 1) hrp rfl
  have z2 := row_cells (i := 2) hrp rfl
  have zw0 := row_warm hrp 0
  have zw1 := row_warm hrp 1
  have zw2 := row_warm hrp 2
  go_upto_region 2 with fail
  have hB3 : Below w.heap.size w (((w2.setCell ⟨w.heap.size, 0, none⟩ (.slice oa vn oc)).setCell ⟨w.heap.size, 1, none⟩ (.slice sa sn sc)).setCell ⟨w.heap.size, 2, none⟩ (.int .i64 c)) :=
    (((HBa.out.trans (hB2.mono HBa.out.size)).setCell (Nat.le_refl _) _).setCell (Nat.le_refl _) _).setCell (Nat.le_refl _) _
  have hn3 : (((w2.setCell ⟨w.heap.size, 0, none⟩ (.slice oa vn oc)).setCell ⟨w.heap.size, 1, none⟩ (.slice sa sn sc)).setCell ⟨w.heap.size, 2, none⟩ (.int .i64 c)).heap[w.heap.size]? = some (.cells #[.slice oa vn oc, .slice sa sn sc, .int .i64 c] 53 (0, 0)) :=
    heap_setCell_same _ _ _ _ _ _ (heap_setCell_same _ _ _ _ _ _ (heap_setCell_same _ _ _ _ _ _ hrp))
  have hO3 : (((w2.setCell ⟨w.heap.size, 0, none⟩ (.slice oa vn oc)).setCell ⟨w.heap.size, 1, none⟩ (.slice sa sn sc)).setCell ⟨w.heap.size, 2, none⟩ (.int .i64 c)).ownsRow w1.heap.size 35 1 (.slice oa vn oc) vn vs := owns_store (owns_store (owns_store hO2 hpl) hpl) hpl
  have HP3 := Lib.hid (texts_of_own2 hO3 HVn.out hB3 HLn.out hel)
  have HS3 := Lib.hid (hs2.below hB3)
  have HB3 := Lib.hid hB3
  have HN3 := Lib.hid hn3
  clear hO3 hn3 hB3 hrp z0 z1 z2 zw0 zw1 zw2 hO2 hel hs2 hB2 y0 y1 y2 HFew HBa HNa hpl
  generalize ((w2.setCell ⟨w.heap.size, 0, none⟩ (.slice oa vn oc)).setCell ⟨w.heap.size, 1, none⟩ (.slice sa sn sc)).setCell ⟨w.heap.size, 2, none⟩ (.int .i64 c) = w3 at HP3 HS3 HB3 HN3 ⊢
  have y0 := row_cells (i := 0) HN3.out rfl
  have y1 := row_cells (i := 1) HN3.out rfl
  have y2 := row_cells (i := 2) HN3.out rfl
  have hcr : rows ≤ 30 ∨ (30 < rows ∧ rows ≤ 500) ∨ (30 < rows ∧ ¬ rows ≤ 500) := by omega
  have hcc : cols ≤ 60 ∨ (60 < cols ∧ cols ≤ 1000) ∨ (60 < cols ∧ ¬ cols ≤ 1000) := by omega
  go_cut [17] from 12 to 17 (fun r wx => (∃ b : Bool, r = .bool b) ∧ wx = w3)
  case first =>
    rcases hcr with hr | ⟨hr, hr2⟩ | ⟨hr, hr2⟩
    · have g1 : decide (rows > 30) = false := decide_eq_false (by omega)
      go_wp2_with fail
      go_meet
      case rel => exact ⟨⟨_, rfl⟩, rfl⟩
    · have g1 : decide (rows > 30) = true := decide_eq_true hr
      have g2 : decide (rows ≤ 500) = true := decide_eq_true hr2
      go_wp2_with fail
      go_meet
      case rel => exact ⟨⟨_, rfl⟩, rfl⟩
    · have g1 : decide (rows > 30) = true := decide_eq_true hr
      have g2 : decide (rows ≤ 500) = false := decide_eq_false hr2
      go_wp2_with fail
      go_meet
      case rel => exact ⟨⟨_, rfl⟩, rfl⟩
  case rest =>
  obtain ⟨⟨b1, hb1⟩, hw3⟩ := hcut
  subst hb1
  rw [hw3]
  clear hw3 hcr
  obtain ⟨rr, hrr⟩ : ∃ rr : Int, rr = if b1 = true then 30 else rows := ⟨_, rfl⟩
  cases b1
  all_goals
    first | rw [if_pos rfl] at hrr | rw [if_neg (by decide)] at hrr
    go_upto_region 4 with fail
    rw [← hrr]
    clear hrr
    go_cut [23] from 18 to 23 (fun r wx => (∃ b : Bool, r = .bool b) ∧ wx = w3)
    case first =>
      rcases hcc with hc | ⟨hc, hc2⟩ | ⟨hc, hc2⟩
      · have g3 : decide (cols > 60) = false := decide_eq_false (by omega)
        go_wp2_with fail
        go_meet
        case rel => exact ⟨⟨_, rfl⟩, rfl⟩
      · have g3 : decide (cols > 60) = true := decide_eq_true hc
        have g4 : decide (cols ≤ 1000) = true := decide_eq_true hc2
        go_wp2_with fail
        go_meet
        case rel => exact ⟨⟨_, rfl⟩, rfl⟩
      · have g3 : decide (cols > 60) = true := decide_eq_true hc
        have g4 : decide (cols ≤ 1000) = false := decide_eq_false hc2
        go_wp2_with fail
        go_meet
        case rel => exact ⟨⟨_, rfl⟩, rfl⟩
    case rest =>
    obtain ⟨⟨b2, hb2⟩, hw3⟩ := hcut
    subst hb2
    rw [hw3]
    clear hw3 hcc
    obtain ⟨cl, hcl⟩ : ∃ cl : Int, cl = if b2 = true then 60 else cols := ⟨_, rfl⟩
    have hc9 : cl ≤ 9223372036854775807 := by rw [hcl]; split <;> omega
    cases b2
    all_goals
      first | rw [if_pos rfl] at hcl | rw [if_neg (by decide)] at hcl
      go_upto_region 6 with fail
      rw [← hcl]
      clear hcl
      go_cut [7] from 24 to 30 (fun r wx => ∃ (q : Nat) (ga : Option Addr) (cr cc : Int), r = .pointer (some ⟨q, 0, none⟩) ∧ wx.heap[q]? = some (.cells #[.pointer ga, .int .i64 cr, .int .i64 cc] 59 (0, 0)) ∧ Below w.heap.size w wx ∧ OfIs wx (viewG R (fewP P) (s.take 100)) (curK R (fewP P) (s.take 100) c) rr cl ga cr cc)
      case first =>
        refine wp_region_held_drew (S := fun w' => w'.cell? ⟨w.heap.size, 0, none⟩ = some (.slice oa vn oc) ∧ w'.cell? ⟨w.heap.size, 1, none⟩ = some (.slice sa sn sc) ∧ w'.cell? ⟨w.heap.size, 2, none⟩ = some (.int .i64 c)) (by kernel_rfl) ⟨y0, y1, y2⟩ (fun hHeld => ?_)
        obtain ⟨wd, hwd⟩ : ∃ wd, wd = w3.drew := ⟨_, rfl⟩
        rw [← hwd] at hHeld ⊢
        have HBc := Lib.hid (show Below w3.heap.size w3 wd by rw [hwd]; exact below_dN (.refl _ _) 1)
        clear hwd
        refine hd_take 2 rfl (by kernel_rfl) (by kernel_rfl) (by kernel_rfl) (fun _ _ _ h => h) (by rfl) (by intro w hSw; (try dsimp only at hSw); obtain ⟨hs1, hs2, hs3⟩ := hSw; go_simp; first | done | with_reducible rfl) hHeld ?_
        try simp only [Act.put, List.setIfInBounds_toArray, List.set_cons_zero, List.set_cons_succ]
        refine hd_take 4 rfl (by kernel_rfl) (by kernel_rfl) (by kernel_rfl) (fun _ _ _ h => h) (by rfl) (by intro w hSw; (try dsimp only at hSw); obtain ⟨hs1, hs2, hs3⟩ := hSw; go_simp; first | done | with_reducible rfl) hHeld ?_
        try simp only [Act.put, List.setIfInBounds_toArray, List.set_cons_zero, List.set_cons_succ]
        refine hd_take 5 rfl (by kernel_rfl) (by kernel_rfl) (by kernel_rfl) (fun _ _ _ h => h) (by rfl) (by intro w hSw; (try dsimp only at hSw); obtain ⟨hs1, hs2, hs3⟩ := hSw; go_simp; first | done | with_reducible rfl) hHeld ?_
        try simp only [Act.put, List.setIfInBounds_toArray, List.set_cons_zero, List.set_cons_succ]
        refine hd_two 0 7 (by kernel_rfl) rfl rfl (fun K hK => ?_) (fun K hK => ?_)
        case' refine_2 =>
          go_simp
          have hqs := HBc.out.size
          have hBx := below1 wd (.cells #[.pointer none, .int .i64 0, .int .i64 0] 59)
          have HQ := Lib.hid (heap_alloc_new wd (.cells #[.pointer none, .int .i64 0, .int .i64 0] 59))
          have HBc := Lib.hid (HBc.out.trans (hBx.mono HBc.out.size))
          clear hBx
          generalize wd.alloc (.cells #[.pointer none, .int .i64 0, .int .i64 0] 59) = wz at HBc HQ ⊢
          generalize wd.heap.size = q at HQ hqs ⊢
          refine hK.out _ _ ⟨cell_later HBc.out y0, cell_later HBc.out y1, cell_later HBc.out y2⟩ (fun hHeld => ?_)
          clear hK K
          try simp only [Act.put, List.setIfInBounds_toArray, List.set_cons_zero, List.set_cons_succ]
          refine hd_step 0 (by kernel_rfl) rfl (fun K hK => ?_)
          go_simp
          go_at_call 17
          refine (HRows.out _).mono ?_
          rintro e w4 ⟨v, rfl, hBx, hR⟩
          have HQ := Lib.hid ((hBx.block _ (row_len HQ.out)).trans HQ.out)
          have HBc := Lib.hid (HBc.out.trans (hBx.mono HBc.out.size))
          have HRc := Lib.hid hR
          clear hR
          clear hBx
          go_wp2_with fail
          refine hK.out _ _ ⟨cell_later HBc.out y0, cell_later HBc.out y1, cell_later HBc.out y2⟩ (fun hHeld => ?_)
          clear hK K
          try simp only [Act.put, List.setIfInBounds_toArray, List.set_cons_zero, List.set_cons_succ]
          refine hd_step 1 (by kernel_rfl) rfl (fun K hK => ?_)
          go_simp
          go_at_call 19
          refine (build_tb v R _ HRc.out HF.out.ok).mono ?_
          rintro e w5 ⟨tp, rfl, hBx, hT⟩
          have HRc := Lib.hid (HRc.out.below hBx)
          have HQ := Lib.hid ((hBx.block _ (row_len HQ.out)).trans HQ.out)
          have HBc := Lib.hid (HBc.out.trans (hBx.mono HBc.out.size))
          have HTc := Lib.hid hT
          clear hT
          clear hBx
          go_wp2_with fail
          refine hK.out _ _ ⟨cell_later HBc.out y0, cell_later HBc.out y1, cell_later HBc.out y2⟩ (fun hHeld => ?_)
          clear hK K
          try simp only [Act.put, List.setIfInBounds_toArray, List.set_cons_zero, List.set_cons_succ]
          refine hd_step 3 (by kernel_rfl) rfl (fun K hK => ?_)
          go_simp
          go_at_call 23
          refine (view29_any _ _ _ _ _ _ c _).mono ?_
          rintro e w6 ⟨rfl, hBx⟩
          have HRc := Lib.hid (HRc.out.below hBx)
          have HTc := Lib.hid (HTc.out.below hBx)
          have HQ := Lib.hid ((hBx.block _ (row_len HQ.out)).trans HQ.out)
          have HBc := Lib.hid (HBc.out.trans (hBx.mono HBc.out.size))
          clear hBx
          go_wp2_with fail
          refine hK.out _ _ ⟨cell_later HBc.out y0, cell_later HBc.out y1, cell_later HBc.out y2⟩ (fun hHeld => ?_)
          clear hK K
          try simp only [Act.put, List.setIfInBounds_toArray, List.set_cons_zero, List.set_cons_succ]
          refine hd_step 6 (by kernel_rfl) rfl (fun K hK => ?_)
          go_simp
          go_at_call 22
          refine (sof_any HTk.out HTc.out (HP3.out.below HBc.out) HPk.out HPl.out (HS3.out.below HBc.out) HOk.out (by rw [List.length_take]; omega) c _ _ hc9).mono ?_
          rintro e w7 ⟨ga, cr, cc, rfl, hBx, hOf⟩
          have HRc := Lib.hid (HRc.out.below hBx)
          have HTc := Lib.hid (HTc.out.below hBx)
          have HQ := Lib.hid ((hBx.block _ (row_len HQ.out)).trans HQ.out)
          have HBc := Lib.hid (HBc.out.trans (hBx.mono HBc.out.size))
          have HOf := Lib.hid hOf
          clear hOf
          clear hBx
          go_wp2_with fail
          refine hK.out _ _ ⟨cell_later HBc.out y0, cell_later HBc.out y1, cell_later HBc.out y2⟩ (fun hHeld => ?_)
          clear hK K
          try simp only [Act.put, List.setIfInBounds_toArray, List.set_cons_zero, List.set_cons_succ]
          rename World => wf
        case' refine_1 =>
          go_simp
          go_at_call 17
          refine (HRows.out _).mono ?_
          rintro e w4 ⟨v, rfl, hBx, hR⟩
          have HBc := Lib.hid (HBc.out.trans (hBx.mono HBc.out.size))
          have HRc := Lib.hid hR
          clear hR
          clear hBx
          go_wp2_with fail
          refine hK.out _ _ ⟨cell_later HBc.out y0, cell_later HBc.out y1, cell_later HBc.out y2⟩ (fun hHeld => ?_)
          clear hK K
          try simp only [Act.put, List.setIfInBounds_toArray, List.set_cons_zero, List.set_cons_succ]
          refine hd_two 1 7 (by kernel_rfl) rfl rfl (fun K hK => ?_) (fun K hK => ?_)
          case' refine_2 =>
            go_simp
            have hqs := HBc.out.size
            have hBx := below1 w4 (.cells #[.pointer none, .int .i64 0, .int .i64 0] 59)
            have HQ := Lib.hid (heap_alloc_new w4 (.cells #[.pointer none, .int .i64 0, .int .i64 0] 59))
            have HRc := Lib.hid (HRc.out.below hBx)
            have HBc := Lib.hid (HBc.out.trans (hBx.mono HBc.out.size))
            clear hBx
            generalize w4.alloc (.cells #[.pointer none, .int .i64 0, .int .i64 0] 59) = wz at HBc HQ HRc ⊢
            generalize w4.heap.size = q at HQ hqs ⊢
            refine hK.out _ _ ⟨cell_later HBc.out y0, cell_later HBc.out y1, cell_later HBc.out y2⟩ (fun hHeld => ?_)
            clear hK K
            try simp only [Act.put, List.setIfInBounds_toArray, List.set_cons_zero, List.set_cons_succ]
            refine hd_step 1 (by kernel_rfl) rfl (fun K hK => ?_)
            go_simp
            go_at_call 19
            refine (build_tb v R _ HRc.out HF.out.ok).mono ?_
            rintro e w5 ⟨tp, rfl, hBx, hT⟩
            have HRc := Lib.hid (HRc.out.below hBx)
            have HQ := Lib.hid ((hBx.block _ (row_len HQ.out)).trans HQ.out)
            have HBc := Lib.hid (HBc.out.trans (hBx.mono HBc.out.size))
            have HTc := Lib.hid hT
            clear hT
            clear hBx
            go_wp2_with fail
            refine hK.out _ _ ⟨cell_later HBc.out y0, cell_later HBc.out y1, cell_later HBc.out y2⟩ (fun hHeld => ?_)
            clear hK K
            try simp only [Act.put, List.setIfInBounds_toArray, List.set_cons_zero, List.set_cons_succ]
            refine hd_step 3 (by kernel_rfl) rfl (fun K hK => ?_)
            go_simp
            go_at_call 23
            refine (view29_any _ _ _ _ _ _ c _).mono ?_
            rintro e w6 ⟨rfl, hBx⟩
            have HRc := Lib.hid (HRc.out.below hBx)
            have HTc := Lib.hid (HTc.out.below hBx)
            have HQ := Lib.hid ((hBx.block _ (row_len HQ.out)).trans HQ.out)
            have HBc := Lib.hid (HBc.out.trans (hBx.mono HBc.out.size))
            clear hBx
            go_wp2_with fail
            refine hK.out _ _ ⟨cell_later HBc.out y0, cell_later HBc.out y1, cell_later HBc.out y2⟩ (fun hHeld => ?_)
            clear hK K
            try simp only [Act.put, List.setIfInBounds_toArray, List.set_cons_zero, List.set_cons_succ]
            refine hd_step 6 (by kernel_rfl) rfl (fun K hK => ?_)
            go_simp
            go_at_call 22
            refine (sof_any HTk.out HTc.out (HP3.out.below HBc.out) HPk.out HPl.out (HS3.out.below HBc.out) HOk.out (by rw [List.length_take]; omega) c _ _ hc9).mono ?_
            rintro e w7 ⟨ga, cr, cc, rfl, hBx, hOf⟩
            have HRc := Lib.hid (HRc.out.below hBx)
            have HTc := Lib.hid (HTc.out.below hBx)
            have HQ := Lib.hid ((hBx.block _ (row_len HQ.out)).trans HQ.out)
            have HBc := Lib.hid (HBc.out.trans (hBx.mono HBc.out.size))
            have HOf := Lib.hid hOf
            clear hOf
            clear hBx
            go_wp2_with fail
            refine hK.out _ _ ⟨cell_later HBc.out y0, cell_later HBc.out y1, cell_later HBc.out y2⟩ (fun hHeld => ?_)
            clear hK K
            try simp only [Act.put, List.setIfInBounds_toArray, List.set_cons_zero, List.set_cons_succ]
            rename World => wf
          case' refine_1 =>
            go_simp
            go_at_call 19
            refine (build_tb v R _ HRc.out HF.out.ok).mono ?_
            rintro e w5 ⟨tp, rfl, hBx, hT⟩
            have HRc := Lib.hid (HRc.out.below hBx)
            have HBc := Lib.hid (HBc.out.trans (hBx.mono HBc.out.size))
            have HTc := Lib.hid hT
            clear hT
            clear hBx
            go_wp2_with fail
            refine hK.out _ _ ⟨cell_later HBc.out y0, cell_later HBc.out y1, cell_later HBc.out y2⟩ (fun hHeld => ?_)
            clear hK K
            try simp only [Act.put, List.setIfInBounds_toArray, List.set_cons_zero, List.set_cons_succ]
            refine hd_two 3 7 (by kernel_rfl) rfl rfl (fun K hK => ?_) (fun K hK => ?_)
            case' refine_2 =>
              go_simp
              have hqs := HBc.out.size
              have hBx := below1 w5 (.cells #[.pointer none, .int .i64 0, .int .i64 0] 59)
              have HQ := Lib.hid (heap_alloc_new w5 (.cells #[.pointer none, .int .i64 0, .int .i64 0] 59))
              have HRc := Lib.hid (HRc.out.below hBx)
              have HTc := Lib.hid (HTc.out.below hBx)
              have HBc := Lib.hid (HBc.out.trans (hBx.mono HBc.out.size))
              clear hBx
              generalize w5.alloc (.cells #[.pointer none, .int .i64 0, .int .i64 0] 59) = wz at HBc HQ HRc HTc ⊢
              generalize w5.heap.size = q at HQ hqs ⊢
              refine hK.out _ _ ⟨cell_later HBc.out y0, cell_later HBc.out y1, cell_later HBc.out y2⟩ (fun hHeld => ?_)
              clear hK K
              try simp only [Act.put, List.setIfInBounds_toArray, List.set_cons_zero, List.set_cons_succ]
              refine hd_step 3 (by kernel_rfl) rfl (fun K hK => ?_)
              go_simp
              go_at_call 23
              refine (view29_any _ _ _ _ _ _ c _).mono ?_
              rintro e w6 ⟨rfl, hBx⟩
              have HRc := Lib.hid (HRc.out.below hBx)
              have HTc := Lib.hid (HTc.out.below hBx)
              have HQ := Lib.hid ((hBx.block _ (row_len HQ.out)).trans HQ.out)
              have HBc := Lib.hid (HBc.out.trans (hBx.mono HBc.out.size))
              clear hBx
              go_wp2_with fail
              refine hK.out _ _ ⟨cell_later HBc.out y0, cell_later HBc.out y1, cell_later HBc.out y2⟩ (fun hHeld => ?_)
              clear hK K
              try simp only [Act.put, List.setIfInBounds_toArray, List.set_cons_zero, List.set_cons_succ]
              refine hd_step 6 (by kernel_rfl) rfl (fun K hK => ?_)
              go_simp
              go_at_call 22
              refine (sof_any HTk.out HTc.out (HP3.out.below HBc.out) HPk.out HPl.out (HS3.out.below HBc.out) HOk.out (by rw [List.length_take]; omega) c _ _ hc9).mono ?_
              rintro e w7 ⟨ga, cr, cc, rfl, hBx, hOf⟩
              have HRc := Lib.hid (HRc.out.below hBx)
              have HTc := Lib.hid (HTc.out.below hBx)
              have HQ := Lib.hid ((hBx.block _ (row_len HQ.out)).trans HQ.out)
              have HBc := Lib.hid (HBc.out.trans (hBx.mono HBc.out.size))
              have HOf := Lib.hid hOf
              clear hOf
              clear hBx
              go_wp2_with fail
              refine hK.out _ _ ⟨cell_later HBc.out y0, cell_later HBc.out y1, cell_later HBc.out y2⟩ (fun hHeld => ?_)
              clear hK K
              try simp only [Act.put, List.setIfInBounds_toArray, List.set_cons_zero, List.set_cons_succ]
              rename World => wf
            case' refine_1 =>
              go_simp
              go_at_call 23
              refine (view29_any _ _ _ _ _ _ c _).mono ?_
              rintro e w6 ⟨rfl, hBx⟩
              have HRc := Lib.hid (HRc.out.below hBx)
              have HTc := Lib.hid (HTc.out.below hBx)
              have HBc := Lib.hid (HBc.out.trans (hBx.mono HBc.out.size))
              clear hBx
              go_wp2_with fail
              refine hK.out _ _ ⟨cell_later HBc.out y0, cell_later HBc.out y1, cell_later HBc.out y2⟩ (fun hHeld => ?_)
              clear hK K
              try simp only [Act.put, List.setIfInBounds_toArray, List.set_cons_zero, List.set_cons_succ]
              refine hd_two 6 7 (by kernel_rfl) rfl rfl (fun K hK => ?_) (fun K hK => ?_)
              case' refine_2 =>
                go_simp
                have hqs := HBc.out.size
                have hBx := below1 w6 (.cells #[.pointer none, .int .i64 0, .int .i64 0] 59)
                have HQ := Lib.hid (heap_alloc_new w6 (.cells #[.pointer none, .int .i64 0, .int .i64 0] 59))
                have HRc := Lib.hid (HRc.out.below hBx)
                have HTc := Lib.hid (HTc.out.below hBx)
                have HBc := Lib.hid (HBc.out.trans (hBx.mono HBc.out.size))
                clear hBx
                generalize w6.alloc (.cells #[.pointer none, .int .i64 0, .int .i64 0] 59) = wz at HBc HQ HRc HTc ⊢
                generalize w6.heap.size = q at HQ hqs ⊢
                refine hK.out _ _ ⟨cell_later HBc.out y0, cell_later HBc.out y1, cell_later HBc.out y2⟩ (fun hHeld => ?_)
                clear hK K
                try simp only [Act.put, List.setIfInBounds_toArray, List.set_cons_zero, List.set_cons_succ]
                refine hd_step 6 (by kernel_rfl) rfl (fun K hK => ?_)
                go_simp
                go_at_call 22
                refine (sof_any HTk.out HTc.out (HP3.out.below HBc.out) HPk.out HPl.out (HS3.out.below HBc.out) HOk.out (by rw [List.length_take]; omega) c _ _ hc9).mono ?_
                rintro e w7 ⟨ga, cr, cc, rfl, hBx, hOf⟩
                have HRc := Lib.hid (HRc.out.below hBx)
                have HTc := Lib.hid (HTc.out.below hBx)
                have HQ := Lib.hid ((hBx.block _ (row_len HQ.out)).trans HQ.out)
                have HBc := Lib.hid (HBc.out.trans (hBx.mono HBc.out.size))
                have HOf := Lib.hid hOf
                clear hOf
                clear hBx
                go_wp2_with fail
                refine hK.out _ _ ⟨cell_later HBc.out y0, cell_later HBc.out y1, cell_later HBc.out y2⟩ (fun hHeld => ?_)
                clear hK K
                try simp only [Act.put, List.setIfInBounds_toArray, List.set_cons_zero, List.set_cons_succ]
                rename World => wf
              case' refine_1 =>
                go_simp
                go_at_call 22
                refine (sof_any HTk.out HTc.out (HP3.out.below HBc.out) HPk.out HPl.out (HS3.out.below HBc.out) HOk.out (by rw [List.length_take]; omega) c _ _ hc9).mono ?_
                rintro e w7 ⟨ga, cr, cc, rfl, hBx, hOf⟩
                have HRc := Lib.hid (HRc.out.below hBx)
                have HTc := Lib.hid (HTc.out.below hBx)
                have HBc := Lib.hid (HBc.out.trans (hBx.mono HBc.out.size))
                have HOf := Lib.hid hOf
                clear hOf
                clear hBx
                go_wp2_with fail
                refine hK.out _ _ ⟨cell_later HBc.out y0, cell_later HBc.out y1, cell_later HBc.out y2⟩ (fun hHeld => ?_)
                clear hK K
                try simp only [Act.put, List.setIfInBounds_toArray, List.set_cons_zero, List.set_cons_succ]
                refine hd_step 7 (by kernel_rfl) rfl (fun K hK => ?_)
                go_simp
                have hqs := HBc.out.size
                have hBx := below1 w7 (.cells #[.pointer none, .int .i64 0, .int .i64 0] 59)
                have HQ := Lib.hid (heap_alloc_new w7 (.cells #[.pointer none, .int .i64 0, .int .i64 0] 59))
                have HRc := Lib.hid (HRc.out.below hBx)
                have HTc := Lib.hid (HTc.out.below hBx)
                have HOf := Lib.hid (HOf.out.later hBx)
                have HBc := Lib.hid (HBc.out.trans (hBx.mono HBc.out.size))
                clear hBx
                generalize w7.alloc (.cells #[.pointer none, .int .i64 0, .int .i64 0] 59) = wz at HBc HQ HRc HTc HOf ⊢
                generalize w7.heap.size = q at HQ hqs ⊢
                refine hK.out _ _ ⟨cell_later HBc.out y0, cell_later HBc.out y1, cell_later HBc.out y2⟩ (fun hHeld => ?_)
                clear hK K
                try simp only [Act.put, List.setIfInBounds_toArray, List.set_cons_zero, List.set_cons_succ]
                rename World => wf
        all_goals
          refine hd_step 8 (by kernel_rfl) rfl (fun K hK => ?_)
          have z0 := row_cells (i := 0) HQ.out rfl
          have zw0 := row_warm HQ.out 0
          have z1 := row_cells (i := 1) HQ.out rfl
          have zw1 := row_warm HQ.out 1
          have z2 := row_cells (i := 2) HQ.out rfl
          have zw2 := row_warm HQ.out 2
          go_simp
          have hB9 : Below w3.heap.size w3 (((wf.setCell ⟨q, 0, none⟩ (.pointer ga)).setCell ⟨q, 1, none⟩ (.int .i64 cr)).setCell ⟨q, 2, none⟩ (.int .i64 cc)) := ((HBc.out.setCell (by show w3.heap.size ≤ q; exact hqs) _).setCell (by show w3.heap.size ≤ q; exact hqs) _).setCell (by show w3.heap.size ≤ q; exact hqs) _
          refine hK.out _ _ ⟨cell_later hB9 y0, cell_later hB9 y1, cell_later hB9 y2⟩ (fun hHeld => ?_)
          clear hK K
          try simp only [Act.put, List.setIfInBounds_toArray, List.set_cons_zero, List.set_cons_succ]
          refine wpAnyH_done (by kernel_rfl) ?_ _
          have hof := HOf.out.put HQ.out (.pointer ga) (.int .i64 cr) (.int .i64 cc)
          have hq9 : (((wf.setCell ⟨q, 0, none⟩ (.pointer ga)).setCell ⟨q, 1, none⟩ (.int .i64 cr)).setCell ⟨q, 2, none⟩ (.int .i64 cc)).heap[q]? = some (.cells #[.pointer ga, .int .i64 cr, .int .i64 cc] 59 (0, 0)) := heap_setCell_same _ _ _ _ _ _ (heap_setCell_same _ _ _ _ _ _ (heap_setCell_same _ _ _ _ _ _ HQ.out))
          have HBf := Lib.hid (HB3.out.trans (hB9.mono HB3.out.size))
          clear hHeld hB9 z0 z1 z2 zw0 zw1 zw2 HQ HOf HBc HTc HRc
          generalize (((wf.setCell ⟨q, 0, none⟩ (.pointer ga)).setCell ⟨q, 1, none⟩ (.int .i64 cr)).setCell ⟨q, 2, none⟩ (.int .i64 cc)) = w9 at hof hq9 HBf ⊢
          go_wp2_with fail
          go_meet
          case rel => exact ⟨q, ga, cr, cc, rfl, hq9, HBf.out, hof⟩
      case rest =>
      obtain ⟨q, ga, cr, cc, hqq, hq9, HBf, hof⟩ := hcut
      subst hqq
      rename World => w9
      have HBf := Lib.hid HBf
      have HQ := Lib.hid hq9
      have hbd := fun (n m : Nat) (h1 : 1 ≤ n) (h2 : 2 ≤ m) => sc_bd (L := viewG R (fewP P) (s.take 100)) (n := n) (m := m) (k := curK R (fewP P) (s.take 100) c) h1 h2 (view_thin R _ _) (curK_le HTk.out)
      clear y0 y1 y2 hq9
      rcases hof with ⟨hbad, rfl, rfl, rfl⟩ | ⟨n, m, gb, lb, rfl, rfl, h1, h2, h3, h4, rfl, h8, h9, hG⟩
      · have s0 := row_cells (i := 0) HQ.out rfl
        have s1 := row_cells (i := 1) HQ.out rfl
        have s2 := row_cells (i := 2) HQ.out rfl
        have hb4 : rr < 1 ∨ (¬ rr < 1 ∧ 500 < rr) ∨ (¬ rr < 1 ∧ ¬ 500 < rr ∧ cl < 2) ∨ (¬ rr < 1 ∧ ¬ 500 < rr ∧ ¬ cl < 2 ∧ 1000 < cl) := by omega
        have t1 := eqin_spot 0 0 0 0 w9
        simp only [decide_true] at t1
        go_wp2_with fail
        refine (size_nil w9).mono ?_
        rintro e w' ⟨rfl, rfl⟩
        clear hbad hbd
        rcases hb4 with k1 | ⟨k1, k2⟩ | ⟨k1, k2, k3⟩ | ⟨k1, k2, k3, k4⟩
        · have g5 : decide (rr < 1) = true := decide_eq_true (by omega)
          go_wp2_with fail
          refine (fin29 HBf.out).mono ?_
          rintro e w' ⟨rfl, hB⟩
          have HB := Lib.hid hB
          clear hB
          go_wp2_with fail
          go_ret
          exact ⟨rfl, HB.out⟩
        · have g5 : decide (rr < 1) = false := decide_eq_false (by omega)
          have g6 : decide (rr > 500) = true := decide_eq_true (by omega)
          go_wp2_with fail
          refine (fin29 HBf.out).mono ?_
          rintro e w' ⟨rfl, hB⟩
          have HB := Lib.hid hB
          clear hB
          go_wp2_with fail
          go_ret
          exact ⟨rfl, HB.out⟩
        · have g5 : decide (rr < 1) = false := decide_eq_false (by omega)
          have g6 : decide (rr > 500) = false := decide_eq_false (by omega)
          have g7 : decide (cl < 2) = true := decide_eq_true (by omega)
          go_wp2_with fail
          refine (fin29 HBf.out).mono ?_
          rintro e w' ⟨rfl, hB⟩
          have HB := Lib.hid hB
          clear hB
          go_wp2_with fail
          go_ret
          exact ⟨rfl, HB.out⟩
        · have g5 : decide (rr < 1) = false := decide_eq_false (by omega)
          have g6 : decide (rr > 500) = false := decide_eq_false (by omega)
          have g7 : decide (cl < 2) = false := decide_eq_false (by omega)
          have g8 : decide (cl > 1000) = true := decide_eq_true (by omega)
          go_wp2_with fail
          refine (fin29 HBf.out).mono ?_
          rintro e w' ⟨rfl, hB⟩
          have HB := Lib.hid hB
          clear hB
          go_wp2_with fail
          go_ret
          exact ⟨rfl, HB.out⟩
      · obtain ⟨b1, b2, b3, b4, b5, b6, b7, b8⟩ := hbd n m h1 h3
        have s0 := row_cells (i := 0) HQ.out rfl
        have c0 := hG.grid.c0
        have c1 := hG.grid.c1
        rw [scG_len] at c0
        go_wp2_with fail
        refine (size_some gb n m w9 c0 c1).mono ?_
        rintro e w10 ⟨rfl, hB10⟩
        have s1 := cell_later hB10 (row_cells (i := 1) HQ.out rfl)
        have s2 := cell_later hB10 (row_cells (i := 2) HQ.out rfl)
        have HBg := Lib.hid (below_trans' HBf.out hB10)
        have g5 : decide ((n : Int) < 1) = false := decide_eq_false (by omega)
        have g6 : decide ((n : Int) > 500) = false := decide_eq_false (by omega)
        have g7 : decide ((m : Int) < 2) = false := decide_eq_false (by omega)
        have g8 : decide ((m : Int) > 1000) = false := decide_eq_false (by omega)
        have k1 : cr ≥ 0 := by rw [h8]; omega
        have k2 : cr < (n : Int) := by rw [h8]; omega
        have k3 : cc ≥ 0 := by rw [h9]; omega
        have k4 : cc < (m : Int) := by rw [h9]; omega
        clear hG hB10 c0 c1 s0 h8 h9 b1 b2 b3 b4 b5 b6 b7 b8
        go_wp2_with fail
        refine (fin29 HBg.out).mono ?_
        rintro e w' ⟨rfl, hB⟩
        have HB := Lib.hid hB
        clear hB
        go_wp2_with fail
        go_ret
        exact ⟨rfl, HB.out⟩
end Go.Proofs.YtkeainhjghdfcaaGreat
