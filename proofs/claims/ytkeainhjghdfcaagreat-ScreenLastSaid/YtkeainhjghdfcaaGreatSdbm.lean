/- Joined texts: ScrK. -/
import Derived.Test.YtkeainhjghdfcaaGreatSdbl
import Derived.Test.YtkeainhjghdfcaaGreatSdbk
import Derived.Test.YtkeainhjghdfcaaGreatSdba

/- ScreenLast: its walk. -/
namespace Go.Proofs.YtkeainhjghdfcaaGreat
open Go.RowKit

set_option maxRecDepth 100000 in
set_option maxHeartbeats 16000000 in
theorem screenLast_any {P : List (List Int)} {s : List Int} {w : World} {pv sv : Value} (hP : TextsIn w pv P) (hPo : ∀ p ∈ P, RunesOk p) (hs : RunesIn w sv s) (ok : RunesOk s) (c rows cols : Int) :
    Calls Tryz.prog 8 #[.agg #[pv, sv, .int .i64 c], .int .i64 rows, .int .i64 cols] w fun e w' => e = .returned (.bool true) ∧ Below w.heap.size w w' := by
  obtain ⟨R, HFc, hrows⟩ := apiRows_any
  have HF := Lib.hid HFc
  have HRows := Lib.hid hrows
  have HTk := Lib.hid HFc.seg.tab
  clear HFc hrows
  obtain ⟨sl, scap, rfl, _, _, _⟩ := runes_cells hs
  obtain ⟨pa, pcap, rfl, _, _⟩ := texts_shape hP
  have hba := below1 w (.cells #[.slice pa P.length pcap, .slice sl s.length scap, .int .i64 c] 53)
  have hna := heap_alloc_new w (.cells #[.slice pa P.length pcap, .slice sl s.length scap, .int .i64 c] 53)
  have HBa := Lib.hid hba
  have HNa := Lib.hid hna
  have HFew := Lib.hid (few29_own hba hP hs c)
  have HPk := Lib.hid (fewP_ok hPo)
  have HOk := Lib.hid (show RunesOk (s.take 100) from ok.take 100)
  have HPl := Lib.hid (fewP_len P)
  have hsl : (s.take 100).length ≤ 100 := by rw [List.length_take]; omega
  clear hba hna hP hs hPo ok
  go_enter Tryz.func8, Tryz.ntmps8
  go_upto_region 1 with fail
  generalize w.alloc (.cells #[.slice pa P.length pcap, .slice sl s.length scap, .int .i64 c] 53) = w1 at HBa HNa HFew ⊢
  have y0 := row_cells (i := 0) HNa.out rfl
  have y1 := row_cells (i := 1) HNa.out rfl
  have y2 := row_cells (i := 2) HNa.out rfl
  go_wp2_with fail
  refine HFew.out.mono ?_
  rintro e w2 ⟨pv', sv', rfl, hB2, vs, hO2, hln, hel, hs2⟩
  obtain ⟨oa, oc, rfl⟩ := slice_of_owns hO2
  obtain ⟨sa, sc, rfl, _, _, _⟩ := runes_cells hs2
  generalize hvn : vs.length = vn at hO2 ⊢
  generalize hsn : (s.take 100).length = sn at hs2 hsl ⊢
  have HVn := Lib.hid hvn
  have HSn := Lib.hid hsn
  have HLn := Lib.hid hln
  clear hvn hsn hln
  have hpl := row_len HNa.out
  have hrp := (hB2.block _ hpl).trans HNa.out
  have z0 := row_cells (i := 0) hrp rfl
  have z1 := row_cells (i := 1) hrp rfl
  have z2 := row_cells (i := 2) hrp rfl
  have zw0 := row_warm hrp 0
  have zw1 := row_warm hrp 1
  have zw2 := row_warm hrp 2
  go_upto_region 2 with fail
  have hB3 : Below w.heap.size w (((w2.setCell ⟨w.heap.size, 0, none⟩ (.slice oa vn oc)).setCell ⟨w.heap.size, 1, none⟩ (.slice sa sn sc)).setCell ⟨w.heap.size, 2, none⟩ (.int .i64 c)) :=
    (((HBa.out.trans (hB2.mono HBa.out.size)).setCell (Nat.le_refl _) _).setCell (Nat.le_refl _) _).setCell (Nat.le_refl _) _
  have hn3 : (((w2.setCell ⟨w.heap.size, 0, none⟩ (.slice oa vn oc)).setCell ⟨w.heap.size, 1, none⟩ (.slice sa sn sc)).setCell ⟨w.heap.size, 2, none⟩ (.int .i64 c)).heap[w.heap.size]? = some (.cells #[.slice oa vn oc, .slice sa sn sc, .int .i64 c] 53 (0, 0)) :=
    heap_setCell_same _ _ _ _ _ _ (heap_setCell_same _ _ _ _ _ _ (heap_setCell_same _ _ _ _ _ _ hrp))
  have hO3 : (((w2.setCell ⟨w.heap.size, 0, none⟩ (.slice oa vn oc)).setCell ⟨w.heap.size, 1, none⟩ (.slice sa sn sc)).setCell ⟨w.heap.size, 2, none⟩ (.int .i64 c)).ownsRow w1.heap.size 35 1 (.slice oa vn oc) vn vs := owns_store (owns_store (owns_store hO2 hpl) hpl) hpl
  have HP3 := Lib.hid (texts_of_own2 hO3 HVn.out hB3 HLn.out hel)
  have HS3 := Lib.hid (hs2.below hB3)
  have HB3 := Lib.hid hB3
  have HN3 := Lib.hid hn3
  have HO3 := Lib.hid hO3
  have HEl := Lib.hid hel
  have HS0 := Lib.hid hs2
  have HPl1 := Lib.hid hpl
  clear hO3 hn3 hB3 hrp z0 z1 z2 zw0 zw1 zw2 hO2 hel hs2 hB2 y0 y1 y2 HFew HBa HNa hpl
  generalize ((w2.setCell ⟨w.heap.size, 0, none⟩ (.slice oa vn oc)).setCell ⟨w.heap.size, 1, none⟩ (.slice sa sn sc)).setCell ⟨w.heap.size, 2, none⟩ (.int .i64 c) = w3 at HP3 HS3 HB3 HN3 HO3 ⊢
  have y0 := row_cells (i := 0) HN3.out rfl
  have y1 := row_cells (i := 1) HN3.out rfl
  have y2 := row_cells (i := 2) HN3.out rfl
  have e1 : bits .and .i64 rows 15 = rows % 16 := i64_and_mask 4 (by decide) rows
  have e2 : bits .and .i64 cols 31 = cols % 32 := i64_and_mask 5 (by decide) cols
  obtain ⟨n, hn⟩ : ∃ n : Nat, (n : Int) = 1 + rows % 16 := ⟨(1 + rows % 16).toNat, by omega⟩
  obtain ⟨m, hm⟩ : ∃ m : Nat, (m : Int) = 2 + cols % 32 := ⟨(2 + cols % 32).toNat, by omega⟩
  have e3 := IntWalk.i64_in (1 + rows % 16) (by omega)
  have e4 := IntWalk.i64_in (2 + cols % 32) (by omega)
  have n1 : 1 ≤ n := by omega
  have n2 : n ≤ 500 := by omega
  have m1 : 2 ≤ m := by omega
  have m2 : m ≤ 1000 := by omega
  have hnm : n * m ≤ 500 * 1000 := Nat.mul_le_mul n2 m2
  go_upto_region 4 with fail
  rw [← hn, ← hm]
  clear e1 e2 e3 e4 hn hm
  go_wp2_with fail
  refine (HRows.out _).mono ?_
  rintro e w4 ⟨v, rfl, hB4, hR⟩
  have HR4 := Lib.hid hR
  have HB4 := Lib.hid hB4
  clear hB4 hR y0 y1 y2
  go_wp2_with fail
  refine (build_tb v R _ HR4.out HF.out.ok).mono ?_
  rintro e w5 ⟨tp, rfl, hB5, hT⟩
  have HT5 := Lib.hid hT
  have HR5 := Lib.hid (HR4.out.below hB5)
  have HB5 := Lib.hid (HB4.out.trans (hB5.mono HB4.out.size))
  have y0 := cell_later HB5.out (row_cells (i := 0) HN3.out rfl)
  have y1 := cell_later HB5.out (row_cells (i := 1) HN3.out rfl)
  have y2 := cell_later HB5.out (row_cells (i := 2) HN3.out rfl)
  clear hT hB5 HB4 HR4
  go_wp2_with fail
  refine (view29_any _ _ _ _ _ _ c _).mono ?_
  rintro e w6 ⟨rfl, hB6⟩
  have HT6 := Lib.hid (HT5.out.below hB6)
  have HR6 := Lib.hid (HR5.out.below hB6)
  have HB6 := Lib.hid (HB5.out.trans (hB6.mono HB5.out.size))
  clear hB6 HB5 HT5 HR5 y0 y1 y2
  go_wp2_with fail
  refine (sof_yes HTk.out HT6.out (HP3.out.below HB6.out) HPk.out HPl.out (HS3.out.below HB6.out) HOk.out (by rw [List.length_take]; omega) c n1 n2 m1 m2).mono ?_
  rintro e w7 ⟨gb, lb, rfl, hB7, hgb, hlb, hG7⟩
  generalize hcr : (itemAt m (viewG R (fewP P) (s.take 100)) (curK R (fewP P) (s.take 100) c)).1 - scTop (viewG R (fewP P) (s.take 100)) n m (curK R (fewP P) (s.take 100) c) = cr
  generalize hcc : (itemAt m (viewG R (fewP P) (s.take 100)) (curK R (fewP P) (s.take 100) c)).2 = cc
  have HCr := Lib.hid hcr
  have HCc := Lib.hid hcc
  have HG7 := Lib.hid hG7
  have HT7 := Lib.hid (HT6.out.below hB7)
  have HR7 := Lib.hid (HR6.out.below hB7)
  have HGb := Lib.hid (Nat.lt_of_lt_of_le (Nat.lt_of_lt_of_le (row_len HN3.out) HB6.out.size) hgb)
  have HLb := Lib.hid (Nat.lt_of_lt_of_le (Nat.lt_of_lt_of_le (row_len HN3.out) HB6.out.size) hlb)
  have HB7 := Lib.hid (HB6.out.trans (hB7.mono HB6.out.size))
  clear hcr hcc hG7 hB7 HB6 HT6 HR6 hgb hlb
  have hb8 := below1 w7 (.cells #[.pointer (some ⟨gb, 0, none⟩), .int .i64 cr, .int .i64 cc] 59)
  have HN8 := Lib.hid (heap_alloc_new w7 (.cells #[.pointer (some ⟨gb, 0, none⟩), .int .i64 cr, .int .i64 cc] 59))
  have HG8 := Lib.hid (HG7.out.kept (by rw [scG_len]; omega) (by omega) (P := fun _ => False) (.of_below hb8) id id)
  have HT8 := Lib.hid (HT7.out.below hb8)
  have HR8 := Lib.hid (HR7.out.below hb8)
  have HB8 := Lib.hid (HB7.out.trans (hb8.mono HB7.out.size))
  have hqs := HB7.out.size
  clear hb8 HG7 HT7 HR7 HB7
  go_upto_region 7 with fail
  generalize w7.alloc (.cells #[.pointer (some ⟨gb, 0, none⟩), .int .i64 cr, .int .i64 cc] 59) = w8 at HN8 HG8 HT8 HR8 HB8 ⊢
  generalize w7.heap.size = q at HN8 hqs ⊢
  have hp3 := row_len HN3.out
  have y0 := cell_later HB8.out (row_cells (i := 0) HN3.out rfl)
  have y1 := cell_later HB8.out (row_cells (i := 1) HN3.out rfl)
  have y2 := cell_later HB8.out (row_cells (i := 2) HN3.out rfl)
  have hcz : c < 0 ∨ (¬ c < 0 ∧ 0 ≤ c) := by omega
  rcases hcz with hc | ⟨hc, hc0⟩
  case' inl => have d1 : decide (c < 0) = true := decide_eq_true hc
  case' inr => have d1 : decide (c < 0) = false := decide_eq_false hc
  all_goals
    go_wp2_with fail
    go_loopw [10] (fun av wr => ∃ a : Nat, av = .int .i64 (a : Int) ∧ Below w8.heap.size w8 wr ∧ ahd (starts (tabOf R) (s.take 100)) (a : Int) = ahd (starts (tabOf R) (s.take 100)) c) (fun av _ => sn - (intOf av).toNat)
    case atStart =>
      first
        | exact ⟨0, rfl, .refl _ _, (ahd_neg hc).symm⟩
        | exact ⟨c.toNat, by rw [Int.toNat_of_nonneg hc0], .refl _ _, by rw [Int.toNat_of_nonneg hc0]⟩
    case round =>
      obtain ⟨a, rfl, hB, hA⟩ := hrel
      have HB := Lib.hid hB
      have HA := Lib.hid hA
      have hBv : Below w3.heap.size w3 wr := HB8.out.trans (hB.mono HB8.out.size)
      have z1 := cell_later hBv (row_cells (i := 1) HN3.out rfl)
      have HIs := Lib.hid (fun (h : a ≤ sn) => is_any a (HR8.out.below hB) (HS3.out.below hBv) HOk.out (by rw [HSn.out]; exact h) (by rw [HSn.out]; omega))
      clear hB hBv hA y0 y1 y2 d1
      rcases Nat.lt_or_ge a sn with hlt | hge
      case' inl =>
        have h64 := IntWalk.i64_in ((a : Int) + 1) (by omega)
        go_wp2_with fail
        refine (HIs.out (by omega)).mono ?_
        rintro e w9 ⟨rfl, hB9⟩
        have HB := Lib.hid (HB.out.trans (hB9.mono HB.out.size))
        have hib : isB (tabOf R) (s.take 100) a = begAt (tabOf R) (s.take 100) a := by
          unfold isB
          rw [decide_eq_false (show ¬ a = (s.take 100).length by rw [HSn.out]; omega), Bool.false_or]
        cases hbb : isB (tabOf R) (s.take 100) a
        case false =>
          have hnx := ahd_next (T := tabOf R) (s := s.take 100) (i := a) (by rw [← hib]; exact hbb)
          have HNx := Lib.hid hnx
          clear hib hbb hB9 hnx
          go_wp2_with fail
          go_roundw
          case rel => exact ⟨a + 1, by go_num, HB.out, by rw [Int.natCast_add]; exact HNx.out.trans HA.out⟩
          case measure => simp [intOf] <;> omega
        case' true =>
          clear hib hbb hB9 h64
      case' inr =>
        have hge2 : ¬ a < sn := by omega
      all_goals
        rename World => wf
        have hBf : Below w3.heap.size w3 wf := HB8.out.trans (HB.out.mono HB8.out.size)
        have hrf := (hBf.block _ hp3).trans HN3.out
        have z0 := row_cells (i := 0) hrf rfl
        have z1 := row_cells (i := 1) hrf rfl
        have z2 := row_cells (i := 2) hrf rfl
        have zw2 := row_warm hrf 2
        have hown := owns_store (i := 2) (u := .int .i64 (a : Int)) (owns_stays HO3.out hBf) HPl1.out
        have HTf := Lib.hid ((HT8.out.below HB.out).store3 (i := 2) (v := .int .i64 (a : Int)) hrf)
        have hkp : Kept (fun j => j = w.heap.size) wf (wf.setCell ⟨w.heap.size, 2, none⟩ (.int .i64 (a : Int))) := kept_setCell _ _ _ rfl
        have HGf := Lib.hid (((HG8.out.kept (by rw [scG_len]; omega) (by omega) (P := fun _ => False) (.of_below HB.out) id id)).kept (by rw [scG_len]; omega) (by omega) hkp (by have := HGb.out; omega) (by have := HLb.out; omega))
        have HNf := Lib.hid ((Below.heap_setCell wf ⟨w.heap.size, 2, none⟩ (.int .i64 (a : Int)) q (by show q ≠ w.heap.size; omega)).trans ((HB.out.block _ (row_len HN8.out)).trans HN8.out))
        have HVf := Lib.hid (heap_setCell_same wf w.heap.size 2 _ _ (.int .i64 (a : Int)) hrf)
        have HBf := Lib.hid (show Below w.heap.size w (wf.setCell ⟨w.heap.size, 2, none⟩ (.int .i64 (a : Int))) from (HB3.out.trans (hBf.mono HB3.out.size)).setCell (Nat.le_refl _) _)
        have HPf := Lib.hid (texts_of_own2 hown HVn.out HBf.out HLn.out HEl.out)
        have HSf := Lib.hid (HS0.out.below HBf.out)
        clear hown hkp hBf
        go_upto_region 13 with fail
        clear hrf z0 z1 z2 zw2
        generalize wf.setCell ⟨w.heap.size, 2, none⟩ (.int .i64 (a : Int)) = w10 at HTf HGf HNf HVf HBf HPf HSf ⊢
        have y0 := row_cells (i := 0) HVf.out rfl
        have y1 := row_cells (i := 1) HVf.out rfl
        have y2 := row_cells (i := 2) HVf.out rfl
        go_wp2_with fail
        refine (view29_any _ _ _ _ _ _ (a : Int) _).mono ?_
        rintro e w11 ⟨rfl, hB11⟩
        go_wp2_with fail
        refine (sof_yes HTk.out (HTf.out.below hB11) (HPf.out.below hB11) HPk.out HPl.out (HSf.out.below hB11) HOk.out (by rw [List.length_take]; omega) (a : Int) n1 n2 m1 m2).mono ?_
        rintro e w12 ⟨gb', lb', rfl, hB12, _, _, hG12⟩
        rw [curK_same HA.out] at hG12 ⊢
        rw [HCr.out, HCc.out]
        have hb13 := below1 w12 (.cells #[.pointer (some ⟨gb', 0, none⟩), .int .i64 cr, .int .i64 cc] 59)
        have HN13 := Lib.hid (heap_alloc_new w12 (.cells #[.pointer (some ⟨gb', 0, none⟩), .int .i64 cr, .int .i64 cc] 59))
        have hB13 : Below w10.heap.size w10 (w12.alloc (.cells #[.pointer (some ⟨gb', 0, none⟩), .int .i64 cr, .int .i64 cc] 59)) := hB11.trans ((hB12.trans (hb13.mono hB12.size)).mono hB11.size)
        have HG13 := Lib.hid (HGf.out.kept (by rw [scG_len]; omega) (by omega) (P := fun _ => False) (.of_below hB13) id id)
        have HH13 := Lib.hid (hG12.kept (by rw [scG_len]; omega) (by omega) (P := fun _ => False) (.of_below hb13) id id)
        have HM13 := Lib.hid ((hB13.block _ (row_len HNf.out)).trans HNf.out)
        have HB13 := Lib.hid (HBf.out.trans (hB13.mono HBf.out.size))
        clear hb13 hB13 hB11 hB12 hG12 y0 y1 y2 HTf HPf HSf HNf HVf HGf HBf
        go_upto_region 14 with fail
        generalize w12.alloc (.cells #[.pointer (some ⟨gb', 0, none⟩), .int .i64 cr, .int .i64 cc] 59) = w13 at HN13 HG13 HH13 HM13 HB13 ⊢
        generalize w12.heap.size = q2 at HN13 ⊢
        have s0 := row_cells (i := 0) HM13.out rfl
        have s1 := row_cells (i := 1) HM13.out rfl
        have s2 := row_cells (i := 2) HM13.out rfl
        have t0 := row_cells (i := 0) HN13.out rfl
        have t1 := row_cells (i := 1) HN13.out rfl
        have t2 := row_cells (i := 2) HN13.out rfl
        have hgl := scG_len (viewG R (fewP P) (s.take 100)) n m (curK R (fewP P) (s.take 100) c)
        go_wp2_with fail
        refine (ssame_any HG13.out HH13.out (by omega) (by omega) (by rw [hgl]; omega)).mono ?_
        rintro e w14 ⟨rfl, hB14⟩
        go_wp2_with fail
        refine (fin29 (HB13.out.trans (hB14.mono HB13.out.size))).mono ?_
        rintro e w' ⟨rfl, hB⟩
        have HBz := Lib.hid hB
        clear hB
        go_wp2_with fail
        go_ret
        exact ⟨rfl, HBz.out⟩
end Go.Proofs.YtkeainhjghdfcaaGreat
