/- Joined texts: PanF PanI PanH GridH RefA RefB RefC RefD RefE GridI PanJ PanL PanM PanC PanK OpenG. -/
import Derived.Deep.QuietTactic
import Derived.BigQuiet
import Derived.Test.YtkeainhjghdfcaaGreatZdac
import Derived.Test.YtkeainhjghdfcaaGreatZaaa
import Derived.Test.YtkeainhjghdfcaaGreatZdaa
import Derived.Test.YtkeainhjghdfcaaGreatZeaa
import Derived.Test.YtkeainhjghdfcaaGreatZaaw
import Derived.Test.YtkeainhjghdfcaaGreatZcaa
/- The document's Wide and Width (chapter 48). -/
namespace Go.Proofs.YtkeainhjghdfcaaGreat
open Go.RowKit

section
variable {w : World} {v : Value} {G : List Gy}
set_option maxRecDepth 100000 in
theorem pdwide_any (h : GlyIn w v G) {at' : Nat} (hat : at' ≤ G.length) (_hl : G.length ≤ 100000) : Calls Tryz.prog 50 #[v, .int .i64 (at' : Int)] w fun e w' => e = .returned (.int .i64 (wdA (wdL G) at')) ∧ w' = w := by
  by_cases hlt : at' < G.length
  · obtain ⟨x, hx⟩ : ∃ x, G[at']? = some x := ⟨G[at'], List.getElem?_eq_getElem hlt⟩
    obtain ⟨b, off, cap, rfl, _, _, _, z0, z1⟩ := gly_cells h hx
    have HN := Lib.hid (wdA_get (wdL_get hx))
    obtain ⟨x1, x2⟩ := x
    dsimp only at z0 z1
    have s0 : (at' : Int) < (G.length : Int) := by omega
    have s1 : (0 : Int) ≤ (at' : Int) := by omega
    have s2 : ((at' : Int) == (G.length : Int)) = false := by rw [beq_eq_false_iff_ne]; omega
    clear hx h hlt
    go_enter Tryz.func50, Tryz.ntmps50
    go_wp2_with fail
    go_ret
    exact ⟨by rw [HN.out]; rfl, rfl⟩
  · obtain ⟨a, cap, rfl, hc1, hc2⟩ := gly_shape h
    have hke : at' = G.length := by omega
    subst hke
    have HN := Lib.hid (show wdA (wdL G) G.length = 1 by rw [← wdL_len, wdA_end])
    clear h hlt
    go_enter Tryz.func50, Tryz.ntmps50
    go_wp2_with fail
    go_ret
    exact ⟨by rw [HN.out]; rfl, rfl⟩
set_option maxRecDepth 100000 in
theorem pdwidth_any (h : GlyIn w v G) (hw : W12 (wdL G)) (hl : G.length ≤ 100000) {fr tt : Nat} (hft : fr ≤ tt) (htl : tt ≤ G.length) : Calls Tryz.prog 49 #[v, .int .i64 (fr : Int), .int .i64 (tt : Int)] w fun e w' => e = .returned (.int .i64 (sW (wdL G) fr tt)) ∧ Below w.heap.size w w' := by
  obtain ⟨a, cap, rfl, hc1, hc2⟩ := gly_shape h
  unfold maxLen at hc2
  have HG := Lib.hid h
  have HW := Lib.hid hw
  clear h hw
  go_enter Tryz.func49, Tryz.ntmps49
  go_wp2_with fail
  go_loopw [7, 8] (fun nv iv wr => ∃ k : Nat, fr ≤ k ∧ k ≤ tt ∧ iv = .int .i64 (k : Int) ∧ nv = .int .i64 (sW (wdL G) fr k) ∧ Below w.heap.size w wr) (fun _ iv _ => tt - (intOf iv).toNat)
  case atStart => exact ⟨fr, Nat.le_refl _, hft, rfl, by rw [sW_self], .refl _ _⟩
  case round =>
    obtain ⟨k, hk0, hk, rfl, rfl, hB⟩ := hrel
    have HB := Lib.hid hB
    have hr := sW_rng HW.out fr k
    rw [wdL_len] at hr
    by_cases hlt : k < tt
    · obtain ⟨x, hx⟩ : ∃ x, G[k]? = some x := ⟨G[k], List.getElem?_eq_getElem (by omega)⟩
      obtain ⟨b, off, cap', hv, _, _, _, z0, z1⟩ := gly_cells (HG.out.below hB) hx
      cases hv
      have hn := sW_snoc (ws := wdL G) (a := fr) (b := k) hk0 (by rw [wdL_len]; omega)
      rw [wdA_get (wdL_get hx)] at hn
      have hw2 := wdA_rng HW.out k
      rw [wdA_get (wdL_get hx)] at hw2
      have HN := Lib.hid hn
      obtain ⟨x1, x2⟩ := x
      dsimp only at z0 z1 hw2 hn
      generalize sW (wdL G) fr k = n at hr HN ⊢
      have s0 : (k : Int) < (tt : Int) := by omega
      have s1 : (0 : Int) ≤ (k : Int) := by omega
      have s2 : (k : Int) < (G.length : Int) := by omega
      have e1 := IntWalk.i64_in ((k : Int) + 1) (by omega)
      have e2 := IntWalk.i64_in (n + x2) (by omega)
      clear hB hx hn hlt
      go_wp2_with fail
      go_roundw
      case rel => exact ⟨k + 1, by omega, by omega, by go_num, by rw [HN.out], HB.out⟩
      case measure => simp [intOf] <;> omega
    · have hke : k = tt := by omega
      subst hke
      clear hB hlt hr
      go_wp2_with fail
      go_ret
      exact ⟨rfl, HB.out⟩
end
end Go.Proofs.YtkeainhjghdfcaaGreat

/- The document's Choose (chapter 48): its walk. (Printed by gen_dchoose.py.) -/
namespace Go.Proofs.YtkeainhjghdfcaaGreat
open Go.RowKit

/-- the result's cells (h), those that are made (p) -/
structure ShD (wr : World) (h p : Nat) (fr tt : Nat) (ah be : Bool) (col : Int) : Prop where
  hp : h < p
  hs : p < wr.heap.size
  r : wr.heap[h]? = some (.cells #[.int .i64 0, .int .i64 0, .bool false, .bool false, .int .i64 0] 30 (0, 0))
  t : wr.heap[p]? = some (.cells #[.int .i64 (fr : Int), .int .i64 (tt : Int), .bool ah, .bool be, .int .i64 col] 30 (0, 0))
section
variable {wr wr' : World} {h p fr tt : Nat} {ah be : Bool} {col : Int}
theorem ShD.later (H : ShD wr h p fr tt ah be col) (hB : Below wr.heap.size wr wr') : ShD wr' h p fr tt ah be col :=
  have hs := H.hs
  have hp := H.hp
  ⟨hp, Nat.lt_of_lt_of_le hs hB.size, (hB.block h (by omega)).trans H.r, (hB.block p (by omega)).trans H.t⟩
theorem ShD.put (H : ShD wr h p fr tt ah be col) (i : Nat) (u : Value) {fr' tt' : Nat} {ah' be' : Bool} {col' : Int}
    (he : some (Obj.cells ((#[.int .i64 (fr : Int), .int .i64 (tt : Int), .bool ah, .bool be, .int .i64 col] : Array Value).setIfInBounds i u) 30 (0, 0)) = some (.cells #[.int .i64 (fr' : Int), .int .i64 (tt' : Int), .bool ah', .bool be', .int .i64 col'] 30 (0, 0))) :
    ShD (wr.setCell ⟨p, i, none⟩ u) h p fr' tt' ah' be' col' :=
  have hs := H.hs
  have hp := H.hp
  have hg := setCell_grown wr ⟨p, i, none⟩ u
  ⟨hp, Nat.lt_of_lt_of_le hs hg.size, (hg.block h (by omega) (by intro e; simp at e; omega)).trans H.r, (heap_setCell_same _ _ _ _ _ _ H.t).trans he⟩
theorem ShD.below (H : ShD wr h p fr tt ah be col) {W : World} (hB : Below h W wr) (i : Nat) (u : Value) : Below h W (wr.setCell ⟨p, i, none⟩ u) :=
  have hp := H.hp
  hB.setCell (by show h ≤ p; omega) u
end
theorem ShD.fr' {wr : World} {h p fr tt : Nat} {ah be : Bool} {col : Int} (H : ShD wr h p fr tt ah be col) : frOf wr p 0 = fr := by
  unfold frOf; rw [row_cells (i := 0) H.t rfl]; rfl
theorem ShD.tu' {wr : World} {h p fr tt : Nat} {ah be : Bool} {col : Int} (H : ShD wr h p fr tt ah be col) : frOf wr p 1 = tt := by
  unfold frOf; rw [row_cells (i := 1) H.t rfl]; rfl
section
variable {w : World} {v : Value} {G : List Gy}
theorem pdwidth_z (h : GlyIn w v G) (hw : W12 (wdL G)) (hl : G.length ≤ 100000) {fr tt : Nat} {x y : Int} (hx : x = (fr : Int)) (hy : y = (tt : Int)) (hft : fr ≤ tt) (htl : tt ≤ G.length) : Calls Tryz.prog 49 #[v, .int .i64 x, .int .i64 y] w fun e w' => e = .returned (.int .i64 (sW (wdL G) fr tt)) ∧ Below w.heap.size w w' := by
  subst hx
  subst hy
  exact pdwidth_any h hw hl hft htl
set_option maxRecDepth 100000 in
set_option maxHeartbeats 16000000 in
theorem dchoose_yes (h : GlyIn w v G) (hw : W12 (wdL G)) (hl : G.length ≤ 1000) {at' : Nat} (hat : at' ≤ G.length) {cols : Int} (hc : 4 ≤ cols) (hc2 : cols ≤ 9223372036854775807) :
    Calls Tryz.prog 14 #[v, .int .i64 (at' : Int), .int .i64 cols] w fun e w' => e = .returned (.tuple #[shV (choF (wdL G) at' cols), .bool true]) ∧ Below w.heap.size w w' := by
  obtain ⟨a, cap, rfl, hc1, hc3⟩ := gly_shape h
  unfold maxLen at hc3
  have HG := Lib.hid h
  have HW := Lib.hid hw
  have g0 : decide (cols < 4) = false := decide_eq_false (by omega)
  have g1 : ¬ G.length < at' := by omega
  have k1 : (0 : Int) ≤ (at' : Int) := by omega
  have g2 : decide ((at' : Int) < 0) = false := decide_eq_false (by omega)
  have e1 := IntWalk.i64_in (cols - 1) (by omega)
  have e2 := IntWalk.i64_in (cols - 2) (by omega)
  have hb0 := below1 w (.cells #[.int .i64 0, .int .i64 0, .bool false, .bool false, .int .i64 0] 30)
  have hr0 := heap_alloc_new w (.cells #[.int .i64 0, .int .i64 0, .bool false, .bool false, .int .i64 0] 30)
  have hz0 : (w.alloc (.cells #[.int .i64 0, .int .i64 0, .bool false, .bool false, .int .i64 0] 30)).heap.size = w.heap.size + 1 := by simp
  clear h hw
  go_enter Tryz.func14, Tryz.ntmps14
  go_upto_region 4 with fail
  generalize w.alloc (.cells #[.int .i64 0, .int .i64 0, .bool false, .bool false, .int .i64 0] 30) = w1 at hb0 hr0 hz0 ⊢
  obtain ⟨hh, hhe⟩ : ∃ hh, w.heap.size = hh := ⟨_, rfl⟩
  have HH := Lib.hid hhe
  have HG1 := Lib.hid (HG.out.below hb0)
  rw [hhe] at hb0 hr0 hz0 ⊢
  have HB1 := Lib.hid hb0
  have HR1 := Lib.hid hr0
  have hs1 : hh ≤ w1.heap.size := by omega
  clear hb0 hr0 hhe HG
  go_wp2_with fail
  refine (pdwidth_z HG1.out HW.out (by omega) (fr := 0) (tt := G.length) rfl rfl (Nat.zero_le _) (Nat.le_refl _)).mono ?_
  rintro e w2 ⟨rfl, hB2⟩
  have HB2 := Lib.hid (HB1.out.trans (hB2.mono hs1))
  have HR2 := Lib.hid ((hB2.block _ (row_len HR1.out)).trans HR1.out)
  have HG2 := Lib.hid (HG1.out.below hB2)
  have hs2 := hB2.size
  clear hB2 HB1 HR1 HG1
  have hsr := sW_rng HW.out 0 G.length
  rw [wdL_len] at hsr
  have e3 := IntWalk.i64_in (sW (wdL G) 0 G.length + 1) (by omega)
  have hwd := wdA_rng HW.out at'
  have hsa := sW_rng HW.out 0 at'
  rw [wdL_len] at hsa
  by_cases hfit : sW (wdL G) 0 G.length + 1 ≤ cols
  · have HC := Lib.hid (show choF (wdL G) at' cols = ⟨0, G.length, false, false, sW (wdL G) 0 at'⟩ by unfold choF; rw [wdL_len, if_pos hfit])
    go_wp2_with fail
    refine (pdwidth_z HG2.out HW.out (by omega) (fr := 0) (tt := at') rfl rfl (Nat.zero_le _) hat).mono ?_
    rintro e w4 ⟨rfl, hB4⟩
    have hr4 := (hB4.block _ (row_len HR2.out)).trans HR2.out
    have HB4 := Lib.hid (HB2.out.trans (hB4.mono (by omega)))
    have z0 := row_cells (i := 0) hr4 rfl
    have zw0 := row_warm hr4 0
    have z1 := row_cells (i := 1) hr4 rfl
    have zw1 := row_warm hr4 1
    have z2 := row_cells (i := 2) hr4 rfl
    have zw2 := row_warm hr4 2
    have z3 := row_cells (i := 3) hr4 rfl
    have zw3 := row_warm hr4 3
    have z4 := row_cells (i := 4) hr4 rfl
    have zw4 := row_warm hr4 4
    clear hr4 hB4 HR2
    go_wp2_with fail
    refine ret_cell_tmp (x := .bool true) (ad := ⟨hh, 0, none⟩) rfl rfl rfl (run_loadVar_mid _ _ 0 _ [.int .i64 0, .int .i64 (G.length : Int), .bool false, .bool false, .int .i64 (sW (wdL G) 0 at')] _ (range5' (by go_simp) (by go_simp) (by go_simp) (by go_simp) (by go_simp)) Tryz.underlying30 rfl (by kernel_rfl)) rfl ?_
    rw [HC.out, HH.out]
    exact ⟨rfl, (((((HB4.out).setCell (by show hh ≤ hh; omega) _).setCell (by show hh ≤ hh; omega) _).setCell (by show hh ≤ hh; omega) _).setCell (by show hh ≤ hh; omega) _).setCell (by show hh ≤ hh; omega) _⟩
  · have hfit2 : decide (sW (wdL G) 0 G.length + 1 ≤ cols) = false := decide_eq_false hfit
    have hb3 := below1 w2 (.cells #[.int .i64 0, .int .i64 0, .bool false, .bool false, .int .i64 0] 30)
    have hn3 := heap_alloc_new w2 (.cells #[.int .i64 0, .int .i64 0, .bool false, .bool false, .int .i64 0] 30)
    have hlt2 := row_len HR2.out
    have hS3 : ShD (w2.alloc (.cells #[.int .i64 0, .int .i64 0, .bool false, .bool false, .int .i64 0] 30)) hh w2.heap.size 0 0 false false 0 := ⟨hlt2, by simp, (hb3.block _ (row_len HR2.out)).trans HR2.out, hn3⟩
    have hGp : Rs w2.heap.size (w2.alloc (.cells #[.int .i64 0, .int .i64 0, .bool false, .bool false, .int .i64 0] 30)) gyE 2 (.slice a G.length cap) G := Rd.below HG2.out hb3 (Nat.le_refl _)
    have hB3 := HB2.out.alloc (by omega) (.cells #[.int .i64 0, .int .i64 0, .bool false, .bool false, .int .i64 0] 30)
    have HS3 := Lib.hid (show ShD (w2.alloc (.cells #[.int .i64 0, .int .i64 0, .bool false, .bool false, .int .i64 0] 30)) hh w2.heap.size 0 0 false false 0 from hS3)
    have HGp := Lib.hid (show Rs w2.heap.size (w2.alloc (.cells #[.int .i64 0, .int .i64 0, .bool false, .bool false, .int .i64 0] 30)) gyE 2 (.slice a G.length cap) G from hGp)
    have HB3 := Lib.hid (show Below hh w (w2.alloc (.cells #[.int .i64 0, .int .i64 0, .bool false, .bool false, .int .i64 0] 30)) from hB3)
    clear hb3 hS3 hGp hB3 HR2 HG2 HB2
    go_upto_region 7 with fail
    clear hn3
    generalize (w2.alloc (.cells #[.int .i64 0, .int .i64 0, .bool false, .bool false, .int .i64 0] 30)) = w4 at HS3 HGp HB3 ⊢
    generalize w2.heap.size = p at HS3 HGp hs2 hlt2 ⊢
    have hp4 := HS3.out.hp
    have hs4 := HS3.out.hs
    have HG4 := Lib.hid (show GlyIn w4 (.slice a G.length cap) G from Rd.mono HGp.out (by omega))
    go_wp2_with fail
    refine (pdwidth_z HG4.out HW.out (by omega) (fr := 0) (tt := at') rfl rfl (Nat.zero_le _) hat).mono ?_
    rintro e w5 ⟨rfl, hB5⟩
    have HS5 := Lib.hid (HS3.out.later hB5)
    have HB5 := Lib.hid (HB3.out.trans (hB5.mono (by omega)))
    have HGq := Lib.hid (Rd.below HGp.out hB5 (by omega))
    have hs5 := HS5.out.hs
    have HG5 := Lib.hid (show GlyIn w5 (.slice a G.length cap) G from Rd.mono HGq.out (by omega))
    clear hB5 HS3 HB3 HGp HG4
    go_wp2_with fail
    refine (pdwide_any HG5.out hat (by omega)).mono ?_
    rintro e w6 ⟨rfl, rfl⟩
    have e4 := IntWalk.i64_in (sW (wdL G) 0 at' + wdA (wdL G) at') (by omega)
    by_cases hov : cols - 1 < sW (wdL G) 0 at' + wdA (wdL G) at'
    · have hov2 : sW (wdL G) 0 at' + wdA (wdL G) at' > cols - 1 := hov
      have y0 := row_cells (i := 0) HS5.out.t rfl
      have yw0 := row_warm HS5.out.t 0
      have y1 := row_cells (i := 1) HS5.out.t rfl
      have yw1 := row_warm HS5.out.t 1
      have y2 := row_cells (i := 2) HS5.out.t rfl
      have yw2 := row_warm HS5.out.t 2
      have y3 := row_cells (i := 3) HS5.out.t rfl
      have yw3 := row_warm HS5.out.t 3
      have y4 := row_cells (i := 4) HS5.out.t rfl
      have yw4 := row_warm HS5.out.t 4
      have HS7 := Lib.hid (show ShD (w6.setCell ⟨p, 2, none⟩ (.bool true)) hh p 0 0 true false 0 from HS5.out.put 2 _ rfl)
      have HB7 := Lib.hid (HS5.out.below HB5.out 2 (.bool true))
      have HG7 := Lib.hid (show Rs p (w6.setCell ⟨p, 2, none⟩ (.bool true)) gyE 2 (.slice a G.length cap) G from GlyIn.set HGq.out (Nat.le_refl _))
      go_wp2_with fail
      clear HS5 HB5 HGq HG5 y0 yw0 y1 yw1 y2 yw2 y3 yw3 y4 yw4
      generalize (w6.setCell ⟨p, 2, none⟩ (.bool true)) = w7 at HS7 HB7 HG7 ⊢
      go_loopw [] (fun wr => ∃ f : Nat, f ≤ at' ∧ ShD wr hh p f 0 true false 0 ∧ Below hh w wr ∧ Rs p wr gyE 2 (.slice a G.length cap) G ∧ frF (wdL G) at' (cols - 2) (at' - f) f = frF (wdL G) at' (cols - 2) at' 0) (fun wr => at' - frOf wr p 0)
      case atStart => exact ⟨0, Nat.zero_le _, HS7.out, HB7.out, HG7.out, rfl⟩
      case round =>
        rename World => wa
        obtain ⟨f, hfa, hS, hB, hG, hF⟩ := hrel
        have HS := Lib.hid hS
        have HB := Lib.hid hB
        have HGq := Lib.hid hG
        have HF := Lib.hid hF
        have HFr := Lib.hid hS.fr'
        have hsa1 := hS.hs
        have y0 := row_cells (i := 0) hS.t rfl
        have yw0 := row_warm hS.t 0
        have y1 := row_cells (i := 1) hS.t rfl
        have yw1 := row_warm hS.t 1
        have y2 := row_cells (i := 2) hS.t rfl
        have yw2 := row_warm hS.t 2
        have y3 := row_cells (i := 3) hS.t rfl
        have yw3 := row_warm hS.t 3
        have y4 := row_cells (i := 4) hS.t rfl
        have yw4 := row_warm hS.t 4
        clear hS hB hG hF
        have hgm : GlyIn wa (.slice a G.length cap) G := Rd.mono HGq.out (by omega)
        have hsm := sW_rng HW.out f at'
        rw [wdL_len] at hsm
        have e8 := IntWalk.i64_in ((f : Int) + 1) (by omega)
        have e9 := IntWalk.i64_in (sW (wdL G) f at' + wdA (wdL G) at') (by omega)
        go_wp2_with fail
        refine (pdwidth_z hgm HW.out (by omega) (fr := f) (tt := at') rfl rfl hfa hat).mono ?_
        rintro e wb ⟨rfl, hBb⟩
        have HSb := Lib.hid (HS.out.later hBb)
        have HBb := Lib.hid (HB.out.trans (hBb.mono (by omega)))
        have HGb := Lib.hid (Rd.below HGq.out hBb (by omega))
        have hsb := HSb.out.hs
        have hgw := (show GlyIn wb (.slice a G.length cap) G from Rd.mono HGb.out (by omega))
        clear hBb HS HB HGq hgm y0 yw0 y1 yw1 y2 yw2 y3 yw3 y4 yw4
        go_wp2_with fail
        refine (pdwide_any hgw hat (by omega)).mono ?_
        rintro e wc ⟨rfl, rfl⟩
        clear hgw
        by_cases hgt : cols - 2 < sW (wdL G) f at' + wdA (wdL G) at'
        · have hgt2 : sW (wdL G) f at' + wdA (wdL G) at' > cols - 2 := hgt
          have hgo := fr_go HW.out (m := cols - 2) (by omega) hfa hgt
          have HN := Lib.hid (show frF (wdL G) at' (cols - 2) (at' - (f + 1)) (f + 1) = frF (wdL G) at' (cols - 2) at' 0 by rw [← HF.out, hgo.2])
          have hfl := hgo.1
          have y0 := row_cells (i := 0) HSb.out.t rfl
          have yw0 := row_warm HSb.out.t 0
          have y1 := row_cells (i := 1) HSb.out.t rfl
          have yw1 := row_warm HSb.out.t 1
          have y2 := row_cells (i := 2) HSb.out.t rfl
          have yw2 := row_warm HSb.out.t 2
          have y3 := row_cells (i := 3) HSb.out.t rfl
          have yw3 := row_warm HSb.out.t 3
          have y4 := row_cells (i := 4) HSb.out.t rfl
          have yw4 := row_warm HSb.out.t 4
          clear hgo
          go_wp2_with fail
          go_roundw
          case rel => exact ⟨f + 1, by omega, HSb.out.put 0 _ rfl, HSb.out.below HBb.out 0 _, GlyIn.set HGb.out (Nat.le_refl _), HN.out⟩
          case measure => rw [(HSb.out.put (fr' := f + 1) (tt' := 0) (ah' := true) (be' := false) (col' := 0) 0 (.int .i64 ((f : Int) + 1)) rfl).fr', HFr.out]; omega
        · have hgt2 : decide (sW (wdL G) f at' + wdA (wdL G) at' > cols - 2) = false := decide_eq_false (by omega)
          have y0 := row_cells (i := 0) HSb.out.t rfl
          have yw0 := row_warm HSb.out.t 0
          have y1 := row_cells (i := 1) HSb.out.t rfl
          have yw1 := row_warm HSb.out.t 1
          have y2 := row_cells (i := 2) HSb.out.t rfl
          have yw2 := row_warm HSb.out.t 2
          have y3 := row_cells (i := 3) HSb.out.t rfl
          have yw3 := row_warm HSb.out.t 3
          have y4 := row_cells (i := 4) HSb.out.t rfl
          have yw4 := row_warm HSb.out.t 4
          go_upto_region 14 with fail
          have HS := Lib.hid (show ShD (wc.setCell ⟨p, 4, none⟩ (.int .i64 1)) hh p f 0 true false 1 from HSb.out.put 4 _ rfl)
          have HB := Lib.hid (HSb.out.below HBb.out 4 (.int .i64 1))
          have HGq := Lib.hid (show Rs p (wc.setCell ⟨p, 4, none⟩ (.int .i64 1)) gyE 2 (.slice a G.length cap) G from GlyIn.set HGb.out (Nat.le_refl _))
          clear HSb HBb HGb y0 yw0 y1 yw1 y2 yw2 y3 yw3 y4 yw4
          generalize (wc.setCell ⟨p, 4, none⟩ (.int .i64 1)) = wx at HS HB HGq ⊢
          have hsx := HS.out.hs
          obtain ⟨c0, hc0⟩ : ∃ c0 : Int, c0 = 1 := ⟨_, rfl⟩
          rw [← hc0] at HS
          have HCE := Lib.hid (show choF (wdL G) at' cols = if sW (wdL G) f G.length + 1 ≤ cols - 1 then ⟨f, G.length, true, false, c0 + sW (wdL G) f at'⟩ else ⟨f, toF (wdL G) f (cols - 1 - 1) (G.length - f) f, true, true, c0 + sW (wdL G) f at'⟩ by
            have := cho_eq (ws := wdL G) (at' := at') (cols := cols) (room := cols - 1) (col := c0 + sW (wdL G) f at') (ah := true) (fr := f) (by rw [wdL_len]; omega) (decide_eq_true hov).symm (by rw [if_pos rfl, ← HF.out, fr_stop (by omega)]) rfl (by rw [hc0]; omega)
            rw [wdL_len] at this
            exact this)
          have hc01 : 0 ≤ c0 ∧ c0 ≤ 1 := by omega
          clear hgt hgt2 hc0
          have y0 := row_cells (i := 0) HS.out.t rfl
          have yw0 := row_warm HS.out.t 0
          have y1 := row_cells (i := 1) HS.out.t rfl
          have yw1 := row_warm HS.out.t 1
          have y2 := row_cells (i := 2) HS.out.t rfl
          have yw2 := row_warm HS.out.t 2
          have y3 := row_cells (i := 3) HS.out.t rfl
          have yw3 := row_warm HS.out.t 3
          have y4 := row_cells (i := 4) HS.out.t rfl
          have yw4 := row_warm HS.out.t 4
          have k3 : (0 : Int) ≤ (f : Int) := by omega
          have hgm := fun (W : World) (hb : Below wx.heap.size wx W) => (show GlyIn W (.slice a G.length cap) G from Rd.mono (Rd.below HGq.out hb (by omega)) (by have := hb.size; omega))
          have HGm := Lib.hid hgm
          clear hgm
          have hsm := sW_rng HW.out f at'
          rw [wdL_len] at hsm
          have hsl := sW_rng HW.out f G.length
          rw [wdL_len] at hsl
          have e6 := IntWalk.i64_in (c0 + sW (wdL G) f at') (by omega)
          have e6' := IntWalk.i64_in (sW (wdL G) f G.length + 1) (by omega)
          have e6'' := IntWalk.i64_in (cols - 1 - 1) (by omega)
          go_upto_region 14 with fail
          have hpx : p < wx.heap.size := HS.out.hs
          have hsx := HS.out.hs
          refine wp_region_held_drew (S := fun w' => w'.cell? ⟨p, 0, none⟩ = some (.int .i64 (f : Int))) (by kernel_rfl) y0 (fun hHeld => ?_)
          refine hd_take 0 rfl (by kernel_rfl) (by kernel_rfl) (by kernel_rfl) (fun _ _ _ h => h) (by rfl) (by intro w hSw; (try dsimp only at hSw); go_simp; first | done | with_reducible rfl) hHeld ?_
          try simp only [Act.put, List.setIfInBounds_toArray, List.set_cons_zero, List.set_cons_succ]
          refine hd_take 2 rfl (by kernel_rfl) (by kernel_rfl) (by kernel_rfl) (fun _ _ _ h => h) (by rfl) (by intro w hSw; (try dsimp only at hSw); go_simp; first | done | with_reducible rfl) hHeld ?_
          try simp only [Act.put, List.setIfInBounds_toArray, List.set_cons_zero, List.set_cons_succ]
          refine hd_take 3 rfl (by kernel_rfl) (by kernel_rfl) (by kernel_rfl) (fun _ _ _ h => h) (by rfl) (by intro w hSw; (try dsimp only at hSw); go_simp; first | done | with_reducible rfl) hHeld ?_
          try simp only [Act.put, List.setIfInBounds_toArray, List.set_cons_zero, List.set_cons_succ]
          refine hd_take 4 rfl (by kernel_rfl) (by kernel_rfl) (by kernel_rfl) (fun _ _ _ h => h) (by rfl) (by intro w hSw; (try dsimp only at hSw); go_simp; first | done | with_reducible rfl) hHeld ?_
          try simp only [Act.put, List.setIfInBounds_toArray, List.set_cons_zero, List.set_cons_succ]
          refine hd_take 5 rfl (by kernel_rfl) (by kernel_rfl) (by kernel_rfl) (fun _ _ _ h => h) (by rfl) (by intro w hSw; (try dsimp only at hSw); go_simp; first | done | with_reducible rfl) hHeld ?_
          try simp only [Act.put, List.setIfInBounds_toArray, List.set_cons_zero, List.set_cons_succ]
          refine hd_two 1 6 (by kernel_rfl) rfl rfl (fun K hK => ?_) (fun K hK => ?_)
          case' refine_1 =>
            go_simp
            refine hK.out _ _ y0 (fun hHeld => ?_)
            clear hK K
            try simp only [Act.put, List.setIfInBounds_toArray, List.set_cons_zero, List.set_cons_succ]
            refine hd_step 6 (by kernel_rfl) rfl (fun K hK => ?_)
            go_simp
            go_at_call 49
            refine (pdwidth_z (HGm.out wx.drew (below_dN (.refl _ _) 1)) HW.out (by omega) (fr := f) (tt := at') rfl rfl (by omega) hat).mono ?_
            rintro e w8 ⟨rfl, hB8⟩
            have hB8 : Below wx.heap.size wx w8 := (below_dN (.refl _ _) 1).trans hB8
            have HS8 := Lib.hid (HS.out.later hB8)
            have HB8 := Lib.hid (HB.out.trans (hB8.mono (by omega)))
            have HG8 := Lib.hid (Rd.below HGq.out hB8 (by omega))
            have x0 := row_cells (i := 0) HS8.out.t rfl
            have x4 := row_cells (i := 4) HS8.out.t rfl
            have xw4 := row_warm HS8.out.t 4
            clear hB8
            go_wp2_with fail
            refine hK.out _ _ x0 (fun hHeld => ?_)
            clear hK K
            try simp only [Act.put, List.setIfInBounds_toArray, List.set_cons_zero, List.set_cons_succ]
          case' refine_2 =>
            go_simp
            go_at_call 49
            refine (pdwidth_z (HGm.out wx.drew (below_dN (.refl _ _) 1)) HW.out (by omega) (fr := f) (tt := at') rfl rfl (by omega) hat).mono ?_
            rintro e w8 ⟨rfl, hB8⟩
            have hB8 : Below wx.heap.size wx w8 := (below_dN (.refl _ _) 1).trans hB8
            have HS8 := Lib.hid (HS.out.later hB8)
            have HB8 := Lib.hid (HB.out.trans (hB8.mono (by omega)))
            have HG8 := Lib.hid (Rd.below HGq.out hB8 (by omega))
            have x0 := row_cells (i := 0) HS8.out.t rfl
            have x4 := row_cells (i := 4) HS8.out.t rfl
            have xw4 := row_warm HS8.out.t 4
            clear hB8
            go_wp2_with fail
            refine hK.out _ _ x0 (fun hHeld => ?_)
            clear hK K
            try simp only [Act.put, List.setIfInBounds_toArray, List.set_cons_zero, List.set_cons_succ]
            refine hd_step 1 (by kernel_rfl) rfl (fun K hK => ?_)
            go_simp
            refine hK.out _ _ x0 (fun hHeld => ?_)
            clear hK K
            try simp only [Act.put, List.setIfInBounds_toArray, List.set_cons_zero, List.set_cons_succ]
          all_goals
            refine hd_take 7 rfl (by kernel_rfl) (by kernel_rfl) (by kernel_rfl) (fun _ _ _ h => h) (by rfl) (by intro w hSw; (try dsimp only at hSw); go_simp; first | done | with_reducible rfl) hHeld ?_
            try simp only [Act.put, List.setIfInBounds_toArray, List.set_cons_zero, List.set_cons_succ]
            refine hd_take 8 rfl (by kernel_rfl) (by kernel_rfl) (by kernel_rfl) (fun _ _ _ h => h) (by rfl) (by intro w hSw; (try dsimp only at hSw); go_simp; first | done | with_reducible rfl) hHeld ?_
            try simp only [Act.put, List.setIfInBounds_toArray, List.set_cons_zero, List.set_cons_succ]
            refine hd_step 9 (by kernel_rfl) rfl (fun K hK => ?_)
            go_simp
            refine hK.out _ _ ((World.cell?_setCell_other _ _ _ _ (by intro e; simp at e)).trans x0) (fun hHeld => ?_)
            clear hK K
            try simp only [Act.put, List.setIfInBounds_toArray, List.set_cons_zero, List.set_cons_succ]
            refine wpAnyH_done (by kernel_rfl) ?_ _
            have HS9 := Lib.hid (show ShD (w8.setCell ⟨p, 4, none⟩ (.int .i64 (c0 + sW (wdL G) f at'))) hh p f 0 true false (c0 + sW (wdL G) f at') from HS8.out.put 4 _ rfl)
            have HB9 := Lib.hid (HS8.out.below HB8.out 4 (.int .i64 (c0 + sW (wdL G) f at')))
            have HG9 := Lib.hid (show Rs p (w8.setCell ⟨p, 4, none⟩ (.int .i64 (c0 + sW (wdL G) f at'))) gyE 2 (.slice a G.length cap) G from GlyIn.set HG8.out (Nat.le_refl _))
            clear hHeld x0 x4 xw4 HS8 HB8 HG8 HGm HS HB HGq y0 yw0 y1 yw1 y2 yw2 y3 yw3 y4 yw4
            generalize (w8.setCell ⟨p, 4, none⟩ (.int .i64 (c0 + sW (wdL G) f at'))) = w9 at HS9 HB9 HG9 ⊢
            have hs9 := HS9.out.hs
            have y0 := row_cells (i := 0) HS9.out.t rfl
            have yw0 := row_warm HS9.out.t 0
            have y1 := row_cells (i := 1) HS9.out.t rfl
            have yw1 := row_warm HS9.out.t 1
            have y2 := row_cells (i := 2) HS9.out.t rfl
            have yw2 := row_warm HS9.out.t 2
            have y3 := row_cells (i := 3) HS9.out.t rfl
            have yw3 := row_warm HS9.out.t 3
            have y4 := row_cells (i := 4) HS9.out.t rfl
            have yw4 := row_warm HS9.out.t 4
            have hgm : GlyIn w9 (.slice a G.length cap) G := Rd.mono HG9.out (by omega)
            go_wp2_with fail
            refine (pdwidth_z hgm HW.out (by omega) (fr := f) (tt := G.length) rfl rfl (by omega) (Nat.le_refl _)).mono ?_
            rintro e w10 ⟨rfl, hB10⟩
            have HS10 := Lib.hid (HS9.out.later hB10)
            have HB10 := Lib.hid (HB9.out.trans (hB10.mono (by omega)))
            have HG10 := Lib.hid (Rd.below HG9.out hB10 (by omega))
            clear hB10 HS9 HB9 HG9 hgm y0 yw0 y1 yw1 y2 yw2 y3 yw3 y4 yw4
            have hs10 := HS10.out.hs
            have y0 := row_cells (i := 0) HS10.out.t rfl
            have yw0 := row_warm HS10.out.t 0
            have y1 := row_cells (i := 1) HS10.out.t rfl
            have yw1 := row_warm HS10.out.t 1
            have y2 := row_cells (i := 2) HS10.out.t rfl
            have yw2 := row_warm HS10.out.t 2
            have y3 := row_cells (i := 3) HS10.out.t rfl
            have yw3 := row_warm HS10.out.t 3
            have y4 := row_cells (i := 4) HS10.out.t rfl
            have yw4 := row_warm HS10.out.t 4
            have u0 := row_cells (i := 0) HS10.out.r rfl
            have uw0 := row_warm HS10.out.r 0
            have u1 := row_cells (i := 1) HS10.out.r rfl
            have uw1 := row_warm HS10.out.r 1
            have u2 := row_cells (i := 2) HS10.out.r rfl
            have uw2 := row_warm HS10.out.r 2
            have u3 := row_cells (i := 3) HS10.out.r rfl
            have uw3 := row_warm HS10.out.r 3
            have u4 := row_cells (i := 4) HS10.out.r rfl
            have uw4 := row_warm HS10.out.r 4
            by_cases hft : sW (wdL G) f G.length + 1 ≤ cols - 1
            · have HC := Lib.hid (show choF (wdL G) at' cols = ⟨f, G.length, true, false, c0 + sW (wdL G) f at'⟩ by rw [HCE.out, if_pos hft])
              go_wp2_with fail
              refine ret_cell_tmp (x := .bool true) (ad := ⟨hh, 0, none⟩) rfl rfl rfl (run_loadVar_mid _ _ 0 _ [.int .i64 (f : Int), .int .i64 (G.length : Int), .bool true, .bool false, .int .i64 (c0 + sW (wdL G) f at')] _ (range5' (by go_simp) (by go_simp) (by go_simp) (by go_simp) (by go_simp)) Tryz.underlying30 rfl (by kernel_rfl)) rfl ?_
              rw [HC.out, HH.out]
              exact ⟨rfl, (((((HS10.out.below HB10.out 1 _).setCell (by show hh ≤ hh; omega) _).setCell (by show hh ≤ hh; omega) _).setCell (by show hh ≤ hh; omega) _).setCell (by show hh ≤ hh; omega) _).setCell (by show hh ≤ hh; omega) _⟩
            · have hft2 : decide (sW (wdL G) f G.length + 1 ≤ cols - 1) = false := decide_eq_false hft
              have HCF := Lib.hid (show choF (wdL G) at' cols = ⟨f, toF (wdL G) f (cols - 1 - 1) (G.length - f) f, true, true, c0 + sW (wdL G) f at'⟩ by rw [HCE.out, if_neg hft])
              go_wp2_with fail
              have HS11 := Lib.hid (show ShD ((w10.setCell ⟨p, 3, none⟩ (.bool true)).setCell ⟨p, 1, none⟩ (.int .i64 (f : Int))) hh p f f true true (c0 + sW (wdL G) f at') from (show ShD (w10.setCell ⟨p, 3, none⟩ (.bool true)) hh p f 0 true true (c0 + sW (wdL G) f at') from HS10.out.put 3 _ rfl).put 1 _ rfl)
              have HB11 := Lib.hid (show Below hh w ((w10.setCell ⟨p, 3, none⟩ (.bool true)).setCell ⟨p, 1, none⟩ (.int .i64 (f : Int))) from (HS10.out.below HB10.out 3 _).setCell (by show hh ≤ p; omega) _)
              have HG11 := Lib.hid (show Rs p ((w10.setCell ⟨p, 3, none⟩ (.bool true)).setCell ⟨p, 1, none⟩ (.int .i64 (f : Int))) gyE 2 (.slice a G.length cap) G from GlyIn.set (GlyIn.set HG10.out (Nat.le_refl _)) (Nat.le_refl _))
              clear HS10 HB10 HG10 hs10 y0 yw0 y1 yw1 y2 yw2 y3 yw3 y4 yw4 u0 uw0 u1 uw1 u2 uw2 u3 uw3 u4 uw4 hft hft2
              generalize ((w10.setCell ⟨p, 3, none⟩ (.bool true)).setCell ⟨p, 1, none⟩ (.int .i64 (f : Int))) = w11 at HS11 HB11 HG11 ⊢
              go_loopw [] (fun wr => ∃ q : Nat, f ≤ q ∧ q ≤ G.length ∧ ShD wr hh p f q true true (c0 + sW (wdL G) f at') ∧ Below hh w wr ∧ Rs p wr gyE 2 (.slice a G.length cap) G ∧ toF (wdL G) f (cols - 1 - 1) (G.length - q) q = toF (wdL G) f (cols - 1 - 1) (G.length - f) f) (fun wr => G.length - frOf wr p 1)
              case atStart => exact ⟨f, Nat.le_refl _, by omega, HS11.out, HB11.out, HG11.out, rfl⟩
              case round =>
                rename World => w12
                obtain ⟨q, hq1, hq2, hS, hB, hG, hT⟩ := hrel
                have HS := Lib.hid hS
                have HB := Lib.hid hB
                have HGq := Lib.hid hG
                have HT := Lib.hid hT
                have hs12 := hS.hs
                have HTo := Lib.hid hS.tu'
                have y0 := row_cells (i := 0) hS.t rfl
                have yw0 := row_warm hS.t 0
                have y1 := row_cells (i := 1) hS.t rfl
                have yw1 := row_warm hS.t 1
                have y2 := row_cells (i := 2) hS.t rfl
                have yw2 := row_warm hS.t 2
                have y3 := row_cells (i := 3) hS.t rfl
                have yw3 := row_warm hS.t 3
                have y4 := row_cells (i := 4) hS.t rfl
                have yw4 := row_warm hS.t 4
                clear hS hB hG hT
                have e8 := IntWalk.i64_in ((q : Int) + 1) (by omega)
                have e9 := IntWalk.i64_in (cols - 1 - 1) (by omega)
                by_cases hlt : q < G.length
                · have s0 : (q : Int) < (G.length : Int) := by omega
                  have hgm : GlyIn w12 (.slice a G.length cap) G := Rd.mono HGq.out (by omega)
                  have hsq := sW_rng HW.out f (q + 1)
                  rw [wdL_len] at hsq
                  go_wp2_with fail
                  refine (pdwidth_z hgm HW.out (by omega) (fr := f) (tt := q + 1) rfl (by omega) (by omega) (by omega)).mono ?_
                  rintro e w13 ⟨rfl, hB13⟩
                  have HS13 := Lib.hid (HS.out.later hB13)
                  have HB13 := Lib.hid (HB.out.trans (hB13.mono (by omega)))
                  have HG13 := Lib.hid (Rd.below HGq.out hB13 (by omega))
                  clear hB13 HS HB HGq hgm y0 yw0 y1 yw1 y2 yw2 y3 yw3 y4 yw4
                  have y0 := row_cells (i := 0) HS13.out.t rfl
                  have yw0 := row_warm HS13.out.t 0
                  have y1 := row_cells (i := 1) HS13.out.t rfl
                  have yw1 := row_warm HS13.out.t 1
                  have y2 := row_cells (i := 2) HS13.out.t rfl
                  have yw2 := row_warm HS13.out.t 2
                  have y3 := row_cells (i := 3) HS13.out.t rfl
                  have yw3 := row_warm HS13.out.t 3
                  have y4 := row_cells (i := 4) HS13.out.t rfl
                  have yw4 := row_warm HS13.out.t 4
                  have u0 := row_cells (i := 0) HS13.out.r rfl
                  have uw0 := row_warm HS13.out.r 0
                  have u1 := row_cells (i := 1) HS13.out.r rfl
                  have uw1 := row_warm HS13.out.r 1
                  have u2 := row_cells (i := 2) HS13.out.r rfl
                  have uw2 := row_warm HS13.out.r 2
                  have u3 := row_cells (i := 3) HS13.out.r rfl
                  have uw3 := row_warm HS13.out.r 3
                  have u4 := row_cells (i := 4) HS13.out.r rfl
                  have uw4 := row_warm HS13.out.r 4
                  have hs13 := HS13.out.hs
                  by_cases hle : sW (wdL G) f (q + 1) ≤ cols - 1 - 1
                  · have HN := Lib.hid (show toF (wdL G) f (cols - 1 - 1) (G.length - (q + 1)) (q + 1) = toF (wdL G) f (cols - 1 - 1) (G.length - f) f by rw [← HT.out]; have := to_go (ws := wdL G) (fr := f) (m := cols - 1 - 1) (t := q) (by rw [wdL_len]; exact hlt) hle; rw [wdL_len] at this; exact this.symm)
                    clear hlt
                    go_wp2_with fail
                    go_roundw
                    case rel => exact ⟨q + 1, by omega, by omega, HS13.out.put 1 _ rfl, HS13.out.below HB13.out 1 _, GlyIn.set HG13.out (Nat.le_refl _), HN.out⟩
                    case measure => rw [(HS13.out.put (fr' := f) (tt' := q + 1) (ah' := true) (be' := true) (col' := c0 + sW (wdL G) f at') 1 (.int .i64 ((q : Int) + 1)) rfl).tu', HTo.out]; omega
                  · have hle2 : decide (sW (wdL G) f (q + 1) ≤ cols - 1 - 1) = false := decide_eq_false hle
                    have HC := Lib.hid (show choF (wdL G) at' cols = ⟨f, q, true, true, c0 + sW (wdL G) f at'⟩ by rw [HCF.out, ← HT.out, to_stop hle])
                    clear hlt
                    go_wp2_with fail
                    refine ret_cell_tmp (x := .bool true) (ad := ⟨hh, 0, none⟩) rfl rfl rfl (run_loadVar_mid _ _ 0 _ [.int .i64 (f : Int), .int .i64 (q : Int), .bool true, .bool true, .int .i64 (c0 + sW (wdL G) f at')] _ (range5' (by go_simp) (by go_simp) (by go_simp) (by go_simp) (by go_simp)) Tryz.underlying30 rfl (by kernel_rfl)) rfl ?_
                    rw [HC.out, HH.out]
                    exact ⟨rfl, (((((HB13.out).setCell (by show hh ≤ hh; omega) _).setCell (by show hh ≤ hh; omega) _).setCell (by show hh ≤ hh; omega) _).setCell (by show hh ≤ hh; omega) _).setCell (by show hh ≤ hh; omega) _⟩
                · have hqe : q = G.length := by omega
                  have HC := Lib.hid (show choF (wdL G) at' cols = ⟨f, G.length, true, true, c0 + sW (wdL G) f at'⟩ by rw [HCF.out, ← HT.out, hqe]; have := to_end (ws := wdL G) (fr := f) (m := cols - 1 - 1) G.length (by rw [wdL_len]; exact Nat.le_refl _); rw [wdL_len] at this; rw [this])
                  subst hqe
                  have u0 := row_cells (i := 0) HS.out.r rfl
                  have uw0 := row_warm HS.out.r 0
                  have u1 := row_cells (i := 1) HS.out.r rfl
                  have uw1 := row_warm HS.out.r 1
                  have u2 := row_cells (i := 2) HS.out.r rfl
                  have uw2 := row_warm HS.out.r 2
                  have u3 := row_cells (i := 3) HS.out.r rfl
                  have uw3 := row_warm HS.out.r 3
                  have u4 := row_cells (i := 4) HS.out.r rfl
                  have uw4 := row_warm HS.out.r 4
                  go_wp2_with fail
                  refine ret_cell_tmp (x := .bool true) (ad := ⟨hh, 0, none⟩) rfl rfl rfl (run_loadVar_mid _ _ 0 _ [.int .i64 (f : Int), .int .i64 (G.length : Int), .bool true, .bool true, .int .i64 (c0 + sW (wdL G) f at')] _ (range5' (by go_simp) (by go_simp) (by go_simp) (by go_simp) (by go_simp)) Tryz.underlying30 rfl (by kernel_rfl)) rfl ?_
                  rw [HC.out, HH.out]
                  exact ⟨rfl, (((((HB.out).setCell (by show hh ≤ hh; omega) _).setCell (by show hh ≤ hh; omega) _).setCell (by show hh ≤ hh; omega) _).setCell (by show hh ≤ hh; omega) _).setCell (by show hh ≤ hh; omega) _⟩
    · have hov2 : decide (sW (wdL G) 0 at' + wdA (wdL G) at' > cols - 1) = false := decide_eq_false (by omega)
      obtain ⟨f, hf⟩ : ∃ f : Nat, f = 0 := ⟨_, rfl⟩
      obtain ⟨c0, hc0⟩ : ∃ c0 : Int, c0 = 0 := ⟨_, rfl⟩
      have HF := Lib.hid hf
      have HS := Lib.hid (show ShD w6 hh p f 0 false false c0 by rw [hf, hc0]; exact HS5.out)
      have HB := HB5
      have hfa : f ≤ at' := by omega
      have hsx := HS.out.hs
      have HCE := Lib.hid (show choF (wdL G) at' cols = if sW (wdL G) f G.length + 1 ≤ cols then ⟨f, G.length, false, false, c0 + sW (wdL G) f at'⟩ else ⟨f, toF (wdL G) f (cols - 1) (G.length - f) f, false, true, c0 + sW (wdL G) f at'⟩ by
        have := cho_eq (ws := wdL G) (at' := at') (cols := cols) (room := cols) (col := c0 + sW (wdL G) f at') (ah := false) (fr := f) (by rw [wdL_len]; omega) (decide_eq_false hov).symm (by rw [hf]; rfl) rfl (by rw [hc0]; omega)
        rw [wdL_len] at this
        exact this)
      have hc01 : 0 ≤ c0 ∧ c0 ≤ 1 := by omega
      clear HS5 HB5 HG5 hf hc0
      have y0 := row_cells (i := 0) HS.out.t rfl
      have yw0 := row_warm HS.out.t 0
      have y1 := row_cells (i := 1) HS.out.t rfl
      have yw1 := row_warm HS.out.t 1
      have y2 := row_cells (i := 2) HS.out.t rfl
      have yw2 := row_warm HS.out.t 2
      have y3 := row_cells (i := 3) HS.out.t rfl
      have yw3 := row_warm HS.out.t 3
      have y4 := row_cells (i := 4) HS.out.t rfl
      have yw4 := row_warm HS.out.t 4
      have k3 : (0 : Int) ≤ (f : Int) := by omega
      have hgm := fun (W : World) (hb : Below w6.heap.size w6 W) => (show GlyIn W (.slice a G.length cap) G from Rd.mono (Rd.below HGq.out hb (by omega)) (by have := hb.size; omega))
      have HGm := Lib.hid hgm
      clear hgm
      have hsm := sW_rng HW.out f at'
      rw [wdL_len] at hsm
      have hsl := sW_rng HW.out f G.length
      rw [wdL_len] at hsl
      have e6 := IntWalk.i64_in (c0 + sW (wdL G) f at') (by omega)
      have e6' := IntWalk.i64_in (sW (wdL G) f G.length + 1) (by omega)
      have e6'' := IntWalk.i64_in (cols - 1 - 1) (by omega)
      go_upto_region 14 with fail
      have hpx : p < w6.heap.size := HS.out.hs
      have hsx := HS.out.hs
      refine wp_region_held_drew (S := fun w' => w'.cell? ⟨p, 0, none⟩ = some (.int .i64 (f : Int))) (by kernel_rfl) y0 (fun hHeld => ?_)
      refine hd_take 0 rfl (by kernel_rfl) (by kernel_rfl) (by kernel_rfl) (fun _ _ _ h => h) (by rfl) (by intro w hSw; (try dsimp only at hSw); go_simp; first | done | with_reducible rfl) hHeld ?_
      try simp only [Act.put, List.setIfInBounds_toArray, List.set_cons_zero, List.set_cons_succ]
      refine hd_take 2 rfl (by kernel_rfl) (by kernel_rfl) (by kernel_rfl) (fun _ _ _ h => h) (by rfl) (by intro w hSw; (try dsimp only at hSw); go_simp; first | done | with_reducible rfl) hHeld ?_
      try simp only [Act.put, List.setIfInBounds_toArray, List.set_cons_zero, List.set_cons_succ]
      refine hd_take 3 rfl (by kernel_rfl) (by kernel_rfl) (by kernel_rfl) (fun _ _ _ h => h) (by rfl) (by intro w hSw; (try dsimp only at hSw); go_simp; first | done | with_reducible rfl) hHeld ?_
      try simp only [Act.put, List.setIfInBounds_toArray, List.set_cons_zero, List.set_cons_succ]
      refine hd_take 4 rfl (by kernel_rfl) (by kernel_rfl) (by kernel_rfl) (fun _ _ _ h => h) (by rfl) (by intro w hSw; (try dsimp only at hSw); go_simp; first | done | with_reducible rfl) hHeld ?_
      try simp only [Act.put, List.setIfInBounds_toArray, List.set_cons_zero, List.set_cons_succ]
      refine hd_take 5 rfl (by kernel_rfl) (by kernel_rfl) (by kernel_rfl) (fun _ _ _ h => h) (by rfl) (by intro w hSw; (try dsimp only at hSw); go_simp; first | done | with_reducible rfl) hHeld ?_
      try simp only [Act.put, List.setIfInBounds_toArray, List.set_cons_zero, List.set_cons_succ]
      refine hd_two 1 6 (by kernel_rfl) rfl rfl (fun K hK => ?_) (fun K hK => ?_)
      case' refine_1 =>
        go_simp
        refine hK.out _ _ y0 (fun hHeld => ?_)
        clear hK K
        try simp only [Act.put, List.setIfInBounds_toArray, List.set_cons_zero, List.set_cons_succ]
        refine hd_step 6 (by kernel_rfl) rfl (fun K hK => ?_)
        go_simp
        go_at_call 49
        refine (pdwidth_z (HGm.out w6.drew (below_dN (.refl _ _) 1)) HW.out (by omega) (fr := f) (tt := at') rfl rfl (by omega) hat).mono ?_
        rintro e w8 ⟨rfl, hB8⟩
        have hB8 : Below w6.heap.size w6 w8 := (below_dN (.refl _ _) 1).trans hB8
        have HS8 := Lib.hid (HS.out.later hB8)
        have HB8 := Lib.hid (HB.out.trans (hB8.mono (by omega)))
        have HG8 := Lib.hid (Rd.below HGq.out hB8 (by omega))
        have x0 := row_cells (i := 0) HS8.out.t rfl
        have x4 := row_cells (i := 4) HS8.out.t rfl
        have xw4 := row_warm HS8.out.t 4
        clear hB8
        go_wp2_with fail
        refine hK.out _ _ x0 (fun hHeld => ?_)
        clear hK K
        try simp only [Act.put, List.setIfInBounds_toArray, List.set_cons_zero, List.set_cons_succ]
      case' refine_2 =>
        go_simp
        go_at_call 49
        refine (pdwidth_z (HGm.out w6.drew (below_dN (.refl _ _) 1)) HW.out (by omega) (fr := f) (tt := at') rfl rfl (by omega) hat).mono ?_
        rintro e w8 ⟨rfl, hB8⟩
        have hB8 : Below w6.heap.size w6 w8 := (below_dN (.refl _ _) 1).trans hB8
        have HS8 := Lib.hid (HS.out.later hB8)
        have HB8 := Lib.hid (HB.out.trans (hB8.mono (by omega)))
        have HG8 := Lib.hid (Rd.below HGq.out hB8 (by omega))
        have x0 := row_cells (i := 0) HS8.out.t rfl
        have x4 := row_cells (i := 4) HS8.out.t rfl
        have xw4 := row_warm HS8.out.t 4
        clear hB8
        go_wp2_with fail
        refine hK.out _ _ x0 (fun hHeld => ?_)
        clear hK K
        try simp only [Act.put, List.setIfInBounds_toArray, List.set_cons_zero, List.set_cons_succ]
        refine hd_step 1 (by kernel_rfl) rfl (fun K hK => ?_)
        go_simp
        refine hK.out _ _ x0 (fun hHeld => ?_)
        clear hK K
        try simp only [Act.put, List.setIfInBounds_toArray, List.set_cons_zero, List.set_cons_succ]
      all_goals
        refine hd_take 7 rfl (by kernel_rfl) (by kernel_rfl) (by kernel_rfl) (fun _ _ _ h => h) (by rfl) (by intro w hSw; (try dsimp only at hSw); go_simp; first | done | with_reducible rfl) hHeld ?_
        try simp only [Act.put, List.setIfInBounds_toArray, List.set_cons_zero, List.set_cons_succ]
        refine hd_take 8 rfl (by kernel_rfl) (by kernel_rfl) (by kernel_rfl) (fun _ _ _ h => h) (by rfl) (by intro w hSw; (try dsimp only at hSw); go_simp; first | done | with_reducible rfl) hHeld ?_
        try simp only [Act.put, List.setIfInBounds_toArray, List.set_cons_zero, List.set_cons_succ]
        refine hd_step 9 (by kernel_rfl) rfl (fun K hK => ?_)
        go_simp
        refine hK.out _ _ ((World.cell?_setCell_other _ _ _ _ (by intro e; simp at e)).trans x0) (fun hHeld => ?_)
        clear hK K
        try simp only [Act.put, List.setIfInBounds_toArray, List.set_cons_zero, List.set_cons_succ]
        refine wpAnyH_done (by kernel_rfl) ?_ _
        have HS9 := Lib.hid (show ShD (w8.setCell ⟨p, 4, none⟩ (.int .i64 (c0 + sW (wdL G) f at'))) hh p f 0 false false (c0 + sW (wdL G) f at') from HS8.out.put 4 _ rfl)
        have HB9 := Lib.hid (HS8.out.below HB8.out 4 (.int .i64 (c0 + sW (wdL G) f at')))
        have HG9 := Lib.hid (show Rs p (w8.setCell ⟨p, 4, none⟩ (.int .i64 (c0 + sW (wdL G) f at'))) gyE 2 (.slice a G.length cap) G from GlyIn.set HG8.out (Nat.le_refl _))
        clear hHeld x0 x4 xw4 HS8 HB8 HG8 HGm HS HB HGq y0 yw0 y1 yw1 y2 yw2 y3 yw3 y4 yw4
        generalize (w8.setCell ⟨p, 4, none⟩ (.int .i64 (c0 + sW (wdL G) f at'))) = w9 at HS9 HB9 HG9 ⊢
        have hs9 := HS9.out.hs
        have y0 := row_cells (i := 0) HS9.out.t rfl
        have yw0 := row_warm HS9.out.t 0
        have y1 := row_cells (i := 1) HS9.out.t rfl
        have yw1 := row_warm HS9.out.t 1
        have y2 := row_cells (i := 2) HS9.out.t rfl
        have yw2 := row_warm HS9.out.t 2
        have y3 := row_cells (i := 3) HS9.out.t rfl
        have yw3 := row_warm HS9.out.t 3
        have y4 := row_cells (i := 4) HS9.out.t rfl
        have yw4 := row_warm HS9.out.t 4
        have hgm : GlyIn w9 (.slice a G.length cap) G := Rd.mono HG9.out (by omega)
        go_wp2_with fail
        refine (pdwidth_z hgm HW.out (by omega) (fr := f) (tt := G.length) rfl rfl (by omega) (Nat.le_refl _)).mono ?_
        rintro e w10 ⟨rfl, hB10⟩
        have HS10 := Lib.hid (HS9.out.later hB10)
        have HB10 := Lib.hid (HB9.out.trans (hB10.mono (by omega)))
        have HG10 := Lib.hid (Rd.below HG9.out hB10 (by omega))
        clear hB10 HS9 HB9 HG9 hgm y0 yw0 y1 yw1 y2 yw2 y3 yw3 y4 yw4
        have hs10 := HS10.out.hs
        have y0 := row_cells (i := 0) HS10.out.t rfl
        have yw0 := row_warm HS10.out.t 0
        have y1 := row_cells (i := 1) HS10.out.t rfl
        have yw1 := row_warm HS10.out.t 1
        have y2 := row_cells (i := 2) HS10.out.t rfl
        have yw2 := row_warm HS10.out.t 2
        have y3 := row_cells (i := 3) HS10.out.t rfl
        have yw3 := row_warm HS10.out.t 3
        have y4 := row_cells (i := 4) HS10.out.t rfl
        have yw4 := row_warm HS10.out.t 4
        have u0 := row_cells (i := 0) HS10.out.r rfl
        have uw0 := row_warm HS10.out.r 0
        have u1 := row_cells (i := 1) HS10.out.r rfl
        have uw1 := row_warm HS10.out.r 1
        have u2 := row_cells (i := 2) HS10.out.r rfl
        have uw2 := row_warm HS10.out.r 2
        have u3 := row_cells (i := 3) HS10.out.r rfl
        have uw3 := row_warm HS10.out.r 3
        have u4 := row_cells (i := 4) HS10.out.r rfl
        have uw4 := row_warm HS10.out.r 4
        by_cases hft : sW (wdL G) f G.length + 1 ≤ cols
        · have HC := Lib.hid (show choF (wdL G) at' cols = ⟨f, G.length, false, false, c0 + sW (wdL G) f at'⟩ by rw [HCE.out, if_pos hft])
          go_wp2_with fail
          refine ret_cell_tmp (x := .bool true) (ad := ⟨hh, 0, none⟩) rfl rfl rfl (run_loadVar_mid _ _ 0 _ [.int .i64 (f : Int), .int .i64 (G.length : Int), .bool false, .bool false, .int .i64 (c0 + sW (wdL G) f at')] _ (range5' (by go_simp) (by go_simp) (by go_simp) (by go_simp) (by go_simp)) Tryz.underlying30 rfl (by kernel_rfl)) rfl ?_
          rw [HC.out, HH.out]
          exact ⟨rfl, (((((HS10.out.below HB10.out 1 _).setCell (by show hh ≤ hh; omega) _).setCell (by show hh ≤ hh; omega) _).setCell (by show hh ≤ hh; omega) _).setCell (by show hh ≤ hh; omega) _).setCell (by show hh ≤ hh; omega) _⟩
        · have hft2 : decide (sW (wdL G) f G.length + 1 ≤ cols) = false := decide_eq_false hft
          have HCF := Lib.hid (show choF (wdL G) at' cols = ⟨f, toF (wdL G) f (cols - 1) (G.length - f) f, false, true, c0 + sW (wdL G) f at'⟩ by rw [HCE.out, if_neg hft])
          go_wp2_with fail
          have HS11 := Lib.hid (show ShD ((w10.setCell ⟨p, 3, none⟩ (.bool true)).setCell ⟨p, 1, none⟩ (.int .i64 (f : Int))) hh p f f false true (c0 + sW (wdL G) f at') from (show ShD (w10.setCell ⟨p, 3, none⟩ (.bool true)) hh p f 0 false true (c0 + sW (wdL G) f at') from HS10.out.put 3 _ rfl).put 1 _ rfl)
          have HB11 := Lib.hid (show Below hh w ((w10.setCell ⟨p, 3, none⟩ (.bool true)).setCell ⟨p, 1, none⟩ (.int .i64 (f : Int))) from (HS10.out.below HB10.out 3 _).setCell (by show hh ≤ p; omega) _)
          have HG11 := Lib.hid (show Rs p ((w10.setCell ⟨p, 3, none⟩ (.bool true)).setCell ⟨p, 1, none⟩ (.int .i64 (f : Int))) gyE 2 (.slice a G.length cap) G from GlyIn.set (GlyIn.set HG10.out (Nat.le_refl _)) (Nat.le_refl _))
          clear HS10 HB10 HG10 hs10 y0 yw0 y1 yw1 y2 yw2 y3 yw3 y4 yw4 u0 uw0 u1 uw1 u2 uw2 u3 uw3 u4 uw4 hft hft2
          generalize ((w10.setCell ⟨p, 3, none⟩ (.bool true)).setCell ⟨p, 1, none⟩ (.int .i64 (f : Int))) = w11 at HS11 HB11 HG11 ⊢
          go_loopw [] (fun wr => ∃ q : Nat, f ≤ q ∧ q ≤ G.length ∧ ShD wr hh p f q false true (c0 + sW (wdL G) f at') ∧ Below hh w wr ∧ Rs p wr gyE 2 (.slice a G.length cap) G ∧ toF (wdL G) f (cols - 1) (G.length - q) q = toF (wdL G) f (cols - 1) (G.length - f) f) (fun wr => G.length - frOf wr p 1)
          case atStart => exact ⟨f, Nat.le_refl _, by omega, HS11.out, HB11.out, HG11.out, rfl⟩
          case round =>
            rename World => w12
            obtain ⟨q, hq1, hq2, hS, hB, hG, hT⟩ := hrel
            have HS := Lib.hid hS
            have HB := Lib.hid hB
            have HGq := Lib.hid hG
            have HT := Lib.hid hT
            have hs12 := hS.hs
            have HTo := Lib.hid hS.tu'
            have y0 := row_cells (i := 0) hS.t rfl
            have yw0 := row_warm hS.t 0
            have y1 := row_cells (i := 1) hS.t rfl
            have yw1 := row_warm hS.t 1
            have y2 := row_cells (i := 2) hS.t rfl
            have yw2 := row_warm hS.t 2
            have y3 := row_cells (i := 3) hS.t rfl
            have yw3 := row_warm hS.t 3
            have y4 := row_cells (i := 4) hS.t rfl
            have yw4 := row_warm hS.t 4
            clear hS hB hG hT
            have e8 := IntWalk.i64_in ((q : Int) + 1) (by omega)
            have e9 := IntWalk.i64_in (cols - 1) (by omega)
            by_cases hlt : q < G.length
            · have s0 : (q : Int) < (G.length : Int) := by omega
              have hgm : GlyIn w12 (.slice a G.length cap) G := Rd.mono HGq.out (by omega)
              have hsq := sW_rng HW.out f (q + 1)
              rw [wdL_len] at hsq
              go_wp2_with fail
              refine (pdwidth_z hgm HW.out (by omega) (fr := f) (tt := q + 1) rfl (by omega) (by omega) (by omega)).mono ?_
              rintro e w13 ⟨rfl, hB13⟩
              have HS13 := Lib.hid (HS.out.later hB13)
              have HB13 := Lib.hid (HB.out.trans (hB13.mono (by omega)))
              have HG13 := Lib.hid (Rd.below HGq.out hB13 (by omega))
              clear hB13 HS HB HGq hgm y0 yw0 y1 yw1 y2 yw2 y3 yw3 y4 yw4
              have y0 := row_cells (i := 0) HS13.out.t rfl
              have yw0 := row_warm HS13.out.t 0
              have y1 := row_cells (i := 1) HS13.out.t rfl
              have yw1 := row_warm HS13.out.t 1
              have y2 := row_cells (i := 2) HS13.out.t rfl
              have yw2 := row_warm HS13.out.t 2
              have y3 := row_cells (i := 3) HS13.out.t rfl
              have yw3 := row_warm HS13.out.t 3
              have y4 := row_cells (i := 4) HS13.out.t rfl
              have yw4 := row_warm HS13.out.t 4
              have u0 := row_cells (i := 0) HS13.out.r rfl
              have uw0 := row_warm HS13.out.r 0
              have u1 := row_cells (i := 1) HS13.out.r rfl
              have uw1 := row_warm HS13.out.r 1
              have u2 := row_cells (i := 2) HS13.out.r rfl
              have uw2 := row_warm HS13.out.r 2
              have u3 := row_cells (i := 3) HS13.out.r rfl
              have uw3 := row_warm HS13.out.r 3
              have u4 := row_cells (i := 4) HS13.out.r rfl
              have uw4 := row_warm HS13.out.r 4
              have hs13 := HS13.out.hs
              by_cases hle : sW (wdL G) f (q + 1) ≤ cols - 1
              · have HN := Lib.hid (show toF (wdL G) f (cols - 1) (G.length - (q + 1)) (q + 1) = toF (wdL G) f (cols - 1) (G.length - f) f by rw [← HT.out]; have := to_go (ws := wdL G) (fr := f) (m := cols - 1) (t := q) (by rw [wdL_len]; exact hlt) hle; rw [wdL_len] at this; exact this.symm)
                clear hlt
                go_wp2_with fail
                go_roundw
                case rel => exact ⟨q + 1, by omega, by omega, HS13.out.put 1 _ rfl, HS13.out.below HB13.out 1 _, GlyIn.set HG13.out (Nat.le_refl _), HN.out⟩
                case measure => rw [(HS13.out.put (fr' := f) (tt' := q + 1) (ah' := false) (be' := true) (col' := c0 + sW (wdL G) f at') 1 (.int .i64 ((q : Int) + 1)) rfl).tu', HTo.out]; omega
              · have hle2 : decide (sW (wdL G) f (q + 1) ≤ cols - 1) = false := decide_eq_false hle
                have HC := Lib.hid (show choF (wdL G) at' cols = ⟨f, q, false, true, c0 + sW (wdL G) f at'⟩ by rw [HCF.out, ← HT.out, to_stop hle])
                clear hlt
                go_wp2_with fail
                refine ret_cell_tmp (x := .bool true) (ad := ⟨hh, 0, none⟩) rfl rfl rfl (run_loadVar_mid _ _ 0 _ [.int .i64 (f : Int), .int .i64 (q : Int), .bool false, .bool true, .int .i64 (c0 + sW (wdL G) f at')] _ (range5' (by go_simp) (by go_simp) (by go_simp) (by go_simp) (by go_simp)) Tryz.underlying30 rfl (by kernel_rfl)) rfl ?_
                rw [HC.out, HH.out]
                exact ⟨rfl, (((((HB13.out).setCell (by show hh ≤ hh; omega) _).setCell (by show hh ≤ hh; omega) _).setCell (by show hh ≤ hh; omega) _).setCell (by show hh ≤ hh; omega) _).setCell (by show hh ≤ hh; omega) _⟩
            · have hqe : q = G.length := by omega
              have HC := Lib.hid (show choF (wdL G) at' cols = ⟨f, G.length, false, true, c0 + sW (wdL G) f at'⟩ by rw [HCF.out, ← HT.out, hqe]; have := to_end (ws := wdL G) (fr := f) (m := cols - 1) G.length (by rw [wdL_len]; exact Nat.le_refl _); rw [wdL_len] at this; rw [this])
              subst hqe
              have u0 := row_cells (i := 0) HS.out.r rfl
              have uw0 := row_warm HS.out.r 0
              have u1 := row_cells (i := 1) HS.out.r rfl
              have uw1 := row_warm HS.out.r 1
              have u2 := row_cells (i := 2) HS.out.r rfl
              have uw2 := row_warm HS.out.r 2
              have u3 := row_cells (i := 3) HS.out.r rfl
              have uw3 := row_warm HS.out.r 3
              have u4 := row_cells (i := 4) HS.out.r rfl
              have uw4 := row_warm HS.out.r 4
              go_wp2_with fail
              refine ret_cell_tmp (x := .bool true) (ad := ⟨hh, 0, none⟩) rfl rfl rfl (run_loadVar_mid _ _ 0 _ [.int .i64 (f : Int), .int .i64 (G.length : Int), .bool false, .bool true, .int .i64 (c0 + sW (wdL G) f at')] _ (range5' (by go_simp) (by go_simp) (by go_simp) (by go_simp) (by go_simp)) Tryz.underlying30 rfl (by kernel_rfl)) rfl ?_
              rw [HC.out, HH.out]
              exact ⟨rfl, (((((HB.out).setCell (by show hh ≤ hh; omega) _).setCell (by show hh ≤ hh; omega) _).setCell (by show hh ≤ hh; omega) _).setCell (by show hh ≤ hh; omega) _).setCell (by show hh ≤ hh; omega) _⟩
end
end Go.Proofs.YtkeainhjghdfcaaGreat

/- pan.Choose and the document's, where nothing is chosen. -/
namespace Go.Proofs.YtkeainhjghdfcaaGreat
open Go.RowKit

/-- nothing -/
def sh0 : ShP := ⟨0, 0, false, false, 0⟩
section
variable {w : World} {v : Value} {G : List Gy}
set_option maxRecDepth 100000 in
set_option maxHeartbeats 4000000 in
theorem choose_no (h : GlyIn w v G) {at' cols : Int} (hno : cols < 4 ∨ (¬ cols < 4 ∧ at' < 0) ∨ (¬ cols < 4 ∧ ¬ at' < 0 ∧ (G.length : Int) < at')) :
    Calls Tryz.prog 13 #[v, .int .i64 at', .int .i64 cols] w fun e w' => e = .returned (.tuple #[shV sh0, .bool false]) ∧ Below w.heap.size w w' := by
  obtain ⟨a, cap, rfl, hc1, hc3⟩ := gly_shape h
  have hb0 := below1 w (.cells #[.int .i64 0, .int .i64 0, .bool false, .bool false, .int .i64 0] 27)
  have hr0 := heap_alloc_new w (.cells #[.int .i64 0, .int .i64 0, .bool false, .bool false, .int .i64 0] 27)
  have hB := Lib.hid hb0
  have z0 := row_cells (i := 0) hr0 rfl
  have zw0 := row_warm hr0 0
  have z1 := row_cells (i := 1) hr0 rfl
  have zw1 := row_warm hr0 1
  have z2 := row_cells (i := 2) hr0 rfl
  have zw2 := row_warm hr0 2
  have z3 := row_cells (i := 3) hr0 rfl
  have zw3 := row_warm hr0 3
  have z4 := row_cells (i := 4) hr0 rfl
  have zw4 := row_warm hr0 4
  clear hb0 hr0 h
  rcases hno with h1 | ⟨h1, h2⟩ | ⟨h1, h2, h3⟩
  · have g0 : decide (cols < 4) = true := decide_eq_true h1
    go_enter Tryz.func13, Tryz.ntmps13
    go_wp2_with fail
    refine ret_cell_tmp (x := .bool false) (ad := ⟨w.heap.size, 0, none⟩) rfl rfl rfl (run_loadVar_mid _ _ 0 _ [.int .i64 0, .int .i64 0, .bool false, .bool false, .int .i64 0] _ (range5' (by go_simp) (by go_simp) (by go_simp) (by go_simp) (by go_simp)) Tryz.underlying27 rfl (by kernel_rfl)) rfl ?_
    exact ⟨rfl, hB.out⟩
  · have g0 : decide (cols < 4) = false := decide_eq_false h1
    have g1 : decide (at' < 0) = true := decide_eq_true h2
    go_enter Tryz.func13, Tryz.ntmps13
    go_wp2_with fail
    refine ret_cell_tmp (x := .bool false) (ad := ⟨w.heap.size, 0, none⟩) rfl rfl rfl (run_loadVar_mid _ _ 0 _ [.int .i64 0, .int .i64 0, .bool false, .bool false, .int .i64 0] _ (range5' (by go_simp) (by go_simp) (by go_simp) (by go_simp) (by go_simp)) Tryz.underlying27 rfl (by kernel_rfl)) rfl ?_
    exact ⟨rfl, hB.out⟩
  · have g0 : decide (cols < 4) = false := decide_eq_false h1
    have g1 : decide (at' < 0) = false := decide_eq_false h2
    have g2 : decide (at' > (G.length : Int)) = true := decide_eq_true h3
    go_enter Tryz.func13, Tryz.ntmps13
    go_wp2_with fail
    refine ret_cell_tmp (x := .bool false) (ad := ⟨w.heap.size, 0, none⟩) rfl rfl rfl (run_loadVar_mid _ _ 0 _ [.int .i64 0, .int .i64 0, .bool false, .bool false, .int .i64 0] _ (range5' (by go_simp) (by go_simp) (by go_simp) (by go_simp) (by go_simp)) Tryz.underlying27 rfl (by kernel_rfl)) rfl ?_
    exact ⟨rfl, hB.out⟩
set_option maxRecDepth 100000 in
set_option maxHeartbeats 4000000 in
theorem dchoose_no (h : GlyIn w v G) {at' cols : Int} (hno : cols < 4 ∨ (¬ cols < 4 ∧ at' < 0) ∨ (¬ cols < 4 ∧ ¬ at' < 0 ∧ (G.length : Int) < at')) :
    Calls Tryz.prog 14 #[v, .int .i64 at', .int .i64 cols] w fun e w' => e = .returned (.tuple #[shV sh0, .bool false]) ∧ Below w.heap.size w w' := by
  obtain ⟨a, cap, rfl, hc1, hc3⟩ := gly_shape h
  have hb0 := below1 w (.cells #[.int .i64 0, .int .i64 0, .bool false, .bool false, .int .i64 0] 30)
  have hr0 := heap_alloc_new w (.cells #[.int .i64 0, .int .i64 0, .bool false, .bool false, .int .i64 0] 30)
  have hB := Lib.hid hb0
  have z0 := row_cells (i := 0) hr0 rfl
  have zw0 := row_warm hr0 0
  have z1 := row_cells (i := 1) hr0 rfl
  have zw1 := row_warm hr0 1
  have z2 := row_cells (i := 2) hr0 rfl
  have zw2 := row_warm hr0 2
  have z3 := row_cells (i := 3) hr0 rfl
  have zw3 := row_warm hr0 3
  have z4 := row_cells (i := 4) hr0 rfl
  have zw4 := row_warm hr0 4
  clear hb0 hr0 h
  rcases hno with h1 | ⟨h1, h2⟩ | ⟨h1, h2, h3⟩
  · have g0 : decide (cols < 4) = true := decide_eq_true h1
    go_enter Tryz.func14, Tryz.ntmps14
    go_wp2_with fail
    refine ret_cell_tmp (x := .bool false) (ad := ⟨w.heap.size, 0, none⟩) rfl rfl rfl (run_loadVar_mid _ _ 0 _ [.int .i64 0, .int .i64 0, .bool false, .bool false, .int .i64 0] _ (range5' (by go_simp) (by go_simp) (by go_simp) (by go_simp) (by go_simp)) Tryz.underlying30 rfl (by kernel_rfl)) rfl ?_
    exact ⟨rfl, hB.out⟩
  · have g0 : decide (cols < 4) = false := decide_eq_false h1
    have g1 : decide (at' < 0) = true := decide_eq_true h2
    go_enter Tryz.func14, Tryz.ntmps14
    go_wp2_with fail
    refine ret_cell_tmp (x := .bool false) (ad := ⟨w.heap.size, 0, none⟩) rfl rfl rfl (run_loadVar_mid _ _ 0 _ [.int .i64 0, .int .i64 0, .bool false, .bool false, .int .i64 0] _ (range5' (by go_simp) (by go_simp) (by go_simp) (by go_simp) (by go_simp)) Tryz.underlying30 rfl (by kernel_rfl)) rfl ?_
    exact ⟨rfl, hB.out⟩
  · have g0 : decide (cols < 4) = false := decide_eq_false h1
    have g1 : decide (at' < 0) = false := decide_eq_false h2
    have g2 : decide (at' > (G.length : Int)) = true := decide_eq_true h3
    go_enter Tryz.func14, Tryz.ntmps14
    go_wp2_with fail
    refine ret_cell_tmp (x := .bool false) (ad := ⟨w.heap.size, 0, none⟩) rfl rfl rfl (run_loadVar_mid _ _ 0 _ [.int .i64 0, .int .i64 0, .bool false, .bool false, .int .i64 0] _ (range5' (by go_simp) (by go_simp) (by go_simp) (by go_simp) (by go_simp)) Tryz.underlying30 rfl (by kernel_rfl)) rfl ?_
    exact ⟨rfl, hB.out⟩
end
end Go.Proofs.YtkeainhjghdfcaaGreat

/- grid.At. -/
namespace Go.Proofs.YtkeainhjghdfcaaGreat
open Go.RowKit

set_option maxRecDepth 100000 in
set_option maxHeartbeats 1000000 in
theorem gat_some (gb lb m cap r c : Nat) (G : List (List Gl)) (l : List Gl) (w : World) (hG : GridG w gb lb m cap G) (hr : G[r]? = some l) (hc : c < m) :
    Calls Tryz.prog 32 #[.pointer (some ⟨gb, 0, none⟩), .int .i64 r, .int .i64 c] w fun e w' => e = .returned (.agg #[.string (cellAt l c).1, .int .i64 (cellAt l c).2]) ∧ Below w.heap.size w w' := by
  obtain ⟨hl, hw, hrl⟩ := hG.row hr
  obtain ⟨q, hq⟩ : ∃ q, q = r * m := ⟨_, rfl⟩
  have hqi : (r : Int) * (m : Int) = (q : Int) := by rw [hq, Int.natCast_mul]
  obtain ⟨hix, hat⟩ := hG.index hr hc
  have hsm := hG.small
  have hln := hG.grid.len
  rw [← hq] at hix hat
  have hgl := hG.grid.glt
  have c0 := hG.grid.c0
  have c1 := hG.grid.c1
  obtain ⟨c2, t0, t1, f0, f1, hlb, hgb⟩ := hG.grid.facts hix
  rw [hat] at t0 t1
  have hk1 : (q : Int) + (c : Int) < ((G.length * m : Nat) : Int) := by omega
  have hk0 : (0 : Int) ≤ (q : Int) + (c : Int) := by omega
  have hk2 : (q : Int) + (c : Int) < (G.length : Int) * (m : Int) := by rw [← Int.natCast_mul]; exact hk1
  have hk3 : ((q : Int) + (c : Int)).toNat = q + c := by omega
  have hqb : (q : Int) ≤ 1073741824 := by omega
  have e1 := IntWalk.i64_in (q : Int) (by omega)
  have e2 := IntWalk.i64_in ((q : Int) + (c : Int)) (by omega)
  generalize cellAt l c = x at *
  obtain ⟨t, d⟩ := x
  dsimp only at *
  clear hG hq hix hat hw
  go_enter Tryz.func32, Tryz.ntmps32
  go_wp2_with (go_at_call 84; refine (in_yes gb G.length m _ _ _ (by go_simp) (by go_simp) (by omega) (by omega) (by omega) (by omega)).mono ?_; rintro e w' ⟨rfl, rfl⟩)
  have hn1 : ¬ w.heap.size = gb := by omega
  have hn2 : ¬ gb = w.heap.size := by omega
  have hn3 : ¬ w.heap.size = lb := by omega
  have hn4 : ¬ lb = w.heap.size := by omega
  go_region_held3 (fun w' => w'.cell? ⟨gb, 2, none⟩ = some (.slice (some ⟨lb, 0, none⟩) (G.length * m) cap) ∧ w'.cell? ⟨gb, 1, none⟩ = some (.int .i64 m) ∧ w'.cell? ⟨lb, (q + c) * 2, none⟩ = some (.string t) ∧ w'.cell? ⟨lb, (q + c) * 2 + 1, none⟩ = some (.int .i64 d)) (go_keep) (first | fail)
  go_wp2
  exact bodyPost_ret (v := .agg #[.string t, .int .i64 d]) (by simp [results, Tryz.results32, go_sem]) rfl ⟨rfl, ((Below.refl _ _).alloc (Nat.le_refl _) _).drew⟩

set_option maxRecDepth 100000 in
set_option maxHeartbeats 1000000 in
theorem at_none (gb n m : Nat) (r c : Int) (w : World) (c0 : w.cell? ⟨gb, 0, none⟩ = some (.int .i64 n)) (c1 : w.cell? ⟨gb, 1, none⟩ = some (.int .i64 m)) (h : ¬ (0 ≤ r ∧ r < n ∧ 0 ≤ c ∧ c < m)) :
    Calls Tryz.prog 32 #[.pointer (some ⟨gb, 0, none⟩), .int .i64 r, .int .i64 c] w fun e w' => e = .returned (.agg #[.string ⟨#[]⟩, .int .i64 0]) ∧ Below w.heap.size w w' := by
  have hgb := World.block_lt_of_cell? w _ c0
  go_enter Tryz.func32, Tryz.ntmps32
  go_wp2_with (go_at_call 84; refine (in_no gb n m _ _ _ (by go_simp) (by go_simp) h).mono ?_; rintro e w' ⟨rfl, rfl⟩)
  exact bodyPost_ret (v := .agg #[.string ⟨#[]⟩, .int .i64 0]) (by simp [results, Tryz.results32, go_sem]) rfl ⟨rfl, (Below.refl _ _).alloc (Nat.le_refl _) _⟩

set_option maxRecDepth 100000 in
set_option maxHeartbeats 1000000 in
theorem at_nil (r c : Int) (w : World) :
    Calls Tryz.prog 32 #[.pointer none, .int .i64 r, .int .i64 c] w fun e w' => e = .returned (.agg #[.string ⟨#[]⟩, .int .i64 0]) ∧ Below w.heap.size w w' := by
  go_enter Tryz.func32, Tryz.ntmps32
  go_wp2_with (go_at_call 84; refine (in_nil _ _ _).mono ?_; rintro e w' ⟨rfl, rfl⟩)
  exact bodyPost_ret (v := .agg #[.string ⟨#[]⟩, .int .i64 0]) (by simp [results, Tryz.results32, go_sem]) rfl ⟨rfl, (Below.refl _ _).alloc (Nat.le_refl _) _⟩
end Go.Proofs.YtkeainhjghdfcaaGreat

/- The document's grid: a row of cells; one cell loosened. -/
namespace Go.Proofs.YtkeainhjghdfcaaGreat
open Go.RowKit

/-- The block rb has the cells xs. -/
structure RRow (w : World) (rb : Nat) (xs : List Gl) : Prop where
  cells : ∀ j u, (xs.flatMap genc)[j]? = some u → w.cell? ⟨rb, j, none⟩ = some u
  free : ∀ j, w.frozen? ⟨rb, j, none⟩ = false

theorem RRow.text {w : World} {rb : Nat} {xs : List Gl} (h : RRow w rb xs) {k : Nat} {x : Gl} (hk : xs[k]? = some x) : w.cell? ⟨rb, k * 2, none⟩ = some (.string x.1) := by
  have := flat_get genc_len xs k x 0 _ hk rfl
  exact h.cells _ _ this
theorem RRow.width {w : World} {rb : Nat} {xs : List Gl} (h : RRow w rb xs) {k : Nat} {x : Gl} (hk : xs[k]? = some x) : w.cell? ⟨rb, k * 2 + 1, none⟩ = some (.int .i64 x.2) := by
  have := flat_get genc_len xs k x 1 _ hk rfl
  exact h.cells _ _ this
theorem RRow.lt {w : World} {rb : Nat} {xs : List Gl} (h : RRow w rb xs) {k : Nat} (hk : k < xs.length) : rb < w.heap.size :=
  World.block_lt_of_cell? w _ (h.text (List.getElem?_eq_getElem hk))
theorem RRow.same {w w' : World} {rb : Nat} {xs : List Gl} (h : RRow w rb xs) (hl : w'.heap[rb]? = w.heap[rb]?) : RRow w' rb xs :=
  ⟨fun j u hu => (World.cell?_of_block (a := ⟨rb, j, none⟩) hl).trans (h.cells j u hu), fun j => (World.frozen?_of_block (a := ⟨rb, j, none⟩) hl).trans (h.free j)⟩

theorem RRow.set {w : World} {rb : Nat} {xs : List Gl} (h : RRow w rb xs) {k : Nat} (hk : k < xs.length) (x : Gl) :
    RRow ((w.setCell ⟨rb, k * 2, none⟩ (.string x.1)).setCell ⟨rb, k * 2 + 1, none⟩ (.int .i64 x.2)) rb (xs.set k x) := by
  have hx := get_cellAt hk
  refine ⟨?_, ?_⟩
  · intro j u hu
    obtain ⟨i, y, hy, q, hq, rfl, hqu⟩ := flat_index genc_len _ j u hu
    by_cases hik : i = k
    · subst hik
      rw [List.getElem?_set_self hk] at hy
      obtain rfl : x = y := by simpa using hy
      rcases (show q = 0 ∨ q = 1 by omega) with rfl | rfl
      · rw [World.cell?_setCell_other _ _ _ _ (by intro e; injection e with _ e2; omega), Nat.add_zero, World.cell?_setCell_same' _ _ _ (by rw [h.text hx]; rfl)]
        exact hqu
      · rw [World.cell?_setCell_same' _ _ _ (by rw [World.cell?_setCell_other _ _ _ _ (by intro e; injection e with _ e2; omega), h.width hx]; rfl)]
        exact hqu
    · rw [List.getElem?_set_ne (by omega)] at hy
      rw [World.cell?_setCell_other _ _ _ _ (by intro e; injection e with _ e2; omega), World.cell?_setCell_other _ _ _ _ (by intro e; injection e with _ e2; omega)]
      exact h.cells _ _ (flat_get genc_len xs i y q u hy hqu)
  · intro j
    rw [World.frozen?_setCell, World.frozen?_setCell]
    exact h.free j

/-- a row's cell set, behind a block that was laid -/
theorem RRow.put {w : World} {rb : Nat} {xs : List Gl} (h : RRow w rb xs) {k : Nat} (hk : k < xs.length) (x : Gl) (o : Obj) :
    RRow (((w.setCell ⟨rb, k * 2, none⟩ (.string x.1)).setCell ⟨rb, k * 2 + 1, none⟩ (.int .i64 x.2)).alloc o) rb (xs.set k x) ∧
    w.grownBy (((w.setCell ⟨rb, k * 2, none⟩ (.string x.1)).setCell ⟨rb, k * 2 + 1, none⟩ (.int .i64 x.2)).alloc o) (some rb) := by
  have hl := h.lt hk
  constructor
  · exact (h.set hk x).same (Below.heap_alloc _ _ _ (by simpa using hl))
  · refine ⟨rfl, rfl, rfl, by simp, fun j hj hne => ?_⟩
    have h1 : j ≠ rb := fun e => hne (by rw [e])
    exact ((Below.heap_alloc _ _ _ (by simpa using hj)).trans (Below.heap_setCell _ _ _ _ h1)).trans (Below.heap_setCell _ _ _ _ h1)
theorem RRow.put0 {w : World} {rb : Nat} {xs : List Gl} (h : RRow w rb xs) {k : Nat} (hk : k < xs.length) (x : Gl) :
    RRow ((w.setCell ⟨rb, k * 2, none⟩ (.string x.1)).setCell ⟨rb, k * 2 + 1, none⟩ (.int .i64 x.2)) rb (xs.set k x) ∧
    w.grownBy ((w.setCell ⟨rb, k * 2, none⟩ (.string x.1)).setCell ⟨rb, k * 2 + 1, none⟩ (.int .i64 x.2)) (some rb) := by
  refine ⟨h.set hk x, rfl, rfl, rfl, by simp, fun j hj hne => ?_⟩
  have h1 : j ≠ rb := fun e => hne (by rw [e])
  exact (Below.heap_setCell _ _ _ _ h1).trans (Below.heap_setCell _ _ _ _ h1)

structure RCell (w : World) (rb k : Nat) (t : ByteArray) (d : Int) : Prop where
  t0 : w.cell? ⟨rb, k * 2, none⟩ = some (.string t)
  t1 : w.cell? ⟨rb, k * 2 + 1, none⟩ = some (.int .i64 d)
  f0 : w.frozen? ⟨rb, k * 2, none⟩ = false
  f1 : w.frozen? ⟨rb, k * 2 + 1, none⟩ = false
  lt : rb < w.heap.size
theorem RRow.facts {w : World} {rb : Nat} {xs : List Gl} (h : RRow w rb xs) {k : Nat} (hk : k < xs.length) : RCell w rb k (cellAt xs k).1 (cellAt xs k).2 :=
  ⟨h.text (get_cellAt hk), h.width (get_cellAt hk), h.free _, h.free _, h.lt hk⟩

set_option maxHeartbeats 400000 in
theorem rblank_any (w : World) : Calls Tryz.prog 81 #[] w fun e w' => e = .returned (.agg #[.string ⟨#[32]⟩, .int .i64 1]) ∧ w.alloc (.cells #[.string ⟨#[32]⟩, .int .i64 1] 49) = w' := by
  go_enter Tryz.func81, Tryz.ntmps81
  go_wp2
  exact bodyPost_ret (v := .agg #[.string ⟨#[32]⟩, .int .i64 1]) (by simp [results, Tryz.results81, go_sem]) rfl ⟨rfl, rfl⟩

theorem looseRow_one {l : List Gl} {c : Nat} (h : (cellAt l c).2 = 1) : looseRow l c = l.set c blankC := by unfold looseRow; rw [if_neg (by omega), if_neg (by omega)]
theorem looseRow_two {l : List Gl} {c : Nat} (h : (cellAt l c).2 = 2) : looseRow l c = (l.set (c + 1) blankC).set c blankC := by unfold looseRow; rw [if_neg (by omega), if_pos h]
theorem looseRow_zero {l : List Gl} {c : Nat} (h : (cellAt l c).2 = 0) : looseRow l c = (l.set (c - 1) blankC).set c blankC := by unfold looseRow; rw [if_pos h]

set_option maxRecDepth 100000 in
set_option maxHeartbeats 1000000 in
theorem rloose_any (rb m cap c : Nat) (xs : List Gl) (w : World) (hR : RRow w rb xs) (hl : xs.length = m) (hw : wfRow xs) (hk : c < m) (hm : m ≤ 1073741824) :
    Calls Tryz.prog 122 #[.slice (some ⟨rb, 0, none⟩) m cap, .int .i64 c] w fun e w' => e = .returned (.tuple #[]) ∧ w.grownBy w' (some rb) ∧ RRow w' rb (looseRow xs c) := by
  subst hl
  have hf := hw c hk
  unfold fine at hf
  obtain ⟨t0, t1, f0, f1, hlb⟩ := hR.facts hk
  have hk0 : (0 : Int) ≤ (c : Int) := by omega
  have hk1 : (c : Int) < (xs.length : Int) := by omega
  rcases hf with ⟨h1, _, h2, h3⟩ | h1 | ⟨h1, h2, _⟩
  · rw [looseRow_zero h1]
    rw [h1] at t1
    obtain ⟨s0, s1, r0, r1, _⟩ := hR.facts (k := c - 1) (by omega)
    have hj0 : (0 : Int) ≤ (c : Int) - 1 := by omega
    have hj1 : (c : Int) - 1 < (xs.length : Int) := by omega
    have hj3 : ((c : Int) - 1).toNat = c - 1 := by omega
    have hj5 : (1 : Int) ≤ (c : Int) := by omega
    have hp := hR.put (k := c - 1) (by omega) blankC (.cells #[.string ⟨#[32]⟩, .int .i64 1] 49)
    dsimp only [blankC] at hp
    go_enter Tryz.func122, Tryz.ntmps122
    go_wp2_with fail
    refine (rblank_any _).mono ?_
    rintro e w' ⟨rfl, rfl⟩
    go_wp2_with fail
    generalize ((w.setCell ⟨rb, (c - 1) * 2, none⟩ (Value.string ⟨#[32]⟩)).setCell ⟨rb, (c - 1) * 2 + 1, none⟩ (Value.int .i64 1)).alloc (Obj.cells #[.string ⟨#[32]⟩, .int .i64 1] 49) = W1 at hp ⊢
    clear s0 s1 r0 r1 t0 t1 f0 f1
    have hR1 : RRow W1 rb (xs.set (c - 1) blankC) := hp.1
    obtain ⟨t0, t1, f0, f1, hlb1⟩ := hR1.facts (k := c) (by rw [List.length_set]; omega)
    have hp2 := hR1.put (k := c) (by rw [List.length_set]; omega) blankC (.cells #[.string ⟨#[32]⟩, .int .i64 1] 49)
    refine (rblank_any _).mono ?_
    rintro e w' ⟨rfl, rfl⟩
    go_wp2
    go_end0
    exact ⟨rfl, grown_trans hp.2 hp2.2, hp2.1⟩
  · rw [looseRow_one h1]
    rw [h1] at t1
    have hp := hR.put (k := c) (by omega) blankC (.cells #[.string ⟨#[32]⟩, .int .i64 1] 49)
    go_enter Tryz.func122, Tryz.ntmps122
    go_wp2_with fail
    refine (rblank_any _).mono ?_
    rintro e w' ⟨rfl, rfl⟩
    go_wp2
    go_end0
    exact ⟨rfl, hp.2, hp.1⟩
  · rw [looseRow_two h1]
    rw [h1] at t1
    obtain ⟨s0, s1, r0, r1, _⟩ := hR.facts (k := c + 1) (by omega)
    have hj0 : (0 : Int) ≤ (c : Int) + 1 := by omega
    have hj1 : (c : Int) + 1 < (xs.length : Int) := by omega
    have hj3 : ((c : Int) + 1).toNat = c + 1 := by omega
    have hp := hR.put (k := c + 1) (by omega) blankC (.cells #[.string ⟨#[32]⟩, .int .i64 1] 49)
    dsimp only [blankC] at hp
    go_enter Tryz.func122, Tryz.ntmps122
    go_wp2_with fail
    refine (rblank_any _).mono ?_
    rintro e w' ⟨rfl, rfl⟩
    go_wp2_with fail
    generalize ((w.setCell ⟨rb, (c + 1) * 2, none⟩ (Value.string ⟨#[32]⟩)).setCell ⟨rb, (c + 1) * 2 + 1, none⟩ (Value.int .i64 1)).alloc (Obj.cells #[.string ⟨#[32]⟩, .int .i64 1] 49) = W1 at hp ⊢
    clear s0 s1 r0 r1 t0 t1 f0 f1
    have hR1 : RRow W1 rb (xs.set (c + 1) blankC) := hp.1
    obtain ⟨t0, t1, f0, f1, hlb1⟩ := hR1.facts (k := c) (by rw [List.length_set]; omega)
    have hp2 := hR1.put (k := c) (by rw [List.length_set]; omega) blankC (.cells #[.string ⟨#[32]⟩, .int .i64 1] 49)
    refine (rblank_any _).mono ?_
    rintro e w' ⟨rfl, rfl⟩
    go_wp2
    go_end0
    exact ⟨rfl, grown_trans hp.2 hp2.2, hp2.1⟩
end Go.Proofs.YtkeainhjghdfcaaGreat

/- The document's grid: rows, each in a block of its own; is a cell there. -/
namespace Go.Proofs.YtkeainhjghdfcaaGreat
open Go.RowKit

structure RefAt (w : World) (B ob : Nat) (rb rc : Nat → Nat) (m : Nat) (G : List (List Gl)) : Prop where
  outer : ∀ r, r < G.length → w.cell? ⟨ob, r, none⟩ = some (.slice (some ⟨rb r, 0, none⟩) m (rc r))
  rows : ∀ r l, G[r]? = some l → RRow w (rb r) l
  shape : ∀ l ∈ G, l.length = m
  wf : ∀ l ∈ G, wfRow l
  ne : ∀ r, r < G.length → rb r ≠ ob
  inj : ∀ r s, r < G.length → s < G.length → rb r = rb s → r = s
  base : ∀ r, r < G.length → B ≤ rb r
  hob : B ≤ ob
  pos : 0 < m
  small : m ≤ 1073741824
  few : G.length ≤ 1073741824

theorem RefAt.row {w : World} {B ob m : Nat} {rb rc : Nat → Nat} {G : List (List Gl)} (h : RefAt w B ob rb rc m G) {r : Nat} {l : List Gl} (hr : G[r]? = some l) :
    l.length = m ∧ wfRow l ∧ r < G.length ∧ w.cell? ⟨ob, r, none⟩ = some (.slice (some ⟨rb r, 0, none⟩) m (rc r)) ∧ RRow w (rb r) l ∧ rb r ≠ ob ∧ rb r < w.heap.size ∧ ob < w.heap.size := by
  have hl := (List.getElem?_eq_some_iff.1 hr).1
  have h1 := h.shape l (List.mem_of_getElem? hr)
  have h2 := h.outer r hl
  have h3 := h.rows r l hr
  exact ⟨h1, h.wf l (List.mem_of_getElem? hr), hl, h2, h3, h.ne r hl, h3.lt (k := 0) (by have := h.pos; omega), World.block_lt_of_cell? w _ h2⟩

theorem RefAt.set {w w' : World} {B ob m : Nat} {rb rc : Nat → Nat} {G : List (List Gl)} (h : RefAt w B ob rb rc m G) {r : Nat} {l : List Gl} (hr : r < G.length)
    (hg : w.grownBy w' (some (rb r))) (hR : RRow w' (rb r) l) (hl : l.length = m) (hw : wfRow l) : RefAt w' B ob rb rc m (G.set r l) := by
  have hlen : (G.set r l).length = G.length := List.length_set
  refine ⟨?_, ?_, set_shape h.shape hl, set_wf h.wf hw, ?_, ?_, ?_, h.hob, h.pos, h.small, by rw [hlen]; exact h.few⟩
  · intro s hs
    rw [hlen] at hs
    exact hg.cell (h.outer s hs) (by intro e; injection e with e; exact h.ne r hr e.symm)
  · intro s k hk
    by_cases hsr : s = r
    · subst hsr
      rw [List.getElem?_set_self hr] at hk
      obtain rfl : l = k := by simpa using hk
      exact hR
    · rw [List.getElem?_set_ne (by omega)] at hk
      obtain ⟨_, _, hs, _, h5, _, h7, _⟩ := h.row hk
      exact h5.same (hg.block _ h7 (by intro e; injection e with e; exact hsr (h.inj s r hs hr e)))
  · intro s hs; rw [hlen] at hs; exact h.ne s hs
  · intro s t hs ht; rw [hlen] at hs ht; exact h.inj s t hs ht
  · intro s hs; rw [hlen] at hs; exact h.base s hs

theorem RefAt.same {w w' : World} {B ob m : Nat} {rb rc : Nat → Nat} {G : List (List Gl)} (h : RefAt w B ob rb rc m G)
    (ho : w'.heap[ob]? = w.heap[ob]?) (hr : ∀ r, r < G.length → w'.heap[rb r]? = w.heap[rb r]?) : RefAt w' B ob rb rc m G :=
  ⟨fun r h1 => (World.cell?_of_block (a := ⟨ob, r, none⟩) ho).trans (h.outer r h1), fun r l h1 => (h.rows r l h1).same (hr r (List.getElem?_eq_some_iff.1 h1).1), h.shape, h.wf, h.ne, h.inj, h.base, h.hob, h.pos, h.small, h.few⟩
theorem RefAt.grown {w w' : World} {B ob m lb : Nat} {rb rc : Nat → Nat} {G : List (List Gl)} (h : RefAt w B ob rb rc m G) (hg : w.grownBy w' (some lb)) (h1 : lb ≠ ob) (h2 : ∀ r, r < G.length → lb ≠ rb r) (h3 : 0 < G.length) : RefAt w' B ob rb rc m G := by
  have hob : ob < w.heap.size := World.block_lt_of_cell? w _ (h.outer 0 h3)
  refine h.same (hg.block _ hob (by intro e; injection e with e; exact h1 e.symm)) fun r hr => ?_
  have := h.row (List.getElem?_eq_getElem hr)
  exact hg.block _ this.2.2.2.2.2.2.1 (by intro e; injection e with e; exact h2 r hr e.symm)

set_option maxRecDepth 100000 in
set_option maxHeartbeats 400000 in
theorem refIn_yes (ob n m cap : Nat) (b0 c0 : Nat) (r c : Int) (w : World) (h1 : 0 ≤ r) (h2 : r < n) (h3 : 0 ≤ c) (h4 : c < m)
    (ho : w.cell? ⟨ob, r.toNat, none⟩ = some (.slice (some ⟨b0, 0, none⟩) m c0)) :
    Calls Tryz.prog 121 #[.slice (some ⟨ob, 0, none⟩) n cap, .int .i64 r, .int .i64 c] w fun e w' => e = .returned (.bool true) ∧ w = w' := by
  go_enter Tryz.func121, Tryz.ntmps121
  go_wp2
  go_ret
  exact ⟨rfl, rfl⟩

set_option maxRecDepth 100000 in
set_option maxHeartbeats 400000 in
theorem refIn_out (o : Option Addr) (n cap : Nat) (r c : Int) (w : World) (h : r < 0 ∨ ¬ r < n ∨ c < 0) :
    Calls Tryz.prog 121 #[.slice o n cap, .int .i64 r, .int .i64 c] w fun e w' => e = .returned (.bool false) ∧ w = w' := by
  have h' : r < 0 ∨ (0 ≤ r ∧ ¬ r < n) ∨ (0 ≤ r ∧ r < n ∧ c < 0) := by omega
  clear h
  rcases h' with h1 | ⟨h1, h2⟩ | ⟨h1, h2, h3⟩
  all_goals
    go_enter Tryz.func121, Tryz.ntmps121
    go_wp2
    go_ret
    exact ⟨rfl, rfl⟩

set_option maxRecDepth 100000 in
set_option maxHeartbeats 400000 in
theorem refIn_far (ob n m cap : Nat) (b0 c0 : Nat) (r c : Int) (w : World) (h1 : 0 ≤ r) (h2 : r < n) (h3 : 0 ≤ c) (h4 : ¬ c < m)
    (ho : w.cell? ⟨ob, r.toNat, none⟩ = some (.slice (some ⟨b0, 0, none⟩) m c0)) :
    Calls Tryz.prog 121 #[.slice (some ⟨ob, 0, none⟩) n cap, .int .i64 r, .int .i64 c] w fun e w' => e = .returned (.bool false) ∧ w = w' := by
  go_enter Tryz.func121, Tryz.ntmps121
  go_wp2
  go_ret
  exact ⟨rfl, rfl⟩

theorem refIn_no (ob n m cap : Nat) (rb rc : Nat → Nat) (r c : Int) (w : World) (ho : ∀ r, r < n → w.cell? ⟨ob, r, none⟩ = some (.slice (some ⟨rb r, 0, none⟩) m (rc r))) (h : ¬ (0 ≤ r ∧ r < n ∧ 0 ≤ c ∧ c < m)) :
    Calls Tryz.prog 121 #[.slice (some ⟨ob, 0, none⟩) n cap, .int .i64 r, .int .i64 c] w fun e w' => e = .returned (.bool false) ∧ w = w' := by
  by_cases h1 : r < 0 ∨ ¬ r < n ∨ c < 0
  · exact refIn_out _ n cap r c w h1
  · have : r.toNat < n := by omega
    exact refIn_far ob n m cap (rb r.toNat) (rc r.toNat) r c w (by omega) (by omega) (by omega) (by omega) (ho _ this)
end Go.Proofs.YtkeainhjghdfcaaGreat

/- The document's grid: Put. -/
namespace Go.Proofs.YtkeainhjghdfcaaGreat
open Go.RowKit

theorem refIn_yes' (B ob m cap : Nat) (rb rc : Nat → Nat) (G : List (List Gl)) (r c : Int) (w : World) (hG : RefAt w B ob rb rc m G) (h1 : 0 ≤ r) (h2 : r < G.length) (h3 : 0 ≤ c) (h4 : c < m) :
    Calls Tryz.prog 121 #[.slice (some ⟨ob, 0, none⟩) G.length cap, .int .i64 r, .int .i64 c] w fun e w' => e = .returned (.bool true) ∧ w = w' :=
  refIn_yes ob G.length m cap (rb r.toNat) (rc r.toNat) r c w h1 h2 h3 h4 (hG.outer _ (by omega))
theorem refIn_no' (B ob m cap : Nat) (rb rc : Nat → Nat) (G : List (List Gl)) (r c : Int) (w : World) (hG : RefAt w B ob rb rc m G) (h : ¬ (0 ≤ r ∧ r < G.length ∧ 0 ≤ c ∧ c < m)) :
    Calls Tryz.prog 121 #[.slice (some ⟨ob, 0, none⟩) G.length cap, .int .i64 r, .int .i64 c] w fun e w' => e = .returned (.bool false) ∧ w = w' :=
  refIn_no ob G.length m cap rb rc r c w hG.outer h

theorem grown_drew {w w' : World} {r : Option Nat} (h : w.grownBy w' r) : w.grownBy w'.drew r := ⟨h.os, h.tape, h.output, h.size, h.block⟩

set_option maxRecDepth 100000 in
set_option maxHeartbeats 1000000 in
theorem refPut_no (B ob m cap : Nat) (rb rc : Nat → Nat) (G : List (List Gl)) (r c d : Int) (t : ByteArray) (w : World) (hob : ob < w.heap.size) (hG : RefAt w B ob rb rc m G) (h : ¬ roomy G.length m r c d) :
    Calls Tryz.prog 73 #[.slice (some ⟨ob, 0, none⟩) G.length cap, .int .i64 r, .int .i64 c, .agg #[.string t, .int .i64 d]] w fun e w' => e = .returned (.bool false) ∧ Below w.heap.size w w' := by
  have hsm := hG.small
  have hGx : RefAt (w.alloc (.cells #[.string t, .int .i64 d] 81)) B ob rb rc m G := hG.same (Below.heap_alloc _ _ _ hob) fun r hr => Below.heap_alloc _ _ _ (hG.row (List.getElem?_eq_getElem hr)).2.2.2.2.2.2.1
  generalize hn : G.length = n at *
  unfold roomy at h
  by_cases h1 : 0 ≤ r ∧ r < n ∧ 0 ≤ c ∧ c < m
  · have h2 : (d ≠ 1 ∧ d ≠ 2) ∨ (d = 2 ∧ c + 1 = m) := by omega
    rcases h2 with ⟨h2, h3⟩ | ⟨h2, h3⟩
    · go_enter Tryz.func73, Tryz.ntmps73
      go_wp2_with fail
      subst hn
      refine (refIn_yes' B ob m cap rb rc G _ _ _ hGx h1.1 h1.2.1 h1.2.2.1 h1.2.2.2).mono ?_
      rintro e w' ⟨rfl, rfl⟩
      go_wp2
      go_ret
      exact ⟨rfl, (Below.refl _ _).alloc (Nat.le_refl _) _⟩
    · subst h2
      obtain ⟨q1, q2, q3, q4⟩ := h1
      go_enter Tryz.func73, Tryz.ntmps73
      go_wp2_with fail
      subst hn
      refine (refIn_yes' B ob m cap rb rc G _ _ _ hGx q1 q2 q3 q4).mono ?_
      rintro e w' ⟨rfl, rfl⟩
      go_wp2_with fail
      refine (refIn_no' B ob m cap rb rc G _ _ _ hGx (by omega)).mono ?_
      rintro e w' ⟨rfl, rfl⟩
      go_wp2
      go_ret
      exact ⟨rfl, (Below.refl _ _).alloc (Nat.le_refl _) _⟩
  · go_enter Tryz.func73, Tryz.ntmps73
    go_wp2_with fail
    subst hn
    refine (refIn_no' B ob m cap rb rc G _ _ _ hGx h1).mono ?_
    rintro e w' ⟨rfl, rfl⟩
    go_wp2
    go_ret
    exact ⟨rfl, (Below.refl _ _).alloc (Nat.le_refl _) _⟩

set_option maxRecDepth 100000 in
set_option maxHeartbeats 1000000 in
theorem refPut_nil (r c d : Int) (t : ByteArray) (w : World) :
    Calls Tryz.prog 73 #[.slice none 0 0, .int .i64 r, .int .i64 c, .agg #[.string t, .int .i64 d]] w fun e w' => e = .returned (.bool false) ∧ Below w.heap.size w w' := by
  go_enter Tryz.func73, Tryz.ntmps73
  go_wp2_with fail
  refine (refIn_out _ 0 0 r c _ (by omega)).mono ?_
  rintro e w' ⟨rfl, rfl⟩
  go_wp2
  go_ret
  exact ⟨rfl, (Below.refl _ _).alloc (Nat.le_refl _) _⟩

set_option maxRecDepth 100000 in
set_option maxHeartbeats 1000000 in
theorem refPut_one (B ob m cap : Nat) (rb rc : Nat → Nat) (G : List (List Gl)) (r c : Nat) (l : List Gl) (x : Gl) (w : World) (hG : RefAt w B ob rb rc m G) (hr : G[r]? = some l) (hc : c < m) (hx : x.2 = 1) :
    Calls Tryz.prog 73 #[.slice (some ⟨ob, 0, none⟩) G.length cap, .int .i64 r, .int .i64 c, .agg #[.string x.1, .int .i64 x.2]] w fun e w' => e = .returned (.bool true) ∧ w.grownBy w' (some (rb r)) ∧ RefAt w' B ob rb rc m (G.set r (putRow l c x)) := by
  obtain ⟨hl, hw, hrl, ho, hR, hne, hlb, hob⟩ := hG.row hr
  obtain ⟨t, d⟩ := x
  dsimp only at hx ⊢
  subst hx
  have hput : putRow l c (t, 1) = (looseRow l c).set c (t, 1) := by unfold putRow; rw [if_neg (show ¬ (1 : Int) = 2 by decide)]
  have HP := Lib.hid hput
  have hwp : wfRow (putRow l c (t, 1)) := wf_put hw (by omega) (.inl rfl)
  have hsm := hG.small
  have hfew := hG.few
  have hGx : RefAt (w.alloc (.cells #[.string t, .int .i64 1] 81)) B ob rb rc m G := hG.same (Below.heap_alloc _ _ _ hob) fun r hr => Below.heap_alloc _ _ _ (hG.row (List.getElem?_eq_getElem hr)).2.2.2.2.2.2.1
  have HG := Lib.hid hG
  clear hput hG
  go_enter Tryz.func73, Tryz.ntmps73
  go_wp2_with fail
  refine (refIn_yes' B ob m cap rb rc G _ _ _ hGx (by omega) (by omega) (by omega) (by omega)).mono ?_
  rintro e w' ⟨rfl, rfl⟩
  have hr0 : (0 : Int) ≤ (r : Int) := by omega
  have hr1 : (r : Int) < (G.length : Int) := by omega
  have hc0 : (0 : Int) ≤ (c : Int) := by omega
  have hc1 : (c : Int) < (m : Int) := by omega
  go_wp2_with fail
  refine (rloose_any (rb r) m (rc r) c l _ (hR.same (Below.heap_alloc _ _ _ hlb)) hl hw hc hsm).mono ?_
  rintro e w2 ⟨rfl, hg2, hR2⟩
  have ho2 : w2.cell? ⟨ob, r, none⟩ = some (.slice (some ⟨rb r, 0, none⟩) m (rc r)) := grown_cell hg2 (by go_simp) (by exact fun e => hne e.symm)
  have x0 : w2.cell? ⟨w.heap.size, 0, none⟩ = some (.string t) := grown_cell hg2 (by go_simp) (by show w.heap.size ≠ rb r; omega)
  have x1 : w2.cell? ⟨w.heap.size, 1, none⟩ = some (.int .i64 1) := grown_cell hg2 (by go_simp) (by show w.heap.size ≠ rb r; omega)
  have hgw : w.grownBy w2 (some (rb r)) := ⟨hg2.os, hg2.tape, hg2.output, Nat.le_trans (by simp) hg2.size, fun j hj hn => (hg2.block j (by simp; omega) hn).trans (Below.heap_alloc _ _ _ hj)⟩
  obtain ⟨s0, s1, v0, v1, hlb2⟩ := hR2.facts (k := c) (by rw [looseRow_len]; omega)
  have hnx : ¬ w.heap.size = rb r := by omega
  have hnx' : ¬ rb r = w.heap.size := by omega
  have hnx2 : ¬ ob = rb r := fun e => hne e.symm
  have hnx3 : ¬ rb r = ob := hne
  clear hg2 hGx
  go_wp2
  go_region_held3 (fun w' => w'.cell? ⟨ob, r, none⟩ = some (.slice (some ⟨rb r, 0, none⟩) m (rc r)) ∧ w'.cell? ⟨w.heap.size, 0, none⟩ = some (.string t) ∧ w'.cell? ⟨w.heap.size, 1, none⟩ = some (.int .i64 1)) (go_keep) (first | fail)
  go_wp2
  go_ret
  have hp := hR2.put0 (k := c) (by rw [looseRow_len]; omega) (t, 1)
  have hg3 : w.grownBy _ (some (rb r)) := grown_trans hgw hp.2
  have hg4 := grown_drew hg3
  refine ⟨rfl, hg4, HG.out.set hrl hg4 ?_ (by rw [putRow_len]; exact hl) hwp⟩
  rw [HP.out]
  exact hp.1.same rfl

set_option maxRecDepth 100000 in
set_option maxHeartbeats 1000000 in
theorem refPut_two (B ob m cap : Nat) (rb rc : Nat → Nat) (G : List (List Gl)) (r c : Nat) (l : List Gl) (x : Gl) (w : World) (hG : RefAt w B ob rb rc m G) (hr : G[r]? = some l) (hcw : c + 1 < m) (hx : x.2 = 2) :
    Calls Tryz.prog 73 #[.slice (some ⟨ob, 0, none⟩) G.length cap, .int .i64 r, .int .i64 c, .agg #[.string x.1, .int .i64 x.2]] w fun e w' => e = .returned (.bool true) ∧ w.grownBy w' (some (rb r)) ∧ RefAt w' B ob rb rc m (G.set r (putRow l c x)) := by
  have hc : c < m := by omega
  obtain ⟨hl, hw, hrl, ho, hR, hne, hlb, hob⟩ := hG.row hr
  obtain ⟨t, d⟩ := x
  dsimp only at hx ⊢
  subst hx
  have hput : putRow l c (t, 2) = ((looseRow (looseRow l c) (c + 1)).set (c + 1) zeroC).set c (t, 2) := by unfold putRow; rw [if_pos rfl]
  have HP := Lib.hid hput
  have hwp : wfRow (putRow l c (t, 2)) := wf_put hw (by omega) (.inr ⟨rfl, by omega⟩)
  have hsm := hG.small
  have hfew := hG.few
  have hGx : RefAt (w.alloc (.cells #[.string t, .int .i64 2] 81)) B ob rb rc m G := hG.same (Below.heap_alloc _ _ _ hob) fun r hr => Below.heap_alloc _ _ _ (hG.row (List.getElem?_eq_getElem hr)).2.2.2.2.2.2.1
  have HG := Lib.hid hG
  clear hput hG
  go_enter Tryz.func73, Tryz.ntmps73
  go_wp2_with fail
  refine (refIn_yes' B ob m cap rb rc G _ _ _ hGx (by omega) (by omega) (by omega) (by omega)).mono ?_
  rintro e w' ⟨rfl, rfl⟩
  go_wp2_with fail
  refine (refIn_yes' B ob m cap rb rc G _ _ _ hGx (by omega) (by omega) (by omega) (by omega)).mono ?_
  rintro e w' ⟨rfl, rfl⟩
  have hr0 : (0 : Int) ≤ (r : Int) := by omega
  have hr1 : (r : Int) < (G.length : Int) := by omega
  have hc0 : (0 : Int) ≤ (c : Int) := by omega
  have hc1 : (c : Int) < (m : Int) := by omega
  go_wp2_with fail
  refine (rloose_any (rb r) m (rc r) c l _ (hR.same (Below.heap_alloc _ _ _ hlb)) hl hw hc hsm).mono ?_
  rintro e w2 ⟨rfl, hg2, hR2⟩
  have ho2 : w2.cell? ⟨ob, r, none⟩ = some (.slice (some ⟨rb r, 0, none⟩) m (rc r)) := grown_cell hg2 (by go_simp) (by exact fun e => hne e.symm)
  have x0 : w2.cell? ⟨w.heap.size, 0, none⟩ = some (.string t) := grown_cell hg2 (by go_simp) (by show w.heap.size ≠ rb r; omega)
  have x1 : w2.cell? ⟨w.heap.size, 1, none⟩ = some (.int .i64 2) := grown_cell hg2 (by go_simp) (by show w.heap.size ≠ rb r; omega)
  have hgw : w.grownBy w2 (some (rb r)) := ⟨hg2.os, hg2.tape, hg2.output, Nat.le_trans (by simp) hg2.size, fun j hj hn => (hg2.block j (by simp; omega) hn).trans (Below.heap_alloc _ _ _ hj)⟩
  have hnx : ¬ w.heap.size = rb r := by omega
  have hnx' : ¬ rb r = w.heap.size := by omega
  have hnx2 : ¬ ob = rb r := fun e => hne e.symm
  have hnx3 : ¬ rb r = ob := hne
  clear hg2 hGx
  have hlb2 := hR2.lt (k := c) (by rw [looseRow_len]; omega)
  have hwl := wf_loose hw (k := c) (by omega)
  have hj0 : (0 : Int) ≤ (c : Int) + 1 := by omega
  have hj1 : (c : Int) + 1 < (m : Int) := by omega
  have hj3 : ((c : Int) + 1).toNat = c + 1 := by omega
  have e1 := IntWalk.i64_in ((c : Int) + 1) (by omega)
  go_wp2_with fail
  refine (rloose_any (rb r) m (rc r) (c + 1) (looseRow l c) _ hR2 (by rw [looseRow_len]; exact hl) hwl hcw hsm).mono ?_
  rintro e w3 ⟨rfl, hg3, hR3⟩
  have ho3 : w3.cell? ⟨ob, r, none⟩ = some (.slice (some ⟨rb r, 0, none⟩) m (rc r)) := grown_cell hg3 ho2 (by exact fun e => hne e.symm)
  have y0 : w3.cell? ⟨w.heap.size, 0, none⟩ = some (.string t) := grown_cell hg3 x0 (by show w.heap.size ≠ rb r; omega)
  have y1 : w3.cell? ⟨w.heap.size, 1, none⟩ = some (.int .i64 2) := grown_cell hg3 x1 (by show w.heap.size ≠ rb r; omega)
  have hgw3 := grown_trans hgw hg3
  obtain ⟨s0, s1, v0, v1, hlb3⟩ := hR3.facts (k := c + 1) (by rw [looseRow_len, looseRow_len]; omega)
  clear ho2 x0 x1 hg3
  go_wp2
  have h4 := hR3.put0 (k := c + 1) (by rw [looseRow_len, looseRow_len]; omega) zeroC
  dsimp only [zeroC] at h4
  generalize (w3.setCell ⟨rb r, (c + 1) * 2, none⟩ (Value.string ⟨#[]⟩)).setCell ⟨rb r, (c + 1) * 2 + 1, none⟩ (Value.int .i64 0) = W4 at h4 ⊢
  obtain ⟨hR4, g4⟩ := h4
  have hR4' : RRow W4 (rb r) ((looseRow (looseRow l c) (c + 1)).set (c + 1) zeroC) := hR4
  have ho2 : W4.cell? ⟨ob, r, none⟩ = some (.slice (some ⟨rb r, 0, none⟩) m (rc r)) := grown_cell g4 ho3 (by exact fun e => hne e.symm)
  have x0 : W4.cell? ⟨w.heap.size, 0, none⟩ = some (.string t) := grown_cell g4 y0 (by show w.heap.size ≠ rb r; omega)
  have x1 : W4.cell? ⟨w.heap.size, 1, none⟩ = some (.int .i64 2) := grown_cell g4 y1 (by show w.heap.size ≠ rb r; omega)
  have hgw4 := grown_trans hgw3 g4
  have hcl : c < ((looseRow (looseRow l c) (c + 1)).set (c + 1) zeroC).length := by rw [List.length_set, looseRow_len, looseRow_len]; omega
  clear s0 s1 v0 v1 ho3 y0 y1 hR4 g4
  obtain ⟨s0, s1, v0, v1, hlb4⟩ := hR4'.facts hcl
  go_region_held3 (fun w' => w'.cell? ⟨ob, r, none⟩ = some (.slice (some ⟨rb r, 0, none⟩) m (rc r)) ∧ w'.cell? ⟨w.heap.size, 0, none⟩ = some (.string t) ∧ w'.cell? ⟨w.heap.size, 1, none⟩ = some (.int .i64 2)) (go_keep) (first | fail)
  go_wp2
  go_ret
  have hp := hR4'.put0 hcl (t, 2)
  have hg5 : w.grownBy _ (some (rb r)) := grown_drew (grown_trans hgw4 hp.2)
  refine ⟨rfl, hg5, HG.out.set hrl hg5 ?_ (by rw [putRow_len]; exact hl) hwp⟩
  rw [HP.out]
  exact hp.1.same rfl
end Go.Proofs.YtkeainhjghdfcaaGreat

/- The document's grid: Erase. -/
namespace Go.Proofs.YtkeainhjghdfcaaGreat
open Go.RowKit

theorem set_same {α : Type} {G : List α} {r : Nat} {l : α} (hr : G[r]? = some l) : G.set r l = G := by
  have hrl := (List.getElem?_eq_some_iff.1 hr).1
  refine List.ext_getElem? fun j => ?_
  by_cases h : r = j
  · subst h; rw [List.getElem?_set_self hrl, hr]
  · rw [List.getElem?_set_ne h]

end Go.Proofs.YtkeainhjghdfcaaGreat

/- The document's grid: New. -/
namespace Go.Proofs.YtkeainhjghdfcaaGreat
open Go.RowKit

theorem Erc : ElemT Tryz.prog 44 49 2 24 := elemT_of (by kernel_rfl) (z := .agg #[.string ⟨#[]⟩, .int .i64 0]) (by kernel_rfl) rfl (by decide) (by decide)
theorem Err : ElemT Tryz.prog 63 44 1 24 := elemT_of (by kernel_rfl) (z := .slice none 0 0) (by kernel_rfl) rfl (by decide) (by decide)

def rowVal (m : Nat) (p : Nat × Nat) : Value := .slice (some ⟨p.1, 0, none⟩) m p.2

structure RNew (w wr : World) (m r : Nat) (vo : Value) (rs : List (Nat × Nat)) : Prop where
  len : rs.length = r
  own : wr.ownsRow w.heap.size 44 1 vo r (rs.map (rowVal m))
  below : Below w.heap.size w wr
  rows : ∀ p ∈ rs, RRow wr p.1 (List.replicate m blankC) ∧ w.heap.size ≤ p.1 ∧ p.1 < wr.heap.size ∧ vo.ownBlock ≠ some p.1
  nodup : (rs.map (·.1)).Nodup

theorem RNew.snoc {w wr wi w1 : World} {m r g cap lb lc : Nat} {vo : Value} {rs : List (Nat × Nat)} (h : RNew w wr m r vo rs) (hb : Below wr.heap.size wr wi) 
    (hrow : wi.ownsRow wr.heap.size 49 2 (.slice (some ⟨lb, 0, none⟩) m lc) m ((List.replicate m blankC).flatMap genc))
    (ho : w1.ownsRow w.heap.size 44 1 (.slice (some ⟨g, 0, none⟩) (r + 1) cap) (r + 1) (rs.map (rowVal m) ++ [.slice (some ⟨lb, 0, none⟩) m lc]))
    (hg : wi.grownBy w1 vo.ownBlock) (hf : vo.ownBlock = some g ∨ wi.heap.size ≤ g) : RNew w w1 m (r + 1) (.slice (some ⟨g, 0, none⟩) (r + 1) cap) (rs ++ [(lb, lc)]) := by
  have hsz := h.below.size
  have hlt := hrow.lt lb rfl
  have hbs := hb.size
  have hB1 : Below w.heap.size w wi := h.below.trans (hb.mono hsz)
  have hv : ∀ b, vo.ownBlock = some b → w.heap.size ≤ b ∧ b < wr.heap.size := fun b hb => h.own.lt b hb
  have hgs := hg.size
  refine ⟨by simp [h.len], by simpa [rowVal] using ho, hB1.grown hg (by omega) (fun k hk => (hv k hk).1), ?_, ?_⟩
  · intro p hp
    rcases List.mem_append.1 hp with hp | hp
    · obtain ⟨h1, h2, h3, h4⟩ := h.rows p hp
      refine ⟨(h1.same (hb.block _ h3)).same (hg.block _ (by omega) (fun e => h4 e.symm)), h2, by omega, ?_⟩
      show (some g : Option Nat) ≠ some p.1
      rcases hf with hf | hf
      · rw [← hf]; exact h4
      · intro e; injection e with e; omega
    · simp only [List.mem_singleton] at hp
      subst hp
      dsimp only
      have hne : vo.ownBlock ≠ some lb := by intro e; have := hv lb e; omega
      refine ⟨RRow.same (w := wi) ⟨fun j u hu => ?_, fun j => hrow.frozenAt j⟩ (hg.block _ hlt.2 (fun e => hne e.symm)), by omega, by omega, ?_⟩
      · have hj := (List.getElem?_eq_some_iff.1 hu).1
        rw [flat_len genc_len, List.length_replicate] at hj
        exact (hrow.cellAt j hj).trans hu
      · show (some g : Option Nat) ≠ some lb
        rcases hf with hf | hf
        · rw [← hf]; exact hne
        · intro e; injection e with e; omega
  · rw [List.map_append, List.nodup_append]
    refine ⟨h.nodup, by simp, ?_⟩
    intro a ha b hb' hab
    simp only [List.map_cons, List.map_nil, List.mem_singleton] at hb'
    subst hb'
    obtain ⟨p, hp, rfl⟩ := List.mem_map.1 ha
    have := (h.rows p hp).2.2.1
    omega

theorem RNew.fin {w wr : World} {m r g cap : Nat} {rs : List (Nat × Nat)} (h : RNew w wr m r (.slice (some ⟨g, 0, none⟩) r cap) rs) (hm : 0 < m) (hm2 : m ≤ 1000) (hr : 0 < r) (hr2 : r ≤ 500) :
    RefAt wr w.heap.size g (fun i => (rs.getD i (0, 0)).1) (fun i => (rs.getD i (0, 0)).2) m (List.replicate r (List.replicate m blankC)) := by
  have hg := h.own.lt g rfl
  have hlen := h.len
  have hget : ∀ i, i < r → ∃ p, rs[i]? = some p ∧ rs.getD i (0, 0) = p := by
    intro i hi
    refine ⟨rs[i]'(by omega), List.getElem?_eq_getElem _, ?_⟩
    rw [List.getD_eq_getElem?_getD, List.getElem?_eq_getElem (by omega)]; rfl
  refine ⟨?_, ?_, ?_, ?_, ?_, ?_, ?_, hg.1, hm, by omega, by rw [List.length_replicate]; omega⟩
  · intro i hi
    rw [List.length_replicate] at hi
    obtain ⟨p, hp, hpe⟩ := hget i hi
    have hc := h.own.cells (g := g) rfl i (rowVal m p) (by rw [List.getElem?_map, hp]; rfl)
    rw [addr_add] at hc
    rw [hpe]
    exact hc
  · intro i l hl
    rw [List.getElem?_replicate] at hl
    split at hl
    · rename_i hi
      obtain rfl := Option.some.inj hl
      obtain ⟨p, hp, hpe⟩ := hget i hi
      rw [hpe]
      exact (h.rows p (List.mem_of_getElem? hp)).1
    · cases hl
  · intro l hl; rw [(List.mem_replicate.1 hl).2]; simp
  · intro l hl; rw [(List.mem_replicate.1 hl).2]; exact wf_blank m
  · intro i hi e
    rw [List.length_replicate] at hi
    obtain ⟨p, hp, hpe⟩ := hget i hi
    rw [hpe] at e
    exact (h.rows p (List.mem_of_getElem? hp)).2.2.2 (by rw [e]; rfl)
  · intro i j hi hj e
    rw [List.length_replicate] at hi hj
    obtain ⟨p, hp, hpe⟩ := hget i hi
    obtain ⟨q, hq, hqe⟩ := hget j hj
    rw [hpe, hqe] at e
    refine (List.getElem?_inj (l := rs.map (·.1)) (by simpa [hlen] using hi) h.nodup).1 ?_
    rw [List.getElem?_map, List.getElem?_map, hp, hq]
    simpa using e
  · intro i hi
    rw [List.length_replicate] at hi
    obtain ⟨p, hp, hpe⟩ := hget i hi
    rw [hpe]
    exact (h.rows p (List.mem_of_getElem? hp)).2.1

set_option maxRecDepth 100000 in
set_option maxHeartbeats 400000 in
theorem refNew_none (n m : Int) (w : World) (h : n < 1 ∨ 500 < n ∨ m < 2 ∨ 1000 < m) :
    Calls Tryz.prog 72 #[.int .i64 n, .int .i64 m] w fun e w' => e = .returned (.slice none 0 0) ∧ w = w' := by
  have h' : n < 1 ∨ (1 ≤ n ∧ 500 < n) ∨ (1 ≤ n ∧ n ≤ 500 ∧ m < 2) ∨ (1 ≤ n ∧ n ≤ 500 ∧ 2 ≤ m ∧ 1000 < m) := by omega
  clear h
  rcases h' with h1 | ⟨h1, h2⟩ | ⟨h1, h2, h3⟩ | ⟨h1, h2, h3, h4⟩
  all_goals
    go_enter Tryz.func72, Tryz.ntmps72
    go_wp2
    go_ret
    exact ⟨rfl, rfl⟩

theorem one_cell (t : ByteArray) (d : Int) : ∀ u ∈ [Value.string t, Value.int .i64 d], u.oneCell' = true := by intro u hu; simp at hu; rcases hu with rfl | rfl <;> rfl
theorem one_row (m : Nat) (p : Nat × Nat) : ∀ u ∈ [rowVal m p], u.oneCell' = true := by intro u hu; simp at hu; subst hu; rfl
theorem blanks_snoc (k : Nat) : (List.replicate k blankC).flatMap genc ++ [.string ⟨#[32]⟩, .int .i64 1] = (List.replicate (k + 1) blankC).flatMap genc := by
  rw [List.replicate_succ', List.flatMap_append]; rfl

set_option maxRecDepth 100000 in
set_option maxHeartbeats 1000000 in
theorem refNew_some (n m : Nat) (w : World) (h1 : 1 ≤ n) (h2 : n ≤ 500) (h3 : 2 ≤ m) (h4 : m ≤ 1000) :
    Calls Tryz.prog 72 #[.int .i64 n, .int .i64 m] w fun e w' => ∃ ob cap rb rc, e = .returned (.slice (some ⟨ob, 0, none⟩) n cap) ∧ Below w.heap.size w w' ∧ RefAt w' w.heap.size ob rb rc m (List.replicate n (List.replicate m blankC)) := by
  have q1 : decide ((n : Int) < 1) = false := decide_eq_false (by omega)
  have q2 : decide ((500 : Int) < n) = false := decide_eq_false (by omega)
  have q3 : decide ((m : Int) < 2) = false := decide_eq_false (by omega)
  have q4 : decide ((1000 : Int) < m) = false := decide_eq_false (by omega)
  go_enter Tryz.func72, Tryz.ntmps72
  go_wp2
  go_loopw [5, 6] (fun vo i wr => ∃ r rs, r ≤ n ∧ i = .int .i64 ((r : Nat) : Int) ∧ RNew w wr m r vo rs) (fun _ i _ => n - (intOf i).toNat)
  case atStart => exact ⟨0, [], Nat.zero_le _, rfl, rfl, World.ownsRow_nil _ _ _ _, Below.refl _ _, by simp, by simp⟩
  case round =>
    obtain ⟨r, rs, hr, rfl, hN⟩ := hrel
    have hsz := hN.below.size
    obtain ⟨sa, sc, rfl⟩ := slice_of_owns hN.own
    by_cases hlt : r < n
    · obtain ⟨wo, rfl⟩ : ∃ wo : World, wo = wr := ⟨_, rfl⟩
      have HN := Lib.hid hN
      clear hN
      go_wp2
      go_loopw [7, 8] (fun vl j wi => ∃ k : Nat, k ≤ m ∧ j = .int .i64 ((k : Nat) : Int) ∧ Below wo.heap.size wo wi ∧ wi.ownsRow wo.heap.size 49 2 vl k ((List.replicate k blankC).flatMap genc)) (fun _ j _ => m - (intOf j).toNat)
      case atStart => exact ⟨0, Nat.zero_le _, rfl, Below.refl _ _, World.ownsRow_nil _ _ _ _⟩
      case round =>
        obtain ⟨k, hk, rfl, hB, ho⟩ := hrel
        have hBs := hB.size
        obtain ⟨ta, tc, rfl⟩ := slice_of_owns ho
        by_cases hlt2 : k < m
        · go_wp2_with fail
          refine (rblank_any _).mono ?_
          rintro e w' ⟨rfl, rfl⟩
          have ho' := ho.alloc (.cells #[.string ⟨#[32]⟩, .int .i64 1] 49)
          have hB' : Below wo.heap.size wo _ := hB.alloc hBs (.cells #[.string ⟨#[32]⟩, .int .i64 1] 49)
          have HS := Lib.hid (blanks_snoc k)
          generalize wr.alloc (.cells #[.string ⟨#[32]⟩, .int .i64 1] 49) = wx at ho' hB' ⊢
          have hBx := hB'.size
          clear ho hB hBs
          go_wp2_with (at_builtin; refine wpList_app1 _ rfl (.tmp 33) _ _ rfl Erc _ _ _ rfl ho' _ _ [.string ⟨#[32]⟩, .int .i64 1] rfl (by decide) rfl (one_cell _ _) (by omega) hBx ?_; intro g1 cap1 w1 ho1 hg1 hf1; have hB1 := below_app hB' hBx ho' (Nat.le_refl _) hg1)
          rw [HS.out] at ho1
          exact ⟨⟨k + 1, by omega, by go_num, hB1, ho1⟩, by simp [intOf]; omega⟩
        · have hkm : k = m := by omega
          subst hkm
          obtain ⟨lb, lc, hv, hlb, hlb2⟩ := ownBlock_of_owns ho (by omega)
          simp only [Value.slice.injEq, true_and] at hv
          obtain ⟨rfl, rfl⟩ := hv
          have HO := Lib.hid ho
          have hown := owns_stays HN.out.own hB
          clear ho
          go_wp2_with (at_builtin; refine wpList_app1 _ rfl (.tmp 37) _ _ rfl Err _ _ _ rfl hown _ _ [.slice (some ⟨lb, 0, none⟩) k tc] rfl (by decide) rfl (one_row k (lb, tc)) (by omega) (by omega) ?_; intro g1 cap1 w1 ho1 hg1 hf1; have hN1 := HN.out.snoc hB HO.out ho1 hg1 hf1)
          exact ⟨⟨r + 1, _, by omega, by go_num, hN1⟩, by simp [intOf]; omega⟩
    · have hrn : r = n := by omega
      subst hrn
      obtain ⟨g, gc, hv, hgb, hgl⟩ := ownBlock_of_owns hN.own (by omega)
      simp only [Value.slice.injEq, true_and] at hv
      obtain ⟨rfl, rfl⟩ := hv
      have HN := Lib.hid hN
      clear hN
      go_wp2
      go_ret
      exact ⟨g, sc, _, _, rfl, HN.out.below, HN.out.fin (by omega) h4 (by omega) h2⟩
end Go.Proofs.YtkeainhjghdfcaaGreat

/- Deeds in both grids: the contracts in one form each. -/
namespace Go.Proofs.YtkeainhjghdfcaaGreat
open Go.RowKit

instance (n m : Nat) (r c d : Int) : Decidable (roomy n m r c d) := by unfold roomy; infer_instance

def rowAt (G : List (List Gl)) (r : Nat) : List Gl := G.getD r []
theorem get_rowAt {G : List (List Gl)} {r : Nat} (h : r < G.length) : G[r]? = some (rowAt G r) := by unfold rowAt; rw [List.getD_eq_getElem?_getD, List.getElem?_eq_getElem h]; rfl

def putG (G : List (List Gl)) (m : Nat) (r c : Int) (x : Gl) : List (List Gl) := if roomy G.length m r c x.2 then G.set r.toNat (putRow (rowAt G r.toNat) c.toNat x) else G
def eraseG (G : List (List Gl)) (m : Nat) (r c : Int) : List (List Gl) := if 0 ≤ r ∧ r < G.length ∧ 0 ≤ c ∧ c < m then G.set r.toNat (eraseRow (rowAt G r.toNat) c.toNat (m - c.toNat)) else G
def clearG (G : List (List Gl)) (m : Nat) : List (List Gl) := List.replicate G.length (List.replicate m blankC)
theorem putG_len (G : List (List Gl)) (m : Nat) (r c : Int) (x : Gl) : (putG G m r c x).length = G.length := by unfold putG; split <;> simp
theorem eraseG_len (G : List (List Gl)) (m : Nat) (r c : Int) : (eraseG G m r c).length = G.length := by unfold eraseG; split <;> simp
theorem clearG_len (G : List (List Gl)) (m : Nat) : (clearG G m).length = G.length := by unfold clearG; simp

theorem Kept.of_grown1 {P : Nat → Prop} {w w' : World} {b : Nat} (h : w.grownBy w' (some b)) (hb : P b) : Kept P w w' :=
  .of_grown h fun c e => by injection e with e; exact e ▸ hb

theorem GridG.llt {w : World} {gb lb m cap : Nat} {G : List (List Gl)} (h : GridG w gb lb m cap G) (hn : 0 < G.length) (hm : 0 < m) : lb < w.heap.size :=
  h.grid.llt (h.index (get_rowAt hn) hm).1
theorem GridG.kept {w w' : World} {gb lb m cap : Nat} {G : List (List Gl)} (h : GridG w gb lb m cap G) (hn : 0 < G.length) (hm : 0 < m) {P : Nat → Prop} (hk : Kept P w w') (h1 : ¬ P gb) (h2 : ¬ P lb) : GridG w' gb lb m cap G :=
  h.grown (hk.block _ h.grid.glt h1) (hk.block _ (h.llt hn hm) h2)
theorem RefAt.kept {w w' : World} {B ob m : Nat} {rb rc : Nat → Nat} {G : List (List Gl)} (h : RefAt w B ob rb rc m G) (hn : 0 < G.length) {P : Nat → Prop} (hk : Kept P w w') (h1 : ¬ P ob) (h2 : ∀ i, i < G.length → ¬ P (rb i)) : RefAt w' B ob rb rc m G := by
  have hob : ob < w.heap.size := World.block_lt_of_cell? w _ (h.outer 0 hn)
  exact h.same (hk.block _ hob h1) fun i hi => hk.block _ (h.row (get_rowAt hi)).2.2.2.2.2.2.1 (h2 i hi)
theorem grownBy_of_below {w w' : World} {r : Option Nat} (h : Below w.heap.size w w') : w.grownBy w' r := ⟨h.os, h.tape, h.output, h.size, fun j hj _ => h.block j hj⟩

/-- blocks of rows -/
def Rows (n : Nat) (rb : Nat → Nat) (j : Nat) : Prop := ∃ i, i < n ∧ j = rb i
theorem RefAt.not_rows {w : World} {B ob m : Nat} {rb rc : Nat → Nat} {G : List (List Gl)} (h : RefAt w B ob rb rc m G) : ¬ Rows G.length rb ob := by
  rintro ⟨i, hi, e⟩; exact h.ne i hi e.symm

theorem GridG.m_small {w : World} {gb lb m cap : Nat} {G : List (List Gl)} (h : GridG w gb lb m cap G) (hn : 0 < G.length) : m ≤ 1073741824 :=
  Nat.le_trans (Nat.le_mul_of_pos_left _ hn) h.small

theorem gdput_any (gb lb m cap : Nat) (G : List (List Gl)) (r c : Int) (x : Gl) (w : World) (hG : GridG w gb lb m cap G) (hn : 0 < G.length) (hm : 0 < m) :
    Calls Tryz.prog 63 #[.pointer (some ⟨gb, 0, none⟩), .int .i64 r, .int .i64 c, .agg #[.string x.1, .int .i64 x.2]] w fun e w' => e = .returned (.bool (decide (roomy G.length m r c x.2))) ∧ w.grownBy w' (some lb) ∧ GridG w' gb lb m cap (putG G m r c x) := by
  by_cases h : roomy G.length m r c x.2
  · have h0 := h
    unfold roomy at h
    obtain ⟨h1, h2, h3, h4, h5⟩ := h
    have er : ((r.toNat : Nat) : Int) = r := by omega
    have ec : ((c.toNat : Nat) : Int) = c := by omega
    have hget := get_rowAt (G := G) (r := r.toNat) (by omega)
    have hp : putG G m r c x = G.set r.toNat (putRow (rowAt G r.toNat) c.toNat x) := by unfold putG; rw [if_pos h0]
    rw [hp, decide_eq_true h0]
    rcases h5 with h5 | ⟨h5, h6⟩
    · have := put_one gb lb m cap r.toNat c.toNat G _ x w hG hget (by omega) h5
      rw [er, ec] at this
      exact this
    · have := put_two gb lb m cap r.toNat c.toNat G _ x w hG hget (by omega) h5
      rw [er, ec] at this
      exact this
  · have hp : putG G m r c x = G := by unfold putG; rw [if_neg h]
    rw [hp, decide_eq_false h]
    refine (put_no gb G.length m r c x.2 x.1 w hG.grid.c0 hG.grid.c1 (hG.m_small hn) h).mono ?_
    rintro e w' ⟨rfl, hB⟩
    exact ⟨rfl, grownBy_of_below hB, hG.kept hn hm (P := fun _ => False) (.of_below hB) id id⟩

theorem refPut_any (B ob m cap : Nat) (rb rc : Nat → Nat) (G : List (List Gl)) (r c : Int) (x : Gl) (w : World) (hG : RefAt w B ob rb rc m G) (hn : 0 < G.length) :
    Calls Tryz.prog 73 #[.slice (some ⟨ob, 0, none⟩) G.length cap, .int .i64 r, .int .i64 c, .agg #[.string x.1, .int .i64 x.2]] w fun e w' => e = .returned (.bool (decide (roomy G.length m r c x.2))) ∧ Kept (Rows G.length rb) w w' ∧ RefAt w' B ob rb rc m (putG G m r c x) := by
  by_cases h : roomy G.length m r c x.2
  · have h0 := h
    unfold roomy at h
    obtain ⟨h1, h2, h3, h4, h5⟩ := h
    have er : ((r.toNat : Nat) : Int) = r := by omega
    have ec : ((c.toNat : Nat) : Int) = c := by omega
    have hget := get_rowAt (G := G) (r := r.toNat) (by omega)
    have hp : putG G m r c x = G.set r.toNat (putRow (rowAt G r.toNat) c.toNat x) := by unfold putG; rw [if_pos h0]
    rw [hp, decide_eq_true h0]
    rcases h5 with h5 | ⟨h5, h6⟩
    · have := refPut_one B ob m cap rb rc G r.toNat c.toNat _ x w hG hget (by omega) h5
      rw [er, ec] at this
      refine this.mono ?_
      rintro e w' ⟨rfl, hg, hR⟩
      exact ⟨rfl, .of_grown1 hg ⟨r.toNat, by omega, rfl⟩, hR⟩
    · have := refPut_two B ob m cap rb rc G r.toNat c.toNat _ x w hG hget (by omega) h5
      rw [er, ec] at this
      refine this.mono ?_
      rintro e w' ⟨rfl, hg, hR⟩
      exact ⟨rfl, .of_grown1 hg ⟨r.toNat, by omega, rfl⟩, hR⟩
  · have hp : putG G m r c x = G := by unfold putG; rw [if_neg h]
    rw [hp, decide_eq_false h]
    have hob : ob < w.heap.size := World.block_lt_of_cell? w _ (hG.outer 0 hn)
    refine (refPut_no B ob m cap rb rc G r c x.2 x.1 w hob hG h).mono ?_
    rintro e w' ⟨rfl, hB⟩
    exact ⟨rfl, .of_below hB, hG.kept hn (P := fun _ => False) (.of_below hB) id fun _ _ => id⟩

end Go.Proofs.YtkeainhjghdfcaaGreat

/- The document's Row (chapter 48): its walk. (Printed by gen_pdrow.py.) -/
namespace Go.Proofs.YtkeainhjghdfcaaGreat
open Go.RowKit

theorem rput1_any {w : World} {B ob m cap c : Nat} {rb rc : Nat → Nat} {l : List Gl} {x : Gl} (hG : RefAt w B ob rb rc m [l]) (hx : x.2 = 1 ∨ x.2 = 2) (hc : (c : Int) + x.2 ≤ (m : Int)) :
    Calls Tryz.prog 73 #[.slice (some ⟨ob, 0, none⟩) 1 cap, .int .i64 0, .int .i64 (c : Int), .agg #[.string x.1, .int .i64 x.2]] w fun e w' => e = .returned (.bool true) ∧ Kept (Rows 1 rb) w w' ∧ RefAt w' B ob rb rc m [putRow l c x] := by
  have hr : roomy [l].length m 0 (c : Int) x.2 := ⟨Int.le_refl _, by simp, by omega, by omega, by omega⟩
  refine (refPut_any B ob m cap rb rc [l] 0 c x w hG (by simp)).mono ?_
  rintro e w' ⟨rfl, h1, h2⟩
  rw [decide_eq_true hr]
  refine ⟨rfl, h1, ?_⟩
  have : putG [l] m 0 (c : Int) x = [putRow l c x] := by unfold putG; rw [if_pos hr]; rfl
  rw [this] at h2
  exact h2
theorem kept_low {n : Nat} {rb : Nat → Nat} {w w5 wr : World} (hB : Below w5.heap.size w5 wr) (hk : Kept (Rows n rb) wr w) (hb : ∀ i, i < n → w5.heap.size ≤ rb i) : Below w5.heap.size w5 w :=
  hB.trans (hk.below hB.size (by rintro j ⟨i, hi, rfl⟩; exact hb i hi))
section
variable {R : List Rw} {s : List Int} {w : World} {sv rv : Value}
set_option maxRecDepth 100000 in
set_option maxHeartbeats 16000000 in
theorem pdrow_yes (H : (tabOf R).Ok) (hR : RowsIn w rv R) (hs : RunesIn w sv s) (ok : RunesOk s) (hl : s.length ≤ 100) (cursor : Int) {cols : Nat} (hc : 4 ≤ cols) (hc2 : cols ≤ 1000) :
    Calls Tryz.prog 20 #[rv, sv, .int .i64 cursor, .int .i64 (cols : Int)] w fun e w' => ∃ B ob rb rc, e = .returned (.tuple #[.slice (some ⟨rb 0, 0, none⟩) cols (rc 0), .int .i64 (choF (wdL (lineG R (clus (tabOf R) s))) (aheadG R (clus (tabOf R) s) (ahd (starts (tabOf R) s) cursor)) (cols : Int)).col, .bool true]) ∧ Below w.heap.size w w' ∧ RefAt w' B ob rb rc cols [rowG (lineG R (clus (tabOf R) s)) (choF (wdL (lineG R (clus (tabOf R) s))) (aheadG R (clus (tabOf R) s) (ahd (starts (tabOf R) s) cursor)) (cols : Int)) cols] := by
  have HR := Lib.hid hR
  have HS := Lib.hid hs
  obtain ⟨sl, scap, rfl, _, _, _⟩ := runes_cells hs
  have HLn := Lib.hid (rline_any H hR hs ok (by omega))
  have hgl := lineG_take_le R s (clus (tabOf R) s).length
  rw [List.take_length] at hgl
  have hgw : W12 (wdL (lineG R (clus (tabOf R) s))) := by
    intro x hx
    obtain ⟨g, hg, rfl⟩ := List.mem_map.1 hx
    exact (lineG_ok R g hg).1
  have hal : aheadG R (clus (tabOf R) s) (ahd (starts (tabOf R) s) cursor) ≤ (lineG R (clus (tabOf R) s)).length := by
    have e1 : (lineG R ((clus (tabOf R) s).take (ahd (starts (tabOf R) s) cursor) ++ (clus (tabOf R) s).drop (ahd (starts (tabOf R) s) cursor))).length = (lineG R (clus (tabOf R) s)).length := by rw [List.take_append_drop]
    unfold lineG at e1
    rw [List.flatMap_append, List.length_append] at e1
    unfold aheadG lineG
    omega
  have HSt := Lib.hid (fun (W : World) (h1 : RowsIn W rv R) (h2 : RunesIn W (.slice sl s.length scap) s) => rstarts_any h1 h2 ok (by omega))
  have HSo := Lib.hid (starts_sorted (tabOf R) s)
  have hsl : (starts (tabOf R) s).length ≤ 100 := by rw [starts_clus H]; have : (clus (tabOf R) s).length ≤ s.length := clusN_len (tabOf R) s.length s; omega
  have HAg := Lib.hid (fun (j : Nat) (hj : j < (starts (tabOf R) s).length) => atsL_get (R := R) (LL := clus (tabOf R) s) (n := (clus (tabOf R) s).length + 1) (k := j) (by rw [← starts_clus H]; omega))
  have HK0 := Lib.hid (kAt_zero (R := R) (s := s) (c := cursor))
  have HK1 := Lib.hid (kAt_all H (s := s) (c := cursor))
  have HKh := Lib.hid (fun n => kAt_hit (R := R) (s := s) (c := cursor) (n := n))
  have HKm := Lib.hid (fun n => kAt_miss (R := R) (s := s) (c := cursor) (n := n))
  have HAl := Lib.hid (fun (j x : Nat) (hx : (starts (tabOf R) s)[j]? = some x) => ahd_lt (a := cursor) (starts_sorted (tabOf R) s) hx)
  rw [← kAt_zero] at hal ⊢
  generalize kAt R s cursor = K at HK0 HK1 HKh HKm hal ⊢
  generalize ahd (starts (tabOf R) s) cursor = ci at HK0 HKh HKm HAl
  generalize aheadG R (clus (tabOf R) s) = ag at HK0 HKh HAg
  generalize (lineG R (clus (tabOf R) s)) = G at HLn hgl hgw hal HK1 ⊢
  generalize atsL R (clus (tabOf R) s) ((clus (tabOf R) s).length + 1) = A at HLn HAg
  generalize starts (tabOf R) s = S at HSt HSo hsl HAg HK1 HAl
  have hsee := cho_sees hgw (at' := K 0) (cols := (cols : Int)) (by rw [wdL_len]; exact hal) (by omega)
  have HChoose := Lib.hid (fun (W : World) (v : Value) (h : GlyIn W v G) => dchoose_yes h hgw (by omega) hal (cols := (cols : Int)) (by omega) (by omega))
  generalize hsh : choF (wdL G) (K 0) (cols : Int) = sh at hsee HChoose ⊢
  have HW := Lib.hid hgw
  clear hs hR hsh hgw
  go_enter Tryz.func20, Tryz.ntmps20
  go_wp2_with fail
  refine HLn.out.mono ?_
  rintro e w1 ⟨gu, ga, rfl, hB1, hG1, hA1⟩
  have HB1 := Lib.hid hB1
  have HR1 := Lib.hid (HR.out.below hB1)
  have HS1 := Lib.hid (HS.out.below hB1)
  have HG1 := Lib.hid hG1
  have HA1 := Lib.hid hA1
  obtain ⟨ga', gc, rfl, hg1, hg2⟩ := gly_shape hG1
  unfold maxLen at hg2
  clear hB1 hG1 hA1 HLn HR HS
  go_wp2_with fail
  refine (HSt.out _ HR1.out HS1.out).mono ?_
  rintro e w2 ⟨su, rfl, hB2, hS2⟩
  have HB2 := Lib.hid (below_trans' HB1.out hB2)
  have HG2 := Lib.hid (HG1.out.below hB2)
  have HA2 := Lib.hid (HA1.out.below hB2)
  have HS2 := Lib.hid hS2
  obtain ⟨sua, suc, rfl, _⟩ := hS2
  obtain ⟨aua, auc, hau, _⟩ := HA2.out
  subst hau
  have e0 := IntWalk.i64_in ((S.length : Int) - 1) (by omega)
  clear hB2 HR1 HS1 HG1 HA1 HB1 HSt
  go_wp2_with fail
  go_loopw [13, 15] (fun kv iv wr => ∃ n : Nat, n ≤ S.length ∧ iv = .int .i64 ((n : Int) - 1) ∧ kv = .int .i64 ((K n : Nat) : Int) ∧ wr = w2) (fun _ iv _ => (intOf iv + 1).toNat)
  case atStart => exact ⟨S.length, Nat.le_refl _, rfl, by rw [HK1.out], rfl⟩
  case round =>
    obtain ⟨n, hn, rfl, rfl, rfl⟩ := hrel
    rcases n with _ | n
    · have q0 : decide (((0 : Nat) : Int) - 1 ≥ 0) = false := by decide
      clear e0
      go_wp2_with fail
      refine (HChoose.out _ _ HG2.out).mono ?_
      rintro e w4 ⟨rfl, hB4⟩
      obtain ⟨fr, tt, ah, be, col⟩ := sh
      dsimp only at hsee
      obtain ⟨h1, h2, h3, ha1, hb1, hb2, h4, hc3, h5⟩ := hsee
      have HRm := Lib.hid h5
      clear ha1 hb1 hb2 h4 hc3 h5
      rw [wdL_len] at h3
      unfold shV
      have hb5 := below1 w4 (.cells #[.int .i64 (fr : Int), .int .i64 (tt : Int), .bool ah, .bool be, .int .i64 col] 30)
      have HB5 := Lib.hid (below_new (below_trans' HB2.out hB4) (.cells #[.int .i64 (fr : Int), .int .i64 (tt : Int), .bool ah, .bool be, .int .i64 col] 30))
      have hn5 := heap_alloc_new w4 (.cells #[.int .i64 (fr : Int), .int .i64 (tt : Int), .bool ah, .bool be, .int .i64 col] 30)
      have HG5 := Lib.hid ((HG2.out.below hB4).below hb5)
      have hz5 : (w4.alloc (.cells #[.int .i64 (fr : Int), .int .i64 (tt : Int), .bool ah, .bool be, .int .i64 col] 30)).heap.size = w4.heap.size + 1 := by simp
      have h1000 : decide ((cols : Int) > 1000) = false := decide_eq_false (by omega)
      clear hB4 HB2 HG2 HA2 HS2 hb5 HChoose HAg HK0 HK1 HKh HKm HAl hn q0
      go_upto_region 12 with fail
      clear h1000
      generalize w4.alloc (.cells #[.int .i64 (fr : Int), .int .i64 (tt : Int), .bool ah, .bool be, .int .i64 col] 30) = w5 at HB5 hn5 HG5 hz5 ⊢
      generalize w4.heap.size = p at hn5 hz5 ⊢
      go_wp2_with fail
      refine (refNew_some 1 cols w5 (by omega) (by omega) (by omega) hc2).mono ?_
      rintro e w6 ⟨ob, ocap, rb, rc, rfl, hB6, hGG⟩
      have hGG : RefAt w6 w5.heap.size ob rb rc cols [List.replicate cols blankC] := hGG
      have hp5 : p < w5.heap.size := row_len hn5
      obtain ⟨X, hX⟩ : ∃ X, X = (G.take tt).drop fr := ⟨_, rfl⟩
      have hXw : W12 (wdL X) := by rw [hX]; exact w12_mid HW.out fr tt
      have hXl : tt - fr = X.length := by rw [hX, List.length_drop, List.length_take]; omega
      have hXs : sW (wdL X) 0 X.length = sW (wdL G) fr tt := by rw [← wdL_len, sW_all, hX, wdL_mid]
      have hXg : ∀ k x, X[k]? = some x → G[fr + k]? = some x := by
        intro k x hx
        rw [hX, List.getElem?_drop, List.getElem?_take] at hx
        split at hx
        · exact hx
        · cases hx
      have hrm := HRm.out
      rw [← hXs] at hrm
      have HXx := Lib.hid hX
      have HXw := Lib.hid hXw
      have HXg := Lib.hid hXg
      have HN5 := Lib.hid hn5
      have HB56 := Lib.hid hB6
      have HGG := Lib.hid hGG
      have hrb : ∀ i, i < 1 → w5.heap.size ≤ rb i := fun i hi => hGG.base i hi
      have HRb := Lib.hid hrb
      clear hB6 hn5 hX hXw hGG hXs HRm hXg hrb
      cases ah
      · have HBW := HB56
        have HGr := HGG
        have y0 := cell_later HBW.out (row_cells (i := 0) HN5.out rfl)
        have y1 := cell_later HBW.out (row_cells (i := 1) HN5.out rfl)
        have y2 := cell_later HBW.out (row_cells (i := 2) HN5.out rfl)
        have y3 := cell_later HBW.out (row_cells (i := 3) HN5.out rfl)
        have y4 := cell_later HBW.out (row_cells (i := 4) HN5.out rfl)
        go_upto_region 17 with fail
        obtain ⟨r0, hr0⟩ : ∃ r0, r0 = List.replicate cols blankC := ⟨_, rfl⟩
        rw [← hr0] at HGr
        have hr0l : r0.length = cols := by rw [hr0]; simp
        have HR0 := Lib.hid hr0
        have HR0l := Lib.hid hr0l
        clear hr0 hr0l
        have hcl := fun k hk => rowK_col HXw.out r0 0 k hk
        have HCl := Lib.hid hcl
        have hsm := fun k => sW_rng HXw.out 0 k
        clear hcl
        go_wp2_with fail
        go_loopw [19, 20] (fun cv iv wr => ∃ k : Nat, k ≤ X.length ∧ iv = .int .i64 ((fr : Int) + (k : Int)) ∧ cv = .int .i64 (((rowK X r0 0 k).2 : Nat) : Int) ∧ Below w5.heap.size w5 wr ∧ RefAt wr w5.heap.size ob rb rc cols [(rowK X r0 0 k).1]) (fun _ iv _ => tt - (intOf iv).toNat)
        case atStart => exact ⟨0, Nat.zero_le _, by rw [show (fr : Int) + ((0 : Nat) : Int) = (fr : Int) by omega], rfl, HBW.out, HGr.out⟩
        case round =>
          obtain ⟨k, hk, rfl, rfl, hB, hG⟩ := hrel
          have HB := Lib.hid hB
          have HGk := Lib.hid hG
          have hck := HCl.out k hk
          have y0 := cell_later hB (row_cells (i := 0) HN5.out rfl)
          have y1 := cell_later hB (row_cells (i := 1) HN5.out rfl)
          have y2 := cell_later hB (row_cells (i := 2) HN5.out rfl)
          have y3 := cell_later hB (row_cells (i := 3) HN5.out rfl)
          have y4 := cell_later hB (row_cells (i := 4) HN5.out rfl)
          by_cases hlt : k < X.length
          · obtain ⟨x, hx⟩ : ∃ x, X[k]? = some x := ⟨X[k], List.getElem?_eq_getElem hlt⟩
            obtain ⟨b, off, cap', hv, _, _, hbw, z0, z1⟩ := gly_cells HG5.out (HXg.out k x hx)
            cases hv
            obtain ⟨k2, hk2⟩ : ∃ k2, k2 = fr + k := ⟨_, rfl⟩
            rw [← hk2] at z0 z1
            have zz1 := z1
            have z0 := cell_later hB z0
            have z1 := cell_later hB z1
            have hx2 : X.getD k (⟨#[]⟩, 0) = x := by rw [List.getD_eq_getElem?_getD, hx]; rfl
            have hrow : rowK X r0 0 (k + 1) = (putRow (rowK X r0 0 k).1 (rowK X r0 0 k).2 x, (rowK X r0 0 k).2 + x.2.toNat) := by
              show (putRow _ _ (X.getD k (⟨#[]⟩, 0)), _ + (X.getD k (⟨#[]⟩, 0)).2.toNat) = _
              rw [hx2]
            have hxw : x.2 = 1 ∨ x.2 = 2 := HXw.out x.2 (List.mem_map.2 ⟨x, List.mem_of_getElem? hx, rfl⟩)
            have hsn := sW_snoc (ws := wdL X) (Nat.zero_le k) (by rw [wdL_len]; exact hlt)
            rw [wdA_get (wdL_get hx)] at hsn
            have hsp := sW_split HXw.out (a := 0) (b := k + 1) (c := X.length) (Nat.zero_le _) (by omega) (by rw [wdL_len]; exact Nat.le_refl _)
            have hsr := sW_rng HXw.out (k + 1) X.length
            have hle : (((rowK X r0 0 k).2 : Nat) : Int) + x.2 ≤ (cols : Int) := by rw [hck]; cases be <;> simp at hrm <;> omega
            have HRow := Lib.hid hrow
            generalize rowK X r0 0 k = rk at HGk HRow hle ⊢
            obtain ⟨rk1, rk2⟩ := rk
            dsimp only at HGk HRow hle ⊢
            obtain ⟨x1, x2⟩ := x
            dsimp only at z0 z1 zz1 hxw hle HRow
            have hwr := hB.size
            have HZ1 := Lib.hid (fun (W : World) (hb : Below w5.heap.size w5 W) => (show W.cell? ⟨b, off + k2 * 2 + 1, none⟩ = some (.int .i64 x2) from cell_later hb zz1))
            have hj : (k2 : Int) = (fr : Int) + (k : Int) := by omega
            have hk1 : k + 1 ≤ X.length := hlt
            rw [← hj]
            have HJ := Lib.hid hj
            clear zz1
            have s0 : (k2 : Int) < (tt : Int) := by omega
            have s1 : (0 : Int) ≤ (k2 : Int) := by omega
            have s2 : (k2 : Int) < (G.length : Int) := by omega
            have e1 := IntWalk.i64_in ((k2 : Int) + 1) (by omega)
            have e2 := IntWalk.i64_in ((rk2 : Int) + x2) (by omega)
            clear hG hx hx2 hrow hsn hsp hsr hlt hck hj hk2
            go_wp2_with fail
            refine (rput1_any (x := (x1, x2)) HGk.out hxw hle).mono ?_
            rintro e w7 ⟨rfl, hg7, hG7⟩
            have hB7 := kept_low hB hg7 HRb.out
            have z1 : w7.cell? _ = _ := HZ1.out w7 hB7
            have HB7 := Lib.hid hB7
            have HG7 := Lib.hid hG7
            clear hg7 hG7 hB7 hB HGk HB z0 y0 y1 y2 y3 y4
            go_wp2_with fail
            go_roundw
            case rel => exact ⟨k + 1, hk1, by have := HJ.out; rw [show (fr : Int) + ((k + 1 : Nat) : Int) = (k2 : Int) + 1 by omega], by rw [HRow.out]; show _ = Value.int .i64 ((rk2 + x2.toNat : Nat) : Int); rw [show ((rk2 + x2.toNat : Nat) : Int) = (rk2 : Int) + x2 by omega], HB7.out, by rw [HRow.out]; exact HG7.out⟩
            case measure => (have := HJ.out); simp [intOf] <;> omega
          · have hke : k = X.length := by omega
            subst hke
            have hte : (fr : Int) + (X.length : Int) = (tt : Int) := by omega
            rw [hte]
            have hwr := hB.size
            have hle : (((rowK X r0 0 X.length).2 : Nat) : Int) ≤ (cols : Int) := by rw [hck]; cases be <;> simp at hrm <;> omega
            clear hck hlt hle hte
            cases be
            · have HRG := Lib.hid (show rowG G ⟨fr, tt, false, false, col⟩ cols = (rowK X r0 0 X.length).1 by rw [HR0.out, HXx.out]; rfl)
              have y4 := cell_later HB.out (row_cells (i := 4) HN5.out rfl)
              have o0 := HGk.out.outer 0 (Nat.zero_lt_succ _)
              go_upto_region 24 with fail
              go_quiet (fail)
              rename Nat => qd
              go_wp2_with fail
              go_ret3
              exact ⟨_, ob, rb, rc, rfl, below_dN (below_trans' HB5.out HB.out) qd, by rw [HRG.out]; exact HGk.out.same rfl (fun _ _ => rfl)⟩
            · have hic := IntWalk.i64_in ((cols : Int) - 1) (by omega)
              have hcm : (((cols - 1 : Nat) : Nat) : Int) = (cols : Int) - 1 := by omega
              go_wp2_with fail
              rw [← hcm]
              refine (rput1_any (c := cols - 1) (x := (⟨#[62]⟩, 1)) HGk.out (Or.inl rfl) (by show ((cols - 1 : Nat) : Int) + 1 ≤ _; omega)).mono ?_
              rintro e w8 ⟨rfl, hg8, hG8⟩
              have HG8 := Lib.hid hG8
              have HB8 := Lib.hid (kept_low HB.out hg8 HRb.out)
              clear hg8 hG8 y0 y1 y2 y3 y4 HGk HB hB hG
              have HRG := Lib.hid (show rowG G ⟨fr, tt, false, true, col⟩ cols = (putRow (rowK X r0 0 X.length).1 (cols - 1) (⟨#[62]⟩, 1)) by rw [HR0.out, HXx.out]; rfl)
              have y4 := cell_later HB8.out (row_cells (i := 4) HN5.out rfl)
              have o0 := HG8.out.outer 0 (Nat.zero_lt_succ _)
              go_upto_region 24 with fail
              go_quiet (fail)
              rename Nat => qd
              go_wp2_with fail
              go_ret3
              exact ⟨_, ob, rb, rc, rfl, below_dN (below_trans' HB5.out HB8.out) qd, by rw [HRG.out]; exact HG8.out.same rfl (fun _ _ => rfl)⟩
      · have y2 := cell_later HB56.out (row_cells (i := 2) HN5.out rfl)
        go_wp2_with fail
        refine (rput1_any (c := 0) (x := (⟨#[60]⟩, 1)) HGG.out (Or.inl rfl) (by show ((0 : Nat) : Int) + 1 ≤ _; omega)).mono ?_
        rintro e w66 ⟨rfl, hg8, hG8⟩
        have HGr := Lib.hid hG8
        have HBW := Lib.hid (kept_low HB56.out hg8 HRb.out)
        clear hg8 hG8 y2 HGG HB56
        have y0 := cell_later HBW.out (row_cells (i := 0) HN5.out rfl)
        have y1 := cell_later HBW.out (row_cells (i := 1) HN5.out rfl)
        have y2 := cell_later HBW.out (row_cells (i := 2) HN5.out rfl)
        have y3 := cell_later HBW.out (row_cells (i := 3) HN5.out rfl)
        have y4 := cell_later HBW.out (row_cells (i := 4) HN5.out rfl)
        go_upto_region 17 with fail
        obtain ⟨r0, hr0⟩ : ∃ r0, r0 = putRow (List.replicate cols blankC) 0 (⟨#[60]⟩, 1) := ⟨_, rfl⟩
        rw [← hr0] at HGr
        have hr0l : r0.length = cols := by rw [hr0]; simp [putRow_len]
        have HR0 := Lib.hid hr0
        have HR0l := Lib.hid hr0l
        clear hr0 hr0l
        have hcl := fun k hk => rowK_col HXw.out r0 1 k hk
        have HCl := Lib.hid hcl
        have hsm := fun k => sW_rng HXw.out 0 k
        clear hcl
        go_wp2_with fail
        go_loopw [19, 20] (fun cv iv wr => ∃ k : Nat, k ≤ X.length ∧ iv = .int .i64 ((fr : Int) + (k : Int)) ∧ cv = .int .i64 (((rowK X r0 1 k).2 : Nat) : Int) ∧ Below w5.heap.size w5 wr ∧ RefAt wr w5.heap.size ob rb rc cols [(rowK X r0 1 k).1]) (fun _ iv _ => tt - (intOf iv).toNat)
        case atStart => exact ⟨0, Nat.zero_le _, by rw [show (fr : Int) + ((0 : Nat) : Int) = (fr : Int) by omega], rfl, HBW.out, HGr.out⟩
        case round =>
          obtain ⟨k, hk, rfl, rfl, hB, hG⟩ := hrel
          have HB := Lib.hid hB
          have HGk := Lib.hid hG
          have hck := HCl.out k hk
          have y0 := cell_later hB (row_cells (i := 0) HN5.out rfl)
          have y1 := cell_later hB (row_cells (i := 1) HN5.out rfl)
          have y2 := cell_later hB (row_cells (i := 2) HN5.out rfl)
          have y3 := cell_later hB (row_cells (i := 3) HN5.out rfl)
          have y4 := cell_later hB (row_cells (i := 4) HN5.out rfl)
          by_cases hlt : k < X.length
          · obtain ⟨x, hx⟩ : ∃ x, X[k]? = some x := ⟨X[k], List.getElem?_eq_getElem hlt⟩
            obtain ⟨b, off, cap', hv, _, _, hbw, z0, z1⟩ := gly_cells HG5.out (HXg.out k x hx)
            cases hv
            obtain ⟨k2, hk2⟩ : ∃ k2, k2 = fr + k := ⟨_, rfl⟩
            rw [← hk2] at z0 z1
            have zz1 := z1
            have z0 := cell_later hB z0
            have z1 := cell_later hB z1
            have hx2 : X.getD k (⟨#[]⟩, 0) = x := by rw [List.getD_eq_getElem?_getD, hx]; rfl
            have hrow : rowK X r0 1 (k + 1) = (putRow (rowK X r0 1 k).1 (rowK X r0 1 k).2 x, (rowK X r0 1 k).2 + x.2.toNat) := by
              show (putRow _ _ (X.getD k (⟨#[]⟩, 0)), _ + (X.getD k (⟨#[]⟩, 0)).2.toNat) = _
              rw [hx2]
            have hxw : x.2 = 1 ∨ x.2 = 2 := HXw.out x.2 (List.mem_map.2 ⟨x, List.mem_of_getElem? hx, rfl⟩)
            have hsn := sW_snoc (ws := wdL X) (Nat.zero_le k) (by rw [wdL_len]; exact hlt)
            rw [wdA_get (wdL_get hx)] at hsn
            have hsp := sW_split HXw.out (a := 0) (b := k + 1) (c := X.length) (Nat.zero_le _) (by omega) (by rw [wdL_len]; exact Nat.le_refl _)
            have hsr := sW_rng HXw.out (k + 1) X.length
            have hle : (((rowK X r0 1 k).2 : Nat) : Int) + x.2 ≤ (cols : Int) := by rw [hck]; cases be <;> simp at hrm <;> omega
            have HRow := Lib.hid hrow
            generalize rowK X r0 1 k = rk at HGk HRow hle ⊢
            obtain ⟨rk1, rk2⟩ := rk
            dsimp only at HGk HRow hle ⊢
            obtain ⟨x1, x2⟩ := x
            dsimp only at z0 z1 zz1 hxw hle HRow
            have hwr := hB.size
            have HZ1 := Lib.hid (fun (W : World) (hb : Below w5.heap.size w5 W) => (show W.cell? ⟨b, off + k2 * 2 + 1, none⟩ = some (.int .i64 x2) from cell_later hb zz1))
            have hj : (k2 : Int) = (fr : Int) + (k : Int) := by omega
            have hk1 : k + 1 ≤ X.length := hlt
            rw [← hj]
            have HJ := Lib.hid hj
            clear zz1
            have s0 : (k2 : Int) < (tt : Int) := by omega
            have s1 : (0 : Int) ≤ (k2 : Int) := by omega
            have s2 : (k2 : Int) < (G.length : Int) := by omega
            have e1 := IntWalk.i64_in ((k2 : Int) + 1) (by omega)
            have e2 := IntWalk.i64_in ((rk2 : Int) + x2) (by omega)
            clear hG hx hx2 hrow hsn hsp hsr hlt hck hj hk2
            go_wp2_with fail
            refine (rput1_any (x := (x1, x2)) HGk.out hxw hle).mono ?_
            rintro e w7 ⟨rfl, hg7, hG7⟩
            have hB7 := kept_low hB hg7 HRb.out
            have z1 : w7.cell? _ = _ := HZ1.out w7 hB7
            have HB7 := Lib.hid hB7
            have HG7 := Lib.hid hG7
            clear hg7 hG7 hB7 hB HGk HB z0 y0 y1 y2 y3 y4
            go_wp2_with fail
            go_roundw
            case rel => exact ⟨k + 1, hk1, by have := HJ.out; rw [show (fr : Int) + ((k + 1 : Nat) : Int) = (k2 : Int) + 1 by omega], by rw [HRow.out]; show _ = Value.int .i64 ((rk2 + x2.toNat : Nat) : Int); rw [show ((rk2 + x2.toNat : Nat) : Int) = (rk2 : Int) + x2 by omega], HB7.out, by rw [HRow.out]; exact HG7.out⟩
            case measure => (have := HJ.out); simp [intOf] <;> omega
          · have hke : k = X.length := by omega
            subst hke
            have hte : (fr : Int) + (X.length : Int) = (tt : Int) := by omega
            rw [hte]
            have hwr := hB.size
            have hle : (((rowK X r0 1 X.length).2 : Nat) : Int) ≤ (cols : Int) := by rw [hck]; cases be <;> simp at hrm <;> omega
            clear hck hlt hle hte
            cases be
            · have HRG := Lib.hid (show rowG G ⟨fr, tt, true, false, col⟩ cols = (rowK X r0 1 X.length).1 by rw [HR0.out, HXx.out]; rfl)
              have y4 := cell_later HB.out (row_cells (i := 4) HN5.out rfl)
              have o0 := HGk.out.outer 0 (Nat.zero_lt_succ _)
              go_upto_region 24 with fail
              go_quiet (fail)
              rename Nat => qd
              go_wp2_with fail
              go_ret3
              exact ⟨_, ob, rb, rc, rfl, below_dN (below_trans' HB5.out HB.out) qd, by rw [HRG.out]; exact HGk.out.same rfl (fun _ _ => rfl)⟩
            · have hic := IntWalk.i64_in ((cols : Int) - 1) (by omega)
              have hcm : (((cols - 1 : Nat) : Nat) : Int) = (cols : Int) - 1 := by omega
              go_wp2_with fail
              rw [← hcm]
              refine (rput1_any (c := cols - 1) (x := (⟨#[62]⟩, 1)) HGk.out (Or.inl rfl) (by show ((cols - 1 : Nat) : Int) + 1 ≤ _; omega)).mono ?_
              rintro e w8 ⟨rfl, hg8, hG8⟩
              have HG8 := Lib.hid hG8
              have HB8 := Lib.hid (kept_low HB.out hg8 HRb.out)
              clear hg8 hG8 y0 y1 y2 y3 y4 HGk HB hB hG
              have HRG := Lib.hid (show rowG G ⟨fr, tt, true, true, col⟩ cols = (putRow (rowK X r0 1 X.length).1 (cols - 1) (⟨#[62]⟩, 1)) by rw [HR0.out, HXx.out]; rfl)
              have y4 := cell_later HB8.out (row_cells (i := 4) HN5.out rfl)
              have o0 := HG8.out.outer 0 (Nat.zero_lt_succ _)
              go_upto_region 24 with fail
              go_quiet (fail)
              rename Nat => qd
              go_wp2_with fail
              go_ret3
              exact ⟨_, ob, rb, rc, rfl, below_dN (below_trans' HB5.out HB8.out) qd, by rw [HRG.out]; exact HG8.out.same rfl (fun _ _ => rfl)⟩
    · have q0 : decide (((n + 1 : Nat) : Int) - 1 ≥ 0) = true := decide_eq_true (by omega)
      obtain ⟨x, hx⟩ : ∃ x, S[n]? = some x := ⟨S[n], List.getElem?_eq_getElem (by omega)⟩
      obtain ⟨sb, soff, _, hv, _, _, _, _, d0⟩ := int_cell HS2.out hx
      cases hv
      obtain ⟨ab, aoff, _, hv, _, _, _, _, d1⟩ := int_cell HA2.out (HAg.out n (by omega))
      cases hv
      have hxl := HAl.out n x hx
      have hal2 : n < A.length := (List.getElem?_eq_some_iff.1 (HAg.out n (by omega))).1
      have hni : ((n + 1 : Nat) : Int) - 1 = (n : Int) := by omega
      rw [hni] at q0 ⊢
      have s0 : (0 : Int) ≤ (n : Int) := by omega
      have s1 : (n : Int) < (S.length : Int) := by omega
      have s2 : (n : Int) < (A.length : Int) := by omega
      have e1 := IntWalk.i64_in ((n : Int) - 1) (by omega)
      have hn' : n ≤ S.length := by omega
      by_cases hci : n < ci
      · have hlt : decide ((x : Int) ≥ cursor) = false := decide_eq_false (by have := hxl.2 hci; omega)
        have hk := HKm.out n hci
        clear hx hxl hal2 hni hn
        go_wp2_with fail
        go_roundw
        case rel => exact ⟨n, hn', rfl, by rw [hk], trivial⟩
        case measure => simp [intOf] <;> omega
      · have hlt : decide ((x : Int) ≥ cursor) = true := decide_eq_true (by have := mt hxl.1 hci; omega)
        have hk := HKh.out n (by omega)
        clear hx hxl hal2 hni hn
        go_wp2_with fail
        go_roundw
        case rel => exact ⟨n, hn', rfl, by rw [hk], trivial⟩
        case measure => simp [intOf] <;> omega
end
end Go.Proofs.YtkeainhjghdfcaaGreat

/- The rows, where there is no room. -/
namespace Go.Proofs.YtkeainhjghdfcaaGreat
open Go.RowKit

section
variable {w : World} {v : Value} {G : List Gy}
/-- what a row without room chooses -/
theorem choose_row (h : GlyIn w v G) (hw : W12 (wdL G)) (hl : G.length ≤ 1000) {at' : Nat} (hat : at' ≤ G.length) {cols : Int} (_ : cols < 4 ∨ 1000 < cols) (hc2 : cols ≤ 9223372036854775807) :
    Calls Tryz.prog 13 #[v, .int .i64 (at' : Int), .int .i64 cols] w fun e w' => ∃ (sh : ShP) (b : Bool), e = .returned (.tuple #[shV sh, .bool b]) ∧ (cols < 4 → b = false) ∧ Below w.heap.size w w' := by
  by_cases h4 : cols < 4
  · refine (choose_no h (at' := (at' : Int)) (.inl h4)).mono ?_
    rintro e w' ⟨rfl, hB⟩
    exact ⟨_, _, rfl, fun _ => rfl, hB⟩
  · refine (choose_yes h hw hl hat (by omega) hc2).mono ?_
    rintro e w' ⟨rfl, hB⟩
    exact ⟨_, _, rfl, fun h => absurd h h4, hB⟩
theorem dchoose_row (h : GlyIn w v G) (hw : W12 (wdL G)) (hl : G.length ≤ 1000) {at' : Nat} (hat : at' ≤ G.length) {cols : Int} (_ : cols < 4 ∨ 1000 < cols) (hc2 : cols ≤ 9223372036854775807) :
    Calls Tryz.prog 14 #[v, .int .i64 (at' : Int), .int .i64 cols] w fun e w' => ∃ (sh : ShP) (b : Bool), e = .returned (.tuple #[shV sh, .bool b]) ∧ (cols < 4 → b = false) ∧ Below w.heap.size w w' := by
  by_cases h4 : cols < 4
  · refine (dchoose_no h (at' := (at' : Int)) (.inl h4)).mono ?_
    rintro e w' ⟨rfl, hB⟩
    exact ⟨_, _, rfl, fun _ => rfl, hB⟩
  · refine (dchoose_yes h hw hl hat (by omega) hc2).mono ?_
    rintro e w' ⟨rfl, hB⟩
    exact ⟨_, _, rfl, fun h => absurd h h4, hB⟩
end
section
variable {R : List Rw} {s : List Int} {w : World} {sv : Value} {tp : Nat}
set_option maxRecDepth 100000 in
set_option maxHeartbeats 16000000 in
theorem prow_no (H : (tabOf R).Ok) (hT : Tb R w tp) (hs : RunesIn w sv s) (ok : RunesOk s) (hl : s.length ≤ 100) (cursor : Int) {cols : Int} (hc : cols < 4 ∨ 1000 < cols) (hcm : cols ≤ 9223372036854775807) :
    Calls Tryz.prog 18 #[.pointer (some ⟨tp, 0, none⟩), sv, .int .i64 cursor, .int .i64 cols] w fun e w' => e = .returned (.tuple #[.slice none 0 0, .int .i64 0, .bool false]) ∧ Below w.heap.size w w' := by
  have HT := Lib.hid hT
  have HS := Lib.hid hs
  have HOk := Lib.hid ok
  obtain ⟨sl, scap, rfl, _, _, _⟩ := runes_cells hs
  have HLn := Lib.hid (line_any hT hs ok (by omega))
  have hgl := lineG_take_le R s (clus (tabOf R) s).length
  rw [List.take_length] at hgl
  have hgw : W12 (wdL (lineG R (clus (tabOf R) s))) := by
    intro x hx
    obtain ⟨g, hg, rfl⟩ := List.mem_map.1 hx
    exact (lineG_ok R g hg).1
  have hki : ahd (starts (tabOf R) s) cursor ≤ (clus (tabOf R) s).length := by rw [← starts_clus H]; exact ahd_le _ _
  have hag := atsL_get (R := R) (LL := clus (tabOf R) s) (n := (clus (tabOf R) s).length + 1) (k := ahd (starts (tabOf R) s) cursor) (by omega)
  have hal : aheadG R (clus (tabOf R) s) (ahd (starts (tabOf R) s) cursor) ≤ (lineG R (clus (tabOf R) s)).length := by
    have e1 : (lineG R ((clus (tabOf R) s).take (ahd (starts (tabOf R) s) cursor) ++ (clus (tabOf R) s).drop (ahd (starts (tabOf R) s) cursor))).length = (lineG R (clus (tabOf R) s)).length := by rw [List.take_append_drop]
    unfold lineG at e1
    rw [List.flatMap_append, List.length_append] at e1
    unfold aheadG lineG
    omega
  have HSt := Lib.hid (fun (W : World) (h1 : Tb R W tp) (h2 : RunesIn W (.slice sl s.length scap) s) => starts_any H h1 h2 ok (by omega))
  have HSo := Lib.hid (starts_sorted (tabOf R) s)
  have hsl : (starts (tabOf R) s).length ≤ 1000000 := by rw [starts_clus H]; have : (clus (tabOf R) s).length ≤ s.length := clusN_len (tabOf R) s.length s; omega
  generalize lineG R (clus (tabOf R) s) = G at HLn hgl hgw hal ⊢
  generalize aheadG R (clus (tabOf R) s) (ahd (starts (tabOf R) s) cursor) = at' at hag hal ⊢
  generalize atsL R (clus (tabOf R) s) ((clus (tabOf R) s).length + 1) = A at HLn hag
  have HChoose := Lib.hid (fun (W : World) (v : Value) (h : GlyIn W v G) => choose_row h hgw (by omega) hal hc hcm)
  have HW := Lib.hid hgw
  have HAg := Lib.hid hag
  clear hT hs hgw
  go_enter Tryz.func18, Tryz.ntmps18
  go_wp2_with fail
  refine HLn.out.mono ?_
  rintro e w1 ⟨gu, ga, rfl, hB1, hG1, hA1⟩
  have HB1 := Lib.hid hB1
  have HT1 := Lib.hid (HT.out.below hB1)
  have HS1 := Lib.hid (HS.out.below hB1)
  have HG1 := Lib.hid hG1
  have HA1 := Lib.hid hA1
  clear hB1 hG1 hA1 HLn HT HS
  go_wp2_with fail
  refine (HSt.out _ HT1.out HS1.out).mono ?_
  rintro e w2 ⟨su, rfl, hB2, hS2⟩
  have HB2 := Lib.hid (below_trans' HB1.out hB2)
  have HG2 := Lib.hid (HG1.out.below hB2)
  have HA2 := Lib.hid (HA1.out.below hB2)
  have HS2 := Lib.hid hS2
  clear hB2 hS2 HT1 HS1 HG1 HA1 HB1 HSt
  go_wp2_with fail
  refine (bsi_any su _ cursor w2 HS2.out HSo.out hsl).mono ?_
  rintro e w3 ⟨rfl, hB3, _⟩
  have HB3 := Lib.hid (below_trans' HB2.out hB3)
  have HG3 := Lib.hid (HG2.out.below hB3)
  obtain ⟨ab, aoff, acap, hv, _, _, hak, _, d0⟩ := int_cell (HA2.out.below hB3) HAg.out
  cases hv
  generalize ahd (starts (tabOf R) s) cursor = ki at HAg hki hak d0 ⊢
  clear hB3 HS2 HG2 HA2 HB2
  have k0 : (ki : Int) < (A.length : Int) := by omega
  have k1 : (0 : Int) ≤ (ki : Int) := by omega
  obtain ⟨ga', gc, rfl, hg1, hg2⟩ := gly_shape HG3.out
  unfold maxLen at hg2
  go_wp2_with fail
  refine (HChoose.out _ _ HG3.out).mono ?_
  rintro e w4 ⟨sh, ok4, rfl, hok4, hB4⟩
  obtain ⟨fr, tt, ah, be, col⟩ := sh
  unfold shV
  have HB5 := Lib.hid (below_new (below_trans' HB3.out hB4) (.cells #[.int .i64 (fr : Int), .int .i64 (tt : Int), .bool ah, .bool be, .int .i64 col] 27))
  clear hB4 HB3 HG3 d0 HChoose HW HAg
  go_upto_region 4 with fail
  generalize w4.alloc (.cells #[.int .i64 (fr : Int), .int .i64 (tt : Int), .bool ah, .bool be, .int .i64 col] 27) = w5 at HB5 ⊢
  by_cases hn : cols < 2 ∨ 1000 < cols
  · go_wp2_with fail
    refine (new_none 1 cols w5 (by omega)).mono ?_
    rintro e w6 ⟨rfl, rfl⟩
    cases ok4
    all_goals
      go_wp2_with fail
      go_ret3
      exact ⟨rfl, HB5.out⟩
  · obtain ⟨m, rfl⟩ : ∃ m : Nat, cols = (m : Int) := ⟨cols.toNat, by omega⟩
    obtain rfl := hok4 (by omega)
    go_wp2_with fail
    refine (new_some 1 m w5 (by omega) (by omega) (by omega) (by omega)).mono ?_
    rintro e w6 ⟨gb, lb, rfl, hgb, hlb, hB6, hGG⟩
    have HB6 := Lib.hid (below_trans' HB5.out hB6)
    clear hGG hB6 HB5
    go_wp2_with fail
    go_ret3
    exact ⟨rfl, HB6.out⟩
end
section
variable {R : List Rw} {s : List Int} {w : World} {sv rv : Value}
set_option maxRecDepth 100000 in
set_option maxHeartbeats 16000000 in
theorem pdrow_no (H : (tabOf R).Ok) (hR : RowsIn w rv R) (hs : RunesIn w sv s) (ok : RunesOk s) (hl : s.length ≤ 100) (cursor : Int) {cols : Int} (hc : cols < 4 ∨ 1000 < cols) (hcm : cols ≤ 9223372036854775807) :
    Calls Tryz.prog 20 #[rv, sv, .int .i64 cursor, .int .i64 cols] w fun e w' => e = .returned (.tuple #[.slice none 0 0, .int .i64 0, .bool false]) ∧ Below w.heap.size w w' := by
  have HR := Lib.hid hR
  have HS := Lib.hid hs
  obtain ⟨sl, scap, rfl, _, _, _⟩ := runes_cells hs
  have HLn := Lib.hid (rline_any H hR hs ok (by omega))
  have hgl := lineG_take_le R s (clus (tabOf R) s).length
  rw [List.take_length] at hgl
  have hgw : W12 (wdL (lineG R (clus (tabOf R) s))) := by
    intro x hx
    obtain ⟨g, hg, rfl⟩ := List.mem_map.1 hx
    exact (lineG_ok R g hg).1
  have hal : aheadG R (clus (tabOf R) s) (ahd (starts (tabOf R) s) cursor) ≤ (lineG R (clus (tabOf R) s)).length := by
    have e1 : (lineG R ((clus (tabOf R) s).take (ahd (starts (tabOf R) s) cursor) ++ (clus (tabOf R) s).drop (ahd (starts (tabOf R) s) cursor))).length = (lineG R (clus (tabOf R) s)).length := by rw [List.take_append_drop]
    unfold lineG at e1
    rw [List.flatMap_append, List.length_append] at e1
    unfold aheadG lineG
    omega
  have HSt := Lib.hid (fun (W : World) (h1 : RowsIn W rv R) (h2 : RunesIn W (.slice sl s.length scap) s) => rstarts_any h1 h2 ok (by omega))
  have HSo := Lib.hid (starts_sorted (tabOf R) s)
  have hsl : (starts (tabOf R) s).length ≤ 100 := by rw [starts_clus H]; have : (clus (tabOf R) s).length ≤ s.length := clusN_len (tabOf R) s.length s; omega
  have HAg := Lib.hid (fun (j : Nat) (hj : j < (starts (tabOf R) s).length) => atsL_get (R := R) (LL := clus (tabOf R) s) (n := (clus (tabOf R) s).length + 1) (k := j) (by rw [← starts_clus H]; omega))
  have HK0 := Lib.hid (kAt_zero (R := R) (s := s) (c := cursor))
  have HK1 := Lib.hid (kAt_all H (s := s) (c := cursor))
  have HKh := Lib.hid (fun n => kAt_hit (R := R) (s := s) (c := cursor) (n := n))
  have HKm := Lib.hid (fun n => kAt_miss (R := R) (s := s) (c := cursor) (n := n))
  have HAl := Lib.hid (fun (j x : Nat) (hx : (starts (tabOf R) s)[j]? = some x) => ahd_lt (a := cursor) (starts_sorted (tabOf R) s) hx)
  rw [← kAt_zero] at hal
  generalize kAt R s cursor = K at HK0 HK1 HKh HKm hal
  generalize ahd (starts (tabOf R) s) cursor = ci at HK0 HKh HKm HAl
  generalize aheadG R (clus (tabOf R) s) = ag at HK0 HKh HAg
  generalize (lineG R (clus (tabOf R) s)) = G at HLn hgl hgw hal HK1
  generalize atsL R (clus (tabOf R) s) ((clus (tabOf R) s).length + 1) = A at HLn HAg
  generalize starts (tabOf R) s = S at HSt HSo hsl HAg HK1 HAl
  have HChoose := Lib.hid (fun (W : World) (v : Value) (h : GlyIn W v G) => dchoose_row h hgw (by omega) hal hc hcm)
  have HW := Lib.hid hgw
  clear hs hR hgw
  go_enter Tryz.func20, Tryz.ntmps20
  go_wp2_with fail
  refine HLn.out.mono ?_
  rintro e w1 ⟨gu, ga, rfl, hB1, hG1, hA1⟩
  have HB1 := Lib.hid hB1
  have HR1 := Lib.hid (HR.out.below hB1)
  have HS1 := Lib.hid (HS.out.below hB1)
  have HG1 := Lib.hid hG1
  have HA1 := Lib.hid hA1
  obtain ⟨ga', gc, rfl, hg1, hg2⟩ := gly_shape hG1
  unfold maxLen at hg2
  clear hB1 hG1 hA1 HLn HR HS
  go_wp2_with fail
  refine (HSt.out _ HR1.out HS1.out).mono ?_
  rintro e w2 ⟨su, rfl, hB2, hS2⟩
  have HB2 := Lib.hid (below_trans' HB1.out hB2)
  have HG2 := Lib.hid (HG1.out.below hB2)
  have HA2 := Lib.hid (HA1.out.below hB2)
  have HS2 := Lib.hid hS2
  obtain ⟨sua, suc, rfl, _⟩ := hS2
  obtain ⟨aua, auc, hau, _⟩ := HA2.out
  subst hau
  have e0 := IntWalk.i64_in ((S.length : Int) - 1) (by omega)
  clear hB2 HR1 HS1 HG1 HA1 HB1 HSt
  go_wp2_with fail
  go_loopw [13, 15] (fun kv iv wr => ∃ n : Nat, n ≤ S.length ∧ iv = .int .i64 ((n : Int) - 1) ∧ kv = .int .i64 ((K n : Nat) : Int) ∧ wr = w2) (fun _ iv _ => (intOf iv + 1).toNat)
  case atStart => exact ⟨S.length, Nat.le_refl _, rfl, by rw [HK1.out], rfl⟩
  case round =>
    obtain ⟨n, hn, rfl, rfl, rfl⟩ := hrel
    rcases n with _ | n
    · have q0 : decide (((0 : Nat) : Int) - 1 ≥ 0) = false := by decide
      clear e0
      go_wp2_with fail
      refine (HChoose.out _ _ HG2.out).mono ?_
      rintro e w4 ⟨sh, ok4, rfl, hok4, hB4⟩
      obtain ⟨fr, tt, ah, be, col⟩ := sh
      unfold shV
      have HB5 := Lib.hid (below_new (below_trans' HB2.out hB4) (.cells #[.int .i64 (fr : Int), .int .i64 (tt : Int), .bool ah, .bool be, .int .i64 col] 30))
      clear hB4 HB2 HG2 HA2 HS2 HChoose HAg HK0 HK1 HKh HKm HAl hn q0
      go_upto_region 10 with fail
      generalize w4.alloc (.cells #[.int .i64 (fr : Int), .int .i64 (tt : Int), .bool ah, .bool be, .int .i64 col] 30) = w5 at HB5 ⊢
      cases ok4
      · go_wp2_with fail
        go_ret3
        exact ⟨rfl, HB5.out⟩
      · have h1000 : decide (cols > 1000) = true := decide_eq_true (by
          rcases hc with h4 | h4
          · exact absurd (hok4 h4) (by decide)
          · exact h4)
        go_wp2_with fail
        go_ret3
        exact ⟨rfl, HB5.out⟩
    · have q0 : decide (((n + 1 : Nat) : Int) - 1 ≥ 0) = true := decide_eq_true (by omega)
      obtain ⟨x, hx⟩ : ∃ x, S[n]? = some x := ⟨S[n], List.getElem?_eq_getElem (by omega)⟩
      obtain ⟨sb, soff, _, hv, _, _, _, _, d0⟩ := int_cell HS2.out hx
      cases hv
      obtain ⟨ab, aoff, _, hv, _, _, _, _, d1⟩ := int_cell HA2.out (HAg.out n (by omega))
      cases hv
      have hxl := HAl.out n x hx
      have hal2 : n < A.length := (List.getElem?_eq_some_iff.1 (HAg.out n (by omega))).1
      have hni : ((n + 1 : Nat) : Int) - 1 = (n : Int) := by omega
      rw [hni] at q0 ⊢
      have s0 : (0 : Int) ≤ (n : Int) := by omega
      have s1 : (n : Int) < (S.length : Int) := by omega
      have s2 : (n : Int) < (A.length : Int) := by omega
      have e1 := IntWalk.i64_in ((n : Int) - 1) (by omega)
      have hn' : n ≤ S.length := by omega
      by_cases hci : n < ci
      · have hlt : decide ((x : Int) ≥ cursor) = false := decide_eq_false (by have := hxl.2 hci; omega)
        have hk := HKm.out n hci
        clear hx hxl hal2 hni hn
        go_wp2_with fail
        go_roundw
        case rel => exact ⟨n, hn', rfl, by rw [hk], trivial⟩
        case measure => simp [intOf] <;> omega
      · have hlt : decide ((x : Int) ≥ cursor) = true := decide_eq_true (by have := mt hxl.1 hci; omega)
        have hk := HKh.out n (by omega)
        clear hx hxl hal2 hni hn
        go_wp2_with fail
        go_roundw
        case rel => exact ⟨n, hn', rfl, by rw [hk], trivial⟩
        case measure => simp [intOf] <;> omega
end
end Go.Proofs.YtkeainhjghdfcaaGreat

/- PanRows: its walk. -/
namespace Go.Proofs.YtkeainhjghdfcaaGreat
open Go.RowKit

theorem rowG_len (G : List Gy) (s : ShP) (cols : Nat) : (rowG G s cols).length = cols := by
  unfold rowG
  dsimp only
  split <;> split <;> simp [putRow_len, rowK_len]
set_option maxRecDepth 100000 in
set_option maxHeartbeats 8000000 in
theorem panRows_any (v0 : Value) (l0 : List Int) (cursor cols : Int) (w : World) (hl : RunesIn w v0 l0) (hok : RunesOk l0) (hcm : cols ≤ 9223372036854775807) :
    Calls Tryz.prog 4 #[v0, .int .i64 cursor, .int .i64 cols] w fun e w' => e = .returned (.bool true) ∧ Below w.heap.size w w' := by
  obtain ⟨R, HFc, hrows⟩ := apiRows_any
  have HF := Lib.hid HFc
  have HRows := Lib.hid hrows
  have HTk := Lib.hid HFc.seg.tab
  have HFew := Lib.hid (few_any hl 50)
  clear HFc hrows hl
  obtain ⟨l, hll⟩ : ∃ l, l = l0.take 50 := ⟨_, rfl⟩
  rw [← hll] at HFew
  have HOk := Lib.hid (show RunesOk l by rw [hll]; exact hok.take 50)
  have hlen : l.length ≤ 50 := by rw [hll, List.length_take]; omega
  clear hll hok
  go_enter Tryz.func4, Tryz.ntmps4
  go_wp2_with fail
  refine HFew.out.mono ?_
  rintro e w' ⟨⟨sv, rfl, hS⟩, rfl⟩
  have HS := Lib.hid hS
  obtain ⟨sl, cap, rfl, _, _, _⟩ := runes_cells hS
  clear hS HFew
  go_wp2_with fail
  refine (HRows.out w).mono ?_
  rintro e w1 ⟨v, rfl, hB1, hR1⟩
  have HB1 := Lib.hid hB1
  have HR1 := Lib.hid hR1
  have HS1 := Lib.hid (HS.out.below hB1)
  clear hB1 hR1 HS
  go_wp2_with fail
  refine (build_tb v R w1 HR1.out HF.out.ok).mono ?_
  rintro e w2 ⟨tp, rfl, hB2, hT⟩
  have HT2 := Lib.hid hT
  have HR2 := Lib.hid (HR1.out.below hB2)
  have HS2 := Lib.hid (HS1.out.below hB2)
  have HB2 := Lib.hid (below_trans' HB1.out hB2)
  clear hB2 hT HB1 HR1 HS1
  by_cases hc : cols < 4 ∨ 1000 < cols
  · go_wp2_with fail
    refine (prow_no HTk.out HT2.out HS2.out HOk.out (by omega) cursor hc hcm).mono ?_
    rintro e w3 ⟨rfl, hB3⟩
    have HR3 := Lib.hid (HR2.out.below hB3)
    have HS3 := Lib.hid (HS2.out.below hB3)
    have HB3 := Lib.hid (below_trans' HB2.out hB3)
    clear hB3 HB2 HT2 HS2 HR2
    go_wp2_with fail
    refine (pdrow_no HTk.out HR3.out HS3.out HOk.out (by omega) cursor hc hcm).mono ?_
    rintro e w4 ⟨rfl, hB4⟩
    have HB4 := Lib.hid (below_trans' HB3.out hB4)
    clear hB4 HB3 HS3 HR3
    go_wp2_with fail
    go_loopw [14] (fun iv wr => iv = .int .i64 0 ∧ wr = w4) (fun _ _ => 0)
    case atStart => exact ⟨rfl, rfl⟩
    case round =>
      obtain ⟨rfl, rfl⟩ := hrel
      go_wp2_with fail
      refine (fin48 HB4.out).mono ?_
      rintro e w' ⟨rfl, hB⟩
      have HB := Lib.hid hB
      clear hB
      go_wp2_with fail
      go_ret
      exact ⟨rfl, HB.out⟩
  · obtain ⟨m, rfl⟩ : ∃ m : Nat, cols = (m : Int) := ⟨cols.toNat, by omega⟩
    have hm1 : 4 ≤ m := by omega
    have hm2 : m ≤ 1000 := by omega
    clear hc hcm
    go_wp2_with fail
    refine (prow_yes HTk.out HT2.out HS2.out HOk.out (by omega) cursor hm1 hm2).mono ?_
    rintro e w3 ⟨g, c, rfl, hB3, hO3⟩
    have HDoc := Lib.hid (fun (W : World) (h1 : RowsIn W v R) (h2 : RunesIn W (.slice sl l.length cap) l) => pdrow_yes HTk.out h1 h2 HOk.out (by omega) cursor hm1 hm2)
    have hgl := rowG_len (lineG R (clus (tabOf R) l)) (choF (wdL (lineG R (clus (tabOf R) l))) (aheadG R (clus (tabOf R) l) (ahd (starts (tabOf R) l) cursor)) (m : Int)) m
    generalize rowG (lineG R (clus (tabOf R) l)) (choF (wdL (lineG R (clus (tabOf R) l))) (aheadG R (clus (tabOf R) l) (ahd (starts (tabOf R) l) cursor)) (m : Int)) m = L at hO3 HDoc hgl
    generalize (choF (wdL (lineG R (clus (tabOf R) l))) (aheadG R (clus (tabOf R) l) (ahd (starts (tabOf R) l) cursor)) (m : Int)).col = col at HDoc ⊢
    subst hgl
    have HA3 := Lib.hid (show GlyIn w3 (.slice (some ⟨g, 0, none⟩) L.length c) L from rd_of_owns hO3)
    have HR3 := Lib.hid (HR2.out.below hB3)
    have HS3 := Lib.hid (HS2.out.below hB3)
    have HB3 := Lib.hid (below_trans' HB2.out hB3)
    clear hB3 hO3 HB2 HT2 HS2 HR2
    go_wp2_with fail
    refine (HDoc.out w3 HR3.out HS3.out).mono ?_
    rintro e w4 ⟨B, ob, rb, rc, rfl, hB4, hX⟩
    have HX := Lib.hid (hX.rows 0 L rfl)
    have HA4 := Lib.hid (HA3.out.below hB4)
    have HB4 := Lib.hid (below_trans' HB3.out hB4)
    obtain ⟨ga, gc, hga, hg1, hg2⟩ := gly_shape HA3.out
    cases hga
    unfold maxLen at hg2
    clear hB4 hX HA3 HB3 HDoc HR3 HS3
    go_wp2_with fail
    go_loopw [14] (fun iv wr => ∃ k : Nat, k ≤ L.length ∧ iv = .int .i64 ((k : Nat) : Int) ∧ Below w4.heap.size w4 wr) (fun iv _ => L.length - (intOf iv).toNat)
    case atStart => exact ⟨0, Nat.zero_le _, rfl, .refl _ _⟩
    case round =>
      obtain ⟨k, hk, rfl, hB⟩ := hrel
      have HB := Lib.hid hB
      by_cases hlt : k < L.length
      · obtain ⟨x, hx⟩ : ∃ x, L[k]? = some x := ⟨L[k], List.getElem?_eq_getElem hlt⟩
        obtain ⟨b, off, _, hv, _, _, _, z0, z1⟩ := gly_cells HA4.out hx
        cases hv
        rw [Nat.zero_add] at z0 z1
        have z0 := cell_later hB z0
        have z1 := cell_later hB z1
        have y0 := cell_later hB (HX.out.text hx)
        have y1 := cell_later hB (HX.out.width hx)
        obtain ⟨x0, x1⟩ := x
        dsimp only at z0 z1 y0 y1
        have e2 := IntWalk.i64_in ((k : Int) + 1) (by omega)
        have s0 : (k : Int) < (L.length : Int) := by omega
        have s1 : (0 : Int) ≤ (k : Int) := by omega
        clear hx hB hlt
        go_wp2_with fail
        go_quiet (fail)
        go_wp2_with fail
        go_roundw
        case rel => exact ⟨k + 1, by omega, by go_num, below_dN HB.out _⟩
        case measure => simp [intOf] <;> omega
      · have hke : k = L.length := by omega
        subst hke
        clear hB hlt
        go_wp2_with fail
        refine (fin48 (below_trans' HB4.out HB.out)).mono ?_
        rintro e w' ⟨rfl, hB⟩
        have HB := Lib.hid hB
        clear hB
        go_wp2_with fail
        go_ret
        exact ⟨rfl, HB.out⟩
end Go.Proofs.YtkeainhjghdfcaaGreat

/- Pan: the glyphs that the laws take. -/
namespace Go.Proofs.YtkeainhjghdfcaaGreat
open Go.RowKit

/-- glyphs of one column or two, not too many -/
def few48 (L : List Gy) : List Gy := (L.take 60).map fun g => (g.1, 1 + g.2 % 2)
theorem few48_len (L : List Gy) : (few48 L).length ≤ 60 := by unfold few48; rw [List.length_map, List.length_take]; omega
theorem few48_w12 (L : List Gy) : W12 (wdL (few48 L)) := by
  intro x hx
  unfold wdL few48 at hx
  rw [List.map_map] at hx
  obtain ⟨g, _, rfl⟩ := List.mem_map.1 hx
  show 1 + g.2 % 2 = 1 ∨ 1 + g.2 % 2 = 2
  omega
theorem ERG48 : ElemT Tryz.prog 22 81 2 24 := elemT_of (by kernel_rfl) (z := .agg #[.string ⟨#[]⟩, .int .i64 0]) (by kernel_rfl) rfl (by decide) (by decide)
theorem few48_snoc {L : List Gy} {k : Nat} {x : Gy} (h : L[k]? = some x) (_hk : k < 60) : ((L.take (k + 1)).map fun g : Gy => ((g.1, 1 + g.2 % 2) : Gy)) = ((L.take k).map fun g : Gy => ((g.1, 1 + g.2 % 2) : Gy)) ++ [(x.1, 1 + x.2 % 2)] := by
  rw [List.take_add_one, h, List.map_append]
  rfl
section
variable {w : World} {v : Value} {L : List Gy}
set_option maxRecDepth 100000 in
set_option maxHeartbeats 4000000 in
theorem few48_any (h : GlyIn w v L) : Calls Tryz.prog 12 #[v] w fun e w' => ∃ va vb, e = .returned (.tuple #[va, vb]) ∧ Below w.heap.size w w' ∧ GlyIn w' va (few48 L) ∧ GlyIn w' vb (few48 L) := by
  obtain ⟨a, cap, rfl, hc1, hc2⟩ := gly_shape h
  unfold maxLen at hc2
  have HG := Lib.hid h
  clear h
  go_enter Tryz.func12, Tryz.ntmps12
  go_wp2_with fail
  go_loopw [4, 5, 6] (fun av bv iv wr => ∃ (k : Nat) (X : List Gy), k ≤ L.length ∧ k ≤ 60 ∧ iv = .int .i64 (k : Int) ∧ Below w.heap.size w wr ∧ wr.ownsRow w.heap.size 97 2 av X.length (X.flatMap gyE) ∧ wr.ownsRow w.heap.size 81 2 bv X.length (X.flatMap gyE) ∧ X = (L.take k).map (fun g : Gy => ((g.1, 1 + g.2 % 2) : Gy))) (fun _ _ iv _ => L.length - (intOf iv).toNat)
  case atStart => exact ⟨0, [], Nat.zero_le _, Nat.zero_le _, rfl, .refl _ _, World.ownsRow_nil _ _ _ _, World.ownsRow_nil _ _ _ _, rfl⟩
  case round =>
    obtain ⟨k, X, hk, hk6, rfl, hB, hO, hP, hX⟩ := hrel
    have HB := Lib.hid hB
    have HO := Lib.hid hO
    have HP := Lib.hid hP
    have hbs := hB.size
    have hXl : X.length = k := by rw [hX, List.length_map, List.length_take]; omega
    obtain ⟨pa, pc, rfl⟩ := slice_of_owns hO
    obtain ⟨qa, qc, rfl⟩ := slice_of_owns hP
    by_cases hlt : k < L.length ∧ k < 60
    · obtain ⟨x, hx⟩ : ∃ x, L[k]? = some x := ⟨L[k]'hlt.1, List.getElem?_eq_getElem hlt.1⟩
      have hn := few48_snoc hx hlt.2
      rw [← hX] at hn
      obtain ⟨b, off, cap', hv, _, _, hbw, z0, z1⟩ := gly_cells HG.out hx
      cases hv
      have HN := Lib.hid hn
      obtain ⟨x1, x2⟩ := x
      dsimp only at z0 z1 HN
      have HZ0 := Lib.hid z0
      have z0 := cell_later hB z0
      have z1 := cell_later hB z1
      have s0 : (k : Int) < (L.length : Int) := by omega
      have s1 : (0 : Int) ≤ (k : Int) := by omega
      have s2 : (k : Int) < 60 := by omega
      have e1 := IntWalk.i64_in ((k : Int) + 1) (by omega)
      have e2 := and1 x2
      have e3 := IntWalk.i64_in (1 + x2 % 2) (by omega)
      have hbig : (X.length + 1) * 24 ≤ 140737488355328 := by omega
      clear hB hO hP hX hx hn hlt hXl
      go_wp2_with (first
        | (at_builtin; refine wpList_app1 (base := w.heap.size) _ rfl (.tmp 25) (.tmp 33) _ rfl EG _ _ _ rfl HO.out 1 1 (gyE (x1, 1 + x2 % 2)) rfl (by decide) rfl (gyE_one _) hbig hbs ?_; intro g cp7 w7 ho7 hg7 hf7; have HB7 := Lib.hid (below_app HB.out hbs HO.out (Nat.le_refl _) hg7); have HO7 := Lib.hid ho7; have HP7 := Lib.hid (owns_kept_types HO.out HP.out (by decide) hg7); have hbs7 := HB7.out.size; have z0 := cell_later HB7.out HZ0.out; clear ho7 hg7 hf7)
        | (at_builtin; refine wpList_app1 (base := w.heap.size) _ rfl (.tmp 35) (.tmp 43) _ rfl ERG48 _ _ _ rfl HP7.out 1 1 (gyE (x1, 1 + x2 % 2)) rfl (by decide) rfl (gyE_one _) hbig hbs7 ?_; intro g8 cp8 w8 ho8 hg8 hf8; have HB8 := Lib.hid (below_app HB7.out hbs7 HP7.out (Nat.le_refl _) hg8); have HP8 := Lib.hid ho8; have HO8 := Lib.hid (owns_kept_types HP7.out HO7.out (by decide) hg8); clear ho8 hg8 hf8)
        | fail)
      go_roundw
      case rel => exact ⟨k + 1, X ++ [(x1, 1 + x2 % 2)], by omega, by omega, by go_num, HB8.out, by rw [List.length_append, flat_snoc]; exact HO8.out, by rw [List.length_append, flat_snoc]; exact HP8.out, HN.out.symm⟩
      case measure => simp [intOf] <;> omega
    · have HX := Lib.hid (show X = few48 L by
        rw [hX]
        unfold few48
        by_cases h : k < L.length
        · rw [show k = 60 by omega]
        · rw [List.take_of_length_le (by omega), List.take_of_length_le (i := 60) (by omega)])
      have hc : (¬ (k : Int) < (L.length : Int)) ∨ ((k : Int) < (L.length : Int) ∧ ¬ (k : Int) < 60) := by omega
      clear hB hO hP hX hlt hXl
      rcases hc with s0 | ⟨s0, s1⟩
      all_goals
        go_wp2_with fail
        go_ret2
        exact ⟨_, _, rfl, HB.out, by rw [← HX.out]; exact rd_of_owns HO.out, by rw [← HX.out]; exact rd_of_owns HP.out⟩
end
end Go.Proofs.YtkeainhjghdfcaaGreat

/- PanChooses: its walk. -/
namespace Go.Proofs.YtkeainhjghdfcaaGreat
open Go.RowKit

/-- what is chosen, anywhere -/
def choZ (ws : List Int) (at' cols : Int) : ShP × Bool := if cols < 4 ∨ at' < 0 ∨ (ws.length : Int) < at' then (sh0, false) else (choF ws at'.toNat cols, true)
section
variable {w : World} {v : Value} {G : List Gy}
theorem choose_any (h : GlyIn w v G) (hw : W12 (wdL G)) (hl : G.length ≤ 1000) {at' cols : Int} (hc2 : cols ≤ 9223372036854775807) :
    Calls Tryz.prog 13 #[v, .int .i64 at', .int .i64 cols] w fun e w' => e = .returned (.tuple #[shV (choZ (wdL G) at' cols).1, .bool (choZ (wdL G) at' cols).2]) ∧ Below w.heap.size w w' := by
  unfold choZ
  rw [wdL_len]
  split
  · rename_i hn
    exact choose_no h (by omega)
  · rename_i hn
    have e : at' = ((at'.toNat : Nat) : Int) := by omega
    have := choose_yes h hw hl (at' := at'.toNat) (by omega) (cols := cols) (by omega) hc2
    rw [← e] at this
    exact this
theorem dchoose_any (h : GlyIn w v G) (hw : W12 (wdL G)) (hl : G.length ≤ 1000) {at' cols : Int} (hc2 : cols ≤ 9223372036854775807) :
    Calls Tryz.prog 14 #[v, .int .i64 at', .int .i64 cols] w fun e w' => e = .returned (.tuple #[shV (choZ (wdL G) at' cols).1, .bool (choZ (wdL G) at' cols).2]) ∧ Below w.heap.size w w' := by
  unfold choZ
  rw [wdL_len]
  split
  · rename_i hn
    exact dchoose_no h (by omega)
  · rename_i hn
    have e : at' = ((at'.toNat : Nat) : Int) := by omega
    have := dchoose_yes h hw hl (at' := at'.toNat) (by omega) (cols := cols) (by omega) hc2
    rw [← e] at this
    exact this
end
set_option maxRecDepth 100000 in
set_option maxHeartbeats 8000000 in
theorem panChooses_any (v0 : Value) (L : List Gy) (at0 cols : Int) (w : World) (hl : GlyIn w v0 L) (hc : cols ≤ 9223372036854775807) :
    Calls Tryz.prog 3 #[v0, .int .i64 at0, .int .i64 cols] w fun e w' => e = .returned (.bool true) ∧ Below w.heap.size w w' := by
  have HFew := Lib.hid (few48_any hl)
  have hw := few48_w12 L
  have hln := few48_len L
  generalize few48 L = G at HFew hw hln
  have HCh := Lib.hid (fun (W : World) (v : Value) (h : GlyIn W v G) => choose_any h hw (by omega) (at' := at0) (cols := cols) hc)
  have HDc := Lib.hid (fun (W : World) (v : Value) (h : GlyIn W v G) => dchoose_any h hw (by omega) (at' := at0) (cols := cols) hc)
  generalize choZ (wdL G) at0 cols = cz at HCh HDc
  obtain ⟨⟨fr, tt, ah, be, col⟩, okb⟩ := cz
  dsimp only [shV] at HCh HDc
  clear hl hw hln
  go_enter Tryz.func3, Tryz.ntmps3
  go_wp2_with fail
  refine HFew.out.mono ?_
  rintro e w1 ⟨va, vb, rfl, hB1, hA1, hb1⟩
  have HB1 := Lib.hid hB1
  have HA1 := Lib.hid hA1
  have HV1 := Lib.hid hb1
  clear hB1 hA1 hb1 HFew
  go_wp2_with fail
  refine (HCh.out _ _ HA1.out).mono ?_
  rintro e w2 ⟨rfl, hB2⟩
  have hn2 := heap_alloc_new w2 (.cells #[.int .i64 (fr : Int), .int .i64 (tt : Int), .bool ah, .bool be, .int .i64 col] 27)
  have HB3 := Lib.hid (below_new (below_trans' HB1.out hB2) (.cells #[.int .i64 (fr : Int), .int .i64 (tt : Int), .bool ah, .bool be, .int .i64 col] 27))
  have HV3 := Lib.hid ((HV1.out.below hB2).below (below1 w2 (.cells #[.int .i64 (fr : Int), .int .i64 (tt : Int), .bool ah, .bool be, .int .i64 col] 27)))
  clear hB2 HB1 HV1 HA1 HCh
  go_upto_region 3 with fail
  generalize w2.alloc (.cells #[.int .i64 (fr : Int), .int .i64 (tt : Int), .bool ah, .bool be, .int .i64 col] 27) = w3 at HB3 hn2 HV3 ⊢
  generalize w2.heap.size = p at hn2 ⊢
  have HN2 := Lib.hid hn2
  clear hn2
  go_wp2_with fail
  refine (HDc.out _ _ HV3.out).mono ?_
  rintro e w4 ⟨rfl, hB4⟩
  have hn4 := heap_alloc_new w4 (.cells #[.int .i64 (fr : Int), .int .i64 (tt : Int), .bool ah, .bool be, .int .i64 col] 30)
  have hb5 := below1 w4 (.cells #[.int .i64 (fr : Int), .int .i64 (tt : Int), .bool ah, .bool be, .int .i64 col] 30)
  have HB5 := Lib.hid (below_new (below_trans' HB3.out hB4) (.cells #[.int .i64 (fr : Int), .int .i64 (tt : Int), .bool ah, .bool be, .int .i64 col] 30))
  have HN4 := Lib.hid ((hb5.block p (by have := row_len HN2.out; have := hB4.size; omega)).trans ((hB4.block p (row_len HN2.out)).trans HN2.out))
  clear hB4 hb5 HB3 HV3 HDc HN2
  go_upto_region 4 with fail
  generalize w4.alloc (.cells #[.int .i64 (fr : Int), .int .i64 (tt : Int), .bool ah, .bool be, .int .i64 col] 30) = w5 at HB5 hn4 HN4 ⊢
  generalize w4.heap.size = q at hn4 ⊢
  have y0 := row_cells (i := 0) HN4.out rfl
  have y1 := row_cells (i := 1) HN4.out rfl
  have y2 := row_cells (i := 2) HN4.out rfl
  have y3 := row_cells (i := 3) HN4.out rfl
  have y4 := row_cells (i := 4) HN4.out rfl
  have z0 := row_cells (i := 0) hn4 rfl
  have z1 := row_cells (i := 1) hn4 rfl
  have z2 := row_cells (i := 2) hn4 rfl
  have z3 := row_cells (i := 3) hn4 rfl
  have z4 := row_cells (i := 4) hn4 rfl
  clear hn4 HN4
  go_wp2_with fail
  refine (fin48 HB5.out).mono ?_
  rintro e w' ⟨rfl, hB⟩
  have HB := Lib.hid hB
  clear hB
  go_wp2_with fail
  go_ret
  exact ⟨rfl, HB.out⟩
end Go.Proofs.YtkeainhjghdfcaaGreat

/- How a law's glyphs are read. -/
namespace Go.Proofs.YtkeainhjghdfcaaGreat
open Go.RowKit Go.ChangeShapes Go.WideShapes Go.ChangeAt

theorem reads_gyl : Reads Tryz.prog 81 gyE (fun g => g.1.size ≤ maxLen ∧ (Lit.int .i64 g.2).wf = true) :=
  reads_struct2 (s0 := 1) (s1 := 1) Tryz.underlying81 (reads_string Tryz.underlying9) (reads_int Tryz.underlying3) rfl rfl (by kernel_rfl) (by kernel_rfl) (by kernel_rfl)
end Go.Proofs.YtkeainhjghdfcaaGreat
