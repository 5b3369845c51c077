/- Joined texts: IdxO. -/
import Derived.Test.YtblajooebmjfoaaZhaa
/- IndexChanges: its walk. -/
namespace Go.Proofs.Ytblajooebmjfoaa
open Go.RowKit

/-- a deed's cells -/
def deE (y : Int × Int × Value) : List Value := [.int .i64 y.1, .int .i64 y.2.1, y.2.2]
theorem deE_len (y : Int × Int × Value) : (deE y).length = 3 := rfl
def DeedsIn (w : World) (v : Value) (D : List (Int × Int × Value)) : Prop := Rs w.heap.size w deE 3 v D
theorem DeedsIn.below {w w' : World} {v : Value} {l : List (Int × Int × Value)} (h : DeedsIn w v l) (hb : Below w.heap.size w w') : DeedsIn w' v l := (Rd.below h hb (Nat.le_refl _)).mono hb.size
theorem deed_cells {w : World} {v : Value} {l : List (Int × Int × Value)} (h : DeedsIn w v l) {k : Nat} {x : Int × Int × Value} (hx : l[k]? = some x) : ∃ b off cap, v = .slice (some ⟨b, off, none⟩) l.length cap ∧ w.cell? ⟨b, off + k * 3, none⟩ = some (.int .i64 x.1) ∧ w.cell? ⟨b, off + k * 3 + 1, none⟩ = some (.int .i64 x.2.1) ∧ w.cell? ⟨b, off + k * 3 + 2, none⟩ = some x.2.2 := by
  obtain ⟨a, cap, rfl, h1, h2, _, h4⟩ := h
  have hk := (List.getElem?_eq_some_iff.1 hx).1
  obtain ⟨b, off, rfl, hb, hc⟩ := h4 (by omega)
  refine ⟨b, off, cap, rfl, ?_, ?_, ?_⟩
  · have := hc (k * 3 + 0) _ (flat_get deE_len l k x 0 (.int .i64 x.1) hx rfl)
    simpa using this
  · exact hc (k * 3 + 1) _ (flat_get deE_len l k x 1 (.int .i64 x.2.1) hx rfl)
  · exact hc (k * 3 + 2) _ (flat_get deE_len l k x 2 x.2.2 hx rfl)
theorem deed_shape {w : World} {v : Value} {l : List (Int × Int × Value)} (h : DeedsIn w v l) : ∃ a cap, v = .slice a l.length cap ∧ l.length ≤ cap ∧ cap ≤ maxLen := by
  obtain ⟨a, cap, hv, h1, h2, _⟩ := h
  exact ⟨a, cap, hv, h1, h2⟩
set_option maxRecDepth 100000 in
set_option maxHeartbeats 16000000 in
theorem indexChanges_any (v0 v1 : Value) (l0 : List Int) (D : List (Int × Int × Value)) (w : World) (hl : RunesIn w v0 l0) (hok : RunesOk l0) (hD : DeedsIn w v1 D) (hDs : ∀ y ∈ D, ∃ li, RunesIn w y.2.2 li ∧ RunesOk li) :
    Calls Try.prog 5 #[v0, v1] w fun e w' => e = .returned (.bool true) ∧ Below w.heap.size w w' := by
  obtain ⟨R, HFc, hrows⟩ := apiRows_any
  have HF := Lib.hid HFc
  have HRows := Lib.hid hrows
  have HTk := Lib.hid HFc.seg.tab
  obtain ⟨la, lc, rfl, _, _, _⟩ := runes_cells hl
  obtain ⟨da, dc, rfl, hd1, hd2⟩ := deed_shape hD
  unfold maxLen at hd2
  have HFew := Lib.hid (few_eq hl 60)
  have HD := Lib.hid hD
  have HDs := Lib.hid hDs
  obtain ⟨l, hll⟩ : ∃ l, l = l0.take 60 := ⟨_, rfl⟩
  have HS := Lib.hid (show RunesIn w (.slice la l.length lc) l by rw [hll]; exact runes_few hl 60)
  rw [← hll] at HFew
  have HOk := Lib.hid (show RunesOk l by rw [hll]; exact hok.take 60)
  have hlen : l.length ≤ 60 := by rw [hll, List.length_take]; omega
  clear HFc hrows hll hok hl hD hDs
  go_enter Try.func5, Try.ntmps5
  go_wp2_with fail
  refine HFew.out.mono ?_
  rintro e w' ⟨rfl, rfl⟩
  go_wp2_with fail
  refine (HRows.out w).mono ?_
  rintro e w2 ⟨v, rfl, hB2, hR2⟩
  have HB2 := Lib.hid hB2
  have HR2 := Lib.hid hR2
  clear hB2 hR2 HFew
  go_wp2_with fail
  refine (build_tb v R w2 HR2.out HF.out.ok).mono ?_
  rintro e w3 ⟨tp, rfl, hB3, hT3⟩
  have HB3 := Lib.hid (below_trans' HB2.out hB3)
  have HT3 := Lib.hid hT3
  have HR3 := Lib.hid (HR2.out.below hB3)
  clear hB3 hT3 HB2 HR2
  go_wp2_with fail
  refine (iof_any HTk.out HT3.out (HS.out.below HB3.out) HOk.out (by omega)).mono ?_
  rintro e w4 ⟨u, rfl, hB4, sv, rfl, hI4⟩
  have HB4 := Lib.hid (below_trans' HB3.out hB4)
  have HT4 := Lib.hid (HT3.out.below hB4)
  have HR4 := Lib.hid (HR3.out.below hB4)
  obtain ⟨n0, hn0⟩ : ∃ n0 : Int, ((l.length : Nat) : Int) = n0 := ⟨_, rfl⟩
  have hrx := heap_alloc_new w4 (.cells #[sv, .int .i64 ((l.length : Nat) : Int)] 39)
  have hbx := below1 w4 (.cells #[sv, .int .i64 ((l.length : Nat) : Int)] 39)
  have HX5 := Lib.hid (show IdxIn (w4.alloc (.cells #[sv, .int .i64 ((l.length : Nat) : Int)] 39)) (.agg #[sv, .int .i64 ((l.length : Nat) : Int)]) (starts (tabOf R) l) l.length from IdxIn.below ⟨sv, rfl, hI4⟩ hbx)
  have HS5 := Lib.hid (HS.out.below (below_trans' HB4.out hbx))
  obtain ⟨sa, scap, rfl, _, _, _⟩ := ints_cells hI4
  have HBx := Lib.hid hbx
  have HRx := Lib.hid hrx
  clear hB4 hI4 HT3 HR3 HB3 hn0 hbx hrx
  go_wp2_with fail
  generalize w4.alloc (.cells #[.slice sa (starts (tabOf R) l).length scap, .int .i64 ((l.length : Nat) : Int)] 39) = w5 at HX5 HS5 HBx HRx ⊢
  obtain ⟨xb, hxb⟩ : ∃ xb, w4.heap.size = xb := ⟨_, rfl⟩
  have HXb := Lib.hid hxb
  rw [hxb] at HRx HBx ⊢
  clear hxb
  go_loopw [0, 8] (fun lv iv wr => ∃ (i : Nat) (m : List Int) (sv : Value), i ≤ D.length ∧ i ≤ 12 ∧ iv = .int .i64 ((i : Nat) : Int) ∧ RunesIn wr lv m ∧ RunesOk m ∧ m.length ≤ 60 + 20 * i ∧ Below xb w4 wr ∧ wr.heap[xb]? = some (.cells #[sv, .int .i64 ((m.length : Nat) : Int)] 39 (0, 0)) ∧ IdxIn wr (.agg #[sv, .int .i64 ((m.length : Nat) : Int)]) (starts (tabOf R) m) m.length) (fun _ iv _ => D.length - (intOf iv).toNat)
  case atStart => exact ⟨0, l, _, Nat.zero_le _, Nat.zero_le _, rfl, HS5.out, HOk.out, by omega, HBx.out, HRx.out, HX5.out⟩
  case round =>
    obtain ⟨i, m, sv, hi, hi12, rfl, hS, hOk, hml, hB, hr, hX⟩ := hrel
    have HSr := Lib.hid hS
    have HOkr := Lib.hid hOk
    have HBr := Lib.hid hB
    have HRr := Lib.hid hr
    have HXr := Lib.hid hX
    obtain ⟨ma, mc, rfl, hmc, hmm, _⟩ := runes_cells hS
    unfold maxLen at hmm
    clear hS hOk hB hr hX HX5 HS5 HBx HRx
    by_cases hlt : i < D.length
    · have q0 : (i : Int) < (D.length : Int) := by omega
      by_cases hlt2 : i < 12
      · have q1 : (i : Int) < 12 := by omega
        have q2 : (0 : Int) ≤ (i : Int) := by omega
        have e1 := IntWalk.i64_in ((i : Int) + 1) (by omega)
        obtain ⟨y, hy⟩ : ∃ y, D[i]? = some y := ⟨D[i], List.getElem?_eq_getElem hlt⟩
        obtain ⟨li, hli, hlok⟩ := HDs.out y (List.mem_of_getElem? hy)
        obtain ⟨F, T, di⟩ := y
        have HBw := Lib.hid (show Below w.heap.size w wr from HB4.out.trans (HBr.out.mono (by rw [← HXb.out]; exact HB4.out.size)))
        have hxlt : xb < wr.heap.size := (Array.getElem?_eq_some_iff.1 HRr.out).1
        have HBx2 := Lib.hid (show xb ≤ wr.heap.size from Nat.le_of_lt hxlt)
        obtain ⟨pb, poff, _, hv, c0, c1, c2⟩ := deed_cells (HD.out.below HBw.out) hy
        cases hv
        obtain ⟨dia, dic, hdi, _, _, _⟩ := runes_cells hli
        have hdi : di = .slice dia li.length dic := hdi
        subst hdi
        have HLi := Lib.hid hli
        have HLok := Lib.hid hlok
        have hb6 := below1 wr (.cells #[.int .i64 F, .int .i64 T, .slice dia li.length dic] 47)
        have hr6 := heap_alloc_new wr (.cells #[.int .i64 F, .int .i64 T, .slice dia li.length dic] 47)
        clear hy hli hlok
        go_upto_region 9 with fail
        generalize wr.alloc (.cells #[.int .i64 F, .int .i64 T, .slice dia li.length dic] 47) = w6 at hb6 hr6 ⊢
        obtain ⟨db, hdb⟩ : ∃ db, wr.heap.size = db := ⟨_, rfl⟩
        have HDb := Lib.hid hdb
        rw [hdb] at hr6 ⊢
        clear c0 c1 c2
        have a0 := row_cells (i := 0) hr6 rfl
        have a1 := row_cells (i := 1) hr6 rfl
        have a2 := row_cells (i := 2) hr6 rfl
        have z2 := row_warm hr6 2
        clear hdb
        by_cases g0 : F < 0
        · go_wp2_with fail
          go_roundw
          case rel => exact ⟨i + 1, m, sv, by omega, by omega, by go_num, HSr.out.below hb6, HOkr.out, by omega, HBr.out.trans (hb6.mono HBx2.out), (hb6.block xb hxlt).trans HRr.out, HXr.out.below hb6⟩
          case measure => simp [intOf] <;> omega
        · have g0' : decide (F < 0) = false := decide_eq_false g0
          by_cases g1 : F > T
          · clear g0
            go_wp2_with fail
            go_roundw
            case rel => exact ⟨i + 1, m, sv, by omega, by omega, by go_num, HSr.out.below hb6, HOkr.out, by omega, HBr.out.trans (hb6.mono HBx2.out), (hb6.block xb hxlt).trans HRr.out, HXr.out.below hb6⟩
            case measure => simp [intOf] <;> omega
          · have g1' : decide (F > T) = false := decide_eq_false g1
            by_cases g2 : T > (m.length : Int)
            · clear g0 g1
              go_wp2_with fail
              go_roundw
              case rel => exact ⟨i + 1, m, sv, by omega, by omega, by go_num, HSr.out.below hb6, HOkr.out, by omega, HBr.out.trans (hb6.mono HBx2.out), (hb6.block xb hxlt).trans HRr.out, HXr.out.below hb6⟩
              case measure => simp [intOf] <;> omega
            · have g2' : decide (T > (m.length : Int)) = false := decide_eq_false g2
              obtain ⟨f, rfl⟩ : ∃ f : Nat, F = (f : Int) := ⟨F.toNat, by omega⟩
              obtain ⟨t, rfl⟩ : ∃ t : Nat, T = (t : Int) := ⟨T.toNat, by omega⟩
              have hft : f ≤ t := by omega
              have htl : t ≤ m.length := by omega
              clear g0 g1 g2
              have HB6 := Lib.hid hb6
              have HR6 := Lib.hid hr6
              clear hb6 hr6
              go_wp2_with fail
              refine (few_eq (HLi.out.below (below_trans' HBw.out HB6.out)) 20).mono ?_
              rintro e w' ⟨rfl, rfl⟩
              obtain ⟨ins, hins⟩ : ∃ ins, ins = li.take 20 := ⟨_, rfl⟩
              rw [← hins]
              have hinl : ins.length ≤ 20 := by rw [hins, List.length_take]; omega
              have HOki := Lib.hid (show RunesOk ins by rw [hins]; exact HLok.out.take 20)
              have HIns := Lib.hid (show RunesIn w (.slice dia ins.length dic) ins by rw [hins]; exact runes_few HLi.out 20)
              clear hins
              go_upto_region 11 with fail
              have hb7 := HB6.out.setCell (p := ⟨db, 2, none⟩) (by show wr.heap.size ≤ db; rw [HDb.out]; exact Nat.le_refl _) (.slice dia ins.length dic)
              have hr7 : (w6.setCell ⟨db, 2, none⟩ (.slice dia ins.length dic)).heap[db]? = some (.cells #[.int .i64 (f : Int), .int .i64 (t : Int), .slice dia ins.length dic] 47 (0, 0)) := heap_setCell_same _ _ _ _ _ _ HR6.out
              generalize w6.setCell ⟨db, 2, none⟩ (.slice dia ins.length dic) = w7 at hb7 hr7 ⊢
              have a0 := row_cells (i := 0) hr7 rfl
              have a1 := row_cells (i := 1) hr7 rfl
              have a2 := row_cells (i := 2) hr7 rfl
              have HB7 := Lib.hid hb7
              clear hr7 hb7 g0' g1' g2' z2 HR6 HB6
              have k1 : (0 : Int) ≤ (f : Int) := by omega
              have k2 : (f : Int) ≤ (mc : Int) := by omega
              have k3 : (0 : Int) ≤ (t : Int) := by omega
              have k4 : (t : Int) ≤ (m.length : Int) := by omega
              have k5 : (m.length : Int) ≤ (mc : Int) := by omega
              have k6 : ((m.length : Int) - (t : Int)).toNat = m.length - t := by omega
              have k7 : ((mc : Int) - (t : Int)).toNat = mc - t := by omega
              have HM7 := Lib.hid (HSr.out.below HB7.out)
              have HA := Lib.hid (show RunesIn w7 (.slice ma f mc) (m.take f) from runes_take HM7.out (by omega))
              have HIn := Lib.hid (HIns.out.below (below_trans' HBw.out HB7.out))
              have hsum : (m.take f).length + ins.length + (m.drop t).length ≤ 1000000 := by rw [List.length_take, List.length_drop]; omega
              by_cases hz : m.length = 0
              case' pos =>
                have HZ := Lib.hid hz
                clear hz
                rcases ma with _ | ad0
                case' none =>
                  have HC := Lib.hid (show RunesIn w7 (.slice none (m.length - t) (mc - t)) (m.drop t) by
                    rw [List.drop_eq_nil_of_le (by have := HZ.out; omega)]
                    exact runes_empty (cap := mc - t) (by rw [show m.length - t = 0 by have := HZ.out; omega]) (by unfold maxLen; omega))
                  go_region_held3 (fun w' => w'.cell? ⟨db, 0, none⟩ = some (.int .i64 (f : Int)) ∧ w'.cell? ⟨db, 1, none⟩ = some (.int .i64 (t : Int)) ∧ w'.cell? ⟨db, 2, none⟩ = some (.slice dia ins.length dic)) (first | exact ⟨b0, b1, b2⟩ | exact ⟨a0, a1, a2⟩ | go_keep)
                    (first
                      | (go_at_call 25; refine (tjoined_own (HA.out.drewN 1) (HIn.out.drewN 1) (HC.out.drewN 1) hsum).mono ?_; rintro e w8 ⟨u, rfl, hB8, hJ8⟩; have b0 := cell_later hB8 (show (w7.drewN 1).cell? _ = _ from a0); have b1 := cell_later hB8 (show (w7.drewN 1).cell? _ = _ from a1); have b2 := cell_later hB8 (show (w7.drewN 1).cell? _ = _ from a2); have HB8 := Lib.hid hB8; have HJ8 := Lib.hid hJ8; clear hB8 hJ8)
                      | fail)
                case' some =>
                  obtain ⟨ad, had⟩ : ∃ ad, (if mc = t then some ad0 else some (ad0.add t)) = ad := ⟨_, rfl⟩
                  have HC := Lib.hid (show RunesIn w7 (.slice ad (m.length - t) (mc - t)) (m.drop t) by
                    rw [List.drop_eq_nil_of_le (by have := HZ.out; omega)]
                    exact runes_empty (cap := mc - t) (by rw [show m.length - t = 0 by have := HZ.out; omega]) (by unfold maxLen; omega))
                  go_region_held3 (fun w' => w'.cell? ⟨db, 0, none⟩ = some (.int .i64 (f : Int)) ∧ w'.cell? ⟨db, 1, none⟩ = some (.int .i64 (t : Int)) ∧ w'.cell? ⟨db, 2, none⟩ = some (.slice dia ins.length dic)) (first | exact ⟨b0, b1, b2⟩ | exact ⟨a0, a1, a2⟩ | go_keep)
                    (first
                      | (go_at_call 25; refine (tjoined_own (HA.out.drewN 1) (HIn.out.drewN 1) (HC.out.drewN 1) hsum).mono ?_; rintro e w8 ⟨u, rfl, hB8, hJ8⟩; have b0 := cell_later hB8 (show (w7.drewN 1).cell? _ = _ from a0); have b1 := cell_later hB8 (show (w7.drewN 1).cell? _ = _ from a1); have b2 := cell_later hB8 (show (w7.drewN 1).cell? _ = _ from a2); have HB8 := Lib.hid hB8; have HJ8 := Lib.hid hJ8; clear hB8 hJ8)
                      | fail)
              case' neg =>
                obtain ⟨b, off, rfl, hb, _⟩ : ∃ b off, ma = some ⟨b, off, none⟩ ∧ b < w7.heap.size ∧ True := by
                  obtain ⟨_, _, hv, _, _, hc⟩ := runes_cells HM7.out
                  cases hv
                  obtain ⟨b, off, h1, h2, _⟩ := hc (by omega)
                  exact ⟨b, off, h1, h2, trivial⟩
                obtain ⟨ad, had⟩ : ∃ ad, (if mc = t then some (⟨b, off, none⟩ : Addr) else some ⟨b, off + t, none⟩) = ad := ⟨_, rfl⟩
                have HC := Lib.hid (show RunesIn w7 (.slice ad (m.length - t) (mc - t)) (m.drop t) by
                  rw [← had]
                  by_cases ht : mc = t
                  · rw [if_pos ht, List.drop_eq_nil_of_le (by omega)]
                    exact runes_empty (cap := mc - t) (by rw [show m.length - t = 0 by omega]) (by unfold maxLen; omega)
                  · rw [if_neg ht]
                    exact runes_drop HM7.out htl hb)
                go_region_held3 (fun w' => w'.cell? ⟨db, 0, none⟩ = some (.int .i64 (f : Int)) ∧ w'.cell? ⟨db, 1, none⟩ = some (.int .i64 (t : Int)) ∧ w'.cell? ⟨db, 2, none⟩ = some (.slice dia ins.length dic)) (first | exact ⟨b0, b1, b2⟩ | exact ⟨a0, a1, a2⟩ | go_keep)
                  (first
                    | (go_at_call 25; refine (tjoined_own (HA.out.drewN 1) (HIn.out.drewN 1) (HC.out.drewN 1) hsum).mono ?_; rintro e w8 ⟨u, rfl, hB8, hJ8⟩; have b0 := cell_later hB8 (show (w7.drewN 1).cell? _ = _ from a0); have b1 := cell_later hB8 (show (w7.drewN 1).cell? _ = _ from a1); have b2 := cell_later hB8 (show (w7.drewN 1).cell? _ = _ from a2); have HB8 := Lib.hid hB8; have HJ8 := Lib.hid hJ8; clear hB8 hJ8)
                    | fail)
              all_goals
                obtain ⟨m2, hm2⟩ : ∃ m2, m2 = m.take f ++ ins ++ m.drop t := ⟨_, rfl⟩
                rw [← hm2] at HJ8
                have hml2 : m2.length ≤ 60 + 20 * (i + 1) := by rw [hm2, List.length_append, List.length_append, List.length_take, List.length_drop]; omega
                have HM2 := Lib.hid hm2
                have HOkm := Lib.hid (show RunesOk m2 by
                  rw [hm2]
                  intro x hx
                  rcases List.mem_append.1 hx with hx | hx
                  · rcases List.mem_append.1 hx with hx | hx
                    · exact (HOkr.out.take f) x hx
                    · exact HOki.out x hx
                  · exact (HOkr.out.drop t) x hx)
                have hB78 : Below w7.heap.size w7 w8 := (below_dN (Below.refl _ w7) 1).trans (HB8.out.mono (Nat.le_refl _))
                have HBr8 := Lib.hid (below_trans' HB7.out hB78)
                have hx8 := (HBr8.out.block xb hxlt).trans HRr.out
                obtain ⟨xs0, hxs⟩ : ∃ x, x = sv := ⟨sv, rfl⟩
                have HX8 := Lib.hid (HXr.out.below HBr8.out)
                have x0 := row_cells (i := 0) hx8 rfl
                have x1 := row_cells (i := 1) hx8 rfl
                have y0 := row_warm hx8 0
                have y1 := row_warm hx8 1
                have HRx8 := Lib.hid hx8
                have HT8 := Lib.hid (HT4.out.below (show Below w4.heap.size w4 w8 by rw [HXb.out]; exact HBr.out.trans (HBr8.out.mono HBx2.out)))
                have HR8 := Lib.hid (HR4.out.below (show Below w4.heap.size w4 w8 by rw [HXb.out]; exact HBr.out.trans (HBr8.out.mono HBx2.out)))
                have HJr8 := Lib.hid (show RunesIn w8 u m2 from rd_of_owns HJ8.out)
                obtain ⟨ua, uc, rfl⟩ := slice_of_owns HJ8.out
                have e8 := IntWalk.i64_in ((f : Int) + (ins.length : Int)) (by omega)
                have HWin := Lib.hid (show Win m m2 f t (f + ins.length) by
                  have hw := Win.put (b := 0) (e := 0) HM2.out hft htl (Nat.zero_le _) htl
                  exact hw)
                obtain ⟨k0, hk0⟩ : ∃ k0 : Nat, f + ins.length = k0 := ⟨_, rfl⟩
                rw [hk0] at HWin
                have hk1 : (f : Int) + (ins.length : Int) = (k0 : Int) := by omega
                have HCh := Lib.hid (change_own HTk.out HX8.out HT8.out HJr8.out HOkm.out (by omega) (by omega) (starts_len _ _) (starts_len _ _) HWin.out)
                clear hx8 hB78 HB8 HA HC HIn hsum k1 k2 k3 k4 k5 k6 k7 a0 a1 a2 hm2 hxs
                go_wp2_with fail
                have HJo := Lib.hid HJ8.out
                have hx8lt : xb < w8.heap.size := Nat.lt_of_lt_of_le hxlt HBr8.out.size
                have h7lt : xb < w7.heap.size := Nat.lt_of_lt_of_le hxlt HB7.out.size
                refine HCh.out.mono ?_
                rintro e w9 ⟨u9, rfl, hB9, sv9, rfl, ho9⟩
                obtain ⟨na, nc, rfl⟩ := slice_of_owns ho9
                have HO9 := Lib.hid ho9
                have HJ9 := Lib.hid (owns_stays HJo.out hB9)
                have hx9 := (hB9.block xb hx8lt).trans HRx8.out
                have HRx9 := Lib.hid hx9
                have HBr9 := Lib.hid (below_trans' HBr8.out hB9)
                have HR9 := Lib.hid (HR8.out.below hB9)
                have x0 := row_cells (i := 0) hx9 rfl
                have x1 := row_cells (i := 1) hx9 rfl
                have y0 := row_warm hx9 0
                have y1 := row_warm hx9 1
                clear hB9 ho9 hx9 b0 b1 b2 e8 hk1
                go_wp2_with fail
                have hr10 := heap_setCell_same _ _ 1 _ _ (.int .i64 ((m2.length : Nat) : Int)) (heap_setCell_same _ _ 0 _ _ (.slice na (starts (tabOf R) m2).length nc) HRx9.out)
                have hJ10 := owns_store (owns_store HJ9.out (b := xb) (i := 0) (u := .slice na (starts (tabOf R) m2).length nc) h7lt) (b := xb) (i := 1) (u := .int .i64 ((m2.length : Nat) : Int)) h7lt
                have hO10 := owns_store (owns_store HO9.out (b := xb) (i := 0) (u := .slice na (starts (tabOf R) m2).length nc) hx8lt) (b := xb) (i := 1) (u := .int .i64 ((m2.length : Nat) : Int)) hx8lt
                have hB10 : Below xb w4 ((w9.setCell ⟨xb, 0, none⟩ (.slice na (starts (tabOf R) m2).length nc)).setCell ⟨xb, 1, none⟩ (.int .i64 ((m2.length : Nat) : Int))) :=
                  ((HBr.out.trans (HBr9.out.mono HBx2.out)).setCell (p := ⟨xb, 0, none⟩) (Nat.le_refl _) _).setCell (p := ⟨xb, 1, none⟩) (Nat.le_refl _) _
                generalize (w9.setCell ⟨xb, 0, none⟩ (.slice na (starts (tabOf R) m2).length nc)).setCell ⟨xb, 1, none⟩ (.int .i64 ((m2.length : Nat) : Int)) = w10 at hr10 hJ10 hO10 hB10 ⊢
                have hX10 : IdxIn w10 (.agg #[.slice na (starts (tabOf R) m2).length nc, .int .i64 ((m2.length : Nat) : Int)]) (starts (tabOf R) m2) m2.length := ⟨_, rfl, ints_of_owns hO10⟩
                have hM10 : RunesIn w10 (.slice ua m2.length uc) m2 := rd_of_owns hJ10
                have hR10 := HR4.out.below (show Below w4.heap.size w4 w10 by rw [HXb.out]; exact hB10)
                have hx10 : xb < w10.heap.size := (Array.getElem?_eq_some_iff.1 hr10).1
                have HX10 := Lib.hid hX10
                have HM10 := Lib.hid hM10
                have Hr10 := Lib.hid hr10
                have HB10 := Lib.hid hB10
                refine (isame_any hX10 hR10 hM10 HOkm.out (by omega)).mono ?_
                rintro e w11 ⟨rfl, hB11⟩
                have HX11 := Lib.hid (HX10.out.below hB11)
                have HM11 := Lib.hid (HM10.out.below hB11)
                have Hr11 := Lib.hid ((hB11.block xb hx10).trans Hr10.out)
                have HB11 := Lib.hid (HB10.out.trans (hB11.mono (Nat.le_of_lt hx10)))
                clear hX10 hM10 hR10 hr10 hJ10 hO10 hB10 hB11 x0 x1 y0 y1
                go_wp2_with fail
                go_roundw
                case rel => exact ⟨i + 1, m2, .slice na (starts (tabOf R) m2).length nc, by omega, by omega, by go_num, HM11.out, HOkm.out, hml2, HB11.out, Hr11.out, HX11.out⟩
                case measure => simp [intOf] <;> omega
      · have q1 : decide ((i : Int) < 12) = false := decide_eq_false (by omega)
        clear hlt2
        go_wp2_with fail
        refine (fin15 (w := w) ?_).mono ?_
        · exact HB4.out.trans (HBr.out.mono (by rw [← HXb.out]; exact HB4.out.size))
        rintro e w9 ⟨rfl, hB9⟩
        go_wp2_with fail
        go_ret
        exact ⟨rfl, hB9⟩
    · have q0 : decide ((i : Int) < (D.length : Int)) = false := decide_eq_false (by omega)
      have q1 : decide (i < D.length) = false := decide_eq_false hlt
      clear hlt
      go_wp2_with fail
      refine (fin15 (w := w) ?_).mono ?_
      · exact HB4.out.trans (HBr.out.mono (by rw [← HXb.out]; exact HB4.out.size))
      rintro e w9 ⟨rfl, hB9⟩
      go_wp2_with fail
      go_ret
      exact ⟨rfl, hB9⟩
end Go.Proofs.Ytblajooebmjfoaa
