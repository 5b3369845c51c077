/- Joined texts: Cwh. -/
import Derived.Test.YtkeainhjghdfcaaGreatCwbi
import Derived.Test.YtkeainhjghdfcaaGreatCwbg

/- ColumnsWhole: its walk. (Printed by gen_cwhole.py.) -/
namespace Go.Proofs.YtkeainhjghdfcaaGreat
open Go.RowKit

section
variable {R : List Rw} {LL : List (List Int)} {rows r : Nat}
theorem wds_at {i : Nat} {s : List Int} (h : LL[i]? = some s) : (wdsL R LL)[i]? = some (wdG (lineG R (clus (tabOf R) s))) := by unfold wdsL; rw [List.getElem?_map, h]; rfl
theorem txs_at {i : Nat} {s : List Int} (h : LL[i]? = some s) : (txsL R LL)[i]? = some (catG ⟨#[]⟩ (lineG R (clus (tabOf R) s))) := by unfold txsL; rw [List.getElem?_map, h]; rfl
theorem row_last (D : DullR R) (B : BlankR R) (hr : r < rows) : ∀ (f q i : Nat), LL.length - i ≤ f → i < LL.length → RowUp R (wdsL R LL) (txsL R LL) LL rows r q i → ∃ q i, RowUp R (wdsL R LL) (txsL R LL) LL rows r q i ∧ i < LL.length ∧ ¬ i + rows < LL.length
  | 0, q, i, hf, hi, _ => by omega
  | f + 1, q, i, hf, hi, h => by
    by_cases hn : i + rows < LL.length
    · have hs := List.getElem?_eq_getElem hi
      exact row_last D B hr f (q + 1) (i + rows) (by omega) hn (h.step D B hr hs (wds_at hs) (txs_at hs) (by rw [wds_len]; exact hn))
    · exact ⟨q, i, h, hi, hn⟩
/-- a row's text is read as its glyphs, which are no wider than the plan -/
theorem row_read (D : DullR R) (B : BlankR R) (F : FixR R) (hr : r < rows) (hrn : r < LL.length) (h0 : ∀ z ∈ planL (wdsL R LL) rows, 0 ≤ z) :
    ∃ G : List Gy, readG R (decS Dc0 (bytesN (rowT (wdsL R LL) (txsL R LL) rows r LL.length))) = G ∧ wdG G ≤ totalL (planL (wdsL R LL) rows) ∧ (∀ g ∈ G, g.2 = 1 ∨ g.2 = 2) := by
  obtain ⟨q, i, h, hi, hn⟩ := row_last D B hr LL.length 0 r (by omega) hrn (rowUp_zero hr)
  have hs := List.getElem?_eq_getElem hi
  obtain ⟨h1, h2, h3, _⟩ := h.last D hr h0 hs (wds_at hs) (txs_at hs) (by rw [wds_len]; exact hn)
  rw [wds_len] at h1 h2 h3
  have hne : ∀ g ∈ rowS R (wdsL R LL) LL rows r LL.length, g ≠ [] := by
    have key : ∀ (L : List (List Int)) (st : St), ChG (tabOf R) st L → ∀ g ∈ L, g ≠ [] := by
      intro L
      induction L with
      | nil => intro st _ g hg; cases hg
      | cons c L ih =>
        intro st hch g hg
        obtain ⟨hsol, _, hL⟩ := hch
        rcases List.mem_cons.1 hg with rfl | hg
        · exact solid_ne hsol
        · exact ih _ hL g hg
    exact key _ _ h1
  refine ⟨_, by rw [← h2]; exact read_chain F h1 hne, h3, fun g hg => ?_⟩
  obtain ⟨c, _, rfl⟩ := List.mem_map.1 hg
  show ((widN R c : Nat) : Int) = 1 ∨ ((widN R c : Nat) : Int) = 2
  unfold widN
  split
  · exact .inr rfl
  · exact .inl rfl
end
theorem hd_nay {P : Program} {md : Region.Mode} {l : List Oper} {Q : Exit → Act → World → Prop} {S : World → Prop} {fuel : Nat} {listed : Array Bool} {a : Act} {w : World} (i : Nat) {oi : Oper} (hi : l[i]? = some oi)
    (hs : Region.noSelect l.toArray = true) (hf : Region.free md l.toArray listed i = true) (hr : (Region.ready md l.toArray listed).contains i = true)
    (hQ : ∀ c a w, Q (.panic c) (a.put oi.dst undef) w → Q (.panic c) a w) (hw : Region.wanted oi (yielded l.toArray a.tmps) = false) (hS : S w)
    (h : wpAnyH P md l.toArray Q S fuel (listed.setIfInBounds i true) (a.put oi.dst undef) w) : wpAnyH P md l.toArray Q S (fuel + 1) listed a w :=
  wpAnyH_take (by simpa using hi) hs hf hr hQ (.inr ⟨hw, rfl⟩) hS h
set_option maxRecDepth 100000 in
set_option maxHeartbeats 1000000 in
theorem refFit_nil2 (za : Option Addr) (zc : Nat) (cols : Int) (w : World) : Calls Tryz.prog 40 #[.slice za 0 zc, .int .i64 cols] w fun e w' => e = .returned (.int .i64 0) ∧ w = w' := by
  go_enter Tryz.func40, Tryz.ntmps40
  go_wp2_with fail
  go_loopw [5] (fun iv wr => iv = .int .i64 1 ∧ wr = w) (fun _ _ => 0)
  case atStart => exact ⟨rfl, rfl⟩
  case round =>
    obtain ⟨rfl, rfl⟩ := hrel
    go_wp2_with fail
    go_ret
    exact ⟨rfl, rfl⟩
set_option maxRecDepth 100000 in
set_option maxHeartbeats 1000000 in
theorem refPlan_nil (za : Option Addr) (zc : Nat) (w : World) : Calls Tryz.prog 42 #[.slice za 0 zc, .int .i64 0] w fun e w' => e = .returned (.slice none 0 0) ∧ w = w' := by
  go_enter Tryz.func42, Tryz.ntmps42
  go_wp2_with fail
  go_loopw [5, 6] (fun ov iv wr => iv = .int .i64 0 ∧ ov = .slice none 0 0 ∧ wr = w) (fun _ _ _ => 0)
  case atStart => exact ⟨rfl, rfl, rfl⟩
  case round =>
    obtain ⟨rfl, rfl, rfl⟩ := hrel
    go_wp2_with fail
    go_ret
    exact ⟨rfl, rfl⟩
set_option maxRecDepth 100000 in
set_option maxHeartbeats 16000000 in
theorem columnsWhole_any (v0 : Value) (L0 : List (List Int)) (cols : Int) (w : World) (hW : TextsIn w v0 L0) (hok : ∀ l ∈ L0, RunesOk l) :
    Calls Tryz.prog 10 #[v0, .int .i64 cols] w fun e w' => e = .returned (.bool true) ∧ Below w.heap.size w w' := by
  obtain ⟨R, HFc, hD, hFx, hBl, hrows⟩ := fixRows_any
  have HF := Lib.hid HFc
  have HD := Lib.hid hD
  have HFx := Lib.hid hFx
  have HBlk := Lib.hid hBl
  have HRows := Lib.hid hrows
  have HTk := Lib.hid HFc.seg.tab
  clear HFc hrows hD hFx hBl
  have HFo := Lib.hid (fewW_ok hok)
  have hfl := fewW_len L0
  have HFe := Lib.hid (show (fewW L0).length = min 12 L0.length by unfold fewW; rw [List.length_map, List.length_take])
  have HFg := Lib.hid (fun (i : Nat) (l : List Int) (hi : i < 12) (hl : L0[i]? = some l) => show (fewW L0)[i]? = some (l.take 10) by unfold fewW; rw [List.getElem?_map, List.getElem?_take, if_pos hi, hl]; rfl)
  obtain ⟨us, ⟨wa, wc, rfl, hwc, hwm, hul, hcl⟩, hel⟩ := hW
  have HCl := Lib.hid hcl
  have HEl := Lib.hid hel
  have HOk0 := Lib.hid hok
  unfold maxLen at hwm
  rw [Nat.mul_one] at hul
  generalize fewW L0 = LL at HFo hfl HFe HFg
  have HUl := Lib.hid hul
  have HWl := Lib.hid (wds_len R LL)
  clear hok hcl hel hul
  go_enter Tryz.func10, Tryz.ntmps10
  go_wp2_with fail
  refine (HRows.out _).mono ?_
  rintro e w1 ⟨v, rfl, hB1, hR1⟩
  have HB1 := Lib.hid hB1
  have HR1 := Lib.hid hR1
  clear hB1 hR1
  go_wp2_with fail
  go_loopw [5, 6, 8] (fun fv zv iv wr => ∃ (k : Nat) (vs : List Value), k ≤ L0.length ∧ k ≤ 12 ∧ iv = .int .i64 ((k : Nat) : Int) ∧ Below w1.heap.size w1 wr ∧ wr.ownsRow w1.heap.size 35 1 fv k vs ∧ vs.length = k ∧ (∀ (i : Nat) (u : Value) (l : List Int), vs[i]? = some u → LL[i]? = some l → RunesIn w u l) ∧ wr.ownsRow w1.heap.size 3 1 zv k (ints ((wdsL R LL).take k))) (fun _ _ iv _ => L0.length - (intOf iv).toNat)
  case atStart => exact ⟨0, [], Nat.zero_le _, Nat.zero_le _, rfl, .refl _ _, World.ownsRow_nil _ _ _ _, rfl, fun i u l h => by simp at h, World.ownsRow_nil _ _ _ _⟩
  case round =>
    obtain ⟨k, vs, hk, hk2, rfl, hB, hO, hvl, hve, hZ⟩ := hrel
    have HB := Lib.hid hB
    have HO := Lib.hid hO
    have HZ := Lib.hid hZ
    have HVe := Lib.hid hve
    have HVl := Lib.hid hvl
    obtain ⟨oa, oc, rfl⟩ := slice_of_owns hO
    obtain ⟨za, zc, rfl⟩ := slice_of_owns hZ
    have hbs := hB.size
    clear hB hO hve hvl hZ
    have hw3 : (k < L0.length ∧ k < 12) ∨ k = LL.length := by have := HFe.out; omega
    rcases hw3 with ⟨hlt, hlt2⟩ | hke
    · obtain ⟨l, hl⟩ : ∃ l, L0[k]? = some l := ⟨L0[k], List.getElem?_eq_getElem hlt⟩
      obtain ⟨u, hu⟩ : ∃ u, us[k]? = some u := ⟨us[k]'(by rw [HUl.out]; exact hlt), List.getElem?_eq_getElem (by rw [HUl.out]; exact hlt)⟩
      obtain ⟨b, off, rfl, hb, hq⟩ := HCl.out (by omega)
      have hBw := HB1.out.trans (HB.out.mono HB1.out.size)
      have y0 := cell_later hBw (hq k u hu)
      have hr := HEl.out k u l hu hl
      have HFew := Lib.hid (few_runes hr 10)
      have HLg := HFg.out k l hlt2 hl
      have HLo := Lib.hid (HFo.out _ (List.mem_of_getElem? HLg))
      have HWd := Lib.hid (show ints ((wdsL R LL).take (k + 1)) = ints ((wdsL R LL).take k) ++ [.int .i64 (wdG (lineG R (clus (tabOf R) (l.take 10))))] by
        rw [List.take_add_one, wds_at HLg]
        unfold ints
        rw [List.map_append]; rfl)
      obtain ⟨sl, cap, rfl, _, _, _⟩ := runes_cells hr
      have HFa := Lib.hid (few_at (w := wr) (hr.below hBw) 10)
      have HFw := Lib.hid (show RunesIn w (.slice sl (min 10 l.length) cap) (l.take 10) from HFew.out)
      have hbig : (k + 1) * 24 ≤ 140737488355328 := by omega
      have hbig2 : (k + 1) * 8 ≤ 140737488355328 := by omega
      have e1 := IntWalk.i64_in ((k : Int) + 1) (by omega)
      have s0 : (k : Int) < (L0.length : Int) := by omega
      have s1 : (0 : Int) ≤ (k : Int) := by omega
      have s2 : (k : Int) < 12 := by omega
      have HVn := Lib.hid (show ∀ (i : Nat) (u : Value) (l' : List Int), (vs ++ [.slice sl (min 10 l.length) cap])[i]? = some u → LL[i]? = some l' → RunesIn w u l' by
        intro i u l' h1 h2
        by_cases hi : i < k
        · rw [List.getElem?_append_left (by rw [HVl.out]; exact hi)] at h1
          exact HVe.out i u l' h1 h2
        · have hik : i = k := by
            have := (List.getElem?_eq_some_iff.1 h1).1
            rw [List.length_append, HVl.out] at this
            simp at this
            omega
          subst hik
          rw [List.getElem?_append_right (by rw [HVl.out]; exact Nat.le_refl _), HVl.out, Nat.sub_self] at h1
          rw [HLg] at h2
          cases h1; cases h2
          exact HFw.out)
      have hl10 : (l.take 10).length = min 10 l.length := List.length_take
      have HRu := Lib.hid (fun (W : World) (h1 : Below w1.heap.size w1 W) => rcwidth_any HTk.out (HR1.out.below h1) (HFw.out.below (HB1.out.trans (h1.mono HB1.out.size))) HLo.out.1 (by have := HLo.out.2; omega))
      clear hl hu hq hr HLg hBw hl10
      generalize wdG (lineG R (clus (tabOf R) (l.take 10))) = wd at HWd HRu
      generalize catG ⟨#[]⟩ (lineG R (clus (tabOf R) (l.take 10))) = tx at HRu
      go_wp2_with fail
      refine HFa.out.mono ?_
      rintro e w5 ⟨rfl, rfl⟩
      clear y0
      go_wp2_with fail
      refine (HRu.out wr HB.out).mono ?_
      rintro e w5 ⟨rfl, hB5⟩
      have HB5 := Lib.hid (HB.out.trans (hB5.mono HB.out.size))
      have HO5 := Lib.hid (owns_stays HO.out hB5)
      have HZ5 := Lib.hid (owns_stays HZ.out hB5)
      have hbs5 := HB5.out.size
      clear hB5 HB HO HZ
      go_wp2_with (at_builtin; go_loud (first | (refine wpList_app1 _ rfl (.tmp 44) (.tmp 46) _ rfl ERR _ _ _ rfl HO5.out 1 1 [.slice sl (min 10 l.length) cap] rfl (by decide) rfl (by intro u hu; simp at hu; subst hu; rfl) hbig hbs5 ?_; intro g cp7 w7 ho7 hg7 hf7; have HB7 := Lib.hid (below_app HB5.out hbs5 HO5.out (Nat.le_refl _) hg7); have HO7 := Lib.hid ho7; have HZ7 := Lib.hid (owns_kept_types HO5.out HZ5.out (by decide) hg7); have hbs7 := HB7.out.size; clear ho7 hg7 hf7) | (refine wpList_app1 _ rfl (.tmp 48) (.tmp 50) _ rfl Ei _ _ _ rfl HZ7.out 1 1 [.int .i64 wd] rfl (by decide) rfl (one_int wd) hbig2 hbs7 ?_; intro g9 cp9 w9 ho9 hg9 hf9; have HB9 := Lib.hid (below_app HB7.out hbs7 HZ7.out (Nat.le_refl _) hg9); have HZ9 := Lib.hid ho9; have HO9 := Lib.hid (owns_kept_types HZ7.out HO7.out (by decide) hg9); clear ho9 hg9 hf9)))
      go_roundw
      case rel => exact ⟨k + 1, _, by omega, by omega, by go_num, HB9.out, HO9.out, by rw [List.length_append, HVl.out]; rfl, HVn.out, by rw [HWd.out]; exact HZ9.out⟩
      case measure => simp [intOf] <;> omega
    · have hBw := HB1.out.trans (HB.out.mono HB1.out.size)
      have HTx := Lib.hid (texts_of_own3 HO.out HVl.out hBw (HVl.out.trans hke) HVe.out)
      have hZe := HZ.out
      have hends : ¬ k < L0.length ∨ (k < L0.length ∧ ¬ k < 12) := by have := HFe.out; omega
      subst hke
      rw [List.take_of_length_le (by rw [HWl.out]; exact Nat.le_refl _)] at hZe
      have HRi := Lib.hid (show Ri wr.heap.size wr (.slice za LL.length zc) (wdsL R LL) by
        unfold Ri
        rw [HWl.out]
        exact rd_of_owns hZe)
      have HBw := Lib.hid hBw
      have HRr := Lib.hid (HR1.out.below HB.out)
      clear HVl HVe HO HZ hZe hBw
      rcases hends with q | ⟨q, q2⟩
      case' inl => have q2 : True := trivial
      case' inr => have q3 : ¬ (LL.length : Int) < 12 := by omega
      all_goals
        go_wp2_with fail
        refine (build_tb v R wr HRr.out HF.out.ok).mono ?_
        rintro e w2 ⟨tp, rfl, hB2, hT⟩
        have HB2 := Lib.hid (HBw.out.trans (hB2.mono HBw.out.size))
        have HR2 := Lib.hid (HRr.out.below hB2)
        have HT2 := Lib.hid (HTx.out.below hB2)
        have HZ2 := Lib.hid (show Ri w2.heap.size w2 (.slice za LL.length zc) (wdsL R LL) from (Rd.below HRi.out hB2 (Nat.le_refl _)).mono hB2.size)
        have HTb := Lib.hid hT
        clear hB2 hT q q2 HBw HRr HTx HRi
        by_cases h0 : 0 < LL.length
        · have HWb := Lib.hid (wds_bd (R := R) fun l hl => (HFo.out l hl).2)
          have HTs := Lib.hid (txs_sz (R := R) fun l hl => (HFo.out l hl).2)
          go_wp2_with fail
          refine (clay_any HTb.out HT2.out HFo.out hfl h0 cols).mono ?_
          rintro e w3 ⟨u, rows, rfl, hf, hB3, hS⟩
          have HB3 := Lib.hid (HB2.out.trans (hB3.mono HB2.out.size))
          have HR3 := Lib.hid (HR2.out.below hB3)
          have HT3 := Lib.hid (HT2.out.below hB3)
          have HZ3 := Lib.hid (show Ri w3.heap.size w3 (.slice za LL.length zc) (wdsL R LL) from (Rd.below HZ2.out hB3 (Nat.le_refl _)).mono hB3.size)
          have HS := Lib.hid (show StrsIn w3 u ((List.range rows).map fun r => rowT (wdsL R LL) (txsL R LL) rows r LL.length) by
            unfold StrsIn
            rw [List.length_map, List.length_range]
            exact hS)
          have HFt := Lib.hid hf
          have hf1 := hf.1
          have hf2 := hf.2.1
          rw [wds_len] at hf2
          clear hB3 hS hf HB2 HR2 HT2 HTb HZ2
          obtain ⟨TT, hTT⟩ : ∃ TT, TT = (List.range rows).map fun r => rowT (wdsL R LL) (txsL R LL) rows r LL.length := ⟨_, rfl⟩
          rw [← hTT] at HS
          have HTl := Lib.hid (show TT.length = rows by rw [hTT, List.length_map, List.length_range])
          have HTT := Lib.hid hTT
          clear hTT
          obtain ⟨ua, uc, hu, _, _⟩ := strs_shape HS.out
          rw [HTl.out] at hu
          subst hu
          have hnw : narrow (wdsL R LL) := ⟨by rw [wds_len]; omega, fun z hz => by have := HWb.out z hz; omega⟩
          have HNw := Lib.hid hnw
          have HFit := Lib.hid (refFit_some (.slice za LL.length zc) (wdsL R LL) cols w3 HZ3.out hnw (by rw [wds_len]; exact h0))
          have HPn := Lib.hid (show narrow (planL (wdsL R LL) rows) from by
            have h2 := planL_bd (B := 40) (by omega) (wdsL R LL) rows fun z hz => (HWb.out z hz).2
            exact ⟨by have := planL_len (wdsL R LL) rows; have hc := Nat.div_le_self (LL.length + rows - 1) rows; rw [wds_len] at this; omega, fun z hz => by have := h2 z hz; omega⟩)
          clear hnw
          go_wp2_with fail
          refine HFit.out.mono ?_
          rintro e w4 ⟨rows2, rfl, hB4, hg⟩
          obtain rfl := isFit_unique hg HFt.out
          have HB4 := Lib.hid (HB3.out.trans (hB4.mono HB3.out.size))
          have HR4 := Lib.hid (HR3.out.below hB4)
          have HT4 := Lib.hid (HT3.out.below hB4)
          have HZ4 := Lib.hid (show Ri w4.heap.size w4 (.slice za LL.length zc) (wdsL R LL) from (Rd.below HZ3.out hB4 (Nat.le_refl _)).mono hB4.size)
          have HS4 := Lib.hid (HS.out.below hB4)
          clear hB4 hg HB3 HR3 HT3 HZ3 HS HFit
          go_wp2_with fail
          refine (refPlan_any (.slice za LL.length zc) (wdsL R LL) rows2 w4 HZ4.out (by rw [wds_len]; omega) (by omega) (by omega)).mono ?_
          rintro e w5 ⟨vw, rfl, hB5, hO5⟩
          obtain ⟨pg, pq, rfl⟩ := slice_of_owns hO5
          have HB5 := Lib.hid (HB4.out.trans (hB5.mono HB4.out.size))
          have HR5 := Lib.hid (HR4.out.below hB5)
          have HT5 := Lib.hid (HT4.out.below hB5)
          have HS5 := Lib.hid (HS4.out.below hB5)
          have HPl := Lib.hid (refTotal_any _ (planL (wdsL R LL) rows2) w5 (rd_of_owns hO5) HPn.out)
          clear hB5 hO5 HB4 HR4 HT4 HS4 HZ4
          go_wp2_with fail
          refine HPl.out.mono ?_
          rintro e w6 ⟨rfl, rfl⟩
          clear HPl
          obtain ⟨ft, hft⟩ : ∃ ft, decide (totalL (planL (wdsL R LL) rows2) ≤ cols) = ft := ⟨_, rfl⟩
          have HFt2 := Lib.hid (show ft = true → totalL (planL (wdsL R LL) rows2) ≤ cols from fun h => by rw [h] at hft; exact of_decide_eq_true hft)
          go_wp2_with fail
          clear hft
          go_loopw [15] (fun iv wr => ∃ k : Nat, k ≤ rows2 ∧ iv = .int .i64 ((k : Nat) : Int) ∧ Below w5.heap.size w5 wr) (fun iv _ => rows2 - (intOf iv).toNat)
          case atStart => exact ⟨0, Nat.zero_le _, rfl, .refl _ _⟩
          case round =>
            rename World => wo
            obtain ⟨k, hk, rfl, hB⟩ := hrel
            have HBo := Lib.hid hB
            by_cases hlt : k < rows2
            · obtain ⟨t, ht⟩ : ∃ t, TT[k]? = some t := ⟨TT[k]'(by rw [HTl.out]; exact hlt), List.getElem?_eq_getElem (by rw [HTl.out]; exact hlt)⟩
              obtain ⟨b, off, _, hv, _, _, hcm, _, d0⟩ := strs_cell (HS5.out.below hB) ht
              rw [HTl.out] at hv
              cases hv
              have htt : t = rowT (wdsL R LL) (txsL R LL) rows2 k LL.length := by
                rw [HTT.out, List.getElem?_map, List.getElem?_range hlt] at ht
                exact (Option.some.inj ht).symm
              have hts : t.size ≤ 400000 := by
                have h1 := rowT_size (W := wdsL R LL) (TX := txsL R LL) (rows := rows2) (r := k) (C := 120) (D := 42) HTs.out (gap_le (D := 40) HWb.out) LL.length
                rw [htt]
                have := Nat.mul_le_mul_right (120 + 42) hfl
                omega
              have hp0 := fun z hz => (HPn.out.2 z hz).1
              obtain ⟨G, hG1, hG2, hG3⟩ := row_read HD.out HBlk.out HFx.out hlt (by omega) hp0
              rw [← htt] at hG1
              have HRd := Lib.hid (rread_any HTk.out (HR5.out.below hB) t hts)
              have hGl : G.length ≤ 800001 := by
                have hdl := decS_len (bytesN t)
                rw [bytesN_len] at hdl
                have hL : (clus (tabOf R) (decS Dc0 (bytesN t))).length ≤ (decS Dc0 (bytesN t)).length := clusN_len (tabOf R) _ _
                rw [← hG1]
                unfold readG
                rw [List.length_map]
                omega
              have HTtt := Lib.hid htt
              have HTt := Lib.hid ht
              have HG1 := Lib.hid hG1
              have HG2 := Lib.hid hG2
              have HG3 := Lib.hid hG3
              have e1 := IntWalk.i64_in ((k : Int) + 1) (by omega)
              have s0 : (k : Int) < (rows2 : Int) := by omega
              have s1 : (0 : Int) ≤ (k : Int) := by omega
              clear ht hB htt hG1 hG2 hG3 hp0 hcm
              go_wp2_with fail
              refine HRd.out.mono ?_
              rintro e w7 ⟨gu, rfl, hB7, hG⟩
              rw [HG1.out] at hG
              have HG := Lib.hid hG
              have HB7 := Lib.hid (HBo.out.trans (hB7.mono HBo.out.size))
              obtain ⟨ga, gc, rfl, hg1, hg2⟩ := gly_shape hG
              unfold maxLen at hg2
              clear hB7 hG HRd d0 HBo
              go_wp2_with fail
              go_loopw [16, 18] (fun nv iv wr => ∃ (j : Nat) (m : Int), j ≤ G.length ∧ nv = .int .i64 m ∧ iv = .int .i64 ((j : Nat) : Int) ∧ Below w5.heap.size w5 wr ∧ GlyIn wr (.slice ga G.length gc) G ∧ m = wdG (G.take j)) (fun _ iv _ => G.length - (intOf iv).toNat)
              case atStart => exact ⟨0, 0, Nat.zero_le _, rfl, rfl, HB7.out, HG.out, rfl⟩
              case round =>
                rename World => wg
                obtain ⟨j, m, hj, rfl, rfl, hB, hGi, hm⟩ := hrel
                have HB := Lib.hid hB
                have HGi := Lib.hid hGi
                have HM := Lib.hid hm
                have hr := wdG_rng (L := G.take j) (fun g hg => HG3.out g (List.mem_of_mem_take hg))
                rw [← hm, List.length_take] at hr
                clear hB hm hGi
                by_cases hjl : j < G.length
                · obtain ⟨x, hx⟩ : ∃ x, G[j]? = some x := ⟨G[j], List.getElem?_eq_getElem hjl⟩
                  have hxo := HG3.out x (List.mem_of_getElem? hx)
                  have HN := Lib.hid (show wdG (G.take (j + 1)) = wdG (G.take j) + x.2 by rw [take_snoc hx, wdG_app, wdG_one])
                  obtain ⟨x1, x2⟩ := x
                  have hx2 : x2 = 1 ∨ x2 = 2 := hxo
                  obtain ⟨b', off', _, hv, _, _, _, d1, d2⟩ := gly_cells HGi.out hx
                  cases hv
                  have e2 := IntWalk.i64_in (m + x2) (by omega)
                  have e3 := IntWalk.i64_in ((j : Int) + 1) (by omega)
                  have s2 : (j : Int) < (G.length : Int) := by omega
                  have s3 : (0 : Int) ≤ (j : Int) := by omega
                  clear hx hxo hr
                  go_wp2_with fail
                  go_roundw
                  case rel => exact ⟨j + 1, m + x2, by omega, rfl, by go_num, HB.out, HGi.out, by rw [HN.out, HM.out]⟩
                  case measure => simp [intOf] <;> omega
                · have hje : j = G.length := by omega
                  subst hje
                  rw [List.take_length] at HM
                  have hmc := HG2.out
                  rw [← HM.out] at hmc
                  clear hjl hj hr HGi
                  go_wp2_with fail
                  go_loopw [19] (fun iv wr => ∃ q i : Nat, RowUp R (wdsL R LL) (txsL R LL) LL rows2 k q i ∧ i < LL.length ∧ iv = .int .i64 ((i : Nat) : Int) ∧ Below w5.heap.size w5 wr) (fun iv _ => LL.length - (intOf iv).toNat)
                  case atStart => exact ⟨0, k, rowUp_zero hlt, by omega, rfl, HB.out⟩
                  case round =>
                    rename World => wl
                    obtain ⟨q, i, hU, hi, rfl, hB⟩ := hrel
                    have HU := Lib.hid hU
                    have HBl := Lib.hid hB
                    have hs := List.getElem?_eq_getElem hi
                    have e4 := IntWalk.i64_in ((i : Int) + (rows2 : Int)) (by omega)
                    have s4 : (i : Int) < (LL.length : Int) := by omega
                    have s5 : (0 : Int) ≤ (i : Int) := by omega
                    clear hB hU
                    by_cases hn : i + rows2 < LL.length
                    · have HUn := Lib.hid (HU.out.step HD.out HBlk.out hlt hs (wds_at hs) (txs_at hs) (by rw [wds_len]; exact hn))
                      have s6 : (i : Int) + (rows2 : Int) < (LL.length : Int) := by omega
                      clear hs
                      go_wp2_with fail
                      go_roundw
                      case rel => exact ⟨q + 1, i + rows2, HUn.out, hn, by go_num, HBl.out⟩
                      case measure => simp [intOf] <;> omega
                    · have s6 : ¬ (i : Int) + (rows2 : Int) < (LL.length : Int) := by omega
                      obtain ⟨b9, off9, _, u9, hv, _, _, _, _, y9, hsi⟩ := texts_cell (HT5.out.below HBl.out) hs
                      cases hv
                      obtain ⟨hso, hsl⟩ := HFo.out _ (List.mem_of_getElem? hs)
                      obtain ⟨_, _, _, hTe⟩ := HU.out.last HD.out hlt (fun z hz => (HPn.out.2 z hz).1) hs (wds_at hs) (txs_at hs) (by rw [wds_len]; exact hn)
                      rw [wds_len, ← HTtt.out] at hTe
                      obtain ⟨sa, sc, rfl, _, _, _⟩ := runes_cells hsi
                      have HRc := Lib.hid (rcwidth_any HTk.out (HR5.out.below HBl.out) hsi hso (by omega))
                      generalize rowT (wdsL R LL) (txsL R LL) rows2 k i = ta at hTe
                      generalize catG ⟨#[]⟩ (lineG R (clus (tabOf R) LL[i])) = tb at hTe HRc
                      generalize wdG (lineG R (clus (tabOf R) LL[i])) = wz at HRc
                      have HTe := Lib.hid hTe
                      have hsz : t.size = ta.size + tb.size := by rw [hTe, ByteArray.size_append]
                      clear hs hTe hsi hso hsl HU HB
                      go_wp2_with fail
                      refine HRc.out.mono ?_
                      rintro e w8 ⟨rfl, hB8⟩
                      have HB8 := Lib.hid (HBl.out.trans (hB8.mono HBl.out.size))
                      obtain ⟨b2, off2, _, hv, _, _, _, _, d0⟩ := strs_cell (HS5.out.below HB8.out) HTt.out
                      rw [HTl.out] at hv
                      cases hv
                      clear hB8 HBl HRc y9
                      have HS7 := Lib.hid (show ft = true → ¬ m > cols from fun h => by have := HFt2.out h; omega)
                      have s8 : ¬ (t.size : Int) < (tb.size : Int) := by omega
                      have e5 := IntWalk.i64_in ((t.size : Int) - (tb.size : Int)) (by omega)
                      have e6 := IntWalk.i64_in (ta.size : Int) (by omega)
                      have hX : t.extract ta.size (ta.size + tb.size) = tb := by rw [HTe.out]; exact ByteArray.extract_append_eq_right rfl rfl
                      go_upto_region 29 with fail
                      rcases ft with _ | _
                      case' false =>
                        refine wp_region_held_drew (S := fun w' => w'.cell? ⟨b, off + k, none⟩ = some (.string t)) (by kernel_rfl) d0 (fun hHeld => ?_)
                        refine hd_take 0 rfl (by kernel_rfl) (by kernel_rfl) (by kernel_rfl) (fun _ _ _ h => h) (by rfl) (by intro w hSw; (try dsimp only at hSw); have hs1 := hSw; go_simp; first | done | with_reducible rfl | omega) hHeld ?_
                        try simp only [Act.put, List.setIfInBounds_toArray, List.set_cons_zero, List.set_cons_succ]
                        refine hd_take 1 rfl (by kernel_rfl) (by kernel_rfl) (by kernel_rfl) (fun _ _ _ h => h) (by rfl) (by intro w hSw; (try dsimp only at hSw); have hs1 := hSw; go_simp; first | done | with_reducible rfl | omega) hHeld ?_
                        try simp only [Act.put, List.setIfInBounds_toArray, List.set_cons_zero, List.set_cons_succ]
                        refine hd_nay 2 rfl (by kernel_rfl) (by kernel_rfl) (by kernel_rfl) (fun _ _ _ h => h) (by rfl) hHeld ?_
                        try simp only [Act.put, List.setIfInBounds_toArray, List.set_cons_zero, List.set_cons_succ]
                        refine hd_nay 3 rfl (by kernel_rfl) (by kernel_rfl) (by kernel_rfl) (fun _ _ _ h => h) (by rfl) hHeld ?_
                        try simp only [Act.put, List.setIfInBounds_toArray, List.set_cons_zero, List.set_cons_succ]
                        refine hd_nay 4 rfl (by kernel_rfl) (by kernel_rfl) (by kernel_rfl) (fun _ _ _ h => h) (by rfl) hHeld ?_
                        try simp only [Act.put, List.setIfInBounds_toArray, List.set_cons_zero, List.set_cons_succ]
                      case' true =>
                        have s7 := HS7.out rfl
                        refine wp_region_held_drew (S := fun w' => w'.cell? ⟨b, off + k, none⟩ = some (.string t)) (by kernel_rfl) d0 (fun hHeld => ?_)
                        refine hd_take 0 rfl (by kernel_rfl) (by kernel_rfl) (by kernel_rfl) (fun _ _ _ h => h) (by rfl) (by intro w hSw; (try dsimp only at hSw); have hs1 := hSw; go_simp; first | done | with_reducible rfl | omega) hHeld ?_
                        try simp only [Act.put, List.setIfInBounds_toArray, List.set_cons_zero, List.set_cons_succ]
                        refine hd_take 1 rfl (by kernel_rfl) (by kernel_rfl) (by kernel_rfl) (fun _ _ _ h => h) (by rfl) (by intro w hSw; (try dsimp only at hSw); have hs1 := hSw; go_simp; first | done | with_reducible rfl | omega) hHeld ?_
                        try simp only [Act.put, List.setIfInBounds_toArray, List.set_cons_zero, List.set_cons_succ]
                        refine hd_take 2 rfl (by kernel_rfl) (by kernel_rfl) (by kernel_rfl) (fun _ _ _ h => h) (by rfl) (by intro w hSw; (try dsimp only at hSw); have hs1 := hSw; go_simp; first | done | with_reducible rfl | omega) hHeld ?_
                        try simp only [Act.put, List.setIfInBounds_toArray, List.set_cons_zero, List.set_cons_succ]
                        refine hd_take 3 rfl (by kernel_rfl) (by kernel_rfl) (by kernel_rfl) (fun _ _ _ h => h) (by rfl) (by intro w hSw; (try dsimp only at hSw); have hs1 := hSw; go_simp; first | done | with_reducible rfl | omega) hHeld ?_
                        try simp only [Act.put, List.setIfInBounds_toArray, List.set_cons_zero, List.set_cons_succ]
                        refine hd_take (v := .bool false) 4 rfl (by kernel_rfl) (by kernel_rfl) (by kernel_rfl) (fun _ _ _ h => h) (by rfl) (by intro w hSw; (try dsimp only at hSw); have hs1 := hSw; go_simp; first | done | with_reducible rfl | omega) hHeld ?_
                        try simp only [Act.put, List.setIfInBounds_toArray, List.set_cons_zero, List.set_cons_succ]
                      all_goals
                        refine hd_take 5 rfl (by kernel_rfl) (by kernel_rfl) (by kernel_rfl) (fun _ _ _ h => h) (by rfl) (by intro w hSw; (try dsimp only at hSw); have hs1 := hSw; go_simp; first | done | with_reducible rfl | omega) hHeld ?_
                        try simp only [Act.put, List.setIfInBounds_toArray, List.set_cons_zero, List.set_cons_succ]
                        refine hd_take 6 rfl (by kernel_rfl) (by kernel_rfl) (by kernel_rfl) (fun _ _ _ h => h) (by rfl) (by intro w hSw; (try dsimp only at hSw); have hs1 := hSw; go_simp; first | done | with_reducible rfl | omega) hHeld ?_
                        try simp only [Act.put, List.setIfInBounds_toArray, List.set_cons_zero, List.set_cons_succ]
                        refine hd_take 7 rfl (by kernel_rfl) (by kernel_rfl) (by kernel_rfl) (fun _ _ _ h => h) (by rfl) (by intro w hSw; (try dsimp only at hSw); have hs1 := hSw; go_simp; first | done | with_reducible rfl | omega) hHeld ?_
                        try simp only [Act.put, List.setIfInBounds_toArray, List.set_cons_zero, List.set_cons_succ]
                        refine hd_take 8 rfl (by kernel_rfl) (by kernel_rfl) (by kernel_rfl) (fun _ _ _ h => h) (by rfl) (by intro w hSw; (try dsimp only at hSw); have hs1 := hSw; go_simp; first | done | with_reducible rfl | omega) hHeld ?_
                        try simp only [Act.put, List.setIfInBounds_toArray, List.set_cons_zero, List.set_cons_succ]
                        refine hd_take 9 rfl (by kernel_rfl) (by kernel_rfl) (by kernel_rfl) (fun _ _ _ h => h) (by rfl) (by intro w hSw; (try dsimp only at hSw); have hs1 := hSw; go_simp; first | done | with_reducible rfl | omega) hHeld ?_
                        try simp only [Act.put, List.setIfInBounds_toArray, List.set_cons_zero, List.set_cons_succ]
                        refine hd_take 10 rfl (by kernel_rfl) (by kernel_rfl) (by kernel_rfl) (fun _ _ _ h => h) (by rfl) (by intro w hSw; (try dsimp only at hSw); have hs1 := hSw; go_simp; first | done | with_reducible rfl | omega) hHeld ?_
                        try simp only [Act.put, List.setIfInBounds_toArray, List.set_cons_zero, List.set_cons_succ]
                        refine hd_take 11 rfl (by kernel_rfl) (by kernel_rfl) (by kernel_rfl) (fun _ _ _ h => h) (by rfl) (by intro w hSw; (try dsimp only at hSw); have hs1 := hSw; go_simp; first | done | with_reducible rfl | omega) hHeld ?_
                        try simp only [Act.put, List.setIfInBounds_toArray, List.set_cons_zero, List.set_cons_succ]
                        refine hd_take 12 rfl (by kernel_rfl) (by kernel_rfl) (by kernel_rfl) (fun _ _ _ h => h) (by rfl) (by intro w hSw; (try dsimp only at hSw); have hs1 := hSw; go_simp; first | done | with_reducible rfl | omega) hHeld ?_
                        try simp only [Act.put, List.setIfInBounds_toArray, List.set_cons_zero, List.set_cons_succ]
                        refine hd_take 13 rfl (by kernel_rfl) (by kernel_rfl) (by kernel_rfl) (fun _ _ _ h => h) (by rfl) (by intro w hSw; (try dsimp only at hSw); have hs1 := hSw; go_simp; first | done | with_reducible rfl | omega) hHeld ?_
                        try simp only [Act.put, List.setIfInBounds_toArray, List.set_cons_zero, List.set_cons_succ]
                        refine hd_take (v := .bool false) 14 rfl (by kernel_rfl) (by kernel_rfl) (by kernel_rfl) (fun _ _ _ h => h) (by rfl) (by intro w hSw; (try dsimp only at hSw); have hs1 := hSw; go_simp; first | done | with_reducible rfl | omega) hHeld ?_
                        try simp only [Act.put, List.setIfInBounds_toArray, List.set_cons_zero, List.set_cons_succ]
                        refine hd_take 15 rfl (by kernel_rfl) (by kernel_rfl) (by kernel_rfl) (fun _ _ _ h => h) (by rfl) (by intro w hSw; (try dsimp only at hSw); have hs1 := hSw; go_simp; first | done | with_reducible rfl | omega) hHeld ?_
                        try simp only [Act.put, List.setIfInBounds_toArray, List.set_cons_zero, List.set_cons_succ]
                        refine hd_take 16 rfl (by kernel_rfl) (by kernel_rfl) (by kernel_rfl) (fun _ _ _ h => h) (by rfl) (by intro w hSw; (try dsimp only at hSw); have hs1 := hSw; go_simp; first | done | with_reducible rfl | omega) hHeld ?_
                        try simp only [Act.put, List.setIfInBounds_toArray, List.set_cons_zero, List.set_cons_succ]
                        refine hd_take 17 rfl (by kernel_rfl) (by kernel_rfl) (by kernel_rfl) (fun _ _ _ h => h) (by rfl) (by intro w hSw; (try dsimp only at hSw); have hs1 := hSw; go_simp; first | done | with_reducible rfl | omega) hHeld ?_
                        try simp only [Act.put, List.setIfInBounds_toArray, List.set_cons_zero, List.set_cons_succ]
                        refine hd_take 18 rfl (by kernel_rfl) (by kernel_rfl) (by kernel_rfl) (fun _ _ _ h => h) (by rfl) (by intro w hSw; (try dsimp only at hSw); have hs1 := hSw; go_simp; first | done | with_reducible rfl | omega) hHeld ?_
                        try simp only [Act.put, List.setIfInBounds_toArray, List.set_cons_zero, List.set_cons_succ]
                        refine hd_take 19 rfl (by kernel_rfl) (by kernel_rfl) (by kernel_rfl) (fun _ _ _ h => h) (by rfl) (by intro w hSw; (try dsimp only at hSw); have hs1 := hSw; go_simp; first | done | with_reducible rfl | omega) hHeld ?_
                        try simp only [Act.put, List.setIfInBounds_toArray, List.set_cons_zero, List.set_cons_succ]
                        refine hd_take 20 rfl (by kernel_rfl) (by kernel_rfl) (by kernel_rfl) (fun _ _ _ h => h) (by rfl) (by intro w hSw; (try dsimp only at hSw); have hs1 := hSw; go_simp; first | done | with_reducible rfl | omega) hHeld ?_
                        try simp only [Act.put, List.setIfInBounds_toArray, List.set_cons_zero, List.set_cons_succ]
                        refine hd_take 21 rfl (by kernel_rfl) (by kernel_rfl) (by kernel_rfl) (fun _ _ _ h => h) (by rfl) (by intro w hSw; (try dsimp only at hSw); have hs1 := hSw; go_simp; first | done | with_reducible rfl | omega) hHeld ?_
                        try simp only [Act.put, List.setIfInBounds_toArray, List.set_cons_zero, List.set_cons_succ]
                        refine hd_take 22 rfl (by kernel_rfl) (by kernel_rfl) (by kernel_rfl) (fun _ _ _ h => h) (by rfl) (by intro w hSw; (try dsimp only at hSw); have hs1 := hSw; go_simp; first | done | with_reducible rfl | omega) hHeld ?_
                        try simp only [Act.put, List.setIfInBounds_toArray, List.set_cons_zero, List.set_cons_succ]
                        refine hd_take 23 rfl (by kernel_rfl) (by kernel_rfl) (by kernel_rfl) (fun _ _ _ h => h) (by rfl) (by intro w hSw; (try dsimp only at hSw); have hs1 := hSw; go_simp; first | done | with_reducible rfl | omega) hHeld ?_
                        try simp only [Act.put, List.setIfInBounds_toArray, List.set_cons_zero, List.set_cons_succ]
                        refine hd_take 24 rfl (by kernel_rfl) (by kernel_rfl) (by kernel_rfl) (fun _ _ _ h => h) (by rfl) (by intro w hSw; (try dsimp only at hSw); have hs1 := hSw; go_simp; first | done | with_reducible rfl | omega) hHeld ?_
                        try simp only [Act.put, List.setIfInBounds_toArray, List.set_cons_zero, List.set_cons_succ]
                        refine hd_take 25 rfl (by kernel_rfl) (by kernel_rfl) (by kernel_rfl) (fun _ _ _ h => h) (by rfl) (by intro w hSw; (try dsimp only at hSw); have hs1 := hSw; go_simp; first | done | with_reducible rfl | omega) hHeld ?_
                        try simp only [Act.put, List.setIfInBounds_toArray, List.set_cons_zero, List.set_cons_succ]
                        refine hd_take 26 rfl (by kernel_rfl) (by kernel_rfl) (by kernel_rfl) (fun _ _ _ h => h) (by rfl) (by intro w hSw; (try dsimp only at hSw); have hs1 := hSw; go_simp; first | done | with_reducible rfl | omega) hHeld ?_
                        try simp only [Act.put, List.setIfInBounds_toArray, List.set_cons_zero, List.set_cons_succ]
                        refine hd_take 27 rfl (by kernel_rfl) (by kernel_rfl) (by kernel_rfl) (fun _ _ _ h => h) (by rfl) (by intro w hSw; (try dsimp only at hSw); have hs1 := hSw; go_simp; first | done | with_reducible rfl | omega) hHeld ?_
                        try simp only [Act.put, List.setIfInBounds_toArray, List.set_cons_zero, List.set_cons_succ]
                        refine hd_take 28 rfl (by kernel_rfl) (by kernel_rfl) (by kernel_rfl) (fun _ _ _ h => h) (by rfl) (by intro w hSw; (try dsimp only at hSw); have hs1 := hSw; go_simp; first | done | with_reducible rfl | omega) hHeld ?_
                        try simp only [Act.put, List.setIfInBounds_toArray, List.set_cons_zero, List.set_cons_succ]
                        refine hd_take (v := .string tb) 29 rfl (by kernel_rfl) (by kernel_rfl) (by kernel_rfl) (fun _ _ _ h => h) (by rfl) (by intro w hSw; (try dsimp only at hSw); have hs1 := hSw; go_simp; first | done | with_reducible rfl | omega) hHeld ?_
                        try simp only [Act.put, List.setIfInBounds_toArray, List.set_cons_zero, List.set_cons_succ]
                        refine hd_take 30 rfl (by kernel_rfl) (by kernel_rfl) (by kernel_rfl) (fun _ _ _ h => h) (by rfl) (by intro w hSw; (try dsimp only at hSw); have hs1 := hSw; go_simp; first | done | with_reducible rfl | omega) hHeld ?_
                        try simp only [Act.put, List.setIfInBounds_toArray, List.set_cons_zero, List.set_cons_succ]
                        refine hd_take (v := .bool false) 31 rfl (by kernel_rfl) (by kernel_rfl) (by kernel_rfl) (fun _ _ _ h => h) (by rfl) (by intro w hSw; (try dsimp only at hSw); have hs1 := hSw; go_simp; first | done | with_reducible rfl | omega) hHeld ?_
                        try simp only [Act.put, List.setIfInBounds_toArray, List.set_cons_zero, List.set_cons_succ]
                        refine hd_take 32 rfl (by kernel_rfl) (by kernel_rfl) (by kernel_rfl) (fun _ _ _ h => h) (by rfl) (by intro w hSw; (try dsimp only at hSw); have hs1 := hSw; go_simp; first | done | with_reducible rfl | omega) hHeld ?_
                        try simp only [Act.put, List.setIfInBounds_toArray, List.set_cons_zero, List.set_cons_succ]
                        refine wpAnyH_done (by kernel_rfl) ?_ _
                        have HB9 := Lib.hid (show Below w5.heap.size w5 w8.drew from below_dN HB8.out 1)
                        clear hHeld d0 HB8
                        generalize w8.drew = w10 at HB9 ⊢
                        go_wp2_with fail
                        go_roundw
                        case rel => exact ⟨k + 1, by omega, by go_num, HB9.out⟩
                        case measure => simp [intOf] <;> omega
            · have s0 : ¬ (k : Int) < (rows2 : Int) := by omega
              clear hB hlt hk
              go_wp2_with fail
              refine (fin45 (HB5.out.trans (HBo.out.mono HB5.out.size))).mono ?_
              rintro e w9 ⟨rfl, hB9⟩
              go_wp2_with fail
              go_ret
              exact ⟨rfl, hB9⟩
        · have hl0 : LL.length = 0 := by omega
          have hc0 : planL [] 0 = planL [] 0 := rfl
          clear hc0
          rw [hl0]
          clear hl0 h0
          go_wp2_with fail
          refine (clay_nil tp oa oc cols w2).mono ?_
          rintro e w3 ⟨b, c, rfl, hB3⟩
          have HB3 := Lib.hid (HB2.out.trans (hB3.mono HB2.out.size))
          clear hB3 HB2 HR2 HT2 HTb HZ2
          go_wp2_with fail
          refine (refFit_nil2 za zc cols w3).mono ?_
          rintro e w4 ⟨rfl, rfl⟩
          go_wp2_with fail
          refine (refPlan_nil za zc w3).mono ?_
          rintro e w4 ⟨rfl, rfl⟩
          have HPl := Lib.hid (refTotal_any (.slice none 0 0) [] w3 (Rd.nil _ _ _) ⟨by simp, by simp⟩)
          go_wp2_with fail
          refine HPl.out.mono ?_
          rintro e w6 ⟨rfl, rfl⟩
          clear HPl
          go_wp2_with fail
          go_loopw [15] (fun iv wr => iv = .int .i64 0 ∧ wr = w3) (fun _ _ => 0)
          case atStart => exact ⟨rfl, rfl⟩
          case round =>
            rename World => wo
            obtain ⟨rfl, rfl⟩ := hrel
            go_wp2_with fail
            refine (fin45 HB3.out).mono ?_
            rintro e w9 ⟨rfl, hB9⟩
            go_wp2_with fail
            go_ret
            exact ⟨rfl, hB9⟩
end Go.Proofs.YtkeainhjghdfcaaGreat
