/- Joined texts: LayC. -/
import Derived.Test.YtkeainhjghdfcaaGreatClbi
import Derived.Test.YtkeainhjghdfcaaGreatClbd
import Derived.Test.YtkeainhjghdfcaaGreatClab

/- ColumnsLay: its walk. (Printed by gen_laylaw.py.) -/
namespace Go.Proofs.YtkeainhjghdfcaaGreat
open Go.RowKit

set_option maxRecDepth 100000 in
set_option maxHeartbeats 4000000 in
theorem clay_nil (tp : Nat) (a : Option Addr) (cap : Nat) (cols : Int) (w : World) :
    Calls Tryz.prog 36 #[.pointer (some ⟨tp, 0, none⟩), .slice a 0 cap, .int .i64 cols] w fun e w' => ∃ b c, e = .returned (.slice b 0 c) ∧ Below w.heap.size w w' := by
  have mk1 : (Instr.makeSlice 75 (.int .i64 0) (.int .i64 0)).run Tryz.prog w = .ok (.slice (some ⟨w.heap.size, 0, none⟩) 0 0) (w.alloc (.cells #[] 3)) := mk_ints w 0 (by omega)
  have hza : (w.alloc (.cells #[] 3)).heap.size = w.heap.size + 1 := by simp
  have mk2 : (Instr.makeSlice 69 (.int .i64 0) (.int .i64 0)).run Tryz.prog (w.alloc (.cells #[] 3)) = .ok (.slice (some ⟨w.heap.size + 1, 0, none⟩) 0 0) ((w.alloc (.cells #[] 3)).alloc (.cells #[] 9)) := by
    have := mk_strs (w.alloc (.cells #[] 3)) 0 (by omega)
    rw [hza] at this
    exact this
  have hB := (below1 w (.cells #[] 3)).trans ((below1 (w.alloc (.cells #[] 3)) (.cells #[] 9)).mono (by rw [hza]; omega))
  have HB := Lib.hid hB
  go_enter Tryz.func36, Tryz.ntmps36
  go_upto_region 3 with fail
  generalize (w.alloc (.cells #[] 3)).alloc (.cells #[] 9) = w1 at HB ⊢
  clear mk1 mk2 hza hB
  go_wp2_with fail
  go_loopw [29] (fun iv wr => iv = .int .i64 0 ∧ wr = w1) (fun _ _ => 0)
  case atStart => exact ⟨rfl, rfl⟩
  case round =>
    obtain ⟨rfl, rfl⟩ := hrel
    have hfit := fit_nil (.slice (some ⟨w.heap.size, 0, none⟩) 0 0) cols wr ⟨_, _, rfl, Nat.le_refl _, by unfold maxLen; omega, rfl, fun h => absurd h (Nat.lt_irrefl _)⟩
    have HFit := Lib.hid hfit
    clear hfit
    go_wp2_with fail
    refine HFit.out.mono ?_
    rintro e w8 ⟨rfl, hB8⟩
    have hzb : (w8.alloc (.cells #[.int .i64 0, .slice none 0 0] 152)).heap.size = w8.heap.size + 1 := by simp
    have mk3 : (Instr.makeSlice 69 (.int .i64 0) (.int .i64 0)).run Tryz.prog (w8.alloc (.cells #[.int .i64 0, .slice none 0 0] 152)) = .ok (.slice (some ⟨w8.heap.size + 1, 0, none⟩) 0 0) ((w8.alloc (.cells #[.int .i64 0, .slice none 0 0] 152)).alloc (.cells #[] 9)) := by
      have := mk_strs (w8.alloc (.cells #[.int .i64 0, .slice none 0 0] 152)) 0 (by omega)
      rw [hzb] at this
      exact this
    have hB9 := hB8.trans (((below1 w8 (.cells #[.int .i64 0, .slice none 0 0] 152)).trans ((below1 (w8.alloc (.cells #[.int .i64 0, .slice none 0 0] 152)) (.cells #[] 9)).mono (by rw [hzb]; omega))).mono hB8.size)
    have HB9 := Lib.hid (HB.out.trans (hB9.mono HB.out.size))
    clear hzb hB9 hB8
    go_upto_region 16 with fail
    generalize (w8.alloc (.cells #[.int .i64 0, .slice none 0 0] 152)).alloc (.cells #[] 9) = w9 at HB9 ⊢
    clear mk3
    go_wp2_with fail
    go_loopw [70] (fun iv wr => iv = .int .i64 0 ∧ wr = w9) (fun _ _ => 0)
    case atStart => exact ⟨rfl, rfl⟩
    case round =>
      rename World => wz
      obtain ⟨rfl, rfl⟩ := hrel
      go_wp2_with fail
      go_ret
      exact ⟨_, _, rfl, HB9.out⟩
set_option maxRecDepth 100000 in
set_option maxHeartbeats 1000000 in
theorem refFit_nil (cols : Int) (w : World) : Calls Tryz.prog 40 #[.slice none 0 0, .int .i64 cols] w fun e w' => e = .returned (.int .i64 0) ∧ w = w' := by
  go_enter Tryz.func40, Tryz.ntmps40
  go_wp2_with fail
  go_loopw [5] (fun iv wr => iv = .int .i64 1 ∧ wr = w) (fun _ _ => 0)
  case atStart => exact ⟨rfl, rfl⟩
  case round =>
    obtain ⟨rfl, rfl⟩ := hrel
    go_wp2_with fail
    go_ret
    exact ⟨rfl, rfl⟩
set_option maxRecDepth 100000 in
set_option maxHeartbeats 1000000 in
theorem rlay_nil (rv : Value) (a : Option Addr) (cap : Nat) (cols : Int) (w : World) :
    Calls Tryz.prog 37 #[rv, .slice a 0 cap, .int .i64 cols] w fun e w' => e = .returned (.slice none 0 0) ∧ w = w' := by
  go_enter Tryz.func37, Tryz.ntmps37
  go_wp2_with fail
  go_loopw [7, 8, 9] (fun wv tv iv wr => iv = .int .i64 0 ∧ wv = .slice none 0 0 ∧ tv = .slice none 0 0 ∧ wr = w) (fun _ _ _ _ => 0)
  case atStart => exact ⟨rfl, rfl, rfl, rfl⟩
  case round =>
    obtain ⟨rfl, rfl, rfl, rfl⟩ := hrel
    go_wp2_with fail
    refine (refFit_nil cols wr).mono ?_
    rintro e w1 ⟨rfl, rfl⟩
    go_wp2_with fail
    go_ret
    exact ⟨rfl, rfl⟩
/-- words that are not too long, nor too many -/
def fewW (LL : List (List Int)) : List (List Int) := (LL.take 12).map (·.take 10)
theorem fewW_len (LL : List (List Int)) : (fewW LL).length ≤ 12 := by unfold fewW; rw [List.length_map, List.length_take]; omega
theorem fewW_ok {LL : List (List Int)} (h : ∀ p ∈ LL, RunesOk p) : ∀ p ∈ fewW LL, RunesOk p ∧ p.length ≤ 10 := by
  intro p hp
  obtain ⟨q, hq, rfl⟩ := List.mem_map.1 hp
  exact ⟨(h q (List.mem_of_mem_take hq)).take 10, by rw [List.length_take]; omega⟩
theorem texts_of_own3 {W : World} {w0 : World} {B n : Nat} {e : TypeId} {pv : Value} {vs : List Value} {LL : List (List Int)} (h : W.ownsRow B e 1 pv n vs) (hn : vs.length = n) (hb : Below w0.heap.size w0 W) (hl : vs.length = LL.length) (hel : ∀ (i : Nat) (u : Value) (l : List Int), vs[i]? = some u → LL[i]? = some l → RunesIn w0 u l) : TextsIn W pv LL := by
  subst hn
  exact texts_of_own h hb hl hel
set_option maxRecDepth 100000 in
set_option maxHeartbeats 16000000 in
theorem columnsLay_any (v0 : Value) (L0 : List (List Int)) (cols : Int) (w : World) (hW : TextsIn w v0 L0) (hok : ∀ l ∈ L0, RunesOk l) :
    Calls Tryz.prog 9 #[v0, .int .i64 cols] w fun e w' => e = .returned (.bool true) ∧ Below w.heap.size w w' := by
  obtain ⟨R, HFc, hrows⟩ := apiRows_any
  have HF := Lib.hid HFc
  have HRows := Lib.hid hrows
  have HTk := Lib.hid HFc.seg.tab
  clear HFc hrows
  have HFo := Lib.hid (fewW_ok hok)
  have hfl := fewW_len L0
  have hfe : (fewW L0).length = min 12 L0.length := by unfold fewW; rw [List.length_map, List.length_take]
  have HFe := Lib.hid hfe
  have HFg := Lib.hid (fun (i : Nat) (l : List Int) (hi : i < 12) (hl : L0[i]? = some l) => show (fewW L0)[i]? = some (l.take 10) by unfold fewW; rw [List.getElem?_map, List.getElem?_take, if_pos hi, hl]; rfl)
  obtain ⟨us, ⟨wa, wc, rfl, hwc, hwm, hul, hcl⟩, hel⟩ := hW
  have HCl := Lib.hid hcl
  have HEl := Lib.hid hel
  unfold maxLen at hwm
  rw [Nat.mul_one] at hul
  generalize fewW L0 = LL at HFo hfl hfe HFe HFg
  have HUl := Lib.hid hul
  clear hok hcl hel hfe hul
  go_enter Tryz.func9, Tryz.ntmps9
  go_wp2_with fail
  go_loopw [5, 6] (fun fv iv wr => ∃ (k : Nat) (vs : List Value), k ≤ L0.length ∧ k ≤ 12 ∧ iv = .int .i64 ((k : Nat) : Int) ∧ Below w.heap.size w wr ∧ wr.ownsRow w.heap.size 35 1 fv k vs ∧ vs.length = k ∧ (∀ (i : Nat) (u : Value) (l : List Int), vs[i]? = some u → LL[i]? = some l → RunesIn w u l)) (fun _ iv _ => L0.length - (intOf iv).toNat)
  case atStart => exact ⟨0, [], Nat.zero_le _, Nat.zero_le _, rfl, .refl _ _, World.ownsRow_nil _ _ _ _, rfl, fun i u l h => by simp at h⟩
  case round =>
    obtain ⟨k, vs, hk, hk2, rfl, hB, hO, hvl, hve⟩ := hrel
    have HB := Lib.hid hB
    have HO := Lib.hid hO
    have HVe := Lib.hid hve
    have HVl := Lib.hid hvl
    obtain ⟨oa, oc, rfl⟩ := slice_of_owns hO
    have hbs := hB.size
    clear hB hO hve hvl
    have hw3 : (k < L0.length ∧ k < 12) ∨ k = LL.length := by have := HFe.out; omega
    rcases hw3 with ⟨hlt, hlt2⟩ | hke
    · obtain ⟨l, hl⟩ : ∃ l, L0[k]? = some l := ⟨L0[k], List.getElem?_eq_getElem hlt⟩
      obtain ⟨u, hu⟩ : ∃ u, us[k]? = some u := ⟨us[k]'(by rw [HUl.out]; exact hlt), List.getElem?_eq_getElem (by rw [HUl.out]; exact hlt)⟩
      obtain ⟨b, off, rfl, hb, hq⟩ := HCl.out (by omega)
      have y0 := cell_later HB.out (hq k u hu)
      have hr := HEl.out k u l hu hl
      have HFew := Lib.hid (few_runes hr 10)
      have HLg := HFg.out k l hlt2 hl
      obtain ⟨sl, cap, rfl, _, _, _⟩ := runes_cells hr
      have HFa := Lib.hid (few_at (w := wr) (hr.below HB.out) 10)
      have hbig : (k + 1) * 24 ≤ 140737488355328 := by omega
      have e1 := IntWalk.i64_in ((k : Int) + 1) (by omega)
      have s0 : (k : Int) < (L0.length : Int) := by omega
      have s1 : (0 : Int) ≤ (k : Int) := by omega
      have s2 : (k : Int) < 12 := by omega
      have HVn := Lib.hid (show ∀ (i : Nat) (u : Value) (l' : List Int), (vs ++ [.slice sl (min 10 l.length) cap])[i]? = some u → LL[i]? = some l' → RunesIn w u l' by
        intro i u l' h1 h2
        by_cases hi : i < k
        · rw [List.getElem?_append_left (by rw [HVl.out]; exact hi)] at h1
          exact HVe.out i u l' h1 h2
        · have hik : i = k := by
            have := (List.getElem?_eq_some_iff.1 h1).1
            rw [List.length_append, HVl.out] at this
            simp at this
            omega
          subst hik
          rw [List.getElem?_append_right (by rw [HVl.out]; exact Nat.le_refl _), HVl.out, Nat.sub_self] at h1
          rw [HLg] at h2
          cases h1; cases h2
          exact HFew.out)
      clear hl hu hq hr HLg
      go_wp2_with fail
      refine HFa.out.mono ?_
      rintro e w5 ⟨rfl, rfl⟩
      clear y0
      go_wp2_with (at_builtin; go_loud (refine wpList_app1 _ rfl (.tmp 21) (.tmp 27) _ rfl ERR _ _ _ rfl HO.out 1 1 [.slice sl (min 10 l.length) cap] rfl (by decide) rfl (by intro u hu; simp at hu; subst hu; rfl) hbig hbs ?_); intro g cp7 w7 ho7 hg7 hf7; have HB7 := Lib.hid (below_app HB.out hbs HO.out (Nat.le_refl _) hg7); have HO7 := Lib.hid ho7; clear ho7 hg7 hf7)
      go_roundw
      case rel => exact ⟨k + 1, _, by omega, by omega, by go_num, HB7.out, HO7.out, by rw [List.length_append, HVl.out]; rfl, HVn.out⟩
      case measure => simp [intOf] <;> omega
    · have HTx := Lib.hid (texts_of_own3 HO.out HVl.out HB.out (HVl.out.trans hke) HVe.out)
      have hends : ¬ k < L0.length ∨ (k < L0.length ∧ ¬ k < 12) := by have := HFe.out; omega
      subst hke
      clear HVl HVe HO
      rcases hends with q | ⟨q, q2⟩
      case' inl => have q2 : True := trivial
      case' inr => have q3 : ¬ (LL.length : Int) < 12 := by omega
      all_goals
        go_wp2_with fail
        refine (HRows.out _).mono ?_
        rintro e w1 ⟨v, rfl, hB1, hR1⟩
        have HB1 := Lib.hid (HB.out.trans (hB1.mono HB.out.size))
        have HR1 := Lib.hid hR1
        have HT1 := Lib.hid (HTx.out.below hB1)
        clear hB1 hR1 HB HTx q q2
        go_wp2_with fail
        refine (build_tb v R w1 HR1.out HF.out.ok).mono ?_
        rintro e w2 ⟨tp, rfl, hB2, hT⟩
        have HB2 := Lib.hid (HB1.out.trans (hB2.mono HB1.out.size))
        have HR2 := Lib.hid (HR1.out.below hB2)
        have HT2 := Lib.hid (HT1.out.below hB2)
        have HTb := Lib.hid hT
        clear hB2 hT HB1 HR1 HT1
        by_cases h0 : 0 < LL.length
        · go_wp2_with fail
          refine (clay_any HTb.out HT2.out HFo.out hfl h0 cols).mono ?_
          rintro e w3 ⟨u, rows, rfl, hf, hB3, hS⟩
          have HB3 := Lib.hid (HB2.out.trans (hB3.mono HB2.out.size))
          have HRl := Lib.hid (rlay_any HTk.out (HR2.out.below hB3) (HT2.out.below hB3) HFo.out hfl h0 cols)
          have HS := Lib.hid (show StrsIn w3 u ((List.range rows).map fun r => rowT (wdsL R LL) (txsL R LL) rows r LL.length) by
            unfold StrsIn
            rw [List.length_map, List.length_range]
            exact hS)
          have HFt := Lib.hid hf
          clear hB3 hS hf HB2 HR2 HT2 HTb
          obtain ⟨TT, hTT⟩ : ∃ TT, TT = (List.range rows).map fun r => rowT (wdsL R LL) (txsL R LL) rows r LL.length := ⟨_, rfl⟩
          rw [← hTT] at HS
          have HTT := Lib.hid hTT
          clear hTT
          obtain ⟨ua, uc, hu, _, _⟩ := strs_shape HS.out
          subst hu
          go_wp2_with fail
          refine HRl.out.mono ?_
          rintro e w4 ⟨u2, rows2, rfl, hf2, hB4, hS2⟩
          obtain rfl := isFit_unique hf2 HFt.out
          have HB4 := Lib.hid (HB3.out.trans (hB4.mono HB3.out.size))
          have HS4 := Lib.hid (HS.out.below hB4)
          have HU4 := Lib.hid (show StrsIn w4 u2 TT by rw [HTT.out]; exact hS2)
          clear hB4 hS2 HB3 HS HRl hf2 HFt HTT
          obtain ⟨va, vc, hv, _, _⟩ := strs_shape HU4.out
          subst hv
          go_wp2_with fail
          go_loopw [10] (fun iv wr => ∃ k : Nat, k ≤ TT.length ∧ iv = .int .i64 ((k : Nat) : Int) ∧ Below w4.heap.size w4 wr) (fun iv _ => TT.length - (intOf iv).toNat)
          case atStart => exact ⟨0, Nat.zero_le _, rfl, .refl _ _⟩
          case round =>
            rename World => wo
            obtain ⟨k, hk, rfl, hB⟩ := hrel
            have HBo := Lib.hid hB
            by_cases hlt : k < TT.length
            · obtain ⟨t, ht⟩ : ∃ t, TT[k]? = some t := ⟨TT[k], List.getElem?_eq_getElem hlt⟩
              obtain ⟨b, off, _, hv, _, _, hcm, _, d0⟩ := strs_cell (HS4.out.below hB) ht
              cases hv
              obtain ⟨b', off', _, hv, _, _, _, _, d1⟩ := strs_cell (HU4.out.below hB) ht
              cases hv
              have hkm : TT.length ≤ maxLen := by omega
              unfold maxLen at hkm
              have e1 := IntWalk.i64_in ((k : Int) + 1) (by omega)
              have s0 : (k : Int) < (TT.length : Int) := by omega
              have s1 : (0 : Int) ≤ (k : Int) := by omega
              clear ht hB hlt hkm hcm
              go_upto_region 14 with fail
              refine wp_region_held_drew (S := fun w' => w'.cell? ⟨b, off + k, none⟩ = some (.string t) ∧ w'.cell? ⟨b', off' + k, none⟩ = some (.string t)) (by kernel_rfl) ⟨d0, d1⟩ (fun hHeld => ?_)
              refine hd_take 0 rfl (by kernel_rfl) (by kernel_rfl) (by kernel_rfl) (fun _ _ _ h => h) (by rfl) (by intro w hSw; (try dsimp only at hSw); obtain ⟨hs1, hs2⟩ := hSw; go_simp; first | done | with_reducible rfl) hHeld ?_
              try simp only [Act.put, List.setIfInBounds_toArray, List.set_cons_zero, List.set_cons_succ]
              refine hd_take 1 rfl (by kernel_rfl) (by kernel_rfl) (by kernel_rfl) (fun _ _ _ h => h) (by rfl) (by intro w hSw; (try dsimp only at hSw); obtain ⟨hs1, hs2⟩ := hSw; go_simp; first | done | with_reducible rfl) hHeld ?_
              try simp only [Act.put, List.setIfInBounds_toArray, List.set_cons_zero, List.set_cons_succ]
              refine hd_take 2 rfl (by kernel_rfl) (by kernel_rfl) (by kernel_rfl) (fun _ _ _ h => h) (by rfl) (by intro w hSw; (try dsimp only at hSw); obtain ⟨hs1, hs2⟩ := hSw; go_simp; first | done | with_reducible rfl) hHeld ?_
              try simp only [Act.put, List.setIfInBounds_toArray, List.set_cons_zero, List.set_cons_succ]
              refine hd_take 3 rfl (by kernel_rfl) (by kernel_rfl) (by kernel_rfl) (fun _ _ _ h => h) (by rfl) (by intro w hSw; (try dsimp only at hSw); obtain ⟨hs1, hs2⟩ := hSw; go_simp; first | done | with_reducible rfl) hHeld ?_
              try simp only [Act.put, List.setIfInBounds_toArray, List.set_cons_zero, List.set_cons_succ]
              refine hd_take 4 rfl (by kernel_rfl) (by kernel_rfl) (by kernel_rfl) (fun _ _ _ h => h) (by rfl) (by intro w hSw; (try dsimp only at hSw); obtain ⟨hs1, hs2⟩ := hSw; go_simp; first | done | with_reducible rfl) hHeld ?_
              try simp only [Act.put, List.setIfInBounds_toArray, List.set_cons_zero, List.set_cons_succ]
              refine hd_take 5 rfl (by kernel_rfl) (by kernel_rfl) (by kernel_rfl) (fun _ _ _ h => h) (by rfl) (by intro w hSw; (try dsimp only at hSw); obtain ⟨hs1, hs2⟩ := hSw; go_simp; first | done | with_reducible rfl) hHeld ?_
              try simp only [Act.put, List.setIfInBounds_toArray, List.set_cons_zero, List.set_cons_succ]
              refine hd_take 6 rfl (by kernel_rfl) (by kernel_rfl) (by kernel_rfl) (fun _ _ _ h => h) (by rfl) (by intro w hSw; (try dsimp only at hSw); obtain ⟨hs1, hs2⟩ := hSw; go_simp; first | done | with_reducible rfl) hHeld ?_
              try simp only [Act.put, List.setIfInBounds_toArray, List.set_cons_zero, List.set_cons_succ]
              refine hd_take 7 rfl (by kernel_rfl) (by kernel_rfl) (by kernel_rfl) (fun _ _ _ h => h) (by rfl) (by intro w hSw; (try dsimp only at hSw); obtain ⟨hs1, hs2⟩ := hSw; go_simp; first | done | with_reducible rfl) hHeld ?_
              try simp only [Act.put, List.setIfInBounds_toArray, List.set_cons_zero, List.set_cons_succ]
              refine hd_take 8 rfl (by kernel_rfl) (by kernel_rfl) (by kernel_rfl) (fun _ _ _ h => h) (by rfl) (by intro w hSw; (try dsimp only at hSw); obtain ⟨hs1, hs2⟩ := hSw; go_simp; first | done | with_reducible rfl) hHeld ?_
              try simp only [Act.put, List.setIfInBounds_toArray, List.set_cons_zero, List.set_cons_succ]
              refine wpAnyH_done (by kernel_rfl) ?_ _
              have HB6 := Lib.hid (show Below w4.heap.size w4 wo.drew from below_dN HBo.out 1)
              clear hHeld d0 d1 HBo
              generalize wo.drew = w6 at HB6 ⊢
              go_wp2_with fail
              go_roundw
              case rel => exact ⟨k + 1, by omega, by go_num, HB6.out⟩
              case measure => simp [intOf] <;> omega
            · have s0 : ¬ k < TT.length := hlt
              clear hB hlt hk
              go_wp2_with fail
              refine (fin45 (HB4.out.trans (HBo.out.mono HB4.out.size))).mono ?_
              rintro e w9 ⟨rfl, hB9⟩
              go_wp2_with fail
              go_ret
              exact ⟨rfl, hB9⟩
        · have hl0 : LL.length = 0 := by omega
          have HL0 := Lib.hid hl0
          rw [hl0]
          clear hl0 h0
          go_wp2_with fail
          refine (clay_nil tp oa oc cols w2).mono ?_
          rintro e w3 ⟨b, c, rfl, hB3⟩
          have HB3 := Lib.hid (HB2.out.trans (hB3.mono HB2.out.size))
          clear hB3 HB2 HR2 HT2 HTb
          go_wp2_with fail
          refine (rlay_nil v oa oc cols w3).mono ?_
          rintro e w4 ⟨rfl, rfl⟩
          go_wp2_with fail
          go_loopw [10] (fun iv wr => iv = .int .i64 0 ∧ wr = w3) (fun _ _ => 0)
          case atStart => exact ⟨rfl, rfl⟩
          case round =>
            rename World => wo
            obtain ⟨rfl, rfl⟩ := hrel
            go_wp2_with fail
            refine (fin45 HB3.out).mono ?_
            rintro e w9 ⟨rfl, hB9⟩
            go_wp2_with fail
            go_ret
            exact ⟨rfl, hB9⟩
end Go.Proofs.YtkeainhjghdfcaaGreat
