/- Joined texts: FltA. -/
import Derived.Deep.CutBlock
import Derived.Test.YtkeainhjghdfcaaGreatFtbg

/- flow.Texts: its walk. (Printed by gen_flt.py.) -/
namespace Go.Proofs.YtkeainhjghdfcaaGreat
open Go.RowKit

def lenV : Value → Nat
  | .slice _ n _ => n
  | _ => 0
section
variable {R : List Rw} {s : List Int} {w : World} {sv : Value} {tp : Nat}
set_option maxRecDepth 100000 in
set_option maxHeartbeats 16000000 in
theorem ftexts_any (hT : Tb R w tp) {cols side : Int} (h0 : side = 0 ∨ side = 1 ∨ side = 2) (hc1 : 1 ≤ cols) (hc2 : cols ≤ 1000) (hs : RunesIn w sv s) (ok : RunesOk s) (hl : s.length ≤ 1000) :
    Calls Tryz.prog 44 #[.pointer (some ⟨tp, 0, none⟩), sv, .int .i64 cols, .int .i64 side] w fun e w' => ∃ u, e = .returned u ∧ Below w.heap.size w w' ∧ w'.ownsRow w.heap.size 9 1 u (textsFl R cols side s).length ((textsFl R cols side s).flatMap strE) := by
  have HT := Lib.hid hT
  have HS := Lib.hid hs
  have HOk := Lib.hid ok
  have HOf := Lib.hid (fof_any cols hT hs ok (by omega))
  have HBd := Lib.hid (fun (i : Nat) (r : Rw3) (hr : (rowsFl R cols (clus (tabOf R) s) 0)[i]? = some r) => row_bd hr (by omega))
  have hcl := chain_len (rowsFl_all R cols (clus (tabOf R) s))
  have hLL : (clus (tabOf R) s).length ≤ s.length := clusN_len (tabOf R) s.length s
  obtain ⟨sl, cap, rfl, hsc, hsm, HCells⟩ := runes_cells hs
  have HCells := Lib.hid HCells
  unfold textsFl
  generalize rowsFl R cols (clus (tabOf R) s) 0 = L at HOf HBd hcl ⊢
  rw [List.length_map]
  have hLlen : L.length ≤ 1000 := by omega
  unfold maxLen at hsm
  clear hT hs ok hcl hLL
  have g1 : decide (cols < 1) = false := decide_eq_false (by omega)
  have g2 : decide (cols > 1000) = false := decide_eq_false (by omega)
  have g0 : decide (side < 0) = false := decide_eq_false (by omega)
  have g0' : decide (side > 2) = false := decide_eq_false (by omega)
  go_enter Tryz.func44, Tryz.ntmps44
  go_wp2_with fail
  refine HOf.out.mono ?_
  rintro e w1 ⟨u, rfl, hB1, hX⟩
  have HX := Lib.hid hX
  have HB1 := Lib.hid hB1
  have HT1 := Lib.hid (HT.out.below hB1)
  have HS1 := Lib.hid (HS.out.below hB1)
  obtain ⟨ra, rc, rfl, _, hrm⟩ := r3_shape hX
  unfold maxLen at hrm
  clear hX hB1 HOf g1 g2 g0 g0'
  go_wp2_with fail
  go_loopw [9, 37] (fun ov iv wr => ∃ k : Nat, k ≤ L.length ∧ iv = .int .i64 ((k : Nat) : Int) ∧ Below w1.heap.size w1 wr ∧ wr.ownsRow w1.heap.size 9 1 ov k (((L.take k).map (flTx R cols side s)).flatMap strE)) (fun _ iv _ => L.length - (intOf iv).toNat)
  case atStart => exact ⟨0, Nat.zero_le _, rfl, .refl _ _, World.ownsRow_nil _ _ _ _⟩
  case round =>
    obtain ⟨k, hk, rfl, hB, hO⟩ := hrel
    have HB := Lib.hid hB
    have HO := Lib.hid hO
    obtain ⟨oa, oc, rfl⟩ := slice_of_owns hO
    by_cases hlt : k < L.length
    · obtain ⟨r, hr⟩ : ∃ r, L[k]? = some r := ⟨L[k], List.getElem?_eq_getElem hlt⟩
      obtain ⟨F, T, e1, e2, hFT, hTl, hw0, hw1⟩ := HBd.out k r hr
      have HTn := Lib.hid (show ((L.take (k + 1)).map (flTx R cols side s)).flatMap strE = ((L.take k).map (flTx R cols side s)).flatMap strE ++ strE (flTx R cols side s r) by rw [List.take_add_one, hr, List.map_append, List.flatMap_append]; simp)
      obtain ⟨b, off, _, hv, _, _, _, _, d0, d1, d2⟩ := r3_cells (Rw3In.below HX.out hB) hr
      cases hv
      obtain ⟨r0, r1, wd⟩ := r
      dsimp only at e1 e2 hw0 hw1 d0 d1 d2
      subst e1
      subst e2
      have HTx := Lib.hid (show flTx R cols side s ((F : Int), (T : Int), wd) = rowTx cols side wd (lineG R (clus (tabOf R) ((s.take T).drop F))) from rfl)
      obtain ⟨N, hN⟩ : ∃ N, N = roomN cols side wd := ⟨_, rfl⟩
      have HNr := Lib.hid hN
      have hNle := roomN_le (cols := cols) (side := side) hw0 (by omega)
      rw [← hN] at hNle
      have hNv := hN
      unfold roomN at hNv
      have e3 := IntWalk.i64_in (cols - wd) (by omega)
      have s0 : (k : Int) < (L.length : Int) := by omega
      have s1 : (0 : Int) ≤ (k : Int) := by omega
      have e9 := IntWalk.i64_in ((k : Int) + 1) (by omega)
      have hnX := heap_alloc_new wr (.cells #[.int .i64 (F : Int), .int .i64 (T : Int), .int .i64 wd] 164)
      have hbX := below1 wr (.cells #[.int .i64 (F : Int), .int .i64 (T : Int), .int .i64 wd] 164)
      have HBx := Lib.hid (HB.out.trans (hbX.mono HB.out.size))
      have HOx := Lib.hid (owns_stays HO.out hbX)
      clear hr hB hO hbX HB HO
      go_upto_region 7 with fail
      generalize wr.alloc (.cells #[.int .i64 (F : Int), .int .i64 (T : Int), .int .i64 wd] 164) = wx at hnX HBx HOx ⊢
      generalize wr.heap.size = xb at hnX ⊢
      have x0 := row_cells (i := 0) hnX rfl
      have x1 := row_cells (i := 1) hnX rfl
      have x2 := row_cells (i := 2) hnX rfl
      clear hnX d0 d1 d2
      go_upto_block 2 with fail
      go_cut [12] from 47 to 52 (fun v wz => v = .int .i64 (N : Int) ∧ wz = wx)
      case first =>
        have hm0 : 0 ≤ max (cols - wd) 0 := by omega
        have e6 := IntWalk.i64_in (max (cols - wd) 0 / 2) (by omega)
        have e7 := Int.tdiv_eq_ediv_of_nonneg (b := 2) hm0
        by_cases h : side = 0
        · have t0 : (side == 0) = true := by rw [h]; rfl
          have HE := Lib.hid (show (0 : Int) = (N : Int) by rw [if_pos h] at hNv; rw [hNv]; rfl)
          clear hNv
          go_wp2_with fail
          go_meet
          case rel => exact ⟨by rw [← HE.out], rfl⟩
        · have t0 : (side == 0) = false := by simpa using h
          by_cases h2 : side = 2
          · have t2 : (side == 2) = true := by rw [h2]; rfl
            have hE : max (cols - wd) 0 / 2 = (N : Int) := by rw [if_neg h, if_pos h2] at hNv; omega
            have HE := Lib.hid hE
            clear hNv hE hNle
            go_wp2_with fail
            go_meet
            case rel => exact ⟨by first | rw [HE.out] | rw [e7, HE.out], rfl⟩
          · have t2 : (side == 2) = false := by simpa using h2
            have hE : max (cols - wd) 0 = (N : Int) := by rw [if_neg h, if_neg h2] at hNv; omega
            have HE := Lib.hid hE
            clear hNv hE hNle
            go_wp2_with fail
            go_meet
            case rel => exact ⟨by rw [HE.out], rfl⟩
      case rest =>
      obtain ⟨hv12, hwz⟩ := hcut
      subst hv12
      rw [hwz]
      clear hwz hNv hN e3
      have HRep := Lib.hid (repeat_any N wx (by omega))
      obtain ⟨sb, soff, hsl, hsb, _⟩ := HCells.out (by omega)
      subst hsl
      go_wp2_with fail
      refine HRep.out.mono ?_
      rintro e w4 ⟨rfl, hB4⟩
      have x0 := cell_later hB4 x0
      have x1 := cell_later hB4 x1
      have HB4 := Lib.hid (HBx.out.trans (hB4.mono HBx.out.size))
      have HO4 := Lib.hid (owns_stays HOx.out hB4)
      have hsb4 : sb < w4.heap.size := by
        have h1 := HB1.out.size
        have h2 := HB4.out.size
        omega
      have HS4 := Lib.hid (HS1.out.below HB4.out)
      have HSub := Lib.hid (show RunesIn w4 (.slice (some ⟨sb, soff + F, none⟩) (T - F) (cap - F)) ((s.take T).drop F) from runes_sub HS4.out (i := F) (j := T) (by omega) hTl hsb4)
      have HOks := Lib.hid ((HOk.out.take T).drop F)
      have hsl2 : ((s.take T).drop F).length ≤ 1000 := by rw [List.length_drop, List.length_take]; omega
      have HLine := Lib.hid (line_any (HT1.out.below HB4.out) HSub.out HOks.out (by omega))
      have hLs := lineG_sz R (clus (tabOf R) ((s.take T).drop F))
      rw [clus_flat (tabOf R) _ _ (Nat.le_refl _)] at hLs
      have hLl := lineG_take_le R ((s.take T).drop F) (clus (tabOf R) ((s.take T).drop F)).length
      rw [List.take_length] at hLl
      generalize lineG R (clus (tabOf R) ((s.take T).drop F)) = G at HLine hLs hLl HTx
      have s3 : (0 : Int) ≤ (F : Int) := by omega
      have s4 : (F : Int) ≤ (T : Int) := by omega
      have s5 : (T : Int) ≤ (cap : Int) := by omega
      have s6 : ¬ cap = F := by omega
      clear HS4 HSub HOks hB4 HRep HBx HOx
      go_wp2_with fail
      refine HLine.out.mono ?_
      rintro e w5 ⟨u5, a5, rfl, hB5, hG5, _⟩
      have HG := Lib.hid hG5
      have HB5 := Lib.hid (HB4.out.trans (hB5.mono HB4.out.size))
      have HO5 := Lib.hid (owns_stays HO4.out hB5)
      have hbs5 := HB5.out.size
      obtain ⟨ga, gc, rfl, hgc, hgm⟩ := gly_shape hG5
      unfold maxLen at hgm
      clear hB5 hG5 HB4 HO4 HLine s3 s4 s5 s6 hsb hsb4 x0 x1 x2
      go_upto_block 3 with fail
      go_cut [14] from 66 to 83 (fun gv wz => ∃ q : Nat, q ≤ G.length ∧ gv = .slice ga q gc ∧ trimN G G.length = q ∧ wz = w5)
      case first =>
        go_wp2_with fail
        go_loopw [14] (fun gv wj => ∃ q : Nat, q ≤ G.length ∧ gv = .slice ga q gc ∧ trimN G q = trimN G G.length ∧ wj = w5) (fun gv _ => lenV gv)
        case atStart => exact ⟨G.length, Nat.le_refl _, rfl, rfl, rfl⟩
        case round =>
          rename World => wk
          obtain ⟨q, hq, rfl, hqt, hwk⟩ := hrel
          subst hwk
          have HQt := Lib.hid hqt
          clear hqt
          have h5 : q = 0 ∨ ∃ q' g, q = q' + 1 ∧ G[q']? = some g ∧ (g.1 = ⟨#[32]⟩ ∨ g.1 ≠ ⟨#[32]⟩) := by
            rcases q with _ | q'
            · exact .inl rfl
            · exact .inr ⟨q', G[q'], rfl, List.getElem?_eq_getElem (by omega), Decidable.em _⟩
          rcases h5 with hq0 | ⟨q', g, hqq, hg, hgt⟩
          · have dq0 : decide ((q : Int) > 0) = false := decide_eq_false (by omega)
            have dq1 : ¬ 0 < q := by omega
            have HE := Lib.hid (show trimN G G.length = q by rw [← HQt.out, hq0]; rfl)
            clear hq0
            go_wp2_with fail
            go_meet
            case rel => exact ⟨q, hq, rfl, HE.out, rfl⟩
          · obtain ⟨gb, goff, _, hv, _, _, _, x0, _⟩ := gly_cells HG.out hg
            cases hv
            have dq0 : decide ((q : Int) > 0) = true := decide_eq_true (by omega)
            have dq1 : (q : Int) > 0 := by omega
            have dq2 : 0 < q := by omega
            have e12 : (q : Int) - 1 = (q' : Int) := by omega
            have e11 : IntKind.i64.wrap (q' : Int) = (q' : Int) := IntWalk.i64_in _ (by omega)
            have s8 : (q' : Int) < (q : Int) := by omega
            have s9 : (0 : Int) ≤ (q' : Int) := by omega
            have s10 : (q' : Int) ≤ (gc : Int) := by omega
            by_cases hgt2 : g.1 = ⟨#[32]⟩
            · have hn : (g.1.toList == [32]) = true := by rw [hgt2]; decide +kernel
              have HE := Lib.hid (show trimN G q' = trimN G G.length by rw [← HQt.out, hqq, trimN_blank hg hgt2])
              have hqm : q' < q := by omega
              clear hgt hg hqq
              go_wp2_with fail
              go_roundw
              case rel => exact ⟨q', by omega, rfl, HE.out, trivial⟩
              case measure => simp [lenV] <;> omega
            · have hn : (g.1.toList == [32]) = false := by
                rw [beq_eq_false_iff_ne]
                exact fun e => hgt2 (toList_inj' (e.trans (by decide +kernel)))
              have HE := Lib.hid (show trimN G G.length = q by rw [← HQt.out, hqq, trimN_full hg hgt2])
              clear hgt hg hqq hgt2
              go_wp2_with fail
              go_meet
              case rel => exact ⟨q, hq, rfl, HE.out, rfl⟩
      case rest =>
      obtain ⟨q, hq, hgv, hqt, hwz⟩ := hcut
      subst hgv
      rw [hwz]
      clear hwz
      have HTt := Lib.hid (show flTx R cols side s ((F : Int), (T : Int), wd) = catG (repB N) (G.take q) by rw [HTx.out]; unfold rowTx; rw [hqt, ← HNr.out])
      clear hqt
      go_wp2_with fail
      go_loopw [13, 86] (fun tv jv wl => ∃ j : Nat, j ≤ q ∧ jv = .int .i64 ((j : Nat) : Int) ∧ tv = .string (catG (repB N) (G.take j)) ∧ Below w5.heap.size w5 wl) (fun _ jv _ => q - (intOf jv).toNat)
      case atStart => exact ⟨0, Nat.zero_le _, rfl, rfl, .refl _ _⟩
      case round =>
        rename World => wl
        obtain ⟨j2, hj2, rfl, rfl, hBl⟩ := hrel
        have HBl := Lib.hid hBl
        by_cases hjq : j2 < q
        · obtain ⟨g, hg⟩ : ∃ g, G[j2]? = some g := ⟨G[j2], List.getElem?_eq_getElem (by omega)⟩
          obtain ⟨gb, goff, _, hv, _, _, _, z0, z1⟩ := gly_cells (HG.out.below hBl) hg
          cases hv
          have hcs := catG_size (G.take j2) (repB N)
          have hst := szG_take G (j2 + 1)
          have hsx : szG (G.take (j2 + 1)) = szG (G.take j2) + g.1.size := by rw [take_snoc hg, szG_app, szG_one]
          have hrs := repB_size N
          have HCn := Lib.hid (show catG (repB N) (G.take (j2 + 1)) = catG (repB N) (G.take j2) ++ g.1 by rw [take_snoc hg, catG_snoc])
          obtain ⟨gt, gw⟩ := g
          dsimp only at z0 z1 hsx HCn
          have hnW := heap_alloc_new wl (.cells #[.string gt, .int .i64 gw] 97)
          have HBW := Lib.hid (HBl.out.trans ((below1 wl (.cells #[.string gt, .int .i64 gw] 97)).mono HBl.out.size))
          have cc2 := fun W => run_string_add_sum (P := Tryz.prog) W (catG (repB N) (G.take j2)) gt (by omega)
          have e13 := IntWalk.i64_in ((j2 : Int) + 1) (by omega)
          have s8 : (j2 : Int) < (q : Int) := by omega
          have s9 : (0 : Int) ≤ (j2 : Int) := by omega
          clear hg hcs hst hsx hrs hBl
          go_upto_region 20 with fail
          generalize wl.alloc (.cells #[.string gt, .int .i64 gw] 97) = W at hnW HBW ⊢
          generalize wl.heap.size = xb2 at hnW ⊢
          have y0 := row_cells (i := 0) hnW rfl
          clear hnW z0 z1
          go_wp2_with fail
          go_roundw
          case rel => exact ⟨j2 + 1, by omega, by go_num, by rw [HCn.out], HBW.out⟩
          case measure => simp [intOf] <;> omega
        · have hje : j2 = q := by omega
          subst hje
          have hbig : (k + 1) * 16 ≤ 140737488355328 := by omega
          have HBq := Lib.hid (HB5.out.trans (hBl.mono hbs5))
          have HOq := Lib.hid (owns_stays HO5.out hBl)
          have hbsq := HBq.out.size
          generalize catG (repB N) (G.take j2) = tt at HTt ⊢
          clear hjq hj2 hBl
          go_wp2_with (at_builtin; go_loud (refine wpList_app1 _ rfl (.tmp 95) (.tmp 97) _ rfl EStr _ _ _ rfl HOq.out 1 1 (strE tt) rfl (by decide) rfl (strE_one _) hbig hbsq ?_); intro g9 cp9 w9 ho9 hg9 hf9; have HB9 := Lib.hid (below_app HBq.out hbsq HOq.out (Nat.le_refl _) hg9); have HO9 := Lib.hid ho9; clear ho9 hg9 hf9)
          go_roundw
          case rel => exact ⟨k + 1, by omega, by go_num, HB9.out, by rw [HTn.out, HTt.out]; exact HO9.out⟩
          case measure => simp [intOf] <;> omega
    · have hke : k = L.length := by omega
      subst hke
      have hOe := HO.out
      rw [List.take_length] at hOe
      have HOe := Lib.hid hOe
      have s0 : ¬ L.length < L.length := hlt
      clear hOe HO hB hO hlt hk h0
      go_wp2_with fail
      go_ret
      exact ⟨_, rfl, HB1.out.trans (HB.out.mono HB1.out.size), owns_lower HOe.out HB1.out.size⟩
end
end Go.Proofs.YtkeainhjghdfcaaGreat
