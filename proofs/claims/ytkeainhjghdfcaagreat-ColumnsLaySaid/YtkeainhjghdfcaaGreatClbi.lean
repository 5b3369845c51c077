/- Joined texts: LayB. -/
import Derived.Test.YtkeainhjghdfcaaGreatClbh

/- The document's Lay of words. (Printed by gen_rlay.py.) -/
namespace Go.Proofs.YtkeainhjghdfcaaGreat
open Go.RowKit

set_option maxRecDepth 100000 in
set_option maxHeartbeats 1000000 in
theorem blanks_any (n : Nat) (w : World) (h : n ≤ 1000000) : Calls Tryz.prog 90 #[.int .i64 (n : Int)] w fun e w' => e = .returned (.string (repB n)) ∧ w = w' := by
  go_enter Tryz.func90, Tryz.ntmps90
  go_wp2_with fail
  go_loopw [3, 4] (fun sv iv wr => ∃ k : Nat, k ≤ n ∧ iv = .int .i64 ((k : Nat) : Int) ∧ sv = .string (repB k) ∧ wr = w) (fun _ iv _ => n - (intOf iv).toNat)
  case atStart => exact ⟨0, Nat.zero_le _, rfl, by rw [repB_zero], rfl⟩
  case round =>
    obtain ⟨k, hk, rfl, rfl, rfl⟩ := hrel
    by_cases hlt : k < n
    · have e1 := IntWalk.i64_in ((k : Int) + 1) (by omega)
      have cc := run_string_add_sum (P := Tryz.prog) wr (repB k) ⟨#[32]⟩ (by rw [repB_size]; show k + 1 ≤ _; omega)
      have HS := Lib.hid (repB_succ k)
      go_wp2_with fail
      go_roundw
      case rel => exact ⟨k + 1, by omega, by go_num, by rw [HS.out], trivial⟩
      case measure => simp [intOf] <;> omega
    · have hke : k = n := by omega
      subst hke
      go_wp2_with fail
      go_ret
      exact ⟨rfl, rfl⟩
section
variable {R : List Rw} {LL : List (List Int)} {w : World} {wv rv : Value}
set_option maxRecDepth 100000 in
set_option maxHeartbeats 16000000 in
theorem rlay_any (H : (tabOf R).Ok) (hR : RowsIn w rv R) (hW : TextsIn w wv LL) (hok : ∀ l ∈ LL, RunesOk l ∧ l.length ≤ 10) (hn : LL.length ≤ 12) (h0 : 0 < LL.length) (cols : Int) :
    Calls Tryz.prog 37 #[rv, wv, .int .i64 cols] w fun e w' => ∃ u rows, e = .returned u ∧ isFit (wdsL R LL) cols rows ∧ Below w.heap.size w w' ∧ StrsIn w' u ((List.range rows).map fun r => rowT (wdsL R LL) (txsL R LL) rows r LL.length) := by
  have HR := Lib.hid hR
  have HW := Lib.hid hW
  have HOk := Lib.hid hok
  have HTk := Lib.hid H
  obtain ⟨wa, wc, rfl, hwc, hwm⟩ := texts_shape hW
  unfold maxLen at hwm
  have HL1 := Lib.hid (wds_len R LL)
  have HL2 := Lib.hid (txs_len R LL)
  have HWb := Lib.hid (wds_bd (R := R) fun l hl => (hok l hl).2)
  have HTs := Lib.hid (txs_sz (R := R) fun l hl => (hok l hl).2)
  clear hR hW hok H
  go_enter Tryz.func37, Tryz.ntmps37
  go_wp2_with fail
  go_loopw [7, 8, 9] (fun wv tv iv wr => ∃ k : Nat, k ≤ LL.length ∧ iv = .int .i64 ((k : Nat) : Int) ∧ Below w.heap.size w wr ∧ wr.ownsRow w.heap.size 3 1 wv k (ints ((wdsL R LL).take k)) ∧ wr.ownsRow w.heap.size 9 1 tv k (((txsL R LL).take k).flatMap strE)) (fun _ _ iv _ => LL.length - (intOf iv).toNat)
  case atStart => exact ⟨0, Nat.zero_le _, rfl, .refl _ _, World.ownsRow_nil _ _ _ _, World.ownsRow_nil _ _ _ _⟩
  case round =>
    obtain ⟨k, hk, rfl, hB, hO, hA⟩ := hrel
    have HB := Lib.hid hB
    obtain ⟨pa, pc, rfl⟩ := slice_of_owns hO
    obtain ⟨qa, qc, rfl⟩ := slice_of_owns hA
    have HO := Lib.hid hO
    have HA := Lib.hid hA
    have hbs := HB.out.size
    clear hB hO hA
    by_cases hlt : k < LL.length
    · obtain ⟨s, hs⟩ : ∃ s, LL[k]? = some s := ⟨LL[k], List.getElem?_eq_getElem hlt⟩
      obtain ⟨b, off, _, u, hv, _, _, _, _, y, hsi⟩ := texts_cell HW.out hs
      cases hv
      have y0 := cell_later HB.out y
      obtain ⟨hso, hsl⟩ := HOk.out s (List.mem_of_getElem? hs)
      obtain ⟨sa, sc, rfl, _, _, _⟩ := runes_cells hsi
      have HSi := Lib.hid hsi
      have HSo := Lib.hid hso
      have HWd := Lib.hid (show ints ((wdsL R LL).take (k + 1)) = ints ((wdsL R LL).take k) ++ [.int .i64 (wdG (lineG R (clus (tabOf R) s)))] by
        rw [List.take_add_one, show (wdsL R LL)[k]? = some (wdG (lineG R (clus (tabOf R) s))) by unfold wdsL; rw [List.getElem?_map, hs]; rfl]
        unfold ints
        rw [List.map_append]; rfl)
      have HTx := Lib.hid (show ((txsL R LL).take (k + 1)).flatMap strE = ((txsL R LL).take k).flatMap strE ++ strE (catG ⟨#[]⟩ (lineG R (clus (tabOf R) s))) by
        rw [List.take_add_one, show (txsL R LL)[k]? = some (catG ⟨#[]⟩ (lineG R (clus (tabOf R) s))) by unfold txsL; rw [List.getElem?_map, hs]; rfl, List.flatMap_append]
        simp)
      have r0 : (k : Int) < (LL.length : Int) := by omega
      have r1 : (0 : Int) ≤ (k : Int) := by omega
      have e1 := IntWalk.i64_in ((k : Int) + 1) (by omega)
      have hbig : (k + 1) * 8 ≤ 140737488355328 := by omega
      have hbig2 : (k + 1) * 16 ≤ 140737488355328 := by omega
      clear hs hsi hso y
      go_wp2_with fail
      refine (rcwidth_any HTk.out (HR.out.below HB.out) (HSi.out.below HB.out) HSo.out (by omega)).mono ?_
      rintro e w5 ⟨rfl, hB5⟩
      have HB5 := Lib.hid (HB.out.trans (hB5.mono HB.out.size))
      have HO5 := Lib.hid (owns_stays HO.out hB5)
      have HA5 := Lib.hid (owns_stays HA.out hB5)
      have hbs5 := HB5.out.size
      clear hB5 y0 HB HO HA
      generalize wdG (lineG R (clus (tabOf R) s)) = wd at HWd ⊢
      generalize catG ⟨#[]⟩ (lineG R (clus (tabOf R) s)) = tx at HTx ⊢
      go_wp2_with (at_builtin; go_loud (first | (refine wpList_app1 _ rfl (.tmp 33) (.tmp 35) _ rfl Ei _ _ _ rfl HO5.out 1 1 [.int .i64 wd] rfl (by decide) rfl (one_int wd) hbig hbs5 ?_; intro g cp7 w7 ho7 hg7 hf7; have HB7 := Lib.hid (below_app HB5.out hbs5 HO5.out (Nat.le_refl _) hg7); have HO7 := Lib.hid ho7; have HA7 := Lib.hid (owns_kept_types HO5.out HA5.out (by decide) hg7); have hbs7 := HB7.out.size; clear ho7 hg7 hf7) | (refine wpList_app1 _ rfl (.tmp 37) (.tmp 39) _ rfl EStr _ _ _ rfl HA7.out 1 1 (strE tx) rfl (by decide) rfl (strE_one _) hbig2 hbs7 ?_; intro g9 cp9 w9 ho9 hg9 hf9; have HB9 := Lib.hid (below_app HB7.out hbs7 HA7.out (Nat.le_refl _) hg9); have HA9 := Lib.hid ho9; have HO9 := Lib.hid (owns_kept_types HA7.out HO7.out (by decide) hg9); clear ho9 hg9 hf9)))
      go_roundw
      case rel => exact ⟨k + 1, by omega, by go_num, HB9.out, by rw [HWd.out]; exact HO9.out, by rw [HTx.out]; exact HA9.out⟩
      case measure => simp [intOf] <;> omega
    · have hke : k = LL.length := by omega
      subst hke
      have hO := HO.out
      have hA := HA.out
      rw [List.take_of_length_le (by rw [HL1.out]; exact Nat.le_refl _)] at hO
      rw [List.take_of_length_le (by rw [HL2.out]; exact Nat.le_refl _)] at hA
      have hRi : Ri wr.heap.size wr (.slice pa LL.length pc) (wdsL R LL) := by
        unfold Ri
        rw [HL1.out]
        exact rd_of_owns hO
      have HRi := Lib.hid hRi
      have HSt := Lib.hid (strs_of_owns hA HL2.out.symm)
      have hnw : narrow (wdsL R LL) := ⟨by rw [HL1.out]; omega, fun z hz => by have := HWb.out z hz; omega⟩
      have HNw := Lib.hid hnw
      have HFit := Lib.hid (refFit_some (.slice pa LL.length pc) (wdsL R LL) cols wr hRi hnw (by rw [HL1.out]; exact h0))
      clear hO hA hRi hnw hlt hk HO HA
      go_wp2_with fail
      refine HFit.out.mono ?_
      rintro e w8 ⟨rows, rfl, hB8, hfit⟩
      have hfr : 1 ≤ rows ∧ rows ≤ LL.length := ⟨hfit.1, by have := hfit.2.1; rw [HL1.out] at this; exact this⟩
      have HF := Lib.hid hfit
      have HB8 := Lib.hid (HB.out.trans (hB8.mono HB.out.size))
      have HRi8 := Lib.hid (show Ri w8.heap.size w8 (.slice pa LL.length pc) (wdsL R LL) from (Rd.below HRi.out hB8 (Nat.le_refl _)).mono hB8.size)
      have HSt8 := Lib.hid (HSt.out.below hB8)
      have hrz : ((rows : Int) == 0) = false := by simp; omega
      have hrz2 : ¬ rows = 0 := by omega
      clear hB8 hfit HRi HSt HFit HB
      go_wp2_with fail
      refine (refPlan_any (.slice pa LL.length pc) (wdsL R LL) rows w8 HRi8.out (by rw [HL1.out]; omega) (by omega) (by omega)).mono ?_
      rintro e w9 ⟨vw, rfl, hB9, hO9⟩
      obtain ⟨pg, pq, rfl⟩ := slice_of_owns hO9
      have HB9 := Lib.hid (HB8.out.trans (hB9.mono HB8.out.size))
      have HRi9 := Lib.hid (show Ri w9.heap.size w9 (.slice pa LL.length pc) (wdsL R LL) from (Rd.below HRi8.out hB9 (Nat.le_refl _)).mono hB9.size)
      have HSt9 := Lib.hid (HSt8.out.below hB9)
      have HPl9 := Lib.hid (show Ri w9.heap.size w9 (.slice pg (planL (wdsL R LL) rows).length pq) (planL (wdsL R LL) rows) from rd_of_owns hO9)
      obtain ⟨sa, sc, hsv, hs1, hs2⟩ := strs_shape HSt9.out
      rw [HL2.out] at hsv
      cases hsv
      clear hB9 hO9 HRi8 HSt8 HB8 hrz hrz2
      go_wp2_with fail
      go_loopw [14, 15] (fun ov rv wo => ∃ r : Nat, r ≤ rows ∧ rv = .int .i64 ((r : Nat) : Int) ∧ Below w9.heap.size w9 wo ∧ wo.ownsRow w9.heap.size 9 1 ov r (((List.range r).map fun r => rowT (wdsL R LL) (txsL R LL) rows r LL.length).flatMap strE)) (fun _ rv _ => rows - (intOf rv).toNat)
      case atStart => exact ⟨0, Nat.zero_le _, rfl, .refl _ _, World.ownsRow_nil _ _ _ _⟩
      case round =>
        rename World => wo
        obtain ⟨r, hr, rfl, hBo, hOo⟩ := hrel
        have HBo := Lib.hid hBo
        have HOo := Lib.hid hOo
        obtain ⟨oa, oc, rfl⟩ := slice_of_owns hOo
        clear hBo hOo
        by_cases hrl : r < rows
        · have e1 := IntWalk.i64_in ((r : Int) + 1) (by omega)
          have HNx := Lib.hid (show ((List.range (r + 1)).map fun r => rowT (wdsL R LL) (txsL R LL) rows r LL.length).flatMap strE = ((List.range r).map fun r => rowT (wdsL R LL) (txsL R LL) rows r LL.length).flatMap strE ++ strE (rowT (wdsL R LL) (txsL R LL) rows r LL.length) by
            rw [List.range_succ, List.map_append, List.flatMap_append]; simp)
          have hbig : (r + 1) * 16 ≤ 140737488355328 := by omega
          have hbo := HBo.out.size
          go_wp2_with fail
          go_loopw [16, 17] (fun tv iv wj => ∃ i : Nat, i ≤ LL.length + rows ∧ iv = .int .i64 ((i : Nat) : Int) ∧ i % rows = r ∧ tv = .string (rowT (wdsL R LL) (txsL R LL) rows r i) ∧ Below wo.heap.size wo wj) (fun _ iv _ => LL.length + rows - (intOf iv).toNat)
          case atStart => exact ⟨r, by omega, rfl, Nat.mod_eq_of_lt hrl, by rw [rowT_start hrl (Nat.le_refl _)], .refl _ _⟩
          case round =>
            rename World => wj
            obtain ⟨i, hi, rfl, him, rfl, hBj⟩ := hrel
            have HBj := Lib.hid hBj
            have hBw : Below w9.heap.size w9 wj := HBo.out.trans (hBj.mono hbo)
            by_cases hil : i < LL.length
            · obtain ⟨tx, htx⟩ : ∃ tx, (txsL R LL)[i]? = some tx := ⟨_, List.getElem?_eq_getElem (by have := HL2.out; omega)⟩
              obtain ⟨wd, hwd⟩ : ∃ wd, (wdsL R LL)[i]? = some wd := ⟨_, List.getElem?_eq_getElem (by have := HL1.out; omega)⟩
              obtain ⟨M, hM, hMw⟩ := plan_ge (rows := rows) (by omega) hwd
              obtain ⟨b, off, _, hv, _, _, _, _, d0⟩ := strs_cell (HSt9.out.below hBw) htx
              rw [HL2.out] at hv
              cases hv
              have HJ := Lib.hid (rowT_jump (W := wdsL R LL) (TX := txsL R LL) him hrl (by have := HL1.out; omega))
              have hz := rowT_size (W := wdsL R LL) (TX := txsL R LL) (rows := rows) (r := r) (C := 120) (D := 42) HTs.out (fun j => gap_le HWb.out j) i
              have hzt := HTs.out tx (List.mem_of_getElem? htx)
              have hz2 : i * (120 + 42) ≤ 12 * 162 := Nat.mul_le_mul (by omega) (Nat.le_refl _)
              have HPc := Lib.hid (show pieceT (wdsL R LL) (txsL R LL) rows i = tx ++ (if i + rows < LL.length then repB (gapN (wdsL R LL) rows i) else ⟨#[]⟩) by
                unfold pieceT
                rw [List.getD_eq_getElem?_getD, htx, HL1.out]; rfl)
              have hgap : ((gapN (wdsL R LL) rows i : Nat) : Int) = M - wd + 2 := by
                unfold gapN
                rw [List.getD_eq_getElem?_getD, List.getD_eq_getElem?_getD, hM, hwd]
                show ((M - wd + 2).toNat : Int) = _
                omega
              have hMb : M ≤ ((40 : Nat) : Int) := (planL_bd (by omega) (wdsL R LL) rows (fun z hz => (HWb.out z hz).2) M (List.mem_of_getElem? hM)).2
              have hwb := HWb.out wd (List.mem_of_getElem? hwd)
              generalize hT0 : rowT (wdsL R LL) (txsL R LL) rows r i = T0 at hz HJ ⊢
              have cc := fun W => run_string_add_sum (P := Tryz.prog) W T0 tx (by omega)
              have cc2 := fun W => run_string_add_sum (P := Tryz.prog) W (T0 ++ tx) (repB (gapN (wdsL R LL) rows i)) (by rw [ByteArray.size_append, repB_size]; omega)
              have HBl := Lib.hid (fun (W : World) => blanks_any (gapN (wdsL R LL) rows i) W (by omega))
              rw [hgap] at HBl
              have e3 := IntWalk.i64_in ((i : Int) + rows) (by omega)
              have s0 : (i : Int) < (LL.length : Int) := by omega
              have s1 : (0 : Int) ≤ (i : Int) := by omega
              by_cases hnx : i + rows < LL.length
              · have d1 : (i : Int) + (rows : Int) < (LL.length : Int) := by omega
                have HFin := Lib.hid (show T0 ++ tx ++ repB (gapN (wdsL R LL) rows i) = rowT (wdsL R LL) (txsL R LL) rows r (i + rows) by rw [HJ.out, HPc.out, if_pos hnx, ByteArray.append_assoc])
                obtain ⟨c', hcq⟩ : ∃ cq, cq = i / rows := ⟨_, rfl⟩
                have hcb : c' ≤ i := by rw [hcq]; exact Nat.div_le_self _ _
                have hM2 := (List.getElem?_eq_some_iff.1 hM).1
                rw [← hcq] at hM hM2
                have hPl := (Rd.below HPl9.out hBw (Nat.le_refl _))
                obtain ⟨xa, xcap, hxv, _, _, _, hxc⟩ := hPl
                obtain ⟨xb, xoff, rfl, _, hxq⟩ := hxc (by omega)
                cases hxv
                have p0 := hxq c' _ (ints_get hM)
                obtain ⟨ya, ycap, hyv, _, _, _, hyc⟩ := (Rd.below HRi9.out hBw (Nat.le_refl _))
                obtain ⟨yb, yoff, rfl, _, hyq⟩ := hyc (by have := HL1.out; omega)
                rw [HL1.out] at hyv
                cases hyv
                have w0 := hyq i _ (ints_get hwd)
                generalize hpl : (planL (wdsL R LL) rows).length = pn at hM2 ⊢
                have HRq := Lib.hid (show (i : Int) / (rows : Int) = (c' : Int) by rw [hcq, Int.natCast_ediv])
                have hrd : IntKind.i64.wrap ((i : Int) / (rows : Int)) = (c' : Int) := by rw [HRq.out]; exact IntWalk.i64_in _ (by omega)
                have hr0 : ¬ rows = 0 := by omega
                have e5 := IntWalk.i64_in (M - wd) (by omega)
                have e6 := IntWalk.i64_in (M - wd + 2) (by omega)
                have s6 : (c' : Int) < (pn : Int) := by omega
                have s7 : (0 : Int) ≤ (c' : Int) := by omega
                clear htx hwd hM hMw hz hzt hz2 hxc hxq hyc hyq hpl hcq hBw HJ HPc
                go_upto_region 23 with fail
                refine wp_region_held_drew (S := fun w' => w'.cell? ⟨xb, xoff + c', none⟩ = some (.int .i64 M) ∧ w'.cell? ⟨yb, yoff + i, none⟩ = some (.int .i64 wd)) (by kernel_rfl) ⟨p0, w0⟩ (fun hHeld => ?_)
                refine hd_take 0 rfl (by kernel_rfl) (by kernel_rfl) (by kernel_rfl) (fun _ _ _ h => h) (by rfl) (by intro w hSw; (try dsimp only at hSw); obtain ⟨hs1, hs2⟩ := hSw; go_simp; first | done | with_reducible rfl) hHeld ?_
                try simp only [Act.put, List.setIfInBounds_toArray, List.set_cons_zero, List.set_cons_succ]
                refine hd_take 1 rfl (by kernel_rfl) (by kernel_rfl) (by kernel_rfl) (fun _ _ _ h => h) (by rfl) (by intro w hSw; (try dsimp only at hSw); obtain ⟨hs1, hs2⟩ := hSw; go_simp; first | done | with_reducible rfl) hHeld ?_
                try simp only [Act.put, List.setIfInBounds_toArray, List.set_cons_zero, List.set_cons_succ]
                refine hd_take 2 rfl (by kernel_rfl) (by kernel_rfl) (by kernel_rfl) (fun _ _ _ h => h) (by rfl) (by intro w hSw; (try dsimp only at hSw); obtain ⟨hs1, hs2⟩ := hSw; go_simp; first | done | with_reducible rfl) hHeld ?_
                try simp only [Act.put, List.setIfInBounds_toArray, List.set_cons_zero, List.set_cons_succ]
                refine hd_take 3 rfl (by kernel_rfl) (by kernel_rfl) (by kernel_rfl) (fun _ _ _ h => h) (by rfl) (by intro w hSw; (try dsimp only at hSw); obtain ⟨hs1, hs2⟩ := hSw; go_simp; first | done | with_reducible rfl) hHeld ?_
                try simp only [Act.put, List.setIfInBounds_toArray, List.set_cons_zero, List.set_cons_succ]
                refine hd_take 4 rfl (by kernel_rfl) (by kernel_rfl) (by kernel_rfl) (fun _ _ _ h => h) (by rfl) (by intro w hSw; (try dsimp only at hSw); obtain ⟨hs1, hs2⟩ := hSw; go_simp; first | done | with_reducible rfl) hHeld ?_
                try simp only [Act.put, List.setIfInBounds_toArray, List.set_cons_zero, List.set_cons_succ]
                refine hd_take 5 rfl (by kernel_rfl) (by kernel_rfl) (by kernel_rfl) (fun _ _ _ h => h) (by rfl) (by intro w hSw; (try dsimp only at hSw); obtain ⟨hs1, hs2⟩ := hSw; go_simp; first | done | with_reducible rfl) hHeld ?_
                try simp only [Act.put, List.setIfInBounds_toArray, List.set_cons_zero, List.set_cons_succ]
                refine hd_take 6 rfl (by kernel_rfl) (by kernel_rfl) (by kernel_rfl) (fun _ _ _ h => h) (by rfl) (by intro w hSw; (try dsimp only at hSw); obtain ⟨hs1, hs2⟩ := hSw; go_simp; first | done | with_reducible rfl) hHeld ?_
                try simp only [Act.put, List.setIfInBounds_toArray, List.set_cons_zero, List.set_cons_succ]
                refine hd_take 7 rfl (by kernel_rfl) (by kernel_rfl) (by kernel_rfl) (fun _ _ _ h => h) (by rfl) (by intro w hSw; (try dsimp only at hSw); obtain ⟨hs1, hs2⟩ := hSw; go_simp; first | done | with_reducible rfl) hHeld ?_
                try simp only [Act.put, List.setIfInBounds_toArray, List.set_cons_zero, List.set_cons_succ]
                refine hd_take 8 rfl (by kernel_rfl) (by kernel_rfl) (by kernel_rfl) (fun _ _ _ h => h) (by rfl) (by intro w hSw; (try dsimp only at hSw); obtain ⟨hs1, hs2⟩ := hSw; go_simp; first | done | with_reducible rfl) hHeld ?_
                try simp only [Act.put, List.setIfInBounds_toArray, List.set_cons_zero, List.set_cons_succ]
                refine hd_take 9 rfl (by kernel_rfl) (by kernel_rfl) (by kernel_rfl) (fun _ _ _ h => h) (by rfl) (by intro w hSw; (try dsimp only at hSw); obtain ⟨hs1, hs2⟩ := hSw; go_simp; first | done | with_reducible rfl) hHeld ?_
                try simp only [Act.put, List.setIfInBounds_toArray, List.set_cons_zero, List.set_cons_succ]
                refine hd_take 10 rfl (by kernel_rfl) (by kernel_rfl) (by kernel_rfl) (fun _ _ _ h => h) (by rfl) (by intro w hSw; (try dsimp only at hSw); obtain ⟨hs1, hs2⟩ := hSw; go_simp; first | done | with_reducible rfl) hHeld ?_
                try simp only [Act.put, List.setIfInBounds_toArray, List.set_cons_zero, List.set_cons_succ]
                refine hd_take 11 rfl (by kernel_rfl) (by kernel_rfl) (by kernel_rfl) (fun _ _ _ h => h) (by rfl) (by intro w hSw; (try dsimp only at hSw); obtain ⟨hs1, hs2⟩ := hSw; go_simp; first | done | with_reducible rfl) hHeld ?_
                try simp only [Act.put, List.setIfInBounds_toArray, List.set_cons_zero, List.set_cons_succ]
                refine hd_take 12 rfl (by kernel_rfl) (by kernel_rfl) (by kernel_rfl) (fun _ _ _ h => h) (by rfl) (by intro w hSw; (try dsimp only at hSw); obtain ⟨hs1, hs2⟩ := hSw; go_simp; first | done | with_reducible rfl) hHeld ?_
                try simp only [Act.put, List.setIfInBounds_toArray, List.set_cons_zero, List.set_cons_succ]
                refine hd_step 13 (by kernel_rfl) rfl (fun K hK => ?_)
                go_simp
                go_at_call 90
                refine (HBl.out _).mono ?_
                rintro e w14 ⟨rfl, rfl⟩
                go_wp2_with fail
                refine hK.out _ _ ⟨p0, w0⟩ (fun hHeld => ?_)
                clear hK K
                try simp only [Act.put, List.setIfInBounds_toArray, List.set_cons_zero, List.set_cons_succ]
                refine hd_take 14 rfl (by kernel_rfl) (by kernel_rfl) (by kernel_rfl) (fun _ _ _ h => h) (by rfl) (by intro w hSw; (try dsimp only at hSw); obtain ⟨hs1, hs2⟩ := hSw; go_simp; first | done | with_reducible rfl) hHeld ?_
                try simp only [Act.put, List.setIfInBounds_toArray, List.set_cons_zero, List.set_cons_succ]
                refine hd_take 15 rfl (by kernel_rfl) (by kernel_rfl) (by kernel_rfl) (fun _ _ _ h => h) (by rfl) (by intro w hSw; (try dsimp only at hSw); obtain ⟨hs1, hs2⟩ := hSw; go_simp; first | done | with_reducible rfl) hHeld ?_
                try simp only [Act.put, List.setIfInBounds_toArray, List.set_cons_zero, List.set_cons_succ]
                refine wpAnyH_done (by kernel_rfl) ?_ _
                have him2 : (i + rows) % rows = r := by rw [Nat.add_mod_right]; exact him
                have HIm := Lib.hid him2
                have HBk := Lib.hid (show Below wo.heap.size wo wj.drew from below_dN HBj.out 1)
                clear hHeld p0 w0 him him2 HBl cc cc2 HBj hrd
                generalize wj.drew = wk at HBk ⊢
                rw [HFin.out]
                clear HFin
                go_wp2_with fail
                go_roundw
                case rel => exact ⟨i + rows, by omega, by go_num, HIm.out, rfl, HBk.out⟩
                case measure => simp [intOf] <;> omega
              · have d1 : ¬ (i : Int) + (rows : Int) < (LL.length : Int) := by omega
                have HFin := Lib.hid (show T0 ++ tx = rowT (wdsL R LL) (txsL R LL) rows r (i + rows) by rw [HJ.out, HPc.out, if_neg hnx, app_none])
                have him2 : (i + rows) % rows = r := by rw [Nat.add_mod_right]; exact him
                have HIm := Lib.hid him2
                clear htx hwd hM hMw hz hzt hz2 hnx hBw HJ HPc him him2
                go_wp2_with fail
                go_roundw
                case rel => exact ⟨i + rows, by omega, by go_num, HIm.out, by rw [HFin.out], HBj.out⟩
                case measure => simp [intOf] <;> omega
            · have HFin := Lib.hid (rowT_end (W := wdsL R LL) (TX := txsL R LL) (rows := rows) (r := r) (i := i) (by have := HL1.out; omega))
              rw [HFin.out, HL1.out]
              have d1 : ¬ i < LL.length := hil
              generalize hT : rowT (wdsL R LL) (txsL R LL) rows r LL.length = T1 at HNx ⊢
              have HOj := Lib.hid (owns_stays HOo.out HBj.out)
              have HBq := Lib.hid hBw
              have hbs9 := HBq.out.size
              clear hBj hBw hil him hi HFin hT
              go_wp2_with (at_builtin; go_loud (refine wpList_app1 _ rfl (.tmp 89) (.tmp 91) _ rfl EStr _ _ _ rfl HOj.out 1 1 (strE T1) rfl (by decide) rfl (strE_one _) hbig hbs9 ?_); intro g9 cp9 w19 ho9 hg9 hf9; have HB19 := Lib.hid (below_app HBq.out hbs9 HOj.out (Nat.le_refl _) hg9); have HO19 := Lib.hid ho9; clear ho9 hg9 hf9)
              go_roundw
              case rel => exact ⟨r + 1, by omega, by go_num, HB19.out, by rw [HNx.out]; exact HO19.out⟩
              case measure => simp [intOf] <;> omega
        · have hre : r = rows := by omega
          subst hre
          clear hrl hr
          go_wp2_with fail
          go_ret
          exact ⟨_, _, rfl, HF.out, HB9.out.trans (HBo.out.mono HB9.out.size), strs_of_owns HOo.out (by rw [List.length_map, List.length_range])⟩
end
end Go.Proofs.YtkeainhjghdfcaaGreat
