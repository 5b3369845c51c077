/- Joined texts: LayA. -/
import Derived.Test.YtkeainhjghdfcaaGreatCwaa
import Derived.Test.YtkeainhjghdfcaaGreatCwbg

/- columns.Lay: its walk. (Printed by gen_clay.py.) -/
namespace Go.Proofs.YtkeainhjghdfcaaGreat
open Go.RowKit

/-- the words' widths, the words' texts -/
def wdsL (R : List Rw) (LL : List (List Int)) : List Int := LL.map fun s => wdG (lineG R (clus (tabOf R) s))
def txsL (R : List Rw) (LL : List (List Int)) : List ByteArray := LL.map fun s => catG ⟨#[]⟩ (lineG R (clus (tabOf R) s))
theorem wds_len (R : List Rw) (LL : List (List Int)) : (wdsL R LL).length = LL.length := by unfold wdsL; rw [List.length_map]
theorem txs_len (R : List Rw) (LL : List (List Int)) : (txsL R LL).length = LL.length := by unfold txsL; rw [List.length_map]
theorem fill_at {α : Type} {l : List α} {z : α} {n k : Nat} (hl : l.length = n) (hk : k < n) : (l.take k ++ List.replicate (n - k) z)[k]? = some z := by
  rw [List.getElem?_append_right (by rw [List.length_take]; omega), List.length_take, List.getElem?_replicate, if_pos (by omega)]
theorem fill_set {α : Type} {l : List α} {z x : α} {n k : Nat} (hl : l.length = n) (hk : k < n) (hx : l[k]? = some x) : (l.take k ++ List.replicate (n - k) z).set k x = l.take (k + 1) ++ List.replicate (n - (k + 1)) z := by
  rw [List.set_append_right _ _ (by rw [List.length_take]; omega), List.length_take, show k - min k l.length = 0 by omega, show n - k = (n - (k + 1)) + 1 by omega, List.replicate_succ, List.set_cons_zero, List.take_add_one, hx]
  simp
theorem rows_set {α : Type} {f f' : Nat → α} {rows r : Nat} (hr : r < rows) (h : ∀ q, q < rows → q ≠ r → f' q = f q) : ((List.range rows).map f).set r (f' r) = (List.range rows).map f' := by
  apply List.ext_getElem?
  intro i
  by_cases hi : i < rows
  · by_cases e : i = r
    · subst e
      rw [List.getElem?_set_self (by rw [List.length_map, List.length_range]; exact hi), List.getElem?_map, List.getElem?_range hi]; rfl
    · rw [List.getElem?_set_ne (by omega), List.getElem?_map, List.getElem?_map, List.getElem?_range hi]
      show some (f i) = some (f' i)
      rw [h i hi e]
  · rw [List.getElem?_eq_none (by rw [List.length_set, List.length_map, List.length_range]; omega), List.getElem?_eq_none (by rw [List.length_map, List.length_range]; omega)]
theorem wds_bd {R : List Rw} {LL : List (List Int)} (h : ∀ l ∈ LL, l.length ≤ 10) : ∀ z ∈ wdsL R LL, 0 ≤ z ∧ z ≤ ((40 : Nat) : Int) := by
  intro z hz
  unfold wdsL at hz
  obtain ⟨s, hs, rfl⟩ := List.mem_map.1 hz
  have h1 := wdG_rng (L := lineG R (clus (tabOf R) s)) (fun g hg => (lineG_ok R g hg).1)
  have h2 := lineG_take_le R s (clus (tabOf R) s).length
  rw [List.take_length] at h2
  have h3 := h s hs
  omega
theorem txs_sz {R : List Rw} {LL : List (List Int)} (h : ∀ l ∈ LL, l.length ≤ 10) : ∀ t ∈ txsL R LL, t.size ≤ 120 := by
  intro z hz
  unfold txsL at hz
  obtain ⟨s, hs, rfl⟩ := List.mem_map.1 hz
  have h1 := lineG_sz R (clus (tabOf R) s)
  rw [clus_flat (tabOf R) s.length s (Nat.le_refl _)] at h1
  have h3 := h s hs
  rw [catG_size]
  have hz0 : (⟨#[]⟩ : ByteArray).size = 0 := rfl
  omega
theorem app_none (a : ByteArray) : a ++ (⟨#[]⟩ : ByteArray) = a := by
  apply ba_ext
  rw [ba_app]
  simp
section
variable {R : List Rw} {LL : List (List Int)} {w : World} {wv : Value} {tp : Nat}
set_option maxRecDepth 100000 in
set_option maxHeartbeats 16000000 in
theorem clay_any (hT : Tb R w tp) (hW : TextsIn w wv LL) (hok : ∀ l ∈ LL, RunesOk l ∧ l.length ≤ 10) (hn : LL.length ≤ 12) (h0 : 0 < LL.length) (cols : Int) :
    Calls Tryz.prog 36 #[.pointer (some ⟨tp, 0, none⟩), wv, .int .i64 cols] w fun e w' => ∃ u rows, e = .returned u ∧ isFit (wdsL R LL) cols rows ∧ Below w.heap.size w w' ∧ Rd w'.heap.size w' 1 u rows (strs ((List.range rows).map fun r => rowT (wdsL R LL) (txsL R LL) rows r LL.length)) := by
  have HT := Lib.hid hT
  have HW := Lib.hid hW
  have HOk := Lib.hid hok
  obtain ⟨wa, wc, rfl, hwc, hwm⟩ := texts_shape hW
  unfold maxLen at hwm
  have mk1 := mk_ints w LL.length (by omega)
  have mk2 := mk_strs (w.alloc (.cells (Array.replicate LL.length (.int .i64 0)) 3)) LL.length (by omega)
  have hza : (w.alloc (.cells (Array.replicate LL.length (.int .i64 0)) 3)).heap.size = w.heap.size + 1 := by simp
  rw [hza] at mk2
  have hba := below1 w (.cells (Array.replicate LL.length (.int .i64 0)) 3)
  have hna := heap_alloc_new w (.cells (Array.replicate LL.length (.int .i64 0)) 3)
  have hbb := below1 (w.alloc (.cells (Array.replicate LL.length (.int .i64 0)) 3)) (.cells (Array.replicate LL.length (.string ⟨#[]⟩)) 9)
  have hnb := heap_alloc_new (w.alloc (.cells (Array.replicate LL.length (.int .i64 0)) 3)) (.cells (Array.replicate LL.length (.string ⟨#[]⟩)) 9)
  rw [hza] at hbb hnb
  have HB1 := Lib.hid (hba.trans (hbb.mono (by omega)))
  have HR1 := Lib.hid (show RowB ((w.alloc (.cells (Array.replicate LL.length (.int .i64 0)) 3)).alloc (.cells (Array.replicate LL.length (.string ⟨#[]⟩)) 9)) w.heap.size 3 (ints ((wdsL R LL).take 0 ++ List.replicate (LL.length - 0) 0)) by
    have := (hbb.block _ (by omega)).trans hna
    rw [List.take_zero, List.nil_append, Nat.sub_zero]
    unfold ints
    rw [List.map_replicate]
    exact rowB_made this)
  have HR2 := Lib.hid (show RowB ((w.alloc (.cells (Array.replicate LL.length (.int .i64 0)) 3)).alloc (.cells (Array.replicate LL.length (.string ⟨#[]⟩)) 9)) (w.heap.size + 1) 9 (strs ((txsL R LL).take 0 ++ List.replicate (LL.length - 0) ⟨#[]⟩)) by
    rw [List.take_zero, List.nil_append, Nat.sub_zero]
    unfold strs
    rw [List.map_replicate]
    exact rowB_made hnb)
  have HL1 := Lib.hid (wds_len R LL)
  have HL2 := Lib.hid (txs_len R LL)
  have HWb := Lib.hid (wds_bd (R := R) fun l hl => (hok l hl).2)
  have HTs := Lib.hid (txs_sz (R := R) fun l hl => (hok l hl).2)
  have hsz1 : ((w.alloc (.cells (Array.replicate LL.length (.int .i64 0)) 3)).alloc (.cells (Array.replicate LL.length (.string ⟨#[]⟩)) 9)).heap.size = w.heap.size + 2 := by simp
  clear hT hW hok hba hna hbb hnb hza
  go_enter Tryz.func36, Tryz.ntmps36
  go_upto_region 3 with fail
  generalize (w.alloc (.cells (Array.replicate LL.length (.int .i64 0)) 3)).alloc (.cells (Array.replicate LL.length (.string ⟨#[]⟩)) 9) = w1 at HB1 HR1 HR2 hsz1 ⊢
  go_wp2_with fail
  clear mk1 mk2
  go_loopw [29] (fun iv wr => ∃ k : Nat, k ≤ LL.length ∧ iv = .int .i64 ((k : Nat) : Int) ∧ Below w.heap.size w wr ∧ w.heap.size + 2 ≤ wr.heap.size ∧ RowB wr w.heap.size 3 (ints ((wdsL R LL).take k ++ List.replicate (LL.length - k) 0)) ∧ RowB wr (w.heap.size + 1) 9 (strs ((txsL R LL).take k ++ List.replicate (LL.length - k) (⟨#[]⟩ : ByteArray)))) (fun iv _ => LL.length - (intOf iv).toNat)
  case atStart => exact ⟨0, Nat.zero_le _, rfl, HB1.out, by omega, HR1.out, HR2.out⟩
  case round =>
    obtain ⟨k, hk, rfl, hB, hsz, hR1, hR2⟩ := hrel
    have HB := Lib.hid hB
    have HR1 := Lib.hid hR1
    have HR2 := Lib.hid hR2
    clear hB hR1 hR2
    by_cases hlt : k < LL.length
    · obtain ⟨s, hs⟩ : ∃ s, LL[k]? = some s := ⟨LL[k], List.getElem?_eq_getElem hlt⟩
      obtain ⟨b, off, _, u, hv, _, _, _, _, y, hsi⟩ := texts_cell HW.out hs
      have y0 := cell_later HB.out y
      cases hv
      obtain ⟨hso, hsl⟩ := HOk.out s (List.mem_of_getElem? hs)
      obtain ⟨sa, sc, rfl, _, _, _⟩ := runes_cells hsi
      have HSi := Lib.hid hsi
      have HSo := Lib.hid hso
      have HWd := Lib.hid (show (wdsL R LL)[k]? = some (wdG (lineG R (clus (tabOf R) s))) by unfold wdsL; rw [List.getElem?_map, hs]; rfl)
      have HTx := Lib.hid (show (txsL R LL)[k]? = some (catG ⟨#[]⟩ (lineG R (clus (tabOf R) s))) by unfold txsL; rw [List.getElem?_map, hs]; rfl)
      have r0 : (k : Int) < (LL.length : Int) := by omega
      have r1 : (0 : Int) ≤ (k : Int) := by omega
      clear hs hsi hso y
      go_wp2_with fail
      refine (cwidth_any (HT.out.below HB.out) (HSi.out.below HB.out) HSo.out (by omega)).mono ?_
      rintro e w5 ⟨rfl, hB5⟩
      have hR15 := HR1.out.below hB5
      have hR25 := HR2.out.below hB5
      have c0 := hR15.cell (i := k) (ints_get (fill_at HL1.out hlt))
      have cw := hR15.warm k
      have HB5 := Lib.hid (show Below w.heap.size w (w5.setCell ⟨w.heap.size, k, none⟩ (.int .i64 (wdG (lineG R (clus (tabOf R) s))))) from (HB.out.trans (hB5.mono HB.out.size)).setCell (Nat.le_refl _) _)
      have HR15 := Lib.hid (hR15.set k (.int .i64 (wdG (lineG R (clus (tabOf R) s)))))
      have HR25 := Lib.hid (hR25.other (c := w.heap.size) (i := k) (v := .int .i64 (wdG (lineG R (clus (tabOf R) s)))) (by omega))
      have hsz5 : w.heap.size + 2 ≤ (w5.setCell ⟨w.heap.size, k, none⟩ (.int .i64 (wdG (lineG R (clus (tabOf R) s))))).heap.size := by have := hB5.size; simp; omega
      clear hB5 hR15 hR25 HR1 HR2 y0
      go_upto_region 7 with fail
      generalize w5.setCell ⟨w.heap.size, k, none⟩ (.int .i64 (wdG (lineG R (clus (tabOf R) s)))) = w6 at HB5 HR15 HR25 hsz5 ⊢
      clear c0 cw HB
      have hLs := lineG_sz R (clus (tabOf R) s)
      rw [clus_flat (tabOf R) s.length s (Nat.le_refl _)] at hLs
      have hLl := lineG_take_le R s (clus (tabOf R) s).length
      rw [List.take_length] at hLl
      have HLine := Lib.hid (line_own (HT.out.below HB5.out) (HSi.out.below HB5.out) HSo.out (by omega))
      have HFs := Lib.hid (fill_set (z := (0 : Int)) HL1.out hlt HWd.out)
      generalize lineG R (clus (tabOf R) s) = G at HLine hLs hLl HTx HFs HR15
      go_wp2_with fail
      refine HLine.out.mono ?_
      rintro e w7 ⟨u, ua, rfl, hB7, hO7, _⟩
      obtain ⟨ga, gc, rfl⟩ := slice_of_owns hO7
      have HO7 := Lib.hid hO7
      have HB7 := Lib.hid (HB5.out.trans (hB7.mono HB5.out.size))
      have HR17 := Lib.hid (show RowB w7 w.heap.size 3 (ints ((wdsL R LL).take (k + 1) ++ List.replicate (LL.length - (k + 1)) 0)) by
        have := HR15.out.below hB7
        rw [set_ints, HFs.out] at this
        exact this)
      have HR27 := Lib.hid (HR25.out.below hB7)
      have hsz7 : w.heap.size + 2 ≤ w7.heap.size := Nat.le_trans hsz5 hB7.size
      clear hO7 hB7 HLine HB5 HR15 HR25 HFs
      go_wp2_with fail
      go_loopw [48] (fun jv wj => ∃ j : Nat, j ≤ G.length ∧ jv = .int .i64 ((j : Nat) : Int) ∧ Below w.heap.size w wj ∧ w.heap.size + 2 ≤ wj.heap.size ∧ RowB wj w.heap.size 3 (ints ((wdsL R LL).take (k + 1) ++ List.replicate (LL.length - (k + 1)) 0)) ∧ RowB wj (w.heap.size + 1) 9 (strs (((txsL R LL).take k ++ List.replicate (LL.length - k) (⟨#[]⟩ : ByteArray)).set k (catG ⟨#[]⟩ (G.take j)))) ∧ wj.ownsRow w6.heap.size 97 2 (.slice ga G.length gc) G.length (G.flatMap gyE)) (fun jv _ => G.length - (intOf jv).toNat)
      case atStart =>
        refine ⟨0, Nat.zero_le _, rfl, HB7.out, hsz7, HR17.out, ?_, HO7.out⟩
        have h1 := HR27.out
        have h2 : ((txsL R LL).take k ++ List.replicate (LL.length - k) (⟨#[]⟩ : ByteArray)).set k (catG ⟨#[]⟩ (G.take 0)) = (txsL R LL).take k ++ List.replicate (LL.length - k) (⟨#[]⟩ : ByteArray) := by
          have h3 := fill_at (l := txsL R LL) (z := (⟨#[]⟩ : ByteArray)) HL2.out hlt
          obtain ⟨h4, h5⟩ := List.getElem?_eq_some_iff.1 h3
          show List.set _ k (⟨#[]⟩ : ByteArray) = _
          have h6 := List.set_getElem_self h4
          rw [h5] at h6
          exact h6
        rw [h2]
        exact h1
      case round =>
        rename World => wj
        obtain ⟨j, hj, rfl, hBj, hszj, hR1j, hR2j, hOj⟩ := hrel
        have HBj := Lib.hid hBj
        have HR1j := Lib.hid hR1j
        have HR2j := Lib.hid hR2j
        have HOj := Lib.hid hOj
        by_cases hjl : j < G.length
        · obtain ⟨x, hx⟩ : ∃ x, G[j]? = some x := ⟨G[j], List.getElem?_eq_getElem hjl⟩
          obtain ⟨gb, goff, _, hv, _, _, hgl, d0, d1⟩ := gly_cells (gly_of_owns hOj) hx
          cases hv
          have hcs := catG_size (G.take j) ⟨#[]⟩
          have hst := szG_take G (j + 1)
          have hsx : szG (G.take (j + 1)) = szG (G.take j) + x.1.size := by rw [take_snoc hx, szG_app, szG_one]
          have HCn := Lib.hid (show catG ⟨#[]⟩ (G.take (j + 1)) = catG ⟨#[]⟩ (G.take j) ++ x.1 by rw [take_snoc hx, catG_snoc])
          have hz0 : (⟨#[]⟩ : ByteArray).size = 0 := rfl
          obtain ⟨xt, xw⟩ := x
          dsimp only at d0 d1 hsx HCn
          have cc := fun W => run_string_add_sum (P := Tryz.prog) W (catG ⟨#[]⟩ (G.take j)) xt (by omega)
          have hnW := heap_alloc_new wj (.cells #[.string xt, .int .i64 xw] 97)
          have hbW := below1 wj (.cells #[.string xt, .int .i64 xw] 97)
          have HBW := Lib.hid (HBj.out.trans (hbW.mono HBj.out.size))
          have HR1W := Lib.hid (hR1j.below hbW)
          have HR2W := Lib.hid (hR2j.below hbW)
          have HOW := Lib.hid (owns_stays hOj hbW)
          have hszW : w.heap.size + 2 ≤ (wj.alloc (.cells #[.string xt, .int .i64 xw] 97)).heap.size := Nat.le_trans hszj hbW.size
          have r2 : (j : Int) < (G.length : Int) := by omega
          have r3 : (0 : Int) ≤ (j : Int) := by omega
          clear hx hcs hst hsx hbW hBj hR1j hR2j hOj HBj HR1j HR2j HOj
          go_upto_region 11 with fail
          generalize wj.alloc (.cells #[.string xt, .int .i64 xw] 97) = W at hnW HBW HR1W HR2W HOW hszW ⊢
          have hxb : w.heap.size + 2 ≤ wj.heap.size := hszj
          generalize wj.heap.size = xb at hnW hxb ⊢
          have x0 := row_cells (i := 0) hnW rfl
          have hkl2 : k < (((txsL R LL).take k ++ List.replicate (LL.length - k) (⟨#[]⟩ : ByteArray))).length := (List.getElem?_eq_some_iff.1 (fill_at (l := txsL R LL) (z := (⟨#[]⟩ : ByteArray)) HL2.out hlt)).1
          have s0 : W.cell? ⟨w.heap.size + 1, k, none⟩ = some (.string (catG ⟨#[]⟩ (G.take j))) := HR2W.out.cell (strs_get (by rw [List.getElem?_set_self hkl2]))
          have sw := HR2W.out.warm k
          have HWn := Lib.hid (show RowB ((W.setCell ⟨w.heap.size + 1, k, none⟩ (.string (catG ⟨#[]⟩ (G.take j) ++ xt))).drew) (w.heap.size + 1) 9 (strs (((txsL R LL).take k ++ List.replicate (LL.length - k) (⟨#[]⟩ : ByteArray)).set k (catG ⟨#[]⟩ (G.take (j + 1))))) by
            have := RowB.set (w := W) HR2W.out k (.string (catG ⟨#[]⟩ (G.take j) ++ xt))
            rw [set_strs, List.set_set, ← HCn.out] at this
            rw [← HCn.out]
            exact this)
          have HW1 := Lib.hid (show RowB ((W.setCell ⟨w.heap.size + 1, k, none⟩ (.string (catG ⟨#[]⟩ (G.take j) ++ xt))).drew) w.heap.size 3 (ints ((wdsL R LL).take (k + 1) ++ List.replicate (LL.length - (k + 1)) 0)) from RowB.other (w := W) HR1W.out (by omega))
          have HWB := Lib.hid (show Below w.heap.size w ((W.setCell ⟨w.heap.size + 1, k, none⟩ (.string (catG ⟨#[]⟩ (G.take j) ++ xt))).drew) from below_dN (HBW.out.setCell (by show w.heap.size ≤ w.heap.size + 1; omega) _) 1)
          have HWO := Lib.hid (show ((W.setCell ⟨w.heap.size + 1, k, none⟩ (.string (catG ⟨#[]⟩ (G.take j) ++ xt))).drew).ownsRow w6.heap.size 97 2 (.slice (some ⟨gb, goff, none⟩) G.length gc) G.length (G.flatMap gyE) from owns_store (w := W) HOW.out (by omega))
          have hszn : w.heap.size + 2 ≤ ((W.setCell ⟨w.heap.size + 1, k, none⟩ (.string (catG ⟨#[]⟩ (G.take j) ++ xt))).drew).heap.size := by simpa using hszW
          clear hnW hkl2 HR1W HR2W HOW HBW HCn
          refine wp_region_held_drew (S := fun w' => w'.cell? ⟨xb, 0, none⟩ = some (.string xt)) (by kernel_rfl) x0 (fun hHeld => ?_)
          refine hd_take 0 rfl (by kernel_rfl) (by kernel_rfl) (by kernel_rfl) (fun _ _ _ h => h) (by rfl) (by intro w hSw; (try dsimp only at hSw); go_simp; first | done | with_reducible rfl) hHeld ?_
          try simp only [Act.put, List.setIfInBounds_toArray, List.set_cons_zero, List.set_cons_succ]
          refine hd_take 1 rfl (by kernel_rfl) (by kernel_rfl) (by kernel_rfl) (fun _ _ _ h => h) (by rfl) (by intro w hSw; (try dsimp only at hSw); go_simp; first | done | with_reducible rfl) hHeld ?_
          try simp only [Act.put, List.setIfInBounds_toArray, List.set_cons_zero, List.set_cons_succ]
          refine hd_take 2 rfl (by kernel_rfl) (by kernel_rfl) (by kernel_rfl) (fun _ _ _ h => h) (by rfl) (by intro w hSw; (try dsimp only at hSw); go_simp; first | done | with_reducible rfl) hHeld ?_
          try simp only [Act.put, List.setIfInBounds_toArray, List.set_cons_zero, List.set_cons_succ]
          refine hd_take 4 rfl (by kernel_rfl) (by kernel_rfl) (by kernel_rfl) (fun _ _ _ h => h) (by rfl) (by intro w hSw; (try dsimp only at hSw); go_simp; first | done | with_reducible rfl) hHeld ?_
          try simp only [Act.put, List.setIfInBounds_toArray, List.set_cons_zero, List.set_cons_succ]
          refine hd_take 5 rfl (by kernel_rfl) (by kernel_rfl) (by kernel_rfl) (fun _ _ _ h => h) (by rfl) (by intro w hSw; (try dsimp only at hSw); go_simp; first | done | with_reducible rfl) hHeld ?_
          try simp only [Act.put, List.setIfInBounds_toArray, List.set_cons_zero, List.set_cons_succ]
          refine hd_step 3 (by kernel_rfl) rfl (fun K hK => ?_)
          go_simp
          refine hK.out _ _ x0 (fun hHeld => ?_)
          clear hK K
          try simp only [Act.put, List.setIfInBounds_toArray, List.set_cons_zero, List.set_cons_succ]
          refine hd_take 6 rfl (by kernel_rfl) (by kernel_rfl) (by kernel_rfl) (fun _ _ _ h => h) (by rfl) (by intro w hSw; (try dsimp only at hSw); go_simp; first | done | with_reducible rfl) hHeld ?_
          try simp only [Act.put, List.setIfInBounds_toArray, List.set_cons_zero, List.set_cons_succ]
          refine hd_take 7 rfl (by kernel_rfl) (by kernel_rfl) (by kernel_rfl) (fun _ _ _ h => h) (by rfl) (by intro w hSw; (try dsimp only at hSw); go_simp; first | done | with_reducible rfl) hHeld ?_
          try simp only [Act.put, List.setIfInBounds_toArray, List.set_cons_zero, List.set_cons_succ]
          refine hd_step 8 (by kernel_rfl) rfl (fun K hK => ?_)
          go_simp
          refine hK.out _ _ ((World.cell?_setCell_other _ _ _ _ (fun e => by injection e with e; omega)).trans x0) (fun hHeld => ?_)
          clear hK K
          try simp only [Act.put, List.setIfInBounds_toArray, List.set_cons_zero, List.set_cons_succ]
          refine wpAnyH_done (by kernel_rfl) ?_ _
          clear hHeld x0 s0 sw cc
          generalize (W.setCell ⟨w.heap.size + 1, k, none⟩ (.string (catG ⟨#[]⟩ (G.take j) ++ xt))).drew = wn at HWn HW1 HWB HWO hszn ⊢
          go_wp2_with fail
          go_roundw
          case rel => exact ⟨j + 1, by omega, by go_num, HWB.out, hszn, HW1.out, HWn.out, HWO.out⟩
          case measure => simp [intOf] <;> omega
        · have hje : j = G.length := by omega
          subst hje
          have hRe := HR2j.out
          rw [List.take_length, fill_set HL2.out hlt HTx.out] at hRe
          have HRe := Lib.hid hRe
          clear hRe hBj hR1j hR2j hOj hjl hj HOj
          go_wp2_with fail
          go_roundw
          case rel => exact ⟨k + 1, by omega, by go_num, HBj.out, hszj, HR1j.out, HRe.out⟩
          case measure => simp [intOf] <;> omega
    · have hke : k = LL.length := by omega
      subst hke
      have hR1e := HR1.out
      have hR2e := HR2.out
      rw [Nat.sub_self, List.replicate_zero, List.append_nil, List.take_of_length_le (by rw [HL1.out]; exact Nat.le_refl _)] at hR1e
      rw [Nat.sub_self, List.replicate_zero, List.append_nil, List.take_of_length_le (by rw [HL2.out]; exact Nat.le_refl _)] at hR2e
      have hfit := fit_some (.slice (some ⟨w.heap.size, 0, none⟩) LL.length LL.length) (wdsL R LL) cols wr (by
        have := hR1e.rd (n := LL.length) (cap := LL.length) (by rw [ints_len, HL1.out]) (Nat.le_refl _) (by unfold maxLen; omega)
        unfold Ri
        rw [HL1.out]
        exact this) ⟨by rw [HL1.out]; omega, fun z hz => by have := HWb.out z hz; omega⟩ (by rw [HL1.out]; exact h0)
      have HFit := Lib.hid hfit
      have HR1 := Lib.hid hR1e
      have HR2 := Lib.hid hR2e
      clear hR1e hR2e hfit hlt hk
      go_wp2_with fail
      refine HFit.out.mono ?_
      rintro e w8 ⟨rows, vw, rfl, hB8, hfit, hO8⟩
      obtain ⟨pg, pc, rfl⟩ := slice_of_owns hO8
      have hfr : 1 ≤ rows ∧ rows ≤ LL.length := ⟨hfit.1, by have := hfit.2.1; rw [HL1.out] at this; exact this⟩
      have HF := Lib.hid hfit
      have mk3 := mk_strs (w8.alloc (.cells #[.int .i64 (rows : Int), .slice pg (planL (wdsL R LL) rows).length pc] 152)) rows (by omega)
      have hza : (w8.alloc (.cells #[.int .i64 (rows : Int), .slice pg (planL (wdsL R LL) rows).length pc] 152)).heap.size = w8.heap.size + 1 := by simp
      rw [hza] at mk3
      have hbx := below1 w8 (.cells #[.int .i64 (rows : Int), .slice pg (planL (wdsL R LL) rows).length pc] 152)
      have hnx := heap_alloc_new w8 (.cells #[.int .i64 (rows : Int), .slice pg (planL (wdsL R LL) rows).length pc] 152)
      have hby := below1 (w8.alloc (.cells #[.int .i64 (rows : Int), .slice pg (planL (wdsL R LL) rows).length pc] 152)) (.cells (Array.replicate rows (.string ⟨#[]⟩)) 9)
      have hny := heap_alloc_new (w8.alloc (.cells #[.int .i64 (rows : Int), .slice pg (planL (wdsL R LL) rows).length pc] 152)) (.cells (Array.replicate rows (.string ⟨#[]⟩)) 9)
      rw [hza] at hby hny
      have hB9 := hB8.trans ((hbx.trans (hby.mono (by omega))).mono hB8.size)
      have HB9 := Lib.hid (HB.out.trans (hB9.mono HB.out.size))
      have HX9 := Lib.hid ((hby.block _ (by omega)).trans hnx)
      have HY9 := Lib.hid (rowB_made hny)
      have HS9 := Lib.hid (HR2.out.below hB9)
      have HW9 := Lib.hid (HR1.out.below hB9)
      have HP9 := Lib.hid (Rd.below (rd_of_owns hO8) (hbx.trans (hby.mono (by omega))) (Nat.le_refl _))
      have hsz8 : w.heap.size + 2 ≤ w8.heap.size := Nat.le_trans hsz hB8.size
      have hsz9 : ((w8.alloc (.cells #[.int .i64 (rows : Int), .slice pg (planL (wdsL R LL) rows).length pc] 152)).alloc (.cells (Array.replicate rows (.string ⟨#[]⟩)) 9)).heap.size = w8.heap.size + 2 := by simp
      clear hza hbx hnx hby hny hB9 hB8 hO8 HR1 HR2 HFit HB hfit
      go_upto_region 16 with fail
      generalize (w8.alloc (.cells #[.int .i64 (rows : Int), .slice pg (planL (wdsL R LL) rows).length pc] 152)).alloc (.cells (Array.replicate rows (.string ⟨#[]⟩)) 9) = w9 at HB9 HX9 HY9 HS9 HW9 HP9 hsz9 ⊢
      clear mk3
      generalize w8.heap.size = B at HX9 HY9 HP9 hsz8 hsz9 ⊢
      go_wp2_with fail
      go_loopw [70] (fun iv wr => ∃ k : Nat, k ≤ LL.length ∧ iv = .int .i64 ((k : Nat) : Int) ∧ Below (B + 1) w9 wr ∧ RowB wr (B + 1) 9 (strs ((List.range rows).map fun r => rowT (wdsL R LL) (txsL R LL) rows r k))) (fun iv _ => LL.length - (intOf iv).toNat)
      case atStart =>
        refine ⟨0, Nat.zero_le _, rfl, .refl _ _, ?_⟩
        have h1 := HY9.out
        have h2 : strs ((List.range rows).map fun r => rowT (wdsL R LL) (txsL R LL) rows r 0) = List.replicate rows (.string ⟨#[]⟩) := by
          unfold strs
          rw [List.map_map]
          exact List.eq_replicate_iff.2 ⟨by rw [List.length_map, List.length_range], fun x hx => by obtain ⟨q, _, rfl⟩ := List.mem_map.1 hx; rfl⟩
        rw [h2]
        exact h1
      case round =>
        rename World => wo
        obtain ⟨k, hk, rfl, hBo, hRo⟩ := hrel
        have HBo := Lib.hid hBo
        have HRo := Lib.hid hRo
        by_cases hlt : k < LL.length
        · obtain ⟨tx, htx⟩ : ∃ tx, (txsL R LL)[k]? = some tx := ⟨_, List.getElem?_eq_getElem (by have := HL2.out; omega)⟩
          obtain ⟨wd, hwd⟩ : ∃ wd, (wdsL R LL)[k]? = some wd := ⟨_, List.getElem?_eq_getElem (by have := HL1.out; omega)⟩
          obtain ⟨M, hM, hMw⟩ := plan_ge (rows := rows) (by omega) hwd
          have hbl := fun (j : Nat) (hj : j < B + 1) => hBo.block j hj
          have hS : RowB wo (w.heap.size + 1) 9 (strs (txsL R LL)) := (hbl _ (by omega)).trans HS9.out
          have hW2 : RowB wo w.heap.size 3 (ints (wdsL R LL)) := (hbl _ (by omega)).trans HW9.out
          have hX := (hbl B (by omega)).trans HX9.out
          have y0 := hS.cell (strs_get htx)
          have w0 := hW2.cell (ints_get hwd)
          have x0 := row_cells (i := 0) hX rfl
          have x1 := row_cells (i := 1) hX rfl
          obtain ⟨pa, pcap, hpv, _, _, _, hpc⟩ := HP9.out
          have hM2 := (List.getElem?_eq_some_iff.1 hM).1
          obtain ⟨pb, poff, hpa, hpb, hpq⟩ := hpc (Nat.lt_of_le_of_lt (Nat.zero_le _) hM2)
          obtain ⟨r, hr⟩ : ∃ r, r = k % rows := ⟨_, rfl⟩
          have hrr : r < rows := by rw [hr]; exact Nat.mod_lt _ (by omega)
          have HRt := Lib.hid (show (k : Int).tmod (rows : Int) = (r : Int) by rw [hr]; rfl)
          obtain ⟨cq, hcq⟩ : ∃ cq, cq = k / rows := ⟨_, rfl⟩
          have hcb : cq ≤ k := by rw [hcq]; exact Nat.div_le_self _ _
          have HRq := Lib.hid (show (k : Int) / (rows : Int) = (cq : Int) by rw [hcq, Int.natCast_ediv])
          have hrd : IntKind.i64.wrap ((k : Int) / (rows : Int)) = (k : Int) / (rows : Int) := by rw [HRq.out]; exact IntWalk.i64_in _ (by omega)
          have HR := Lib.hid hr
          have HCq := Lib.hid hcq
          have hr0 : ¬ rows = 0 := by omega
          have e2 := IntWalk.i64_in ((k : Int) + 1) (by omega)
          have e3 := IntWalk.i64_in ((k : Int) + rows) (by omega)
          have s0 : (k : Int) < (LL.length : Int) := by omega
          have s1 : (0 : Int) ≤ (k : Int) := by omega
          have s2 : (r : Int) < (rows : Int) := by omega
          have s3 : (0 : Int) ≤ (r : Int) := by omega
          have hz := rowT_size (W := wdsL R LL) (TX := txsL R LL) (rows := rows) (r := r) (C := 120) (D := 42) HTs.out (fun j => gap_le HWb.out j) k
          have hzt := HTs.out tx (List.mem_of_getElem? htx)
          have hz2 : k * (120 + 42) ≤ 12 * 162 := Nat.mul_le_mul (by omega) (Nat.le_refl _)
          have HHit := Lib.hid (rowT_hit (W := wdsL R LL) (TX := txsL R LL) (rows := rows) (r := r) (i := k) hr.symm (by have := HL1.out; omega))
          have HPc := Lib.hid (show pieceT (wdsL R LL) (txsL R LL) rows k = tx ++ (if k + rows < LL.length then repB (gapN (wdsL R LL) rows k) else ⟨#[]⟩) by
            unfold pieceT
            rw [List.getD_eq_getElem?_getD, htx, HL1.out]; rfl)
          have HMiss := Lib.hid (fun q (hq : q < rows) (hne : q ≠ r) => rowT_miss (W := wdsL R LL) (TX := txsL R LL) (rows := rows) (r := q) (i := k) (by omega))
          cases hpv
          subst hpa
          generalize hPl : (planL (wdsL R LL) rows).length = pn at x1 hM2 ⊢
          have p0 : wo.cell? ⟨pb, poff + cq, none⟩ = some (.int .i64 M) := by
            have h1 := hpq cq _ (ints_get (hcq ▸ hM))
            exact (World.cell?_of_block (a := ⟨pb, poff + cq, none⟩) (hbl pb (by omega))).trans h1
          have hgap : ((gapN (wdsL R LL) rows k : Nat) : Int) = M - wd + 2 := by
            unfold gapN
            rw [List.getD_eq_getElem?_getD, List.getD_eq_getElem?_getD, hM, hwd]
            show ((M - wd + 2).toNat : Int) = _
            omega
          have hMb : M ≤ ((40 : Nat) : Int) := (planL_bd (by omega) (wdsL R LL) rows (fun z hz => (HWb.out z hz).2) M (List.mem_of_getElem? hM)).2
          have hwb := HWb.out wd (List.mem_of_getElem? hwd)
          clear hbl hpc hpq hX hS hW2 htx hM hwd
          have hoc : ((List.range rows).map fun r => rowT (wdsL R LL) (txsL R LL) rows r k)[r]? = some (rowT (wdsL R LL) (txsL R LL) rows r k) := by rw [List.getElem?_map, List.getElem?_range hrr]; rfl
          have HOc := Lib.hid hoc
          have HNew := Lib.hid (fun (t : ByteArray) (ht : t = rowT (wdsL R LL) (txsL R LL) rows r (k + 1)) => show strs (((List.range rows).map fun r => rowT (wdsL R LL) (txsL R LL) rows r k).set r t) = strs ((List.range rows).map fun r => rowT (wdsL R LL) (txsL R LL) rows r (k + 1)) by
            rw [ht]
            exact congrArg strs (rows_set (f := fun r => rowT (wdsL R LL) (txsL R LL) rows r k) (f' := fun r => rowT (wdsL R LL) (txsL R LL) rows r (k + 1)) hrr HMiss.out))
          generalize hT0 : rowT (wdsL R LL) (txsL R LL) rows r k = T0 at hz hoc HHit
          have HT0 := Lib.hid hT0
          have cc := fun W => run_string_add_sum (P := Tryz.prog) W T0 tx (by omega)
          have cc2 := fun W => run_string_add_sum (P := Tryz.prog) W (T0 ++ tx) (repB (gapN (wdsL R LL) rows k)) (by rw [ByteArray.size_append, repB_size]; omega)
          have HRep := Lib.hid (fun (W : World) => repeat_any (gapN (wdsL R LL) rows k) W (by omega))
          rw [hgap] at HRep
          clear hoc hT0 HMiss hz hzt hz2 hr hcq
          go_upto_region 19 with fail
          refine wp_region_held_drew (S := fun w' => w'.cell? ⟨B, 0, none⟩ = some (.int .i64 (rows : Int))) (by kernel_rfl) x0 (fun hHeld => ?_)
          refine hd_take 0 rfl (by kernel_rfl) (by kernel_rfl) (by kernel_rfl) (fun _ _ _ h => h) (by rfl) (by intro w hSw; (try dsimp only at hSw); go_simp; first | done | with_reducible rfl) hHeld ?_
          try simp only [Act.put, List.setIfInBounds_toArray, List.set_cons_zero, List.set_cons_succ]
          refine hd_take 1 rfl (by kernel_rfl) (by kernel_rfl) (by kernel_rfl) (fun _ _ _ h => h) (by rfl) (by intro w hSw; (try dsimp only at hSw); go_simp; first | done | with_reducible rfl) hHeld ?_
          try simp only [Act.put, List.setIfInBounds_toArray, List.set_cons_zero, List.set_cons_succ]
          refine hd_take 2 rfl (by kernel_rfl) (by kernel_rfl) (by kernel_rfl) (fun _ _ _ h => h) (by rfl) (by intro w hSw; (try dsimp only at hSw); go_simp; first | done | with_reducible rfl) hHeld ?_
          try simp only [Act.put, List.setIfInBounds_toArray, List.set_cons_zero, List.set_cons_succ]
          refine hd_take 3 rfl (by kernel_rfl) (by kernel_rfl) (by kernel_rfl) (fun _ _ _ h => h) (by rfl) (by intro w hSw; (try dsimp only at hSw); go_simp; first | done | with_reducible rfl) hHeld ?_
          try simp only [Act.put, List.setIfInBounds_toArray, List.set_cons_zero, List.set_cons_succ]
          refine hd_take 4 rfl (by kernel_rfl) (by kernel_rfl) (by kernel_rfl) (fun _ _ _ h => h) (by rfl) (by intro w hSw; (try dsimp only at hSw); go_simp; first | done | with_reducible rfl) hHeld ?_
          try simp only [Act.put, List.setIfInBounds_toArray, List.set_cons_zero, List.set_cons_succ]
          refine hd_take 5 rfl (by kernel_rfl) (by kernel_rfl) (by kernel_rfl) (fun _ _ _ h => h) (by rfl) (by intro w hSw; (try dsimp only at hSw); go_simp; first | done | with_reducible rfl) hHeld ?_
          try simp only [Act.put, List.setIfInBounds_toArray, List.set_cons_zero, List.set_cons_succ]
          refine hd_take 6 rfl (by kernel_rfl) (by kernel_rfl) (by kernel_rfl) (fun _ _ _ h => h) (by rfl) (by intro w hSw; (try dsimp only at hSw); go_simp; first | done | with_reducible rfl) hHeld ?_
          try simp only [Act.put, List.setIfInBounds_toArray, List.set_cons_zero, List.set_cons_succ]
          refine hd_take 7 rfl (by kernel_rfl) (by kernel_rfl) (by kernel_rfl) (fun _ _ _ h => h) (by rfl) (by intro w hSw; (try dsimp only at hSw); go_simp; first | done | with_reducible rfl) hHeld ?_
          try simp only [Act.put, List.setIfInBounds_toArray, List.set_cons_zero, List.set_cons_succ]
          refine hd_take 8 rfl (by kernel_rfl) (by kernel_rfl) (by kernel_rfl) (fun _ _ _ h => h) (by rfl) (by intro w hSw; (try dsimp only at hSw); go_simp; first | done | with_reducible rfl) hHeld ?_
          try simp only [Act.put, List.setIfInBounds_toArray, List.set_cons_zero, List.set_cons_succ]
          refine hd_take 9 rfl (by kernel_rfl) (by kernel_rfl) (by kernel_rfl) (fun _ _ _ h => h) (by rfl) (by intro w hSw; (try dsimp only at hSw); go_simp; first | done | with_reducible rfl) hHeld ?_
          try simp only [Act.put, List.setIfInBounds_toArray, List.set_cons_zero, List.set_cons_succ]
          refine wpAnyH_done (by kernel_rfl) ?_ _
          rw [HRt.out, HRq.out]
          have HBd := Lib.hid (show Below (B + 1) w9 wo.drew from below_dN HBo.out 1)
          have HRd := Lib.hid (show RowB wo.drew (B + 1) 9 (strs ((List.range rows).map fun r => rowT (wdsL R LL) (txsL R LL) rows r k)) from HRo.out)
          have y0 : wo.drew.cell? ⟨w.heap.size + 1, k, none⟩ = some (.string tx) := y0
          have w0 : wo.drew.cell? ⟨w.heap.size, k, none⟩ = some (.int .i64 wd) := w0
          have x0 : wo.drew.cell? ⟨B, 0, none⟩ = some (.int .i64 (rows : Int)) := x0
          have x1 : wo.drew.cell? ⟨B, 1, none⟩ = some (.slice (some ⟨pb, poff, none⟩) pn pc) := x1
          have p0 : wo.drew.cell? ⟨pb, poff + cq, none⟩ = some (.int .i64 M) := p0
          clear hHeld HBo HRo hrd
          generalize wo.drew = wp at HBd HRd y0 w0 x0 x1 p0 ⊢
          have o0 : wp.cell? ⟨B + 1, r, none⟩ = some (.string T0) := HRd.out.cell (strs_get (by rw [HOc.out, HT0.out]))
          have ow := HRd.out.warm r
          have hne : ∀ b i, b < B + 1 → ∀ v u, wp.cell? ⟨b, i, none⟩ = some v → (wp.setCell ⟨B + 1, r, none⟩ u).cell? ⟨b, i, none⟩ = some v := fun b i hb v u h => (World.cell?_setCell_other _ _ _ _ (fun e => by injection e with e; omega)).trans h
          have y0 := hne _ _ (by omega) _ (.string (T0 ++ tx)) y0
          have w0 := hne _ _ (by omega) _ (.string (T0 ++ tx)) w0
          have x0 := hne _ _ (by omega) _ (.string (T0 ++ tx)) x0
          have x1 := hne _ _ (by omega) _ (.string (T0 ++ tx)) x1
          have p0 := hne _ _ (by omega) _ (.string (T0 ++ tx)) p0
          have HRs := Lib.hid (show RowB (wp.setCell ⟨B + 1, r, none⟩ (.string (T0 ++ tx))) (B + 1) 9 (strs (((List.range rows).map fun r => rowT (wdsL R LL) (txsL R LL) rows r k).set r (T0 ++ tx))) by
            have := HRd.out.set r (.string (T0 ++ tx))
            rw [set_strs] at this
            exact this)
          have HBs := Lib.hid (show Below (B + 1) w9 (wp.setCell ⟨B + 1, r, none⟩ (.string (T0 ++ tx))) from HBd.out.setCell (Nat.le_refl _) _)
          clear HRd HBd hne
          go_upto_region 21 with fail
          clear o0 ow cc
          generalize wp.setCell ⟨B + 1, r, none⟩ (.string (T0 ++ tx)) = wq at HRs HBs y0 w0 x0 x1 p0 ⊢
          by_cases hnx : k + rows < LL.length
          · have d1 : decide ((k : Int) + (rows : Int) < (LL.length : Int)) = true := decide_eq_true (by omega)
            have d1' : (k : Int) + (rows : Int) < (LL.length : Int) := by omega
            have HFin := Lib.hid (show T0 ++ tx ++ repB (gapN (wdsL R LL) rows k) = rowT (wdsL R LL) (txsL R LL) rows r (k + 1) by rw [HHit.out, HPc.out, if_pos hnx, ByteArray.append_assoc])
            have o1 : wq.cell? ⟨B + 1, r, none⟩ = some (.string (T0 ++ tx)) := HRs.out.cell (strs_get (List.getElem?_set_self (by rw [List.length_map, List.length_range]; exact hrr)))
            have e5 := IntWalk.i64_in (M - wd) (by omega)
            have e6 := IntWalk.i64_in (M - wd + 2) (by omega)
            have s6 : (cq : Int) < (pn : Int) := by have := HCq.out; omega
            have s7 : (0 : Int) ≤ (cq : Int) := by omega
            go_upto_region 22 with fail
            refine wp_region_held_drew (S := fun w' => w'.cell? ⟨B, 1, none⟩ = some (.slice (some ⟨pb, poff, none⟩) pn pc) ∧ w'.cell? ⟨pb, poff + cq, none⟩ = some (.int .i64 M) ∧ w'.cell? ⟨w.heap.size, k, none⟩ = some (.int .i64 wd)) (by kernel_rfl) ⟨x1, p0, w0⟩ (fun hHeld => ?_)
            obtain ⟨wd', hwd'⟩ : ∃ wd', wd' = wq.drew := ⟨_, rfl⟩
            have x1 : wq.drew.cell? ⟨B, 1, none⟩ = some (.slice (some ⟨pb, poff, none⟩) pn pc) := x1
            have p0 : wq.drew.cell? ⟨pb, poff + cq, none⟩ = some (.int .i64 M) := p0
            have w0 : wq.drew.cell? ⟨w.heap.size, k, none⟩ = some (.int .i64 wd) := w0
            have o1 : wq.drew.cell? ⟨B + 1, r, none⟩ = some (.string (T0 ++ tx)) := o1
            have HBf := Lib.hid (show Below (B + 1) w9 wq.drew from below_dN HBs.out 1)
            have HRf := Lib.hid (show RowB wq.drew (B + 1) 9 (strs (((List.range rows).map fun r => rowT (wdsL R LL) (txsL R LL) rows r k).set r (T0 ++ tx))) from HRs.out)
            rw [← hwd'] at hHeld x1 p0 w0 o1 HBf HRf ⊢
            clear hwd' HRs HBs
            refine hd_take 0 rfl (by kernel_rfl) (by kernel_rfl) (by kernel_rfl) (fun _ _ _ h => h) (by rfl) (by intro w hSw; (try dsimp only at hSw); obtain ⟨hs1, hs2, hs3⟩ := hSw; go_simp; first | done | with_reducible rfl) hHeld ?_
            try simp only [Act.put, List.setIfInBounds_toArray, List.set_cons_zero, List.set_cons_succ]
            refine hd_take 1 rfl (by kernel_rfl) (by kernel_rfl) (by kernel_rfl) (fun _ _ _ h => h) (by rfl) (by intro w hSw; (try dsimp only at hSw); obtain ⟨hs1, hs2, hs3⟩ := hSw; go_simp; first | done | with_reducible rfl) hHeld ?_
            try simp only [Act.put, List.setIfInBounds_toArray, List.set_cons_zero, List.set_cons_succ]
            refine hd_take 2 rfl (by kernel_rfl) (by kernel_rfl) (by kernel_rfl) (fun _ _ _ h => h) (by rfl) (by intro w hSw; (try dsimp only at hSw); obtain ⟨hs1, hs2, hs3⟩ := hSw; go_simp; first | done | with_reducible rfl) hHeld ?_
            try simp only [Act.put, List.setIfInBounds_toArray, List.set_cons_zero, List.set_cons_succ]
            refine hd_take 4 rfl (by kernel_rfl) (by kernel_rfl) (by kernel_rfl) (fun _ _ _ h => h) (by rfl) (by intro w hSw; (try dsimp only at hSw); obtain ⟨hs1, hs2, hs3⟩ := hSw; go_simp; first | done | with_reducible rfl) hHeld ?_
            try simp only [Act.put, List.setIfInBounds_toArray, List.set_cons_zero, List.set_cons_succ]
            refine hd_take 5 rfl (by kernel_rfl) (by kernel_rfl) (by kernel_rfl) (fun _ _ _ h => h) (by rfl) (by intro w hSw; (try dsimp only at hSw); obtain ⟨hs1, hs2, hs3⟩ := hSw; go_simp; first | done | with_reducible rfl) hHeld ?_
            try simp only [Act.put, List.setIfInBounds_toArray, List.set_cons_zero, List.set_cons_succ]
            refine hd_take 6 rfl (by kernel_rfl) (by kernel_rfl) (by kernel_rfl) (fun _ _ _ h => h) (by rfl) (by intro w hSw; (try dsimp only at hSw); obtain ⟨hs1, hs2, hs3⟩ := hSw; go_simp; first | done | with_reducible rfl) hHeld ?_
            try simp only [Act.put, List.setIfInBounds_toArray, List.set_cons_zero, List.set_cons_succ]
            refine hd_take 7 rfl (by kernel_rfl) (by kernel_rfl) (by kernel_rfl) (fun _ _ _ h => h) (by rfl) (by intro w hSw; (try dsimp only at hSw); obtain ⟨hs1, hs2, hs3⟩ := hSw; go_simp; first | done | with_reducible rfl) hHeld ?_
            try simp only [Act.put, List.setIfInBounds_toArray, List.set_cons_zero, List.set_cons_succ]
            refine hd_take 8 rfl (by kernel_rfl) (by kernel_rfl) (by kernel_rfl) (fun _ _ _ h => h) (by rfl) (by intro w hSw; (try dsimp only at hSw); obtain ⟨hs1, hs2, hs3⟩ := hSw; go_simp; first | done | with_reducible rfl) hHeld ?_
            try simp only [Act.put, List.setIfInBounds_toArray, List.set_cons_zero, List.set_cons_succ]
            refine hd_take 9 rfl (by kernel_rfl) (by kernel_rfl) (by kernel_rfl) (fun _ _ _ h => h) (by rfl) (by intro w hSw; (try dsimp only at hSw); obtain ⟨hs1, hs2, hs3⟩ := hSw; go_simp; first | done | with_reducible rfl) hHeld ?_
            try simp only [Act.put, List.setIfInBounds_toArray, List.set_cons_zero, List.set_cons_succ]
            refine hd_take 10 rfl (by kernel_rfl) (by kernel_rfl) (by kernel_rfl) (fun _ _ _ h => h) (by rfl) (by intro w hSw; (try dsimp only at hSw); obtain ⟨hs1, hs2, hs3⟩ := hSw; go_simp; first | done | with_reducible rfl) hHeld ?_
            try simp only [Act.put, List.setIfInBounds_toArray, List.set_cons_zero, List.set_cons_succ]
            refine hd_take 11 rfl (by kernel_rfl) (by kernel_rfl) (by kernel_rfl) (fun _ _ _ h => h) (by rfl) (by intro w hSw; (try dsimp only at hSw); obtain ⟨hs1, hs2, hs3⟩ := hSw; go_simp; first | done | with_reducible rfl) hHeld ?_
            try simp only [Act.put, List.setIfInBounds_toArray, List.set_cons_zero, List.set_cons_succ]
            refine hd_take 12 rfl (by kernel_rfl) (by kernel_rfl) (by kernel_rfl) (fun _ _ _ h => h) (by rfl) (by intro w hSw; (try dsimp only at hSw); obtain ⟨hs1, hs2, hs3⟩ := hSw; go_simp; first | done | with_reducible rfl) hHeld ?_
            try simp only [Act.put, List.setIfInBounds_toArray, List.set_cons_zero, List.set_cons_succ]
            refine hd_take 13 rfl (by kernel_rfl) (by kernel_rfl) (by kernel_rfl) (fun _ _ _ h => h) (by rfl) (by intro w hSw; (try dsimp only at hSw); obtain ⟨hs1, hs2, hs3⟩ := hSw; go_simp; first | done | with_reducible rfl) hHeld ?_
            try simp only [Act.put, List.setIfInBounds_toArray, List.set_cons_zero, List.set_cons_succ]
            refine hd_take 14 rfl (by kernel_rfl) (by kernel_rfl) (by kernel_rfl) (fun _ _ _ h => h) (by rfl) (by intro w hSw; (try dsimp only at hSw); obtain ⟨hs1, hs2, hs3⟩ := hSw; go_simp; first | done | with_reducible rfl) hHeld ?_
            try simp only [Act.put, List.setIfInBounds_toArray, List.set_cons_zero, List.set_cons_succ]
            refine hd_two 3 15 (by kernel_rfl) rfl rfl (fun K hK => ?_) (fun K hK => ?_)
            case' refine_1 =>
              go_simp
              refine hK.out _ _ ⟨x1, p0, w0⟩ (fun hHeld => ?_)
              clear hK K
              try simp only [Act.put, List.setIfInBounds_toArray, List.set_cons_zero, List.set_cons_succ]
              refine hd_step 15 (by kernel_rfl) rfl (fun K hK => ?_)
              go_simp
              go_at_call 89
              refine (HRep.out _).mono ?_
              rintro e w14 ⟨rfl, hB14⟩
              have x1 := cell_later hB14 x1
              have p0 := cell_later hB14 p0
              have w0 := cell_later hB14 w0
              have o1 := cell_later hB14 o1
              have HRf := Lib.hid (HRf.out.below hB14)
              have HBf := Lib.hid (HBf.out.trans (hB14.mono (by have := HBf.out.size; omega)))
              clear hB14
              go_wp2_with fail
              refine hK.out _ _ ⟨x1, p0, w0⟩ (fun hHeld => ?_)
              clear hK K
              try simp only [Act.put, List.setIfInBounds_toArray, List.set_cons_zero, List.set_cons_succ]
              rename World => wf
            case' refine_2 =>
              go_simp
              go_at_call 89
              refine (HRep.out _).mono ?_
              rintro e w14 ⟨rfl, hB14⟩
              have x1 := cell_later hB14 x1
              have p0 := cell_later hB14 p0
              have w0 := cell_later hB14 w0
              have o1 := cell_later hB14 o1
              have HRf := Lib.hid (HRf.out.below hB14)
              have HBf := Lib.hid (HBf.out.trans (hB14.mono (by have := HBf.out.size; omega)))
              clear hB14
              go_wp2_with fail
              refine hK.out _ _ ⟨x1, p0, w0⟩ (fun hHeld => ?_)
              clear hK K
              try simp only [Act.put, List.setIfInBounds_toArray, List.set_cons_zero, List.set_cons_succ]
              refine hd_step 3 (by kernel_rfl) rfl (fun K hK => ?_)
              go_simp
              refine hK.out _ _ ⟨x1, p0, w0⟩ (fun hHeld => ?_)
              clear hK K
              try simp only [Act.put, List.setIfInBounds_toArray, List.set_cons_zero, List.set_cons_succ]
              rename World => wf
            all_goals
              refine hd_take 16 rfl (by kernel_rfl) (by kernel_rfl) (by kernel_rfl) (fun _ _ _ h => h) (by rfl) (by intro w hSw; (try dsimp only at hSw); obtain ⟨hs1, hs2, hs3⟩ := hSw; go_simp; first | done | with_reducible rfl) hHeld ?_
              try simp only [Act.put, List.setIfInBounds_toArray, List.set_cons_zero, List.set_cons_succ]
              refine hd_take 17 rfl (by kernel_rfl) (by kernel_rfl) (by kernel_rfl) (fun _ _ _ h => h) (by rfl) (by intro w hSw; (try dsimp only at hSw); obtain ⟨hs1, hs2, hs3⟩ := hSw; go_simp; first | done | with_reducible rfl) hHeld ?_
              try simp only [Act.put, List.setIfInBounds_toArray, List.set_cons_zero, List.set_cons_succ]
              have ow := HRf.out.warm r
              have hne : ∀ b i, b < B + 1 → ∀ v u, wf.cell? ⟨b, i, none⟩ = some v → (wf.setCell ⟨B + 1, r, none⟩ u).cell? ⟨b, i, none⟩ = some v := fun b i hb v u h => (World.cell?_setCell_other _ _ _ _ (fun e => by injection e with e; omega)).trans h
              refine hd_step 18 (by kernel_rfl) rfl (fun K hK => ?_)
              go_simp
              refine hK.out _ _ ⟨hne _ _ (by omega) _ _ x1, hne _ _ (by omega) _ _ p0, hne _ _ (by omega) _ _ w0⟩ (fun hHeld => ?_)
              clear hK K
              try simp only [Act.put, List.setIfInBounds_toArray, List.set_cons_zero, List.set_cons_succ]
              refine wpAnyH_done (by kernel_rfl) ?_ _
              have HBe := Lib.hid (show Below (B + 1) w9 (wf.setCell ⟨B + 1, r, none⟩ (.string (T0 ++ tx ++ repB (gapN (wdsL R LL) rows k)))) from HBf.out.setCell (Nat.le_refl _) _)
              have hRe := HRf.out.set r (.string (T0 ++ tx ++ repB (gapN (wdsL R LL) rows k)))
              rw [set_strs, List.set_set, HNew.out _ HFin.out] at hRe
              have HRe := Lib.hid hRe
              clear hHeld hRe HRf HBf HFin HNew hne x1 p0 w0 o1 ow cc2 e5 e6
              generalize wf.setCell ⟨B + 1, r, none⟩ (.string (T0 ++ tx ++ repB (gapN (wdsL R LL) rows k))) = we at HBe HRe ⊢
              go_wp2_with fail
              go_roundw
              case rel => exact ⟨k + 1, by omega, by go_num, HBe.out, HRe.out⟩
              case measure => simp [intOf] <;> omega
          · have d1 : decide ((k : Int) + (rows : Int) < (LL.length : Int)) = false := decide_eq_false (by omega)
            have d1' : ¬ (k : Int) + (rows : Int) < (LL.length : Int) := by omega
            have HFin := Lib.hid (show T0 ++ tx = rowT (wdsL R LL) (txsL R LL) rows r (k + 1) by rw [HHit.out, HPc.out, if_neg hnx, app_none])
            have hRe := HRs.out
            rw [HNew.out _ HFin.out] at hRe
            have HRe := Lib.hid hRe
            clear hRe HRs HFin HNew hnx
            go_wp2_with fail
            go_roundw
            case rel => exact ⟨k + 1, by omega, by go_num, HBs.out, HRe.out⟩
            case measure => simp [intOf] <;> omega
        · have hke : k = LL.length := by omega
          subst hke
          clear hBo hRo hlt hk
          go_wp2_with fail
          go_ret
          refine ⟨_, rows, rfl, HF.out, ?_, ?_⟩
          · exact HB9.out.trans (HBo.out.mono (by omega))
          · exact HRo.out.rd (by rw [strs_len, List.length_map, List.length_range]) (Nat.le_refl _) (by unfold maxLen; omega)
end
end Go.Proofs.YtkeainhjghdfcaaGreat
