/- Joined texts: ScrD. -/
import Derived.Deep.QuietTactic
import Derived.BigQuiet
import Derived.Test.YtkeainhjghdfcaaGreatSdbh

/- The document's Of (chapter 29): its walk. (Printed by gen_dof.py.) -/
namespace Go.Proofs.YtkeainhjghdfcaaGreat
open Go.RowKit

section
variable {R : List Rw} {P : List (List Int)} {s : List Int} {w : World} {pv sv rv : Value}
set_option maxRecDepth 100000 in
set_option maxHeartbeats 16000000 in
theorem dof_yes (H : (tabOf R).Ok) (hR : RowsIn w rv R) (hP : TextsIn w pv P) (hPo : ∀ p ∈ P, RunesOk p ∧ p.length ≤ 20) (hPl : P.length ≤ 4) (hs : RunesIn w sv s) (ok : RunesOk s) (hl : s.length ≤ 100) (c : Int) {n m : Nat} (h1 : 1 ≤ n) (h2 : n ≤ 500) (h3 : 2 ≤ m) (h4 : m ≤ 1000) :
    Calls Tryz.prog 24 #[rv, .agg #[pv, sv, .int .i64 c], .int .i64 (n : Int), .int .i64 (m : Int)] w fun e w' => ∃ B ob cap rb rc, e = .returned (.agg #[.slice (some ⟨ob, 0, none⟩) n cap, .int .i64 ((itemAt m (viewG R P s) (curK R P s c)).1 - scTop (viewG R P s) n m (curK R P s c)), .int .i64 (itemAt m (viewG R P s) (curK R P s c)).2]) ∧
      Below w.heap.size w w' ∧ RefAt w' B ob rb rc m (scG (viewG R P s) n m (curK R P s c)) := by
  have HOk := Lib.hid ok
  have HPo := Lib.hid hPo
  have hpt := fun k => partsG_take_le R (m := 20) (fun p hp => (hPo p hp).2) (P := P) k
  have hpl : ∀ k, (partsG R (P.take k)).length ≤ 160 := fun k => Nat.le_trans (hpt k) (by omega)
  have HPl := Lib.hid hpl
  have hll := line_le R s
  have hLl := view_le R hPo hPl hl
  have hkl := curK_le H (P := P) (s := s) (c := c)
  have hth := view_thin R P s
  have hbd := sc_bd (L := viewG R P s) (n := n) (m := m) (k := curK R P s c) h1 h3 hth hkl
  have HTh := Lib.hid hth
  have HSt := Lib.hid (fun (W : World) (h1 : RowsIn W rv R) (h2 : RunesIn W sv s) => rstarts_any h1 h2 ok (by omega))
  have hsl : (starts (tabOf R) s).length ≤ 100 := by rw [starts_clus H]; have : (clus (tabOf R) s).length ≤ s.length := clusN_len (tabOf R) s.length s; omega
  have HAg := Lib.hid (fun (j : Nat) (hj : j < (starts (tabOf R) s).length) => atsL_get (R := R) (LL := clus (tabOf R) s) (n := (clus (tabOf R) s).length + 1) (k := j) (by rw [← starts_clus H]; omega))
  have HAgb := Lib.hid (fun (j : Nat) (hj : j < (starts (tabOf R) s).length) => show aheadG R (clus (tabOf R) s) j ≤ 2 * s.length by
    have := lineG_take_le R s j
    unfold lineG at this
    unfold aheadG lineG
    exact this)
  have HK1 := Lib.hid (kAt_all H (s := s) (c := c))
  have HKh := Lib.hid (fun n => kAt_hit (R := R) (s := s) (c := c) (n := n))
  have HKm := Lib.hid (fun n => kAt_miss (R := R) (s := s) (c := c) (n := n))
  have HAl := Lib.hid (fun (j x : Nat) (hx : (starts (tabOf R) s)[j]? = some x) => ahd_lt (a := c) (starts_sorted (tabOf R) s) hx)
  obtain ⟨top, htop⟩ : ∃ t, t = scTop (viewG R P s) n m (curK R P s c) := ⟨_, rfl⟩
  have HTop := Lib.hid htop
  have HG0 := Lib.hid (show scG (viewG R P s) n m (curK R P s c) = layG m top m (viewG R P s) (List.replicate n (List.replicate m blankC)) (viewG R P s).length by rw [htop]; rfl)
  have HCu := Lib.hid (show curK R P s c = (partsG R P).length + kAt R s c 0 from rfl)
  have hvl : (viewG R P s).length = (partsG R P).length + (lineG R (clus (tabOf R) s)).length := by unfold viewG; rw [List.length_append]
  have HVl := Lib.hid hvl
  rw [← htop] at hbd
  obtain ⟨b1, b2, b3, b4, b5, b6, b7, b8⟩ := hbd
  obtain ⟨sl, scap, rfl, _, _, _⟩ := runes_cells hs
  obtain ⟨pa, pcap, rfl, hp1, hp2⟩ := texts_shape hP
  unfold maxLen at hp2
  have hba := below1 w (.cells #[.slice pa P.length pcap, .slice sl s.length scap, .int .i64 c] 53)
  have hna := heap_alloc_new w (.cells #[.slice pa P.length pcap, .slice sl s.length scap, .int .i64 c] 53)
  have hbb := below1 (w.alloc (.cells #[.slice pa P.length pcap, .slice sl s.length scap, .int .i64 c] 53)) (.cells #[.slice none 0 0, .int .i64 0, .int .i64 0] 66)
  have hnb := heap_alloc_new (w.alloc (.cells #[.slice pa P.length pcap, .slice sl s.length scap, .int .i64 c] 53)) (.cells #[.slice none 0 0, .int .i64 0, .int .i64 0] 66)
  have hza : (w.alloc (.cells #[.slice pa P.length pcap, .slice sl s.length scap, .int .i64 c] 53)).heap.size = w.heap.size + 1 := by simp
  have hzb : ((w.alloc (.cells #[.slice pa P.length pcap, .slice sl s.length scap, .int .i64 c] 53)).alloc (.cells #[.slice none 0 0, .int .i64 0, .int .i64 0] 66)).heap.size = w.heap.size + 2 := by simp
  rw [hza] at hbb hnb
  have hB1 := hba.trans (hbb.mono (by omega))
  have HB1 := Lib.hid hB1
  have HNV := Lib.hid ((hbb.block _ (by omega)).trans hna)
  have HNR := Lib.hid hnb
  have HR1 := Lib.hid (hR.below hB1)
  have HP1 := Lib.hid (hP.below hB1)
  have HS1 := Lib.hid (hs.below hB1)
  clear hR hP hs ok hPo htop hba hbb hna hnb hB1 hza hpt hpl hvl
  have g1 : decide ((n : Int) < 1) = false := decide_eq_false (by omega)
  have g2 : decide ((n : Int) > 500) = false := decide_eq_false (by omega)
  have g3 : decide ((m : Int) < 2) = false := decide_eq_false (by omega)
  have g4 : decide ((m : Int) > 1000) = false := decide_eq_false (by omega)
  go_enter Tryz.func24, Tryz.ntmps24
  go_upto_region 3 with fail
  clear g1 g2 g3 g4
  generalize (w.alloc (.cells #[.slice pa P.length pcap, .slice sl s.length scap, .int .i64 c] 53)).alloc (.cells #[.slice none 0 0, .int .i64 0, .int .i64 0] 66) = w1 at HB1 HNV HNR HR1 HP1 HS1 hzb ⊢
  go_wp2_with fail
  go_loopw [9, 10] (fun lv iv wr => ∃ (k : Nat) (G : List Gy), k ≤ P.length ∧ iv = .int .i64 ((k : Nat) : Int) ∧ Below w1.heap.size w1 wr ∧ wr.ownsRow w1.heap.size 81 2 lv G.length (G.flatMap gyE) ∧ G = partsG R (P.take k)) (fun _ iv _ => P.length - (intOf iv).toNat)
  case atStart => exact ⟨0, [], Nat.zero_le _, rfl, .refl _ _, World.ownsRow_nil _ _ _ _, rfl⟩
  case round =>
    obtain ⟨k, G, hk, rfl, hB, hO, hG⟩ := hrel
    have HB := Lib.hid hB
    have HG := Lib.hid hG
    have HO := Lib.hid hO
    have hGl : G.length ≤ 160 := by rw [hG]; exact HPl.out k
    have hbs := hB.size
    obtain ⟨oa, oc, rfl⟩ := slice_of_owns hO
    have y0 := cell_later hB (row_cells (i := 0) HNV.out rfl)
    clear hB hO hG
    by_cases hlt : k < P.length
    · obtain ⟨p, hp⟩ : ∃ p, P[k]? = some p := ⟨P[k], List.getElem?_eq_getElem hlt⟩
      have hpm := List.mem_of_getElem? hp
      have hpq := HPo.out p hpm
      have HOp := Lib.hid hpq.1
      have hpn := hpq.2
      have hpll := line_le R p
      have HGn := Lib.hid (show G ++ lineG R (clus (tabOf R) p) = partsG R (P.take (k + 1)) by rw [partsG_snoc R P hp, HG.out])
      obtain ⟨b, off, cp, cu, hv, _, _, _, _, d00, hcu⟩ := texts_cell HP1.out hp
      cases hv
      have d0 := cell_later HB.out d00
      have HPu := Lib.hid hcu
      have hbig : (G.length + (lineG R (clus (tabOf R) p)).length) * 24 ≤ 140737488355328 := by omega
      have e1 := IntWalk.i64_in ((k : Int) + 1) (by omega)
      have s0 : (k : Int) < (P.length : Int) := by omega
      have s1 : (0 : Int) ≤ (k : Int) := by omega
      clear hp hpm hpq d00 hcu hpll
      go_wp2_with fail
      refine (rline_any H (HR1.out.below HB.out) (HPu.out.below HB.out) HOp.out (by omega)).mono ?_
      rintro e w8 ⟨u8, a8, rfl, hB8, hI8, _⟩
      have HB8 := Lib.hid (HB.out.trans (hB8.mono HB.out.size))
      have HO8 := Lib.hid (owns_stays HO.out hB8)
      have HI8 := Lib.hid hI8
      have hbs8 := HB8.out.size
      clear hB8 hI8 HO HB d0 y0
      go_wp2_with (at_builtin; go_loud (refine wpList_app_rd _ rfl (.tmp 53) (.tmp 54) _ rfl Erg _ _ _ rfl HO8.out _ _ _ rfl HI8.out (gyE_ones _) hbig hbs8 ?_); intro v9 w9 ho9 hg9; have HB9 := Lib.hid (below_app HB8.out hbs8 HO8.out (Nat.le_refl _) hg9); have HO9 := Lib.hid ho9; clear ho9 hg9)
      go_roundw
      case rel => exact ⟨k + 1, G ++ lineG R (clus (tabOf R) p), by omega, by go_num, HB9.out, by rw [List.length_append, List.flatMap_append]; exact HO9.out, HGn.out⟩
      case measure => simp [intOf] <;> omega
    · have hke : k = P.length := by omega
      subst hke
      rw [List.take_length] at HG
      have y1 := cell_later HB.out (row_cells (i := 1) HNV.out rfl)
      have s0 : ¬ (P.length : Int) < (P.length : Int) := by omega
      have hPGl : (partsG R P).length = G.length := by rw [HG.out]
      clear hlt hk
      go_wp2_with fail
      refine (rline_own H (HR1.out.below HB.out) (HS1.out.below HB.out) HOk.out (by omega)).mono ?_
      rintro e w2 ⟨u2, a2, rfl, hB2, hU2, hA2⟩
      have HB2 := Lib.hid (HB.out.trans (hB2.mono HB.out.size))
      have HO2 := Lib.hid (owns_stays HO.out hB2)
      have HU2 := Lib.hid (show GlyIn w2 u2 (lineG R (clus (tabOf R) s)) from rgly_of_owns hU2)
      have HA2 := Lib.hid (owns_lower hA2 hbs)
      have hN : G.length + (lineG R (clus (tabOf R) s)).length = (viewG R P s).length := by rw [HVl.out, hPGl]
      have HN := Lib.hid hN
      have HVg := Lib.hid (show G.flatMap gyE ++ (lineG R (clus (tabOf R) s)).flatMap gyE = (viewG R P s).flatMap gyE by unfold viewG; rw [List.flatMap_append, HG.out])
      have hbs2 := HB2.out.size
      have hbig : (G.length + (lineG R (clus (tabOf R) s)).length) * 24 ≤ 140737488355328 := by omega
      clear hB2 hU2 hA2 HB HO y0 y1 s0 hN
      go_wp2_with (at_builtin; go_loud (refine wpList_app_rd _ rfl (.tmp 65) (.tmp 66) _ rfl Erg _ _ _ rfl HO2.out _ _ _ rfl HU2.out (gyE_ones _) hbig hbs2 ?_); intro v9 w9 ho9 hg9; rw [HN.out, HVg.out] at ho9; obtain ⟨va, vc, rfl⟩ := slice_of_owns ho9; have HB9 := Lib.hid (below_app HB2.out hbs2 HO2.out (Nat.le_refl _) hg9); have HU9 := Lib.hid (show Rs w9.heap.size w9 genc 2 (.slice va (viewG R P s).length vc) (viewG R P s) from rgly_of_owns ho9); have HA9 := Lib.hid (owns_kept_types HO2.out HA2.out (by decide) hg9); have y1 := cell_later HB9.out (row_cells (i := 1) HNV.out rfl); clear ho9 hg9)
      refine (HSt.out w9 (HR1.out.below HB9.out) (HS1.out.below HB9.out)).mono ?_
      rintro e w10 ⟨su, rfl, hB10, hS10⟩
      have HS10 := Lib.hid hS10
      have HB10 := Lib.hid (HB9.out.trans (hB10.mono HB9.out.size))
      have HU10 := Lib.hid ((Rd.below HU9.out hB10 (Nat.le_refl _)).mono hB10.size)
      have HA10 := Lib.hid (ints_of_owns (owns_stays HA9.out hB10))
      obtain ⟨sua, suc, rfl, _⟩ := hS10
      obtain ⟨aua, auc, hau, _⟩ := HA10.out
      subst hau
      have HCk := Lib.hid (show G.length + kAt R s c 0 = curK R P s c by rw [HCu.out, hPGl])
      have HNk := Lib.hid (show G.length + kAt R s c (starts (tabOf R) s).length = (viewG R P s).length by rw [HK1.out, HN.out])
      clear hB10 HB9 HU9 HA9 HU2 HA2 HO2 HB2 HSt HK1 HN HVg HVl HG HCu y1 HPo HPl HOk hPGl
      generalize kAt R s c = K at HKh HKm HCk HNk
      generalize ahd (starts (tabOf R) s) c = ci at HKh HKm HAl
      generalize aheadG R (clus (tabOf R) s) = ag at HKh HAg HAgb
      generalize hLe : viewG R P s = L at HU10 HTh HNk hLl hkl b1 b2 b3 b5 b6 b7 b8 HTop HG0
      generalize hke : curK R P s c = kk at HCk hkl b1 b2 b5 b6 b7 b8 HTop HG0
      have HLe := Lib.hid hLe
      have HKe := Lib.hid hke
      clear hLe hke
      generalize atsL R (clus (tabOf R) s) ((clus (tabOf R) s).length + 1) = A at HA10 HAg ⊢
      generalize starts (tabOf R) s = S at hsl HAg HAgb HAl HS10 HNk ⊢
      have hKN := HNk.out
      have e0 := IntWalk.i64_in ((S.length : Int) - 1) (by omega)
      have hbs10 := HB10.out.size
      clear hKN
      go_wp2_with fail
      go_loopw [17, 18] (fun kv iv wr => ∃ j : Nat, j ≤ S.length ∧ iv = .int .i64 ((j : Int) - 1) ∧ kv = .int .i64 (((G.length + K j : Nat)) : Int) ∧ Below w10.heap.size w10 wr) (fun _ iv _ => (intOf iv + 1).toNat)
      case atStart => exact ⟨S.length, Nat.le_refl _, rfl, by rw [HNk.out], .refl _ _⟩
      case round =>
        obtain ⟨j, hj, rfl, rfl, hB⟩ := hrel
        have HB := Lib.hid hB
        rcases j with _ | j
        · have q0 : decide (((0 : Nat) : Int) - 1 ≥ 0) = false := by decide
          rw [HCk.out]
          clear e0 hj
          go_wp2_with fail
          refine (refPlace_any _ L m wr ((Rd.below HU10.out hB (Nat.le_refl _)).mono hB.size) (by omega) (by omega) HTh.out).mono ?_
          rintro e w3 ⟨vs, rfl, hB3, hs⟩
          have hsl : (spotsL m L).length = L.length + 1 := by rw [spotsL_len, if_neg (by omega)]
          obtain ⟨sg, sc, rfl, hsg, hsg2⟩ := ownBlock_of_owns hs (by omega)
          obtain ⟨z0, _⟩ := spot_cells (by omega) hs (Nat.le_refl L.length)
          obtain ⟨z1, z2⟩ := spot_cells (by omega) hs hkl
          rw [hsl]
          have hBB := hB.trans (hB3.mono hB.size)
          have HB3 := Lib.hid (HB1.out.trans ((HB10.out.trans (hBB.mono hbs10)).mono (by omega)))
          have HR3 := Lib.hid (((HB10.out.trans (hBB.mono hbs10)).block _ (row_len HNR.out)).trans HNR.out)
          have HU3 := Lib.hid ((Rd.below HU10.out hBB (Nat.le_refl _)).mono hBB.size)
          have hs3 := hBB.size
          have hswr := hB.size
          clear hB3 hs hsl hBB hB HB HAg HAgb HAl HKh HKm HCk HNk HS10 HA10 HU10 HNV HR1 HP1 HS1
          generalize hE : itemAt m L L.length = eI at z0 b2 b3
          generalize hK : itemAt m L kk = kI at z1 z2 b1 b2 b5 b6 b7 b8
          obtain ⟨er, ec⟩ := eI
          obtain ⟨kr, kc⟩ := kI
          dsimp only at z0 z1 z2 b1 b2 b3 b5 b6 b7 b8
          have HTp := Lib.hid (show topN (er + 1) n kr = top by rw [HTop.out]; unfold scTop; rw [hE, hK])
          have HKi := Lib.hid hK
          have q1 : (L.length : Int) < ((L.length + 1 : Nat) : Int) := by omega
          have q2 : (L.length : Int) < (L.length : Int) + 1 := by omega
          have q3 : (0 : Int) ≤ (L.length : Int) := by omega
          have q4 : (kk : Int) < ((L.length + 1 : Nat) : Int) := by omega
          have q5 : (kk : Int) < (L.length : Int) + 1 := by omega
          have q6 : (0 : Int) ≤ (kk : Int) := by omega
          have e1 := IntWalk.i64_in (er + 1) (by omega)
          have e7 := IntWalk.i64_in (kr - top) (by omega)
          have HTop2 := HTop
          clear hE hK HTop q0
          go_upto_region 20 with fail
          go_region_held3 (fun w' => w'.cell? ⟨sg, L.length * 2, none⟩ = some (.int .i64 er) ∧ w'.cell? ⟨sg, kk * 2, none⟩ = some (.int .i64 kr))
            (first | exact ⟨z0, z1⟩ | go_keep)
            (first | (go_at_call 78; refine (refTop_any (er + 1) n kr _ (by omega) (by omega) (by omega) (by omega) (by omega) (by omega)).mono ?_; rintro e w11 ⟨rfl, rfl⟩; rw [HTp.out]))
          clear z0 q1 q2 q3 e1
          have hne : ¬ sg = w.heap.size + 1 := by have := HB10.out.size; have := hzb; omega
          have hql := row_len HR3.out
          go_upto_region 21 with fail
          have hLay := fun (W : World) (hb : Below w3.heap.size w3 W) => refLay_some n m top _ L W ((Rd.below HU3.out hb (Nat.le_refl _)).mono hb.size) (by omega) HTh.out h1 h2 h3 h4 (by omega) (by omega)
          have HLay := Lib.hid hLay
          have HR3b := Lib.hid (fun (W : World) (hb : Below w3.heap.size w3 W) => (hb.block _ hql).trans HR3.out)
          have HB3b := Lib.hid (fun (W : World) (hb : Below w3.heap.size w3 W) => HB3.out.trans (hb.mono (by have := HB3.out.size; omega)))
          clear hLay HR3 HB3 HU3
          go_region_held3 (fun w' => w'.cell? ⟨sg, kk * 2, none⟩ = some (.int .i64 kr) ∧ w'.cell? ⟨sg, kk * 2 + 1, none⟩ = some (.int .i64 kc))
            (first | exact ⟨z1, z2⟩ | exact ⟨x1, x2⟩ | exact ⟨kept_three.cell x1 hne, kept_three.cell x2 hne⟩ | go_keep)
            (first | (go_at_call 79; refine (HLay.out _ (below_dN (.refl _ _) 2)).mono ?_; rintro e w12 ⟨ob, ocap, rb, rc, rfl, hB12, hG12⟩; have hk12 : Below w3.heap.size w3 w12 := (below_dN (.refl _ _) 2).trans hB12; have x1 := cell_later hk12 z1; have x2 := cell_later hk12 z2; have hr12 := HR3b.out _ hk12; have r0 := row_cells (i := 0) hr12 rfl; have r1 := row_cells (i := 1) hr12 rfl; have r2 := row_cells (i := 2) hr12 rfl; have rw0 := row_warm hr12 0; have rw1 := row_warm hr12 1; have rw2 := row_warm hr12 2))
          have HB12 := Lib.hid (HB3b.out _ hk12)
          rw [← HG0.out] at hG12
          have HG12 := Lib.hid hG12
          have hob : w3.heap.size ≤ ob := hG12.hob
          have hbas : ∀ i, i < (scG L n m kk).length → w3.heap.size ≤ rb i := fun i hi => hG12.base i hi
          clear hG12 hk12 hB12 x1 x2
          go_wp2_with fail
          refine ret_cell1 (ad := ⟨w.heap.size + 1, 0, none⟩) rfl rfl (run_loadVar_mid _ _ 0 _ [.slice (some ⟨ob, 0, none⟩) n ocap, .int .i64 (kr - top), .int .i64 kc] _ (range3s (by go_simp) (by go_simp) (by go_simp)) Tryz.underlying66 rfl (by kernel_rfl)) rfl ?_
          exact ⟨_, ob, ocap, rb, rc, by rw [HLe.out, HKe.out, HKi.out, ← HTop2.out], ((HB12.out.setCell (by show w.heap.size ≤ w.heap.size + 1; omega) _).setCell (by show w.heap.size ≤ w.heap.size + 1; omega) _).setCell (by show w.heap.size ≤ w.heap.size + 1; omega) _, by rw [HLe.out, HKe.out]; exact HG12.out.kept (by rw [scG_len]; omega) kept_three (by omega) (fun i hi e => by have := hbas i hi; omega)⟩
        · have q0 : decide (((j + 1 : Nat) : Int) - 1 ≥ 0) = true := decide_eq_true (by omega)
          obtain ⟨x, hx⟩ : ∃ x, S[j]? = some x := ⟨S[j], List.getElem?_eq_getElem (by omega)⟩
          obtain ⟨sb, soff, _, hv, _, _, _, _, d0⟩ := int_cell (HS10.out.below hB) hx
          cases hv
          obtain ⟨ab, aoff, _, hv, _, _, _, _, d1⟩ := int_cell (HA10.out.below hB) (HAg.out j (by omega))
          cases hv
          have y2 := cell_later (HB10.out.trans (hB.mono hbs10)) (row_cells (i := 2) HNV.out rfl)
          have hxl := HAl.out j x hx
          have hal2 : j < A.length := (List.getElem?_eq_some_iff.1 (HAg.out j (by omega))).1
          have hagb := HAgb.out j (by omega)
          have hni : ((j + 1 : Nat) : Int) - 1 = (j : Int) := by omega
          rw [hni] at q0 ⊢
          have s0 : (0 : Int) ≤ (j : Int) := by omega
          have s1 : (j : Int) < (S.length : Int) := by omega
          have s2 : (j : Int) < (A.length : Int) := by omega
          have e1 := IntWalk.i64_in ((j : Int) - 1) (by omega)
          have e2 := IntWalk.i64_in ((G.length : Int) + ((ag j : Nat) : Int)) (by omega)
          have hj' : j ≤ S.length := by omega
          by_cases hci : j < ci
          · have hlt2 : decide ((x : Int) ≥ c) = false := decide_eq_false (by have := hxl.2 hci; omega)
            have HKk := Lib.hid (HKm.out j hci)
            clear hx hxl hal2 hni hj hagb
            go_wp2_with fail
            go_quiet (fail)
            rename Nat => qd
            go_wp2_with fail
            go_roundw
            case rel => exact ⟨j, hj', rfl, by rw [HKk.out], below_dN HB.out _⟩
            case measure => simp [intOf] <;> omega
          · have hlt2 : decide ((x : Int) ≥ c) = true := decide_eq_true (by have := mt hxl.1 hci; omega)
            have HKk := Lib.hid (HKh.out j (by omega))
            clear hx hxl hal2 hni hj hagb
            go_wp2_with fail
            go_quiet (fail)
            rename Nat => qd
            have d1 : (wr.drewN qd).cell? ⟨ab, aoff + j, none⟩ = _ := d1
            go_wp2_with fail
            go_roundw
            case rel => exact ⟨j, hj', rfl, by rw [HKk.out]; rfl, below_dN HB.out _⟩
            case measure => simp [intOf] <;> omega
end
end Go.Proofs.YtkeainhjghdfcaaGreat
