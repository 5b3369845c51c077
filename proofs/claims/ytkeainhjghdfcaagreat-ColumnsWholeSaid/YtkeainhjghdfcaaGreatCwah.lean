/- Joined texts: TrieD. -/
import Derived.Deep.RegionHeld3
import Derived.Test.YtkeainhjghdfcaaGreatCwaa
import Derived.Test.YtkeainhjghdfcaaGreatCwaf
import Derived.Test.YtkeainhjghdfcaaGreatCwab

/- trie.Build at numbers. -/
namespace Go.Proofs.YtkeainhjghdfcaaGreat
open Go.RowKit

theorem Eidx : ElemT Tryz.prog 75 3 1 8 := elemT_of (by kernel_rfl) (z := .int .i64 0) (by kernel_rfl) rfl (by decide) (by decide)
theorem one_nat (k : Int) : ∀ u ∈ [Value.int .i64 k], u.oneCell' = true := by intro u hu; simp at hu; subst hu; rfl
def BuildPost (w : World) (z : Int) (l : List (Pc Int)) (e : Ending) (w' : World) : Prop :=
  ∃ tb, e = .returned (.pointer (some ⟨tb, 0, none⟩)) ∧ w.heap.size ≤ tb ∧ Below w.heap.size w w' ∧ ∃ mb kb eb v1 v2 ks bl, MkB ienc1 1 266 3 w' w.heap.size (w.heap.size + 4) tb mb kb eb v1 v2 ks bl ∧ TrieIs (pv z l) 8704 ks bl

/-- Build's state: j blocks are laid, x is the value from i up to upto -/
structure BSt (w : World) (g : Int → Int) (j : Nat) (x upto i : Int) (wr : World) (v1 v2 : Value) (ks : List Nat) (bl : List (List Int)) : Prop where
  mkr : MkI wr w.heap.size (w.heap.size + 4) w.heap.size (w.heap.size + 3) (w.heap.size + 1) (w.heap.size + 2) v1 v2 ks bl
  is : TrieIs g j ks bl
  val : Val g wfI x upto i
  bel : Below w.heap.size w wr
  big : w.heap.size + 4 ≤ wr.heap.size

theorem BSt.later {w : World} {g : Int → Int} {j : Nat} {x upto i x' upto' i' : Int} {wr wr' : World} {v1 v2 : Value} {ks : List Nat} {bl : List (List Int)} (h : BSt w g j x upto i wr v1 v2 ks bl) (hb : Below wr.heap.size wr wr') (hv : Val g wfI x' upto' i') : BSt w g j x' upto' i' wr' v1 v2 ks bl :=
  ⟨h.mkr.below hb, h.is, hv, below_trans' h.bel hb, Nat.le_trans h.big hb.size⟩
theorem BSt.push {w : World} {g : Int → Int} {j : Nat} {x upto i x' upto' i' : Int} {wr wr' : World} {v1 v2 : Value} {ks : List Nat} {bl : List (List Int)} {r cap k : Nat} {L : List Int} (h : BSt w g j x upto i wr v1 v2 ks bl) (hg : wr.grownBy wr' v1.ownBlock) (ho : wr'.ownsRow (w.heap.size + 4) 3 1 (.slice (some ⟨r, 0, none⟩) (ks.length + 1) cap) (ks.length + 1) (ks.map natV ++ [natV k]))
    (hf : v1.ownBlock = some r ∨ wr.heap.size ≤ r) (hv : Val g wfI x' upto' i') (hk : bl[k]? = some L) (hL : ∀ i : Nat, i < 128 → L[i]? = some (g (128 * (j : Int) + i))) :
    BSt w g (j + 1) x' upto' i' (wr'.setCell ⟨w.heap.size, 1, none⟩ (.slice (some ⟨r, 0, none⟩) (ks.length + 1) cap)) (.slice (some ⟨r, 0, none⟩) (ks.length + 1) cap) v2 (ks ++ [k]) bl := by
  have hs := hg.size
  have hb := h.big
  exact ⟨h.mkr.push1 hg ho hf, h.is.push hk hL, hv, (h.bel.grown hg h.bel.size (fun q hq => Nat.le_trans (by omega) (h.mkr.b.o1.lt q hq).1)).setCell (Nat.le_refl _) _, by simp; omega⟩

theorem BSt.facts {w : World} {g : Int → Int} {j : Nat} {x upto i : Int} {wr wr' : World} {v1 v2 : Value} {ks : List Nat} {bl : List (List Int)} (h : BSt w g j x upto i wr v1 v2 ks bl) (hg : wr.grownBy wr' v1.ownBlock) : wr'.cell? ⟨w.heap.size, 1, none⟩ = some v1 ∧ wr'.frozen? ⟨w.heap.size, 1, none⟩ = false := by
  have hn : some w.heap.size ≠ v1.ownBlock := fun e => by have := (h.mkr.b.o1.lt _ e.symm).1; omega
  exact ⟨hg.cell h.mkr.b.t1 hn, (World.frozen?_of_block (a := ⟨w.heap.size, 1, none⟩) (hg.block _ (World.block_lt_of_cell? _ _ h.mkr.b.t1) hn)).trans h.mkr.b.f1⟩
theorem BSt.kept {w : World} {g : Int → Int} {j : Nat} {x upto i : Int} {wr wr' : World} {v1 v2 : Value} {ks : List Nat} {bl : List (List Int)} (h : BSt w g j x upto i wr v1 v2 ks bl) (hk : Kept (Mine wr w.heap.size (w.heap.size + 1) (w.heap.size + 2) v2) wr wr') : Below w.heap.size w wr' :=
  h.bel.trans (hk.below h.bel.size (fun q hq => by
    rcases hq with hq | hq | hq | hq | hq
    · omega
    · omega
    · omega
    · have := (h.mkr.b.o2.lt q hq).1; omega
    · have := h.big; omega))

set_option maxRecDepth 100000 in
set_option maxHeartbeats 1000000 in
theorem build_int (v : Value) (l : List (Pc Int)) (z : Int) (w : World) (hR : Rs w.heap.size w pienc 3 v l) (hz : wfI z) (hl : ∀ p ∈ l, wfI p.v) (hb : ∀ p ∈ l, p.f ≤ 4611686018427387904) :
    Calls Tryz.prog 105 #[.int .i64 1114112, .int .i64 z, v] w (BuildPost w z l) := by
  have HR := Lib.hid hR
  have HZ := Lib.hid hz
  have HL := Lib.hid hl
  have HBd := Lib.hid hb
  clear hR hz hl hb
  go_enter Tryz.func105, Tryz.ntmps105
  go_wp2_with fail
  refine upon_run (run_makeMap _ _) ?_
  go_wp2_with fail
  refine upon_run (run_makeMap _ _) ?_
  go_wp2_with fail
  have hS := made_state (enc := ienc1) w 1 266 3 258 263 intV wfI
  have hB := ((((Below.refl w.heap.size w).alloc (Nat.le_refl _) (.cells #[.int .i64 1114112, .slice none 0 0, .slice none 0 0] 258)).alloc (by simp) (.map #[] 0)).alloc (by simp; omega) (.map #[] 0)).alloc (by simp; omega) (.cells #[.pointer (some ⟨w.heap.size, 0, none⟩), .map (some (w.heap.size + 1)), .map (some (w.heap.size + 1 + 1))] 263)
  have hbig : ((((w.alloc (.cells #[.int .i64 1114112, .slice none 0 0, .slice none 0 0] 258)).alloc (.map #[] 0)).alloc (.map #[] 0)).alloc (.cells #[.pointer (some ⟨w.heap.size, 0, none⟩), .map (some (w.heap.size + 1)), .map (some (w.heap.size + 1 + 1))] 263)).heap.size = w.heap.size + 4 := by simp
  have HS := Lib.hid hS
  have HB := Lib.hid hB
  clear hS hB
  generalize ((((w.alloc (.cells #[.int .i64 1114112, .slice none 0 0, .slice none 0 0] 258)).alloc (.map #[] 0)).alloc (.map #[] 0)).alloc (.cells #[.pointer (some ⟨w.heap.size, 0, none⟩), .map (some (w.heap.size + 1)), .map (some (w.heap.size + 1 + 1))] 263)) = W at HS HB hbig ⊢
  obtain ⟨hv0, hu0⟩ := val_find (z := z) (okv := wfI) HZ.out HL.out (i := 0) (by omega)
  refine (find_int v l z 0 1114111 W ((Rd.below HR.out HB.out (Nat.le_refl _)).mono HB.out.size) (by decide) HBd.out).mono ?_
  rintro e w1 ⟨rfl, hB1⟩
  have hs1 := hB1.size
  have HV := Lib.hid hv0
  have HB1 := Lib.hid hB1
  clear hv0 hB1
  generalize (fndP z 0 l 1114111).1 = x0 at HV ⊢
  generalize (fndP z 0 l 1114111).2 = up0 at HV hu0 ⊢
  go_wp2_with fail
  go_loopw [9, 10, 11] (fun xv uv iv wr => ∃ (j : Nat) (x upto : Int) (v1 v2 : Value) (ks : List Nat) (bl : List (List Int)), j ≤ 8704 ∧ bl.length ≤ j ∧ xv = .int .i64 x ∧ uv = .int .i64 upto ∧ iv = .int .i64 (128 * ((j : Nat) : Int)) ∧ BSt w (pv z l) j x upto (128 * ((j : Nat) : Int)) wr v1 v2 ks bl) (fun _ _ iv _ => 1114112 - (intOf iv).toNat)
  case atStart => exact ⟨0, x0, up0, _, _, _, _, by omega, Nat.le_refl _, rfl, rfl, rfl, HS.out.below HB1.out, trieIs_nil _, HV.out, below_trans' HB.out HB1.out, by omega⟩
  case round =>
    obtain ⟨j, x, upto, v1, v2, ks, bl, hj, hfew, rfl, rfl, rfl, hst⟩ := hrel
    have HST := Lib.hid hst
    clear hst
    by_cases hlt : j < 8704
    · have hl1 : 128 * ((j : Nat) : Int) < 1114112 := by omega
      have hl3 : 128 * ((j : Nat) : Int) + 128 ≤ 1114112 := by omega
      have hmin : min (128 * ((j : Nat) : Int) + 128) 1114112 = 128 * ((j : Nat) : Int) + 128 := by omega
      by_cases hup : upto < 128 * ((j : Nat) : Int)
      case' pos =>
        have hl2 : 128 * ((j : Nat) : Int) > upto := by omega
        obtain ⟨hv0, hge⟩ := val_find (z := z) (okv := wfI) HZ.out HL.out (i := 128 * ((j : Nat) : Int)) (by omega)
        go_wp2_with fail
        refine (find_int v l z (128 * ((j : Nat) : Int)) 1114111 wr ((Rd.below HR.out HST.out.bel (Nat.le_refl _)).mono HST.out.bel.size) (by omega) HBd.out).mono ?_
        rintro e wr ⟨rfl, hB1⟩
        have HST := Lib.hid (HST.out.later hB1 hv0)
        clear hv0 hB1 hup hl2
        generalize (fndP z (128 * ((j : Nat) : Int)) l 1114111).1 = x at HST ⊢
        generalize (fndP z (128 * ((j : Nat) : Int)) l 1114111).2 = upto at HST hge ⊢
        have hgo := hge
        clear hge
      case' neg =>
        have hl2 : decide (128 * ((j : Nat) : Int) > upto) = false := by rw [decide_eq_false_iff_not]; omega
        have hgo : 128 * ((j : Nat) : Int) ≤ upto := by omega
        clear hup
      all_goals
        by_cases hfull : 128 * ((j : Nat) : Int) + 127 ≤ upto
        · have hl4 : upto ≥ 128 * ((j : Nat) : Int) + 128 - 1 := by omega
          go_wp2_with (rw [hmin])
          refine (plain_int w.heap.size (w.heap.size + 4) w.heap.size (w.heap.size + 3) (w.heap.size + 1) (w.heap.size + 2) v1 v2 ks bl x wr HST.out.mkr HST.out.val.ok (by omega) HST.out.big).mono ?_
          rintro e wr ⟨k, v2, bl', rfl, hM2, hk2, hold, hlen, hown, hkp⟩
          have hst : BSt w (pv z l) j x upto (128 * ((j : Nat) : Int)) wr v1 v2 ks bl' := ⟨hM2, HST.out.is.more hold, HST.out.val, HST.out.kept hkp, Nat.le_trans HST.out.big hkp.size⟩
          clear hM2 hold hown hkp hl4 hmin
          have HST := Lib.hid hst
          clear hst
          go_wp2_with fail
          have HK2 := Lib.hid hk2
          have hfew2 : bl'.length ≤ j + 1 := by omega
          clear hk2 hlen hfew
          go_loopw [11] (fun iv wr' => ∃ (j' : Nat) (v1 : Value) (ks : List Nat), j ≤ j' ∧ j' ≤ 8704 ∧ iv = .int .i64 (128 * ((j' : Nat) : Int)) ∧ BSt w (pv z l) j' x upto (128 * ((j' : Nat) : Int)) wr' v1 v2 ks bl') (fun iv _ => 1114112 - (intOf iv).toNat)
          case atStart => exact ⟨j, v1, ks, Nat.le_refl _, hj, rfl, HST.out⟩
          case round =>
            obtain ⟨j', v1, ks, hjj, hj8, rfl, hst⟩ := hrel
            have HST := Lib.hid hst
            have hw : w.heap.size + 4 ≤ wr.heap.size := hst.big
            have ht1 := hst.mkr.b.t1
            have hf1 := hst.mkr.b.f1
            clear hst
            have hmin : min (128 * ((j' : Nat) : Int) + 128) 1114112 = min (128 * ((j' : Nat) : Int) + 128) 1114112 := rfl
            by_cases hin : j' < 8704 ∧ 128 * ((j' : Nat) : Int) + 127 ≤ upto
            · have hm1 : 128 * ((j' : Nat) : Int) < 1114112 := by omega
              have hm3 : 128 * ((j' : Nat) : Int) + 128 ≤ 1114112 := by omega
              have hmin : min (128 * ((j' : Nat) : Int) + 128) 1114112 = 128 * ((j' : Nat) : Int) + 128 := by omega
              have hm4 : upto ≥ 128 * ((j' : Nat) : Int) + 128 - 1 := by omega
              have hkl : ks.length = j' := HST.out.is.len
              go_wp2_with (first | (rw [hmin]) | (at_builtin; refine wpList_app1 _ rfl (.tmp 80) _ _ rfl Eidx _ _ _ rfl HST.out.mkr.b.o1 _ _ [.int .i64 ((k : Nat) : Int)] rfl (by decide) rfl (one_nat _) (by omega) hw ?_; intro g cap w4 ho4 hg4 hf4; have hft := HST.out.facts hg4; have hc4 := hft.1; have hz4 := hft.2; clear hft))
              have hp := HST.out.push hg4 ho4 hf4 (HST.out.val.later (i' := 128 * ((j' + 1 : Nat) : Int)) (by omega)) HK2.out (HST.out.val.block (by omega))
              rw [hkl] at hp
              go_roundw
              case rel => exact ⟨j' + 1, _, _, by omega, by omega, by go_num, hp⟩
              case measure => simp [intOf]; omega
            · have hjn : j < j' := by
                rcases Nat.lt_or_ge j j' with h | h
                · exact h
                · exact absurd ⟨by omega, by have : j' = j := by omega
                                             rw [this]; exact hfull⟩ hin
              by_cases hend : j' < 8704
              · have hm1 : 128 * ((j' : Nat) : Int) < 1114112 := by omega
                have hm3 : 128 * ((j' : Nat) : Int) + 128 ≤ 1114112 := by omega
                have hmin : min (128 * ((j' : Nat) : Int) + 128) 1114112 = 128 * ((j' : Nat) : Int) + 128 := by omega
                have hm4 : decide (upto ≥ 128 * ((j' : Nat) : Int) + 128 - 1) = false := by rw [decide_eq_false_iff_not]; exact fun h => hin ⟨hend, by omega⟩
                clear hin
                go_wp2_with (rw [hmin])
                go_roundw
                case rel => exact ⟨j', x, upto, _, _, _, _, hj8, by omega, rfl, rfl, rfl, HST.out⟩
                case measure => simp [intOf]; omega
              · have hm1 : decide (128 * ((j' : Nat) : Int) < 1114112) = false := by rw [decide_eq_false_iff_not]; omega
                clear hin hend
                go_wp2_with (rw [hmin])
                go_roundw
                case rel => exact ⟨j', x, upto, _, _, _, _, hj8, by omega, rfl, rfl, rfl, HST.out⟩
                case measure => simp [intOf]; omega
        · replace hfull : upto < 128 * ((j : Nat) : Int) + 127 := by omega
          have hl4 : decide (upto ≥ 128 * ((j : Nat) : Int) + 128 - 1) = false := by rw [decide_eq_false_iff_not]; omega
          go_wp2_with (rw [hmin])
          obtain ⟨W0, hW0⟩ : ∃ W0, W0 = wr := ⟨_, rfl⟩
          subst hW0
          have hrow0 : RowAt (W0.alloc (.cells Tryz.zeroCells266 266)) W0.heap.size 266 wfI (List.replicate 128 0) := ⟨by rw [← zero128]; exact heap_alloc_new W0 _, by rw [List.length_replicate], fun y hy => by rw [(List.mem_replicate.1 hy).2]; rfl⟩
          have HR0 := Lib.hid hrow0
          have HB0 := Lib.hid ((Below.refl W0.heap.size W0).alloc (Nat.le_refl _) (.cells Tryz.zeroCells266 266))
          clear hrow0
          generalize W0.alloc (.cells Tryz.zeroCells266 266) = W at HR0 HB0 ⊢
          go_loopw [9, 10, 88] (fun xv uv iv wr => ∃ (k : Nat) (x upto : Int) (L : List Int), k ≤ 128 ∧ xv = .int .i64 x ∧ uv = .int .i64 upto ∧ iv = .int .i64 ((k : Nat) : Int) ∧ RowAt wr W0.heap.size 266 wfI L ∧ (∀ i : Nat, i < k → L[i]? = some (pv z l (128 * ((j : Nat) : Int) + i))) ∧ Val (pv z l) wfI x upto (128 * ((j : Nat) : Int) + ((k : Nat) : Int)) ∧ Below W0.heap.size W0 wr) (fun _ _ iv _ => 128 - (intOf iv).toNat)
          case atStart => exact ⟨0, x, upto, _, by omega, rfl, rfl, rfl, HR0.out, fun i h => by omega, HST.out.val.later (by omega), HB0.out⟩
          case round =>
            obtain ⟨k, x, upto, L, hk2, rfl, rfl, rfl, hR, hT, hV, hB2⟩ := hrel
            have HRw := Lib.hid hR
            have HT := Lib.hid hT
            have HV := Lib.hid hV
            have HB2 := Lib.hid hB2
            by_cases hlt : k < 128
            · clear hR hT hV hB2
              have hm1 : 128 * ((j : Nat) : Int) + ((k : Nat) : Int) < 1114112 := by omega
              have hm0 : ((k : Nat) : Int) < 128 := by omega
              by_cases hup : upto < 128 * ((j : Nat) : Int) + ((k : Nat) : Int)
              case' pos =>
                have hm2 : 128 * ((j : Nat) : Int) + ((k : Nat) : Int) > upto := by omega
                obtain ⟨hv0, hge⟩ := val_find (z := z) (okv := wfI) HZ.out HL.out (i := 128 * ((j : Nat) : Int) + ((k : Nat) : Int)) (by omega)
                have hbb := below_trans' HST.out.bel HB2.out
                have HBB := Lib.hid hbb
                clear hbb
                go_wp2_with fail
                refine (find_int v l z (128 * ((j : Nat) : Int) + ((k : Nat) : Int)) 1114111 wr ((Rd.below HR.out HBB.out (Nat.le_refl _)).mono HBB.out.size) (by omega) HBd.out).mono ?_
                rintro e wr' ⟨rfl, hB1⟩
                have HRw := Lib.hid (show RowAt wr' W0.heap.size 266 wfI L from ⟨(hB1.block _ (row_len HRw.out.1)).trans HRw.out.1, HRw.out.2⟩)
                have HB2 := Lib.hid (below_trans' HB2.out hB1)
                have HV := Lib.hid hv0
                clear hv0 hB1 hup hm2
                generalize (fndP z (128 * ((j : Nat) : Int) + ((k : Nat) : Int)) l 1114111).1 = x at HV ⊢
                generalize (fndP z (128 * ((j : Nat) : Int) + ((k : Nat) : Int)) l 1114111).2 = upto at HV hge ⊢
                have hgo := hge
                clear hge
                generalize wr' = wr at HRw HB2 ⊢
              case' neg =>
                have hgo : 128 * ((j : Nat) : Int) + ((k : Nat) : Int) ≤ upto := by omega
                have hm2 : decide (128 * ((j : Nat) : Int) + ((k : Nat) : Int) > upto) = false := by rw [decide_eq_false_iff_not]; omega
                clear hup
              all_goals
                obtain ⟨y, hc0⟩ := HRw.out.at hlt
                have hf0 := HRw.out.free k
                have hx := HV.out.same (128 * ((j : Nat) : Int) + ((k : Nat) : Int)) (Int.le_refl _) hgo
                go_wp2_with fail
                go_roundw
                case rel => exact ⟨k + 1, x, upto, L.set k x, by omega, rfl, rfl, by go_num, HRw.out.put x hlt HV.out.ok, fun i hi => by
                              by_cases hik : i = k
                              · subst hik
                                rw [List.getElem?_set_self (by rw [HRw.out.2.1]; exact hlt), hx]
                              · rw [List.getElem?_set_ne (fun e => hik e.symm)]; exact HT.out i (by omega), HV.out.later (by omega), HB2.out.setCell (Nat.le_refl _) _⟩
                case measure => simp [intOf]; omega
            · have hke : k = 128 := by omega
              subst hke
              have HSTO := HST
              have hw0 := HST.out.big
              have hB0 := HST.out.later hB2 (HV.out.later (i' := 128 * ((j : Nat) : Int) + 128) (by omega))
              have HST := Lib.hid hB0
              have HW0 := Lib.hid (HRw.out.2)
              have hbw := hB2.size
              clear hR hT hV hB2 hB0
              have ht1 := HST.out.mkr.b.t1
              have hf1 := HST.out.mkr.b.f1
              go_wp2_with fail
              obtain ⟨cs, hcs⟩ : ∃ cs, cs = (L.flatMap ienc1).toArray := ⟨_, rfl⟩
              have hsz : cs.size = 128 := by rw [hcs]; exact arrK_size HW0.out.1
              have hra : wr.rangeAt W0.heap.size 0 cs.toList := fun i v hv => by rw [Nat.zero_add, cell_of_row _ _ i cs _ (0, 0) (by rw [hcs]; exact HRw.out.1), ← Array.getElem?_toList]; exact hv
              have hun := Tryz.underlying266
              have hin : (Tryz.prog.info? 266).map (·.size) = some cs.toList.length := by rw [Array.length_toList, hsz]; kernel_rfl
              have hbd : Below wr.heap.size wr wr.drew := ⟨rfl, rfl, rfl, Nat.le_refl _, fun _ _ => rfl⟩
              have HST := Lib.hid (HST.out.later hbd HST.out.val)
              have hcall := place_int w.heap.size (w.heap.size + 4) w.heap.size (w.heap.size + 3) (w.heap.size + 1) (w.heap.size + 2) v1 v2 ks bl L wr.drew HST.out.mkr HW0.out (by omega) HST.out.big
              rw [show arrK ienc1 L = .agg cs by rw [hcs]; rfl] at hcall
              have HCALL := Lib.hid hcall
              have HRl : W0.heap.size < wr.heap.size := row_len HRw.out.1
              have hbg := HST.out.big
              have hNM : ¬ Mine wr.drew w.heap.size (w.heap.size + 1) (w.heap.size + 2) v2 W0.heap.size := by
                rintro (h | h | h | h | h)
                · omega
                · omega
                · omega
                · have := (HSTO.out.mkr.b.o2.lt _ h).2; omega
                · have : wr.heap.size ≤ W0.heap.size := h
                  omega
              have hNV : ¬ some W0.heap.size = v1.ownBlock := fun e => by have := (HSTO.out.mkr.b.o1.lt _ e.symm).2; omega
              clear hcall hcs
              refine wp_region_held_drew (S := fun w' => w'.rangeAt W0.heap.size 0 cs.toList) (by kernel_rfl) hra (fun hHeld => ?_)
              refine hd_take 0 rfl (by kernel_rfl) (by kernel_rfl) (by kernel_rfl) (fun _ _ _ h => h) (by rfl) (by intro w hSw; (try dsimp only at hSw); go_split_ands; go_simp; first | done | with_reducible rfl) hHeld ?_
              simp only [Act.put, List.setIfInBounds_toArray, List.set_cons_zero, List.set_cons_succ]
              refine hd_take 1 rfl (by kernel_rfl) (by kernel_rfl) (by kernel_rfl) (fun _ _ _ h => h) (by rfl) (by intro w hSw; (try dsimp only at hSw); go_split_ands; go_simp; first | done | with_reducible rfl) hHeld ?_
              simp only [Act.put, List.setIfInBounds_toArray, List.set_cons_zero, List.set_cons_succ]
              refine hd_take 2 rfl (by kernel_rfl) (by kernel_rfl) (by kernel_rfl) (fun _ _ _ h => h) (by rfl) (by intro w hSw; (try dsimp only at hSw); go_split_ands; go_simp; first | done | with_reducible rfl) hHeld ?_
              simp only [Act.put, List.setIfInBounds_toArray, List.set_cons_zero, List.set_cons_succ]
              refine hd_take 3 rfl (by kernel_rfl) (by kernel_rfl) (by kernel_rfl) (fun _ _ _ h => h) (by rfl) (by intro w hSw; (try dsimp only at hSw); go_split_ands; go_simp; first | done | with_reducible rfl) hHeld ?_
              simp only [Act.put, List.setIfInBounds_toArray, List.set_cons_zero, List.set_cons_succ]
              refine hd_take 5 rfl (by kernel_rfl) (by kernel_rfl) (by kernel_rfl) (fun _ _ _ h => h) (by rfl) (by intro w hSw; (try dsimp only at hSw); go_split_ands; go_simp; first | done | with_reducible rfl) hHeld ?_
              simp only [Act.put, List.setIfInBounds_toArray, List.set_cons_zero, List.set_cons_succ]
              refine hd_long 6 rfl (by kernel_rfl) (by kernel_rfl) (by kernel_rfl) _ _ rfl W0.heap.size 0 rfl cs _ (fun w' h => h) (fun _ _ _ h => h) (by rfl) Tryz.underlying266 rfl hin hHeld ?_
              try simp only [Act.put, List.setIfInBounds_toArray, List.set_cons_zero, List.set_cons_succ]
              refine hd_two 4 7 (by kernel_rfl) rfl rfl (fun K hK => ?_) (fun K hK => ?_)
              case' refine_1 =>
                go_simp
                refine hK.out _ _ hra (fun hHeld => ?_)
                clear hK K
                try simp only [Act.put, List.setIfInBounds_toArray, List.set_cons_zero, List.set_cons_succ]
                refine hd_step 7 (by kernel_rfl) rfl (fun K hK => ?_)
                go_simp
                (go_at_call 161; refine HCALL.out.mono ?_; rintro e w2 ⟨k, v2', bl', rfl, hM2, hk2, hold, hlen, hown, hkp⟩; have kt := hM2.b.t1; have kf := hM2.b.f1; have kr : w2.rangeAt W0.heap.size 0 cs.toList := range_keep hra (hkp.block _ HRl (fun h => hNM (by exact h))); have hl5 : w.heap.size < w2.heap.size := World.block_lt_of_cell? w2 _ kt; have hl6 : W0.heap.size < w2.heap.size := Nat.lt_of_lt_of_le HRl hkp.size; have hl7 : w.heap.size + 4 ≤ w2.heap.size := Nat.le_trans hbg hkp.size; have hl8 : (w2.alloc (.cells #[.int .i64 ((k : Nat) : Int)] 3)).heap.size = w2.heap.size + 1 := (by simp); have kt' := (World.cell?_of_block (a := ⟨w.heap.size, 1, none⟩) (Below.heap_alloc w2 (.cells #[.int .i64 ((k : Nat) : Int)] 3) _ hl5)).trans kt; have hkl : ks.length = j := HST.out.is.len)
                go_wp2_with fail
                refine hK.out _ _ kr (fun hHeld => ?_)
                clear hK K
                try simp only [Act.put, List.setIfInBounds_toArray, List.set_cons_zero, List.set_cons_succ]
                refine hd_step 8 (by kernel_rfl) rfl (fun K hK => ?_)
                go_simp
                refine hK.out _ _ (World.rangeAt_alloc kr _) (fun hHeld => ?_)
                clear hK K
                try simp only [Act.put, List.setIfInBounds_toArray, List.set_cons_zero, List.set_cons_succ]
              case' refine_2 =>
                go_simp
                (go_at_call 161; refine HCALL.out.mono ?_; rintro e w2 ⟨k, v2', bl', rfl, hM2, hk2, hold, hlen, hown, hkp⟩; have kt := hM2.b.t1; have kf := hM2.b.f1; have kr : w2.rangeAt W0.heap.size 0 cs.toList := range_keep hra (hkp.block _ HRl (fun h => hNM (by exact h))); have hl5 : w.heap.size < w2.heap.size := World.block_lt_of_cell? w2 _ kt; have hl6 : W0.heap.size < w2.heap.size := Nat.lt_of_lt_of_le HRl hkp.size; have hl7 : w.heap.size + 4 ≤ w2.heap.size := Nat.le_trans hbg hkp.size; have hl8 : (w2.alloc (.cells #[.int .i64 ((k : Nat) : Int)] 3)).heap.size = w2.heap.size + 1 := (by simp); have kt' := (World.cell?_of_block (a := ⟨w.heap.size, 1, none⟩) (Below.heap_alloc w2 (.cells #[.int .i64 ((k : Nat) : Int)] 3) _ hl5)).trans kt; have hkl : ks.length = j := HST.out.is.len)
                go_wp2_with fail
                refine hK.out _ _ kr (fun hHeld => ?_)
                clear hK K
                try simp only [Act.put, List.setIfInBounds_toArray, List.set_cons_zero, List.set_cons_succ]
                refine hd_two 4 8 (by kernel_rfl) rfl rfl (fun K hK => ?_) (fun K hK => ?_)
              case' refine_2.refine_1 =>
                go_simp
                refine hK.out _ _ kr (fun hHeld => ?_)
                clear hK K
                try simp only [Act.put, List.setIfInBounds_toArray, List.set_cons_zero, List.set_cons_succ]
                refine hd_step 8 (by kernel_rfl) rfl (fun K hK => ?_)
                go_simp
                refine hK.out _ _ (World.rangeAt_alloc kr _) (fun hHeld => ?_)
                clear hK K
                try simp only [Act.put, List.setIfInBounds_toArray, List.set_cons_zero, List.set_cons_succ]
              case' refine_2.refine_2 =>
                go_simp
                refine hK.out _ _ (World.rangeAt_alloc kr _) (fun hHeld => ?_)
                clear hK K
                try simp only [Act.put, List.setIfInBounds_toArray, List.set_cons_zero, List.set_cons_succ]
                refine hd_step 4 (by kernel_rfl) rfl (fun K hK => ?_)
                go_simp
                refine hK.out _ _ (World.rangeAt_alloc kr _) (fun hHeld => ?_)
                clear hK K
                try simp only [Act.put, List.setIfInBounds_toArray, List.set_cons_zero, List.set_cons_succ]
              all_goals
                refine hd_step 9 (by kernel_rfl) rfl (fun K hK => ?_)
                (refine step_app4 (by rfl) _ _ _ (by rfl) Eidx v1 ks.length (ks.map natV) (by rfl) (World.ownsRow.alloc hM2.b.o1 (.cells #[.int .i64 ((k : Nat) : Int)] 3)) ⟨w2.heap.size, 0, none⟩ 1 1 [.int .i64 ((k : Nat) : Int)] (by rfl) (by decide) (by rfl) (fun j u h => news_of_alloc w2 [.int .i64 ((k : Nat) : Int)] 3 j u h) (one_nat _) (by omega) (by omega) ?_; intro g cap w5 ho5 hg5 hf5; have q0 : some w.heap.size ≠ v1.ownBlock := (fun e => by have := (hM2.b.o1.lt _ e.symm).1; omega); have q1 : some W0.heap.size ≠ v1.ownBlock := (fun e => hNV e); have kt5 := hg5.cell (v := v1) (a := ⟨w.heap.size, 1, none⟩) kt' q0; have kf5 : w5.frozen? ⟨w.heap.size, 1, none⟩ = false := (World.frozen?_of_block (a := ⟨w.heap.size, 1, none⟩) ((hg5.block _ (by omega) q0).trans (Below.heap_alloc _ _ _ hl5))).trans kf; have kr5 := range_keep (World.rangeAt_alloc kr (.cells #[.int .i64 ((k : Nat) : Int)] 3)) (hg5.block _ (by omega) q1))
                refine hK.out _ _ kr5 (fun hHeld => ?_)
                clear hK K
                try simp only [Act.put, List.setIfInBounds_toArray, List.set_cons_zero, List.set_cons_succ]
                refine hd_take 10 rfl (by kernel_rfl) (by kernel_rfl) (by kernel_rfl) (fun _ _ _ h => h) (by rfl) (by intro w hSw; (try dsimp only at hSw); go_split_ands; go_simp; first | done | with_reducible rfl) hHeld ?_
                simp only [Act.put, List.setIfInBounds_toArray, List.set_cons_zero, List.set_cons_succ]
                refine hd_take 11 rfl (by kernel_rfl) (by kernel_rfl) (by kernel_rfl) (fun _ _ _ h => h) (by rfl) (by intro w hSw; (try dsimp only at hSw); go_split_ands; go_simp; first | done | with_reducible rfl) hHeld ?_
                simp only [Act.put, List.setIfInBounds_toArray, List.set_cons_zero, List.set_cons_succ]
                refine hd_step 12 (by kernel_rfl) rfl (fun K hK => ?_)
                go_simp
                refine hK.out _ _ (range_keep kr5 (Below.heap_setCell _ _ _ _ (fun e => by simp at e; omega))) (fun hHeld => ?_)
                clear hK K
                try simp only [Act.put, List.setIfInBounds_toArray, List.set_cons_zero, List.set_cons_succ]
                refine wpAnyH_done (by kernel_rfl) ?_ _
              all_goals
                have hst2 : BSt w (pv z l) j x upto (128 * ((j : Nat) : Int) + 128) w2 v1 v2' ks bl' := ⟨hM2, HST.out.is.more hold, HST.out.val, HST.out.kept hkp, hl7⟩
                have hl9 : w2.heap.size ≤ (w2.alloc (.cells #[.int .i64 ((k : Nat) : Int)] 3)).heap.size := by omega
                have hst3 := hst2.later ((Below.refl w2.heap.size w2).alloc (Nat.le_refl _) (.cells #[.int .i64 ((k : Nat) : Int)] 3)) hst2.val
                have hp := hst3.push hg5 ho5 hf5 (hst2.val.later (i' := 128 * ((j + 1 : Nat) : Int)) (by omega)) hk2 (fun i hi => HT.out i hi)
                rw [hkl] at hp
                have HP := Lib.hid hp
                clear hst2 hst3 hp ho5 hg5 hf5 hM2 hold hown hkp kt kf kr kt' kt5 kf5 kr5
                go_wp2_with fail
                go_roundw
                case rel => exact ⟨j + 1, x, upto, _, v2', ks ++ [k], bl', by omega, by omega, rfl, rfl, by go_num, by first | exact HP.out | exact hkl ▸ HP.out⟩
                case measure => simp [intOf]; omega
    · have hj8 : j = 8704 := by omega
      subst hj8
      go_wp2_with fail
      go_ret
      exact ⟨w.heap.size, rfl, Nat.le_refl _, HST.out.bel, w.heap.size + 3, w.heap.size + 1, w.heap.size + 2, v1, v2, ks, bl, HST.out.mkr.b, HST.out.is⟩
end Go.Proofs.YtkeainhjghdfcaaGreat
