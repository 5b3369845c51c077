/- Joined texts: TrieW. -/
import Derived.Test.YtkeainhjghdfcaaGreatCwaa
import Derived.Test.YtkeainhjghdfcaaGreatCwal
import Derived.Test.YtkeainhjghdfcaaGreatCwap
import Derived.Test.YtkeainhjghdfcaaGreatCwad
import Derived.Test.YtkeainhjghdfcaaGreatCwah

/- trie.Build at flags. -/
namespace Go.Proofs.YtkeainhjghdfcaaGreat
open Go.RowKit

def BuildF (w : World) (z : Flg) (l : List (Pc Flg)) (e : Ending) (w' : World) : Prop :=
  ∃ tb, e = .returned (.pointer (some ⟨tb, 0, none⟩)) ∧ w.heap.size ≤ tb ∧ Below w.heap.size w w' ∧ TrieAt fenc 4 (pv z l) w'.heap.size w' tb
set_option maxRecDepth 100000 in
set_option maxHeartbeats 1000000 in
theorem build_flags (v : Value) (l : List (Pc Flg)) (z : Flg) (w : World) (hR : Rs w.heap.size w pfenc 6 v l) (hz : wfF z) (hl : ∀ p ∈ l, wfF p.v) (hb : ∀ p ∈ l, p.f ≤ 4611686018427387904) :
    Calls Tryz.prog 109 #[.int .i64 1114112, aggF z, v] w (BuildF w z l) := by
  have HR := Lib.hid hR
  have HZ := Lib.hid hz
  have HL := Lib.hid hl
  have HBd := Lib.hid hb
  have HE := Lib.hid (show ∀ x : Flg, .agg #[.bool x.pict, .bool x.wide, .bool x.letter, .bool x.out] = aggF x from fun _ => rfl)
  unfold aggF
  clear hR hz hl hb
  go_enter Tryz.func109, Tryz.ntmps109
  go_wp2_with fail
  have HBa := Lib.hid ((Below.refl w.heap.size w).alloc (Nat.le_refl _) (.cells #[.bool z.pict, .bool z.wide, .bool z.letter, .bool z.out] 194))
  have HZb := Lib.hid (heap_alloc_new w (.cells #[.bool z.pict, .bool z.wide, .bool z.letter, .bool z.out] 194))
  have hsz : (w.alloc (.cells #[.bool z.pict, .bool z.wide, .bool z.letter, .bool z.out] 194)).heap.size = w.heap.size + 1 := by simp
  refine upon_run (run_makeMap _ _) ?_
  go_wp2_with fail
  refine upon_run (run_makeMap _ _) ?_
  go_wp2_with fail
  generalize w.alloc (.cells #[.bool z.pict, .bool z.wide, .bool z.letter, .bool z.out] 194) = wa at HBa HZb hsz ⊢
  rw [← hsz]
  have HSZ := Lib.hid (show w.heap.size < wa.heap.size by omega)
  clear hsz
  have HZb := Lib.hid (show wa.heap[w.heap.size]? = some (.cells #[.bool z.pict, .bool z.wide, .bool z.letter, .bool z.out] 194 (0, 0)) from HZb.out)
  have HS := Lib.hid (made_state (enc := fenc) wa 4 282 3 273 278 aggF wfF)
  have HB := Lib.hid (((((Below.refl wa.heap.size wa).alloc (Nat.le_refl _) (.cells #[.int .i64 1114112, .slice none 0 0, .slice none 0 0] 273)).alloc (by simp) (.map #[] 0)).alloc (by simp; omega) (.map #[] 0)).alloc (by simp; omega) (.cells #[.pointer (some ⟨wa.heap.size, 0, none⟩), .map (some (wa.heap.size + 1)), .map (some (wa.heap.size + 1 + 1))] 278))
  have hbig : ((((wa.alloc (.cells #[.int .i64 1114112, .slice none 0 0, .slice none 0 0] 273)).alloc (.map #[] 0)).alloc (.map #[] 0)).alloc (.cells #[.pointer (some ⟨wa.heap.size, 0, none⟩), .map (some (wa.heap.size + 1)), .map (some (wa.heap.size + 1 + 1))] 278)).heap.size = wa.heap.size + 4 := by simp
  generalize ((((wa.alloc (.cells #[.int .i64 1114112, .slice none 0 0, .slice none 0 0] 273)).alloc (.map #[] 0)).alloc (.map #[] 0)).alloc (.cells #[.pointer (some ⟨wa.heap.size, 0, none⟩), .map (some (wa.heap.size + 1)), .map (some (wa.heap.size + 1 + 1))] 278)) = W at HS HB hbig ⊢
  have HWB := Lib.hid (below_trans' HBa.out HB.out)
  obtain ⟨hv0, hu0⟩ := val_find (z := z) (okv := wfF) HZ.out HL.out (i := 0) (by omega)
  refine (find_flags v l z.pict z.wide z.letter z.out 0 1114111 W ((Rd.below HR.out HWB.out (Nat.le_refl _)).mono HWB.out.size) (by decide) HBd.out).mono ?_
  rintro e w1 ⟨rfl, hB1⟩
  have hs1 := hB1.size
  have HV := Lib.hid hv0
  have HB1 := Lib.hid hB1
  clear hv0 hB1
  generalize hx0 : (fndP z 0 l 1114111).1 = x0 at HV ⊢
  generalize (fndP z 0 l 1114111).2 = up0 at HV hu0 ⊢
  clear hx0
  have HWl := Lib.hid (HB1.out.alloc hs1 (.cells #[.bool x0.pict, .bool x0.wide, .bool x0.letter, .bool x0.out] 194))
  have HBx := Lib.hid (heap_alloc_new w1 (.cells #[.bool x0.pict, .bool x0.wide, .bool x0.letter, .bool x0.out] 194))
  unfold aggF
  go_wp2_with fail
  have HST := Lib.hid (show BSx fenc 4 282 3 194 aggF wfF wa w1.heap.size (pv z l) 0 x0 up0 (128 * ((0 : Nat) : Int)) (w1.alloc (.cells #[.bool x0.pict, .bool x0.wide, .bool x0.letter, .bool x0.out] 194)) (.slice none 0 0) (.slice none 0 0) [] [] from ⟨HS.out.below HWl.out, trieIs_nil _, HV.out, below_trans' HB.out HWl.out, by omega, HBx.out, by simp [Value.ownBlock], by simp [Value.ownBlock]⟩)
  have hsW2 : (w1.alloc (.cells #[.bool x0.pict, .bool x0.wide, .bool x0.letter, .bool x0.out] 194)).heap.size = w1.heap.size + 1 := by simp
  generalize w1.alloc (.cells #[.bool x0.pict, .bool x0.wide, .bool x0.letter, .bool x0.out] 194) = W2 at HST hsW2 ⊢
  clear HWl HBx HV HS HB HB1 HWB
  generalize w1.heap.size = vb at HST hsW2 ⊢
  go_loopw [10, 11] (fun uv iv wr => ∃ (j : Nat) (x : Flg) (upto : Int) (v1 v2 : Value) (ks : List Nat) (bl : List (List Flg)), j ≤ 8704 ∧ bl.length ≤ j ∧ uv = .int .i64 upto ∧ iv = .int .i64 (128 * ((j : Nat) : Int)) ∧ BSx fenc 4 282 3 194 aggF wfF wa vb (pv z l) j x upto (128 * ((j : Nat) : Int)) wr v1 v2 ks bl) (fun _ iv _ => 1114112 - (intOf iv).toNat)
  case atStart => exact ⟨0, x0, up0, _, _, _, _, by omega, Nat.le_refl _, rfl, rfl, HST.out⟩
  case round =>
    obtain ⟨j, x, upto, v1, v2, ks, bl, hj, hfew, rfl, rfl, hst⟩ := hrel
    have hzb := (hst.bel.block w.heap.size HSZ.out).trans HZb.out
    have hbx := hst.box
    have HST := Lib.hid hst
    have HRr := Lib.hid (show Rs wr.heap.size wr pfenc 6 v l from (Rd.below HR.out (below_trans' HBa.out hst.bel) (Nat.le_refl _)).mono (below_trans' HBa.out hst.bel).size)
    have hw : wa.heap.size + 4 ≤ wr.heap.size := hst.big'
    have hvb : wa.heap.size + 4 ≤ vb := hst.big
    have hvl : vb < wr.heap.size := hst.lt
    clear hst
    by_cases hlt : j < 8704
    · have hl1 : 128 * ((j : Nat) : Int) < 1114112 := by omega
      have hl3 : 128 * ((j : Nat) : Int) + 128 ≤ 1114112 := by omega
      have hmin : min (128 * ((j : Nat) : Int) + 128) 1114112 = 128 * ((j : Nat) : Int) + 128 := Int.min_eq_left hl3
      by_cases hup : upto < 128 * ((j : Nat) : Int)
      case' pos =>
        have hl2 : 128 * ((j : Nat) : Int) > upto := by omega
        obtain ⟨hv0, hge⟩ := val_find (z := z) (okv := wfF) HZ.out HL.out (i := 128 * ((j : Nat) : Int)) (by omega)
        have z0 : wr.cell? ⟨w.heap.size, 0, none⟩ = some (.bool z.pict) := by rw [cell_of_row _ _ 0 _ _ _ hzb]; rfl
        have z1 : wr.cell? ⟨w.heap.size, 1, none⟩ = some (.bool z.wide) := by rw [cell_of_row _ _ 1 _ _ _ hzb]; rfl
        have z2 : wr.cell? ⟨w.heap.size, 2, none⟩ = some (.bool z.letter) := by rw [cell_of_row _ _ 2 _ _ _ hzb]; rfl
        have z3 : wr.cell? ⟨w.heap.size, 3, none⟩ = some (.bool z.out) := by rw [cell_of_row _ _ 3 _ _ _ hzb]; rfl
        clear hzb hbx
        go_wp2_with fail
        refine (find_flags v l z.pict z.wide z.letter z.out (128 * ((j : Nat) : Int)) 1114111 wr HRr.out (by omega) HBd.out).mono ?_
        rintro e wr' ⟨rfl, hB1⟩
        have hbx := (hB1.block vb hvl).trans HST.out.box
        have HST1 := Lib.hid (fun x' up' => (HST.out.later hB1 HST.out.val).put (x' := x') (upto' := up') (i' := 128 * ((j : Nat) : Int)) (setCells_grown vb (fenc x') 0 _ _ (grown_refl wr' _)) (box_put (fenc x') hbx rfl))
        have hs1 := hB1.size
        clear z0 z1 z2 z3 hB1 hup hl2 HRr
        have b0 : wr'.cell? ⟨vb, 0, none⟩ = some (.bool x.pict) := by rw [cell_of_row _ _ 0 _ _ _ hbx]; rfl
        have b1 : wr'.cell? ⟨vb, 1, none⟩ = some (.bool x.wide) := by rw [cell_of_row _ _ 1 _ _ _ hbx]; rfl
        have b2 : wr'.cell? ⟨vb, 2, none⟩ = some (.bool x.letter) := by rw [cell_of_row _ _ 2 _ _ _ hbx]; rfl
        have b3 : wr'.cell? ⟨vb, 3, none⟩ = some (.bool x.out) := by rw [cell_of_row _ _ 3 _ _ _ hbx]; rfl
        have f0 : wr'.frozen? ⟨vb, 0, none⟩ = false := by unfold World.frozen?; rw [hbx]; simp
        have f1 : wr'.frozen? ⟨vb, 1, none⟩ = false := by unfold World.frozen?; rw [hbx]; simp
        have f2 : wr'.frozen? ⟨vb, 2, none⟩ = false := by unfold World.frozen?; rw [hbx]; simp
        have f3 : wr'.frozen? ⟨vb, 3, none⟩ = false := by unfold World.frozen?; rw [hbx]; simp
        clear hbx
        generalize (fndP z (128 * ((j : Nat) : Int)) l 1114111).1 = x at hv0 ⊢
        generalize (fndP z (128 * ((j : Nat) : Int)) l 1114111).2 = upto at hv0 hge ⊢
        have HST := Lib.hid (show BSx fenc 4 282 3 194 aggF wfF wa vb (pv z l) j x upto (128 * ((j : Nat) : Int)) ((((wr'.setCell ⟨vb, 0, none⟩ (.bool x.pict)).setCell ⟨vb, 1, none⟩ (.bool x.wide)).setCell ⟨vb, 2, none⟩ (.bool x.letter)).setCell ⟨vb, 3, none⟩ (.bool x.out)) v1 v2 ks bl from HST1.out x upto hv0)
        have hvl := Nat.lt_of_lt_of_le hvl hs1
        have hgo := hge
        clear hge HST1 hv0
        unfold aggF
      case' neg =>
        have hl2 : decide (128 * ((j : Nat) : Int) > upto) = false := by rw [decide_eq_false_iff_not]; omega
        have hgo : 128 * ((j : Nat) : Int) ≤ upto := by omega
        have b0 : wr.cell? ⟨vb, 0, none⟩ = some (.bool x.pict) := by rw [cell_of_row _ _ 0 _ _ _ hbx]; rfl
        have b1 : wr.cell? ⟨vb, 1, none⟩ = some (.bool x.wide) := by rw [cell_of_row _ _ 1 _ _ _ hbx]; rfl
        have b2 : wr.cell? ⟨vb, 2, none⟩ = some (.bool x.letter) := by rw [cell_of_row _ _ 2 _ _ _ hbx]; rfl
        have b3 : wr.cell? ⟨vb, 3, none⟩ = some (.bool x.out) := by rw [cell_of_row _ _ 3 _ _ _ hbx]; rfl
        have f0 : wr.frozen? ⟨vb, 0, none⟩ = false := by unfold World.frozen?; rw [hbx]; simp
        have f1 : wr.frozen? ⟨vb, 1, none⟩ = false := by unfold World.frozen?; rw [hbx]; simp
        have f2 : wr.frozen? ⟨vb, 2, none⟩ = false := by unfold World.frozen?; rw [hbx]; simp
        have f3 : wr.frozen? ⟨vb, 3, none⟩ = false := by unfold World.frozen?; rw [hbx]; simp
        clear hup hzb hbx HRr
      all_goals
        by_cases hfull : 128 * ((j : Nat) : Int) + 127 ≤ upto
        · have hl4 : upto ≥ 128 * ((j : Nat) : Int) + 128 - 1 := by omega
          go_wp2_with (rw [hmin])
          rw [HE.out]
          refine (plain_flags wa.heap.size (wa.heap.size + 4) wa.heap.size (wa.heap.size + 3) (wa.heap.size + 1) (wa.heap.size + 2) v1 v2 ks bl x _ HST.out.mkr HST.out.val.ok (by omega) HST.out.big').mono ?_
          rintro e wr ⟨k, v2, bl', rfl, hM2, hk2, hold, hlen, hown, hkp⟩
          have HST := Lib.hid (HST.out.called hkp hM2 hold hown)
          clear hM2 hold hown hkp hl4 hmin b0 b1 b2 b3 f0 f1 f2 f3
          go_wp2_with fail
          have HK2 := Lib.hid hk2
          have hfew2 : bl'.length ≤ j + 1 := by omega
          clear hk2 hlen hfew
          go_loopw [11] (fun iv wr' => ∃ (j' : Nat) (v1 : Value) (ks : List Nat), j ≤ j' ∧ j' ≤ 8704 ∧ iv = .int .i64 (128 * ((j' : Nat) : Int)) ∧ BSx fenc 4 282 3 194 aggF wfF wa vb (pv z l) j' x upto (128 * ((j' : Nat) : Int)) wr' v1 v2 ks bl') (fun iv _ => 1114112 - (intOf iv).toNat)
          case atStart => exact ⟨j, v1, ks, Nat.le_refl _, hj, rfl, HST.out⟩
          case round =>
            obtain ⟨j', v1, ks, hjj, hj8, rfl, hst⟩ := hrel
            have HST := Lib.hid hst
            have hw : wa.heap.size + 4 ≤ wr.heap.size := hst.big'
            have ht1 := hst.mkr.b.t1
            have hf1 := hst.mkr.b.f1
            clear hst
            by_cases hin : j' < 8704 ∧ 128 * ((j' : Nat) : Int) + 127 ≤ upto
            · have hm1 : 128 * ((j' : Nat) : Int) < 1114112 := by omega
              have hm3 : 128 * ((j' : Nat) : Int) + 128 ≤ 1114112 := by omega
              have hmin : min (128 * ((j' : Nat) : Int) + 128) 1114112 = 128 * ((j' : Nat) : Int) + 128 := Int.min_eq_left hm3
              have hm4 : upto ≥ 128 * ((j' : Nat) : Int) + 128 - 1 := by omega
              have hkl : ks.length = j' := HST.out.is.len
              go_wp2_with (first | (rw [hmin]) | (at_builtin; refine wpList_app1 _ rfl (.tmp 80) _ _ rfl Eidx _ _ _ rfl HST.out.mkr.b.o1 _ _ [.int .i64 ((k : Nat) : Int)] rfl (by decide) rfl (one_nat _) (by omega) hw ?_; intro g cap w4 ho4 hg4 hf4; have hft := HST.out.facts hg4; have hc4 := hft.1; have hz4 := hft.2; clear hft))
              have hp := HST.out.push hg4 ho4 hf4 (HST.out.val.later (i' := 128 * ((j' + 1 : Nat) : Int)) (by omega)) HK2.out (HST.out.val.block (by omega))
              rw [hkl] at hp
              go_roundw
              case rel => exact ⟨j' + 1, _, _, by omega, by omega, by go_num, hp⟩
              case measure => simp [intOf]; omega
            · have hjn : j < j' := by
                rcases Nat.lt_or_ge j j' with h | h
                · exact h
                · exact absurd ⟨by omega, by have : j' = j := by omega
                                             rw [this]; exact hfull⟩ hin
              by_cases hend : j' < 8704
              · have hm1 : 128 * ((j' : Nat) : Int) < 1114112 := by omega
                have hm3 : 128 * ((j' : Nat) : Int) + 128 ≤ 1114112 := by omega
                have hmin : min (128 * ((j' : Nat) : Int) + 128) 1114112 = 128 * ((j' : Nat) : Int) + 128 := Int.min_eq_left hm3
                have hm4 : decide (upto ≥ 128 * ((j' : Nat) : Int) + 128 - 1) = false := by rw [decide_eq_false_iff_not]; exact fun h => hin ⟨hend, by omega⟩
                clear hin
                go_wp2_with (rw [hmin])
                go_roundw
                case rel => exact ⟨j', x, upto, _, _, _, _, hj8, by omega, rfl, rfl, HST.out⟩
                case measure => simp [intOf]; omega
              · have hm1 : decide (128 * ((j' : Nat) : Int) < 1114112) = false := by rw [decide_eq_false_iff_not]; omega
                have hmin : min (128 * ((j' : Nat) : Int) + 128) 1114112 = min (128 * ((j' : Nat) : Int) + 128) 1114112 := rfl
                clear hin hend
                go_wp2_with (rw [hmin])
                go_roundw
                case rel => exact ⟨j', x, upto, _, _, _, _, hj8, by omega, rfl, rfl, HST.out⟩
                case measure => simp [intOf]; omega
        · replace hfull : upto < 128 * ((j : Nat) : Int) + 127 := by omega
          have hl4 : decide (upto ≥ 128 * ((j : Nat) : Int) + 128 - 1) = false := by rw [decide_eq_false_iff_not]; omega
          go_wp2_with (rw [hmin])
          first
          | (have hszc : ((((wr'.setCell ⟨vb, 0, none⟩ (.bool x.pict)).setCell ⟨vb, 1, none⟩ (.bool x.wide)).setCell ⟨vb, 2, none⟩ (.bool x.letter)).setCell ⟨vb, 3, none⟩ (.bool x.out)).heap.size = wr'.heap.size := by simp
             have HR0 := Lib.hid (show RowG fenc (((((wr'.setCell ⟨vb, 0, none⟩ (.bool x.pict)).setCell ⟨vb, 1, none⟩ (.bool x.wide)).setCell ⟨vb, 2, none⟩ (.bool x.letter)).setCell ⟨vb, 3, none⟩ (.bool x.out)).alloc (.cells Tryz.zeroCells282 282)) wr'.heap.size 282 wfF (List.replicate 128 noFlg) from ⟨by rw [← zeroF, ← hszc]; exact heap_alloc_new _ _, by rw [List.length_replicate], fun y hy => by rw [(List.mem_replicate.1 hy).2]; exact trivial⟩)
             have HSA := Lib.hid (HST.out.later ((Below.refl _ _).alloc (Nat.le_refl _) (.cells Tryz.zeroCells282 282)) HST.out.val)
             have hn1 : v1.ownBlock ≠ some wr'.heap.size := fun e => by have := (HST.out.mkr.b.o1.lt _ e).2; omega
             have hn2 : v2.ownBlock ≠ some wr'.heap.size := fun e => by have := (HST.out.mkr.b.o2.lt _ e).2; omega
             have hva : vb < wr'.heap.size := hszc ▸ HST.out.lt
             have hav : ¬ wr'.heap.size = vb := by omega
             have hva' : ¬ vb = wr'.heap.size := by omega
             clear hszc
             generalize (((((wr'.setCell ⟨vb, 0, none⟩ (.bool x.pict)).setCell ⟨vb, 1, none⟩ (.bool x.wide)).setCell ⟨vb, 2, none⟩ (.bool x.letter)).setCell ⟨vb, 3, none⟩ (.bool x.out)).alloc (.cells Tryz.zeroCells282 282)) = W at HR0 HSA ⊢
             generalize wr'.heap.size = ab at HR0 hn1 hn2 hva hav hva' ⊢)
          | (have hszc : wr.heap.size = wr.heap.size := by simp
             have HR0 := Lib.hid (show RowG fenc (wr.alloc (.cells Tryz.zeroCells282 282)) wr.heap.size 282 wfF (List.replicate 128 noFlg) from ⟨by rw [← zeroF, ← hszc]; exact heap_alloc_new _ _, by rw [List.length_replicate], fun y hy => by rw [(List.mem_replicate.1 hy).2]; exact trivial⟩)
             have HSA := Lib.hid (HST.out.later ((Below.refl _ _).alloc (Nat.le_refl _) (.cells Tryz.zeroCells282 282)) HST.out.val)
             have hn1 : v1.ownBlock ≠ some wr.heap.size := fun e => by have := (HST.out.mkr.b.o1.lt _ e).2; omega
             have hn2 : v2.ownBlock ≠ some wr.heap.size := fun e => by have := (HST.out.mkr.b.o2.lt _ e).2; omega
             have hva : vb < wr.heap.size := hszc ▸ HST.out.lt
             have hav : ¬ wr.heap.size = vb := by omega
             have hva' : ¬ vb = wr.heap.size := by omega
             clear hszc
             generalize (wr.alloc (.cells Tryz.zeroCells282 282)) = W at HR0 HSA ⊢
             generalize wr.heap.size = ab at HR0 hn1 hn2 hva hav hva' ⊢)
          clear b0 b1 b2 b3 f0 f1 f2 f3
          go_loopw [10, 88] (fun uv iv wr => ∃ (k : Nat) (x : Flg) (upto : Int) (L : List Flg), k ≤ 128 ∧ uv = .int .i64 upto ∧ iv = .int .i64 ((k : Nat) : Int) ∧ RowG fenc wr ab 282 wfF L ∧ (∀ i : Nat, i < k → L[i]? = some (pv z l (128 * ((j : Nat) : Int) + i))) ∧ BSx fenc 4 282 3 194 aggF wfF wa vb (pv z l) j x upto (128 * ((j : Nat) : Int) + ((k : Nat) : Int)) wr v1 v2 ks bl) (fun _ iv _ => 128 - (intOf iv).toNat)
          case atStart => exact ⟨0, x, upto, _, by omega, rfl, rfl, HR0.out, fun i h => by omega, HSA.out.at (by omega)⟩
          case round =>
            obtain ⟨k, x, upto, L, hk2, rfl, rfl, hR, hT, hst⟩ := hrel
            have HRw := Lib.hid hR
            have HT := Lib.hid hT
            have HST := Lib.hid hst
            have hzb := (hst.bel.block w.heap.size HSZ.out).trans HZb.out
            have hbx := hst.box
            have HRr := Lib.hid (show Rs wr.heap.size wr pfenc 6 v l from (Rd.below HR.out (below_trans' HBa.out hst.bel) (Nat.le_refl _)).mono (below_trans' HBa.out hst.bel).size)
            have hvl : vb < wr.heap.size := hst.lt
            by_cases hlt : k < 128
            · clear hR hT hst
              have hm1 : 128 * ((j : Nat) : Int) + ((k : Nat) : Int) < 1114112 := by omega
              have hm0 : ((k : Nat) : Int) < 128 := by omega
              by_cases hup : upto < 128 * ((j : Nat) : Int) + ((k : Nat) : Int)
              case' pos =>
                have hm2 : 128 * ((j : Nat) : Int) + ((k : Nat) : Int) > upto := by omega
                obtain ⟨hv0, hge⟩ := val_find (z := z) (okv := wfF) HZ.out HL.out (i := 128 * ((j : Nat) : Int) + ((k : Nat) : Int)) (by omega)
                have z0 : wr.cell? ⟨w.heap.size, 0, none⟩ = some (.bool z.pict) := by rw [cell_of_row _ _ 0 _ _ _ hzb]; rfl
                have z1 : wr.cell? ⟨w.heap.size, 1, none⟩ = some (.bool z.wide) := by rw [cell_of_row _ _ 1 _ _ _ hzb]; rfl
                have z2 : wr.cell? ⟨w.heap.size, 2, none⟩ = some (.bool z.letter) := by rw [cell_of_row _ _ 2 _ _ _ hzb]; rfl
                have z3 : wr.cell? ⟨w.heap.size, 3, none⟩ = some (.bool z.out) := by rw [cell_of_row _ _ 3 _ _ _ hzb]; rfl
                clear hzb hbx
                go_wp2_with fail
                refine (find_flags v l z.pict z.wide z.letter z.out (128 * ((j : Nat) : Int) + ((k : Nat) : Int)) 1114111 wr HRr.out (by omega) HBd.out).mono ?_
                rintro e wr' ⟨rfl, hB1⟩
                have hbx := (hB1.block vb hvl).trans HST.out.box
                have HST1 := Lib.hid (fun x' up' => (HST.out.later hB1 HST.out.val).put (x' := x') (upto' := up') (i' := 128 * ((j : Nat) : Int) + ((k : Nat) : Int)) (setCells_grown vb (fenc x') 0 _ _ (grown_refl wr' _)) (box_put (fenc x') hbx rfl))
                have hRo : RowG fenc wr' ab 282 wfF L := HRw.out.later (hB1.block _ (row_len HRw.out.1))
                have hs1 := hB1.size
                clear z0 z1 z2 z3 hB1 hup hm2 HRr
                have b0 : wr'.cell? ⟨vb, 0, none⟩ = some (.bool x.pict) := by rw [cell_of_row _ _ 0 _ _ _ hbx]; rfl
                have b1 : wr'.cell? ⟨vb, 1, none⟩ = some (.bool x.wide) := by rw [cell_of_row _ _ 1 _ _ _ hbx]; rfl
                have b2 : wr'.cell? ⟨vb, 2, none⟩ = some (.bool x.letter) := by rw [cell_of_row _ _ 2 _ _ _ hbx]; rfl
                have b3 : wr'.cell? ⟨vb, 3, none⟩ = some (.bool x.out) := by rw [cell_of_row _ _ 3 _ _ _ hbx]; rfl
                have f0 : wr'.frozen? ⟨vb, 0, none⟩ = false := by unfold World.frozen?; rw [hbx]; simp
                have f1 : wr'.frozen? ⟨vb, 1, none⟩ = false := by unfold World.frozen?; rw [hbx]; simp
                have f2 : wr'.frozen? ⟨vb, 2, none⟩ = false := by unfold World.frozen?; rw [hbx]; simp
                have f3 : wr'.frozen? ⟨vb, 3, none⟩ = false := by unfold World.frozen?; rw [hbx]; simp
                clear hbx
                generalize (fndP z (128 * ((j : Nat) : Int) + ((k : Nat) : Int)) l 1114111).1 = x at hv0 ⊢
                generalize (fndP z (128 * ((j : Nat) : Int) + ((k : Nat) : Int)) l 1114111).2 = upto at hv0 hge ⊢
                have HST := Lib.hid (show BSx fenc 4 282 3 194 aggF wfF wa vb (pv z l) j x upto (128 * ((j : Nat) : Int) + ((k : Nat) : Int)) ((((wr'.setCell ⟨vb, 0, none⟩ (.bool x.pict)).setCell ⟨vb, 1, none⟩ (.bool x.wide)).setCell ⟨vb, 2, none⟩ (.bool x.letter)).setCell ⟨vb, 3, none⟩ (.bool x.out)) v1 v2 ks bl from HST1.out x upto hv0)
                have hgr := setCells_grown vb (fenc x) 0 _ _ (grown_refl wr' (some vb))
                have HRw := Lib.hid (show RowG fenc ((((wr'.setCell ⟨vb, 0, none⟩ (.bool x.pict)).setCell ⟨vb, 1, none⟩ (.bool x.wide)).setCell ⟨vb, 2, none⟩ (.bool x.letter)).setCell ⟨vb, 3, none⟩ (.bool x.out)) ab 282 wfF L from hRo.later (hgr.block _ (row_len hRo.1) (fun e => hav (by injection e))))
                have hgo := hge
                clear hge HST1 hv0 hgr
                unfold aggF
              case' neg =>
                have hgo : 128 * ((j : Nat) : Int) + ((k : Nat) : Int) ≤ upto := by omega
                have hm2 : decide (128 * ((j : Nat) : Int) + ((k : Nat) : Int) > upto) = false := by rw [decide_eq_false_iff_not]; omega
                have b0 : wr.cell? ⟨vb, 0, none⟩ = some (.bool x.pict) := by rw [cell_of_row _ _ 0 _ _ _ hbx]; rfl
                have b1 : wr.cell? ⟨vb, 1, none⟩ = some (.bool x.wide) := by rw [cell_of_row _ _ 1 _ _ _ hbx]; rfl
                have b2 : wr.cell? ⟨vb, 2, none⟩ = some (.bool x.letter) := by rw [cell_of_row _ _ 2 _ _ _ hbx]; rfl
                have b3 : wr.cell? ⟨vb, 3, none⟩ = some (.bool x.out) := by rw [cell_of_row _ _ 3 _ _ _ hbx]; rfl
                have f0 : wr.frozen? ⟨vb, 0, none⟩ = false := by unfold World.frozen?; rw [hbx]; simp
                have f1 : wr.frozen? ⟨vb, 1, none⟩ = false := by unfold World.frozen?; rw [hbx]; simp
                have f2 : wr.frozen? ⟨vb, 2, none⟩ = false := by unfold World.frozen?; rw [hbx]; simp
                have f3 : wr.frozen? ⟨vb, 3, none⟩ = false := by unfold World.frozen?; rw [hbx]; simp
                have hRo := HRw.out
                clear hup hzb hbx HRr
              all_goals
                obtain ⟨y0, hc0⟩ := hRo.cell fenc_len hlt 0 (by decide)
                have hf0 := hRo.free (k * 4 + 0)
                obtain ⟨y1, hc1⟩ := hRo.cell fenc_len hlt 1 (by decide)
                have hf1 := hRo.free (k * 4 + 1)
                obtain ⟨y2, hc2⟩ := hRo.cell fenc_len hlt 2 (by decide)
                have hf2 := hRo.free (k * 4 + 2)
                obtain ⟨y3, hc3⟩ := hRo.cell fenc_len hlt 3 (by decide)
                have hf3 := hRo.free (k * 4 + 3)
                rw [Nat.add_zero] at hc0 hf0
                have hx := HST.out.val.same (128 * ((j : Nat) : Int) + ((k : Nat) : Int)) (Int.le_refl _) hgo
                clear hRo
                go_wp2_with fail
                go_roundw
                case rel => exact ⟨k + 1, x, upto, L.set k x, by omega, rfl, by go_num, HRw.out.put fenc_len x hlt HST.out.val.ok, fun i hi => by
                              by_cases hik : i = k
                              · subst hik
                                rw [List.getElem?_set_self (by rw [HRw.out.2.1]; exact hlt), hx]
                              · rw [List.getElem?_set_ne (fun e => hik e.symm)]; exact HT.out i (by omega), (HST.out.at (by omega)).other (setCells_grown ab (fenc x) (k * 4) _ _ (grown_refl _ _)) hva hn1 hn2⟩
                case measure => simp [intOf]; omega
            · have hke : k = 128 := by omega
              subst hke
              have HST := Lib.hid (hst.at (i' := 128 * ((j : Nat) : Int) + 128) (by omega))
              have HW0 := Lib.hid (hR.2)
              have ht1 := hst.mkr.b.t1
              have hf1 := hst.mkr.b.f1
              have hbg := hst.big'
              clear hR hT hst hzb hbx HRr
              go_wp2_with fail
              obtain ⟨cs, hcs⟩ : ∃ cs, cs = (L.flatMap fenc).toArray := ⟨_, rfl⟩
              have hsz : cs.size = 512 := by rw [hcs]; exact arrK_sizeF HW0.out.1
              have hra : wr.rangeAt ab 0 cs.toList := fun i v hv => by rw [Nat.zero_add, cell_of_row _ _ i cs _ (0, 0) (by rw [hcs]; exact HRw.out.1), ← Array.getElem?_toList]; exact hv
              have hun := Tryz.underlying282
              have hin : (Tryz.prog.info? 282).map (·.size) = some cs.toList.length := by rw [Array.length_toList, hsz]; kernel_rfl
              have hbd : Below wr.heap.size wr wr.drew := ⟨rfl, rfl, rfl, Nat.le_refl _, fun _ _ => rfl⟩
              have HST := Lib.hid (HST.out.later hbd HST.out.val)
              have hcall := place_flags wa.heap.size (wa.heap.size + 4) wa.heap.size (wa.heap.size + 3) (wa.heap.size + 1) (wa.heap.size + 2) v1 v2 ks bl L wr.drew HST.out.mkr HW0.out (by omega) HST.out.big'
              rw [show arrK fenc L = .agg cs by rw [hcs]; rfl] at hcall
              have HCALL := Lib.hid hcall
              have HRl : ab < wr.heap.size := row_len HRw.out.1
              have hNM : ¬ Mine wr.drew wa.heap.size (wa.heap.size + 1) (wa.heap.size + 2) v2 ab := by
                rintro (h | h | h | h | h)
                · omega
                · omega
                · omega
                · exact hn2 h
                · have : wr.heap.size ≤ ab := h
                  omega
              have hNV : ¬ some ab = v1.ownBlock := fun e => hn1 e.symm
              clear hcall hcs
              refine wp_region_held_drew (S := fun w' => w'.rangeAt ab 0 cs.toList) (by kernel_rfl) hra (fun hHeld => ?_)
              refine hd_take 0 rfl (by kernel_rfl) (by kernel_rfl) (by kernel_rfl) (fun _ _ _ h => h) (by rfl) (by intro w hSw; (try dsimp only at hSw); go_split_ands; go_simp; first | done | with_reducible rfl) hHeld ?_
              simp only [Act.put, List.setIfInBounds_toArray, List.set_cons_zero, List.set_cons_succ]
              refine hd_take 1 rfl (by kernel_rfl) (by kernel_rfl) (by kernel_rfl) (fun _ _ _ h => h) (by rfl) (by intro w hSw; (try dsimp only at hSw); go_split_ands; go_simp; first | done | with_reducible rfl) hHeld ?_
              simp only [Act.put, List.setIfInBounds_toArray, List.set_cons_zero, List.set_cons_succ]
              refine hd_take 2 rfl (by kernel_rfl) (by kernel_rfl) (by kernel_rfl) (fun _ _ _ h => h) (by rfl) (by intro w hSw; (try dsimp only at hSw); go_split_ands; go_simp; first | done | with_reducible rfl) hHeld ?_
              simp only [Act.put, List.setIfInBounds_toArray, List.set_cons_zero, List.set_cons_succ]
              refine hd_take 3 rfl (by kernel_rfl) (by kernel_rfl) (by kernel_rfl) (fun _ _ _ h => h) (by rfl) (by intro w hSw; (try dsimp only at hSw); go_split_ands; go_simp; first | done | with_reducible rfl) hHeld ?_
              simp only [Act.put, List.setIfInBounds_toArray, List.set_cons_zero, List.set_cons_succ]
              refine hd_take 5 rfl (by kernel_rfl) (by kernel_rfl) (by kernel_rfl) (fun _ _ _ h => h) (by rfl) (by intro w hSw; (try dsimp only at hSw); go_split_ands; go_simp; first | done | with_reducible rfl) hHeld ?_
              simp only [Act.put, List.setIfInBounds_toArray, List.set_cons_zero, List.set_cons_succ]
              refine hd_long 6 rfl (by kernel_rfl) (by kernel_rfl) (by kernel_rfl) _ _ rfl ab 0 rfl cs _ (fun w' h => h) (fun _ _ _ h => h) (by rfl) Tryz.underlying282 rfl hin hHeld ?_
              try simp only [Act.put, List.setIfInBounds_toArray, List.set_cons_zero, List.set_cons_succ]
              refine hd_two 4 7 (by kernel_rfl) rfl rfl (fun K hK => ?_) (fun K hK => ?_)
              case' refine_1 =>
                go_simp
                refine hK.out _ _ hra (fun hHeld => ?_)
                clear hK K
                try simp only [Act.put, List.setIfInBounds_toArray, List.set_cons_zero, List.set_cons_succ]
                refine hd_step 7 (by kernel_rfl) rfl (fun K hK => ?_)
                go_simp
                (go_at_call 166; refine HCALL.out.mono ?_; rintro e w2 ⟨k, v2', bl', rfl, hM2, hk2, hold, hlen, hown, hkp⟩; have kt := hM2.b.t1; have kf := hM2.b.f1; have kr : w2.rangeAt ab 0 cs.toList := range_keep hra (hkp.block _ HRl (fun h => hNM (by exact h))); have hl5 : wa.heap.size < w2.heap.size := World.block_lt_of_cell? w2 _ kt; have hl6 : ab < w2.heap.size := Nat.lt_of_lt_of_le HRl hkp.size; have hl7 : wa.heap.size + 4 ≤ w2.heap.size := Nat.le_trans hbg hkp.size; have hl8 : (w2.alloc (.cells #[.int .i64 ((k : Nat) : Int)] 3)).heap.size = w2.heap.size + 1 := (by simp); have kt' := (World.cell?_of_block (a := ⟨wa.heap.size, 1, none⟩) (Below.heap_alloc w2 (.cells #[.int .i64 ((k : Nat) : Int)] 3) _ hl5)).trans kt; have hkl : ks.length = j := HST.out.is.len)
                go_wp2_with fail
                refine hK.out _ _ kr (fun hHeld => ?_)
                clear hK K
                try simp only [Act.put, List.setIfInBounds_toArray, List.set_cons_zero, List.set_cons_succ]
                refine hd_step 8 (by kernel_rfl) rfl (fun K hK => ?_)
                go_simp
                refine hK.out _ _ (World.rangeAt_alloc kr _) (fun hHeld => ?_)
                clear hK K
                try simp only [Act.put, List.setIfInBounds_toArray, List.set_cons_zero, List.set_cons_succ]
              case' refine_2 =>
                go_simp
                (go_at_call 166; refine HCALL.out.mono ?_; rintro e w2 ⟨k, v2', bl', rfl, hM2, hk2, hold, hlen, hown, hkp⟩; have kt := hM2.b.t1; have kf := hM2.b.f1; have kr : w2.rangeAt ab 0 cs.toList := range_keep hra (hkp.block _ HRl (fun h => hNM (by exact h))); have hl5 : wa.heap.size < w2.heap.size := World.block_lt_of_cell? w2 _ kt; have hl6 : ab < w2.heap.size := Nat.lt_of_lt_of_le HRl hkp.size; have hl7 : wa.heap.size + 4 ≤ w2.heap.size := Nat.le_trans hbg hkp.size; have hl8 : (w2.alloc (.cells #[.int .i64 ((k : Nat) : Int)] 3)).heap.size = w2.heap.size + 1 := (by simp); have kt' := (World.cell?_of_block (a := ⟨wa.heap.size, 1, none⟩) (Below.heap_alloc w2 (.cells #[.int .i64 ((k : Nat) : Int)] 3) _ hl5)).trans kt; have hkl : ks.length = j := HST.out.is.len)
                go_wp2_with fail
                refine hK.out _ _ kr (fun hHeld => ?_)
                clear hK K
                try simp only [Act.put, List.setIfInBounds_toArray, List.set_cons_zero, List.set_cons_succ]
                refine hd_two 4 8 (by kernel_rfl) rfl rfl (fun K hK => ?_) (fun K hK => ?_)
              case' refine_2.refine_1 =>
                go_simp
                refine hK.out _ _ kr (fun hHeld => ?_)
                clear hK K
                try simp only [Act.put, List.setIfInBounds_toArray, List.set_cons_zero, List.set_cons_succ]
                refine hd_step 8 (by kernel_rfl) rfl (fun K hK => ?_)
                go_simp
                refine hK.out _ _ (World.rangeAt_alloc kr _) (fun hHeld => ?_)
                clear hK K
                try simp only [Act.put, List.setIfInBounds_toArray, List.set_cons_zero, List.set_cons_succ]
              case' refine_2.refine_2 =>
                go_simp
                refine hK.out _ _ (World.rangeAt_alloc kr _) (fun hHeld => ?_)
                clear hK K
                try simp only [Act.put, List.setIfInBounds_toArray, List.set_cons_zero, List.set_cons_succ]
                refine hd_step 4 (by kernel_rfl) rfl (fun K hK => ?_)
                go_simp
                refine hK.out _ _ (World.rangeAt_alloc kr _) (fun hHeld => ?_)
                clear hK K
                try simp only [Act.put, List.setIfInBounds_toArray, List.set_cons_zero, List.set_cons_succ]
              all_goals
                refine hd_step 9 (by kernel_rfl) rfl (fun K hK => ?_)
                (refine step_app4 (by rfl) _ _ _ (by rfl) Eidx v1 ks.length (ks.map natV) (by rfl) (World.ownsRow.alloc hM2.b.o1 (.cells #[.int .i64 ((k : Nat) : Int)] 3)) ⟨w2.heap.size, 0, none⟩ 1 1 [.int .i64 ((k : Nat) : Int)] (by rfl) (by decide) (by rfl) (fun j u h => news_of_alloc w2 [.int .i64 ((k : Nat) : Int)] 3 j u h) (one_nat _) (by omega) (by omega) ?_; intro g cap w5 ho5 hg5 hf5; have q0 : some wa.heap.size ≠ v1.ownBlock := (fun e => by have := (hM2.b.o1.lt _ e.symm).1; omega); have q1 : some ab ≠ v1.ownBlock := (fun e => hNV e); have kt5 := hg5.cell (v := v1) (a := ⟨wa.heap.size, 1, none⟩) kt' q0; have kf5 : w5.frozen? ⟨wa.heap.size, 1, none⟩ = false := (World.frozen?_of_block (a := ⟨wa.heap.size, 1, none⟩) ((hg5.block _ (by omega) q0).trans (Below.heap_alloc _ _ _ hl5))).trans kf; have kr5 := range_keep (World.rangeAt_alloc kr (.cells #[.int .i64 ((k : Nat) : Int)] 3)) (hg5.block _ (by omega) q1))
                refine hK.out _ _ kr5 (fun hHeld => ?_)
                clear hK K
                try simp only [Act.put, List.setIfInBounds_toArray, List.set_cons_zero, List.set_cons_succ]
                refine hd_take 10 rfl (by kernel_rfl) (by kernel_rfl) (by kernel_rfl) (fun _ _ _ h => h) (by rfl) (by intro w hSw; (try dsimp only at hSw); go_split_ands; go_simp; first | done | with_reducible rfl) hHeld ?_
                simp only [Act.put, List.setIfInBounds_toArray, List.set_cons_zero, List.set_cons_succ]
                refine hd_take 11 rfl (by kernel_rfl) (by kernel_rfl) (by kernel_rfl) (fun _ _ _ h => h) (by rfl) (by intro w hSw; (try dsimp only at hSw); go_split_ands; go_simp; first | done | with_reducible rfl) hHeld ?_
                simp only [Act.put, List.setIfInBounds_toArray, List.set_cons_zero, List.set_cons_succ]
                refine hd_step 12 (by kernel_rfl) rfl (fun K hK => ?_)
                go_simp
                refine hK.out _ _ (range_keep kr5 (Below.heap_setCell _ _ _ _ (fun e => by simp at e; omega))) (fun hHeld => ?_)
                clear hK K
                try simp only [Act.put, List.setIfInBounds_toArray, List.set_cons_zero, List.set_cons_succ]
                refine wpAnyH_done (by kernel_rfl) ?_ _
              all_goals
                have hst2 := HST.out.called hkp hM2 hold hown
                have hl9 : w2.heap.size ≤ (w2.alloc (.cells #[.int .i64 ((k : Nat) : Int)] 3)).heap.size := by omega
                have hst3 := hst2.later ((Below.refl w2.heap.size w2).alloc (Nat.le_refl _) (.cells #[.int .i64 ((k : Nat) : Int)] 3)) hst2.val
                have hp := hst3.push hg5 ho5 hf5 (hst2.val.later (i' := 128 * ((j + 1 : Nat) : Int)) (by omega)) hk2 (fun i hi => HT.out i hi)
                rw [hkl] at hp
                have HP := Lib.hid hp
                clear hst2 hst3 hp ho5 hg5 hf5 hM2 hold hown hkp kt kf kr kt' kt5 kf5 kr5
                go_wp2_with fail
                go_roundw
                case rel => exact ⟨j + 1, x, upto, _, v2', ks ++ [k], bl', by omega, by omega, rfl, by go_num, by first | exact HP.out | exact hkl ▸ HP.out⟩
                case measure => simp [intOf]; omega
    · have hj8 : j = 8704 := by omega
      subst hj8
      clear hzb hbx HRr
      go_wp2_with fail
      go_ret
      exact ⟨wa.heap.size, rfl, Nat.le_of_lt HSZ.out, below_trans' HBa.out HST.out.bel, trieAt_of_build HST.out.mkr.b HST.out.is⟩
end Go.Proofs.YtkeainhjghdfcaaGreat
