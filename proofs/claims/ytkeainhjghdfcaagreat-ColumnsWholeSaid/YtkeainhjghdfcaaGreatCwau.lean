/- Joined texts: TrieJ. -/
import Derived.Test.YtkeainhjghdfcaaGreatCwat
import Derived.Test.YtkeainhjghdfcaaGreatCwab

/- trie.maker.plain at pairs. -/
namespace Go.Proofs.YtkeainhjghdfcaaGreat
open Go.RowKit

set_option maxRecDepth 100000 in
set_option maxHeartbeats 1000000 in
theorem plain_pair (B0 B tb mb kb eb : Nat) (v1 v2 : Value) (ks : List Nat) (bl : List (List Pr)) (x : Pr) (w : World) (hM : MkP w B0 B tb mb kb eb v1 v2 ks bl) (hx : wfP x) (hbl : bl.length ≤ 100000) (hB : B ≤ w.heap.size) :
    Calls Tryz.prog 116 #[.pointer (some ⟨mb, 0, none⟩), aggP x] w (PlaceP w B0 B tb mb kb eb v1 v2 ks bl (List.replicate 128 x)) := by
  obtain ⟨f, hf, hfc⟩ := hM.ev
  have HM := Lib.hid hM
  have HFC := Lib.hid hfc
  have HX := Lib.hid hx
  have hm2 := hM.b.m2
  have HBl := Lib.hid ((Below.refl w.heap.size w).alloc (Nat.le_refl _) (.cells #[.int .i32 x.1, .int .i32 x.2] 125))
  have HMw := Lib.hid (hM.below HBl.out)
  have HF := Lib.hid (hf.below HBl.out)
  have HWs := Lib.hid (show (w.alloc (.cells #[.int .i32 x.1, .int .i32 x.2] 125)).heap.size = w.heap.size + 1 by simp)
  have HBx := Lib.hid (heap_alloc_new w (.cells #[.int .i32 x.1, .int .i32 x.2] 125))
  have HE := Lib.hid (show aggP x = .agg #[.int .i32 x.1, .int .i32 x.2] from rfl)
  rw [HE.out]
  clear hM hf hfc hx
  go_enter Tryz.func116, Tryz.ntmps116
  go_wp2
  have hm2 := HMw.out.b.m2
  have b0 : (w.alloc (.cells #[.int .i32 x.1, .int .i32 x.2] 125)).cell? ⟨w.heap.size, 0, none⟩ = some (.int .i32 x.1) := by go_simp
  have b1 : (w.alloc (.cells #[.int .i32 x.1, .int .i32 x.2] 125)).cell? ⟨w.heap.size, 1, none⟩ = some (.int .i32 x.2) := by go_simp
  generalize w.alloc (.cells #[.int .i32 x.1, .int .i32 x.2] 125) = W at HBl HMw HF HWs HBx hm2 b0 b1 ⊢
  refine wp_region_quiet_lit (by kernel_rfl) (by kernel_rfl) ?_
  quiet_step (fail)
  quiet_step (fail)
  quiet_step (fail)
  quiet_step (fail)
  quiet_step (fail)
  refine quiet_look (w := W) rfl _ _ _ rfl keyV_pair Tryz.underlying208 Tryz.zeroValue3 eb f rfl HF.out x (by rw [HE.out]; rfl) HX.out ?_ ?_
  · intro k hk
    have HK := Lib.hid hk
    clear hk
    unfold natV
    repeat (quiet_step (fail))
    refine wpQuiet_nil ?_
    rintro w' ⟨nq, rfl⟩
    go_wp2
    go_ret
    exact ⟨k, v2, bl, rfl, HMw.out.drewN _, HFC.out x k HK.out, fun _ _ h => h, by omega, .inl rfl, .of_below ⟨HBl.out.os, HBl.out.tape, HBl.out.output, HBl.out.size, HBl.out.block⟩⟩
  · intro hk
    have HK := Lib.hid hk
    clear hk
    repeat (quiet_step (fail))
    refine wpQuiet_nil ?_
    rintro w' ⟨nq, rfl⟩
    have HBl := Lib.hid (show Below w.heap.size w (W.drewN nq) from ⟨HBl.out.os, HBl.out.tape, HBl.out.output, HBl.out.size, HBl.out.block⟩)
    have HMw := Lib.hid (HMw.out.drewN nq)
    have HWs := Lib.hid (show (W.drewN nq).heap.size = w.heap.size + 1 from HWs.out)
    have HBx := Lib.hid (show (W.drewN nq).heap[w.heap.size]? = some (.cells #[.int .i32 x.1, .int .i32 x.2] 125 (0, 0)) from HBx.out)
    clear b0 b1 hm2 HF
    generalize W.drewN nq = W at HBl HMw HWs HBx ⊢
    go_wp2
    have hrow0 : RowG penc (W.alloc (.cells Tryz.zeroCells214 214)) W.heap.size 214 wfP (List.replicate 128 ((0, 0) : Pr)) := ⟨by rw [← zeroP]; exact heap_alloc_new W _, by rw [List.length_replicate], fun y hy => by rw [(List.mem_replicate.1 hy).2]; exact ⟨rfl, rfl⟩⟩
    have HR0 := Lib.hid hrow0
    have HB0 := Lib.hid ((Below.refl W.heap.size W).alloc (Nat.le_refl _) (.cells Tryz.zeroCells214 214))
    clear hrow0
    generalize W.alloc (.cells Tryz.zeroCells214 214) = W' at HR0 HB0 ⊢
    go_loopw [8, 20, 21, 22, 23, 24, 25, 26] (fun _ iv _ _ _ _ _ _ wr => ∃ (k : Nat) (L : List Pr), k ≤ 128 ∧ iv = .int .i64 ((k : Nat) : Int) ∧ RowG penc wr W.heap.size 214 wfP L ∧ L.take k = List.replicate k x ∧ Below W.heap.size W wr) (fun _ iv _ _ _ _ _ _ _ => 128 - (intOf iv).toNat)
    case atStart => exact ⟨0, _, by omega, rfl, HR0.out, by simp, HB0.out⟩
    case round =>
      obtain ⟨k, L, hk2, rfl, hR, hT, hB2⟩ := hrel
      have hbx := (hB2.block w.heap.size (by rw [HWs.out]; omega)).trans HBx.out
      have HBx := Lib.hid hbx
      by_cases hlt : k < 128
      · have HR := Lib.hid hR
        have HT := Lib.hid hT
        have HB := Lib.hid hB2
        have b0 : wr.cell? ⟨w.heap.size, 0, none⟩ = some (.int .i32 x.1) := by rw [cell_of_row _ _ 0 _ _ _ hbx]; rfl
        have b1 : wr.cell? ⟨w.heap.size, 1, none⟩ = some (.int .i32 x.2) := by rw [cell_of_row _ _ 1 _ _ _ hbx]; rfl
        obtain ⟨y0, hc0⟩ := hR.cell penc_len hlt 0 (by decide)
        have hf0 := hR.free (k * 2 + 0)
        obtain ⟨y1, hc1⟩ := hR.cell penc_len hlt 1 (by decide)
        have hf1 := hR.free (k * 2 + 1)
        rw [Nat.add_zero] at hc0 hf0
        have hLl := hR.2.1
        clear hR hT hB2 hbx
        go_wp2
        go_roundw
        case rel => exact ⟨k + 1, L.set k x, by omega, by go_num, HR.out.put penc_len x hlt HX.out, by rw [take_put (by omega), HT.out, List.replicate_succ'], setCells_below (penc x) (k * 2) _ HB.out (Nat.le_refl _)⟩
        case measure => simp [intOf]; omega
      · have hke : k = 128 := by omega
        subst hke
        have hLe : L = List.replicate 128 x := by rw [← hT, List.take_of_length_le (by rw [hR.2.1]; exact Nat.le_refl _)]
        subst hLe
        go_wp2
        refine wp_load_row _ _ rfl W.heap.size rfl _ _ _ _ hR.1 Tryz.underlying214 rfl (by rw [arrK_sizeP hR.2.1]; kernel_rfl) ?_
        have hMw := HMw.out.below hB2
        have hbW := below_trans' HBl.out hB2
        have hcall := place_pair B0 B tb mb kb eb v1 v2 ks bl (List.replicate 128 x) wr hMw hR.2 hbl (Nat.le_trans hB hbW.size)
        unfold arrK at hcall
        have HMw := Lib.hid hMw
        have HB2 := Lib.hid hbW
        have HCALL := Lib.hid hcall
        have hbw := hbW.size
        have hlx : w.heap.size < wr.heap.size := row_len hbx
        clear hcall hMw hR hT hB2 hbW hbx
        generalize (List.flatMap penc (List.replicate 128 x)).toArray = cs at HCALL ⊢
        go_wp2_with fail
        refine HCALL.out.mono ?_
        rintro e w2 ⟨k, v2', bl', rfl, hM2, hk2, hold, hlen, hown, hkp⟩
        have hbx2 : w2.heap[w.heap.size]? = some (.cells #[.int .i32 x.1, .int .i32 x.2] 125 (0, 0)) := (hkp.block w.heap.size hlx (by
          rintro (h | h | h | h | h)
          · have := HM.out.b.bt.2; omega
          · have := HM.out.b.bk.2; omega
          · have := HM.out.b.be.2; omega
          · have := (HM.out.b.o2.lt _ h).2; omega
          · omega)).trans HBx.out
        have hm2 := hM2.b.m2
        obtain ⟨f2, hf2, hfc2⟩ := hM2.ev
        have HM2 := Lib.hid hM2
        have HF2 := Lib.hid hf2
        have HFC2 := Lib.hid hfc2
        have HBx2 := Lib.hid hbx2
        have HK2 := Lib.hid hk2
        have HOld := Lib.hid hold
        have HOwn := Lib.hid hown
        have HKp := Lib.hid hkp
        have b0 : w2.cell? ⟨w.heap.size, 0, none⟩ = some (.int .i32 x.1) := by rw [cell_of_row _ _ 0 _ _ _ hbx2]; rfl
        have b1 : w2.cell? ⟨w.heap.size, 1, none⟩ = some (.int .i32 x.2) := by rw [cell_of_row _ _ 1 _ _ _ hbx2]; rfl
        clear hM2 hf2 hfc2 hbx2 hk2 hold hown hkp
        go_wp2
        refine wp_region_still_tail 6 (by kernel_rfl) (by kernel_rfl) ?_
        simp only [List.take_succ_cons, List.take_zero, List.drop_succ_cons, List.drop_zero]
        still_step
        still_step
        still_step
        still_step
        still_step
        still_step
        refine wpStill_nil ?_
        refine wpList_put _ rfl _ _ _ _ rfl keyV_pair Tryz.underlying208 eb f2 rfl (HF2.out.same rfl) x k (by rw [HE.out]; rfl) rfl HX.out ?_
        intro w3 hf3 hg3
        have hgr : w2.grownBy w3 (some eb) := ⟨hg3.os, hg3.tape, hg3.output, hg3.size, hg3.block⟩
        have hb3 := HM2.out.b.grown hgr (fun e => HM2.out.b.nbt.2.2.1 (by injection e)) (fun e => HM2.out.b.nbt.2.2.2.2.1 (by injection e)) (HM2.out.b.far1 HM2.out.b.be.2) (HM2.out.b.far2 HM2.out.b.be.2)
        have hk3 := HM2.out.kn.grown hgr (fun e => HM2.out.b.nbt.2.2.2.2.2 (by injection e))
        have he3 := Even.put HFC2.out x k HK2.out hf3
        have hkp3 : Kept (Mine w tb kb eb v2) w w3 := Kept.trans (.of_below HB2.out) (Kept.trans (HKp.out.mono fun j h => h.imp id (Or.imp id (Or.imp id (Or.imp id (fun h => Nat.le_trans hbw h))))) (.of_grown hgr (fun b e => .inr (.inr (.inl (by injection e with e; exact e.symm))))))
        have hown3 : v2'.ownBlock = v2.ownBlock ∨ ∃ g, v2'.ownBlock = some g ∧ w.heap.size ≤ g := HOwn.out.imp id (fun ⟨g, h1, h2⟩ => ⟨g, h1, Nat.le_trans hbw h2⟩)
        have HEnd := Lib.hid (show PlaceP w B0 B tb mb kb eb v1 v2 ks bl (List.replicate 128 x) (.returned (.int .i64 k)) w3 from ⟨k, v2', bl', rfl, ⟨hb3, hk3, he3⟩, HK2.out, HOld.out, hlen, hown3, hkp3⟩)
        clear hf3 hgr hb3 hk3 he3 hkp3 hown3
        go_wp2
        go_ret
        exact HEnd.out
end Go.Proofs.YtkeainhjghdfcaaGreat
