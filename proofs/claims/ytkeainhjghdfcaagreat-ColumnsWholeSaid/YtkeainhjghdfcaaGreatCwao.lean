/- Joined texts: TrieI. -/
import Derived.StillTailTactics
import Derived.Deep.RegionHeld3
import Derived.Deep.MidRow
import Derived.Test.YtkeainhjghdfcaaGreatCwad
import Derived.Test.YtkeainhjghdfcaaGreatCwab
import Derived.Test.YtkeainhjghdfcaaGreatCwaa

/- trie.maker.place at flags. -/
namespace Go.Proofs.YtkeainhjghdfcaaGreat
open Go.RowKit
def PlaceF (w : World) (B0 B tb mb kb eb : Nat) (v1 v2 : Value) (ks : List Nat) (bl : List (List Flg)) (L : List Flg) (e : Ending) (w' : World) : Prop :=
  ∃ (k : Nat) (v2' : Value) (bl' : List (List Flg)), e = .returned (.int .i64 k) ∧ MkF w' B0 B tb mb kb eb v1 v2' ks bl' ∧ bl'[k]? = some L ∧ (∀ (j : Nat) (M : List Flg), bl[j]? = some M → bl'[j]? = some M) ∧ bl'.length ≤ bl.length + 1 ∧
    (v2'.ownBlock = v2.ownBlock ∨ ∃ g, v2'.ownBlock = some g ∧ w.heap.size ≤ g) ∧ Kept (Mine w tb kb eb v2) w w'

set_option maxRecDepth 100000 in
set_option maxHeartbeats 1000000 in
theorem place_flags (B0 B tb mb kb eb : Nat) (v1 v2 : Value) (ks : List Nat) (bl : List (List Flg)) (L : List Flg) (w : World) (hM : MkF w B0 B tb mb kb eb v1 v2 ks bl) (hL : okL wfF L) (hbl : bl.length ≤ 100000) (hB : B ≤ w.heap.size) :
    Calls Tryz.prog 166 #[.pointer (some ⟨mb, 0, none⟩), arrK fenc L] w (PlaceF w B0 B tb mb kb eb v1 v2 ks bl L) := by
  have hm0 := hM.b.m0
  have hm1 := hM.b.m1
  obtain ⟨f, hf, hfc⟩ := hM.kn
  have hlt := World.block_lt_of_cell? w _ hm0
  have hsz := arrK_sizeF hL.1
  have HM := Lib.hid hM
  have HF := Lib.hid hf
  have HFC := Lib.hid hfc
  have HL := Lib.hid hL
  have HBl := Lib.hid ((Below.refl w.heap.size w).alloc (Nat.le_refl _) (.cells (L.flatMap fenc).toArray 282))
  unfold arrK
  have HE := Lib.hid (show Value.agg (L.flatMap fenc).toArray = arrK fenc L from rfl)
  generalize hcs : (L.flatMap fenc).toArray = cs at hsz HBl HE ⊢
  have HCS := Lib.hid hcs
  clear hM hf hfc hL hcs
  go_enter Tryz.func166, Tryz.ntmps166
  go_wp2
  have hrow : (w.alloc (.cells cs 282)).heap[w.heap.size]? = some (.cells cs 282 (0, 0)) := heap_alloc_new w _
  have hmp : MapFn (arrK fenc) natV (okL wfF) (w.alloc (.cells cs 282)) kb f := HF.out.below HBl.out
  have HRow := Lib.hid hrow
  have HMp := Lib.hid hmp
  clear hrow hmp
  refine wp_region_quiet_lit (by kernel_rfl) (by kernel_rfl) ?_
  quiet_step (fail)
  quiet_step (fail)
  quiet_step (fail)
  quiet_step (fail)
  refine quiet_row (w := w.alloc (.cells cs 282)) rfl _ _ rfl w.heap.size rfl _ cs _ _ HRow.out Tryz.underlying282 rfl (by rw [hsz]; kernel_rfl) ?_
  refine quiet_look (w := w.alloc (.cells cs 282)) rfl _ _ _ rfl keyA_flags Tryz.underlying275 Tryz.zeroValue3 kb f rfl HMp.out L HE.out HL.out ?_ ?_
  · intro k hk
    have HK := Lib.hid hk
    clear hk
    unfold natV
    repeat (quiet_step (fail))
    refine wpQuiet_nil ?_
    rintro w' ⟨nq, rfl⟩
    go_wp2
    go_ret
    exact ⟨k, v2, bl, rfl, (HM.out.below HBl.out).drewN _, HFC.out L k HK.out, fun _ _ h => h, by omega, .inl rfl, .of_below ⟨HBl.out.os, HBl.out.tape, HBl.out.output, HBl.out.size, HBl.out.block⟩⟩
  · intro hk
    repeat (quiet_step (fail))
    refine wpQuiet_nil ?_
    rintro w' ⟨nq, rfl⟩
    have hMW := (HM.out.below HBl.out).drewN nq
    have hKW : Kept (Mine w tb kb eb v2) w ((w.alloc (.cells cs 282)).drewN nq) := .of_below ⟨HBl.out.os, HBl.out.tape, HBl.out.output, HBl.out.size, HBl.out.block⟩
    have hRW : ((w.alloc (.cells cs 282)).drewN nq).heap[w.heap.size]? = some (.cells cs 282 (0, 0)) := HRow.out
    have hFW : MapFn (arrK fenc) natV (okL wfF) ((w.alloc (.cells cs 282)).drewN nq) kb f := HMp.out.same rfl
    have hWs : w.heap.size < ((w.alloc (.cells cs 282)).drewN nq).heap.size := (Array.getElem?_eq_some_iff.1 hRW).1
    clear HRow HMp HF hlt hm0 hm1 HBl
    generalize (w.alloc (.cells cs 282)).drewN nq = W at hMW hKW hRW hFW hWs ⊢
    have HMW := Lib.hid hMW
    have HKW := Lib.hid hKW
    have HRW := Lib.hid hRW
    have HFW := Lib.hid hFW
    have hm0 := hMW.b.m0
    have hm1 := hMW.b.m1
    have ht1 := hMW.b.t1
    have ht2 := hMW.b.t2
    have ho2 := hMW.b.o2
    obtain ⟨a2, c2, rfl⟩ := slice_of_owns ho2
    clear hMW hKW hRW hFW ho2
    go_wp2
    refine wp_region_still_tail 6 (by kernel_rfl) (by kernel_rfl) ?_
    simp only [List.take_succ_cons, List.take_zero, List.drop_succ_cons, List.drop_zero]
    still_step
    still_step
    still_step
    still_step
    refine still_row rfl _ _ rfl w.heap.size rfl _ cs _ _ HRW.out Tryz.underlying282 rfl (by rw [hsz]; kernel_rfl) ?_
    still_step
    refine wpStill_nil ?_
    refine wpList_put _ rfl _ _ _ _ rfl keyA_flags Tryz.underlying275 kb f rfl (HFW.out.same rfl) L bl.length HE.out rfl HL.out ?_
    intro W2 hF2 hg2
    have hK2 : Kept (Mine w tb kb eb (.slice a2 bl.length c2)) w W2 := HKW.out.new (.of_grown (show W.grownBy W2 (some kb) from ⟨hg2.os, hg2.tape, hg2.output, hg2.size, hg2.block⟩) (fun b e => by injection e with e; subst e; exact .inl (.inr (.inl rfl))))
    have hb2 := HMW.out.b.grown (show W.grownBy W2 (some kb) from ⟨hg2.os, hg2.tape, hg2.output, hg2.size, hg2.block⟩) (fun e => HMW.out.b.nbt.2.1 (by injection e)) (fun e => HMW.out.b.nbt.2.2.2.1 (by injection e)) (HMW.out.b.far1 HMW.out.b.bk.2) (HMW.out.b.far2 HMW.out.b.bk.2)
    have hev2 := HMW.out.ev.grown (show W.grownBy W2 (some kb) from ⟨hg2.os, hg2.tape, hg2.output, hg2.size, hg2.block⟩) (fun e => HMW.out.b.nbt.2.2.2.2.2 (by injection e with e; exact e.symm))
    have hr2 : W2.heap[w.heap.size]? = some (.cells cs 282 (0, 0)) := (hg2.block w.heap.size hWs (fun e => by injection e with e; have := HMW.out.b.bk.2; omega)).trans HRW.out
    have hkn2 := Known.put (bl := bl) HFC.out L hF2
    have HK2 := Lib.hid hK2
    have HB2 := Lib.hid hb2
    have HEV2 := Lib.hid hev2
    have HR2 := Lib.hid hr2
    have HKN2 := Lib.hid hkn2
    have hw2 : W.heap.size ≤ W2.heap.size := hg2.size
    clear hm0 hm1 ht1 ht2 HMW HKW HRW HFW hF2 hg2 hK2 hb2 hev2 hr2 hkn2
    have hm0 := HB2.out.m0
    have ht2 := HB2.out.t2
    have hf2 := HB2.out.f2
    go_wp2
    have hra : W2.rangeAt w.heap.size 0 cs.toList := fun j v hv => by rw [Nat.zero_add, cell_of_row _ w.heap.size j cs 282 (0, 0) HR2.out, ← Array.getElem?_toList]; exact hv
    have hun := Tryz.underlying282
    have hin : (Tryz.prog.info? 282).map (·.size) = some cs.toList.length := by rw [Array.length_toList, hsz]; kernel_rfl
    have HNW := Lib.hid (show ∀ j u, (arrE fenc L)[j]? = some u → (W2.alloc (.cells cs 282)).cell? ((⟨W2.heap.size, 0, none⟩ : Addr).add j) = some u by rw [← HCS.out]; exact fun j u h => news_of_alloc W2 (arrE fenc L) _ j u h)
    have HLen := Lib.hid (show (arrE fenc L).length = 1 * 512 by unfold arrE; rw [flat_len fenc_len, HL.out.1])
    have htb : tb < W2.heap.size := World.block_lt_of_cell? W2 _ ht2
    have hmb : mb < W2.heap.size := World.block_lt_of_cell? W2 _ hm0
    have HFK := Lib.hid (fun o => (World.frozen?_of_block (a := ⟨tb, 2, none⟩) (w := W2) (w' := (W2.alloc o).drew) (Below.heap_alloc _ _ _ htb)).trans hf2)
    have HRK := Lib.hid (fun o => range_keep (w' := (W2.alloc o).drew) hra (Below.heap_alloc _ _ _ (by omega)))
    have hntm : ¬ tb = mb := HB2.out.nbt.1
    have hntw : ¬ tb = w.heap.size := by have := HB2.out.bt.2; omega
    refine wp_region_held_drew (S := fun w' => w'.cell? ⟨mb, 0, none⟩ = some (.pointer (some ⟨tb, 0, none⟩)) ∧ w'.rangeAt w.heap.size 0 cs.toList) (by kernel_rfl) ⟨hm0, hra⟩ (fun hHeld => ?_)
    refine hd_take 0 rfl (by kernel_rfl) (by kernel_rfl) (by kernel_rfl) (fun _ _ _ h => h) (by rfl) (by intro w hSw; (try dsimp only at hSw); go_split_ands; go_simp; first | done | with_reducible rfl) hHeld ?_
    simp only [Act.put, List.setIfInBounds_toArray, List.set_cons_zero, List.set_cons_succ]
    refine hd_take 1 rfl (by kernel_rfl) (by kernel_rfl) (by kernel_rfl) (fun _ _ _ h => h) (by rfl) (by intro w hSw; (try dsimp only at hSw); go_split_ands; go_simp; first | done | with_reducible rfl) hHeld ?_
    simp only [Act.put, List.setIfInBounds_toArray, List.set_cons_zero, List.set_cons_succ]
    refine hd_take 2 rfl (by kernel_rfl) (by kernel_rfl) (by kernel_rfl) (fun _ _ _ h => h) (by rfl) (by intro w hSw; (try dsimp only at hSw); go_split_ands; go_simp; first | done | with_reducible rfl) hHeld ?_
    simp only [Act.put, List.setIfInBounds_toArray, List.set_cons_zero, List.set_cons_succ]
    refine hd_take 3 rfl (by kernel_rfl) (by kernel_rfl) (by kernel_rfl) (fun _ _ _ h => h) (by rfl) (by intro w hSw; (try dsimp only at hSw); go_split_ands; go_simp; first | done | with_reducible rfl) hHeld ?_
    simp only [Act.put, List.setIfInBounds_toArray, List.set_cons_zero, List.set_cons_succ]
    refine hd_take 4 rfl (by kernel_rfl) (by kernel_rfl) (by kernel_rfl) (fun _ _ _ h => h) (by rfl) (by intro w hSw; (try dsimp only at hSw); go_split_ands; go_simp; first | done | with_reducible rfl) hHeld ?_
    simp only [Act.put, List.setIfInBounds_toArray, List.set_cons_zero, List.set_cons_succ]
    refine hd_take 5 rfl (by kernel_rfl) (by kernel_rfl) (by kernel_rfl) (fun _ _ _ h => h) (by rfl) (by intro w hSw; (try dsimp only at hSw); go_split_ands; go_simp; first | done | with_reducible rfl) hHeld ?_
    simp only [Act.put, List.setIfInBounds_toArray, List.set_cons_zero, List.set_cons_succ]
    refine hd_take 6 rfl (by kernel_rfl) (by kernel_rfl) (by kernel_rfl) (fun _ _ _ h => h) (by rfl) (by intro w hSw; (try dsimp only at hSw); go_split_ands; go_simp; first | done | with_reducible rfl) hHeld ?_
    simp only [Act.put, List.setIfInBounds_toArray, List.set_cons_zero, List.set_cons_succ]
    refine hd_take 7 rfl (by kernel_rfl) (by kernel_rfl) (by kernel_rfl) (fun _ _ _ h => h) (by rfl) (by intro w hSw; (try dsimp only at hSw); go_split_ands; go_simp; first | done | with_reducible rfl) hHeld ?_
    simp only [Act.put, List.setIfInBounds_toArray, List.set_cons_zero, List.set_cons_succ]
    refine hd_take 8 rfl (by kernel_rfl) (by kernel_rfl) (by kernel_rfl) (fun _ _ _ h => h) (by rfl) (by intro w hSw; (try dsimp only at hSw); go_split_ands; go_simp; first | done | with_reducible rfl) hHeld ?_
    simp only [Act.put, List.setIfInBounds_toArray, List.set_cons_zero, List.set_cons_succ]
    refine hd_take 9 rfl (by kernel_rfl) (by kernel_rfl) (by kernel_rfl) (fun _ _ _ h => h) (by rfl) (by intro w hSw; (try dsimp only at hSw); go_split_ands; go_simp; first | done | with_reducible rfl) hHeld ?_
    simp only [Act.put, List.setIfInBounds_toArray, List.set_cons_zero, List.set_cons_succ]
    refine hd_long 11 rfl (by kernel_rfl) (by kernel_rfl) (by kernel_rfl) _ _ rfl w.heap.size 0 rfl cs _ (fun w' h => h.2) (fun _ _ _ h => h) (by rfl) Tryz.underlying282 rfl hin hHeld ?_
    try simp only [Act.put, List.setIfInBounds_toArray, List.set_cons_zero, List.set_cons_succ]
    refine hd_two 10 12 (by kernel_rfl) rfl rfl (fun K hK => ?_) (fun K hK => ?_)
    case' refine_1 =>
      go_simp
      refine hK.out _ _ ⟨hm0, hra⟩ (fun hHeld => ?_)
      clear hK K
      try simp only [Act.put, List.setIfInBounds_toArray, List.set_cons_zero, List.set_cons_succ]
      refine hd_step 12 (by kernel_rfl) rfl (fun K hK => ?_)
      refine step_build1 (by rfl) _ _ (by rfl) Tryz.underlying271 Tryz.sizeOf282 Tryz.zeroValue282 (by decide) (by decide) cs hsz (by rfl) ?_
    case' refine_2 =>
      refine step_build1 (by rfl) _ _ (by rfl) Tryz.underlying271 Tryz.sizeOf282 Tryz.zeroValue282 (by decide) (by decide) cs hsz (by rfl) ?_
      refine hK.out _ _ (by refine ⟨?_, HRK.out _⟩ <;> go_simp) (fun hHeld => ?_)
      clear hK K
      try simp only [Act.put, List.setIfInBounds_toArray, List.set_cons_zero, List.set_cons_succ]
      refine hd_step 10 (by kernel_rfl) rfl (fun K hK => ?_)
      go_simp
    all_goals
      refine hK.out _ _ (by refine ⟨?_, HRK.out _⟩ <;> go_simp) (fun hHeld => ?_)
      clear hK K
      try simp only [Act.put, List.setIfInBounds_toArray, List.set_cons_zero, List.set_cons_succ]
      refine hd_step 13 (by kernel_rfl) rfl (fun K hK => ?_)
      (refine step_app4 (by rfl) _ _ _ (by rfl) Earr_flags (.slice a2 bl.length c2) bl.length (bl.flatMap (arrE fenc)) (by rfl) (World.ownsRow.alloc HB2.out.o2 (.cells cs 282)) ⟨W2.heap.size, 0, none⟩ 1 1 (arrE fenc L) (by rfl) (by decide) HLen.out HNW.out (arrE_fenc L) (by omega) (by simp <;> omega) ?_; intro g cap w5 ho5 hg5 hf5; have gt : some tb ≠ (Value.slice a2 bl.length c2).ownBlock := (fun e => by have := (HB2.out.o2.lt _ e.symm).1; have := HB2.out.bt.2; omega); have gm : some mb ≠ (Value.slice a2 bl.length c2).ownBlock := (fun e => by have := (HB2.out.o2.lt _ e.symm).1; have := HB2.out.bm.2; omega); have gw : some w.heap.size ≠ (Value.slice a2 bl.length c2).ownBlock := (fun e => by have := (HM.out.b.o2.lt _ e.symm).2; omega); have k0 := hg5.cell (v := .pointer (some ⟨tb, 0, none⟩)) (a := ⟨mb, 0, none⟩) (by go_simp) gm; have k2 := hg5.cell (v := .slice a2 bl.length c2) (a := ⟨tb, 2, none⟩) (by go_simp) gt; have kf := (World.frozen?_of_block (a := ⟨tb, 2, none⟩) (hg5.block tb (by simp <;> omega) gt)).trans (HFK.out _); have kr := range_keep (HRK.out (.cells cs 282)) (hg5.block w.heap.size (by simp <;> omega) gw))
      refine hK.out _ _ ⟨k0, kr⟩ (fun hHeld => ?_)
      clear hK K
      try simp only [Act.put, List.setIfInBounds_toArray, List.set_cons_zero, List.set_cons_succ]
      refine hd_take 14 rfl (by kernel_rfl) (by kernel_rfl) (by kernel_rfl) (fun _ _ _ h => h) (by rfl) (by intro w hSw; (try dsimp only at hSw); go_split_ands; go_simp; first | done | with_reducible rfl) hHeld ?_
      simp only [Act.put, List.setIfInBounds_toArray, List.set_cons_zero, List.set_cons_succ]
      refine hd_take 15 rfl (by kernel_rfl) (by kernel_rfl) (by kernel_rfl) (fun _ _ _ h => h) (by rfl) (by intro w hSw; (try dsimp only at hSw); go_split_ands; go_simp; first | done | with_reducible rfl) hHeld ?_
      simp only [Act.put, List.setIfInBounds_toArray, List.set_cons_zero, List.set_cons_succ]
      refine hd_step 16 (by kernel_rfl) rfl (fun K hK => ?_)
      go_simp
      refine hK.out _ _ ⟨(World.cell?_setCell_other _ _ _ _ (fun e => hntm (by injection e))).trans k0, range_keep kr (Below.heap_setCell _ _ _ _ (fun e => hntw e.symm))⟩ (fun hHeld => ?_)
      clear hK K
      try simp only [Act.put, List.setIfInBounds_toArray, List.set_cons_zero, List.set_cons_succ]
      refine wpAnyH_done (by kernel_rfl) ?_ _
    all_goals have hba : Below W2.heap.size W2 (W2.alloc (.cells cs 282)).drew := ⟨rfl, rfl, rfl, by simp, fun j hj => Below.heap_alloc _ _ _ hj⟩
    all_goals have hKe : Kept (Mine w tb kb eb (.slice a2 bl.length c2)) w (w5.setCell ⟨tb, 2, none⟩ (.slice (some ⟨g, 0, none⟩) (bl.length + 1) cap)) := HK2.out.trans (Kept.trans (.of_below hba) (.trans (.of_grown hg5 (fun b e => .inr (.inr (.inr (.inl (by exact e)))))) (kept_setCell _ _ _ (.inl rfl))))
    all_goals have hMe := (HB2.out.below hba).push2 (L := L) hg5 (by exact ho5) (by exact hf5.imp id (fun h => Nat.le_trans (by simp) h)) HL.out.1
    all_goals have hfin : some kb ≠ (Value.slice a2 bl.length c2).ownBlock ∧ some eb ≠ (Value.slice a2 bl.length c2).ownBlock := ⟨fun e => by have := (HB2.out.o2.lt _ e.symm).1; have := HB2.out.bk.2; omega, fun e => by have := (HB2.out.o2.lt _ e.symm).1; have := HB2.out.be.2; omega⟩
    all_goals have hsg := setCell_grown w5 ⟨tb, 2, none⟩ (.slice (some ⟨g, 0, none⟩) (bl.length + 1) cap)
    all_goals have hke := ((HKN2.out.grown (grown_of_below hba) (by simp)).grown hg5 hfin.1).grown hsg (fun e => HB2.out.nbt.2.1 (by injection e with e; exact e.symm))
    all_goals have hee := (((HEV2.out.more L).grown (grown_of_below hba) (by simp)).grown hg5 hfin.2).grown hsg (fun e => HB2.out.nbt.2.2.1 (by injection e with e; exact e.symm))
    all_goals go_wp2
    all_goals go_ret
    all_goals exact ⟨bl.length, _, bl ++ [L], rfl, ⟨hMe, hke, hee⟩, by simp, fun j M h => by rw [List.getElem?_append_left (List.getElem?_eq_some_iff.1 h).1]; exact h, by simp, hf5.elim (fun h => .inl h.symm) (fun h => .inr ⟨g, rfl, Nat.le_trans HK2.out.size (Nat.le_trans (by simp) h)⟩), hKe⟩
end Go.Proofs.YtkeainhjghdfcaaGreat
