/- Joined texts: SegL. -/
import Derived.Laws.StructEq
import Derived.Test.YtamgngkiegbglaaZbac
/- SegSteps: its walk. -/
namespace Go.Proofs.Ytamgngkiegbglaa
open Go.RowKit

theorem eq_five (w : World) {t tb ti : TypeId} (hb : Try.prog.underlying tb = some .bool) (hi : Try.prog.underlying ti = some (.int .i64)) (ab : ∀ w, (isAgg tb).run Try.prog w = .ok false w) (ai : ∀ w, (isAgg ti).run Try.prog w = .ok false w)
    (ht : Try.prog.underlying t = some (.struct (Try.prog.fieldsOf t))) (hp : Try.prog.stoodInHeld t = false) (f0 f1 f2 f3 f4 : Field) (hf : (Try.prog.fieldsOf t).toList = [f0, f1, f2, f3, f4])
    (n0 : f0.name ≠ "_") (n1 : f1.name ≠ "_") (n2 : f2.name ≠ "_") (n3 : f3.name ≠ "_") (n4 : f4.name ≠ "_") (y0 : f0.type = tb) (y1 : f1.type = ti) (y2 : f2.type = ti) (y3 : f3.type = ti) (y4 : f4.type = tb)
    (o0 : f0.offset = 0) (o1 : f1.offset = 1) (o2 : f2.offset = 2) (o3 : f3.offset = 3) (o4 : f4.offset = 4) (b0 : Bool) (a b c : Int) (b1 : Bool) :
    (Op.equalIn 10000 t (.agg #[.bool b0, .int .i64 a, .int .i64 b, .int .i64 c, .bool b1]) (.agg #[.bool b0, .int .i64 a, .int .i64 b, .int .i64 c, .bool b1])).run Try.prog w = .ok true w := by
  rw [run_equalIn_agg _ _ _ _ _ ht hp, hf]
  have he : ∀ (x y : Int) (w : World), (Op.equalIn 9999 ti (.int .i64 x) (.int .i64 y)).run Try.prog w = .ok (x == y) w := fun x y w => run_equalIn_int w 9998 ti .i64 .i64 x y hi
  have hb' : ∀ (x y : Bool) (w : World), (Op.equalIn 9999 tb (.bool x) (.bool y)).run Try.prog w = .ok (x == y) w := fun x y w => run_equalIn_bool' w 9998 tb x y hb
  simp [Op.eqFields, y0, y1, y2, y3, y4, o0, o1, o2, o3, o4, n0, n1, n2, n3, n4, part, ab, ai, he, hb']
set_option maxRecDepth 100000 in
theorem eq_state (w : World) (b0 : Bool) (a b c : Int) (b1 : Bool) : (Op.equalIn 10000 49 (.agg #[.bool b0, .int .i64 a, .int .i64 b, .int .i64 c, .bool b1]) (.agg #[.bool b0, .int .i64 a, .int .i64 b, .int .i64 c, .bool b1])).run Try.prog w = .ok true w :=
  eq_five w Try.underlying4 Try.underlying3 Try.isAgg4 Try.isAgg3 (by kernel_rfl) (by kernel_rfl) _ _ _ _ _ rfl (by decide) (by decide) (by decide) (by decide) (by decide) rfl rfl rfl rfl rfl rfl rfl rfl rfl rfl b0 a b c b1
set_option maxRecDepth 100000 in
set_option maxHeartbeats 16000000 in
theorem segSteps_any (v0 : Value) (l0 : List Int) (w : World) (hl : RunesIn w v0 l0) (hok : RunesOk l0) :
    Calls Try.prog 9 #[v0] w fun e w' => e = .returned (.bool true) ∧ Below w.heap.size w w' := by
  obtain ⟨R, HFc, hrows⟩ := apiRows_any
  have HF := Lib.hid HFc
  have HRows := Lib.hid hrows
  have HFew := Lib.hid (few_any hl 200)
  clear HFc hrows hl
  obtain ⟨l, hll⟩ : ∃ l, l = l0.take 200 := ⟨_, rfl⟩
  rw [← hll] at HFew
  have HOk := Lib.hid (show RunesOk l by rw [hll]; exact hok.take 200)
  have hlen : l.length ≤ 1000000 := by rw [hll, List.length_take]; omega
  clear hll hok
  go_enter Try.func9, Try.ntmps9
  go_wp2_with fail
  refine HFew.out.mono ?_
  rintro e w' ⟨⟨sv, rfl, hS⟩, rfl⟩
  have HS := Lib.hid hS
  clear hS HFew
  go_wp2_with fail
  refine (HRows.out w).mono ?_
  rintro e w1 ⟨v, rfl, hB1, hR1⟩
  have HB1 := Lib.hid hB1
  have HR1 := Lib.hid hR1
  have HS1 := Lib.hid (HS.out.below hB1)
  clear hB1 hR1 HS
  go_wp2_with fail
  refine (build_tb v R w1 HR1.out HF.out.ok).mono ?_
  rintro e w2 ⟨tp, rfl, hB2, hT⟩
  have HT2 := Lib.hid hT
  have HR2 := Lib.hid (HR1.out.below hB2)
  have HS2 := Lib.hid (HS1.out.below hB2)
  have HB2 := Lib.hid (below_trans' HB1.out hB2)
  clear hB2 hT HB1 HR1 HS1
  obtain ⟨sl, cap, rfl, hcap, hmax, hcells⟩ := runes_cells HS2.out
  unfold maxLen at hmax
  go_upto_region 5 with fail
  have HW := Lib.hid (((Below.refl w2.heap.size w2).alloc (Nat.le_refl _) (.cells #[.bool false, .int .i64 0, .int .i64 0, .int .i64 0, .bool false] 49)).alloc (by simp) (.cells #[.bool false, .int .i64 0, .int .i64 0, .int .i64 0, .bool false] 49))
  have hA : stRow ((w2.alloc (.cells #[.bool false, .int .i64 0, .int .i64 0, .int .i64 0, .bool false] 49)).alloc (.cells #[.bool false, .int .i64 0, .int .i64 0, .int .i64 0, .bool false] 49)) w2.heap.size ⟨false, 0, 0, 0, false⟩ := (Below.heap_alloc _ _ _ (by simp)).trans (heap_alloc_new w2 _)
  have hC : stRow ((w2.alloc (.cells #[.bool false, .int .i64 0, .int .i64 0, .int .i64 0, .bool false] 49)).alloc (.cells #[.bool false, .int .i64 0, .int .i64 0, .int .i64 0, .bool false] 49)) (w2.heap.size + 1) ⟨false, 0, 0, 0, false⟩ := by
    have := heap_alloc_new (w2.alloc (.cells #[.bool false, .int .i64 0, .int .i64 0, .int .i64 0, .bool false] 49)) (.cells #[.bool false, .int .i64 0, .int .i64 0, .int .i64 0, .bool false] 49)
    rw [show (w2.alloc (.cells #[.bool false, .int .i64 0, .int .i64 0, .int .i64 0, .bool false] 49)).heap.size = w2.heap.size + 1 by simp] at this
    exact this
  generalize (w2.alloc (.cells #[.bool false, .int .i64 0, .int .i64 0, .int .i64 0, .bool false] 49)).alloc (.cells #[.bool false, .int .i64 0, .int .i64 0, .int .i64 0, .bool false] 49) = W at HW hA hC ⊢
  have HA := Lib.hid hA
  have HC := Lib.hid hC
  clear hA hC
  go_wp2_with fail
  go_loopw [7] (fun iv wr => ∃ (k : Nat) (st : St), k ≤ l.length ∧ iv = .int .i64 ((k : Nat) : Int) ∧ Below w2.heap.size w2 wr ∧ stRow wr w2.heap.size st ∧ stRow wr (w2.heap.size + 1) st ∧ st = stOf (tabOf R) (l.take k).reverse) (fun iv _ => l.length - (intOf iv).toNat)
  case atStart => exact ⟨0, St0, Nat.zero_le _, rfl, HW.out, HA.out, HC.out, rfl⟩
  case round =>
    obtain ⟨k, st, hk, rfl, hB, hR, hU, hst⟩ := hrel
    have HB := Lib.hid hB
    have HSt := Lib.hid hst
    clear hB hst
    by_cases hlt : k < l.length
    · obtain ⟨x, hx⟩ : ∃ x, l[k]? = some x := ⟨l[k], List.getElem?_eq_getElem hlt⟩
      have HI := Lib.hid (HOk.out.get hx)
      have HTr := Lib.hid (HT2.out.below HB.out)
      obtain ⟨b0, off, cap', hv, _, _, _, _, d0⟩ := rune_cell (HS2.out.below HB.out) hx
      cases hv
      have HCut := Lib.hid (show cutB (tabOf R) st x = begAt (tabOf R) (l.take (k + 1)) k by
        rw [HSt.out, cut_beg HF.out.seg.tab]
        unfold begAt
        rw [List.getElem?_take, if_pos (by omega), hx, List.take_take, Nat.min_eq_left (by omega)])
      have HNxt := Lib.hid (show nextSt (tabOf R) st x = stOf (tabOf R) (l.take (k + 1)).reverse by
        rw [HSt.out, take_succ_rev hx]; rfl)
      obtain ⟨s0, s1, s2, s3, s4⟩ := st
      have HRs := Lib.hid hR
      have HUs := Lib.hid hU
      have HBr := Lib.hid (Below.refl wr.heap.size wr)
      have r1 : (0 : Int) ≤ (k : Int) := by omega
      have r2 : (k : Int) < (l.length : Int) := by omega
      have r3 := IntWalk.i64_in ((k : Int) + 1) (by omega)
      have r4 : (0 : Int) ≤ (k : Int) + 1 := by omega
      have r5 : (k : Int) + 1 ≤ (cap : Int) := by omega
      have r6 : ((k : Int) + 1).toNat = k + 1 := by omega
      have HX := Lib.hid hx
      clear hx hU hcells
      have c0 : wr.cell? ⟨w2.heap.size, 0, none⟩ = some (.bool s0) := row_cells hR rfl
      have c1 : wr.cell? ⟨w2.heap.size, 1, none⟩ = some (.int .i64 s1) := row_cells hR rfl
      have c2 : wr.cell? ⟨w2.heap.size, 2, none⟩ = some (.int .i64 s2) := row_cells hR rfl
      have c3 : wr.cell? ⟨w2.heap.size, 3, none⟩ = some (.int .i64 s3) := row_cells hR rfl
      have c4 : wr.cell? ⟨w2.heap.size, 4, none⟩ = some (.bool s4) := row_cells hR rfl
      have HBz := Lib.hid (HBr.out.alloc HBr.out.size (.cells #[.bool false, .int .i64 0, .int .i64 0, .int .i64 0, .bool false] 49))
      have HCall := Lib.hid (step_any ⟨s0, s1, s2, s3, s4⟩ x (wr.alloc (.cells #[.bool false, .int .i64 0, .int .i64 0, .int .i64 0, .bool false] 49)).drew ((HTr.out.below HBz.out).below (below_dN (.refl _ _) 1)) HI.out)
      have HCallA := Lib.hid (step_any ⟨s0, s1, s2, s3, s4⟩ x wr.drew ((HTr.out.below HBr.out).below (below_dN (.refl _ _) 1)) HI.out)
      have hsl := HRs.out.lt
      have hdl : b0 < wr.heap.size := World.block_lt_of_cell? wr _ d0
      have g0 : (wr.alloc (.cells #[.bool false, .int .i64 0, .int .i64 0, .int .i64 0, .bool false] 49)).drew.cell? ⟨w2.heap.size, 0, none⟩ = some (.bool s0) := (World.cell?_of_block (Below.heap_alloc _ _ _ hsl)).trans c0
      have g1 : (wr.alloc (.cells #[.bool false, .int .i64 0, .int .i64 0, .int .i64 0, .bool false] 49)).drew.cell? ⟨w2.heap.size, 1, none⟩ = some (.int .i64 s1) := (World.cell?_of_block (Below.heap_alloc _ _ _ hsl)).trans c1
      have g2 : (wr.alloc (.cells #[.bool false, .int .i64 0, .int .i64 0, .int .i64 0, .bool false] 49)).drew.cell? ⟨w2.heap.size, 2, none⟩ = some (.int .i64 s2) := (World.cell?_of_block (Below.heap_alloc _ _ _ hsl)).trans c2
      have g3 : (wr.alloc (.cells #[.bool false, .int .i64 0, .int .i64 0, .int .i64 0, .bool false] 49)).drew.cell? ⟨w2.heap.size, 3, none⟩ = some (.int .i64 s3) := (World.cell?_of_block (Below.heap_alloc _ _ _ hsl)).trans c3
      have g4 : (wr.alloc (.cells #[.bool false, .int .i64 0, .int .i64 0, .int .i64 0, .bool false] 49)).drew.cell? ⟨w2.heap.size, 4, none⟩ = some (.bool s4) := (World.cell?_of_block (Below.heap_alloc _ _ _ hsl)).trans c4
      have g5 : (wr.alloc (.cells #[.bool false, .int .i64 0, .int .i64 0, .int .i64 0, .bool false] 49)).drew.cell? ⟨b0, off + k, none⟩ = some (.int .i32 x) := (World.cell?_of_block (Below.heap_alloc _ _ _ hdl)).trans d0
      have HG := Lib.hid (show stRow (wr.alloc (.cells #[.bool false, .int .i64 0, .int .i64 0, .int .i64 0, .bool false] 49)).drew w2.heap.size ⟨s0, s1, s2, s3, s4⟩ from (Below.heap_alloc _ _ _ hsl).trans HRs.out)
      have HZ := Lib.hid (show stRow (wr.alloc (.cells #[.bool false, .int .i64 0, .int .i64 0, .int .i64 0, .bool false] 49)).drew wr.heap.size ⟨false, 0, 0, 0, false⟩ from heap_alloc_new wr _)
      have hne1 : wr.heap.size ≠ w2.heap.size := by omega
      have hne2 : wr.heap.size ≠ b0 := by omega
      clear hR
      unfold stV at HCall HCallA
      dsimp only at HCall HCallA
      generalize hn : nextSt (tabOf R) ⟨s0, s1, s2, s3, s4⟩ x = n at HCut HNxt HCall HCallA
      obtain ⟨m0, m1, m2, m3, m4⟩ := n
      generalize hc : cutB (tabOf R) ⟨s0, s1, s2, s3, s4⟩ x = cu at HCut HNxt HCall HCallA
      have HNk := Lib.hid hn
      have HCk := Lib.hid hc
      clear hn hc
      go_wp2_with fail
      refine wp_region_held_drew (S := fun w' => w'.cell? ⟨w2.heap.size, 0, none⟩ = some (.bool s0) ∧ w'.cell? ⟨w2.heap.size, 1, none⟩ = some (.int .i64 s1) ∧ w'.cell? ⟨w2.heap.size, 2, none⟩ = some (.int .i64 s2) ∧ w'.cell? ⟨w2.heap.size, 3, none⟩ = some (.int .i64 s3) ∧ w'.cell? ⟨w2.heap.size, 4, none⟩ = some (.bool s4) ∧ w'.cell? ⟨b0, off + k, none⟩ = some (.int .i32 x)) (by kernel_rfl) ⟨c0, c1, c2, c3, c4, d0⟩ (fun hHeld => ?_)
      refine hd_take 0 rfl (by kernel_rfl) (by kernel_rfl) (by kernel_rfl) (fun _ _ _ h => h) (by rfl) (by intro w hSw; (try dsimp only at hSw); go_split_ands; go_simp; first | done | with_reducible rfl) hHeld ?_
      simp only [Act.put, List.setIfInBounds_toArray, List.set_cons_zero, List.set_cons_succ]
      refine hd_take 1 rfl (by kernel_rfl) (by kernel_rfl) (by kernel_rfl) (fun _ _ _ h => h) (by rfl) (by intro w hSw; (try dsimp only at hSw); go_split_ands; go_simp; first | done | with_reducible rfl) hHeld ?_
      simp only [Act.put, List.setIfInBounds_toArray, List.set_cons_zero, List.set_cons_succ]
      refine hd_take 2 rfl (by kernel_rfl) (by kernel_rfl) (by kernel_rfl) (fun _ _ _ h => h) (by rfl) (by intro w hSw; (try dsimp only at hSw); go_split_ands; go_simp; first | done | with_reducible rfl) hHeld ?_
      simp only [Act.put, List.setIfInBounds_toArray, List.set_cons_zero, List.set_cons_succ]
      refine hd_take 3 rfl (by kernel_rfl) (by kernel_rfl) (by kernel_rfl) (fun _ _ _ h => h) (by rfl) (by intro w hSw; (try dsimp only at hSw); go_split_ands; go_simp; first | done | with_reducible rfl) hHeld ?_
      simp only [Act.put, List.setIfInBounds_toArray, List.set_cons_zero, List.set_cons_succ]
      refine hd_take 4 rfl (by kernel_rfl) (by kernel_rfl) (by kernel_rfl) (fun _ _ _ h => h) (by rfl) (by intro w hSw; (try dsimp only at hSw); go_split_ands; go_simp; first | done | with_reducible rfl) hHeld ?_
      simp only [Act.put, List.setIfInBounds_toArray, List.set_cons_zero, List.set_cons_succ]
      refine hd_take 5 rfl (by kernel_rfl) (by kernel_rfl) (by kernel_rfl) (fun _ _ _ h => h) (by rfl) (by intro w hSw; (try dsimp only at hSw); go_split_ands; go_simp; first | done | with_reducible rfl) hHeld ?_
      simp only [Act.put, List.setIfInBounds_toArray, List.set_cons_zero, List.set_cons_succ]
      refine hd_two 6 10 (by kernel_rfl) rfl rfl (fun K hK => ?_) (fun K hK => ?_)
      case' refine_1 =>
        go_simp
        go_at_call 40
        refine HCallA.out.mono ?_
        rintro e w5 ⟨rfl, hB5⟩
        have p0 := cell_later hB5 (show wr.drew.cell? _ = _ from c0)
        have p1 := cell_later hB5 (show wr.drew.cell? _ = _ from c1)
        have p2 := cell_later hB5 (show wr.drew.cell? _ = _ from c2)
        have p3 := cell_later hB5 (show wr.drew.cell? _ = _ from c3)
        have p4 := cell_later hB5 (show wr.drew.cell? _ = _ from c4)
        have p5 := cell_later hB5 (show wr.drew.cell? _ = _ from d0)
        have hs5 : wr.heap.size ≤ w5.heap.size := hB5.size
        have HB5 := Lib.hid ((below_dN HBr.out 1).trans (hB5.mono (below_dN HBr.out 1).size))
        have HR5 := Lib.hid (stRow.kept (show stRow wr.drew w2.heap.size _ from HRs.out) hB5)
        clear hB5
        go_wp2_with fail
        refine hK.out _ _ ⟨p0, p1, p2, p3, p4, p5⟩ (fun hHeld => ?_)
        clear hK K
        try simp only [Act.put, List.setIfInBounds_toArray, List.set_cons_zero, List.set_cons_succ]
        refine hd_take 7 rfl (by kernel_rfl) (by kernel_rfl) (by kernel_rfl) (fun _ _ _ h => h) (by rfl) (by intro w hSw; (try dsimp only at hSw); go_split_ands; go_simp; first | done | with_reducible rfl) hHeld ?_
        simp only [Act.put, List.setIfInBounds_toArray, List.set_cons_zero, List.set_cons_succ]
        refine hd_take 8 rfl (by kernel_rfl) (by kernel_rfl) (by kernel_rfl) (fun _ _ _ h => h) (by rfl) (by intro w hSw; (try dsimp only at hSw); go_split_ands; go_simp; first | done | with_reducible rfl) hHeld ?_
        simp only [Act.put, List.setIfInBounds_toArray, List.set_cons_zero, List.set_cons_succ]
        refine hd_take 9 rfl (by kernel_rfl) (by kernel_rfl) (by kernel_rfl) (fun _ _ _ h => h) (by rfl) (by intro w hSw; (try dsimp only at hSw); go_split_ands; go_simp; first | done | with_reducible rfl) hHeld ?_
        simp only [Act.put, List.setIfInBounds_toArray, List.set_cons_zero, List.set_cons_succ]
        refine hd_step 10 (by kernel_rfl) rfl (fun K hK => ?_)
        go_simp
        have v0 := (World.cell?_of_block (Below.heap_alloc w5 (.cells #[.bool false, .int .i64 0, .int .i64 0, .int .i64 0, .bool false] 49) _ (Nat.lt_of_lt_of_le hsl hs5))).trans p0
        have v1 := (World.cell?_of_block (Below.heap_alloc w5 (.cells #[.bool false, .int .i64 0, .int .i64 0, .int .i64 0, .bool false] 49) _ (Nat.lt_of_lt_of_le hsl hs5))).trans p1
        have v2 := (World.cell?_of_block (Below.heap_alloc w5 (.cells #[.bool false, .int .i64 0, .int .i64 0, .int .i64 0, .bool false] 49) _ (Nat.lt_of_lt_of_le hsl hs5))).trans p2
        have v3 := (World.cell?_of_block (Below.heap_alloc w5 (.cells #[.bool false, .int .i64 0, .int .i64 0, .int .i64 0, .bool false] 49) _ (Nat.lt_of_lt_of_le hsl hs5))).trans p3
        have v4 := (World.cell?_of_block (Below.heap_alloc w5 (.cells #[.bool false, .int .i64 0, .int .i64 0, .int .i64 0, .bool false] 49) _ (Nat.lt_of_lt_of_le hsl hs5))).trans p4
        have v5 := (World.cell?_of_block (Below.heap_alloc w5 (.cells #[.bool false, .int .i64 0, .int .i64 0, .int .i64 0, .bool false] 49) _ (Nat.lt_of_lt_of_le hdl hs5))).trans p5
        refine hK.out _ _ ⟨v0, v1, v2, v3, v4, v5⟩ (fun hHeld => ?_)
        clear hK K
        try simp only [Act.put, List.setIfInBounds_toArray, List.set_cons_zero, List.set_cons_succ]
        have hz : stRow (w5.alloc (.cells #[.bool false, .int .i64 0, .int .i64 0, .int .i64 0, .bool false] 49)) w5.heap.size ⟨false, 0, 0, 0, false⟩ := heap_alloc_new w5 _
        have z0 : (w5.alloc (.cells #[.bool false, .int .i64 0, .int .i64 0, .int .i64 0, .bool false] 49)).cell? ⟨w5.heap.size, 0, none⟩ = some (.bool false) := row_cells hz rfl
        have z1 : (w5.alloc (.cells #[.bool false, .int .i64 0, .int .i64 0, .int .i64 0, .bool false] 49)).cell? ⟨w5.heap.size, 1, none⟩ = some (.int .i64 0) := row_cells hz rfl
        have z2 : (w5.alloc (.cells #[.bool false, .int .i64 0, .int .i64 0, .int .i64 0, .bool false] 49)).cell? ⟨w5.heap.size, 2, none⟩ = some (.int .i64 0) := row_cells hz rfl
        have z3 : (w5.alloc (.cells #[.bool false, .int .i64 0, .int .i64 0, .int .i64 0, .bool false] 49)).cell? ⟨w5.heap.size, 3, none⟩ = some (.int .i64 0) := row_cells hz rfl
        have z4 : (w5.alloc (.cells #[.bool false, .int .i64 0, .int .i64 0, .int .i64 0, .bool false] 49)).cell? ⟨w5.heap.size, 4, none⟩ = some (.bool false) := row_cells hz rfl
        have y0 := row_warm hz 0
        have y1 := row_warm hz 1
        have y2 := row_warm hz 2
        have y3 := row_warm hz 3
        have y4 := row_warm hz 4
        refine hd_step 11 (by kernel_rfl) rfl (fun K hK => ?_)
        go_simp
        refine hK.out _ _ ⟨(World.cell?_of_block (Below.heap_alloc w5 _ _ (Nat.lt_of_lt_of_le hsl hs5))).trans p0, (World.cell?_of_block (Below.heap_alloc w5 _ _ (Nat.lt_of_lt_of_le hsl hs5))).trans p1, (World.cell?_of_block (Below.heap_alloc w5 _ _ (Nat.lt_of_lt_of_le hsl hs5))).trans p2, (World.cell?_of_block (Below.heap_alloc w5 _ _ (Nat.lt_of_lt_of_le hsl hs5))).trans p3, (World.cell?_of_block (Below.heap_alloc w5 _ _ (Nat.lt_of_lt_of_le hsl hs5))).trans p4, (World.cell?_of_block (Below.heap_alloc w5 _ _ (Nat.lt_of_lt_of_le hdl hs5))).trans p5⟩ (fun hHeld => ?_)
        clear hK K
        try simp only [Act.put, List.setIfInBounds_toArray, List.set_cons_zero, List.set_cons_succ]
        refine hd_step 12 (by kernel_rfl) rfl (fun K hK => ?_)
        go_simp
        refine hK.out _ _ ⟨(World.cell?_of_block (Below.heap_alloc w5 _ _ (Nat.lt_of_lt_of_le hsl hs5))).trans p0, (World.cell?_of_block (Below.heap_alloc w5 _ _ (Nat.lt_of_lt_of_le hsl hs5))).trans p1, (World.cell?_of_block (Below.heap_alloc w5 _ _ (Nat.lt_of_lt_of_le hsl hs5))).trans p2, (World.cell?_of_block (Below.heap_alloc w5 _ _ (Nat.lt_of_lt_of_le hsl hs5))).trans p3, (World.cell?_of_block (Below.heap_alloc w5 _ _ (Nat.lt_of_lt_of_le hsl hs5))).trans p4, (World.cell?_of_block (Below.heap_alloc w5 _ _ (Nat.lt_of_lt_of_le hdl hs5))).trans p5⟩ (fun hHeld => ?_)
        clear hK K
        try simp only [Act.put, List.setIfInBounds_toArray, List.set_cons_zero, List.set_cons_succ]
        refine wpAnyH_done (by kernel_rfl) ?_ _
        have hNf : stRow (w5.alloc (.cells #[.bool m0, .int .i64 m1, .int .i64 m2, .int .i64 m3, .bool m4] 49)) w5.heap.size ⟨m0, m1, m2, m3, m4⟩ := heap_alloc_new w5 _
        have hSf : stRow (w5.alloc (.cells #[.bool m0, .int .i64 m1, .int .i64 m2, .int .i64 m3, .bool m4] 49)) w2.heap.size ⟨s0, s1, s2, s3, s4⟩ := (Below.heap_alloc _ _ _ (Nat.lt_of_lt_of_le hsl hs5)).trans HR5.out
        have hBf := HB5.out.alloc HB5.out.size (.cells #[.bool m0, .int .i64 m1, .int .i64 m2, .int .i64 m3, .bool m4] 49)
        have hDf := (World.cell?_of_block (Below.heap_alloc w5 (.cells #[.bool m0, .int .i64 m1, .int .i64 m2, .int .i64 m3, .bool m4] 49) _ (Nat.lt_of_lt_of_le hdl hs5))).trans p5
        have hGe : wr.heap.size ≤ w5.heap.size := hs5
        clear hz z0 z1 z2 z3 z4 y0 y1 y2 y3 y4 v0 v1 v2 v3 v4 v5 HB5 HR5 hHeld p0 p1 p2 p3 p4 p5 hs5
        generalize w5.alloc (.cells #[.bool m0, .int .i64 m1, .int .i64 m2, .int .i64 m3, .bool m4] 49) = wf at hNf hSf hBf hDf ⊢
        generalize w5.heap.size = nb at hNf hGe ⊢
      case' refine_2 =>
        go_simp
        refine hK.out _ _ ⟨g0, g1, g2, g3, g4, g5⟩ (fun hHeld => ?_)
        clear hK K
        try simp only [Act.put, List.setIfInBounds_toArray, List.set_cons_zero, List.set_cons_succ]
        refine hd_step 6 (by kernel_rfl) rfl (fun K hK => ?_)
        go_simp
        go_at_call 40
        refine HCall.out.mono ?_
        rintro e w5 ⟨rfl, hB5⟩
        have p0 := cell_later hB5 g0
        have p1 := cell_later hB5 g1
        have p2 := cell_later hB5 g2
        have p3 := cell_later hB5 g3
        have p4 := cell_later hB5 g4
        have p5 := cell_later hB5 g5
        have hz := HZ.out.kept hB5
        have z0 : w5.cell? ⟨wr.heap.size, 0, none⟩ = some (.bool false) := row_cells hz rfl
        have z1 : w5.cell? ⟨wr.heap.size, 1, none⟩ = some (.int .i64 0) := row_cells hz rfl
        have z2 : w5.cell? ⟨wr.heap.size, 2, none⟩ = some (.int .i64 0) := row_cells hz rfl
        have z3 : w5.cell? ⟨wr.heap.size, 3, none⟩ = some (.int .i64 0) := row_cells hz rfl
        have z4 : w5.cell? ⟨wr.heap.size, 4, none⟩ = some (.bool false) := row_cells hz rfl
        have y0 := row_warm hz 0
        have y1 := row_warm hz 1
        have y2 := row_warm hz 2
        have y3 := row_warm hz 3
        have y4 := row_warm hz 4
        have HZ5 := Lib.hid hz
        have HB5 := Lib.hid ((below_dN HBz.out 1).trans (hB5.mono (below_dN HBz.out 1).size))
        have HR5 := Lib.hid (HG.out.kept hB5)
        clear hz hB5
        go_wp2_with fail
        refine hK.out _ _ ⟨p0, p1, p2, p3, p4, p5⟩ (fun hHeld => ?_)
        clear hK K
        try simp only [Act.put, List.setIfInBounds_toArray, List.set_cons_zero, List.set_cons_succ]
        refine hd_take 7 rfl (by kernel_rfl) (by kernel_rfl) (by kernel_rfl) (fun _ _ _ h => h) (by rfl) (by intro w hSw; (try dsimp only at hSw); go_split_ands; go_simp; first | done | with_reducible rfl) hHeld ?_
        simp only [Act.put, List.setIfInBounds_toArray, List.set_cons_zero, List.set_cons_succ]
        refine hd_take 8 rfl (by kernel_rfl) (by kernel_rfl) (by kernel_rfl) (fun _ _ _ h => h) (by rfl) (by intro w hSw; (try dsimp only at hSw); go_split_ands; go_simp; first | done | with_reducible rfl) hHeld ?_
        simp only [Act.put, List.setIfInBounds_toArray, List.set_cons_zero, List.set_cons_succ]
        refine hd_take 9 rfl (by kernel_rfl) (by kernel_rfl) (by kernel_rfl) (fun _ _ _ h => h) (by rfl) (by intro w hSw; (try dsimp only at hSw); go_split_ands; go_simp; first | done | with_reducible rfl) hHeld ?_
        simp only [Act.put, List.setIfInBounds_toArray, List.set_cons_zero, List.set_cons_succ]
        refine hd_step 11 (by kernel_rfl) rfl (fun K hK => ?_)
        go_simp
        refine hK.out _ _ ⟨set5_other p0 hne1, set5_other p1 hne1, set5_other p2 hne1, set5_other p3 hne1, set5_other p4 hne1, set5_other p5 hne2⟩ (fun hHeld => ?_)
        clear hK K
        try simp only [Act.put, List.setIfInBounds_toArray, List.set_cons_zero, List.set_cons_succ]
        refine hd_step 12 (by kernel_rfl) rfl (fun K hK => ?_)
        go_simp
        refine hK.out _ _ ⟨set5_other p0 hne1, set5_other p1 hne1, set5_other p2 hne1, set5_other p3 hne1, set5_other p4 hne1, set5_other p5 hne2⟩ (fun hHeld => ?_)
        clear hK K
        try simp only [Act.put, List.setIfInBounds_toArray, List.set_cons_zero, List.set_cons_succ]
        refine wpAnyH_done (by kernel_rfl) ?_ _
        have hNf : stRow (((((w5.setCell ⟨wr.heap.size, 0, none⟩ (.bool m0)).setCell ⟨wr.heap.size, 1, none⟩ (.int .i64 m1)).setCell ⟨wr.heap.size, 2, none⟩ (.int .i64 m2)).setCell ⟨wr.heap.size, 3, none⟩ (.int .i64 m3)).setCell ⟨wr.heap.size, 4, none⟩ (.bool m4)) wr.heap.size ⟨m0, m1, m2, m3, m4⟩ := stRow_set HZ5.out ⟨m0, m1, m2, m3, m4⟩
        have hSf : stRow (((((w5.setCell ⟨wr.heap.size, 0, none⟩ (.bool m0)).setCell ⟨wr.heap.size, 1, none⟩ (.int .i64 m1)).setCell ⟨wr.heap.size, 2, none⟩ (.int .i64 m2)).setCell ⟨wr.heap.size, 3, none⟩ (.int .i64 m3)).setCell ⟨wr.heap.size, 4, none⟩ (.bool m4)) w2.heap.size ⟨s0, s1, s2, s3, s4⟩ := stRow_far HR5.out (fun e => hne1 e.symm)
        have hBf : Below wr.heap.size wr (((((w5.setCell ⟨wr.heap.size, 0, none⟩ (.bool m0)).setCell ⟨wr.heap.size, 1, none⟩ (.int .i64 m1)).setCell ⟨wr.heap.size, 2, none⟩ (.int .i64 m2)).setCell ⟨wr.heap.size, 3, none⟩ (.int .i64 m3)).setCell ⟨wr.heap.size, 4, none⟩ (.bool m4)) := below_set5 HB5.out HBr.out.size
        have hDf : (((((w5.setCell ⟨wr.heap.size, 0, none⟩ (.bool m0)).setCell ⟨wr.heap.size, 1, none⟩ (.int .i64 m1)).setCell ⟨wr.heap.size, 2, none⟩ (.int .i64 m2)).setCell ⟨wr.heap.size, 3, none⟩ (.int .i64 m3)).setCell ⟨wr.heap.size, 4, none⟩ (.bool m4)).cell? ⟨b0, off + k, none⟩ = some (.int .i32 x) := set5_other p5 hne2
        clear z0 z1 z2 z3 z4 y0 y1 y2 y3 y4 HB5 HR5 HZ5 hHeld p0 p1 p2 p3 p4 p5
        generalize (((((w5.setCell ⟨wr.heap.size, 0, none⟩ (.bool m0)).setCell ⟨wr.heap.size, 1, none⟩ (.int .i64 m1)).setCell ⟨wr.heap.size, 2, none⟩ (.int .i64 m2)).setCell ⟨wr.heap.size, 3, none⟩ (.int .i64 m3)).setCell ⟨wr.heap.size, 4, none⟩ (.bool m4)) = wf at hNf hSf hBf hDf ⊢
        obtain ⟨nb, hnb⟩ : ∃ nb, nb = wr.heap.size := ⟨_, rfl⟩
        have hGe : wr.heap.size ≤ nb := Nat.le_of_eq hnb.symm
        rw [← hnb] at hNf ⊢
        clear hnb
      all_goals
        have HNf := Lib.hid hNf
        have HSf := Lib.hid hSf
        have HBf := Lib.hid hBf
        clear c0 c1 c2 c3 c4 d0 g0 g1 g2 g3 g4 g5 HG HZ hne1 hne2 HCall HCallA HBz hsl hdl
        clear hNf hSf
        have HTf := Lib.hid (HTr.out.below hBf)
        have hR : stRow wf (w2.heap.size + 1) ⟨s0, s1, s2, s3, s4⟩ := HUs.out.kept hBf
        have HUf := Lib.hid hR
        have d0 := hDf
        clear hBf hDf
        have HBff := Lib.hid (Below.refl wf.heap.size wf)
        go_wp2_with fail
        have c0 : wf.cell? ⟨(w2.heap.size + 1), 0, none⟩ = some (.bool s0) := row_cells hR rfl
        have c1 : wf.cell? ⟨(w2.heap.size + 1), 1, none⟩ = some (.int .i64 s1) := row_cells hR rfl
        have c2 : wf.cell? ⟨(w2.heap.size + 1), 2, none⟩ = some (.int .i64 s2) := row_cells hR rfl
        have c3 : wf.cell? ⟨(w2.heap.size + 1), 3, none⟩ = some (.int .i64 s3) := row_cells hR rfl
        have c4 : wf.cell? ⟨(w2.heap.size + 1), 4, none⟩ = some (.bool s4) := row_cells hR rfl
        have HBz := Lib.hid (HBff.out.alloc HBff.out.size (.cells #[.bool false, .int .i64 0, .int .i64 0, .int .i64 0, .bool false] 49))
        have HCall := Lib.hid (step_any ⟨s0, s1, s2, s3, s4⟩ x (wf.alloc (.cells #[.bool false, .int .i64 0, .int .i64 0, .int .i64 0, .bool false] 49)).drew ((HTf.out.below HBz.out).below (below_dN (.refl _ _) 1)) HI.out)
        have HCallA := Lib.hid (step_any ⟨s0, s1, s2, s3, s4⟩ x wf.drew ((HTf.out.below HBff.out).below (below_dN (.refl _ _) 1)) HI.out)
        have hsl := HUf.out.lt
        have hdl : b0 < wf.heap.size := World.block_lt_of_cell? wf _ d0
        have g0 : (wf.alloc (.cells #[.bool false, .int .i64 0, .int .i64 0, .int .i64 0, .bool false] 49)).drew.cell? ⟨(w2.heap.size + 1), 0, none⟩ = some (.bool s0) := (World.cell?_of_block (Below.heap_alloc _ _ _ hsl)).trans c0
        have g1 : (wf.alloc (.cells #[.bool false, .int .i64 0, .int .i64 0, .int .i64 0, .bool false] 49)).drew.cell? ⟨(w2.heap.size + 1), 1, none⟩ = some (.int .i64 s1) := (World.cell?_of_block (Below.heap_alloc _ _ _ hsl)).trans c1
        have g2 : (wf.alloc (.cells #[.bool false, .int .i64 0, .int .i64 0, .int .i64 0, .bool false] 49)).drew.cell? ⟨(w2.heap.size + 1), 2, none⟩ = some (.int .i64 s2) := (World.cell?_of_block (Below.heap_alloc _ _ _ hsl)).trans c2
        have g3 : (wf.alloc (.cells #[.bool false, .int .i64 0, .int .i64 0, .int .i64 0, .bool false] 49)).drew.cell? ⟨(w2.heap.size + 1), 3, none⟩ = some (.int .i64 s3) := (World.cell?_of_block (Below.heap_alloc _ _ _ hsl)).trans c3
        have g4 : (wf.alloc (.cells #[.bool false, .int .i64 0, .int .i64 0, .int .i64 0, .bool false] 49)).drew.cell? ⟨(w2.heap.size + 1), 4, none⟩ = some (.bool s4) := (World.cell?_of_block (Below.heap_alloc _ _ _ hsl)).trans c4
        have g5 : (wf.alloc (.cells #[.bool false, .int .i64 0, .int .i64 0, .int .i64 0, .bool false] 49)).drew.cell? ⟨b0, off + k, none⟩ = some (.int .i32 x) := (World.cell?_of_block (Below.heap_alloc _ _ _ hdl)).trans d0
        have HG := Lib.hid (show stRow (wf.alloc (.cells #[.bool false, .int .i64 0, .int .i64 0, .int .i64 0, .bool false] 49)).drew (w2.heap.size + 1) ⟨s0, s1, s2, s3, s4⟩ from (Below.heap_alloc _ _ _ hsl).trans HUf.out)
        have HZ := Lib.hid (show stRow (wf.alloc (.cells #[.bool false, .int .i64 0, .int .i64 0, .int .i64 0, .bool false] 49)).drew wf.heap.size ⟨false, 0, 0, 0, false⟩ from heap_alloc_new wf _)
        have hne1 : wf.heap.size ≠ (w2.heap.size + 1) := by omega
        have hne2 : wf.heap.size ≠ b0 := by omega
        clear hR
        unfold stV at HCall HCallA
        dsimp only at HCall HCallA
        rw [HNk.out, HCk.out] at HCall HCallA
        dsimp only at HCall HCallA
        go_wp2_with fail
        refine wp_region_held_drew (S := fun w' => w'.cell? ⟨(w2.heap.size + 1), 0, none⟩ = some (.bool s0) ∧ w'.cell? ⟨(w2.heap.size + 1), 1, none⟩ = some (.int .i64 s1) ∧ w'.cell? ⟨(w2.heap.size + 1), 2, none⟩ = some (.int .i64 s2) ∧ w'.cell? ⟨(w2.heap.size + 1), 3, none⟩ = some (.int .i64 s3) ∧ w'.cell? ⟨(w2.heap.size + 1), 4, none⟩ = some (.bool s4) ∧ w'.cell? ⟨b0, off + k, none⟩ = some (.int .i32 x)) (by kernel_rfl) ⟨c0, c1, c2, c3, c4, d0⟩ (fun hHeld => ?_)
        refine hd_take 0 rfl (by kernel_rfl) (by kernel_rfl) (by kernel_rfl) (fun _ _ _ h => h) (by rfl) (by intro w hSw; (try dsimp only at hSw); go_split_ands; go_simp; first | done | with_reducible rfl) hHeld ?_
        simp only [Act.put, List.setIfInBounds_toArray, List.set_cons_zero, List.set_cons_succ]
        refine hd_take 1 rfl (by kernel_rfl) (by kernel_rfl) (by kernel_rfl) (fun _ _ _ h => h) (by rfl) (by intro w hSw; (try dsimp only at hSw); go_split_ands; go_simp; first | done | with_reducible rfl) hHeld ?_
        simp only [Act.put, List.setIfInBounds_toArray, List.set_cons_zero, List.set_cons_succ]
        refine hd_take 2 rfl (by kernel_rfl) (by kernel_rfl) (by kernel_rfl) (fun _ _ _ h => h) (by rfl) (by intro w hSw; (try dsimp only at hSw); go_split_ands; go_simp; first | done | with_reducible rfl) hHeld ?_
        simp only [Act.put, List.setIfInBounds_toArray, List.set_cons_zero, List.set_cons_succ]
        refine hd_take 3 rfl (by kernel_rfl) (by kernel_rfl) (by kernel_rfl) (fun _ _ _ h => h) (by rfl) (by intro w hSw; (try dsimp only at hSw); go_split_ands; go_simp; first | done | with_reducible rfl) hHeld ?_
        simp only [Act.put, List.setIfInBounds_toArray, List.set_cons_zero, List.set_cons_succ]
        refine hd_take 4 rfl (by kernel_rfl) (by kernel_rfl) (by kernel_rfl) (fun _ _ _ h => h) (by rfl) (by intro w hSw; (try dsimp only at hSw); go_split_ands; go_simp; first | done | with_reducible rfl) hHeld ?_
        simp only [Act.put, List.setIfInBounds_toArray, List.set_cons_zero, List.set_cons_succ]
        refine hd_take 5 rfl (by kernel_rfl) (by kernel_rfl) (by kernel_rfl) (fun _ _ _ h => h) (by rfl) (by intro w hSw; (try dsimp only at hSw); go_split_ands; go_simp; first | done | with_reducible rfl) hHeld ?_
        simp only [Act.put, List.setIfInBounds_toArray, List.set_cons_zero, List.set_cons_succ]
        refine hd_two 6 10 (by kernel_rfl) rfl rfl (fun K hK => ?_) (fun K hK => ?_)
        case' refine_1 =>
          go_simp
          go_at_call 40
          refine HCallA.out.mono ?_
          rintro e w5 ⟨rfl, hB5⟩
          have p0 := cell_later hB5 (show wf.drew.cell? _ = _ from c0)
          have p1 := cell_later hB5 (show wf.drew.cell? _ = _ from c1)
          have p2 := cell_later hB5 (show wf.drew.cell? _ = _ from c2)
          have p3 := cell_later hB5 (show wf.drew.cell? _ = _ from c3)
          have p4 := cell_later hB5 (show wf.drew.cell? _ = _ from c4)
          have p5 := cell_later hB5 (show wf.drew.cell? _ = _ from d0)
          have hs5 : wf.heap.size ≤ w5.heap.size := hB5.size
          have HB5 := Lib.hid ((below_dN HBff.out 1).trans (hB5.mono (below_dN HBff.out 1).size))
          have HR5 := Lib.hid (stRow.kept (show stRow wf.drew (w2.heap.size + 1) _ from HUf.out) hB5)
          clear hB5
          go_wp2_with fail
          refine hK.out _ _ ⟨p0, p1, p2, p3, p4, p5⟩ (fun hHeld => ?_)
          clear hK K
          try simp only [Act.put, List.setIfInBounds_toArray, List.set_cons_zero, List.set_cons_succ]
          refine hd_take 7 rfl (by kernel_rfl) (by kernel_rfl) (by kernel_rfl) (fun _ _ _ h => h) (by rfl) (by intro w hSw; (try dsimp only at hSw); go_split_ands; go_simp; first | done | with_reducible rfl) hHeld ?_
          simp only [Act.put, List.setIfInBounds_toArray, List.set_cons_zero, List.set_cons_succ]
          refine hd_take 8 rfl (by kernel_rfl) (by kernel_rfl) (by kernel_rfl) (fun _ _ _ h => h) (by rfl) (by intro w hSw; (try dsimp only at hSw); go_split_ands; go_simp; first | done | with_reducible rfl) hHeld ?_
          simp only [Act.put, List.setIfInBounds_toArray, List.set_cons_zero, List.set_cons_succ]
          refine hd_take 9 rfl (by kernel_rfl) (by kernel_rfl) (by kernel_rfl) (fun _ _ _ h => h) (by rfl) (by intro w hSw; (try dsimp only at hSw); go_split_ands; go_simp; first | done | with_reducible rfl) hHeld ?_
          simp only [Act.put, List.setIfInBounds_toArray, List.set_cons_zero, List.set_cons_succ]
          refine hd_step 10 (by kernel_rfl) rfl (fun K hK => ?_)
          go_simp
          have v0 := (World.cell?_of_block (Below.heap_alloc w5 (.cells #[.bool false, .int .i64 0, .int .i64 0, .int .i64 0, .bool false] 49) _ (Nat.lt_of_lt_of_le hsl hs5))).trans p0
          have v1 := (World.cell?_of_block (Below.heap_alloc w5 (.cells #[.bool false, .int .i64 0, .int .i64 0, .int .i64 0, .bool false] 49) _ (Nat.lt_of_lt_of_le hsl hs5))).trans p1
          have v2 := (World.cell?_of_block (Below.heap_alloc w5 (.cells #[.bool false, .int .i64 0, .int .i64 0, .int .i64 0, .bool false] 49) _ (Nat.lt_of_lt_of_le hsl hs5))).trans p2
          have v3 := (World.cell?_of_block (Below.heap_alloc w5 (.cells #[.bool false, .int .i64 0, .int .i64 0, .int .i64 0, .bool false] 49) _ (Nat.lt_of_lt_of_le hsl hs5))).trans p3
          have v4 := (World.cell?_of_block (Below.heap_alloc w5 (.cells #[.bool false, .int .i64 0, .int .i64 0, .int .i64 0, .bool false] 49) _ (Nat.lt_of_lt_of_le hsl hs5))).trans p4
          have v5 := (World.cell?_of_block (Below.heap_alloc w5 (.cells #[.bool false, .int .i64 0, .int .i64 0, .int .i64 0, .bool false] 49) _ (Nat.lt_of_lt_of_le hdl hs5))).trans p5
          refine hK.out _ _ ⟨v0, v1, v2, v3, v4, v5⟩ (fun hHeld => ?_)
          clear hK K
          try simp only [Act.put, List.setIfInBounds_toArray, List.set_cons_zero, List.set_cons_succ]
          have hz : stRow (w5.alloc (.cells #[.bool false, .int .i64 0, .int .i64 0, .int .i64 0, .bool false] 49)) w5.heap.size ⟨false, 0, 0, 0, false⟩ := heap_alloc_new w5 _
          have z0 : (w5.alloc (.cells #[.bool false, .int .i64 0, .int .i64 0, .int .i64 0, .bool false] 49)).cell? ⟨w5.heap.size, 0, none⟩ = some (.bool false) := row_cells hz rfl
          have z1 : (w5.alloc (.cells #[.bool false, .int .i64 0, .int .i64 0, .int .i64 0, .bool false] 49)).cell? ⟨w5.heap.size, 1, none⟩ = some (.int .i64 0) := row_cells hz rfl
          have z2 : (w5.alloc (.cells #[.bool false, .int .i64 0, .int .i64 0, .int .i64 0, .bool false] 49)).cell? ⟨w5.heap.size, 2, none⟩ = some (.int .i64 0) := row_cells hz rfl
          have z3 : (w5.alloc (.cells #[.bool false, .int .i64 0, .int .i64 0, .int .i64 0, .bool false] 49)).cell? ⟨w5.heap.size, 3, none⟩ = some (.int .i64 0) := row_cells hz rfl
          have z4 : (w5.alloc (.cells #[.bool false, .int .i64 0, .int .i64 0, .int .i64 0, .bool false] 49)).cell? ⟨w5.heap.size, 4, none⟩ = some (.bool false) := row_cells hz rfl
          have y0 := row_warm hz 0
          have y1 := row_warm hz 1
          have y2 := row_warm hz 2
          have y3 := row_warm hz 3
          have y4 := row_warm hz 4
          refine hd_step 11 (by kernel_rfl) rfl (fun K hK => ?_)
          go_simp
          refine hK.out _ _ ⟨(World.cell?_of_block (Below.heap_alloc w5 _ _ (Nat.lt_of_lt_of_le hsl hs5))).trans p0, (World.cell?_of_block (Below.heap_alloc w5 _ _ (Nat.lt_of_lt_of_le hsl hs5))).trans p1, (World.cell?_of_block (Below.heap_alloc w5 _ _ (Nat.lt_of_lt_of_le hsl hs5))).trans p2, (World.cell?_of_block (Below.heap_alloc w5 _ _ (Nat.lt_of_lt_of_le hsl hs5))).trans p3, (World.cell?_of_block (Below.heap_alloc w5 _ _ (Nat.lt_of_lt_of_le hsl hs5))).trans p4, (World.cell?_of_block (Below.heap_alloc w5 _ _ (Nat.lt_of_lt_of_le hdl hs5))).trans p5⟩ (fun hHeld => ?_)
          clear hK K
          try simp only [Act.put, List.setIfInBounds_toArray, List.set_cons_zero, List.set_cons_succ]
          refine hd_step 12 (by kernel_rfl) rfl (fun K hK => ?_)
          go_simp
          refine hK.out _ _ ⟨(World.cell?_of_block (Below.heap_alloc w5 _ _ (Nat.lt_of_lt_of_le hsl hs5))).trans p0, (World.cell?_of_block (Below.heap_alloc w5 _ _ (Nat.lt_of_lt_of_le hsl hs5))).trans p1, (World.cell?_of_block (Below.heap_alloc w5 _ _ (Nat.lt_of_lt_of_le hsl hs5))).trans p2, (World.cell?_of_block (Below.heap_alloc w5 _ _ (Nat.lt_of_lt_of_le hsl hs5))).trans p3, (World.cell?_of_block (Below.heap_alloc w5 _ _ (Nat.lt_of_lt_of_le hsl hs5))).trans p4, (World.cell?_of_block (Below.heap_alloc w5 _ _ (Nat.lt_of_lt_of_le hdl hs5))).trans p5⟩ (fun hHeld => ?_)
          clear hK K
          try simp only [Act.put, List.setIfInBounds_toArray, List.set_cons_zero, List.set_cons_succ]
          refine wpAnyH_done (by kernel_rfl) ?_ _
          have hNg : stRow (w5.alloc (.cells #[.bool m0, .int .i64 m1, .int .i64 m2, .int .i64 m3, .bool m4] 49)) w5.heap.size ⟨m0, m1, m2, m3, m4⟩ := heap_alloc_new w5 _
          have hSg : stRow (w5.alloc (.cells #[.bool m0, .int .i64 m1, .int .i64 m2, .int .i64 m3, .bool m4] 49)) (w2.heap.size + 1) ⟨s0, s1, s2, s3, s4⟩ := (Below.heap_alloc _ _ _ (Nat.lt_of_lt_of_le hsl hs5)).trans HR5.out
          have hBg := HB5.out.alloc HB5.out.size (.cells #[.bool m0, .int .i64 m1, .int .i64 m2, .int .i64 m3, .bool m4] 49)
          have hDg := (World.cell?_of_block (Below.heap_alloc w5 (.cells #[.bool m0, .int .i64 m1, .int .i64 m2, .int .i64 m3, .bool m4] 49) _ (Nat.lt_of_lt_of_le hdl hs5))).trans p5
          have hGf : wf.heap.size ≤ w5.heap.size := hs5
          clear hz z0 z1 z2 z3 z4 y0 y1 y2 y3 y4 v0 v1 v2 v3 v4 v5 HB5 HR5 hHeld p0 p1 p2 p3 p4 p5 hs5
          generalize w5.alloc (.cells #[.bool m0, .int .i64 m1, .int .i64 m2, .int .i64 m3, .bool m4] 49) = wg at hNg hSg hBg hDg ⊢
          generalize w5.heap.size = nc at hNg hGf ⊢
        case' refine_2 =>
          go_simp
          refine hK.out _ _ ⟨g0, g1, g2, g3, g4, g5⟩ (fun hHeld => ?_)
          clear hK K
          try simp only [Act.put, List.setIfInBounds_toArray, List.set_cons_zero, List.set_cons_succ]
          refine hd_step 6 (by kernel_rfl) rfl (fun K hK => ?_)
          go_simp
          go_at_call 40
          refine HCall.out.mono ?_
          rintro e w5 ⟨rfl, hB5⟩
          have p0 := cell_later hB5 g0
          have p1 := cell_later hB5 g1
          have p2 := cell_later hB5 g2
          have p3 := cell_later hB5 g3
          have p4 := cell_later hB5 g4
          have p5 := cell_later hB5 g5
          have hz := HZ.out.kept hB5
          have z0 : w5.cell? ⟨wf.heap.size, 0, none⟩ = some (.bool false) := row_cells hz rfl
          have z1 : w5.cell? ⟨wf.heap.size, 1, none⟩ = some (.int .i64 0) := row_cells hz rfl
          have z2 : w5.cell? ⟨wf.heap.size, 2, none⟩ = some (.int .i64 0) := row_cells hz rfl
          have z3 : w5.cell? ⟨wf.heap.size, 3, none⟩ = some (.int .i64 0) := row_cells hz rfl
          have z4 : w5.cell? ⟨wf.heap.size, 4, none⟩ = some (.bool false) := row_cells hz rfl
          have y0 := row_warm hz 0
          have y1 := row_warm hz 1
          have y2 := row_warm hz 2
          have y3 := row_warm hz 3
          have y4 := row_warm hz 4
          have HZ5 := Lib.hid hz
          have HB5 := Lib.hid ((below_dN HBz.out 1).trans (hB5.mono (below_dN HBz.out 1).size))
          have HR5 := Lib.hid (HG.out.kept hB5)
          clear hz hB5
          go_wp2_with fail
          refine hK.out _ _ ⟨p0, p1, p2, p3, p4, p5⟩ (fun hHeld => ?_)
          clear hK K
          try simp only [Act.put, List.setIfInBounds_toArray, List.set_cons_zero, List.set_cons_succ]
          refine hd_take 7 rfl (by kernel_rfl) (by kernel_rfl) (by kernel_rfl) (fun _ _ _ h => h) (by rfl) (by intro w hSw; (try dsimp only at hSw); go_split_ands; go_simp; first | done | with_reducible rfl) hHeld ?_
          simp only [Act.put, List.setIfInBounds_toArray, List.set_cons_zero, List.set_cons_succ]
          refine hd_take 8 rfl (by kernel_rfl) (by kernel_rfl) (by kernel_rfl) (fun _ _ _ h => h) (by rfl) (by intro w hSw; (try dsimp only at hSw); go_split_ands; go_simp; first | done | with_reducible rfl) hHeld ?_
          simp only [Act.put, List.setIfInBounds_toArray, List.set_cons_zero, List.set_cons_succ]
          refine hd_take 9 rfl (by kernel_rfl) (by kernel_rfl) (by kernel_rfl) (fun _ _ _ h => h) (by rfl) (by intro w hSw; (try dsimp only at hSw); go_split_ands; go_simp; first | done | with_reducible rfl) hHeld ?_
          simp only [Act.put, List.setIfInBounds_toArray, List.set_cons_zero, List.set_cons_succ]
          refine hd_step 11 (by kernel_rfl) rfl (fun K hK => ?_)
          go_simp
          refine hK.out _ _ ⟨set5_other p0 hne1, set5_other p1 hne1, set5_other p2 hne1, set5_other p3 hne1, set5_other p4 hne1, set5_other p5 hne2⟩ (fun hHeld => ?_)
          clear hK K
          try simp only [Act.put, List.setIfInBounds_toArray, List.set_cons_zero, List.set_cons_succ]
          refine hd_step 12 (by kernel_rfl) rfl (fun K hK => ?_)
          go_simp
          refine hK.out _ _ ⟨set5_other p0 hne1, set5_other p1 hne1, set5_other p2 hne1, set5_other p3 hne1, set5_other p4 hne1, set5_other p5 hne2⟩ (fun hHeld => ?_)
          clear hK K
          try simp only [Act.put, List.setIfInBounds_toArray, List.set_cons_zero, List.set_cons_succ]
          refine wpAnyH_done (by kernel_rfl) ?_ _
          have hNg : stRow (((((w5.setCell ⟨wf.heap.size, 0, none⟩ (.bool m0)).setCell ⟨wf.heap.size, 1, none⟩ (.int .i64 m1)).setCell ⟨wf.heap.size, 2, none⟩ (.int .i64 m2)).setCell ⟨wf.heap.size, 3, none⟩ (.int .i64 m3)).setCell ⟨wf.heap.size, 4, none⟩ (.bool m4)) wf.heap.size ⟨m0, m1, m2, m3, m4⟩ := stRow_set HZ5.out ⟨m0, m1, m2, m3, m4⟩
          have hSg : stRow (((((w5.setCell ⟨wf.heap.size, 0, none⟩ (.bool m0)).setCell ⟨wf.heap.size, 1, none⟩ (.int .i64 m1)).setCell ⟨wf.heap.size, 2, none⟩ (.int .i64 m2)).setCell ⟨wf.heap.size, 3, none⟩ (.int .i64 m3)).setCell ⟨wf.heap.size, 4, none⟩ (.bool m4)) (w2.heap.size + 1) ⟨s0, s1, s2, s3, s4⟩ := stRow_far HR5.out (fun e => hne1 e.symm)
          have hBg : Below wf.heap.size wf (((((w5.setCell ⟨wf.heap.size, 0, none⟩ (.bool m0)).setCell ⟨wf.heap.size, 1, none⟩ (.int .i64 m1)).setCell ⟨wf.heap.size, 2, none⟩ (.int .i64 m2)).setCell ⟨wf.heap.size, 3, none⟩ (.int .i64 m3)).setCell ⟨wf.heap.size, 4, none⟩ (.bool m4)) := below_set5 HB5.out HBff.out.size
          have hDg : (((((w5.setCell ⟨wf.heap.size, 0, none⟩ (.bool m0)).setCell ⟨wf.heap.size, 1, none⟩ (.int .i64 m1)).setCell ⟨wf.heap.size, 2, none⟩ (.int .i64 m2)).setCell ⟨wf.heap.size, 3, none⟩ (.int .i64 m3)).setCell ⟨wf.heap.size, 4, none⟩ (.bool m4)).cell? ⟨b0, off + k, none⟩ = some (.int .i32 x) := set5_other p5 hne2
          clear z0 z1 z2 z3 z4 y0 y1 y2 y3 y4 HB5 HR5 HZ5 hHeld p0 p1 p2 p3 p4 p5
          generalize (((((w5.setCell ⟨wf.heap.size, 0, none⟩ (.bool m0)).setCell ⟨wf.heap.size, 1, none⟩ (.int .i64 m1)).setCell ⟨wf.heap.size, 2, none⟩ (.int .i64 m2)).setCell ⟨wf.heap.size, 3, none⟩ (.int .i64 m3)).setCell ⟨wf.heap.size, 4, none⟩ (.bool m4)) = wg at hNg hSg hBg hDg ⊢
          obtain ⟨nc, hnc⟩ : ∃ nc, nc = wf.heap.size := ⟨_, rfl⟩
          have hGf : wf.heap.size ≤ nc := Nat.le_of_eq hnc.symm
          rw [← hnc] at hNg ⊢
          clear hnc
        all_goals
          have HNg := Lib.hid hNg
          have HSg := Lib.hid hSg
          have HBg := Lib.hid hBg
          clear c0 c1 c2 c3 c4 d0 g0 g1 g2 g3 g4 g5 HG HZ hne1 hne2 HCall HCallA HBz hsl hdl
          have HBt := Lib.hid (HBf.out.trans (hBg.mono HBf.out.size))
          have HBA := Lib.hid (HB.out.trans (HBt.out.mono HB.out.size))
          have HRg := Lib.hid (show stRow wg w2.heap.size ⟨s0, s1, s2, s3, s4⟩ from HSf.out.kept hBg)
          have HNg2 := Lib.hid (show stRow wg nb ⟨m0, m1, m2, m3, m4⟩ from HNf.out.kept hBg)
          have hsubA : RunesIn wg (.slice (some ⟨b0, off, none⟩) (k + 1) cap) (l.take (k + 1)) := runes_take (HS2.out.below HBA.out) (by omega)
          have HBgn := Lib.hid (begins_any k (HR2.out.below HBA.out) hsubA (HOk.out.take (k + 1)) (by rw [List.length_take]; omega) (by rw [List.length_take]; omega))
          rw [← HCut.out] at HBgn
          have hub := HUs.out.lt
          have hnb0 := HNf.out.lt
          have hn1 : nb ≠ w2.heap.size := by omega
          have hn2 : nc ≠ w2.heap.size := by omega
          have hn3 : nc ≠ w2.heap.size + 1 := by omega
          have hn4 : nb ≠ w2.heap.size + 1 := by omega
          clear hBg hsubA hNg hSg hDg hGf hGe hub hnb0
          have hq := fun w => eq_state w m0 m1 m2 m3 m4
          go_wp2_with fail
          refine HBgn.out.mono ?_
          rintro e w' ⟨rfl, n9, rfl⟩
          have hE : stRow (wg.drewN n9) nb ⟨m0, m1, m2, m3, m4⟩ := HNg2.out
          have hF : stRow (wg.drewN n9) nc ⟨m0, m1, m2, m3, m4⟩ := HNg.out
          have hP : stRow (wg.drewN n9) w2.heap.size ⟨s0, s1, s2, s3, s4⟩ := HRg.out
          have hU : stRow (wg.drewN n9) (w2.heap.size + 1) ⟨s0, s1, s2, s3, s4⟩ := HSg.out
          have hBB := below_dN HBA.out n9
          clear HBgn HNg2 HNg HRg HSg HBg HBt HBA
          generalize wg.drewN n9 = wh at hE hF hP hU hBB ⊢
          have HE := Lib.hid hE
          have HF2 := Lib.hid hF
          have HP := Lib.hid hP
          have HU := Lib.hid hU
          have HBB := Lib.hid hBB
          have e0 : wh.cell? ⟨nb, 0, none⟩ = some (.bool m0) := row_cells hE rfl
          have e1 : wh.cell? ⟨nb, 1, none⟩ = some (.int .i64 m1) := row_cells hE rfl
          have e2 : wh.cell? ⟨nb, 2, none⟩ = some (.int .i64 m2) := row_cells hE rfl
          have e3 : wh.cell? ⟨nb, 3, none⟩ = some (.int .i64 m3) := row_cells hE rfl
          have e4 : wh.cell? ⟨nb, 4, none⟩ = some (.bool m4) := row_cells hE rfl
          have f0 : wh.cell? ⟨nc, 0, none⟩ = some (.bool m0) := row_cells hF rfl
          have f1 : wh.cell? ⟨nc, 1, none⟩ = some (.int .i64 m1) := row_cells hF rfl
          have f2 : wh.cell? ⟨nc, 2, none⟩ = some (.int .i64 m2) := row_cells hF rfl
          have f3 : wh.cell? ⟨nc, 3, none⟩ = some (.int .i64 m3) := row_cells hF rfl
          have f4 : wh.cell? ⟨nc, 4, none⟩ = some (.bool m4) := row_cells hF rfl
          have c0 : wh.cell? ⟨w2.heap.size, 0, none⟩ = some (.bool s0) := row_cells hP rfl
          have c1 : wh.cell? ⟨w2.heap.size, 1, none⟩ = some (.int .i64 s1) := row_cells hP rfl
          have c2 : wh.cell? ⟨w2.heap.size, 2, none⟩ = some (.int .i64 s2) := row_cells hP rfl
          have c3 : wh.cell? ⟨w2.heap.size, 3, none⟩ = some (.int .i64 s3) := row_cells hP rfl
          have c4 : wh.cell? ⟨w2.heap.size, 4, none⟩ = some (.bool s4) := row_cells hP rfl
          have y0 := row_warm hP 0
          have y1 := row_warm hP 1
          have y2 := row_warm hP 2
          have y3 := row_warm hP 3
          have y4 := row_warm hP 4
          clear hE hF hP hU hBB
          go_upto_region 13 with fail
          have hF : stRow (((((wh.setCell ⟨w2.heap.size, 0, none⟩ (.bool m0)).setCell ⟨w2.heap.size, 1, none⟩ (.int .i64 m1)).setCell ⟨w2.heap.size, 2, none⟩ (.int .i64 m2)).setCell ⟨w2.heap.size, 3, none⟩ (.int .i64 m3)).setCell ⟨w2.heap.size, 4, none⟩ (.bool m4)) nc ⟨m0, m1, m2, m3, m4⟩ := stRow_far HF2.out hn2
          have hP : stRow (((((wh.setCell ⟨w2.heap.size, 0, none⟩ (.bool m0)).setCell ⟨w2.heap.size, 1, none⟩ (.int .i64 m1)).setCell ⟨w2.heap.size, 2, none⟩ (.int .i64 m2)).setCell ⟨w2.heap.size, 3, none⟩ (.int .i64 m3)).setCell ⟨w2.heap.size, 4, none⟩ (.bool m4)) w2.heap.size ⟨m0, m1, m2, m3, m4⟩ := stRow_set HP.out ⟨m0, m1, m2, m3, m4⟩
          have hU : stRow (((((wh.setCell ⟨w2.heap.size, 0, none⟩ (.bool m0)).setCell ⟨w2.heap.size, 1, none⟩ (.int .i64 m1)).setCell ⟨w2.heap.size, 2, none⟩ (.int .i64 m2)).setCell ⟨w2.heap.size, 3, none⟩ (.int .i64 m3)).setCell ⟨w2.heap.size, 4, none⟩ (.bool m4)) (w2.heap.size + 1) ⟨s0, s1, s2, s3, s4⟩ := stRow_far HU.out (by omega)
          have hBB : Below w2.heap.size w2 (((((wh.setCell ⟨w2.heap.size, 0, none⟩ (.bool m0)).setCell ⟨w2.heap.size, 1, none⟩ (.int .i64 m1)).setCell ⟨w2.heap.size, 2, none⟩ (.int .i64 m2)).setCell ⟨w2.heap.size, 3, none⟩ (.int .i64 m3)).setCell ⟨w2.heap.size, 4, none⟩ (.bool m4)) := below_set5 HBB.out (Nat.le_refl _)
          clear e0 e1 e2 e3 e4 f0 f1 f2 f3 f4 c0 c1 c2 c3 c4 y0 y1 y2 y3 y4 HE HF2 HP HU HBB
          generalize (((((wh.setCell ⟨w2.heap.size, 0, none⟩ (.bool m0)).setCell ⟨w2.heap.size, 1, none⟩ (.int .i64 m1)).setCell ⟨w2.heap.size, 2, none⟩ (.int .i64 m2)).setCell ⟨w2.heap.size, 3, none⟩ (.int .i64 m3)).setCell ⟨w2.heap.size, 4, none⟩ (.bool m4)) = wi at hF hP hU hBB ⊢
          have HP := Lib.hid hP
          have HU := Lib.hid hU
          have HBB := Lib.hid hBB
          have f0 : wi.cell? ⟨nc, 0, none⟩ = some (.bool m0) := row_cells hF rfl
          have f1 : wi.cell? ⟨nc, 1, none⟩ = some (.int .i64 m1) := row_cells hF rfl
          have f2 : wi.cell? ⟨nc, 2, none⟩ = some (.int .i64 m2) := row_cells hF rfl
          have f3 : wi.cell? ⟨nc, 3, none⟩ = some (.int .i64 m3) := row_cells hF rfl
          have f4 : wi.cell? ⟨nc, 4, none⟩ = some (.bool m4) := row_cells hF rfl
          have c0 : wi.cell? ⟨(w2.heap.size + 1), 0, none⟩ = some (.bool s0) := row_cells hU rfl
          have c1 : wi.cell? ⟨(w2.heap.size + 1), 1, none⟩ = some (.int .i64 s1) := row_cells hU rfl
          have c2 : wi.cell? ⟨(w2.heap.size + 1), 2, none⟩ = some (.int .i64 s2) := row_cells hU rfl
          have c3 : wi.cell? ⟨(w2.heap.size + 1), 3, none⟩ = some (.int .i64 s3) := row_cells hU rfl
          have c4 : wi.cell? ⟨(w2.heap.size + 1), 4, none⟩ = some (.bool s4) := row_cells hU rfl
          have y0 := row_warm hU 0
          have y1 := row_warm hU 1
          have y2 := row_warm hU 2
          have y3 := row_warm hU 3
          have y4 := row_warm hU 4
          clear hF hP hU hBB
          go_wp2_with fail
          go_roundw
          case rel => exact ⟨k + 1, ⟨m0, m1, m2, m3, m4⟩, by omega, by go_num, below_set5 HBB.out (by omega), stRow_far HP.out (by omega), stRow_set HU.out ⟨m0, m1, m2, m3, m4⟩, HNxt.out⟩
          case measure => simp [intOf] <;> omega
    · have hke : k = l.length := by omega
      subst hke
      clear hlt hk
      go_wp2_with fail
      refine (fin10 (below_trans' HB2.out HB.out)).mono ?_
      rintro e w9 ⟨rfl, hB9⟩
      go_wp2_with fail
      go_ret
      exact ⟨rfl, hB9⟩
end Go.Proofs.Ytamgngkiegbglaa
