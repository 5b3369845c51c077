/- Joined texts: Awake SegF SegH SegG SegI App2 GlyD GlyE GlyG GlyF SegJ SegK FewR OpenT. -/
import Derived.Deep.RegionHeld3
import Derived.Lib.AppendStr
import Derived.Laws.Concat
import Derived.Deep.DeepCutAuto
import Derived.Test.YtkeainhjghdfcaaGreatCwbc
import Derived.Test.YtkeainhjghdfcaaGreatCwax
import Derived.Test.YtkeainhjghdfcaaGreatCwaz
import Derived.Test.YtkeainhjghdfcaaGreatCwab
import Derived.Test.YtkeainhjghdfcaaGreatCwaa
import Derived.Test.YtkeainhjghdfcaaGreatCwad

/- Chapter 4's examples. -/
namespace Go.Proofs.YtkeainhjghdfcaaGreat
open Go.RowKit

theorem wrap32_id {n : Int} (h0 : 0 ≤ n) (h1 : n ≤ 1114111) : wrap32 n = n := by unfold wrap32; omega
/-- what a row of pairs says -/
theorem RFacts.pair {R : List Rw} (h : RFacts R) {r : Int} {x : Rw} (hx : fnd R 2 r = some x) : x ∈ R ∧ x.k = 2 ∧ x.f = r ∧ pairR R r = (x.a, x.b) ∧ 1 ≤ x.a ∧ x.a ≤ 1114111 ∧ 0 ≤ x.b ∧ x.b ≤ 1114111 ∧ 0 ≤ r ∧ r ≤ 1114111 := by
  obtain ⟨h1, h2, h3, h4, h5, h6⟩ := fnd_mem hx
  obtain ⟨p1, p2, p3, p4, p5, p6, p7, p8⟩ := h.prs x h1 h2
  refine ⟨h1, h2, by omega, ?_, p4, p5, p6, p7, h5, h6⟩
  unfold pairR
  rw [hx]
  dsimp only
  rw [wrap32_id (by omega) p5, wrap32_id p6 p7]
theorem RFacts.made {R : List Rw} (h : RFacts R) {f : Pr → Option Int} {g : Int → Option Bool} (hm : MadeOn R 1114112 f g) : f (101, 769) = some 233 := by
  refine (hm.f _ _).2 ⟨?_, by decide, h.p233, h.o233, fun r' hd hl hp => ?_⟩
  · cases hx : fnd R 2 233 with
    | some x => exact ⟨x, hx⟩
    | none =>
      have := h.p233
      unfold pairR at this
      rw [hx] at this
      cases this
  · obtain ⟨x, hx⟩ := hd
    obtain ⟨h1, h2, h3, h4, _⟩ := h.pair hx
    rw [h4] at hp
    have e1 : x.a = 101 := congrArg Prod.fst hp
    have e2 : x.b = 769 := congrArg Prod.snd hp
    have := h.one x h1 h2 e1 e2
    omega
end Go.Proofs.YtkeainhjghdfcaaGreat

/- Few; chapter 10's examples; SegStarts: its walk. -/
namespace Go.Proofs.YtkeainhjghdfcaaGreat
open Go.RowKit

theorem runes_sub {w : World} {b off cap : Nat} {l : List Int} (h : RunesIn w (.slice (some ⟨b, off, none⟩) l.length cap) l) {i j : Nat} (hij : i ≤ j) (hj : j ≤ l.length) (hb : b < w.heap.size) : RunesIn w (.slice (some ⟨b, off + i, none⟩) (j - i) (cap - i)) ((l.take j).drop i) := by
  obtain ⟨a', cap', hv, h1, h2, h3, h4⟩ := h
  cases hv
  have hl : ((l.take j).drop i).length = j - i := by rw [List.length_drop, List.length_take]; omega
  refine ⟨some ⟨b, off + i, none⟩, cap - i, by rw [hl], by omega, by omega, by rw [flat_len runeE_len], fun hn => ⟨b, off + i, rfl, hb, fun k u hu => ?_⟩⟩
  obtain ⟨b', off', e, _, hq⟩ := h4 (by omega)
  cases e
  obtain ⟨q, x, hx, m, hm, rfl, hu'⟩ := flat_index runeE_len ((l.take j).drop i) k u hu
  have hx' : l[i + q]? = some x := by
    rw [List.getElem?_drop, List.getElem?_take] at hx
    split at hx
    · exact hx
    · cases hx
  have := hq ((i + q) * 1 + m) u (flat_get runeE_len l (i + q) x m u hx' hu')
  rw [show off + i + (q * 1 + m) = off + ((i + q) * 1 + m) by omega]
  exact this
theorem runes_take {w : World} {a : Option Addr} {cap : Nat} {l : List Int} (h : RunesIn w (.slice a l.length cap) l) {k : Nat} (hk : k ≤ l.length) : RunesIn w (.slice a k cap) (l.take k) := by
  obtain ⟨a', cap', hv, h1, h2, h3, h4⟩ := h
  cases hv
  have hl : (l.take k).length = k := by rw [List.length_take]; omega
  refine ⟨a, cap, by rw [hl], by omega, h2, by rw [flat_len runeE_len], fun hn => ?_⟩
  obtain ⟨b, off, e, hb, hq⟩ := h4 (by omega)
  refine ⟨b, off, e, hb, fun j u hu => hq j u ?_⟩
  obtain ⟨i, x, hx, m, hm, rfl, hu'⟩ := flat_index runeE_len (l.take k) j u hu
  have hx' : l[i]? = some x := by
    rw [List.getElem?_take] at hx
    split at hx
    · exact hx
    · cases hx
  exact flat_get runeE_len l i x m u hx' hu'
theorem RunesOk.take {l : List Int} (h : RunesOk l) (k : Nat) : RunesOk (l.take k) := fun x hx => h x (List.mem_of_mem_take hx)
theorem RunesOk.drop {l : List Int} (h : RunesOk l) (k : Nat) : RunesOk (l.drop k) := fun x hx => h x (List.mem_of_mem_drop hx)
theorem below1 (w : World) (o : Obj) : Below w.heap.size w (w.alloc o) := (Below.refl _ w).alloc (Nat.le_refl _) o
end Go.Proofs.YtkeainhjghdfcaaGreat

/- seg.Next. -/
namespace Go.Proofs.YtkeainhjghdfcaaGreat
open Go.RowKit

theorem runLen_step {T : Tab} {st : St} {s : List Int} {k : Nat} {x : Int} (hx : s[k]? = some x) : runLen T st (s.drop k) = if cutB T st x then 0 else runLen T (nextSt T st x) (s.drop (k + 1)) + 1 := by
  rw [drop_of_get hx]; rfl
theorem set5_other {w : World} {b : Nat} {u0 u1 u2 u3 u4 v : Value} {a : Addr} (h : w.cell? a = some v) (hne : b ≠ a.block) : (((((w.setCell ⟨b, 0, none⟩ u0).setCell ⟨b, 1, none⟩ u1).setCell ⟨b, 2, none⟩ u2).setCell ⟨b, 3, none⟩ u3).setCell ⟨b, 4, none⟩ u4).cell? a = some v := by
  rw [World.cell?_setCell_far _ _ _ _ hne, World.cell?_setCell_far _ _ _ _ hne, World.cell?_setCell_far _ _ _ _ hne, World.cell?_setCell_far _ _ _ _ hne, World.cell?_setCell_far _ _ _ _ hne]; exact h
theorem stRow_far {w : World} {b c : Nat} {u0 u1 u2 u3 u4 : Value} {st : St} (h : stRow w c st) (hne : c ≠ b) : stRow (((((w.setCell ⟨b, 0, none⟩ u0).setCell ⟨b, 1, none⟩ u1).setCell ⟨b, 2, none⟩ u2).setCell ⟨b, 3, none⟩ u3).setCell ⟨b, 4, none⟩ u4) c st := by
  unfold stRow at h ⊢
  rw [Below.heap_setCell _ _ _ _ hne, Below.heap_setCell _ _ _ _ hne, Below.heap_setCell _ _ _ _ hne, Below.heap_setCell _ _ _ _ hne, Below.heap_setCell _ _ _ _ hne]; exact h
theorem below_set5 {B : Nat} {w w' : World} {b : Nat} {u0 u1 u2 u3 u4 : Value} (h : Below B w w') (hb : B ≤ b) : Below B w (((((w'.setCell ⟨b, 0, none⟩ u0).setCell ⟨b, 1, none⟩ u1).setCell ⟨b, 2, none⟩ u2).setCell ⟨b, 3, none⟩ u3).setCell ⟨b, 4, none⟩ u4) :=
  ((((h.setCell hb _).setCell hb _).setCell hb _).setCell hb _).setCell hb _
section
variable {R : List Rw} {s : List Int} {w : World} {sv : Value} {tp : Nat}
set_option maxRecDepth 100000 in
set_option maxHeartbeats 8000000 in
theorem next_any (i : Nat) (hT : Tb R w tp) (hs : RunesIn w sv s) (ok : RunesOk s) (hi : i < s.length) (_ : s.length ≤ 1000000) :
    Calls Tryz.prog 149 #[.pointer (some ⟨tp, 0, none⟩), sv, .int .i64 (i : Nat)] w fun e w' => e = .returned (.int .i64 ((i + nx (tabOf R) (s.drop i) : Nat) : Int)) ∧ Below w.heap.size w w' := by
  have HT := Lib.hid hT
  have HS := Lib.hid hs
  have HOk := Lib.hid ok
  obtain ⟨x, hx⟩ : ∃ x, s[i]? = some x := ⟨s[i], List.getElem?_eq_getElem hi⟩
  have HI := Lib.hid (ok.get hx)
  have HNx := Lib.hid (show nx (tabOf R) (s.drop i) = runLen (tabOf R) (nextSt (tabOf R) St0 x) (s.drop (i + 1)) + 1 by rw [drop_of_get hx]; rfl)
  obtain ⟨b0, off, cap, hv, hmax, hcap, _, _, d0⟩ := rune_cell hs hx
  subst hv
  unfold maxLen at hmax
  have q0 : decide ((i : Int) < 0) = false := by rw [decide_eq_false_iff_not]; omega
  have q1 : decide ((i : Int) ≥ (s.length : Int)) = false := by rw [decide_eq_false_iff_not]; omega
  have q1n : ¬ s.length ≤ i := by omega
  have q1d : decide (s.length ≤ i) = false := decide_eq_false q1n
  have q2 : (0 : Int) ≤ (i : Int) := by omega
  have q3 : (i : Int) < (s.length : Int) := by omega
  have q4 := IntWalk.i64_in ((i : Int) + 1) (by omega)
  have HCall := Lib.hid (step_any St0 x w hT HI.out)
  clear hT hs ok hx
  go_enter Tryz.func149, Tryz.ntmps149
  go_wp2_with fail
  refine HCall.out.mono ?_
  rintro e w1 ⟨rfl, hB1⟩
  generalize hst : nextSt (tabOf R) St0 x = st at HNx ⊢
  obtain ⟨n0, n1, n2, n3, n4⟩ := st
  unfold stV
  dsimp only
  have HB1 := Lib.hid hB1
  clear hst hB1 d0
  go_upto_region 4 with fail
  have HRw := Lib.hid (show stRow (w1.alloc (.cells #[.bool n0, .int .i64 n1, .int .i64 n2, .int .i64 n3, .bool n4] 175)) w1.heap.size ⟨n0, n1, n2, n3, n4⟩ from heap_alloc_new w1 _)
  have HB2 := Lib.hid (below_new HB1.out (.cells #[.bool n0, .int .i64 n1, .int .i64 n2, .int .i64 n3, .bool n4] 175))
  have hsb : w.heap.size ≤ w1.heap.size := HB1.out.size
  clear HB1
  generalize w1.alloc (.cells #[.bool n0, .int .i64 n1, .int .i64 n2, .int .i64 n3, .bool n4] 175) = W at HRw HB2 ⊢
  generalize w1.heap.size = sb at HRw hsb ⊢
  clear q0 q1
  go_wp2_with fail
  go_loopw [2] (fun iv wr => ∃ (k : Nat) (st : St), i + 1 ≤ k ∧ k ≤ s.length ∧ iv = .int .i64 ((k : Nat) : Int) ∧ Below w.heap.size w wr ∧ stRow wr sb st ∧ k + runLen (tabOf R) st (s.drop k) = i + nx (tabOf R) (s.drop i)) (fun iv _ => s.length - (intOf iv).toNat)
  case atStart => exact ⟨i + 1, _, Nat.le_refl _, hi, by go_num, HB2.out, HRw.out, by rw [HNx.out]; omega⟩
  case round =>
    obtain ⟨k, st, hik, hk, rfl, hB, hR, hE⟩ := hrel
    have HB := Lib.hid hB
    have HE := Lib.hid hE
    have HRr := Lib.hid hR
    clear hB hE
    by_cases hlt : k < s.length
    · obtain ⟨x, hx⟩ : ∃ x, s[k]? = some x := ⟨s[k], List.getElem?_eq_getElem hlt⟩
      have HI := Lib.hid (HOk.out.get hx)
      have HD := Lib.hid (runLen_step (T := tabOf R) (st := st) hx)
      obtain ⟨b0', off', cap', hv, _, _, _, _, d0⟩ := rune_cell (HS.out.below HB.out) hx
      cases hv
      obtain ⟨s0, s1, s2, s3, s4⟩ := st
      have c0 : wr.cell? ⟨sb, 0, none⟩ = some (.bool s0) := row_cells hR rfl
      have c1 : wr.cell? ⟨sb, 1, none⟩ = some (.int .i64 s1) := row_cells hR rfl
      have c2 : wr.cell? ⟨sb, 2, none⟩ = some (.int .i64 s2) := row_cells hR rfl
      have c3 : wr.cell? ⟨sb, 3, none⟩ = some (.int .i64 s3) := row_cells hR rfl
      have c4 : wr.cell? ⟨sb, 4, none⟩ = some (.bool s4) := row_cells hR rfl
      have HBz := Lib.hid (HB.out.alloc HB.out.size (.cells #[.bool false, .int .i64 0, .int .i64 0, .int .i64 0, .bool false] 175))
      have HCall := Lib.hid (step_any ⟨s0, s1, s2, s3, s4⟩ x (wr.alloc (.cells #[.bool false, .int .i64 0, .int .i64 0, .int .i64 0, .bool false] 175)).drew ((HT.out.below HBz.out).below (below_dN (.refl _ _) 1)) HI.out)
      have HCallA := Lib.hid (step_any ⟨s0, s1, s2, s3, s4⟩ x wr.drew ((HT.out.below HB.out).below (below_dN (.refl _ _) 1)) HI.out)
      have hsl := HRr.out.lt
      have hdl : b0 < wr.heap.size := World.block_lt_of_cell? wr _ d0
      have r1 : (0 : Int) ≤ (k : Int) := by omega
      have r2 : (k : Int) < (s.length : Int) := by omega
      have r3 := IntWalk.i64_in ((k : Int) + 1) (by omega)
      have g0 : (wr.alloc (.cells #[.bool false, .int .i64 0, .int .i64 0, .int .i64 0, .bool false] 175)).drew.cell? ⟨sb, 0, none⟩ = some (.bool s0) := (World.cell?_of_block (Below.heap_alloc _ _ _ hsl)).trans c0
      have g1 : (wr.alloc (.cells #[.bool false, .int .i64 0, .int .i64 0, .int .i64 0, .bool false] 175)).drew.cell? ⟨sb, 1, none⟩ = some (.int .i64 s1) := (World.cell?_of_block (Below.heap_alloc _ _ _ hsl)).trans c1
      have g2 : (wr.alloc (.cells #[.bool false, .int .i64 0, .int .i64 0, .int .i64 0, .bool false] 175)).drew.cell? ⟨sb, 2, none⟩ = some (.int .i64 s2) := (World.cell?_of_block (Below.heap_alloc _ _ _ hsl)).trans c2
      have g3 : (wr.alloc (.cells #[.bool false, .int .i64 0, .int .i64 0, .int .i64 0, .bool false] 175)).drew.cell? ⟨sb, 3, none⟩ = some (.int .i64 s3) := (World.cell?_of_block (Below.heap_alloc _ _ _ hsl)).trans c3
      have g4 : (wr.alloc (.cells #[.bool false, .int .i64 0, .int .i64 0, .int .i64 0, .bool false] 175)).drew.cell? ⟨sb, 4, none⟩ = some (.bool s4) := (World.cell?_of_block (Below.heap_alloc _ _ _ hsl)).trans c4
      have g5 : (wr.alloc (.cells #[.bool false, .int .i64 0, .int .i64 0, .int .i64 0, .bool false] 175)).drew.cell? ⟨b0, off + k, none⟩ = some (.int .i32 x) := (World.cell?_of_block (Below.heap_alloc _ _ _ hdl)).trans d0
      have HG := Lib.hid (show stRow (wr.alloc (.cells #[.bool false, .int .i64 0, .int .i64 0, .int .i64 0, .bool false] 175)).drew sb ⟨s0, s1, s2, s3, s4⟩ from (Below.heap_alloc _ _ _ hsl).trans HRr.out)
      have HZ := Lib.hid (show stRow (wr.alloc (.cells #[.bool false, .int .i64 0, .int .i64 0, .int .i64 0, .bool false] 175)).drew wr.heap.size ⟨false, 0, 0, 0, false⟩ from heap_alloc_new wr _)
      have hne1 : wr.heap.size ≠ sb := by omega
      have hne2 : wr.heap.size ≠ b0 := by omega
      clear hx hR
      unfold stV at HCall HCallA
      dsimp only at HCall HCallA
      generalize hn : nextSt (tabOf R) ⟨s0, s1, s2, s3, s4⟩ x = n at HD HCall HCallA
      obtain ⟨m0, m1, m2, m3, m4⟩ := n
      generalize hc : cutB (tabOf R) ⟨s0, s1, s2, s3, s4⟩ x = cu at HD HCall HCallA
      clear hn hc
      go_wp2_with fail
      refine wp_region_held_drew (S := fun w' => w'.cell? ⟨sb, 0, none⟩ = some (.bool s0) ∧ w'.cell? ⟨sb, 1, none⟩ = some (.int .i64 s1) ∧ w'.cell? ⟨sb, 2, none⟩ = some (.int .i64 s2) ∧ w'.cell? ⟨sb, 3, none⟩ = some (.int .i64 s3) ∧ w'.cell? ⟨sb, 4, none⟩ = some (.bool s4) ∧ w'.cell? ⟨b0, off + k, none⟩ = some (.int .i32 x)) (by kernel_rfl) ⟨c0, c1, c2, c3, c4, d0⟩ (fun hHeld => ?_)
      refine hd_take 0 rfl (by kernel_rfl) (by kernel_rfl) (by kernel_rfl) (fun _ _ _ h => h) (by rfl) (by intro w hSw; (try dsimp only at hSw); go_split_ands; go_simp; first | done | with_reducible rfl) hHeld ?_
      simp only [Act.put, List.setIfInBounds_toArray, List.set_cons_zero, List.set_cons_succ]
      refine hd_take 1 rfl (by kernel_rfl) (by kernel_rfl) (by kernel_rfl) (fun _ _ _ h => h) (by rfl) (by intro w hSw; (try dsimp only at hSw); go_split_ands; go_simp; first | done | with_reducible rfl) hHeld ?_
      simp only [Act.put, List.setIfInBounds_toArray, List.set_cons_zero, List.set_cons_succ]
      refine hd_take 2 rfl (by kernel_rfl) (by kernel_rfl) (by kernel_rfl) (fun _ _ _ h => h) (by rfl) (by intro w hSw; (try dsimp only at hSw); go_split_ands; go_simp; first | done | with_reducible rfl) hHeld ?_
      simp only [Act.put, List.setIfInBounds_toArray, List.set_cons_zero, List.set_cons_succ]
      refine hd_take 3 rfl (by kernel_rfl) (by kernel_rfl) (by kernel_rfl) (fun _ _ _ h => h) (by rfl) (by intro w hSw; (try dsimp only at hSw); go_split_ands; go_simp; first | done | with_reducible rfl) hHeld ?_
      simp only [Act.put, List.setIfInBounds_toArray, List.set_cons_zero, List.set_cons_succ]
      refine hd_take 4 rfl (by kernel_rfl) (by kernel_rfl) (by kernel_rfl) (fun _ _ _ h => h) (by rfl) (by intro w hSw; (try dsimp only at hSw); go_split_ands; go_simp; first | done | with_reducible rfl) hHeld ?_
      simp only [Act.put, List.setIfInBounds_toArray, List.set_cons_zero, List.set_cons_succ]
      refine hd_take 5 rfl (by kernel_rfl) (by kernel_rfl) (by kernel_rfl) (fun _ _ _ h => h) (by rfl) (by intro w hSw; (try dsimp only at hSw); go_split_ands; go_simp; first | done | with_reducible rfl) hHeld ?_
      simp only [Act.put, List.setIfInBounds_toArray, List.set_cons_zero, List.set_cons_succ]
      refine hd_two 6 10 (by kernel_rfl) rfl rfl (fun K hK => ?_) (fun K hK => ?_)
      case' refine_1 =>
        go_simp
        go_at_call 102
        refine HCallA.out.mono ?_
        rintro e w5 ⟨rfl, hB5⟩
        have p0 := cell_later hB5 (show wr.drew.cell? _ = _ from c0)
        have p1 := cell_later hB5 (show wr.drew.cell? _ = _ from c1)
        have p2 := cell_later hB5 (show wr.drew.cell? _ = _ from c2)
        have p3 := cell_later hB5 (show wr.drew.cell? _ = _ from c3)
        have p4 := cell_later hB5 (show wr.drew.cell? _ = _ from c4)
        have p5 := cell_later hB5 (show wr.drew.cell? _ = _ from d0)
        have hs5 : wr.heap.size ≤ w5.heap.size := hB5.size
        have HB5 := Lib.hid ((below_dN HB.out 1).trans (hB5.mono (below_dN HB.out 1).size))
        have HR5 := Lib.hid (stRow.kept (show stRow wr.drew sb _ from HRr.out) hB5)
        clear hB5
        go_wp2_with fail
        refine hK.out _ _ ⟨p0, p1, p2, p3, p4, p5⟩ (fun hHeld => ?_)
        clear hK K
        try simp only [Act.put, List.setIfInBounds_toArray, List.set_cons_zero, List.set_cons_succ]
        refine hd_take 7 rfl (by kernel_rfl) (by kernel_rfl) (by kernel_rfl) (fun _ _ _ h => h) (by rfl) (by intro w hSw; (try dsimp only at hSw); go_split_ands; go_simp; first | done | with_reducible rfl) hHeld ?_
        simp only [Act.put, List.setIfInBounds_toArray, List.set_cons_zero, List.set_cons_succ]
        refine hd_take 8 rfl (by kernel_rfl) (by kernel_rfl) (by kernel_rfl) (fun _ _ _ h => h) (by rfl) (by intro w hSw; (try dsimp only at hSw); go_split_ands; go_simp; first | done | with_reducible rfl) hHeld ?_
        simp only [Act.put, List.setIfInBounds_toArray, List.set_cons_zero, List.set_cons_succ]
        refine hd_take 9 rfl (by kernel_rfl) (by kernel_rfl) (by kernel_rfl) (fun _ _ _ h => h) (by rfl) (by intro w hSw; (try dsimp only at hSw); go_split_ands; go_simp; first | done | with_reducible rfl) hHeld ?_
        simp only [Act.put, List.setIfInBounds_toArray, List.set_cons_zero, List.set_cons_succ]
        refine hd_step 10 (by kernel_rfl) rfl (fun K hK => ?_)
        go_simp
        have v0 := (World.cell?_of_block (Below.heap_alloc w5 (.cells #[.bool false, .int .i64 0, .int .i64 0, .int .i64 0, .bool false] 175) _ (Nat.lt_of_lt_of_le hsl hs5))).trans p0
        have v1 := (World.cell?_of_block (Below.heap_alloc w5 (.cells #[.bool false, .int .i64 0, .int .i64 0, .int .i64 0, .bool false] 175) _ (Nat.lt_of_lt_of_le hsl hs5))).trans p1
        have v2 := (World.cell?_of_block (Below.heap_alloc w5 (.cells #[.bool false, .int .i64 0, .int .i64 0, .int .i64 0, .bool false] 175) _ (Nat.lt_of_lt_of_le hsl hs5))).trans p2
        have v3 := (World.cell?_of_block (Below.heap_alloc w5 (.cells #[.bool false, .int .i64 0, .int .i64 0, .int .i64 0, .bool false] 175) _ (Nat.lt_of_lt_of_le hsl hs5))).trans p3
        have v4 := (World.cell?_of_block (Below.heap_alloc w5 (.cells #[.bool false, .int .i64 0, .int .i64 0, .int .i64 0, .bool false] 175) _ (Nat.lt_of_lt_of_le hsl hs5))).trans p4
        have v5 := (World.cell?_of_block (Below.heap_alloc w5 (.cells #[.bool false, .int .i64 0, .int .i64 0, .int .i64 0, .bool false] 175) _ (Nat.lt_of_lt_of_le hdl hs5))).trans p5
        refine hK.out _ _ ⟨v0, v1, v2, v3, v4, v5⟩ (fun hHeld => ?_)
        clear hK K
        try simp only [Act.put, List.setIfInBounds_toArray, List.set_cons_zero, List.set_cons_succ]
        have hz : stRow (w5.alloc (.cells #[.bool false, .int .i64 0, .int .i64 0, .int .i64 0, .bool false] 175)) w5.heap.size ⟨false, 0, 0, 0, false⟩ := heap_alloc_new w5 _
        have z0 : (w5.alloc (.cells #[.bool false, .int .i64 0, .int .i64 0, .int .i64 0, .bool false] 175)).cell? ⟨w5.heap.size, 0, none⟩ = some (.bool false) := row_cells hz rfl
        have z1 : (w5.alloc (.cells #[.bool false, .int .i64 0, .int .i64 0, .int .i64 0, .bool false] 175)).cell? ⟨w5.heap.size, 1, none⟩ = some (.int .i64 0) := row_cells hz rfl
        have z2 : (w5.alloc (.cells #[.bool false, .int .i64 0, .int .i64 0, .int .i64 0, .bool false] 175)).cell? ⟨w5.heap.size, 2, none⟩ = some (.int .i64 0) := row_cells hz rfl
        have z3 : (w5.alloc (.cells #[.bool false, .int .i64 0, .int .i64 0, .int .i64 0, .bool false] 175)).cell? ⟨w5.heap.size, 3, none⟩ = some (.int .i64 0) := row_cells hz rfl
        have z4 : (w5.alloc (.cells #[.bool false, .int .i64 0, .int .i64 0, .int .i64 0, .bool false] 175)).cell? ⟨w5.heap.size, 4, none⟩ = some (.bool false) := row_cells hz rfl
        have y0 := row_warm hz 0
        have y1 := row_warm hz 1
        have y2 := row_warm hz 2
        have y3 := row_warm hz 3
        have y4 := row_warm hz 4
        refine hd_step 11 (by kernel_rfl) rfl (fun K hK => ?_)
        go_simp
        refine hK.out _ _ ⟨(World.cell?_of_block (Below.heap_alloc w5 _ _ (Nat.lt_of_lt_of_le hsl hs5))).trans p0, (World.cell?_of_block (Below.heap_alloc w5 _ _ (Nat.lt_of_lt_of_le hsl hs5))).trans p1, (World.cell?_of_block (Below.heap_alloc w5 _ _ (Nat.lt_of_lt_of_le hsl hs5))).trans p2, (World.cell?_of_block (Below.heap_alloc w5 _ _ (Nat.lt_of_lt_of_le hsl hs5))).trans p3, (World.cell?_of_block (Below.heap_alloc w5 _ _ (Nat.lt_of_lt_of_le hsl hs5))).trans p4, (World.cell?_of_block (Below.heap_alloc w5 _ _ (Nat.lt_of_lt_of_le hdl hs5))).trans p5⟩ (fun hHeld => ?_)
        clear hK K
        try simp only [Act.put, List.setIfInBounds_toArray, List.set_cons_zero, List.set_cons_succ]
        refine hd_step 12 (by kernel_rfl) rfl (fun K hK => ?_)
        go_simp
        refine hK.out _ _ ⟨(World.cell?_of_block (Below.heap_alloc w5 _ _ (Nat.lt_of_lt_of_le hsl hs5))).trans p0, (World.cell?_of_block (Below.heap_alloc w5 _ _ (Nat.lt_of_lt_of_le hsl hs5))).trans p1, (World.cell?_of_block (Below.heap_alloc w5 _ _ (Nat.lt_of_lt_of_le hsl hs5))).trans p2, (World.cell?_of_block (Below.heap_alloc w5 _ _ (Nat.lt_of_lt_of_le hsl hs5))).trans p3, (World.cell?_of_block (Below.heap_alloc w5 _ _ (Nat.lt_of_lt_of_le hsl hs5))).trans p4, (World.cell?_of_block (Below.heap_alloc w5 _ _ (Nat.lt_of_lt_of_le hdl hs5))).trans p5⟩ (fun hHeld => ?_)
        clear hK K
        try simp only [Act.put, List.setIfInBounds_toArray, List.set_cons_zero, List.set_cons_succ]
        refine wpAnyH_done (by kernel_rfl) ?_ _
        have hNf : stRow (w5.alloc (.cells #[.bool m0, .int .i64 m1, .int .i64 m2, .int .i64 m3, .bool m4] 175)) w5.heap.size ⟨m0, m1, m2, m3, m4⟩ := heap_alloc_new w5 _
        have hSf : stRow (w5.alloc (.cells #[.bool m0, .int .i64 m1, .int .i64 m2, .int .i64 m3, .bool m4] 175)) sb ⟨s0, s1, s2, s3, s4⟩ := (Below.heap_alloc _ _ _ (Nat.lt_of_lt_of_le hsl hs5)).trans HR5.out
        have hBf := HB5.out.alloc HB5.out.size (.cells #[.bool m0, .int .i64 m1, .int .i64 m2, .int .i64 m3, .bool m4] 175)
        clear hz z0 z1 z2 z3 z4 y0 y1 y2 y3 y4 v0 v1 v2 v3 v4 v5 HB5 HR5 hHeld p0 p1 p2 p3 p4 p5 hs5
        generalize w5.alloc (.cells #[.bool m0, .int .i64 m1, .int .i64 m2, .int .i64 m3, .bool m4] 175) = wf at hNf hSf hBf ⊢
        generalize w5.heap.size = nb at hNf ⊢
      case' refine_2 =>
        go_simp
        refine hK.out _ _ ⟨g0, g1, g2, g3, g4, g5⟩ (fun hHeld => ?_)
        clear hK K
        try simp only [Act.put, List.setIfInBounds_toArray, List.set_cons_zero, List.set_cons_succ]
        refine hd_step 6 (by kernel_rfl) rfl (fun K hK => ?_)
        go_simp
        go_at_call 102
        refine HCall.out.mono ?_
        rintro e w5 ⟨rfl, hB5⟩
        have p0 := cell_later hB5 g0
        have p1 := cell_later hB5 g1
        have p2 := cell_later hB5 g2
        have p3 := cell_later hB5 g3
        have p4 := cell_later hB5 g4
        have p5 := cell_later hB5 g5
        have hz := HZ.out.kept hB5
        have z0 : w5.cell? ⟨wr.heap.size, 0, none⟩ = some (.bool false) := row_cells hz rfl
        have z1 : w5.cell? ⟨wr.heap.size, 1, none⟩ = some (.int .i64 0) := row_cells hz rfl
        have z2 : w5.cell? ⟨wr.heap.size, 2, none⟩ = some (.int .i64 0) := row_cells hz rfl
        have z3 : w5.cell? ⟨wr.heap.size, 3, none⟩ = some (.int .i64 0) := row_cells hz rfl
        have z4 : w5.cell? ⟨wr.heap.size, 4, none⟩ = some (.bool false) := row_cells hz rfl
        have y0 := row_warm hz 0
        have y1 := row_warm hz 1
        have y2 := row_warm hz 2
        have y3 := row_warm hz 3
        have y4 := row_warm hz 4
        have HZ5 := Lib.hid hz
        have HB5 := Lib.hid ((below_dN HBz.out 1).trans (hB5.mono (below_dN HBz.out 1).size))
        have HR5 := Lib.hid (HG.out.kept hB5)
        clear hz hB5
        go_wp2_with fail
        refine hK.out _ _ ⟨p0, p1, p2, p3, p4, p5⟩ (fun hHeld => ?_)
        clear hK K
        try simp only [Act.put, List.setIfInBounds_toArray, List.set_cons_zero, List.set_cons_succ]
        refine hd_take 7 rfl (by kernel_rfl) (by kernel_rfl) (by kernel_rfl) (fun _ _ _ h => h) (by rfl) (by intro w hSw; (try dsimp only at hSw); go_split_ands; go_simp; first | done | with_reducible rfl) hHeld ?_
        simp only [Act.put, List.setIfInBounds_toArray, List.set_cons_zero, List.set_cons_succ]
        refine hd_take 8 rfl (by kernel_rfl) (by kernel_rfl) (by kernel_rfl) (fun _ _ _ h => h) (by rfl) (by intro w hSw; (try dsimp only at hSw); go_split_ands; go_simp; first | done | with_reducible rfl) hHeld ?_
        simp only [Act.put, List.setIfInBounds_toArray, List.set_cons_zero, List.set_cons_succ]
        refine hd_take 9 rfl (by kernel_rfl) (by kernel_rfl) (by kernel_rfl) (fun _ _ _ h => h) (by rfl) (by intro w hSw; (try dsimp only at hSw); go_split_ands; go_simp; first | done | with_reducible rfl) hHeld ?_
        simp only [Act.put, List.setIfInBounds_toArray, List.set_cons_zero, List.set_cons_succ]
        refine hd_step 11 (by kernel_rfl) rfl (fun K hK => ?_)
        go_simp
        refine hK.out _ _ ⟨set5_other p0 hne1, set5_other p1 hne1, set5_other p2 hne1, set5_other p3 hne1, set5_other p4 hne1, set5_other p5 hne2⟩ (fun hHeld => ?_)
        clear hK K
        try simp only [Act.put, List.setIfInBounds_toArray, List.set_cons_zero, List.set_cons_succ]
        refine hd_step 12 (by kernel_rfl) rfl (fun K hK => ?_)
        go_simp
        refine hK.out _ _ ⟨set5_other p0 hne1, set5_other p1 hne1, set5_other p2 hne1, set5_other p3 hne1, set5_other p4 hne1, set5_other p5 hne2⟩ (fun hHeld => ?_)
        clear hK K
        try simp only [Act.put, List.setIfInBounds_toArray, List.set_cons_zero, List.set_cons_succ]
        refine wpAnyH_done (by kernel_rfl) ?_ _
        have hNf : stRow (((((w5.setCell ⟨wr.heap.size, 0, none⟩ (.bool m0)).setCell ⟨wr.heap.size, 1, none⟩ (.int .i64 m1)).setCell ⟨wr.heap.size, 2, none⟩ (.int .i64 m2)).setCell ⟨wr.heap.size, 3, none⟩ (.int .i64 m3)).setCell ⟨wr.heap.size, 4, none⟩ (.bool m4)) wr.heap.size ⟨m0, m1, m2, m3, m4⟩ := stRow_set HZ5.out ⟨m0, m1, m2, m3, m4⟩
        have hSf : stRow (((((w5.setCell ⟨wr.heap.size, 0, none⟩ (.bool m0)).setCell ⟨wr.heap.size, 1, none⟩ (.int .i64 m1)).setCell ⟨wr.heap.size, 2, none⟩ (.int .i64 m2)).setCell ⟨wr.heap.size, 3, none⟩ (.int .i64 m3)).setCell ⟨wr.heap.size, 4, none⟩ (.bool m4)) sb ⟨s0, s1, s2, s3, s4⟩ := stRow_far HR5.out (fun e => hne1 e.symm)
        have hBf : Below w.heap.size w (((((w5.setCell ⟨wr.heap.size, 0, none⟩ (.bool m0)).setCell ⟨wr.heap.size, 1, none⟩ (.int .i64 m1)).setCell ⟨wr.heap.size, 2, none⟩ (.int .i64 m2)).setCell ⟨wr.heap.size, 3, none⟩ (.int .i64 m3)).setCell ⟨wr.heap.size, 4, none⟩ (.bool m4)) := below_set5 HB5.out HB.out.size
        clear z0 z1 z2 z3 z4 y0 y1 y2 y3 y4 HB5 HR5 HZ5 hHeld p0 p1 p2 p3 p4 p5
        generalize (((((w5.setCell ⟨wr.heap.size, 0, none⟩ (.bool m0)).setCell ⟨wr.heap.size, 1, none⟩ (.int .i64 m1)).setCell ⟨wr.heap.size, 2, none⟩ (.int .i64 m2)).setCell ⟨wr.heap.size, 3, none⟩ (.int .i64 m3)).setCell ⟨wr.heap.size, 4, none⟩ (.bool m4)) = wf at hNf hSf hBf ⊢
        generalize wr.heap.size = nb at hNf ⊢
      all_goals
        have HNf := Lib.hid hNf
        have HSf := Lib.hid hSf
        have HBf := Lib.hid hBf
        clear c0 c1 c2 c3 c4 d0 g0 g1 g2 g3 g4 g5 HG HZ hne1 hne2 HCall HCallA HBz hsl hdl
        cases cu with
        | true =>
          have HV := Lib.hid (show i + nx (tabOf R) (s.drop i) = k by rw [← HE.out, HD.out, if_pos rfl]; rfl)
          clear hNf hSf hBf
          go_wp2_with fail
          go_ret
          exact ⟨ret_i (by have := HV.out; omega), HBf.out⟩
        | false =>
          have HV := Lib.hid (show k + 1 + runLen (tabOf R) ⟨m0, m1, m2, m3, m4⟩ (s.drop (k + 1)) = i + nx (tabOf R) (s.drop i) by rw [← HE.out, HD.out, if_neg Bool.false_ne_true]; omega)
          have e0 : wf.cell? ⟨nb, 0, none⟩ = some (.bool m0) := row_cells hNf rfl
          have e1 : wf.cell? ⟨nb, 1, none⟩ = some (.int .i64 m1) := row_cells hNf rfl
          have e2 : wf.cell? ⟨nb, 2, none⟩ = some (.int .i64 m2) := row_cells hNf rfl
          have e3 : wf.cell? ⟨nb, 3, none⟩ = some (.int .i64 m3) := row_cells hNf rfl
          have e4 : wf.cell? ⟨nb, 4, none⟩ = some (.bool m4) := row_cells hNf rfl
          have c0 : wf.cell? ⟨sb, 0, none⟩ = some (.bool s0) := row_cells hSf rfl
          have c1 : wf.cell? ⟨sb, 1, none⟩ = some (.int .i64 s1) := row_cells hSf rfl
          have c2 : wf.cell? ⟨sb, 2, none⟩ = some (.int .i64 s2) := row_cells hSf rfl
          have c3 : wf.cell? ⟨sb, 3, none⟩ = some (.int .i64 s3) := row_cells hSf rfl
          have c4 : wf.cell? ⟨sb, 4, none⟩ = some (.bool s4) := row_cells hSf rfl
          have y0 := row_warm hSf 0
          have y1 := row_warm hSf 1
          have y2 := row_warm hSf 2
          have y3 := row_warm hSf 3
          have y4 := row_warm hSf 4
          clear hNf hSf hBf
          go_wp2_with fail
          go_roundw
          case rel => exact ⟨k + 1, ⟨m0, m1, m2, m3, m4⟩, by omega, by omega, by go_num, below_set5 HBf.out hsb, stRow_set HSf.out ⟨m0, m1, m2, m3, m4⟩, HV.out⟩
          case measure => simp [intOf] <;> omega
    · have hke : k = s.length := by omega
      subst hke
      have HV := Lib.hid (show i + nx (tabOf R) (s.drop i) = s.length by rw [← HE.out, List.drop_length]; rfl)
      clear hlt hk hR
      go_wp2_with fail
      go_ret
      exact ⟨ret_i (by have := HV.out; omega), HB.out⟩
end
end Go.Proofs.YtkeainhjghdfcaaGreat

/- Appending what lies anywhere; rows of scalars. -/
namespace Go.Proofs.YtkeainhjghdfcaaGreat
open Go.RowKit

/-- append of cells that lie anywhere. -/
theorem wpList_app2 {P : Program} (w : World) {ops : Array Oper} {rest : List Oper} {o : Oper} {act : Act} {Q : Exit → Act → World → Prop} (hgd : o.guard = none) (s x : Operand) (t : TypeId)
    (ho : o.op = .call { callee := .builtin .append, args := #[s, x], argTypes := #[t, t] })
    {base e size bytes : Nat} (E : ElemT P t e size bytes) (v : Value) (n : Nat) (xs : List Value) (hs : act.eval s = v) (hown : w.ownsRow base e size v n xs)
    (a : Addr) (m c : Nat) (news : List Value) (hx : act.eval x = .slice (some a) m c) (hm : 0 < m) (hl : news.length = m * size) (hnews : ∀ j u, news[j]? = some u → w.cell? (a.add j) = some u) (h1 : ∀ u ∈ news, u.oneCell' = true)
    (hbytes : (n + m) * bytes ≤ 140737488355328) (hbase : base ≤ w.heap.size)
    (h : ∀ g cap w', w'.ownsRow base e size (.slice (some ⟨g, 0, none⟩) (n + m) cap) (n + m) (xs ++ news) → w.grownBy w' v.ownBlock → (v.ownBlock = some g ∨ w.heap.size ≤ g) →
      wpList P ops Q rest (act.put o.dst (.slice (some ⟨g, 0, none⟩) (n + m) cap)) w') : wpList P ops Q (o :: rest) act w := by
  obtain ⟨g, cap, w', hr, h2, h3, h4⟩ := run_app (P := P) (ty := o.type) w E v n xs hown a m c news hm hl hnews h1 hbytes hbase
  refine wpList_plain hgd fun _ hK => ?_
  unfold Oper.wp execOp
  simp only [ho, resolve, invoke, builtin, Sem.run_bind, Sem.run_pure, Result.andThen_ok, List.map_toArray, List.map_cons, List.map_nil, hs, hx, hr]
  exact hK _ _ (h g cap w' h2 h3 h4)
theorem addr_off (b off j : Nat) : (⟨b, off, none⟩ : Addr).add j = ⟨b, off + j, none⟩ := by unfold Addr.add; split <;> simp_all
theorem runeE_one (l : List Int) : ∀ u ∈ l.flatMap runeE, u.oneCell' = true := by
  intro u hu
  obtain ⟨x, _, hx⟩ := List.mem_flatMap.1 hu
  simp [runeE] at hx; subst hx; rfl
theorem ER : ElemT Tryz.prog 35 21 1 4 := elemT_of (by kernel_rfl) (z := .int .i32 0) (by kernel_rfl) rfl (by decide) (by decide)
theorem ERR : ElemT Tryz.prog 51 35 1 24 := elemT_of (by kernel_rfl) (z := .slice none 0 0) (by kernel_rfl) rfl (by decide) (by decide)
theorem owns_lower {w : World} {b b' e size n : Nat} {v : Value} {xs : List Value} (h : w.ownsRow b e size v n xs) (hb : b' ≤ b) : w.ownsRow b' e size v n xs :=
  ⟨h.1, h.2.imp id fun ⟨g, cap, cur, e, hg, r⟩ => ⟨g, cap, cur, e, Nat.le_trans hb hg, r⟩⟩
end Go.Proofs.YtkeainhjghdfcaaGreat

/- utf.Encode, the document's Encode. -/
namespace Go.Proofs.YtkeainhjghdfcaaGreat
open Go.RowKit Go.Lib

theorem strCells_nums (xs : List Int) (h : ∀ x ∈ xs, 0 ≤ x ∧ x ≤ 255) : strCells (strOfNums xs) = xs.map (Value.int .u8) := by
  unfold strCells
  rw [strOfNums_data, List.map_map]
  refine List.map_congr_left fun x hx => ?_
  obtain ⟨h0, h1⟩ := h x hx
  show Value.int .u8 (((UInt8.ofNat x.toNat).toNat : Nat) : Int) = _
  congr 1
  rw [UInt8.toNat_ofNat']
  omega
theorem conv_owns {W : World} {base n : Nat} {v : Value} {xs : List Int} (h : W.ownsRow base 5 1 v n (xs.map (Value.int .u8))) :
    (convert 233 9 v).run Tryz.prog W = .ok (.string (strOfNums xs)) W := by
  have hl : xs.length = n := by have := h.1; simpa using this
  rcases h.2 with ⟨rfl, rfl⟩ | ⟨g, cap, cur, rfl, hb, hg, _⟩
  · have : xs = [] := List.eq_nil_of_length_eq_zero hl
    subst this
    exact run_convert_bytes_nil W 233 5 Tryz.underlying233 Tryz.underlying5 0 0 9 Tryz.underlying9
  · have hc := h.cells (g := g) rfl
    refine run_convert_bytes_arg (P := Tryz.prog) W 233 5 Tryz.underlying233 Tryz.underlying5 g 0 n cap xs hl (fun i hi => ?_) 9 Tryz.underlying9
    have := hc i (.int .u8 (xs.getD i 0)) (by rw [List.getElem?_map, List.getElem?_eq_getElem (by omega)]; simp [List.getD, List.getElem?_eq_getElem (show i < xs.length by omega)])
    rw [addr_add] at this
    rw [Nat.zero_add]
    exact this
theorem encN_succ {s : List Int} {k : Nat} {x : Int} (h : s[k]? = some x) : encN (s.take (k + 1)) = encN (s.take k) ++ putN x := by
  rw [List.take_add_one, h]
  unfold encN
  rw [List.flatMap_append]
  simp
theorem encN_take_len (s : List Int) (k : Nat) (hs : s.length ≤ 1000000) : (encN (s.take k)).length ≤ 4000000 := by
  have := encN_len (s.take k)
  rw [List.length_take] at this
  omega
section
variable {s : List Int} {w : World} {sv : Value}
set_option maxRecDepth 100000 in
set_option maxHeartbeats 4000000 in
theorem encode_any (hs : RunesIn w sv s) (hl : s.length ≤ 1000000) :
    Calls Tryz.prog 153 #[sv] w fun e w' => e = .returned (.string (enc s)) ∧ Below w.heap.size w w' := by
  have HS := Lib.hid hs
  obtain ⟨sl, cap, rfl, hcap, hmax, _⟩ := runes_cells hs
  unfold maxLen at hmax
  obtain ⟨iu, hiu, hzu, hsu, hbu⟩ := info_parts (show (Tryz.prog.info? 5).map (fun i => (i.zero, i.size, i.bytes)) = some (some (.int .u8 0), 1, 1) by kernel_rfl)
  have HU := Lib.hid hiu
  have HUz := Lib.hid hzu
  have HUs := Lib.hid hsu
  have HUb := Lib.hid hbu
  clear hs hiu hzu hsu hbu
  go_enter Tryz.func153, Tryz.ntmps153
  go_wp2_with fail
  go_loopw [3, 8] (fun bv iv wr => ∃ k : Nat, k ≤ s.length ∧ iv = .int .i64 ((k : Nat) : Int) ∧ Below w.heap.size w wr ∧ wr.ownsRow w.heap.size 5 1 bv (encN (s.take k)).length ((encN (s.take k)).map (Value.int .u8))) (fun _ iv _ => s.length - (intOf iv).toNat)
  case atStart => exact ⟨0, Nat.zero_le _, rfl, .refl _ _, World.ownsRow_nil _ _ _ _⟩
  case round =>
    obtain ⟨k, hk, rfl, hB, hO⟩ := hrel
    have HB := Lib.hid hB
    obtain ⟨pa, pc, rfl⟩ := slice_of_owns hO
    have HO := Lib.hid hO
    clear hB hO
    by_cases hlt : k < s.length
    · obtain ⟨x, hx⟩ : ∃ x, s[k]? = some x := ⟨s[k], List.getElem?_eq_getElem hlt⟩
      have HN := Lib.hid (encN_succ hx)
      obtain ⟨b0, off, cap', hv, _, _, _, _, d0⟩ := rune_cell (HS.out.below HB.out) hx
      cases hv
      clear hx
      go_wp2_with fail
      refine (put_any x wr).mono ?_
      rintro e w1 ⟨rfl, hB1⟩
      have HB1 := Lib.hid (HB.out.trans (hB1.mono HB.out.size))
      have HO1 := Lib.hid (owns_stays HO.out hB1)
      have hbs := HB1.out.size
      have hsz : (encN (s.take k)).length + (put x).size ≤ 5000000 := by have := encN_take_len s k hl; have := (sizeN_rng x).2; rw [put_size]; omega
      have HSz := Lib.hid hsz
      clear hB1 HO HB d0 hsz
      go_wp2_with (at_builtin; refine wpList_append_own_string _ rfl (.tmp 12) (.tmp 14) _ _ rfl w.heap.size 5 iu Tryz.underlying233 Tryz.underlying9 HU.out HUz.out HUs.out HUb.out _ _ _ rfl HO1.out (put x) rfl (by have := HSz.out; unfold maxLen; omega) (by have := HSz.out; omega) hbs ?_; intro v2 w2 ho2 hg2 _; have HB2 := Lib.hid (below_app HB1.out hbs HO1.out (Nat.le_refl _) hg2); have HO2 := Lib.hid ho2; clear ho2 hg2)
      have HO3 := Lib.hid (show w2.ownsRow w.heap.size 5 1 v2 (encN (s.take (k + 1))).length ((encN (s.take (k + 1))).map (Value.int .u8)) by
        have h := HO2.out
        rw [show put x = strOfNums (putN x) from rfl, strCells_nums _ (putN_rng x), strOfNums_size, ← List.map_append, ← List.length_append, ← HN.out] at h
        exact h)
      go_roundw
      case rel => exact ⟨k + 1, by omega, by go_num, HB2.out, HO3.out⟩
      case measure => simp [intOf] <;> omega
    · have hke : k = s.length := by omega
      subst hke
      rw [List.take_length] at HO
      have cv := conv_owns HO.out
      clear hlt hk
      go_wp2_with fail
      go_ret
      exact ⟨rfl, HB.out⟩
set_option maxRecDepth 100000 in
set_option maxHeartbeats 4000000 in
theorem rencode_any (hs : RunesIn w sv s) (hl : s.length ≤ 1000000) :
    Calls Tryz.prog 94 #[sv] w fun e w' => e = .returned (.string (enc s)) ∧ Below w.heap.size w w' := by
  have HS := Lib.hid hs
  obtain ⟨sl, cap, rfl, hcap, hmax, _⟩ := runes_cells hs
  unfold maxLen at hmax
  clear hs
  go_enter Tryz.func94, Tryz.ntmps94
  go_wp2_with fail
  go_loopw [3, 4] (fun bv iv wr => ∃ k : Nat, k ≤ s.length ∧ iv = .int .i64 ((k : Nat) : Int) ∧ Below w.heap.size w wr ∧ bv = .string (enc (s.take k))) (fun _ iv _ => s.length - (intOf iv).toNat)
  case atStart => exact ⟨0, Nat.zero_le _, rfl, .refl _ _, rfl⟩
  case round =>
    obtain ⟨k, hk, rfl, hB, rfl⟩ := hrel
    have HB := Lib.hid hB
    clear hB
    by_cases hlt : k < s.length
    · obtain ⟨x, hx⟩ : ∃ x, s[k]? = some x := ⟨s[k], List.getElem?_eq_getElem hlt⟩
      have HN := Lib.hid (show enc (s.take (k + 1)) = enc (s.take k) ++ put x by unfold enc put; rw [encN_succ hx, nums_append])
      obtain ⟨b0, off, cap', hv, _, _, _, _, d0⟩ := rune_cell (HS.out.below HB.out) hx
      cases hv
      have r0 : (k : Int) < (s.length : Int) := by omega
      have r1 : (0 : Int) ≤ (k : Int) := by omega
      clear hx
      go_wp2_with fail
      refine (rput_any x wr).mono ?_
      rintro e w1 ⟨rfl, hB1⟩
      have HB1 := Lib.hid (HB.out.trans (hB1.mono HB.out.size))
      have cc := run_string_add_sum (P := Tryz.prog) w1 (enc (s.take k)) (put x) (by have := encN_take_len s k hl; have := (sizeN_rng x).2; rw [put_size, enc_size]; omega)
      have e1 := IntWalk.i64_in ((k : Int) + 1) (by omega)
      clear hB1 HB d0
      go_wp2_with fail
      go_roundw
      case rel => exact ⟨k + 1, by omega, by go_num, HB1.out, by rw [HN.out]⟩
      case measure => simp [intOf] <;> omega
    · have hke : k = s.length := by omega
      subst hke
      rw [List.take_length]
      have r0 : decide ((s.length : Int) < (s.length : Int)) = false := by simp
      clear hlt hk
      go_wp2_with fail
      go_ret
      exact ⟨rfl, HB.out⟩
end
end Go.Proofs.YtkeainhjghdfcaaGreat

/- glyph.Width. -/
namespace Go.Proofs.YtkeainhjghdfcaaGreat
open Go.RowKit

section
variable {R : List Rw} {s : List Int} {w : World} {v sv : Value} {tp : Nat}
theorem wid_of {n : Nat} (h : widN R s = n) {w w' : World} (hB : Below w.heap.size w w') : Ending.returned (.int .i64 (n : Int)) = .returned (.int .i64 ((widN R s : Nat) : Int)) ∧ Below w.heap.size w w' := ⟨by rw [h], hB⟩
set_option maxRecDepth 100000 in
set_option maxHeartbeats 1000000 in
theorem width_any (hT : Tb R w tp) (hs : RunesIn w sv s) (ok : RunesOk s) (hl : s.length ≤ 1000000) :
    Calls Tryz.prog 154 #[.pointer (some ⟨tp, 0, none⟩), sv] w fun e w' => e = .returned (.int .i64 ((widN R s : Nat) : Int)) ∧ Below w.heap.size w w' := by
  have HT := Lib.hid hT
  have HS := Lib.hid hs
  have HOk := Lib.hid ok
  obtain ⟨sl, cap, rfl, hcap, hmax, _⟩ := runes_cells hs
  unfold maxLen at hmax
  clear hT hs ok
  obtain ⟨c0, hc0⟩ : ∃ c0, c0 = s.headD 0 := ⟨_, rfl⟩
  have HW2 := Lib.hid (fun (h : hitsF R c0 0 s = true) => show widN R s = 2 by unfold widN; rw [← hc0, if_pos h])
  have HW1 := Lib.hid (fun (h : hitsF R c0 0 s = false) => show widN R s = 1 by unfold widN; rw [← hc0, h]; rfl)
  have HC0 := Lib.hid hc0
  clear hc0
  go_enter Tryz.func154, Tryz.ntmps154
  go_wp2_with fail
  go_loopw [9] (fun iv wr => ∃ k : Nat, k ≤ s.length ∧ iv = .int .i64 ((k : Nat) : Int) ∧ Below w.heap.size w wr ∧ hitsF R c0 0 s = hitsF R c0 k (s.drop k)) (fun iv _ => s.length - (intOf iv).toNat)
  case atStart => exact ⟨0, Nat.zero_le _, rfl, .refl _ _, rfl⟩
  case round =>
    obtain ⟨k, hk, rfl, hB, hH⟩ := hrel
    have HB := Lib.hid hB
    have HH := Lib.hid hH
    clear hB hH
    by_cases hlt : k < s.length
    · obtain ⟨x, hx⟩ : ∃ x, s[k]? = some x := ⟨s[k], List.getElem?_eq_getElem hlt⟩
      have hx0 : s[0]? = some c0 := by
        rw [HC0.out]
        cases s with
        | nil => simp at hlt
        | cons a l => rfl
      have HI := Lib.hid (HOk.out.get hx)
      have HI0 := Lib.hid (HOk.out.get hx0)
      have HD := Lib.hid (hitsF_step R (c0 := c0) hx)
      have HX0 := Lib.hid hx0
      obtain ⟨b0, off, cap', hv, _, _, _, _, d0⟩ := rune_cell (HS.out.below HB.out) hx
      cases hv
      clear hx hx0
      go_wp2_with fail
      refine (Tb.wide (HT.out.below HB.out) x HI.out).mono ?_
      rintro e w1 ⟨rfl, hB1⟩
      have HB1 := Lib.hid (HB.out.trans (hB1.mono HB.out.size))
      clear hB1 HB d0
      by_cases hwd : wideB R x = true
      · have hwd' : decide (ofA R 7 x = 1) = true := hwd
        have HF := Lib.hid (HW2.out (by rw [HH.out, HD.out]; unfold hitB; rw [hwd]; rfl))
        rw [hwd']
        clear hwd hwd'
        go_wp2_with fail
        go_ret
        exact wid_of HF.out HB1.out
      · have hwd2 : wideB R x = false := Bool.eq_false_iff.2 hwd
        have hwd' : decide (ofA R 7 x = 1) = false := hwd2
        rw [hwd']
        have HWd := Lib.hid hwd2
        clear hwd hwd' hwd2
        have d00 := (rune_cell (HS.out.below HB1.out) HX0.out)
        obtain ⟨b0', off', cap'', hv, _, _, _, _, d0⟩ := d00
        cases hv
        rw [Nat.add_zero] at d0
        obtain ⟨bx, hbx⟩ : ∃ bx, bx = (tabOf R).b x := ⟨_, rfl⟩
        have HBk := Lib.hid (fun (W : World) (h : Tb R W tp) => show Calls Tryz.prog 151 #[.pointer (some ⟨tp, 0, none⟩), .int .i32 x] W (fun e w' => e = .returned (.int .i64 bx) ∧ Below W.heap.size W w') by rw [hbx]; exact Tb.break h x HI.out)
        have HBx := Lib.hid hbx
        clear hbx
        by_cases hf : x = 65039
        case' neg =>
          have q1 : (x == 65039) = false := by simpa using hf
          have HM := Lib.hid (show ((decide (x = 65039) && decide (0 < k)) && (tabOf R).p c0) = false by rw [decide_eq_false hf]; rfl)
          clear hf
          go_upto_region 8 with fail
        case' pos =>
          have q1 : (x == 65039) = true := by simpa using hf
          by_cases hk0 : 0 < k
          case' neg =>
            have q2 : decide ((k : Int) > 0) = false := decide_eq_false (by omega)
            have q2' : decide (0 < k) = false := decide_eq_false hk0
            have HM := Lib.hid (show ((decide (x = 65039) && decide (0 < k)) && (tabOf R).p c0) = false by rw [decide_eq_false hk0, Bool.and_false]; rfl)
            clear hf hk0
            go_upto_region 8 with fail
          case' pos =>
            have q2 : (k : Int) > 0 := by omega
            rw [hf] at HBk
            have HP0 := Lib.hid (show (decide (x = 65039) && decide (0 < k)) = true by rw [decide_eq_true hf, decide_eq_true hk0]; rfl)
            have hw1 := HB1.out
            go_wp2_with fail
            refine (Tb.pict (HT.out.below HB1.out) c0 HI0.out).mono ?_
            rintro e w2 ⟨rfl, hB2⟩
            have HB2 := Lib.hid (HB1.out.trans (hB2.mono HB1.out.size))
            obtain ⟨_, _, _, hv, _, _, _, _, d0⟩ := rune_cell (HS.out.below HB2.out) HX0.out
            cases hv
            rw [Nat.add_zero] at d0
            clear hB2 hw1 hk0 hf
            by_cases hp : (tabOf R).p c0 = true
            case' pos =>
              rw [hp]
              have HF := Lib.hid (HW2.out (by rw [HH.out, HD.out]; unfold hitB; rw [HP0.out, hp]; simp))
              clear hp
              go_wp2_with fail
              go_ret
              exact wid_of HF.out HB2.out
            have hp2 : (tabOf R).p c0 = false := Bool.eq_false_iff.2 hp
            rw [hp2]
            have HM := Lib.hid (show ((decide (x = 65039) && decide (0 < k)) && (tabOf R).p c0) = false by rw [hp2, Bool.and_false])
            clear hp hp2 HB1
            have HB1 := HB2
            clear HB2
            go_upto_region 8 with fail
        all_goals
          by_cases hk1 : ((k : Nat) : Int) = 1
          case' neg =>
            have q3 : (((k : Nat) : Int) == 1) = false := by simpa using hk1
            have HN := Lib.hid (show hitB R c0 k x = false by unfold hitB; rw [HWd.out, HM.out, decide_eq_false (show ¬ k = 1 by omega)]; rfl)
            clear hk1
            go_upto_region 10 with fail
          case' pos =>
            have hk2 : k = 1 := by omega
            have q3 : (((k : Nat) : Int) == 1) = true := by simpa using hk1
            clear hk1
            go_wp2_with fail
            refine (HBk.out _ (HT.out.below HB1.out)).mono ?_
            rintro e w3 ⟨rfl, hB3⟩
            have HB3 := Lib.hid (HB1.out.trans (hB3.mono HB1.out.size))
            obtain ⟨_, _, _, hv, _, _, _, _, d0⟩ := rune_cell (HS.out.below HB3.out) HX0.out
            cases hv
            rw [Nat.add_zero] at d0
            clear hB3
            by_cases hb : bx = 6
            case' neg =>
              have q4 : (bx == 6) = false := by simpa using hb
              have HN := Lib.hid (show hitB R c0 k x = false by unfold hitB; rw [HWd.out, HM.out, ← HBx.out, decide_eq_false hb]; simp)
              clear hb HB1
              have HB1 := HB3
              clear HB3
              go_upto_region 10 with fail
            case' pos =>
              have q4 : (bx == 6) = true := by simpa using hb
              have HBx2 := Lib.hid hb
              clear hb
              go_wp2_with fail
              refine (Tb.break (HT.out.below HB3.out) c0 HI0.out).mono ?_
              rintro e w4 ⟨rfl, hB4⟩
              have HB4 := Lib.hid (HB3.out.trans (hB4.mono HB3.out.size))
              clear hB4
              by_cases hc : (tabOf R).b c0 = 6
              case' neg =>
                have q5 : ((tabOf R).b c0 == 6) = false := by simpa using hc
                have HN := Lib.hid (show hitB R c0 k x = false by unfold hitB; rw [HWd.out, HM.out, decide_eq_false hc]; simp)
                clear hc HB1
                have HB1 := HB4
                clear HB4 HB3
                go_upto_region 10 with fail
              case' pos =>
                have q5 : ((tabOf R).b c0 == 6) = true := by simpa using hc
                have HF := Lib.hid (HW2.out (by rw [HH.out, HD.out]; unfold hitB; rw [← HBx.out, decide_eq_true HBx2.out, decide_eq_true hc, decide_eq_true hk2]; simp))
                clear hc
                go_wp2_with fail
                go_ret
                exact wid_of HF.out HB4.out
          all_goals
            have e1 := IntWalk.i64_in ((k : Int) + 1) (by omega)
            go_wp2_with fail
            go_roundw
            case rel => exact ⟨k + 1, by omega, by go_num, HB1.out, by rw [HH.out, HD.out, HN.out]; rfl⟩
            case measure => simp [intOf] <;> omega
    · have hke : k = s.length := by omega
      subst hke
      have HF := Lib.hid (HW1.out (by rw [HH.out, List.drop_length]; rfl))
      clear hlt hk
      go_wp2_with fail
      go_ret
      exact wid_of HF.out HB.out
end
end Go.Proofs.YtkeainhjghdfcaaGreat

/- glyph: caret; append behind a slice that has no room. -/
namespace Go.Proofs.YtkeainhjghdfcaaGreat
open Go.RowKit

/-- a literal's row is the call's own -/
theorem owns_lit (w : World) (cs : Array Value) (e : TypeId) {base size n : Nat} (hn : cs.size = n * size) (hm : n ≤ maxLen) (hb : base ≤ w.heap.size) :
    (w.alloc (.cells cs e)).ownsRow base e size (.slice (some ⟨w.heap.size, 0, none⟩) n n) n cs.toList :=
  ⟨by simpa using hn, .inr ⟨w.heap.size, n, cs, rfl, hb, heap_alloc_new w _, Nat.le_refl _, hm, hn, by rw [List.take_of_length_le (by simp [hn])]⟩⟩
/-- append behind a slice that is full, whoever owns it: a row of the call's own -/
theorem run_app_full {P : Program} (w : World) {base t ty e size bytes B : Nat} (E : ElemT P t e size bytes) (b : Addr) (n : Nat) (xs : List Value) (hR : Rd B w size (.slice (some b) n n) n xs) (hn : 0 < n)
    (a : Addr) (m c : Nat) (news : List Value) (hm : 0 < m) (hl : news.length = m * size) (hnews : ∀ j u, news[j]? = some u → w.cell? (a.add j) = some u)
    (hbytes : (n + m) * bytes ≤ 140737488355328) (hbase : base ≤ w.heap.size) :
    ∃ v' w', (Builtin.append_ #[t, t] ty #[.slice (some b) n n, .slice (some a) m c]).run P w = .ok v' w' ∧ w'.ownsRow base e size v' (n + m) (xs ++ news) ∧ w.grownBy w' none := by
  obtain ⟨hu, ⟨i, z, hi, hz, hsize, hby, hzs⟩, hsz, hbp⟩ := E
  subst hsize
  subst hby
  have hnm : n + m ≤ 140737488355328 := Nat.le_trans (Nat.le_mul_of_pos_right _ hbp) hbytes
  have h63 : n + m ≤ maxLen := by unfold maxLen; omega
  obtain ⟨a0, cap, hv, _, _, hxl, hc⟩ := hR
  cases hv
  obtain ⟨g, off, hg, _, hcell⟩ := hc hn
  cases hg
  have hlen : (xs ++ news).length = (n + m) * i.size := by rw [List.length_append, hxl, hl, Nat.add_mul]
  have holds : ∀ j u, xs[j]? = some u → w.cell? ((⟨g, off, none⟩ : Addr).add j) = some u := fun j u h => by
    have : (⟨g, off, none⟩ : Addr).add j = ⟨g, off + j, none⟩ := by unfold Addr.add; split <;> simp_all
    rw [this]; exact hcell j u h
  have hr := run_append_grow (P := P) (ty := ty) w t e i z hu hi hz ⟨g, off, none⟩ n n xs hxl holds a m c news hl hnews (by omega) (by unfold maxLen at h63; omega) (growslice_fits (by omega) hbytes)
  have hge := grownCap_ge w (n + m) n e
  have hcm : grownCap w (n + m) n e ≤ maxLen := grownCap_le_maxLen w (n + m) n e h63
  refine ⟨_, _, hr, ⟨hlen, .inr ⟨w.heap.size, _, _, rfl, hbase, heap_alloc_new w.drew _, hge, hcm, ?_, ?_⟩⟩, ⟨rfl, rfl, rfl, by simp, fun k hk _ => Below.heap_alloc w.drew _ k hk⟩⟩
  · simp only [Array.size_append, List.size_toArray, size_zeroCells, hzs, hxl, hl, ← Nat.add_mul]
    congr 1
    omega
  · simp only [Array.toList_append, List.append_assoc]
    rw [← List.append_assoc, ← hlen]
    exact List.take_left
theorem wpList_app_full {P : Program} (w : World) {ops : Array Oper} {rest : List Oper} {o : Oper} {act : Act} {Q : Exit → Act → World → Prop} (hgd : o.guard = none) (s x : Operand) (t : TypeId)
    (ho : o.op = .call { callee := .builtin .append, args := #[s, x], argTypes := #[t, t] })
    {base e size bytes B : Nat} (E : ElemT P t e size bytes) (b : Addr) (n : Nat) (xs : List Value) (hs : act.eval s = .slice (some b) n n) (hR : Rd B w size (.slice (some b) n n) n xs) (hn : 0 < n)
    (a : Addr) (m c : Nat) (news : List Value) (hx : act.eval x = .slice (some a) m c) (hm : 0 < m) (hl : news.length = m * size) (hnews : ∀ j u, news[j]? = some u → w.cell? (a.add j) = some u)
    (hbytes : (n + m) * bytes ≤ 140737488355328) (hbase : base ≤ w.heap.size)
    (h : ∀ v' w', w'.ownsRow base e size v' (n + m) (xs ++ news) → w.grownBy w' none → wpList P ops Q rest (act.put o.dst v') w') : wpList P ops Q (o :: rest) act w := by
  obtain ⟨v', w', hr, h2, h3⟩ := run_app_full (P := P) (ty := o.type) w E b n xs hR hn a m c news hm hl hnews hbytes hbase
  refine wpList_plain hgd fun _ hK => ?_
  unfold Oper.wp execOp
  simp only [ho, resolve, invoke, builtin, Sem.run_bind, Sem.run_pure, Result.andThen_ok, List.map_toArray, List.map_cons, List.map_nil, hs, hx, hr]
  exact hK _ _ (h v' w' h2 h3)
def GlyIn (w : World) (v : Value) (L : List Gy) : Prop := Rs w.heap.size w gyE 2 v L
theorem GlyIn.below {w w' : World} {v : Value} {l : List Gy} (h : GlyIn w v l) (hb : Below w.heap.size w w') : GlyIn w' v l := (Rd.below h hb (Nat.le_refl _)).mono hb.size
theorem EG : ElemT Tryz.prog 23 97 2 24 := elemT_of (by kernel_rfl) (z := .agg #[.string ⟨#[]⟩, .int .i64 0]) (by kernel_rfl) rfl (by decide) (by decide)
set_option maxRecDepth 100000 in
set_option maxHeartbeats 1000000 in
theorem caret_any (r : Int) (w : World) : Calls Tryz.prog 152 #[.int .i32 r] w fun e w' => ∃ u, e = .returned u ∧ Below w.heap.size w w' ∧ GlyIn w' u (caretG r) := by
  by_cases h0 : r ≥ 0
  case' pos =>
    by_cases h1 : r < 32
    case' pos =>
      have HG := Lib.hid (show caretG r = [(⟨#[94]⟩, 1), (strOfNums [r + 64], 1)] by unfold caretG; rw [if_pos ⟨h0, h1⟩])
      have u1 := IntWalk.u8_in r (by omega)
      have u2 := IntWalk.u8_in (r + 64) (by omega)
      have cv := conv_new w [r + 64] #[.int .u8 (r + 64)] rfl 1 rfl
      have HB := Lib.hid ((below1' w (.cells #[.int .u8 (r + 64)] 5)).alloc (by simp) (.cells #[.string ⟨#[94]⟩, .int .i64 1, .string (strOfNums [r + 64]), .int .i64 1] 97))
      have HL := Lib.hid (rs_lit gyE_len (w.alloc (.cells #[.int .u8 (r + 64)] 5)) #[.string ⟨#[94]⟩, .int .i64 1, .string (strOfNums [r + 64]), .int .i64 1] 97 [((⟨#[94]⟩ : ByteArray), (1 : Int)), (strOfNums [r + 64], (1 : Int))] 2 rfl (by decide) rfl)
      go_enter Tryz.func152, Tryz.ntmps152
      go_wp2_with fail
      go_ret
      have hl := HL.out
      rw [show (w.alloc (.cells #[.int .u8 (r + 64)] 5)).heap.size = w.heap.size + 1 by simp] at hl
      exact ⟨_, rfl, HB.out, by rw [HG.out]; exact hl⟩
    have q1 : decide (r < 32) = false := decide_eq_false h1
    have HN := Lib.hid (show ¬ (0 ≤ r ∧ r < 32) by omega)
    clear h1
  case' neg =>
    have q0 : decide (r ≥ 0) = false := decide_eq_false h0
    have q4 : decide (0 ≤ r) = false := decide_eq_false h0
    have HN := Lib.hid (show ¬ (0 ≤ r ∧ r < 32) by omega)
    clear h0
  all_goals
    by_cases h2 : r = 127
    · have e2 : (r == 127) = true := by simpa using h2
      have HG := Lib.hid (show caretG r = [(⟨#[94]⟩, 1), (⟨#[63]⟩, 1)] by unfold caretG; rw [if_neg HN.out, if_pos h2])
      have HB := Lib.hid (below1' w (.cells #[.string ⟨#[94]⟩, .int .i64 1, .string ⟨#[63]⟩, .int .i64 1] 97))
      have HL := Lib.hid (rs_lit gyE_len w #[.string ⟨#[94]⟩, .int .i64 1, .string ⟨#[63]⟩, .int .i64 1] 97 [((⟨#[94]⟩ : ByteArray), (1 : Int)), ((⟨#[63]⟩ : ByteArray), (1 : Int))] 2 rfl (by decide) rfl)
      clear h2
      go_enter Tryz.func152, Tryz.ntmps152
      go_wp2_with fail
      go_ret
      exact ⟨_, rfl, HB.out, by rw [HG.out]; exact HL.out⟩
    · have e2 : (r == 127) = false := by simpa using h2
      have HG := Lib.hid (show caretG r = [(put 65533, 1)] by unfold caretG; rw [if_neg HN.out, if_neg h2])
      clear h2
      go_enter Tryz.func152, Tryz.ntmps152
      go_wp2_with fail
      refine (put_any 65533 w).mono ?_
      rintro e w1 ⟨rfl, hB1⟩
      have HB := Lib.hid (below_new hB1 (.cells #[.string (put 65533), .int .i64 1] 97))
      have HL := Lib.hid (rs_lit gyE_len w1 #[.string (put 65533), .int .i64 1] 97 [(put 65533, (1 : Int))] 1 rfl (by decide) rfl)
      clear hB1
      go_wp2_with fail
      go_ret
      exact ⟨_, rfl, HB.out, by rw [HG.out]; exact HL.out⟩
end Go.Proofs.YtkeainhjghdfcaaGreat

/- The document's Width. -/
namespace Go.Proofs.YtkeainhjghdfcaaGreat
open Go.RowKit

section
variable {R : List Rw} {s : List Int} {w : World} {v sv : Value}
theorem flags2_short {l : List Int} (h : l.length ≤ 1) : flags2 R l = false := by
  match l, h with
  | [], _ => rfl
  | [a], _ => rfl
theorem flags2_at {l : List Int} {a b : Int} (h0 : l[0]? = some a) (h1 : l[1]? = some b) : flags2 R l = (decide ((tabOf R).b a = 6) && decide ((tabOf R).b b = 6)) := by
  match l, h0, h1 with
  | a' :: b' :: _, h0, h1 => simp at h0 h1; subst h0; subst h1; rfl
theorem wid_ref {b fl : Bool} {m : Int} (hb : hits1 R (s.headD 0) 0 s = b) (hf : flags2 R s = fl) (hm : m = if (b || fl) = true then 2 else 1) {w w' : World} (hw : Below w.heap.size w w') :
    Ending.returned (.int .i64 m) = .returned (.int .i64 ((widN R s : Nat) : Int)) ∧ Below w.heap.size w w' := by
  refine ⟨?_, hw⟩
  rw [widN_ref, hb, hf, hm]
  cases b <;> cases fl <;> rfl
set_option maxRecDepth 100000 in
set_option maxHeartbeats 1000000 in
theorem rwidth_any (hR : RowsIn w v R) (hs : RunesIn w sv s) (ok : RunesOk s) (hl : s.length ≤ 1000000) :
    Calls Tryz.prog 95 #[v, sv] w fun e w' => e = .returned (.int .i64 ((widN R s : Nat) : Int)) ∧ Below w.heap.size w w' := by
  have HR := Lib.hid hR
  have HS := Lib.hid hs
  have HOk := Lib.hid ok
  obtain ⟨sl, cap, rfl, hcap, hmax, _⟩ := runes_cells hs
  unfold maxLen at hmax
  clear hR hs ok
  obtain ⟨c0, hc0⟩ : ∃ c0, c0 = s.headD 0 := ⟨_, rfl⟩
  have HC0 := Lib.hid hc0
  clear hc0
  go_enter Tryz.func95, Tryz.ntmps95
  go_wp2_with fail
  go_loopw [5, 6] (fun nv iv wr => ∃ (k : Nat) (b : Bool) (m : Int), k ≤ s.length ∧ nv = .int .i64 m ∧ iv = .int .i64 ((k : Nat) : Int) ∧ (m = if b = true then 2 else 1) ∧ w = wr ∧ hits1 R c0 0 s = (b || hits1 R c0 k (s.drop k))) (fun _ iv _ => s.length - (intOf iv).toNat)
  case atStart => exact ⟨0, false, 1, Nat.zero_le _, rfl, rfl, rfl, rfl, rfl⟩
  case round =>
    obtain ⟨k, b, m, hk, rfl, rfl, hm, rfl, hH⟩ := hrel
    have HM := Lib.hid hm
    have HH := Lib.hid hH
    clear hm hH
    by_cases hlt : k < s.length
    · obtain ⟨x, hx⟩ : ∃ x, s[k]? = some x := ⟨s[k], List.getElem?_eq_getElem hlt⟩
      have hx0 : s[0]? = some c0 := by
        rw [HC0.out]
        cases s with
        | nil => simp at hlt
        | cons a l => rfl
      have HI := Lib.hid (HOk.out.get hx)
      have HI0 := Lib.hid (HOk.out.get hx0)
      have HD := Lib.hid (hits1_step R (c0 := c0) hx)
      obtain ⟨b0, off, cap', hv, _, _, _, _, d0⟩ := rune_cell HS.out hx
      cases hv
      obtain ⟨_, _, _, hv, _, _, _, _, d1⟩ := rune_cell HS.out hx0
      cases hv
      rw [Nat.add_zero] at d1
      have r0 : (k : Int) < (s.length : Int) := by omega
      have r1 : (0 : Int) ≤ (k : Int) := by omega
      clear hx hx0
      go_wp2_with fail
      refine (rof_t 7 x HR.out HI.out).mono ?_
      rintro e w1 ⟨rfl, rfl⟩
      obtain ⟨wd, hwd⟩ : ∃ wd, wd = wideB R x := ⟨_, rfl⟩
      have HWd := Lib.hid hwd
      cases wd with
      | true =>
        have q1 : (ofA R 7 x == 1) = true := by simpa using of_decide_eq_true hwd.symm
        clear hwd
        go_upto_region 7 with fail
        by_cases hk0 : 0 < k
        · have q2 : (k : Int) > 0 := by omega
          by_cases hf : x = 65039
          · have q3 : (x == 65039) = true := by simpa using hf
            have HS7 := Lib.hid (show (decide (x = 65039) && decide (0 < k)) = true by rw [decide_eq_true hf, decide_eq_true hk0]; rfl)
            clear hf hk0
            go_wp2_with fail
            refine (rof_t 5 c0 HR.out HI0.out).mono ?_
            rintro e w1 ⟨rfl, rfl⟩
            by_cases hp : ofA R 5 c0 = 1
            · have q4 : (ofA R 5 c0 == 1) = true := by simpa using hp
              have HP := Lib.hid (show (tabOf R).p c0 = true from decide_eq_true hp)
              clear hp
              have HHit := Lib.hid (show hit1 R c0 k x = true by unfold hit1; rw [← HWd.out]; rfl)
              clear HS7
              have e1 := IntWalk.i64_in ((k : Int) + 1) (by omega)
              go_wp2_with fail
              go_roundw
              case rel => exact ⟨k + 1, b || hit1 R c0 k x, _, by omega, rfl, by go_num, by rw [HHit.out, Bool.or_true]; rfl, by first | rfl | trivial, by rw [HH.out, HD.out, Bool.or_assoc]⟩
              case measure => simp [intOf] <;> omega
            · have q4 : (ofA R 5 c0 == 1) = false := by simpa using hp
              have HP := Lib.hid (show (tabOf R).p c0 = false from decide_eq_false hp)
              clear hp
              have HHit := Lib.hid (show hit1 R c0 k x = true by unfold hit1; rw [← HWd.out]; rfl)
              clear HS7
              have e1 := IntWalk.i64_in ((k : Int) + 1) (by omega)
              go_wp2_with fail
              go_roundw
              case rel => exact ⟨k + 1, b || hit1 R c0 k x, _, by omega, rfl, by go_num, by rw [HHit.out, Bool.or_true]; rfl, by first | rfl | trivial, by rw [HH.out, HD.out, Bool.or_assoc]⟩
              case measure => simp [intOf] <;> omega
          · have q3 : (x == 65039) = false := by simpa using hf
            have HS7 := Lib.hid (show (false || ((decide (x = 65039) && decide (0 < k)) && (tabOf R).p c0)) = false by rw [decide_eq_false hf]; rfl)
            clear hf hk0
            have HHit := Lib.hid (show hit1 R c0 k x = true by unfold hit1; rw [← HWd.out]; rfl)
            clear HS7
            have e1 := IntWalk.i64_in ((k : Int) + 1) (by omega)
            go_wp2_with fail
            go_roundw
            case rel => exact ⟨k + 1, b || hit1 R c0 k x, _, by omega, rfl, by go_num, by rw [HHit.out, Bool.or_true]; rfl, by first | rfl | trivial, by rw [HH.out, HD.out, Bool.or_assoc]⟩
            case measure => simp [intOf] <;> omega
        · have q2 : decide ((k : Int) > 0) = false := decide_eq_false (by omega)
          have q2' : decide (0 < k) = false := decide_eq_false hk0
          have HS7 := Lib.hid (show (false || ((decide (x = 65039) && decide (0 < k)) && (tabOf R).p c0)) = false by rw [decide_eq_false hk0, Bool.and_false]; rfl)
          clear hk0
          have HHit := Lib.hid (show hit1 R c0 k x = true by unfold hit1; rw [← HWd.out]; rfl)
          clear HS7
          have e1 := IntWalk.i64_in ((k : Int) + 1) (by omega)
          go_wp2_with fail
          go_roundw
          case rel => exact ⟨k + 1, b || hit1 R c0 k x, _, by omega, rfl, by go_num, by rw [HHit.out, Bool.or_true]; rfl, by first | rfl | trivial, by rw [HH.out, HD.out, Bool.or_assoc]⟩
          case measure => simp [intOf] <;> omega
      | false =>
        have q1 : (ofA R 7 x == 1) = false := by simpa using of_decide_eq_false hwd.symm
        clear hwd
        go_upto_region 7 with fail
        by_cases hk0 : 0 < k
        · have q2 : (k : Int) > 0 := by omega
          by_cases hf : x = 65039
          · have q3 : (x == 65039) = true := by simpa using hf
            have HS7 := Lib.hid (show (decide (x = 65039) && decide (0 < k)) = true by rw [decide_eq_true hf, decide_eq_true hk0]; rfl)
            clear hf hk0
            go_wp2_with fail
            refine (rof_t 5 c0 HR.out HI0.out).mono ?_
            rintro e w1 ⟨rfl, rfl⟩
            by_cases hp : ofA R 5 c0 = 1
            · have q4 : (ofA R 5 c0 == 1) = true := by simpa using hp
              have HP := Lib.hid (show (tabOf R).p c0 = true from decide_eq_true hp)
              clear hp
              have HHit := Lib.hid (show hit1 R c0 k x = true by unfold hit1; rw [← HWd.out]; rw [HS7.out, HP.out]; rfl)
              clear HS7
              have e1 := IntWalk.i64_in ((k : Int) + 1) (by omega)
              go_wp2_with fail
              go_roundw
              case rel => exact ⟨k + 1, b || hit1 R c0 k x, _, by omega, rfl, by go_num, by rw [HHit.out, Bool.or_true]; rfl, by first | rfl | trivial, by rw [HH.out, HD.out, Bool.or_assoc]⟩
              case measure => simp [intOf] <;> omega
            · have q4 : (ofA R 5 c0 == 1) = false := by simpa using hp
              have HP := Lib.hid (show (tabOf R).p c0 = false from decide_eq_false hp)
              clear hp
              have HHit := Lib.hid (show hit1 R c0 k x = false by unfold hit1; rw [← HWd.out]; rw [HP.out, Bool.and_false]; rfl)
              clear HS7
              have e1 := IntWalk.i64_in ((k : Int) + 1) (by omega)
              go_wp2_with fail
              go_roundw
              case rel => exact ⟨k + 1, b || hit1 R c0 k x, _, by omega, rfl, by go_num, by rw [HHit.out, Bool.or_false]; exact HM.out, by first | rfl | trivial, by rw [HH.out, HD.out, Bool.or_assoc]⟩
              case measure => simp [intOf] <;> omega
          · have q3 : (x == 65039) = false := by simpa using hf
            have HS7 := Lib.hid (show (false || ((decide (x = 65039) && decide (0 < k)) && (tabOf R).p c0)) = false by rw [decide_eq_false hf]; rfl)
            clear hf hk0
            have HHit := Lib.hid (show hit1 R c0 k x = false by unfold hit1; rw [← HWd.out]; exact HS7.out)
            clear HS7
            have e1 := IntWalk.i64_in ((k : Int) + 1) (by omega)
            go_wp2_with fail
            go_roundw
            case rel => exact ⟨k + 1, b || hit1 R c0 k x, _, by omega, rfl, by go_num, by rw [HHit.out, Bool.or_false]; exact HM.out, by first | rfl | trivial, by rw [HH.out, HD.out, Bool.or_assoc]⟩
            case measure => simp [intOf] <;> omega
        · have q2 : decide ((k : Int) > 0) = false := decide_eq_false (by omega)
          have q2' : decide (0 < k) = false := decide_eq_false hk0
          have HS7 := Lib.hid (show (false || ((decide (x = 65039) && decide (0 < k)) && (tabOf R).p c0)) = false by rw [decide_eq_false hk0, Bool.and_false]; rfl)
          clear hk0
          have HHit := Lib.hid (show hit1 R c0 k x = false by unfold hit1; rw [← HWd.out]; exact HS7.out)
          clear HS7
          have e1 := IntWalk.i64_in ((k : Int) + 1) (by omega)
          go_wp2_with fail
          go_roundw
          case rel => exact ⟨k + 1, b || hit1 R c0 k x, _, by omega, rfl, by go_num, by rw [HHit.out, Bool.or_false]; exact HM.out, by first | rfl | trivial, by rw [HH.out, HD.out, Bool.or_assoc]⟩
          case measure => simp [intOf] <;> omega
    · have hke : k = s.length := by omega
      subst hke
      have HT := Lib.hid (show hits1 R (s.headD 0) 0 s = b by rw [← HC0.out, HH.out, List.drop_length]; simp [hits1])
      have r0 : decide ((s.length : Int) < (s.length : Int)) = false := by simp
      clear hlt hk
      by_cases h1 : s.length > 1
      · have q1 : (s.length : Int) > 1 := by omega
        obtain ⟨a, ha⟩ : ∃ x, s[0]? = some x := ⟨s[0], List.getElem?_eq_getElem (by omega)⟩
        obtain ⟨a2, ha2⟩ : ∃ x, s[1]? = some x := ⟨s[1], List.getElem?_eq_getElem (by omega)⟩
        have HI := Lib.hid (HOk.out.get ha)
        have HI2 := Lib.hid (HOk.out.get ha2)
        have HF2 := Lib.hid (flags2_at (R := R) ha ha2)
        obtain ⟨b0, off, cap', hv, _, _, _, _, d0⟩ := rune_cell HS.out ha
        cases hv
        obtain ⟨_, _, _, hv, _, _, _, _, d1⟩ := rune_cell HS.out ha2
        cases hv
        rw [Nat.add_zero] at d0
        have q2 : (0 : Int) < (s.length : Int) := by omega
        have q3 : (1 : Int) < (s.length : Int) := by omega
        clear ha ha2 h1
        go_wp2_with fail
        refine (rbrk_t a HR.out HI.out).mono ?_
        rintro e w1 ⟨rfl, rfl⟩
        by_cases c1 : (tabOf R).b a = 6
        · have e1 : ((tabOf R).b a == 6) = true := by simpa using c1
          have HB1 := Lib.hid c1
          clear c1
          go_wp2_with fail
          refine (rbrk_t a2 HR.out HI2.out).mono ?_
          rintro e w1 ⟨rfl, rfl⟩
          by_cases c2 : (tabOf R).b a2 = 6
          · have e2 : ((tabOf R).b a2 == 6) = true := by simpa using c2
            have HFl := Lib.hid (show flags2 R s = true by rw [HF2.out, decide_eq_true HB1.out, decide_eq_true c2]; rfl)
            clear c2
            go_wp2_with fail
            go_ret
            exact wid_ref HT.out HFl.out (by rw [Bool.or_true]; rfl) (.refl _ _)
          · have e2 : ((tabOf R).b a2 == 6) = false := by simpa using c2
            have HFl := Lib.hid (show flags2 R s = false by rw [HF2.out, decide_eq_false c2, Bool.and_false])
            clear c2
            go_wp2_with fail
            go_ret
            exact wid_ref HT.out HFl.out (by rw [Bool.or_false]; exact HM.out) (.refl _ _)
        · have e1 : ((tabOf R).b a == 6) = false := by simpa using c1
          have HFl := Lib.hid (show flags2 R s = false by rw [HF2.out, decide_eq_false c1]; rfl)
          clear c1
          go_wp2_with fail
          go_ret
          exact wid_ref HT.out HFl.out (by rw [Bool.or_false]; exact HM.out) (.refl _ _)
      · have q1 : decide ((s.length : Int) > 1) = false := decide_eq_false (by omega)
        have q2 : decide (1 < s.length) = false := decide_eq_false (by omega)
        have HFl := Lib.hid (flags2_short (R := R) (l := s) (by omega))
        clear h1
        go_wp2_with fail
        go_ret
        exact wid_ref HT.out HFl.out (by rw [Bool.or_false]; exact HM.out) (.refl _ _)
end
end Go.Proofs.YtkeainhjghdfcaaGreat

/- Clusters one by one: slices.Clone of scalars, seg.Clusters, the document's Clusters. -/
namespace Go.Proofs.YtkeainhjghdfcaaGreat
open Go.RowKit

set_option maxRecDepth 100000 in
set_option maxHeartbeats 400000 in
theorem clone_runes {w : World} {v : Value} {l : List Int} (h : RunesIn w v l) (hn : 0 < l.length) (hsz : l.length ≤ 1000000) :
    Calls Tryz.prog 150 #[v] w fun e w' => ∃ u, e = .returned u ∧ w'.ownsRow w.heap.size 21 1 u l.length (l.flatMap runeE) ∧ Below w.heap.size w w' := by
  obtain ⟨a0, cap, rfl, hcap, hmax, hl, hq⟩ := h
  obtain ⟨b, off, rfl, hb, hc⟩ := hq hn
  have hnews : ∀ j u, (l.flatMap runeE)[j]? = some u → (w.alloc (.cells #[] 21)).cell? ((⟨b, off, none⟩ : Addr).add j) = some u := by
    intro j u hu
    rw [addr_off]
    have hcu := hc j u hu
    exact (World.cell?_of_block (Below.heap_alloc _ _ _ (World.block_lt_of_cell? w _ hcu))).trans hcu
  have hnil := fun W : World => Lib.run_eql_slice_nil (P := Tryz.prog) W 35 21 (some ⟨b, off, none⟩) l.length cap 0 0 Tryz.underlying35
  have H1 := Lib.hid hnews
  have H2 := Lib.hid hl
  have H3 := Lib.hid (runeE_one l)
  clear hnews hl hc hq hmax hcap
  go_enter Tryz.func150, Tryz.ntmps150
  go_wp2_with (at_builtin; refine wpList_app2 _ rfl _ _ _ rfl ER _ 0 [] rfl (World.ownsRow_made w #[] 0 (Nat.le_refl _) (by unfold maxLen; omega) (by simp)) ⟨b, off, none⟩ l.length cap (l.flatMap runeE) rfl hn H2.out H1.out H3.out (by omega) (by simp) ?_; intro g c w1 ho hg hf)
  have hB : Below w.heap.size w w1 := ((Below.refl _ _).alloc (Nat.le_refl _) _).grown hg (by simp) (fun k e => by cases e; exact Nat.le_refl _)
  have HO := Lib.hid ho
  clear ho hg hf
  go_ret
  have := HO.out
  simp only [Nat.zero_add, List.nil_append] at this
  exact ⟨_, rfl, by simpa using this, hB⟩

/-- a text's clusters -/
def clusN (T : Tab) : Nat → List Int → List (List Int)
  | 0, _ => []
  | n + 1, s => match s with
    | [] => []
    | x :: l => (x :: l).take (nx T (x :: l)) :: clusN T n ((x :: l).drop (nx T (x :: l)))
theorem clusN_eq (T : Tab) : ∀ (n m : Nat) (s : List Int), s.length ≤ n → s.length ≤ m → clusN T n s = clusN T m s
  | 0, 0, _, _, _ => rfl
  | 0, m + 1, s, h, _ => by
    have : s = [] := List.eq_nil_of_length_eq_zero (by omega)
    subst this; rfl
  | n + 1, 0, s, _, h => by
    have : s = [] := List.eq_nil_of_length_eq_zero (by omega)
    subst this; rfl
  | n + 1, m + 1, s, h1, h2 => by
    cases s with
    | nil => rfl
    | cons x l =>
      simp only [clusN]
      have hp := nx_pos T (s := x :: l) (by simp)
      rw [clusN_eq T n m _ (by rw [List.length_drop]; omega) (by rw [List.length_drop]; omega)]
def clus (T : Tab) (s : List Int) : List (List Int) := clusN T s.length s
theorem clus_nil (T : Tab) : clus T [] = [] := rfl
theorem clus_step (T : Tab) {s : List Int} (h : s ≠ []) : clus T s = s.take (nx T s) :: clus T (s.drop (nx T s)) := by
  cases s with
  | nil => exact absurd rfl h
  | cons x l =>
    have hp := nx_pos T (s := x :: l) (by simp)
    unfold clus
    show clusN T (l.length + 1) (x :: l) = _
    simp only [clusN]
    rw [clusN_eq T l.length _ _ (by rw [List.length_drop]; simp; omega) (Nat.le_refl _)]
theorem clusN_len (T : Tab) : ∀ (n : Nat) (s : List Int), (clusN T n s).length ≤ n
  | 0, _ => Nat.le_refl _
  | n + 1, s => by
    cases s with
    | nil => simp [clusN]
    | cons x l => simp only [clusN, List.length_cons]; have := clusN_len T n ((x :: l).drop (nx T (x :: l))); omega
/-- v reads as the texts LL -/
def TextsIn (w : World) (v : Value) (LL : List (List Int)) : Prop := ∃ vs : List Value, Rd w.heap.size w 1 v LL.length vs ∧ ∀ (i : Nat) (u : Value) (l : List Int), vs[i]? = some u → LL[i]? = some l → RunesIn w u l
theorem TextsIn.below {w w' : World} {v : Value} {LL : List (List Int)} (h : TextsIn w v LL) (hb : Below w.heap.size w w') : TextsIn w' v LL :=
  let ⟨vs, h1, h2⟩ := h
  ⟨vs, (Rd.below h1 hb (Nat.le_refl _)).mono hb.size, fun i u l hu hl => (h2 i u l hu hl).below hb⟩
section
variable {R : List Rw} {s : List Int} {w : World} {v sv : Value} {tp : Nat}
set_option maxRecDepth 100000 in
set_option maxHeartbeats 8000000 in
theorem clusters_any (hT : Tb R w tp) (hs : RunesIn w sv s) (ok : RunesOk s) (hl : s.length ≤ 1000000) :
    Calls Tryz.prog 98 #[.pointer (some ⟨tp, 0, none⟩), sv] w fun e w' => ∃ u, e = .returned u ∧ Below w.heap.size w w' ∧ TextsIn w' u (clus (tabOf R) s) := by
  have HT := Lib.hid hT
  have HS := Lib.hid hs
  have HOk := Lib.hid ok
  have hlen := clusN_len (tabOf R) s.length s
  obtain ⟨sl, cap, rfl, hcap, hmax, hcells⟩ := runes_cells hs
  unfold maxLen at hmax
  clear hT hs ok
  go_enter Tryz.func98, Tryz.ntmps98
  go_wp2_with fail
  go_loopw [5, 6] (fun ov iv wr => ∃ (k : Nat) (LL : List (List Int)) (vs : List Value), k ≤ s.length ∧ LL.length ≤ k ∧ vs.length = LL.length ∧ iv = .int .i64 ((k : Nat) : Int) ∧ Below w.heap.size w wr ∧ wr.ownsRow w.heap.size 35 1 ov LL.length vs ∧
    (∀ (i : Nat) (u : Value) (l : List Int), vs[i]? = some u → LL[i]? = some l → wr.ownsRow w.heap.size 21 1 u l.length (l.flatMap runeE) ∧ Sep ov u) ∧ LL ++ clus (tabOf R) (s.drop k) = clus (tabOf R) s) (fun _ iv _ => s.length - (intOf iv).toNat)
  case atStart => exact ⟨0, [], [], Nat.zero_le _, Nat.le_refl _, rfl, rfl, .refl _ _, World.ownsRow_nil _ _ _ _, fun i u l h => by simp at h, rfl⟩
  case round =>
    obtain ⟨k, LL, vs, hk, hLk, hvl, rfl, hB, hO, hE, hC⟩ := hrel
    have HB := Lib.hid hB
    have HE := Lib.hid hE
    have HC := Lib.hid hC
    obtain ⟨pa, pc, rfl⟩ := slice_of_owns hO
    have HO := Lib.hid hO
    clear hB hO hE hC
    by_cases hlt : k < s.length
    · have hne : s.drop k ≠ [] := fun e => by have := congrArg List.length e; rw [List.length_drop] at this; simp at this; omega
      have hp := nx_pos (tabOf R) hne
      have hnl : nx (tabOf R) (s.drop k) ≤ s.length - k := by have := nx_le (tabOf R) (s.drop k); rwa [List.length_drop] at this
      have HCall := Lib.hid (next_any k (HT.out.below HB.out) (HS.out.below HB.out) HOk.out hlt hl)
      have HSt := Lib.hid (clus_step (tabOf R) hne)
      generalize hnx : nx (tabOf R) (s.drop k) = n at HCall HSt hp hnl
      clear hnx hne
      obtain ⟨sb, soff, hsl, hsb, _⟩ := hcells (by omega)
      subst hsl
      have r0 : (k : Int) < (s.length : Int) := by omega
      have r1 : (0 : Int) ≤ (k : Int) := by omega
      have r2 : (k : Int) ≤ ((k + n : Nat) : Int) := by omega
      have r3 : ((k + n : Nat) : Int) ≤ (cap : Int) := by omega
      have r4 : (k : Int) ≤ (k : Int) + (n : Int) := by omega
      have r5 : (k : Int) + (n : Int) ≤ (cap : Int) := by omega
      have r6 : ¬ k = cap := by omega
      have r7 : ((k : Int) + (n : Int) - (k : Int)).toNat = n := by omega
      have r8 : ((cap : Int) - (k : Int)).toNat = cap - k := by omega
      have r9 : ((k : Int) + (n : Int)).toNat = k + n := by omega
      go_wp2_with fail
      refine HCall.out.mono ?_
      rintro e w1 ⟨rfl, hB1⟩
      have HB1 := Lib.hid (HB.out.trans (hB1.mono HB.out.size))
      have HO1 := Lib.hid (owns_stays HO.out hB1)
      have HE1 := Lib.hid (fun (i : Nat) (u : Value) (l : List Int) hu hl' => (⟨owns_stays (HE.out i u l hu hl').1 hB1, (HE.out i u l hu hl').2⟩ : w1.ownsRow w.heap.size 21 1 u l.length (l.flatMap runeE) ∧ Sep (.slice pa LL.length pc) u))
      have HSub := Lib.hid (show RunesIn w1 (.slice (some ⟨sb, soff + k, none⟩) (k + n - k) (cap - k)) ((s.take (k + n)).drop k) from runes_sub (HS.out.below HB1.out) (by omega) (by omega) (Nat.lt_of_lt_of_le hsb HB1.out.size))
      have hln : ((s.take (k + n)).drop k).length = n := by rw [List.length_drop, List.length_take]; omega
      rw [show k + n - k = n by omega] at HSub
      have HClone := Lib.hid (clone_runes HSub.out (by omega) (by omega))
      clear hB1 HO HE HB HCall
      go_wp2_with fail
      refine HClone.out.mono ?_
      rintro e w2 ⟨u, rfl, ho, hB2⟩
      have HB2 := Lib.hid (HB1.out.trans (hB2.mono HB1.out.size))
      have HO2 := Lib.hid (owns_stays HO1.out hB2)
      rw [hln] at ho
      have hsep : Sep (.slice pa LL.length pc) u := .inr fun e => by
        cases hob : (Value.slice pa LL.length pc).ownBlock with
        | none =>
          obtain ⟨g, c, rfl, hg, _⟩ := ownBlock_of_owns ho (by omega)
          rw [hob] at e; cases e
        | some b =>
          have h1 := (HO1.out.lt b hob).2
          have h2 := (ho.lt b (by rw [← e]; exact hob)).1
          omega
      have HU := Lib.hid (owns_lower ho HB1.out.size)
      have HE2 := Lib.hid (fun (i : Nat) (u : Value) (l : List Int) hu hl' => (⟨owns_stays (HE1.out i u l hu hl').1 hB2, (HE1.out i u l hu hl').2⟩ : w2.ownsRow w.heap.size 21 1 u l.length (l.flatMap runeE) ∧ Sep (.slice pa LL.length pc) u))
      have HSep := Lib.hid hsep
      have hbs := HB2.out.size
      obtain ⟨ua, uc, rfl⟩ := slice_of_owns ho
      clear ho hB2 hsep HB1 HO1 HE1 HClone HSub
      go_wp2_with (at_builtin; refine wpList_app1 _ rfl (.tmp 16) (.tmp 22) _ rfl ERR _ _ _ rfl HO2.out 1 1 [.slice ua n uc] rfl (by decide) rfl (by intro u hu; simp at hu; subst hu; rfl) (by omega) hbs ?_; intro g c w7 ho7 hg7 hf7)
      have HB7 := Lib.hid (below_app HB2.out hbs HO2.out (Nat.le_refl _) hg7)
      have HO7 := Lib.hid ho7
      have HN := Lib.hid (show (LL ++ [(s.take (k + n)).drop k]) ++ clus (tabOf R) (s.drop (k + n)) = clus (tabOf R) s by
        rw [← HC.out, HSt.out, List.append_assoc]
        congr 1
        rw [List.drop_drop, List.singleton_append, List.drop_take, show k + n - k = n by omega])
      have HE7 := Lib.hid (show ∀ (i : Nat) (u : Value) (l : List Int), (vs ++ [.slice ua n uc])[i]? = some u → (LL ++ [(s.take (k + n)).drop k])[i]? = some l → w7.ownsRow w.heap.size 21 1 u l.length (l.flatMap runeE) ∧ Sep (.slice (some ⟨g, 0, none⟩) (LL.length + 1) c) u from fun i u l hu hl' => by
        by_cases hi : i < vs.length
        · rw [List.getElem?_append_left hi] at hu
          rw [List.getElem?_append_left (by omega)] at hl'
          obtain ⟨h1, h2⟩ := HE2.out i u l hu hl'
          exact And.symm (Sep.app h2 h1 hf7 hg7)
        · have hi' : i = vs.length := by
            have := (List.getElem?_eq_some_iff.1 hu).1
            simp at this; omega
          subst hi'
          rw [List.getElem?_append_right (Nat.le_refl _), Nat.sub_self] at hu
          rw [List.getElem?_append_right (by omega), show vs.length - LL.length = 0 by omega] at hl'
          simp at hu hl'
          subst hu
          subst hl'
          rw [hln]
          exact And.symm (Sep.app HSep.out HU.out hf7 hg7))
      clear ho7 hg7 hf7
      go_wp2_with fail
      go_roundw
      case rel => exact ⟨k + n, LL ++ [(s.take (k + n)).drop k], vs ++ [.slice ua n uc], by omega, by simp; omega, by simp [hvl], rfl, HB7.out, by
                    have ho := HO7.out
                    rw [List.length_append]; exact ho, HE7.out, HN.out⟩
      case measure => simp [intOf] <;> omega
    · have hke : k = s.length := by omega
      subst hke
      have HF := Lib.hid (show LL = clus (tabOf R) s by rw [← HC.out, List.drop_length, clus_nil, List.append_nil])
      clear hlt hk
      go_wp2_with fail
      go_ret
      exact ⟨_, rfl, HB.out, by
        rw [← HF.out]
        exact ⟨vs, rd_of_owns HO.out, fun i u l hu hl' => rd_of_owns (HE.out i u l hu hl').1⟩⟩
end
end Go.Proofs.YtkeainhjghdfcaaGreat

/- The document's Clusters; texts compared; SegClusters: its walk. -/
namespace Go.Proofs.YtkeainhjghdfcaaGreat
open Go.RowKit

section
variable {R : List Rw} {s : List Int} {w : World} {v sv : Value} {tp : Nat}
set_option maxRecDepth 100000 in
set_option maxHeartbeats 8000000 in
theorem rclusters_any (H : (tabOf R).Ok) (hR : RowsIn w v R) (hs : RunesIn w sv s) (ok : RunesOk s) (hl : s.length ≤ 1000000) :
    Calls Tryz.prog 82 #[v, sv] w fun e w' => ∃ u, e = .returned u ∧ Below w.heap.size w w' ∧ TextsIn w' u (clus (tabOf R) s) := by
  have HR := Lib.hid hR
  have HS := Lib.hid hs
  have HOk := Lib.hid ok
  have HTk := Lib.hid H
  obtain ⟨sl, cap, rfl, hcap, hmax, hcells⟩ := runes_cells hs
  unfold maxLen at hmax
  clear hR hs ok H
  go_enter Tryz.func82, Tryz.ntmps82
  go_wp2_with fail
  go_loopw [5, 6] (fun ov iv wr => ∃ (k : Nat) (LL : List (List Int)) (vs : List Value), k ≤ s.length ∧ LL.length ≤ k ∧ vs.length = LL.length ∧ iv = .int .i64 ((k : Nat) : Int) ∧ (k = s.length ∨ begAt (tabOf R) s k = true) ∧ Below w.heap.size w wr ∧ wr.ownsRow w.heap.size 35 1 ov LL.length vs ∧
    (∀ (i : Nat) (u : Value) (l : List Int), vs[i]? = some u → LL[i]? = some l → RunesIn w u l) ∧ LL ++ clus (tabOf R) (s.drop k) = clus (tabOf R) s) (fun _ iv _ => s.length - (intOf iv).toNat)
  case atStart => exact ⟨0, [], [], Nat.zero_le _, Nat.le_refl _, rfl, rfl, by
    cases s with
    | nil => exact .inl rfl
    | cons x l => exact .inr rfl, .refl _ _, World.ownsRow_nil _ _ _ _, fun i u l h => by simp at h, rfl⟩
  case round =>
    obtain ⟨k, LL, vs, hk, hLk, hvl, rfl, hb, hB, hO, hE, hC⟩ := hrel
    have HB := Lib.hid hB
    have HE := Lib.hid hE
    have HC := Lib.hid hC
    have HBg := Lib.hid hb
    obtain ⟨pa, pc, rfl⟩ := slice_of_owns hO
    have HO := Lib.hid hO
    clear hB hO hE hC hb
    by_cases hlt : k < s.length
    · have hne : s.drop k ≠ [] := fun e => by have := congrArg List.length e; rw [List.length_drop] at this; simp at this; omega
      have hbk := HBg.out.resolve_left (by omega)
      have hp := nx_pos (tabOf R) hne
      have hnl : nx (tabOf R) (s.drop k) ≤ s.length - k := by have := nx_le (tabOf R) (s.drop k); rwa [List.length_drop] at this
      have HCall := Lib.hid (rnext_any k (HR.out.below HB.out) (HS.out.below HB.out) HOk.out hlt hl)
      rw [← nx_fnb HTk.out hbk] at HCall
      have HNb := Lib.hid (nx_spec HTk.out hbk).2.2.2
      have HSt := Lib.hid (clus_step (tabOf R) hne)
      generalize hnx : nx (tabOf R) (s.drop k) = n at HCall HSt hp hnl HNb
      clear hnx hne hbk
      obtain ⟨sb, soff, hsl, hsb, _⟩ := hcells (by omega)
      subst hsl
      have r0 : (k : Int) < (s.length : Int) := by omega
      have r1 : (0 : Int) ≤ (k : Int) := by omega
      have r2 : (k : Int) ≤ ((k + n : Nat) : Int) := by omega
      have r3 : ((k + n : Nat) : Int) ≤ (cap : Int) := by omega
      have r4 : (k : Int) ≤ (k : Int) + (n : Int) := by omega
      have r5 : (k : Int) + (n : Int) ≤ (cap : Int) := by omega
      have r6 : ¬ k = cap := by omega
      have r7 : ((k : Int) + (n : Int) - (k : Int)).toNat = n := by omega
      have r8 : ((cap : Int) - (k : Int)).toNat = cap - k := by omega
      have r9 : ((k : Int) + (n : Int)).toNat = k + n := by omega
      go_wp2_with fail
      refine HCall.out.mono ?_
      rintro e w1 ⟨rfl, hB1⟩
      have HB1 := Lib.hid (HB.out.trans (hB1.mono HB.out.size))
      have HO1 := Lib.hid (owns_stays HO.out hB1)
      have HSub := Lib.hid (show RunesIn w (.slice (some ⟨sb, soff + k, none⟩) (k + n - k) (cap - k)) ((s.take (k + n)).drop k) from runes_sub HS.out (by omega) (by omega) hsb)
      have hln : ((s.take (k + n)).drop k).length = n := by rw [List.length_drop, List.length_take]; omega
      rw [show k + n - k = n by omega] at HSub
      have hbs := HB1.out.size
      clear hB1 HO HB HCall
      go_wp2_with (at_builtin; refine wpList_app1 _ rfl (.tmp 16) (.tmp 21) _ rfl ERR _ _ _ rfl HO1.out 1 1 [.slice (some ⟨sb, soff + k, none⟩) n (cap - k)] rfl (by decide) rfl (by intro u hu; simp at hu; subst hu; rfl) (by omega) hbs ?_; intro g c w7 ho7 hg7 hf7)
      have HB7 := Lib.hid (below_app HB1.out hbs HO1.out (Nat.le_refl _) hg7)
      have HO7 := Lib.hid ho7
      have HN := Lib.hid (show (LL ++ [(s.take (k + n)).drop k]) ++ clus (tabOf R) (s.drop (k + n)) = clus (tabOf R) s by
        rw [← HC.out, HSt.out, List.append_assoc]
        congr 1
        rw [List.drop_drop, List.singleton_append, List.drop_take, show k + n - k = n by omega])
      have HE7 := Lib.hid (show ∀ (i : Nat) (u : Value) (l : List Int), (vs ++ [.slice (some ⟨sb, soff + k, none⟩) n (cap - k)])[i]? = some u → (LL ++ [(s.take (k + n)).drop k])[i]? = some l → RunesIn w u l from fun i u l hu hl' => by
        by_cases hi : i < vs.length
        · rw [List.getElem?_append_left hi] at hu
          rw [List.getElem?_append_left (by omega)] at hl'
          exact HE.out i u l hu hl'
        · have hi' : i = vs.length := by
            have := (List.getElem?_eq_some_iff.1 hu).1
            simp at this; omega
          subst hi'
          rw [List.getElem?_append_right (Nat.le_refl _), Nat.sub_self] at hu
          rw [List.getElem?_append_right (by omega), show vs.length - LL.length = 0 by omega] at hl'
          simp at hu hl'
          subst hu
          subst hl'
          exact HSub.out)
      clear ho7 hg7 hf7
      go_wp2_with fail
      go_roundw
      case rel => exact ⟨k + n, LL ++ [(s.take (k + n)).drop k], vs ++ [.slice (some ⟨sb, soff + k, none⟩) n (cap - k)], by omega, by simp; omega, by simp [hvl], rfl, HNb.out, HB7.out, by
                    have ho := HO7.out
                    rw [List.length_append]; exact ho, HE7.out, HN.out⟩
      case measure => simp [intOf] <;> omega
    · have hke : k = s.length := by omega
      subst hke
      have HF := Lib.hid (show LL = clus (tabOf R) s by rw [← HC.out, List.drop_length, clus_nil, List.append_nil])
      clear hlt hk
      go_wp2_with fail
      go_ret
      exact ⟨_, rfl, HB.out, by
        rw [← HF.out]
        exact ⟨vs, rd_of_owns HO.out, fun i u l hu hl' => (HE.out i u l hu hl').below HB.out⟩⟩
end
theorem texts_cell {w : World} {v : Value} {LL : List (List Int)} (h : TextsIn w v LL) {k : Nat} {l : List Int} (hl : LL[k]? = some l) : ∃ b off cap u, v = .slice (some ⟨b, off, none⟩) LL.length cap ∧ cap ≤ maxLen ∧ LL.length ≤ cap ∧ k < LL.length ∧ b < w.heap.size ∧ w.cell? ⟨b, off + k, none⟩ = some u ∧ RunesIn w u l := by
  obtain ⟨vs, ⟨a, cap, rfl, h1, h2, h3, h4⟩, h5⟩ := h
  have hk := (List.getElem?_eq_some_iff.1 hl).1
  obtain ⟨b, off, rfl, hb, hq⟩ := h4 (by omega)
  have hv : vs[k]? = some (vs[k]'(by omega)) := List.getElem?_eq_getElem _
  exact ⟨b, off, cap, _, rfl, h2, h1, hk, hb, hq k _ hv, h5 k _ l hv hl⟩
theorem texts_shape {w : World} {v : Value} {LL : List (List Int)} (h : TextsIn w v LL) : ∃ a cap, v = .slice a LL.length cap ∧ LL.length ≤ cap ∧ cap ≤ maxLen := by
  obtain ⟨vs, ⟨a, cap, rfl, h1, h2, h3, h4⟩, h5⟩ := h
  exact ⟨a, cap, rfl, h1, h2⟩
end Go.Proofs.YtkeainhjghdfcaaGreat

/- Few: the first scalars of a slice. -/
namespace Go.Proofs.YtkeainhjghdfcaaGreat
open Go.RowKit

/-- a slice, cut -/
def fewV (n : Nat) : Value → Value
  | .slice a m c => .slice a (min n m) c
  | v => v
theorem few_at {w : World} {sl : Option Addr} {cap : Nat} {l : List Int} (h : RunesIn w (.slice sl l.length cap) l) (n : Nat) : Calls Tryz.prog 16 #[.slice sl l.length cap, .int .i64 (n : Nat)] w fun e w' => e = .returned (.slice sl (min n l.length) cap) ∧ w = w' := by
  obtain ⟨sl, cap, hv, hcap, hmax, hcells⟩ := runes_cells h
  cases hv
  unfold maxLen at hmax
  by_cases hn : n < l.length
  · have q0 : (l.length : Int) > (n : Int) := by omega
    have q1 : (0 : Int) ≤ (n : Int) := by omega
    have q2 : (n : Int) ≤ (cap : Int) := by omega
    have HM := Lib.hid (show min n l.length = n by omega)
    obtain ⟨b, off, rfl, _, _⟩ := hcells (by omega)
    clear h hcells
    go_enter Tryz.func16, Tryz.ntmps16
    go_wp2_with fail
    go_ret
    exact ⟨by rw [HM.out]; rfl, rfl⟩
  · have q0 : decide ((l.length : Int) > (n : Int)) = false := by rw [decide_eq_false_iff_not]; omega
    have HM := Lib.hid (show min n l.length = l.length by omega)
    clear h hcells
    go_enter Tryz.func16, Tryz.ntmps16
    go_wp2_with fail
    go_ret
    exact ⟨by rw [HM.out]; rfl, rfl⟩
theorem few_runes {w : World} {v : Value} {l : List Int} (h : RunesIn w v l) (n : Nat) : RunesIn w (fewV n v) (l.take n) := by
  obtain ⟨sl, cap, rfl, _, _, _⟩ := runes_cells h
  show RunesIn w (.slice sl (min n l.length) cap) (l.take n)
  by_cases hn : n ≤ l.length
  · rw [Nat.min_eq_left hn]; exact runes_take h hn
  · rw [Nat.min_eq_right (by omega), List.take_of_length_le (by omega)]; exact h
theorem texts_of_own {W : World} {w0 : World} {B : Nat} {e : TypeId} {pv : Value} {vs : List Value} {LL : List (List Int)} (h : W.ownsRow B e 1 pv vs.length vs) (hb : Below w0.heap.size w0 W) (hl : vs.length = LL.length) (hel : ∀ (i : Nat) (u : Value) (l : List Int), vs[i]? = some u → LL[i]? = some l → RunesIn w0 u l) : TextsIn W pv LL :=
  ⟨vs, by rw [← hl]; exact rd_of_owns h, fun i u l hu hl => (hel i u l hu hl).below hb⟩
end Go.Proofs.YtkeainhjghdfcaaGreat

/- Opening an argument that is a slice of texts. -/
namespace Go.Proofs.YtkeainhjghdfcaaGreat
open Go.RowKit Go.ChangeShapes Go.WideShapes Go.ChangeAt Go.Deep

theorem rs_core {H : Type} {enc0 : TypeId × Value → H} {P : Program} {W : World} {t e : TypeId} {sz : Nat} {α : Type} {enc : α → List Value} {ok : α → Prop} {spare : Nat → Bool} {fuel : Nat} {cs : List Value} {x : DataW H × List MemPlace}
    (ht : P.underlying t = some (.slice e)) (hC : P.cellsOf e = sz) (hsz : ∀ x, (enc x).length = sz) (hpos : 0 < sz) (hR : ∀ (fuel : Nat) (cs : List Value) (x : DataW H × List MemPlace), DataW.trod enc0 P W 0 spare true fuel e cs = some x → ∃ y, cs = enc y ∧ ok y)
    (hf : DataW.trod enc0 P W 0 spare true fuel t cs = some x) :
    ∃ v l, cs = [v] ∧ Rs W.heap.size W enc sz v l ∧ ∀ y ∈ l, ok y := by
  rcases open_slice ht hf with ⟨hcs, hx⟩ | ⟨a, len, cap, m, n, D, Pl, hcs, hb, hl, hm, hmm, hx, hi⟩
  · exact ⟨.slice none 0 0, [], hcs, Rd.nil _ _ _, fun y hy => by simp at hy⟩
  · rw [hC] at hi
    obtain ⟨l, hlen, hq⟩ := list_of_all (fun i (y : α) => (∀ k u, (enc y)[k]? = some u → W.cell? (a.add (i * sz + k)) = some u) ∧ ok y) len (fun i hil => by
      have him : i < m := by rw [hmm]; split <;> omega
      obtain ⟨cs', hc, ht'⟩ := hi i him
      obtain ⟨_, hcl, hat⟩ := World.cells?_some hc
      obtain ⟨y, rfl, hok⟩ := hR _ _ _ ht'
      refine ⟨y, fun k u hu => ?_, hok⟩
      have hk := (List.getElem?_eq_some_iff.1 hu).1
      rw [← Go.Deep.add_add, hat k (by omega), hu])
    subst hlen
    refine ⟨.slice (some a) l.length cap, l, hcs, ⟨some a, cap, rfl, hl, hm, flat_len hsz l, fun hn => ?_⟩, fun y hy => ?_⟩
    · obtain ⟨b, off, spot⟩ := a
      have h0 : l[0]? = some l[0] := List.getElem?_eq_getElem hn
      have hc0 := (hq 0 _ h0).1 0 ((enc l[0])[0]'(by rw [hsz]; exact hpos)) (List.getElem?_eq_getElem _)
      have hspot : spot = none := by simpa [Addr.add] using World.cell?_spot hc0
      subst hspot
      have hb : b < W.heap.size := by
        have := World.block_lt_of_cell? W _ hc0
        simpa [Addr.add] using this
      refine ⟨b, off, rfl, hb, fun j u hu => ?_⟩
      obtain ⟨i, x, hx, k, hk, rfl, hku⟩ := flat_index hsz l j u hu
      have := (hq i x hx).1 k u hku
      unfold Addr.add at this
      split at this
      · rename_i h0; rw [h0]; exact this
      · exact this
    · obtain ⟨i, hi'⟩ := List.mem_iff_getElem?.1 hy
      exact (hq i y hi').2
set_option maxRecDepth 100000 in
/-- a slice of texts that came in -/
theorem texts_of_trod {H : Type} {enc0 : TypeId × Value → H} {W : World} {v : Value} {d : DataW H} {p : List MemPlace} {spare : Nat → Bool} {r : Reach} {b0 : Nat}
    (hv : Value.okWide Tryz.prog W r b0 51 v) (h : DataW.Trod enc0 Tryz.prog W 0 spare true 51 v d p) : ∃ LL : List (List Int), TextsIn W v LL ∧ ∀ l ∈ LL, RunesOk l := by
  obtain ⟨a0, len, cap, rfl⟩ := okWide_slice Tryz.underlying51 hv
  obtain ⟨fuel, hf⟩ := h
  obtain ⟨u, l, hcs, hR, hok⟩ := rs_core (enc := fun y : Value × List Int => [y.1]) (ok := fun y => RunesIn W y.1 y.2 ∧ RunesOk y.2) (sz := 1) Tryz.underlying51 (by kernel_rfl) (fun _ => rfl) (by decide) (fun fuel cs x hx => by
    obtain ⟨u, l, rfl, h1, h2⟩ := rs_core (enc := fun n : Int => [Value.int .i32 n]) (ok := fun n => (Lit.int .i32 n).wf = true) (sz := 1) Tryz.underlying35 (by kernel_rfl) (fun _ => rfl) (by decide) (fun fuel cs x hx => reads_int Tryz.underlying21 _ _ _ _ _ _ _ _ _ hx) hx
    exact ⟨(u, l), rfl, h1, fun x hx => i32_of_wf (h2 x hx)⟩) hf
  have hu : Value.slice a0 len cap = u := by simpa [Value.cells] using hcs
  subst hu
  refine ⟨l.map (·.2), ⟨l.map (·.1), ?_, fun i u k hu hk => ?_⟩, fun k hk => ?_⟩
  · have h1 : l.flatMap (fun y : Value × List Int => [y.1]) = l.map (·.1) := by rw [← List.flatMap_singleton' (l.map (·.1)), List.flatMap_map]
    unfold Rs at hR
    rw [h1] at hR
    rw [List.length_map]
    exact hR
  · rw [List.getElem?_map, Option.map_eq_some_iff] at hu hk
    obtain ⟨y, hy, rfl⟩ := hu
    obtain ⟨z, hz, rfl⟩ := hk
    rw [hy] at hz
    cases hz
    exact (hok y (List.mem_of_getElem? hy)).1
  · obtain ⟨y, hy, rfl⟩ := List.mem_map.1 hk
    exact (hok y hy).2
end Go.Proofs.YtkeainhjghdfcaaGreat
