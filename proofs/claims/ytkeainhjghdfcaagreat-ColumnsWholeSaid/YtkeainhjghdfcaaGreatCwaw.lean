/- Joined texts: TabB. -/
import Derived.Test.YtkeainhjghdfcaaGreatCwas
import Derived.Test.YtkeainhjghdfcaaGreatCwav

/- ucd.Build: the tables of rows. -/
namespace Go.Proofs.YtkeainhjghdfcaaGreat
open Go.RowKit

def i32V (n : Int) : Value := .int .i32 n
def boolV (b : Bool) : Value := .bool b
def wf32 (n : Int) : Prop := (Lit.int .i32 n).wf = true
theorem key32 : KeyE Tryz.prog 21 i32V wf32 := keyInt Tryz.underlying21
theorem wf32_of {n : Int} (h : -2147483648 ≤ n ∧ n ≤ 2147483647) : wf32 n := by
  show (decide _ && decide _) = true
  rw [Bool.and_eq_true, decide_eq_true_eq, decide_eq_true_eq]
  exact ⟨Int.le_trans (by decide) h.1, Int.le_trans h.2 (by decide)⟩
theorem pairR_wf (R : List Rw) (r : Int) : wfP (pairR R r) := ⟨wf32_of (pairR_rng R r).1, wf32_of (pairR_rng R r).2⟩
theorem wrap_wf (n : Int) : (Lit.int .i32 (wrap32 n)).wf = true := wf32_of (wrap32_rng n)
/-- the tables, whole -/
structure TabW (R : List Rw) (cur : Int) (B : Nat) (w : World) (tp cb gb jb fb pb mb sb : Nat) (f : Pr → Option Int) (g : Int → Option Bool) : Prop where
  t : TabT R B w tp cb gb jb fb pb
  c5 : w.cell? ⟨tp, 5, none⟩ = some (.map (some mb))
  c6 : w.cell? ⟨tp, 6, none⟩ = some (.map (some sb))
  m : MapS aggP i32V wfP w mb f
  s : MapS i32V boolV wf32 w sb g
  ne : mb ≠ sb
  on : MadeOn R cur f g
  big : B ≤ w.heap.size
theorem TabW.below {R : List Rw} {cur : Int} {B : Nat} {w w' : World} {tp cb gb jb fb pb mb sb : Nat} {f : Pr → Option Int} {g : Int → Option Bool} (h : TabW R cur B w tp cb gb jb fb pb mb sb f g) (hb : Below w.heap.size w w') : TabW R cur B w' tp cb gb jb fb pb mb sb f g :=
  ⟨h.t.ck (ck_below hb), ck_below hb _ _ h.c5, ck_below hb _ _ h.c6, h.m.below hb, h.s.below hb, h.ne, h.on, Nat.le_trans h.big hb.size⟩
def BuildT (R : List Rw) (w : World) (e : Ending) (w' : World) : Prop :=
  ∃ tp cb gb jb fb pb mb sb f g, e = .returned (.pointer (some ⟨tp, 0, none⟩)) ∧ Below w.heap.size w w' ∧ w.heap.size ≤ tp ∧ TabW R 1114112 w'.heap.size w' tp cb gb jb fb pb mb sb f g

theorem Epp : ElemT Tryz.prog 119 127 4 24 := elemT_of (by kernel_rfl) (z := .agg #[.int .i64 0, .int .i64 0, .int .i32 0, .int .i32 0]) (by kernel_rfl) rfl (by decide) (by decide)
theorem ppenc_one (p : Pc Pr) : ∀ u ∈ ppenc p, u.oneCell' = true := by intro u hu; simp [ppenc] at hu; rcases hu with rfl | rfl | rfl | rfl <;> rfl

theorem step_mentry {P : Program} {w w' : World} {ops : Array Oper} {o : Oper} {a : Act} {K' : Act → World → Prop} {Q : Exit → Act → World → Prop} {F' : Prop} (hg : o.guard = none) {m x : Operand} {t : TypeId} (hop : o.op = Op.mapEntry t m x)
    {mv kv val : Value} (hm : a.eval m = mv) (hx : a.eval x = kv) (hr : (Instr.mapEntry t mv kv).run P w = .ok val w') (h : K' (a.put o.dst val) w') :
    if Region.wanted o (yielded ops a.tmps) = true then Oper.wp P o a w K' Q else F' := by
  rw [if_pos (by simp [Region.wanted, hg])]
  unfold Oper.wp
  simp [execOp, hop, hm, hx, hr, Result.andThen]
  exact h
theorem step_estore {P : Program} {w w' : World} {ops : Array Oper} {o : Oper} {a : Act} {K' : Act → World → Prop} {Q : Exit → Act → World → Prop} {F' : Prop} (hg : o.guard = none) {m s x : Operand} {t : TypeId} (hop : o.op = Op.entryStore t m s x)
    {mv sv xv : Value} (hm : a.eval m = mv) (hs : a.eval s = sv) (hx : a.eval x = xv) (hr : (Instr.entryStore t mv sv xv).run P w = .ok () w') (h : K' (a.put o.dst undef) w') :
    if Region.wanted o (yielded ops a.tmps) = true then Oper.wp P o a w K' Q else F' := by
  rw [if_pos (by simp [Region.wanted, hg])]
  unfold Oper.wp
  simp [execOp, hop, hm, hs, hx, hr, Result.andThen]
  exact h
set_option maxRecDepth 100000 in
set_option maxHeartbeats 1000000 in
theorem build_any (v : Value) (R : List Rw) (w : World) (hR : RowsIn w v R) (hok : RowsOk R) :
    Calls Tryz.prog 19 #[v] w (BuildT R w) := by
  have HR := Lib.hid hR
  have HOk := Lib.hid hok
  clear hR hok
  go_enter Tryz.func19, Tryz.ntmps19
  go_wp2_with fail
  refine (numbers_any v R 1 w HR.out HOk.out).mono ?_
  rintro e w1 ⟨cb, rfl, hcb, hB1, hT1⟩
  have HB1 := Lib.hid hB1
  have HT1 := Lib.hid hT1
  clear hB1 hT1 hcb
  go_wp2_with fail
  refine (numbers_any v R 4 w1 (HR.out.below HB1.out) HOk.out).mono ?_
  rintro e w2 ⟨gb, rfl, hgb, hB2, hT2⟩
  have HT1 := Lib.hid (HT1.out.below hB2 (Nat.le_refl _))
  have HT1 := Lib.hid (show TrieAt ienc1 1 (ofA R 1) w2.heap.size w2 cb from HT1.out.mono hB2.size)
  have HB2 := Lib.hid (below_trans' HB1.out hB2)
  have HT2 := Lib.hid hT2
  clear hB2 hT2 hgb
  go_wp2_with fail
  refine (numbers_any v R 6 w2 (HR.out.below HB2.out) HOk.out).mono ?_
  rintro e w3 ⟨jb, rfl, hjb, hB3, hT3⟩
  have HT1 := Lib.hid ((HT1.out.below hB3 (Nat.le_refl _)).mono hB3.size)
  have HT2 := Lib.hid ((HT2.out.below hB3 (Nat.le_refl _)).mono hB3.size)
  have HB3 := Lib.hid (below_trans' HB2.out hB3)
  have HT3 := Lib.hid hT3
  clear hB3 hT3 hjb
  go_wp2_with fail
  refine (truths_any v R w3 (HR.out.below HB3.out)).mono ?_
  rintro e w4 ⟨fb, rfl, hfb, hB4, hT4⟩
  have HT1 := Lib.hid ((HT1.out.below hB4 (Nat.le_refl _)).mono hB4.size)
  have HT2 := Lib.hid ((HT2.out.below hB4 (Nat.le_refl _)).mono hB4.size)
  have HT3 := Lib.hid ((HT3.out.below hB4 (Nat.le_refl _)).mono hB4.size)
  have HB4 := Lib.hid (below_trans' HB3.out hB4)
  have HT4 := Lib.hid hT4
  clear hB4 hT4 hfb
  go_wp2_with fail
  refine upon_run (run_makeMap _ _) ?_
  go_wp2_with fail
  refine upon_run (run_makeMap _ _) ?_
  go_wp2_with fail
  have hB5 : Below w4.heap.size w4 (((w4.alloc (.map #[] 0)).alloc (.map #[] 0)).alloc (.cells #[.pointer (some ⟨cb, 0, none⟩), .pointer (some ⟨gb, 0, none⟩), .pointer (some ⟨jb, 0, none⟩), .pointer (some ⟨fb, 0, none⟩), .pointer none, .map (some w4.heap.size), .map (some (w4.heap.size + 1))] 118)) := (((Below.refl w4.heap.size w4).alloc (Nat.le_refl _) (.map #[] 0)).alloc (by simp) (.map #[] 0)).alloc (by simp; omega) (.cells #[.pointer (some ⟨cb, 0, none⟩), .pointer (some ⟨gb, 0, none⟩), .pointer (some ⟨jb, 0, none⟩), .pointer (some ⟨fb, 0, none⟩), .pointer none, .map (some w4.heap.size), .map (some (w4.heap.size + 1))] 118)
  have hsz5 : (((w4.alloc (.map #[] 0)).alloc (.map #[] 0)).alloc (.cells #[.pointer (some ⟨cb, 0, none⟩), .pointer (some ⟨gb, 0, none⟩), .pointer (some ⟨jb, 0, none⟩), .pointer (some ⟨fb, 0, none⟩), .pointer none, .map (some w4.heap.size), .map (some (w4.heap.size + 1))] 118)).heap.size = w4.heap.size + 3 := by simp
  have hrow5 : (((w4.alloc (.map #[] 0)).alloc (.map #[] 0)).alloc (.cells #[.pointer (some ⟨cb, 0, none⟩), .pointer (some ⟨gb, 0, none⟩), .pointer (some ⟨jb, 0, none⟩), .pointer (some ⟨fb, 0, none⟩), .pointer none, .map (some w4.heap.size), .map (some (w4.heap.size + 1))] 118)).heap[w4.heap.size + 2]? = some (.cells #[.pointer (some ⟨cb, 0, none⟩), .pointer (some ⟨gb, 0, none⟩), .pointer (some ⟨jb, 0, none⟩), .pointer (some ⟨fb, 0, none⟩), .pointer none, .map (some w4.heap.size), .map (some (w4.heap.size + 1))] 118 (0, 0)) := by
    have := heap_alloc_new ((w4.alloc (.map #[] 0)).alloc (.map #[] 0)) (.cells #[.pointer (some ⟨cb, 0, none⟩), .pointer (some ⟨gb, 0, none⟩), .pointer (some ⟨jb, 0, none⟩), .pointer (some ⟨fb, 0, none⟩), .pointer none, .map (some w4.heap.size), .map (some (w4.heap.size + 1))] 118)
    rwa [show ((w4.alloc (.map #[] 0)).alloc (.map #[] 0)).heap.size = w4.heap.size + 2 by simp] at this
  have hm5 : MapS aggP i32V wfP (((w4.alloc (.map #[] 0)).alloc (.map #[] 0)).alloc (.cells #[.pointer (some ⟨cb, 0, none⟩), .pointer (some ⟨gb, 0, none⟩), .pointer (some ⟨jb, 0, none⟩), .pointer (some ⟨fb, 0, none⟩), .pointer none, .map (some w4.heap.size), .map (some (w4.heap.size + 1))] 118)) w4.heap.size (fun _ => none) := (mapS_made aggP i32V wfP w4).same (by
    rw [Below.heap_alloc _ _ _ (by simp; omega), Below.heap_alloc _ _ _ (by simp)])
  have hs5 : MapS i32V boolV wf32 (((w4.alloc (.map #[] 0)).alloc (.map #[] 0)).alloc (.cells #[.pointer (some ⟨cb, 0, none⟩), .pointer (some ⟨gb, 0, none⟩), .pointer (some ⟨jb, 0, none⟩), .pointer (some ⟨fb, 0, none⟩), .pointer none, .map (some w4.heap.size), .map (some (w4.heap.size + 1))] 118)) (w4.heap.size + 1) (fun _ => none) := by
    have h := mapS_made i32V boolV wf32 (w4.alloc (.map #[] 0))
    rw [show (w4.alloc (.map #[] 0)).heap.size = w4.heap.size + 1 by simp] at h
    exact h.same (Below.heap_alloc _ _ _ (by simp))
  have HB5 := Lib.hid hB5
  have HRow5 := Lib.hid hrow5
  have HM5 := Lib.hid hm5
  have HS5 := Lib.hid hs5
  have HSz5 := Lib.hid hsz5
  clear hB5 hrow5 hm5 hs5 hsz5
  generalize (((w4.alloc (.map #[] 0)).alloc (.map #[] 0)).alloc (.cells #[.pointer (some ⟨cb, 0, none⟩), .pointer (some ⟨gb, 0, none⟩), .pointer (some ⟨jb, 0, none⟩), .pointer (some ⟨fb, 0, none⟩), .pointer none, .map (some w4.heap.size), .map (some (w4.heap.size + 1))] 118)) = W5 at HB5 HRow5 HM5 HS5 HSz5 ⊢
  have hrow5 : W5.heap[w4.heap.size + 1 + 1]? = some (.cells #[.pointer (some ⟨cb, 0, none⟩), .pointer (some ⟨gb, 0, none⟩), .pointer (some ⟨jb, 0, none⟩), .pointer (some ⟨fb, 0, none⟩), .pointer none, .map (some w4.heap.size), .map (some (w4.heap.size + 1))] 118 (0, 0)) := HRow5.out
  generalize htp : w4.heap.size + 1 + 1 = tp at hrow5 ⊢
  have HTp := Lib.hid (show tp = w4.heap.size + 2 from htp.symm)
  have HRow5 := Lib.hid hrow5
  clear hrow5 htp
  have HT1 := Lib.hid ((HT1.out.below HB5.out (Nat.le_refl _)).mono HB5.out.size)
  have HT2 := Lib.hid ((HT2.out.below HB5.out (Nat.le_refl _)).mono HB5.out.size)
  have HT3 := Lib.hid ((HT3.out.below HB5.out (Nat.le_refl _)).mono HB5.out.size)
  have HT4 := Lib.hid ((HT4.out.below HB5.out (Nat.le_refl _)).mono HB5.out.size)
  have HBw := Lib.hid (below_trans' HB4.out HB5.out)
  refine (ofSpans_any v R 2 W5 (HR.out.below HBw.out)).mono ?_
  rintro e w6 ⟨sv, S, rfl, hO, hB6, hG, hS⟩
  have HS := Lib.hid hS
  have HG := Lib.hid hG
  have HB6 := Lib.hid hB6
  have HIn := Lib.hid hO.in
  have hfew := good_few hG
  have hb6 := hB6.size
  obtain ⟨sa, sc, rfl⟩ := slice_of_owns hO
  clear hS hG hB6 hO
  go_wp2_with fail
  go_loopw [4, 30] (fun pv' iv wr => ∃ k : Nat, k ≤ S.length ∧ iv = .int .i64 ((k : Nat) : Int) ∧ Below w6.heap.size w6 wr ∧ wr.ownsRow w6.heap.size 127 4 pv' (pcOf (fun s => ((wrap32 s.a, wrap32 s.b) : Pr)) (S.take k)).length ((pcOf (fun s => ((wrap32 s.a, wrap32 s.b) : Pr)) (S.take k)).flatMap ppenc)) (fun _ iv _ => S.length - (intOf iv).toNat)
  case atStart => exact ⟨0, Nat.zero_le _, rfl, .refl _ _, World.ownsRow_nil _ _ _ _⟩
  case round =>
    obtain ⟨k, hk, rfl, hB, hO⟩ := hrel
    have HO := Lib.hid hO
    have HB := Lib.hid hB
    have hbs := hB.size
    by_cases hlt : k < S.length
    · obtain ⟨x, hx⟩ : ∃ x, S[k]? = some x := ⟨S[k], List.getElem?_eq_getElem hlt⟩
      obtain ⟨b, off, cap', hv, _, _, _, d0, d1, d2, d3⟩ := span_cells (HIn.out.below hB) hx
      cases hv
      have HJ := Lib.hid (pcOf_take (fun s => ((wrap32 s.a, wrap32 s.b) : Pr)) hx)
      have hlen := pcOf_len (fun s => ((wrap32 s.a, wrap32 s.b) : Pr)) (S.take k)
      rw [List.length_take] at hlen
      obtain ⟨pa, pc, rfl⟩ := slice_of_owns hO
      clear hx hO hB
      generalize hP : pcOf (fun s => ((wrap32 s.a, wrap32 s.b) : Pr)) (S.take k) = P at HO HJ hlen ⊢
      clear hP
      have HOa := Lib.hid (World.ownsRow.alloc HO.out (.cells #[.int .i64 x.f, .int .i64 x.t, .int .i64 x.a, .int .i64 x.b] 123))
      have HBa := Lib.hid (HB.out.alloc hbs (.cells #[.int .i64 x.f, .int .i64 x.t, .int .i64 x.a, .int .i64 x.b] 123))
      have hbl : w6.heap.size ≤ (wr.alloc (.cells #[.int .i64 x.f, .int .i64 x.t, .int .i64 x.a, .int .i64 x.b] 123)).heap.size := HBa.out.size
      have HSz := Lib.hid (show (wr.alloc (.cells #[.int .i64 x.f, .int .i64 x.t, .int .i64 x.a, .int .i64 x.b] 123)).heap.size = wr.heap.size + 1 by simp)
      go_wp2_with (at_builtin; refine wpList_app1 _ rfl (.tmp 34) (.tmp 47) _ rfl Epp _ _ _ rfl HOa.out 1 1 (ppenc ⟨x.f, x.t, (wrap32 x.a, wrap32 x.b)⟩) (by rw [HSz.out]; rfl) (by decide) rfl (ppenc_one _) (by omega) hbl ?_; intro g cap w7 ho7 hg7 hf7)
      have HB1 := Lib.hid (below_app HBa.out hbl HOa.out (Nat.le_refl _) hg7)
      have HO1 := Lib.hid ho7
      clear ho7 hg7 hf7
      go_roundw
      case rel => exact ⟨k + 1, by omega, by go_num, HB1.out, by
                    have ho := HO1.out
                    have hpk : P.length = k := by omega
                    rw [hpk] at ho
                    rw [HJ.out, flat_snoc, List.length_append, hpk]; exact ho⟩
      case measure => simp [intOf]; omega
    · have hke : k = S.length := by omega
      subst hke
      rw [List.take_length] at hO
      have hRp : Rs wr.heap.size wr ppenc 4 u4 (pcOf (fun s => ((wrap32 s.a, wrap32 s.b) : Pr)) S) := rd_of_owns hO
      have HB7 := Lib.hid (below_trans' HB6.out hB)
      have hcall := build_pair u4 (pcOf (fun s => ((wrap32 s.a, wrap32 s.b) : Pr)) S) (0, 0) wr hRp ⟨rfl, rfl⟩ (by
        intro p hp
        obtain ⟨s, hs, rfl⟩ := List.mem_map.1 hp
        exact ⟨wrap_wf _, wrap_wf _⟩) (good_few_f HG.out _)
      have HC := Lib.hid hcall
      have HIn := Lib.hid (HIn.out.below hB)
      clear hcall hRp hO hB
      unfold aggP at HC
      go_wp2_with fail
      refine HC.out.mono ?_
      rintro e w8 ⟨pb, rfl, hpb, hB8, hT8⟩
      have HB8 := Lib.hid (below_trans' HB7.out hB8)
      have HT8 := Lib.hid (show TrieAt penc 2 (pairR R) w8.heap.size w8 pb by
        obtain ⟨v1, v2, ks, bl, h0, h1, h2, h3, h4, h5, h6, h7⟩ := hT8
        exact ⟨v1, v2, ks, bl, h0, h1, h2, h3, h4, h5, h6, h7.congr fun r _ _ => (pv_says HS.out (0, 0) (fun a b => ((wrap32 a, wrap32 b) : Pr)) r).trans rfl⟩)
      have HT1 := Lib.hid ((HT1.out.below HB8.out (Nat.le_refl _)).mono HB8.out.size)
      have HT2 := Lib.hid ((HT2.out.below HB8.out (Nat.le_refl _)).mono HB8.out.size)
      have HT3 := Lib.hid ((HT3.out.below HB8.out (Nat.le_refl _)).mono HB8.out.size)
      have HT4 := Lib.hid ((HT4.out.below HB8.out (Nat.le_refl _)).mono HB8.out.size)
      have htl : tp < W5.heap.size := row_len HRow5.out
      have HRow8 := Lib.hid ((HB8.out.block _ htl).trans HRow5.out)
      have HM8 := Lib.hid (HM5.out.below HB8.out)
      have HS8 := Lib.hid (HS5.out.below HB8.out)
      have HIn := Lib.hid (HIn.out.below hB8)
      have HBw := Lib.hid (below_trans' HBw.out HB8.out)
      have hc4 : w8.cell? ⟨tp, 4, none⟩ = some (.pointer none) := by rw [cell_of_row _ _ 4 _ _ _ HRow8.out]; rfl
      have hf4 : w8.frozen? ⟨tp, 4, none⟩ = false := by unfold World.frozen?; rw [HRow8.out]; simp
      clear hB8 hT8 hpb
      go_wp2_with fail
      have hck : CKn w8 (w8.setCell ⟨tp, 4, none⟩ (.pointer (some ⟨pb, 0, none⟩))) := ckn_set hc4
      have hs9 : (w8.setCell ⟨tp, 4, none⟩ (.pointer (some ⟨pb, 0, none⟩))).heap.size = w8.heap.size := by simp
      have HSz9 := Lib.hid hs9
      have hrow9 : (w8.setCell ⟨tp, 4, none⟩ (.pointer (some ⟨pb, 0, none⟩))).heap[tp]? = some (.cells #[.pointer (some ⟨cb, 0, none⟩), .pointer (some ⟨gb, 0, none⟩), .pointer (some ⟨jb, 0, none⟩), .pointer (some ⟨fb, 0, none⟩), .pointer (some ⟨pb, 0, none⟩), .map (some w4.heap.size), .map (some (w4.heap.size + 1))] 118 (0, 0)) := heap_setCell_same w8 tp 4 _ _ _ HRow8.out
      have HW9 := Lib.hid (show TabW R 0 w8.heap.size (w8.setCell ⟨tp, 4, none⟩ (.pointer (some ⟨pb, 0, none⟩))) tp cb gb jb fb pb w4.heap.size (w4.heap.size + 1) (fun _ => none) (fun _ => none) from
        ⟨⟨by rw [cell_of_row _ _ 0 _ _ _ hrow9]; rfl, by rw [cell_of_row _ _ 1 _ _ _ hrow9]; rfl, by rw [cell_of_row _ _ 2 _ _ _ hrow9]; rfl, by rw [cell_of_row _ _ 3 _ _ _ hrow9]; rfl, by rw [cell_of_row _ _ 4 _ _ _ hrow9]; rfl, row_len HRow8.out,
          HT1.out.ckn hck ienc1_nn, HT2.out.ckn hck ienc1_nn, HT3.out.ckn hck ienc1_nn, HT4.out.ckn hck fenc_nn, HT8.out.ckn hck penc_nn⟩,
        by rw [cell_of_row _ _ 5 _ _ _ hrow9]; rfl, by rw [cell_of_row _ _ 6 _ _ _ hrow9]; rfl, HM8.out.same (Below.heap_setCell _ _ _ _ (by have := HTp.out; simp; omega)), HS8.out.same (Below.heap_setCell _ _ _ _ (by have := HTp.out; simp; omega)), by omega, madeOn_zero R, by rw [hs9]; exact Nat.le_refl _⟩)
      have HIn := Lib.hid (show SpansIn (w8.setCell ⟨tp, 4, none⟩ (.pointer (some ⟨pb, 0, none⟩))) (.slice sa S.length sc) S from (Rd.ckn HIn.out hck (spenc_nn S)).mono (by rw [hs9]; exact Nat.le_refl _))
      have HB9 := Lib.hid (show Below w.heap.size w (w8.setCell ⟨tp, 4, none⟩ (.pointer (some ⟨pb, 0, none⟩))) from HBw.out.setCell (by have := HB4.out.size; have := HTp.out; simp; omega) _)
      have hwl : w.heap.size ≤ w4.heap.size := HB4.out.size
      clear hck hs9 hrow9 hc4 hf4 HM8 HS8 HT1 HT2 HT3 HT4 HT8 HRow8 HBw HB8 HB7 HC HB6 HB5 HM5 HS5 HRow5
      generalize (w8.setCell ⟨tp, 4, none⟩ (.pointer (some ⟨pb, 0, none⟩))) = W9 at HSz9 HW9 HIn HB9 ⊢
      go_loopw [58] (fun iv wr => ∃ (k : Nat) (cur : Int) (f : Pr → Option Int) (g : Int → Option Bool), k ≤ S.length ∧ iv = .int .i64 ((k : Nat) : Int) ∧ TabW R cur w8.heap.size wr tp cb gb jb fb pb w4.heap.size (w4.heap.size + 1) f g ∧ CK W9 wr ∧ W9.heap.size ≤ wr.heap.size ∧ Below w.heap.size w wr ∧ (∀ (j : Nat) (s : Span), k ≤ j → S[j]? = some s → cur ≤ s.f) ∧ (∀ (j : Nat) (s : Span), j < k → S[j]? = some s → s.t < cur) ∧ cur ≤ 1114112) (fun iv _ => S.length - (intOf iv).toNat)
      case atStart => exact ⟨0, 0, _, _, Nat.zero_le _, rfl, HW9.out, .refl _, Nat.le_refl _, HB9.out, fun j s _ hs => (HG.out.ok s (List.mem_of_getElem? hs)).1, fun j s h => by omega, by decide⟩
      case round =>
        obtain ⟨k, cur, f, g, hk, rfl, hT, hck, hsz, hB, hlo, hhi, hcm⟩ := hrel
        have HT := Lib.hid hT
        have HCk := Lib.hid hck
        have HB := Lib.hid hB
        have HLo := Lib.hid hlo
        have HHi := Lib.hid hhi
        clear hT hB hlo hhi
        by_cases hlt : k < S.length
        · obtain ⟨x, hx⟩ : ∃ x, S[k]? = some x := ⟨S[k], List.getElem?_eq_getElem hlt⟩
          have hin : SpansIn wr (.slice sa S.length sc) S := (Rd.ck HIn.out hck).mono hsz
          obtain ⟨b, off, cap', hv, _, _, _, d0, d1, d2, d3⟩ := span_cells hin hx
          cases hv
          have hox := HG.out.ok x (List.mem_of_getElem? hx)
          unfold okS at hox
          obtain ⟨o1, o2, o3⟩ := hox
          have hc1 := HLo.out k x (Nat.le_refl _) hx
          have HX := Lib.hid hx
          have hdom : ∀ r, x.f ≤ r → r ≤ x.t → dom R r := fun r h1 h2 => (dom_iff HS.out r).2 ⟨x, List.mem_of_getElem? hx, h1, h2⟩
          have HDom := Lib.hid hdom
          have hskip : MadeOn R x.f f g := HT.out.on.skip hc1 (fun r h1 h2 hd => by
            obtain ⟨s, hs, h3, h4⟩ := (dom_iff HS.out r).1 hd
            obtain ⟨j, hj⟩ := List.mem_iff_getElem?.1 hs
            rcases Nat.lt_trichotomy j k with hjk | rfl | hjk
            · have := HHi.out j s hjk hj; omega
            · rw [hx] at hj; cases hj; omega
            · obtain ⟨a1, a2⟩ := List.getElem?_eq_some_iff.1 hx
              obtain ⟨b1, b2⟩ := List.getElem?_eq_some_iff.1 hj
              have := List.pairwise_iff_getElem.1 HG.out.ris k j a1 b1 hjk
              rw [a2, b2] at this
              omega)
          have HSk := Lib.hid hskip
          have e1 := IntWalk.i32_in x.f (by omega)
          clear hx hck hin hdom hskip
          go_wp2_with fail
          have hba : Below wr.heap.size wr (wr.alloc (.cells #[.int .i64 x.f, .int .i64 x.t, .int .i64 x.a, .int .i64 x.b] 123)) := (Below.refl wr.heap.size wr).alloc (Nat.le_refl _) _
          have s0 : (wr.alloc (.cells #[.int .i64 x.f, .int .i64 x.t, .int .i64 x.a, .int .i64 x.b] 123)).cell? ⟨wr.heap.size, 0, none⟩ = some (.int .i64 x.f) := by go_simp
          have s1 : (wr.alloc (.cells #[.int .i64 x.f, .int .i64 x.t, .int .i64 x.a, .int .i64 x.b] 123)).cell? ⟨wr.heap.size, 1, none⟩ = some (.int .i64 x.t) := by go_simp
          have HTa := Lib.hid (show TabW R x.f w8.heap.size (wr.alloc (.cells #[.int .i64 x.f, .int .i64 x.t, .int .i64 x.a, .int .i64 x.b] 123)) tp cb gb jb fb pb w4.heap.size (w4.heap.size + 1) f g from ⟨(HT.out.below hba).t, (HT.out.below hba).c5, (HT.out.below hba).c6, (HT.out.below hba).m, (HT.out.below hba).s, HT.out.ne, HSk.out, (HT.out.below hba).big⟩)
          have HCka := Lib.hid (HCk.out.trans (ck_below hba))
          have HBa := Lib.hid (HB.out.trans (hba.mono HB.out.size))
          have hsa := hba.size
          clear hba d0 d1 d2 d3
          generalize wr.alloc (.cells #[.int .i64 x.f, .int .i64 x.t, .int .i64 x.a, .int .i64 x.b] 123) = Wa at s0 s1 HTa HCka HBa hsa ⊢
          generalize wr.heap.size = bx at s0 s1 hsa hsz ⊢
          have S0 := Lib.hid s0
          have S1 := Lib.hid s1
          clear s0 s1
          go_loopw [10] (fun rv wr => ∃ (r : Int) (f : Pr → Option Int) (g : Int → Option Bool), rv = .int .i32 r ∧ x.f ≤ r ∧ r ≤ x.t + 1 ∧ TabW R r w8.heap.size wr tp cb gb jb fb pb w4.heap.size (w4.heap.size + 1) f g ∧ CK Wa wr ∧ Wa.heap.size ≤ wr.heap.size ∧ Below w.heap.size w wr) (fun rv _ => (x.t + 1 - intOf rv).toNat)
          case atStart => exact ⟨x.f, f, g, rfl, Int.le_refl _, by omega, HTa.out, .refl _, Nat.le_refl _, HBa.out⟩
          case round =>
            obtain ⟨r, f, g, rfl, hr1, hr2, hT, hck, hsz3, hB⟩ := hrel
            have HT := Lib.hid hT
            have HCk3 := Lib.hid hck
            have HB := Lib.hid hB
            have s1 := hck _ _ S1.out
            have e2 := IntWalk.i64_in r (by omega)
            have hp4 := hT.t.c4
            have hBg := hT.big
            clear hT hck hB
            by_cases hle : r ≤ x.t
            · go_wp2_with fail
              refine (get_pair (pairR R) w8.heap.size pb r wr HT.out.t.t4 hBg).mono ?_
              rintro e wg ⟨rfl, hBw⟩
              rw [pairR_get]
              have HT := Lib.hid (HT.out.below hBw)
              have HCk3 := Lib.hid (HCk3.out.trans (ck_below hBw))
              have HB := Lib.hid (HB.out.trans (hBw.mono HB.out.size))
              have hsg := hBw.size
              have hwf := pairR_wf R r
              obtain ⟨p, hp⟩ : ∃ p, p = pairR R r := ⟨_, rfl⟩
              rw [← hp] at hwf ⊢
              have HP := Lib.hid hp
              have HWf := Lib.hid hwf
              clear hBw hp4 s1 hp hwf
              unfold aggP
              go_wp2_with fail
              have hba : Below wg.heap.size wg (wg.alloc (.cells #[.int .i32 p.1, .int .i32 p.2] 125)) := (Below.refl wg.heap.size wg).alloc (Nat.le_refl _) _
              have q0 : (wg.alloc (.cells #[.int .i32 p.1, .int .i32 p.2] 125)).cell? ⟨wg.heap.size, 0, none⟩ = some (.int .i32 p.1) := by go_simp
              have q1 : (wg.alloc (.cells #[.int .i32 p.1, .int .i32 p.2] 125)).cell? ⟨wg.heap.size, 1, none⟩ = some (.int .i32 p.2) := by go_simp
              have HT := Lib.hid (HT.out.below hba)
              have HCk3 := Lib.hid (HCk3.out.trans (ck_below hba))
              have HB := Lib.hid (HB.out.trans (hba.mono HB.out.size))
              have hsp := hba.size
              have hc5 := HT.out.c5
              clear hba
              generalize wg.alloc (.cells #[.int .i32 p.1, .int .i32 p.2] 125) = Wp at q0 q1 HT HCk3 HB hsp hc5 ⊢
              generalize wg.heap.size = qb at q0 q1 hsg hsp ⊢
              have e3 := IntWalk.i32_in (r + 1) (by omega)
              refine wp_region_quiet_lit (by kernel_rfl) (by kernel_rfl) ?_
              quiet_step (fail)
              quiet_step (fail)
              quiet_step (fail)
              quiet_step (fail)
              quiet_step (fail)
              refine quiet_look (w := Wp) rfl _ _ _ rfl keyV_pair Tryz.underlying114 Tryz.zeroValue21 w4.heap.size f rfl HT.out.m.fn p rfl HWf.out ?_ ?_
              · intro r0 hr0
                have HPs := Lib.hid (HT.out.on.pass (.inr ⟨r0, HP.out ▸ hr0⟩))
                clear hr0
                unfold i32V
                repeat (quiet_step (fail))
                refine wpQuiet_nil ?_
                rintro w' ⟨nq, rfl⟩
                have HTn := Lib.hid (HT.out.below (w' := Wp.drewN nq) ⟨rfl, rfl, rfl, Nat.le_refl _, fun _ _ => rfl⟩)
                go_wp2_with fail
                go_roundw
                case rel => exact ⟨r + 1, f, g, rfl, by omega, by omega, ⟨HTn.out.t, HTn.out.c5, HTn.out.c6, HTn.out.m, HTn.out.s, HTn.out.ne, HPs.out, HTn.out.big⟩, HCk3.out, by show _ ≤ Wp.heap.size; omega, below_dN HB.out nq⟩
                case measure => simp [intOf]; omega
              · intro hno
                have HNo := Lib.hid hno
                clear hno
                repeat (quiet_step (fail))
                refine wpQuiet_nil ?_
                rintro w' ⟨nq, rfl⟩
                have HT := Lib.hid (HT.out.below (w' := Wp.drewN nq) ⟨rfl, rfl, rfl, Nat.le_refl _, fun _ _ => rfl⟩)
                have HCk3 := Lib.hid (show CK Wa (Wp.drewN nq) from HCk3.out)
                have HB := Lib.hid (below_dN HB.out nq)
                have q0 : (Wp.drewN nq).cell? ⟨qb, 0, none⟩ = some (.int .i32 p.1) := q0
                have q1 : (Wp.drewN nq).cell? ⟨qb, 1, none⟩ = some (.int .i32 p.2) := q1
                have hsp : qb ≤ (Wp.drewN nq).heap.size := hsp
                have hBg := HT.out.big
                clear hc5
                generalize Wp.drewN nq = Wq at HT HCk3 HB q0 q1 hsp hBg ⊢
                go_wp2_with fail
                refine (out_any HT.out.t hBg r (by omega) (by omega)).mono ?_
                rintro e wo ⟨rfl, hBo⟩
                have HT := Lib.hid (HT.out.below hBo)
                have HCk3 := Lib.hid (HCk3.out.trans (ck_below hBo))
                have HB := Lib.hid (HB.out.trans (hBo.mono HB.out.size))
                have Q0 := Lib.hid (ck_below hBo _ _ q0)
                have Q1 := Lib.hid (ck_below hBo _ _ q1)
                have hso := hBo.size
                clear hBo q0 q1 hBg
                cases ho : outT R r with
                | true =>
                  have HPs := Lib.hid (HT.out.on.pass (.inl ho))
                  clear ho
                  go_wp2_with fail
                  go_roundw
                  case rel => exact ⟨r + 1, f, g, rfl, by omega, by omega, ⟨HT.out.t, HT.out.c5, HT.out.c6, HT.out.m, HT.out.s, HT.out.ne, HPs.out, HT.out.big⟩, HCk3.out, by omega, HB.out⟩
                  case measure => simp [intOf]; omega
                | false =>
                  have HPt := Lib.hid (HT.out.on.put (HDom.out r hr1 hle) ho (HP.out ▸ HNo.out))
                  clear ho
                  go_wp2_with fail
                  have hq0 := Q0.out
                  have hq1 := Q1.out
                  have hc5 := HT.out.c5
                  have hc6 := HT.out.c6
                  have hms : MapS aggP i32V wfP wo.drew w4.heap.size f := HT.out.m.same rfl
                  have hss : MapS i32V boolV wf32 wo.drew (w4.heap.size + 1) g := HT.out.s.same rfl
                  obtain ⟨v1, st1, x1, hr1', hg1, hz1, hm1, hk1⟩ := hms.entry keyV_pair Tryz.underlying114 (Tryz.zeroValue21 _) p HWf.out
                  obtain ⟨x2, hr2', hg2, hz2, hm2⟩ := hk1 r x1 rfl
                  have hss2 : MapS i32V boolV wf32 x2 (w4.heap.size + 1) g := hss.same ((hg2.block _ (by rw [hz1]; exact hss.fn.lt) (fun e => by injection e; omega)).trans (hg1.block _ hss.fn.lt (fun e => by injection e; omega)))
                  obtain ⟨v3, st3, x3, hr3', hg3, hz3, hm3, hk3⟩ := hss2.entry key32 Tryz.underlying115 (Tryz.zeroValue4 _) p.2 HWf.out.2
                  obtain ⟨x5, hr5', hg5, hz5, hm5⟩ := hk3 true x3 rfl
                  have hm5' : MapS aggP i32V wfP x5 w4.heap.size (fnPut f p r) := hm2.same ((hg5.block _ (by rw [hz3]; exact hm2.fn.lt) (fun e => by injection e; omega)).trans (hg3.block _ hm2.fn.lt (fun e => by injection e; omega)))
                  have hck1 : CK wo.drew x1 := ck_map hms.isMap hg1
                  have hck2 : CK wo.drew x2 := hck1.trans (ck_map hm1 hg2)
                  have hck3 : CK wo.drew x3 := hck2.trans (ck_map hss2.isMap hg3)
                  have hck5 : CK wo.drew x5 := hck3.trans (ck_map hm3 hg5)
                  have k0 : wo.drew.cell? ⟨tp, 5, none⟩ = some (.map (some w4.heap.size)) ∧ wo.drew.cell? ⟨tp, 6, none⟩ = some (.map (some (w4.heap.size + 1))) ∧ wo.drew.cell? ⟨qb, 0, none⟩ = some (.int .i32 p.1) ∧ wo.drew.cell? ⟨qb, 1, none⟩ = some (.int .i32 p.2) := ⟨hc5, hc6, hq0, hq1⟩
                  have hsz5 : x5.heap.size = wo.heap.size := by rw [hz5, hz3, hz2, hz1]; rfl
                  have HTf := Lib.hid (show TabW R (r + 1) w8.heap.size x5 tp cb gb jb fb pb w4.heap.size (w4.heap.size + 1) (fnPut f p r) (fnPut g p.2 true) from ⟨HT.out.t.ck (show CK wo x5 from hck5), hck5 _ _ k0.1, hck5 _ _ k0.2.1, hm5', hm5, HT.out.ne, by rw [HP.out]; exact HPt.out, by rw [hsz5]; exact HT.out.big⟩)
                  have HBf := Lib.hid (HB.out.trans (show Below w.heap.size wo x5 from ⟨(hg5.os.trans hg3.os).trans (hg2.os.trans hg1.os), (hg5.tape.trans hg3.tape).trans (hg2.tape.trans hg1.tape), (hg5.output.trans hg3.output).trans (hg2.output.trans hg1.output), by omega, fun k hk => ((hg5.block k (by rw [hz3, hz2, hz1]; exact Nat.lt_of_lt_of_le hk HB.out.size) (fun e => by injection e; omega)).trans (hg3.block k (by rw [hz2, hz1]; exact Nat.lt_of_lt_of_le hk HB.out.size) (fun e => by injection e; omega))).trans ((hg2.block k (by rw [hz1]; exact Nat.lt_of_lt_of_le hk HB.out.size) (fun e => by injection e; omega)).trans (hg1.block k (Nat.lt_of_lt_of_le hk HB.out.size) (fun e => by injection e; omega)))⟩))
                  have HCf := Lib.hid (HCk3.out.trans (show CK wo x5 from hck5))
                  have hfs : Wa.heap.size ≤ x5.heap.size := by omega
                  have K1 := Lib.hid (And.intro (hck1 _ _ k0.1) (And.intro (hck1 _ _ k0.2.1) (And.intro (hck1 _ _ k0.2.2.1) (hck1 _ _ k0.2.2.2))))
                  have K2 := Lib.hid (And.intro (hck2 _ _ k0.1) (And.intro (hck2 _ _ k0.2.1) (And.intro (hck2 _ _ k0.2.2.1) (hck2 _ _ k0.2.2.2))))
                  have K3 := Lib.hid (And.intro (hck3 _ _ k0.1) (And.intro (hck3 _ _ k0.2.1) (And.intro (hck3 _ _ k0.2.2.1) (hck3 _ _ k0.2.2.2))))
                  have K5 := Lib.hid (And.intro (hck5 _ _ k0.1) (And.intro (hck5 _ _ k0.2.1) (And.intro (hck5 _ _ k0.2.2.1) (hck5 _ _ k0.2.2.2))))
                  have R1 := Lib.hid hr1'
                  have R2 := Lib.hid hr2'
                  have R3 := Lib.hid hr3'
                  have R5 := Lib.hid hr5'
                  clear hr1' hr2' hr3' hr5' hg1 hg2 hg3 hg5 hz1 hz2 hz3 hz5 hm1 hm2 hm3 hm5 hm5' hk1 hk3 hss hss2 hms hck1 hck2 hck3 hck5 hsz5
                  refine wp_region_held_drew (S := fun w' => w'.cell? ⟨tp, 5, none⟩ = some (.map (some w4.heap.size)) ∧ w'.cell? ⟨tp, 6, none⟩ = some (.map (some (w4.heap.size + 1))) ∧ w'.cell? ⟨qb, 0, none⟩ = some (.int .i32 p.1) ∧ w'.cell? ⟨qb, 1, none⟩ = some (.int .i32 p.2)) (by kernel_rfl) k0 (fun hHeld => ?_)
                  refine hd_take 0 rfl (by kernel_rfl) (by kernel_rfl) (by kernel_rfl) (fun _ _ _ h => h) (by rfl) (by intro w hSw; (try dsimp only at hSw); go_split_ands; go_simp; first | done | with_reducible rfl) hHeld ?_
                  try simp only [Act.put, List.setIfInBounds_toArray, List.set_cons_zero, List.set_cons_succ]
                  refine hd_take 1 rfl (by kernel_rfl) (by kernel_rfl) (by kernel_rfl) (fun _ _ _ h => h) (by rfl) (by intro w hSw; (try dsimp only at hSw); go_split_ands; go_simp; first | done | with_reducible rfl) hHeld ?_
                  try simp only [Act.put, List.setIfInBounds_toArray, List.set_cons_zero, List.set_cons_succ]
                  refine hd_take 2 rfl (by kernel_rfl) (by kernel_rfl) (by kernel_rfl) (fun _ _ _ h => h) (by rfl) (by intro w hSw; (try dsimp only at hSw); go_split_ands; go_simp; first | done | with_reducible rfl) hHeld ?_
                  try simp only [Act.put, List.setIfInBounds_toArray, List.set_cons_zero, List.set_cons_succ]
                  refine hd_take 3 rfl (by kernel_rfl) (by kernel_rfl) (by kernel_rfl) (fun _ _ _ h => h) (by rfl) (by intro w hSw; (try dsimp only at hSw); go_split_ands; go_simp; first | done | with_reducible rfl) hHeld ?_
                  try simp only [Act.put, List.setIfInBounds_toArray, List.set_cons_zero, List.set_cons_succ]
                  refine hd_take 4 rfl (by kernel_rfl) (by kernel_rfl) (by kernel_rfl) (fun _ _ _ h => h) (by rfl) (by intro w hSw; (try dsimp only at hSw); go_split_ands; go_simp; first | done | with_reducible rfl) hHeld ?_
                  try simp only [Act.put, List.setIfInBounds_toArray, List.set_cons_zero, List.set_cons_succ]
                  refine hd_take 5 rfl (by kernel_rfl) (by kernel_rfl) (by kernel_rfl) (fun _ _ _ h => h) (by rfl) (by intro w hSw; (try dsimp only at hSw); go_split_ands; go_simp; first | done | with_reducible rfl) hHeld ?_
                  try simp only [Act.put, List.setIfInBounds_toArray, List.set_cons_zero, List.set_cons_succ]
                  refine hd_take 6 rfl (by kernel_rfl) (by kernel_rfl) (by kernel_rfl) (fun _ _ _ h => h) (by rfl) (by intro w hSw; (try dsimp only at hSw); go_split_ands; go_simp; first | done | with_reducible rfl) hHeld ?_
                  try simp only [Act.put, List.setIfInBounds_toArray, List.set_cons_zero, List.set_cons_succ]
                  refine hd_take 7 rfl (by kernel_rfl) (by kernel_rfl) (by kernel_rfl) (fun _ _ _ h => h) (by rfl) (by intro w hSw; (try dsimp only at hSw); go_split_ands; go_simp; first | done | with_reducible rfl) hHeld ?_
                  try simp only [Act.put, List.setIfInBounds_toArray, List.set_cons_zero, List.set_cons_succ]
                  refine hd_take 8 rfl (by kernel_rfl) (by kernel_rfl) (by kernel_rfl) (fun _ _ _ h => h) (by rfl) (by intro w hSw; (try dsimp only at hSw); go_split_ands; go_simp; first | done | with_reducible rfl) hHeld ?_
                  try simp only [Act.put, List.setIfInBounds_toArray, List.set_cons_zero, List.set_cons_succ]
                  refine hd_take 9 rfl (by kernel_rfl) (by kernel_rfl) (by kernel_rfl) (fun _ _ _ h => h) (by rfl) (by intro w hSw; (try dsimp only at hSw); go_split_ands; go_simp; first | done | with_reducible rfl) hHeld ?_
                  try simp only [Act.put, List.setIfInBounds_toArray, List.set_cons_zero, List.set_cons_succ]
                  refine hd_take 10 rfl (by kernel_rfl) (by kernel_rfl) (by kernel_rfl) (fun _ _ _ h => h) (by rfl) (by intro w hSw; (try dsimp only at hSw); go_split_ands; go_simp; first | done | with_reducible rfl) hHeld ?_
                  try simp only [Act.put, List.setIfInBounds_toArray, List.set_cons_zero, List.set_cons_succ]
                  refine hd_take 11 rfl (by kernel_rfl) (by kernel_rfl) (by kernel_rfl) (fun _ _ _ h => h) (by rfl) (by intro w hSw; (try dsimp only at hSw); go_split_ands; go_simp; first | done | with_reducible rfl) hHeld ?_
                  try simp only [Act.put, List.setIfInBounds_toArray, List.set_cons_zero, List.set_cons_succ]
                  refine hd_step 12 (by kernel_rfl) rfl (fun K hK => ?_)
                  refine step_mentry rfl rfl rfl rfl R1.out ?_
                  refine hK.out _ _ K1.out (fun hHeld => ?_)
                  clear hK K
                  try simp only [Act.put, List.setIfInBounds_toArray, List.set_cons_zero, List.set_cons_succ]
                  refine hd_take 13 rfl (by kernel_rfl) (by kernel_rfl) (by kernel_rfl) (fun _ _ _ h => h) (by rfl) (by intro w hSw; (try dsimp only at hSw); go_split_ands; go_simp; first | done | with_reducible rfl) hHeld ?_
                  try simp only [Act.put, List.setIfInBounds_toArray, List.set_cons_zero, List.set_cons_succ]
                  refine hd_step 14 (by kernel_rfl) rfl (fun K hK => ?_)
                  refine step_estore rfl rfl rfl rfl rfl R2.out ?_
                  refine hK.out _ _ K2.out (fun hHeld => ?_)
                  clear hK K
                  try simp only [Act.put]
                  refine hd_step 15 (by kernel_rfl) rfl (fun K hK => ?_)
                  refine step_mentry rfl rfl rfl rfl R3.out ?_
                  refine hK.out _ _ K3.out (fun hHeld => ?_)
                  clear hK K
                  try simp only [Act.put, List.setIfInBounds_toArray, List.set_cons_zero, List.set_cons_succ]
                  refine hd_take 16 rfl (by kernel_rfl) (by kernel_rfl) (by kernel_rfl) (fun _ _ _ h => h) (by rfl) (by intro w hSw; (try dsimp only at hSw); go_split_ands; go_simp; first | done | with_reducible rfl) hHeld ?_
                  try simp only [Act.put, List.setIfInBounds_toArray, List.set_cons_zero, List.set_cons_succ]
                  refine hd_step 17 (by kernel_rfl) rfl (fun K hK => ?_)
                  refine step_estore rfl rfl rfl rfl rfl R5.out ?_
                  refine hK.out _ _ K5.out (fun hHeld => ?_)
                  clear hK K
                  try simp only [Act.put]
                  refine wpAnyH_done (by kernel_rfl) ?_ _
                  clear hHeld k0 hc5 hc6 hq0 hq1
                  go_wp2_with fail
                  go_roundw
                  case rel => exact ⟨r + 1, fnPut f p r, fnPut g p.2 true, rfl, by omega, by omega, HTf.out, HCf.out, hfs, HBf.out⟩
                  case measure => simp [intOf]; omega
            · have hre : r = x.t + 1 := by omega
              subst hre
              go_wp2_with fail
              go_roundw
              case rel => exact ⟨k + 1, x.t + 1, f, g, by omega, by go_num, HT.out, HCka.out.trans HCk3.out, by omega, HB.out, fun j s hj hs => by
                            obtain ⟨a1, a2⟩ := List.getElem?_eq_some_iff.1 HX.out
                            obtain ⟨b1, b2⟩ := List.getElem?_eq_some_iff.1 hs
                            have := List.pairwise_iff_getElem.1 HG.out.ris k j a1 b1 (by omega)
                            rw [a2, b2] at this
                            omega, fun j s hj hs => by
                            by_cases hjk : j = k
                            · subst hjk
                              rw [HX.out] at hs; cases hs; omega
                            · have := HHi.out j s (by omega) hs; omega, by omega⟩
              case measure => simp [intOf]; omega
        · have hke : k = S.length := by omega
          subst hke
          have hfin : MadeOn R 1114112 f g := HT.out.on.skip hcm (fun r h1 h2 hd => by
            obtain ⟨s, hs, h3, h4⟩ := (dom_iff HS.out r).1 hd
            obtain ⟨j, hj⟩ := List.mem_iff_getElem?.1 hs
            have := HHi.out j s (List.getElem?_eq_some_iff.1 hj).1 hj
            omega)
          have HFin := Lib.hid (show BuildT R w (.returned (.pointer (some ⟨tp, 0, none⟩))) wr from ⟨tp, cb, gb, jb, fb, pb, _, _, f, g, rfl, HB.out, by have := HTp.out; omega, ⟨HT.out.t.mono HT.out.big, HT.out.c5, HT.out.c6, HT.out.m, HT.out.s, HT.out.ne, hfin, Nat.le_refl _⟩⟩)
          clear hfin
          go_wp2_with fail
          go_ret
          exact HFin.out
end Go.Proofs.YtkeainhjghdfcaaGreat
