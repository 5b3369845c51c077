/- Joined texts: UnitF. -/
import Derived.Test.YthlpelfogplomaaGreatZfab
import Derived.Test.YthlpelfogplomaaGreatZfaa
import Derived.Test.YthlpelfogplomaaGreatZaaz
/- Units: two places held against each other; chapter 41's example. -/
namespace Go.Proofs.YthlpelfogplomaaGreat
open Go.RowKit

theorem run_eq_arr5 {P : Program} (w : World) (d : Nat) {t e : TypeId} (ht : P.underlying t = some (.array 5 e)) (hs : ∀ w, (sizeOf e).run P w = .ok 1 w) (ha : ∀ w, (isAgg e).run P w = .ok false w) (he : P.underlying e = some (.int .i64)) (a0 a1 a2 a3 a4 b0 b1 b2 b3 b4 : Int) :
    (Op.equalIn (d + 2) t (.agg #[.int .i64 a0, .int .i64 a1, .int .i64 a2, .int .i64 a3, .int .i64 a4]) (.agg #[.int .i64 b0, .int .i64 b1, .int .i64 b2, .int .i64 b3, .int .i64 b4])).run P w = .ok ((a0 == b0) && ((a1 == b1) && ((a2 == b2) && ((a3 == b3) && (a4 == b4))))) w := by
  have hp : ∀ (cs : Array Value) (i : Nat) (v : Value) (w : World), cs[i]? = some v → (part e cs i).run P w = .ok v w := by
    intro cs i v w h
    simp [part, ha, h]
  have q : ∀ (a b : Int) (w : World), (Op.equalIn (d + 1) e (.int .i64 a) (.int .i64 b)).run P w = .ok (a == b) w := fun a b w => run_equalIn_int w d e .i64 .i64 a b he
  rw [Op.equalIn]
  simp only [Sem.run_bind, run_underlying ht, Result.andThen_ok, hs]
  rw [Std.Legacy.Range.forIn_eq_forIn_range']
  rw [show List.range' ({ start := 0, stop := 5, step := 1, step_pos := by decide } : Std.Legacy.Range).start ({ start := 0, stop := 5, step := 1, step_pos := by decide } : Std.Legacy.Range).size ({ start := 0, stop := 5, step := 1, step_pos := by decide } : Std.Legacy.Range).step = [0, 1, 2, 3, 4] from rfl]
  have x0 := fun w => hp #[.int .i64 a0, .int .i64 a1, .int .i64 a2, .int .i64 a3, .int .i64 a4] (0 * 1) (.int .i64 a0) w rfl
  have x1 := fun w => hp #[.int .i64 a0, .int .i64 a1, .int .i64 a2, .int .i64 a3, .int .i64 a4] 1 (.int .i64 a1) w rfl
  have x2 := fun w => hp #[.int .i64 a0, .int .i64 a1, .int .i64 a2, .int .i64 a3, .int .i64 a4] 2 (.int .i64 a2) w rfl
  have x3 := fun w => hp #[.int .i64 a0, .int .i64 a1, .int .i64 a2, .int .i64 a3, .int .i64 a4] 3 (.int .i64 a3) w rfl
  have x4 := fun w => hp #[.int .i64 a0, .int .i64 a1, .int .i64 a2, .int .i64 a3, .int .i64 a4] 4 (.int .i64 a4) w rfl
  have y0 := fun w => hp #[.int .i64 b0, .int .i64 b1, .int .i64 b2, .int .i64 b3, .int .i64 b4] (0 * 1) (.int .i64 b0) w rfl
  have y1 := fun w => hp #[.int .i64 b0, .int .i64 b1, .int .i64 b2, .int .i64 b3, .int .i64 b4] 1 (.int .i64 b1) w rfl
  have y2 := fun w => hp #[.int .i64 b0, .int .i64 b1, .int .i64 b2, .int .i64 b3, .int .i64 b4] 2 (.int .i64 b2) w rfl
  have y3 := fun w => hp #[.int .i64 b0, .int .i64 b1, .int .i64 b2, .int .i64 b3, .int .i64 b4] 3 (.int .i64 b3) w rfl
  have y4 := fun w => hp #[.int .i64 b0, .int .i64 b1, .int .i64 b2, .int .i64 b3, .int .i64 b4] 4 (.int .i64 b4) w rfl
  simp only [List.forIn_cons, List.forIn_nil, Sem.run_bind, x0, y0, q, Result.andThen_ok, Sem.run_ite]
  cases h0 : a0 == b0 <;> cases h1 : a1 == b1 <;> cases h2 : a2 == b2 <;> cases h3 : a3 == b3 <;> cases h4 : a4 == b4 <;> simp [x1, x2, x3, x4, y1, y2, y3, y4, q, h1, h2, h3, h4]
theorem eqin_arr5 (t : TypeId) (ht : Tryz.prog.underlying t = some (.array 5 3)) (p q : Ps) (w : World) :
    (Op.equalIn 10000 t (.agg #[.int .i64 p.1, .int .i64 p.2.1, .int .i64 p.2.2.1, .int .i64 p.2.2.2.1, .int .i64 p.2.2.2.2]) (.agg #[.int .i64 q.1, .int .i64 q.2.1, .int .i64 q.2.2.1, .int .i64 q.2.2.2.1, .int .i64 q.2.2.2.2])).run Tryz.prog w = .ok (decide (p = q)) w := by
  obtain ⟨p0, p1, p2, p3, p4⟩ := p
  obtain ⟨q0, q1, q2, q3, q4⟩ := q
  rw [run_eq_arr5 w 9998 ht Tryz.sizeOf3 Tryz.isAgg3 Tryz.underlying3]
  have e : ((p0 == q0) && ((p1 == q1) && ((p2 == q2) && ((p3 == q3) && (p4 == q4))))) = decide ((p0, p1, p2, p3, p4) = (q0, q1, q2, q3, q4)) := by
    rw [Bool.eq_iff_iff]
    simp [Prod.mk.injEq]
  rw [e]
theorem eqin_pos (p q : Ps) (w : World) :
    (Op.equalIn 10000 122 (.agg #[.int .i64 p.1, .int .i64 p.2.1, .int .i64 p.2.2.1, .int .i64 p.2.2.2.1, .int .i64 p.2.2.2.2]) (.agg #[.int .i64 q.1, .int .i64 q.2.1, .int .i64 q.2.2.1, .int .i64 q.2.2.2.1, .int .i64 q.2.2.2.2])).run Tryz.prog w = .ok (decide (p = q)) w := eqin_arr5 122 (by kernel_rfl) p q w
/-- the places of chapter 41's text -/
def unitEx (R : List Rw) : Bool := decide (PLs R [97, 128512, 98] = [noP, (1, 1, 1, 1, 1), (2, 5, 3, 2, 3), (3, 6, 4, 3, 4)])
set_option maxRecDepth 100000 in
theorem unitRows_any : ∃ R : List Rw, RFacts R ∧ PLs R [97, 128512, 98] = [noP, (1, 1, 1, 1, 1), (2, 5, 3, 2, 3), (3, 6, 4, 3, 4)] ∧ ∀ w, Calls Tryz.prog 9 #[] w (LitPost R w) :=
  ⟨((((((((rowsFn Tryz.f31) ++ rowsFn Tryz.f32) ++ rowsFn Tryz.f33) ++ rowsFn Tryz.f34) ++ rowsFn Tryz.f35) ++ rowsFn Tryz.f36) ++ rowsFn Tryz.f37) ++ rowsFn Tryz.f38), rfacts_of (by kernel_rfl) (by kernel_rfl) (by kernel_rfl) (by kernel_rfl) (by kernel_rfl) (by kernel_rfl), of_decide_eq_true (show unitEx _ = true by kernel_rfl), fun w => apiRows_of _ _ _ _ _ _ _ _ (of_decide_eq_true (by kernel_rfl)) (of_decide_eq_true (by kernel_rfl)) (of_decide_eq_true (by kernel_rfl)) (of_decide_eq_true (by kernel_rfl)) (of_decide_eq_true (by kernel_rfl)) (of_decide_eq_true (by kernel_rfl)) (of_decide_eq_true (by kernel_rfl)) (of_decide_eq_true (by kernel_rfl)) classes_any pairs_any outs_any breaks_any picts_any conjs_any wides_any letters_any w⟩
set_option maxRecDepth 100000 in
set_option maxHeartbeats 4000000 in
theorem awake41_any (w : World) : Calls Tryz.prog 24 #[] w fun e w' => e = .returned (.bool true) ∧ Below w.heap.size w w' := by
  obtain ⟨R, HFc, HUc, hrows⟩ := unitRows_any
  have HF := Lib.hid HFc
  have HRows := Lib.hid hrows
  have HTk := Lib.hid HFc.seg.tab
  obtain ⟨L, hL⟩ : ∃ L, L = PLs R [97, 128512, 98] := ⟨_, rfl⟩
  have HP := Lib.hid (show L.Pairwise psLe by rw [hL]; exact PLs_mono HFc.seg.tab)
  have HLe := Lib.hid hL
  rw [HUc] at hL
  have hl : L.length ≤ 1114112 := by rw [hL]; decide
  have HA := Lib.hid (show atP L 0 2 = (2, 5, 3, 2, 3) by rw [hL]; decide +kernel)
  have HE := Lib.hid (show endP L = (3, 6, 4, 3, 4) by rw [hL]; decide +kernel)
  clear HFc hrows HUc hL
  go_enter Tryz.func24, Tryz.ntmps24
  go_wp2_with fail
  refine (HRows.out w).mono ?_
  rintro e w1 ⟨v, rfl, hB1, hR1⟩
  have HB1 := Lib.hid hB1
  go_wp2_with fail
  refine (build_tb v R w1 hR1 HF.out.ok).mono ?_
  rintro e w2 ⟨tp, rfl, hB2, hT⟩
  have HT2 := Lib.hid (hT.below (below1 w2 (.cells #[.int .i32 97, .int .i32 128512, .int .i32 98] 21)))
  have HB2 := Lib.hid (below_new (below_trans' HB1.out hB2) (.cells #[.int .i32 97, .int .i32 128512, .int .i32 98] 21))
  have HL2 := Lib.hid (show RunesIn (w2.alloc (.cells #[.int .i32 97, .int .i32 128512, .int .i32 98] 21)) (.slice (some ⟨w2.heap.size, 0, none⟩) 3 3) [97, 128512, 98] from rs_lit runeE_len w2 _ _ _ 3 rfl (by decide) rfl)
  have HOk := Lib.hid (show RunesOk [97, 128512, 98] from fun x hx => by simp at hx; unfold I32; omega)
  clear hB1 hR1 hB2 hT HB1
  go_wp2_with fail
  refine (uof_any HTk.out HT2.out HL2.out HOk.out (by decide)).mono ?_
  rintro e w3 ⟨u, rfl, hB3, hM⟩
  rw [← HLe.out] at hM
  have HM3 := Lib.hid hM
  obtain ⟨mv, rfl, hR⟩ := hM
  obtain ⟨sa, sc, rfl, _, _⟩ := ps_shape hR
  have HB3 := Lib.hid (below_trans' HB2.out hB3)
  have hb4 := below1 w3 (.cells #[.slice sa L.length sc] 119)
  have HM4 := Lib.hid (HM3.out.below hb4)
  have HB4 := Lib.hid (below_trans' HB3.out hb4)
  have c0 := row_cells (i := 0) (heap_alloc_new w3 (.cells #[.slice sa L.length sc] 119)) rfl
  clear hB3 hR HB2 HB3 HM3 HT2 HL2 hb4
  go_wp2_with fail
  generalize w3.alloc (.cells #[.slice sa L.length sc] 119) = w4 at c0 HM4 HB4 ⊢
  generalize w3.heap.size = xb at c0 ⊢
  refine (uat_any 0 2 HM4.out HP.out hl).mono ?_
  rintro e w5 ⟨rfl, hB5⟩
  rw [HA.out, show kindOk 0 = true from rfl]
  unfold psV
  have hb6 := below1 w5 (.cells #[.int .i64 2, .int .i64 5, .int .i64 3, .int .i64 2, .int .i64 3] 122)
  have hr := heap_alloc_new w5 (.cells #[.int .i64 2, .int .i64 5, .int .i64 3, .int .i64 2, .int .i64 3] 122)
  have d0 := row_cells (i := 0) hr rfl
  have d1 := row_cells (i := 1) hr rfl
  have d2 := row_cells (i := 2) hr rfl
  have d3 := row_cells (i := 3) hr rfl
  have d4 := row_cells (i := 4) hr rfl
  have c0 := cell_later hb6 (cell_later hB5 c0)
  have HM6 := Lib.hid ((HM4.out.below hB5).below hb6)
  have HB6 := Lib.hid (below_trans' (below_trans' HB4.out hB5) hb6)
  have t1 := eqin_pos (2, 5, 3, 2, 3) (2, 5, 3, 2, 3) (w5.alloc (.cells #[.int .i64 2, .int .i64 5, .int .i64 3, .int .i64 2, .int .i64 3] 122))
  rw [show decide (((2, 5, 3, 2, 3) : Ps) = (2, 5, 3, 2, 3)) = true from rfl] at t1
  clear hB5 hb6 hr HM4 HB4
  go_wp2_with fail
  refine (ulen_any HM6.out).mono ?_
  rintro e w7 ⟨rfl, hB7⟩
  rw [HE.out]
  unfold psV
  have HB7 := Lib.hid (below_trans' HB6.out hB7)
  have t2 := eqin_pos (3, 6, 4, 3, 4) (3, 6, 4, 3, 4) w7
  rw [show decide (((3, 6, 4, 3, 4) : Ps) = (3, 6, 4, 3, 4)) = true from rfl] at t2
  clear hB7 t1
  go_wp2_with fail
  go_ret
  exact ⟨rfl, HB7.out⟩
end Go.Proofs.YthlpelfogplomaaGreat
