/- Joined texts: IdxH IdxI. -/
import Derived.Test.YtblajooebmjfoaaGreatZdab
import Derived.Test.YtblajooebmjfoaaGreatZdaa
import Derived.Test.YtblajooebmjfoaaGreatZaaz
/- Index: is an index that of a text? -/
namespace Go.Proofs.YtblajooebmjfoaaGreat
open Go.RowKit

end Go.Proofs.YtblajooebmjfoaaGreat

/- Index: chapter 15's example. -/
namespace Go.Proofs.YtblajooebmjfoaaGreat
open Go.RowKit

/-- the scalars of chapter 15's texts -/
def idxEx (R : List Rw) : Bool := decide (starts (tabOf R) [97, 769, 98] = [0, 2]) && decide (starts (tabOf R) [97, 769, 98, 769] = [0, 2])
structure IFacts (R : List Rw) : Prop where
  a : starts (tabOf R) [97, 769, 98] = [0, 2]
  b : starts (tabOf R) [97, 769, 98, 769] = [0, 2]
theorem ifacts_of {R : List Rw} (h : idxEx R = true) : IFacts R := by
  simp only [idxEx, Bool.and_eq_true, decide_eq_true_eq] at h
  exact ⟨h.1, h.2⟩
set_option maxRecDepth 100000 in
theorem idxRows_any : ∃ R : List Rw, RFacts R ∧ IFacts R ∧ ∀ w, Calls Tryz.prog 8 #[] w (LitPost R w) :=
  ⟨((((((((rowsFn Tryz.f29) ++ rowsFn Tryz.f30) ++ rowsFn Tryz.f31) ++ rowsFn Tryz.f32) ++ rowsFn Tryz.f33) ++ rowsFn Tryz.f34) ++ rowsFn Tryz.f35) ++ rowsFn Tryz.f36), rfacts_of (by kernel_rfl) (by kernel_rfl) (by kernel_rfl) (by kernel_rfl) (by kernel_rfl) (by kernel_rfl), ifacts_of (by kernel_rfl), fun w => apiRows_of _ _ _ _ _ _ _ _ (of_decide_eq_true (by kernel_rfl)) (of_decide_eq_true (by kernel_rfl)) (of_decide_eq_true (by kernel_rfl)) (of_decide_eq_true (by kernel_rfl)) (of_decide_eq_true (by kernel_rfl)) (of_decide_eq_true (by kernel_rfl)) (of_decide_eq_true (by kernel_rfl)) (of_decide_eq_true (by kernel_rfl)) classes_any pairs_any outs_any breaks_any picts_any conjs_any wides_any letters_any w⟩
theorem ex15_win : Win [97, 769, 98] [97, 769, 98, 769] 3 3 4 := ⟨by decide, by decide, by decide, by decide, rfl, rfl⟩
theorem ex15_on0 : onX [0, 2] 3 0 1 = 2 := by decide +kernel
theorem ex15_on3 : onX [0, 2] 3 3 (-9) = 0 := by decide +kernel
set_option maxRecDepth 100000 in
set_option maxHeartbeats 4000000 in
theorem awake15_any (w : World) : Calls Tryz.prog 18 #[] w fun e w' => e = .returned (.bool true) ∧ Below w.heap.size w w' := by
  obtain ⟨R, HFc, HIc, hrows⟩ := idxRows_any
  have HF := Lib.hid HFc
  have HIF := Lib.hid HIc
  have HRows := Lib.hid hrows
  have HTk := Lib.hid HFc.seg.tab
  clear HFc hrows HIc
  go_enter Tryz.func18, Tryz.ntmps18
  go_wp2_with fail
  refine (HRows.out w).mono ?_
  rintro e w1 ⟨v, rfl, hB1, hR1⟩
  have HB1 := Lib.hid hB1
  go_wp2_with fail
  refine (build_tb v R w1 hR1 HF.out.ok).mono ?_
  rintro e w2 ⟨tp, rfl, hB2, hT⟩
  have HT2 := Lib.hid (hT.below (below1 w2 (.cells #[.int .i32 97, .int .i32 769, .int .i32 98] 21)))
  have HB2 := Lib.hid (below_new (below_trans' HB1.out hB2) (.cells #[.int .i32 97, .int .i32 769, .int .i32 98] 21))
  have HL2 := Lib.hid (show RunesIn (w2.alloc (.cells #[.int .i32 97, .int .i32 769, .int .i32 98] 21)) (.slice (some ⟨w2.heap.size, 0, none⟩) 3 3) [97, 769, 98] from rs_lit runeE_len w2 _ _ _ 3 rfl (by decide) rfl)
  have HOk := Lib.hid (show RunesOk [97, 769, 98] from fun x hx => by simp at hx; unfold I32; omega)
  have HOk' := Lib.hid (show RunesOk [97, 769, 98, 769] from fun x hx => by simp at hx; unfold I32; omega)
  clear hB1 hR1 hB2 hT HB1
  go_wp2_with fail
  refine (iof_any HTk.out HT2.out HL2.out HOk.out (by decide)).mono ?_
  rintro e w3 ⟨u, rfl, hB3, hX⟩
  rw [HIF.out.a] at hX
  obtain ⟨n3, hn3⟩ : ∃ n3 : Int, n3 = ((([97, 769, 98] : List Int).length : Nat) : Int) := ⟨_, rfl⟩
  have hX2 : IdxIn w3 u [0, 2] 3 := hX
  obtain ⟨sv, rfl, hI⟩ := hX2
  rw [show ((3 : Nat) : Int) = n3 by rw [hn3]; rfl]
  obtain ⟨sa, scap, rfl, hscap, hsmax, _⟩ := ints_cells hI
  unfold maxLen at hsmax
  obtain ⟨k2, hk2⟩ : ∃ k2 : Nat, k2 = ([0, 2] : List Nat).length := ⟨_, rfl⟩
  rw [← hk2]
  have HXc := Lib.hid (show IdxIn w3 (.agg #[.slice sa k2 scap, .int .i64 n3]) [0, 2] 3 by rw [hk2, hn3]; exact hX)
  have hb4 := below1 w3 (.cells #[.slice sa k2 scap, .int .i64 n3] 28)
  have HX4 := Lib.hid (HXc.out.below hb4)
  have HT4 := Lib.hid ((HT2.out.below hB3).below hb4)
  have HB4 := Lib.hid (below_trans' (below_trans' HB2.out hB3) hb4)
  have hc2 := cell_two_new w3 (.slice sa k2 scap) (.int .i64 n3) 28
  have c0 : (w3.alloc (.cells #[.slice sa k2 scap, .int .i64 n3] 28)).cell? ⟨w3.heap.size, 0, none⟩ = some (.slice sa k2 scap) := hc2 0 _ rfl
  have c1 : (w3.alloc (.cells #[.slice sa k2 scap, .int .i64 n3] 28)).cell? ⟨w3.heap.size, 1, none⟩ = some (.int .i64 n3) := hc2 1 _ rfl
  have HN3 := Lib.hid hn3
  clear hB3 hI hX HT2 HL2 HB2 hb4 hc2 HXc hn3 hk2
  go_wp2_with fail
  have hw4 : (w3.alloc (.cells #[.slice sa k2 scap, .int .i64 n3] 28)).heap.size = w3.heap.size + 1 := by simp
  generalize w3.alloc (.cells #[.slice sa k2 scap, .int .i64 n3] 28) = w4 at c0 c1 HX4 HT4 HB4 hw4 ⊢
  generalize w3.heap.size = xb at c0 c1 hw4 ⊢
  rw [← hw4]
  have hb5 := below1 w4 (.cells #[.int .i32 97, .int .i32 769, .int .i32 98, .int .i32 769] 21)
  have HL := rs_lit runeE_len w4 #[.int .i32 97, .int .i32 769, .int .i32 98, .int .i32 769] 21 [97, 769, 98, 769] 4 rfl (by decide) rfl
  have HX5 := Lib.hid (HX4.out.below hb5)
  have a0 := cell_later hb5 c0
  have a1 := cell_later hb5 c1
  have HB5 := Lib.hid (below_trans' HB4.out hb5)
  refine (change_any (R := R) (o := [97, 769, 98]) (l := [97, 769, 98, 769]) (f := 3) (was := 3) (is := 4) HTk.out (by rw [HIF.out.a]; exact HX5.out) (HT4.out.below hb5) HL HOk'.out (by decide) (by decide) (starts_len _ _) (starts_len _ _) ex15_win).mono ?_
  rintro e w6 ⟨u6, rfl, hB6, hX6⟩
  rw [HIF.out.b] at hX6
  have hX6b : IdxIn w6 u6 [0, 2] 4 := hX6
  obtain ⟨yv, rfl, hI6⟩ := hX6b
  obtain ⟨n4, hn4⟩ : ∃ n4 : Int, n4 = ((4 : Nat) : Int) := ⟨_, rfl⟩
  rw [← hn4]
  obtain ⟨ya, ycap, rfl, _, _, _⟩ := ints_cells hI6
  obtain ⟨k3, hk3⟩ : ∃ k3 : Nat, k3 = ([0, 2] : List Nat).length := ⟨_, rfl⟩
  rw [← hk3]
  have b0 := cell_later hB6 a0
  have b1 := cell_later hB6 a1
  have HB6 := Lib.hid (below_trans' HB5.out hB6)
  have HX6 := Lib.hid (HX5.out.below hB6)
  have HY6 := Lib.hid (show IdxIn w6 (.agg #[.slice ya k3 ycap, .int .i64 n4]) [0, 2] 4 by rw [hk3, hn4]; exact hX6)
  have HN4 := Lib.hid hn4
  have hb7 := below1 w6 (.cells #[.slice ya k3 ycap, .int .i64 n4] 28)
  have hc2 := cell_two_new w6 (.slice ya k3 ycap) (.int .i64 n4) 28
  have d0 : (w6.alloc (.cells #[.slice ya k3 ycap, .int .i64 n4] 28)).cell? ⟨w6.heap.size, 0, none⟩ = some (.slice ya k3 ycap) := hc2 0 _ rfl
  have d1 : (w6.alloc (.cells #[.slice ya k3 ycap, .int .i64 n4] 28)).cell? ⟨w6.heap.size, 1, none⟩ = some (.int .i64 n4) := hc2 1 _ rfl
  have c0' := cell_later hb7 b0
  have c1' := cell_later hb7 b1
  have HB7 := Lib.hid (below_trans' HB6.out hb7)
  have HX7 := Lib.hid (HX6.out.below hb7)
  have HY7 := Lib.hid (HY6.out.below hb7)
  clear hB6 hX6 hI6 hn4 hk3 b0 b1 a0 a1 c0 c1 hb5 HL hb7 hc2 HX4 HX5 HX6 HY6 HB4 HB5 HB6 HT4
  go_wp2_with fail
  generalize w6.alloc (.cells #[.slice ya k3 ycap, .int .i64 n4] 28) = w7 at c0' c1' d0 d1 HX7 HY7 HB7 ⊢
  generalize w6.heap.size = yb at d0 d1 ⊢
  have c0 := c0'
  have c1 := c1'
  clear c0' c1'
  refine (istarts_any HX7.out (by decide)).mono ?_
  rintro e w8 ⟨u8, rfl, hB, hI8⟩
  have c0 := cell_later hB c0
  have c1 := cell_later hB c1
  have d0 := cell_later hB d0
  have d1 := cell_later hB d1
  have HB8 := Lib.hid (below_trans' HB7.out hB)
  have HX8 := Lib.hid (HX7.out.below hB)
  have HY8 := Lib.hid (HY7.out.below hB)
  have HS := Lib.hid hI8
  obtain ⟨za, zcap, rfl, _, _, _⟩ := ints_cells hI8
  have hb := below1 w8 (.cells #[.int .i64 0, .int .i64 2] 3)
  have HL9 := Lib.hid (show IntsIn (w8.alloc (.cells #[.int .i64 0, .int .i64 2] 3)) (.slice (some ⟨w8.heap.size, 0, none⟩) 2 2) [0, 2] from rs_lit nE_len w8 #[.int .i64 0, .int .i64 2] 3 [0, 2] 2 rfl (by decide) rfl)
  have c0 := cell_later hb c0
  have c1 := cell_later hb c1
  have d0 := cell_later hb d0
  have d1 := cell_later hb d1
  have HB9 := Lib.hid (below_trans' HB8.out hb)
  have HX9 := Lib.hid (HX8.out.below hb)
  have HY9 := Lib.hid (HY8.out.below hb)
  have HS := Lib.hid (HS.out.below hb)
  clear hI8 hB hb
  go_wp2_with fail
  generalize w8.alloc (.cells #[.int .i64 0, .int .i64 2] 3) = w9 at c0 c1 d0 d1 HX9 HY9 HB9 HL9 HS ⊢
  refine (same_ints HS.out HL9.out).mono ?_
  rintro e w10 ⟨rfl, hB⟩
  rw [decide_eq_true (rfl : ([0, 2] : List Nat) = [0, 2])]
  have c0 := cell_later hB c0
  have c1 := cell_later hB c1
  have d0 := cell_later hB d0
  have d1 := cell_later hB d1
  have HB10 := Lib.hid (below_trans' HB9.out hB)
  have HX10 := Lib.hid (HX9.out.below hB)
  have HY10 := Lib.hid (HY9.out.below hB)
  clear hB HS HL9
  go_wp2_with fail
  refine (istarts_any HY10.out (by decide)).mono ?_
  rintro e w11 ⟨u8, rfl, hB, hI8⟩
  have c0 := cell_later hB c0
  have c1 := cell_later hB c1
  have d0 := cell_later hB d0
  have d1 := cell_later hB d1
  have HB11 := Lib.hid (below_trans' HB10.out hB)
  have HX11 := Lib.hid (HX10.out.below hB)
  have HY11 := Lib.hid (HY10.out.below hB)
  have HS := Lib.hid hI8
  obtain ⟨za, zcap, rfl, _, _, _⟩ := ints_cells hI8
  have hb := below1 w11 (.cells #[.int .i64 0, .int .i64 2] 3)
  have HL12 := Lib.hid (show IntsIn (w11.alloc (.cells #[.int .i64 0, .int .i64 2] 3)) (.slice (some ⟨w11.heap.size, 0, none⟩) 2 2) [0, 2] from rs_lit nE_len w11 #[.int .i64 0, .int .i64 2] 3 [0, 2] 2 rfl (by decide) rfl)
  have c0 := cell_later hb c0
  have c1 := cell_later hb c1
  have d0 := cell_later hb d0
  have d1 := cell_later hb d1
  have HB12 := Lib.hid (below_trans' HB11.out hb)
  have HX12 := Lib.hid (HX11.out.below hb)
  have HY12 := Lib.hid (HY11.out.below hb)
  have HS := Lib.hid (HS.out.below hb)
  clear hI8 hB hb
  go_wp2_with fail
  generalize w11.alloc (.cells #[.int .i64 0, .int .i64 2] 3) = w12 at c0 c1 d0 d1 HX12 HY12 HB12 HL12 HS ⊢
  refine (same_ints HS.out HL12.out).mono ?_
  rintro e w13 ⟨rfl, hB⟩
  rw [decide_eq_true (rfl : ([0, 2] : List Nat) = [0, 2])]
  have c0 := cell_later hB c0
  have c1 := cell_later hB c1
  have d0 := cell_later hB d0
  have d1 := cell_later hB d1
  have HB13 := Lib.hid (below_trans' HB12.out hB)
  have HX13 := Lib.hid (HX12.out.below hB)
  have HY13 := Lib.hid (HY12.out.below hB)
  clear hB HS HL12
  go_wp2_with fail
  refine (ilen_any HY13.out).mono ?_
  rintro e w14 ⟨rfl, hB⟩
  have c0 := cell_later hB c0
  have c1 := cell_later hB c1
  have d0 := cell_later hB d0
  have d1 := cell_later hB d1
  have HB14 := Lib.hid (below_trans' HB13.out hB)
  have HX14 := Lib.hid (HX13.out.below hB)
  have HY14 := Lib.hid (HY13.out.below hB)
  clear hB
  go_wp2_with fail
  refine (ion_any 0 1 HX14.out (by decide) (by decide)).mono ?_
  rintro e w15 ⟨rfl, hB⟩
  rw [ex15_on0]
  have c0 := cell_later hB c0
  have c1 := cell_later hB c1
  have d0 := cell_later hB d0
  have d1 := cell_later hB d1
  have HB15 := Lib.hid (below_trans' HB14.out hB)
  have HX15 := Lib.hid (HX14.out.below hB)
  have HY15 := Lib.hid (HY14.out.below hB)
  clear hB
  go_wp2_with fail
  refine (ion_any 3 (-9) HX15.out (by decide) (by decide)).mono ?_
  rintro e w16 ⟨rfl, hB⟩
  rw [ex15_on3]
  have c0 := cell_later hB c0
  have c1 := cell_later hB c1
  have d0 := cell_later hB d0
  have d1 := cell_later hB d1
  have HB16 := Lib.hid (below_trans' HB15.out hB)
  have HX16 := Lib.hid (HX15.out.below hB)
  have HY16 := Lib.hid (HY15.out.below hB)
  clear hB
  go_wp2_with fail
  go_ret
  exact ⟨rfl, HB16.out⟩
end Go.Proofs.YtblajooebmjfoaaGreat
