/- Joined texts: IdxH IdxI IdxJ IdxK. -/
import Derived.Test.YtblajooebmjfoaaZgab
import Derived.Test.YtblajooebmjfoaaZgaa
import Derived.Test.YtblajooebmjfoaaZaaz
import Derived.Test.YtblajooebmjfoaaZcaa
/- Index: is an index that of a text? -/
namespace Go.Proofs.Ytblajooebmjfoaa
open Go.RowKit

set_option maxRecDepth 100000 in
set_option maxHeartbeats 4000000 in
theorem isame_any {R : List Rw} {l : List Int} {w : World} {v rv lv : Value} (hX : IdxIn w v (starts (tabOf R) l) l.length) (hR : RowsIn w rv R) (hs : RunesIn w lv l) (ok : RunesOk l) (hl : l.length ≤ 1000000) :
    Calls Try.prog 22 #[v, rv, lv] w fun e w' => e = .returned (.bool true) ∧ Below w.heap.size w w' := by
  have hSl := starts_len (tabOf R) l
  have HX := Lib.hid hX
  have HRS := Lib.hid (fun W (hB : Below w.heap.size w W) => rstarts_any (hR.below hB) (hs.below hB) ok hl)
  generalize starts (tabOf R) l = S at hX hSl HX HRS
  obtain ⟨sv, rfl, hI⟩ := hX
  obtain ⟨sa, scap, rfl, hscap, hsmax, _⟩ := ints_cells hI
  unfold maxLen at hsmax
  obtain ⟨sl, cap, rfl, hcap, hmax, _⟩ := runes_cells hs
  unfold maxLen at hmax
  have HB0 := Lib.hid ((Below.refl w.heap.size w).alloc (Nat.le_refl _) (.cells #[.slice sa S.length scap, .int .i64 ((l.length : Nat) : Int)] 39))
  have hc2 := cell_two_new w (.slice sa S.length scap) (.int .i64 ((l.length : Nat) : Int)) 39
  have c0 : (w.alloc (.cells #[.slice sa S.length scap, .int .i64 ((l.length : Nat) : Int)] 39)).cell? ⟨w.heap.size, 0, none⟩ = some (.slice sa S.length scap) := hc2 0 _ rfl
  have c1 : (w.alloc (.cells #[.slice sa S.length scap, .int .i64 ((l.length : Nat) : Int)] 39)).cell? ⟨w.heap.size, 1, none⟩ = some (.int .i64 ((l.length : Nat) : Int)) := hc2 1 _ rfl
  clear hR hs ok hI hc2
  go_enter Try.func22, Try.ntmps22
  go_upto_region 1 with fail
  generalize w.alloc (.cells #[.slice sa S.length scap, .int .i64 ((l.length : Nat) : Int)] 39) = w0 at c0 c1 HB0 ⊢
  go_wp2_with fail
  refine (HRS.out w0 HB0.out).mono ?_
  rintro e w1 ⟨u, rfl, hB1, hI1⟩
  have p0 := cell_later hB1 c0
  have p1 := cell_later hB1 c1
  have HB1 := Lib.hid (below_trans' HB0.out hB1)
  have HI1 := Lib.hid hI1
  obtain ⟨ua, uc, rfl, huc, hum, _⟩ := ints_cells hI1
  unfold maxLen at hum
  clear hB1 hI1 c0 c1 HRS
  go_wp2_with fail
  refine (istarts_any (HX.out.below HB1.out) (by omega)).mono ?_
  rintro e w2 ⟨u2, rfl, hB2, hI2⟩
  have q0 := cell_later hB2 p0
  have q1 := cell_later hB2 p1
  have HB2 := Lib.hid (below_trans' HB1.out hB2)
  have HI2 := Lib.hid hI2
  have HJ2 := Lib.hid (HI1.out.below hB2)
  clear hB2 hI2 p0 p1
  go_wp2_with fail
  refine (same_ints HI2.out HJ2.out).mono ?_
  rintro e w3 ⟨rfl, hB3⟩
  rw [decide_eq_true (rfl : S = S)]
  have c0 := cell_later hB3 q0
  have c1 := cell_later hB3 q1
  have HB3 := Lib.hid (below_trans' HB2.out hB3)
  clear hB3 q0 q1
  go_wp2_with fail
  refine (ilen_any (HX.out.below HB3.out)).mono ?_
  rintro e w4 ⟨rfl, hB4⟩
  have q0 := cell_later hB4 c0
  have q1 := cell_later hB4 c1
  have HB4 := Lib.hid (below_trans' HB3.out hB4)
  clear hB4 c0 c1
  go_wp2_with fail
  refine (icount_any (HX.out.below HB4.out)).mono ?_
  rintro e w5 ⟨rfl, hB5⟩
  have HB5 := Lib.hid (below_trans' HB4.out hB5)
  clear hB5
  go_wp2_with fail
  go_ret
  exact ⟨rfl, HB5.out⟩
end Go.Proofs.Ytblajooebmjfoaa

/- Index: chapter 15's example. -/
namespace Go.Proofs.Ytblajooebmjfoaa
open Go.RowKit

/-- the scalars of chapter 15's texts -/
def idxEx (R : List Rw) : Bool := decide (starts (tabOf R) [97, 769, 98] = [0, 2]) && decide (starts (tabOf R) [97, 769, 98, 769] = [0, 2])
structure IFacts (R : List Rw) : Prop where
  a : starts (tabOf R) [97, 769, 98] = [0, 2]
  b : starts (tabOf R) [97, 769, 98, 769] = [0, 2]
theorem ifacts_of {R : List Rw} (h : idxEx R = true) : IFacts R := by
  simp only [idxEx, Bool.and_eq_true, decide_eq_true_eq] at h
  exact ⟨h.1, h.2⟩
set_option maxRecDepth 100000 in
theorem idxRows_any : ∃ R : List Rw, RFacts R ∧ IFacts R ∧ ∀ w, Calls Try.prog 12 #[] w (LitPost R w) :=
  ⟨((((((((rowsFn Try.f39) ++ rowsFn Try.f40) ++ rowsFn Try.f41) ++ rowsFn Try.f42) ++ rowsFn Try.f43) ++ rowsFn Try.f44) ++ rowsFn Try.f45) ++ rowsFn Try.f46), rfacts_of (by kernel_rfl) (by kernel_rfl) (by kernel_rfl) (by kernel_rfl) (by kernel_rfl) (by kernel_rfl), ifacts_of (by kernel_rfl), fun w => apiRows_of _ _ _ _ _ _ _ _ (of_decide_eq_true (by kernel_rfl)) (of_decide_eq_true (by kernel_rfl)) (of_decide_eq_true (by kernel_rfl)) (of_decide_eq_true (by kernel_rfl)) (of_decide_eq_true (by kernel_rfl)) (of_decide_eq_true (by kernel_rfl)) (of_decide_eq_true (by kernel_rfl)) (of_decide_eq_true (by kernel_rfl)) classes_any pairs_any outs_any breaks_any picts_any conjs_any wides_any letters_any w⟩
theorem ex15_win : Win [97, 769, 98] [97, 769, 98, 769] 3 3 4 := ⟨by decide, by decide, by decide, by decide, rfl, rfl⟩
theorem ex15_on0 : onX [0, 2] 3 0 1 = 2 := by decide +kernel
theorem ex15_on3 : onX [0, 2] 3 3 (-9) = 0 := by decide +kernel
set_option maxRecDepth 100000 in
set_option maxHeartbeats 4000000 in
theorem awake15_any (w : World) : Calls Try.prog 24 #[] w fun e w' => e = .returned (.bool true) ∧ Below w.heap.size w w' := by
  obtain ⟨R, HFc, HIc, hrows⟩ := idxRows_any
  have HF := Lib.hid HFc
  have HIF := Lib.hid HIc
  have HRows := Lib.hid hrows
  have HTk := Lib.hid HFc.seg.tab
  clear HFc hrows HIc
  go_enter Try.func24, Try.ntmps24
  go_wp2_with fail
  refine (HRows.out w).mono ?_
  rintro e w1 ⟨v, rfl, hB1, hR1⟩
  have HB1 := Lib.hid hB1
  go_wp2_with fail
  refine (build_tb v R w1 hR1 HF.out.ok).mono ?_
  rintro e w2 ⟨tp, rfl, hB2, hT⟩
  have HT2 := Lib.hid (hT.below (below1 w2 (.cells #[.int .i32 97, .int .i32 769, .int .i32 98] 21)))
  have HB2 := Lib.hid (below_new (below_trans' HB1.out hB2) (.cells #[.int .i32 97, .int .i32 769, .int .i32 98] 21))
  have HL2 := Lib.hid (show RunesIn (w2.alloc (.cells #[.int .i32 97, .int .i32 769, .int .i32 98] 21)) (.slice (some ⟨w2.heap.size, 0, none⟩) 3 3) [97, 769, 98] from rs_lit runeE_len w2 _ _ _ 3 rfl (by decide) rfl)
  have HOk := Lib.hid (show RunesOk [97, 769, 98] from fun x hx => by simp at hx; unfold I32; omega)
  have HOk' := Lib.hid (show RunesOk [97, 769, 98, 769] from fun x hx => by simp at hx; unfold I32; omega)
  clear hB1 hR1 hB2 hT HB1
  go_wp2_with fail
  refine (iof_any HTk.out HT2.out HL2.out HOk.out (by decide)).mono ?_
  rintro e w3 ⟨u, rfl, hB3, hX⟩
  rw [HIF.out.a] at hX
  obtain ⟨n3, hn3⟩ : ∃ n3 : Int, n3 = ((([97, 769, 98] : List Int).length : Nat) : Int) := ⟨_, rfl⟩
  have hX2 : IdxIn w3 u [0, 2] 3 := hX
  obtain ⟨sv, rfl, hI⟩ := hX2
  rw [show ((3 : Nat) : Int) = n3 by rw [hn3]; rfl]
  obtain ⟨sa, scap, rfl, hscap, hsmax, _⟩ := ints_cells hI
  unfold maxLen at hsmax
  obtain ⟨k2, hk2⟩ : ∃ k2 : Nat, k2 = ([0, 2] : List Nat).length := ⟨_, rfl⟩
  rw [← hk2]
  have HXc := Lib.hid (show IdxIn w3 (.agg #[.slice sa k2 scap, .int .i64 n3]) [0, 2] 3 by rw [hk2, hn3]; exact hX)
  have hb4 := below1 w3 (.cells #[.slice sa k2 scap, .int .i64 n3] 39)
  have HX4 := Lib.hid (HXc.out.below hb4)
  have HT4 := Lib.hid ((HT2.out.below hB3).below hb4)
  have HB4 := Lib.hid (below_trans' (below_trans' HB2.out hB3) hb4)
  have hc2 := cell_two_new w3 (.slice sa k2 scap) (.int .i64 n3) 39
  have c0 : (w3.alloc (.cells #[.slice sa k2 scap, .int .i64 n3] 39)).cell? ⟨w3.heap.size, 0, none⟩ = some (.slice sa k2 scap) := hc2 0 _ rfl
  have c1 : (w3.alloc (.cells #[.slice sa k2 scap, .int .i64 n3] 39)).cell? ⟨w3.heap.size, 1, none⟩ = some (.int .i64 n3) := hc2 1 _ rfl
  have HN3 := Lib.hid hn3
  clear hB3 hI hX HT2 HL2 HB2 hb4 hc2 HXc hn3 hk2
  go_wp2_with fail
  have hw4 : (w3.alloc (.cells #[.slice sa k2 scap, .int .i64 n3] 39)).heap.size = w3.heap.size + 1 := by simp
  generalize w3.alloc (.cells #[.slice sa k2 scap, .int .i64 n3] 39) = w4 at c0 c1 HX4 HT4 HB4 hw4 ⊢
  generalize w3.heap.size = xb at c0 c1 hw4 ⊢
  rw [← hw4]
  have hb5 := below1 w4 (.cells #[.int .i32 97, .int .i32 769, .int .i32 98, .int .i32 769] 21)
  have HL := rs_lit runeE_len w4 #[.int .i32 97, .int .i32 769, .int .i32 98, .int .i32 769] 21 [97, 769, 98, 769] 4 rfl (by decide) rfl
  have HX5 := Lib.hid (HX4.out.below hb5)
  have a0 := cell_later hb5 c0
  have a1 := cell_later hb5 c1
  have HB5 := Lib.hid (below_trans' HB4.out hb5)
  refine (change_any (R := R) (o := [97, 769, 98]) (l := [97, 769, 98, 769]) (f := 3) (was := 3) (is := 4) HTk.out (by rw [HIF.out.a]; exact HX5.out) (HT4.out.below hb5) HL HOk'.out (by decide) (by decide) (starts_len _ _) (starts_len _ _) ex15_win).mono ?_
  rintro e w6 ⟨u6, rfl, hB6, hX6⟩
  rw [HIF.out.b] at hX6
  have hX6b : IdxIn w6 u6 [0, 2] 4 := hX6
  obtain ⟨yv, rfl, hI6⟩ := hX6b
  obtain ⟨n4, hn4⟩ : ∃ n4 : Int, n4 = ((4 : Nat) : Int) := ⟨_, rfl⟩
  rw [← hn4]
  obtain ⟨ya, ycap, rfl, _, _, _⟩ := ints_cells hI6
  obtain ⟨k3, hk3⟩ : ∃ k3 : Nat, k3 = ([0, 2] : List Nat).length := ⟨_, rfl⟩
  rw [← hk3]
  have b0 := cell_later hB6 a0
  have b1 := cell_later hB6 a1
  have HB6 := Lib.hid (below_trans' HB5.out hB6)
  have HX6 := Lib.hid (HX5.out.below hB6)
  have HY6 := Lib.hid (show IdxIn w6 (.agg #[.slice ya k3 ycap, .int .i64 n4]) [0, 2] 4 by rw [hk3, hn4]; exact hX6)
  have HN4 := Lib.hid hn4
  have hb7 := below1 w6 (.cells #[.slice ya k3 ycap, .int .i64 n4] 39)
  have hc2 := cell_two_new w6 (.slice ya k3 ycap) (.int .i64 n4) 39
  have d0 : (w6.alloc (.cells #[.slice ya k3 ycap, .int .i64 n4] 39)).cell? ⟨w6.heap.size, 0, none⟩ = some (.slice ya k3 ycap) := hc2 0 _ rfl
  have d1 : (w6.alloc (.cells #[.slice ya k3 ycap, .int .i64 n4] 39)).cell? ⟨w6.heap.size, 1, none⟩ = some (.int .i64 n4) := hc2 1 _ rfl
  have c0' := cell_later hb7 b0
  have c1' := cell_later hb7 b1
  have HB7 := Lib.hid (below_trans' HB6.out hb7)
  have HX7 := Lib.hid (HX6.out.below hb7)
  have HY7 := Lib.hid (HY6.out.below hb7)
  clear hB6 hX6 hI6 hn4 hk3 b0 b1 a0 a1 c0 c1 hb5 HL hb7 hc2 HX4 HX5 HX6 HY6 HB4 HB5 HB6 HT4
  go_wp2_with fail
  generalize w6.alloc (.cells #[.slice ya k3 ycap, .int .i64 n4] 39) = w7 at c0' c1' d0 d1 HX7 HY7 HB7 ⊢
  generalize w6.heap.size = yb at d0 d1 ⊢
  have c0 := c0'
  have c1 := c1'
  clear c0' c1'
  refine (istarts_any HX7.out (by decide)).mono ?_
  rintro e w8 ⟨u8, rfl, hB, hI8⟩
  have c0 := cell_later hB c0
  have c1 := cell_later hB c1
  have d0 := cell_later hB d0
  have d1 := cell_later hB d1
  have HB8 := Lib.hid (below_trans' HB7.out hB)
  have HX8 := Lib.hid (HX7.out.below hB)
  have HY8 := Lib.hid (HY7.out.below hB)
  have HS := Lib.hid hI8
  obtain ⟨za, zcap, rfl, _, _, _⟩ := ints_cells hI8
  have hb := below1 w8 (.cells #[.int .i64 0, .int .i64 2] 3)
  have HL9 := Lib.hid (show IntsIn (w8.alloc (.cells #[.int .i64 0, .int .i64 2] 3)) (.slice (some ⟨w8.heap.size, 0, none⟩) 2 2) [0, 2] from rs_lit nE_len w8 #[.int .i64 0, .int .i64 2] 3 [0, 2] 2 rfl (by decide) rfl)
  have c0 := cell_later hb c0
  have c1 := cell_later hb c1
  have d0 := cell_later hb d0
  have d1 := cell_later hb d1
  have HB9 := Lib.hid (below_trans' HB8.out hb)
  have HX9 := Lib.hid (HX8.out.below hb)
  have HY9 := Lib.hid (HY8.out.below hb)
  have HS := Lib.hid (HS.out.below hb)
  clear hI8 hB hb
  go_wp2_with fail
  generalize w8.alloc (.cells #[.int .i64 0, .int .i64 2] 3) = w9 at c0 c1 d0 d1 HX9 HY9 HB9 HL9 HS ⊢
  refine (same_ints HS.out HL9.out).mono ?_
  rintro e w10 ⟨rfl, hB⟩
  rw [decide_eq_true (rfl : ([0, 2] : List Nat) = [0, 2])]
  have c0 := cell_later hB c0
  have c1 := cell_later hB c1
  have d0 := cell_later hB d0
  have d1 := cell_later hB d1
  have HB10 := Lib.hid (below_trans' HB9.out hB)
  have HX10 := Lib.hid (HX9.out.below hB)
  have HY10 := Lib.hid (HY9.out.below hB)
  clear hB HS HL9
  go_wp2_with fail
  refine (istarts_any HY10.out (by decide)).mono ?_
  rintro e w11 ⟨u8, rfl, hB, hI8⟩
  have c0 := cell_later hB c0
  have c1 := cell_later hB c1
  have d0 := cell_later hB d0
  have d1 := cell_later hB d1
  have HB11 := Lib.hid (below_trans' HB10.out hB)
  have HX11 := Lib.hid (HX10.out.below hB)
  have HY11 := Lib.hid (HY10.out.below hB)
  have HS := Lib.hid hI8
  obtain ⟨za, zcap, rfl, _, _, _⟩ := ints_cells hI8
  have hb := below1 w11 (.cells #[.int .i64 0, .int .i64 2] 3)
  have HL12 := Lib.hid (show IntsIn (w11.alloc (.cells #[.int .i64 0, .int .i64 2] 3)) (.slice (some ⟨w11.heap.size, 0, none⟩) 2 2) [0, 2] from rs_lit nE_len w11 #[.int .i64 0, .int .i64 2] 3 [0, 2] 2 rfl (by decide) rfl)
  have c0 := cell_later hb c0
  have c1 := cell_later hb c1
  have d0 := cell_later hb d0
  have d1 := cell_later hb d1
  have HB12 := Lib.hid (below_trans' HB11.out hb)
  have HX12 := Lib.hid (HX11.out.below hb)
  have HY12 := Lib.hid (HY11.out.below hb)
  have HS := Lib.hid (HS.out.below hb)
  clear hI8 hB hb
  go_wp2_with fail
  generalize w11.alloc (.cells #[.int .i64 0, .int .i64 2] 3) = w12 at c0 c1 d0 d1 HX12 HY12 HB12 HL12 HS ⊢
  refine (same_ints HS.out HL12.out).mono ?_
  rintro e w13 ⟨rfl, hB⟩
  rw [decide_eq_true (rfl : ([0, 2] : List Nat) = [0, 2])]
  have c0 := cell_later hB c0
  have c1 := cell_later hB c1
  have d0 := cell_later hB d0
  have d1 := cell_later hB d1
  have HB13 := Lib.hid (below_trans' HB12.out hB)
  have HX13 := Lib.hid (HX12.out.below hB)
  have HY13 := Lib.hid (HY12.out.below hB)
  clear hB HS HL12
  go_wp2_with fail
  refine (ilen_any HY13.out).mono ?_
  rintro e w14 ⟨rfl, hB⟩
  have c0 := cell_later hB c0
  have c1 := cell_later hB c1
  have d0 := cell_later hB d0
  have d1 := cell_later hB d1
  have HB14 := Lib.hid (below_trans' HB13.out hB)
  have HX14 := Lib.hid (HX13.out.below hB)
  have HY14 := Lib.hid (HY13.out.below hB)
  clear hB
  go_wp2_with fail
  refine (ion_any 0 1 HX14.out (by decide) (by decide)).mono ?_
  rintro e w15 ⟨rfl, hB⟩
  rw [ex15_on0]
  have c0 := cell_later hB c0
  have c1 := cell_later hB c1
  have d0 := cell_later hB d0
  have d1 := cell_later hB d1
  have HB15 := Lib.hid (below_trans' HB14.out hB)
  have HX15 := Lib.hid (HX14.out.below hB)
  have HY15 := Lib.hid (HY14.out.below hB)
  clear hB
  go_wp2_with fail
  refine (ion_any 3 (-9) HX15.out (by decide) (by decide)).mono ?_
  rintro e w16 ⟨rfl, hB⟩
  rw [ex15_on3]
  have c0 := cell_later hB c0
  have c1 := cell_later hB c1
  have d0 := cell_later hB d0
  have d1 := cell_later hB d1
  have HB16 := Lib.hid (below_trans' HB15.out hB)
  have HX16 := Lib.hid (HX15.out.below hB)
  have HY16 := Lib.hid (HY15.out.below hB)
  clear hB
  go_wp2_with fail
  go_ret
  exact ⟨rfl, HB16.out⟩
end Go.Proofs.Ytblajooebmjfoaa

/- Index: what stands in a place; IndexOf's walk. -/
namespace Go.Proofs.Ytblajooebmjfoaa
open Go.RowKit

set_option maxRecDepth 100000 in
set_option maxHeartbeats 4000000 in
theorem tjoined_own {w : World} {va vb vc : Value} {a b c : List Int} (ha : RunesIn w va a) (hb : RunesIn w vb b) (hc : RunesIn w vc c) (hsz : a.length + b.length + c.length ≤ 1000000) :
    Calls Try.prog 25 #[va, vb, vc] w fun e w' => ∃ u, e = .returned u ∧ Below w.heap.size w w' ∧ w'.ownsRow w.heap.size 21 1 u (a ++ b ++ c).length ((a ++ b ++ c).flatMap runeE) := by
  have HA := Lib.hid ha
  have HB := Lib.hid hb
  have HC := Lib.hid hc
  obtain ⟨aa, ac, rfl, _, _, _⟩ := runes_cells ha
  obtain ⟨ba, bc, rfl, _, _, _⟩ := runes_cells hb
  obtain ⟨ca, cc, rfl, _, _, _⟩ := runes_cells hc
  clear ha hb hc
  go_enter Try.func25, Try.ntmps25
  go_upto_region 3 with (at_builtin; refine wpList_app_rd _ rfl (.tmp 8) (.tmp 9) _ rfl ER (.slice none 0 0) 0 [] rfl (World.ownsRow_nil w w.heap.size 21 1) _ _ _ rfl HA.out (runeE_one _) (by omega) (Nat.le_refl _) ?_; intro v1 w1 ho1 hg1; have HB1 := Lib.hid (below_app (Below.refl w.heap.size w) (Nat.le_refl _) (World.ownsRow_nil w w.heap.size 21 1) (Nat.le_refl _) hg1); have HO1 := Lib.hid (show w1.ownsRow w.heap.size 21 1 v1 a.length (a.flatMap runeE) by simpa using ho1); clear ho1 hg1)
  have HBr := Lib.hid (HB.out.below HB1.out)
  go_upto_region 4 with (at_builtin; refine wpList_app_rd _ rfl (.tmp 11) (.tmp 12) _ rfl ER _ _ _ rfl HO1.out _ _ _ rfl HBr.out (runeE_one _) (by omega) HB1.out.size ?_; intro v2 w2 ho2 hg2; have HB2 := Lib.hid (below_app HB1.out HB1.out.size HO1.out (Nat.le_refl _) hg2); have HO2 := Lib.hid ho2; clear ho2 hg2)
  have HCr := Lib.hid (HC.out.below HB2.out)
  go_upto_region 5 with (at_builtin; refine wpList_app_rd _ rfl (.tmp 14) (.tmp 15) _ rfl ER _ _ _ rfl HO2.out _ _ _ rfl HCr.out (runeE_one _) (by omega) HB2.out.size ?_; intro v3 w3 ho3 hg3; have HB3 := Lib.hid (below_app HB2.out HB2.out.size HO2.out (Nat.le_refl _) hg3); have HO3 := Lib.hid ho3; clear ho3 hg3)
  go_wp2_with fail
  go_ret
  refine ⟨_, rfl, HB3.out, ?_⟩
  have h := HO3.out
  rw [← List.flatMap_append, ← List.flatMap_append, ← List.length_append, ← List.length_append] at h
  exact h
theorem tjoined_any {w : World} {va vb vc : Value} {a b c : List Int} (ha : RunesIn w va a) (hb : RunesIn w vb b) (hc : RunesIn w vc c) (hsz : a.length + b.length + c.length ≤ 1000000) :
    Calls Try.prog 25 #[va, vb, vc] w fun e w' => ∃ u, e = .returned u ∧ Below w.heap.size w w' ∧ RunesIn w' u (a ++ b ++ c) := by
  refine (tjoined_own ha hb hc hsz).mono ?_
  rintro e w' ⟨u, rfl, hB, ho⟩
  exact ⟨u, rfl, hB, rd_of_owns ho⟩
theorem fin15 {w w1 : World} (h1 : Below w.heap.size w w1) : Calls Try.prog 24 #[] w1 fun e w' => e = .returned (.bool true) ∧ Below w.heap.size w w' := by
  refine (awake15_any w1).mono ?_
  rintro e w' ⟨rfl, hB⟩
  exact ⟨rfl, below_trans' h1 hB⟩
set_option maxRecDepth 100000 in
set_option maxHeartbeats 8000000 in
theorem indexOf_any (v0 : Value) (l0 : List Int) (i : Int) (w : World) (hl : RunesIn w v0 l0) (hok : RunesOk l0) :
    Calls Try.prog 4 #[v0, .int .i64 i] w fun e w' => e = .returned (.bool true) ∧ Below w.heap.size w w' := by
  obtain ⟨R, HFc, hrows⟩ := apiRows_any
  have HF := Lib.hid HFc
  have HRows := Lib.hid hrows
  have HTk := Lib.hid HFc.seg.tab
  have HFew := Lib.hid (few_any hl 150)
  clear HFc hrows hl
  obtain ⟨l, hll⟩ : ∃ l, l = l0.take 150 := ⟨_, rfl⟩
  rw [← hll] at HFew
  have HOk := Lib.hid (show RunesOk l by rw [hll]; exact hok.take 150)
  have hlen : l.length ≤ 1000000 := by rw [hll, List.length_take]; omega
  clear hll hok
  go_enter Try.func4, Try.ntmps4
  go_wp2_with fail
  refine HFew.out.mono ?_
  rintro e w' ⟨⟨sv, rfl, hS⟩, rfl⟩
  have HS := Lib.hid hS
  obtain ⟨sl, cap, rfl, _, _, _⟩ := runes_cells hS
  clear hS HFew
  go_wp2_with fail
  refine (HRows.out w).mono ?_
  rintro e w1 ⟨v, rfl, hB1, hR1⟩
  have HB1 := Lib.hid hB1
  have HR1 := Lib.hid hR1
  have HS1 := Lib.hid (HS.out.below hB1)
  clear hB1 hR1 HS
  go_wp2_with fail
  refine (build_tb v R w1 HR1.out HF.out.ok).mono ?_
  rintro e w2 ⟨tp, rfl, hB2, hT⟩
  have HT2 := Lib.hid hT
  have HR2 := Lib.hid (HR1.out.below hB2)
  have HS2 := Lib.hid (HS1.out.below hB2)
  have HB2 := Lib.hid (below_trans' HB1.out hB2)
  clear hB2 hT HB1 HR1 HS1
  go_wp2_with fail
  refine (iof_any HTk.out HT2.out HS2.out HOk.out hlen).mono ?_
  rintro e w3 ⟨u, rfl, hB3, hX⟩
  have hSl := starts_len (tabOf R) l
  have HRS := Lib.hid (fun (W : World) (rv : Value) (h1 : RowsIn W rv R) (h2 : RunesIn W (.slice sl l.length cap) l) => rstarts_any h1 h2 HOk.out hlen)
  have HSame := Lib.hid (fun (W : World) (u rv : Value) (h0 : IdxIn W u (starts (tabOf R) l) l.length) (h1 : RowsIn W rv R) (h2 : RunesIn W (.slice sl l.length cap) l) => isame_any h0 h1 h2 HOk.out hlen)
  generalize starts (tabOf R) l = S at hX hSl HRS HSame
  obtain ⟨xv, rfl, hI⟩ := hX
  have HXc := Lib.hid (show IdxIn w3 (.agg #[xv, .int .i64 ((l.length : Nat) : Int)]) S l.length from ⟨xv, rfl, hI⟩)
  obtain ⟨xa, xcap, rfl, _, hxm, _⟩ := ints_cells hI
  unfold maxLen at hxm
  have HB3 := Lib.hid (below_trans' HB2.out hB3)
  have HR3 := Lib.hid (HR2.out.below hB3)
  have HS3 := Lib.hid (HS2.out.below hB3)
  have hc2 := cell_two_new w3 (.slice xa S.length xcap) (.int .i64 ((l.length : Nat) : Int)) 39
  have c0 : (w3.alloc (.cells #[.slice xa S.length xcap, .int .i64 ((l.length : Nat) : Int)] 39)).cell? ⟨w3.heap.size, 0, none⟩ = some (.slice xa S.length xcap) := hc2 0 _ rfl
  have c1 : (w3.alloc (.cells #[.slice xa S.length xcap, .int .i64 ((l.length : Nat) : Int)] 39)).cell? ⟨w3.heap.size, 1, none⟩ = some (.int .i64 ((l.length : Nat) : Int)) := hc2 1 _ rfl
  have hb4 := below1 w3 (.cells #[.slice xa S.length xcap, .int .i64 ((l.length : Nat) : Int)] 39)
  have HX4 := Lib.hid (HXc.out.below hb4)
  have HR4 := Lib.hid (HR3.out.below hb4)
  have HS4 := Lib.hid (HS3.out.below hb4)
  have HB4 := Lib.hid (below_trans' HB3.out hb4)
  clear hB3 hI hc2 hb4 HR2 HS2 HB2 HT2 HR3 HS3 HB3 HXc
  go_wp2_with fail
  generalize w3.alloc (.cells #[.slice xa S.length xcap, .int .i64 ((l.length : Nat) : Int)] 39) = w4 at c0 c1 HX4 HR4 HS4 HB4 ⊢
  generalize w3.heap.size = xb at c0 c1 ⊢
  refine (HRS.out w4 _ HR4.out HS4.out).mono ?_
  rintro e w5 ⟨ru, rfl, hB5, hI5⟩
  have p0 := cell_later hB5 c0
  have p1 := cell_later hB5 c1
  have HX5 := Lib.hid (HX4.out.below hB5)
  have HR5 := Lib.hid (HR4.out.below hB5)
  have HS5 := Lib.hid (HS4.out.below hB5)
  have HB5 := Lib.hid (below_trans' HB4.out hB5)
  have HI5 := Lib.hid hI5
  obtain ⟨ra, rc, rfl, _, hrm, _⟩ := ints_cells hI5
  unfold maxLen at hrm
  clear hB5 hI5 c0 c1 HX4 HR4 HS4 HB4 HRS
  by_cases h0 : i ≥ 0
  case' neg =>
    have q0 : decide (i ≥ 0) = false := decide_eq_false h0
    have q1 : decide (0 ≤ i) = false := decide_eq_false h0
    have HSt := Lib.hid (show ((l.length : Nat) : Int) = ((stA S l.length i : Nat) : Int) by unfold stA; rw [if_neg (by omega)])
    clear h0
  case' pos =>
    by_cases h1 : i < (S.length : Int)
    case' pos =>
      obtain ⟨k, rfl⟩ : ∃ k : Nat, i = (k : Int) := ⟨i.toNat, by omega⟩
      obtain ⟨x, hx⟩ : ∃ x, S[k]? = some x := ⟨S[k], List.getElem?_eq_getElem (by omega)⟩
      have hxs : x = stA S l.length (k : Int) := by unfold stA; rw [if_pos (by omega)]; show x = (S[k]?).getD l.length; rw [hx]; rfl
      obtain ⟨b, off, cap', hv, _, _, _, _, d0⟩ := int_cell HI5.out hx
      cases hv
      have hkl : k < S.length := by omega
      have HSt := Lib.hid (show ((x : Nat) : Int) = ((stA S l.length (k : Int) : Nat) : Int) by rw [hxs])
      clear hx hxs
    case' neg =>
      have q1 : decide (i < (S.length : Int)) = false := decide_eq_false h1
      have HSt := Lib.hid (show ((l.length : Nat) : Int) = ((stA S l.length i : Nat) : Int) by unfold stA; rw [if_pos (by omega), List.getElem?_eq_none (by omega)]; rfl)
      clear h1
  all_goals
    go_wp2_with fail
    refine (HSame.out w5 _ _ HX5.out HR5.out HS5.out).mono ?_
    rintro e w6 ⟨rfl, hB6⟩
    have c0 := cell_later hB6 p0
    have c1 := cell_later hB6 p1
    have HX6 := Lib.hid (HX5.out.below hB6)
    have HB6 := Lib.hid (below_trans' HB5.out hB6)
    clear hB6
    go_wp2_with fail
    refine (istart_any _ HX6.out).mono ?_
    rintro e w7 ⟨rfl, hB7⟩
    have HB7 := Lib.hid (below_trans' HB6.out hB7)
    rw [← HSt.out]
    clear hB7
    go_wp2_with fail
    refine (fin15 HB7.out).mono ?_
    rintro e w9 ⟨rfl, hB9⟩
    go_wp2_with fail
    go_ret
    exact ⟨rfl, hB9⟩
end Go.Proofs.Ytblajooebmjfoaa

/- IndexNone: its walk. -/
namespace Go.Proofs.Ytblajooebmjfoaa
open Go.RowKit

theorem idx_zero (W : World) : IdxIn W (.agg #[.slice none 0 0, .int .i64 0]) [] 0 := ⟨_, rfl, Rd.nil _ _ _⟩
theorem clX_nil (a : Int) : clX [] 0 a = 0 := by
  unfold clX stA
  split
  · rfl
  · rfl
theorem flX_nil (a : Int) : flX [] 0 a = 0 := by
  unfold flX
  split
  · rfl
  · simp [isAt, ahd]
theorem stA_nil (a : Int) : stA [] 0 a = 0 := by unfold stA; split <;> rfl
theorem onX_nil (a b : Int) : onX [] 0 a b = 0 := stA_nil _
section
variable {w : World}
theorem iz_len : Calls Try.prog 29 #[.agg #[.slice none 0 0, .int .i64 0]] w fun e w' => e = .returned (.int .i64 0) ∧ Below w.heap.size w w' := ilen_any (idx_zero w)
theorem iz_count : Calls Try.prog 30 #[.agg #[.slice none 0 0, .int .i64 0]] w fun e w' => e = .returned (.int .i64 0) ∧ Below w.heap.size w w' := icount_any (idx_zero w)
theorem iz_start (a : Int) : Calls Try.prog 23 #[.agg #[.slice none 0 0, .int .i64 0], .int .i64 a] w fun e w' => e = .returned (.int .i64 0) ∧ Below w.heap.size w w' := by
  have h := istart_any a (idx_zero w)
  rw [stA_nil] at h
  exact h
theorem iz_floor (a : Int) : Calls Try.prog 31 #[.agg #[.slice none 0 0, .int .i64 0], .int .i64 a] w fun e w' => e = .returned (.int .i64 0) ∧ Below w.heap.size w w' := by
  have h := ifloor_any a (idx_zero w) List.Pairwise.nil (by decide)
  rw [flX_nil] at h
  exact h
theorem iz_ceil (a : Int) : Calls Try.prog 32 #[.agg #[.slice none 0 0, .int .i64 0], .int .i64 a] w fun e w' => e = .returned (.int .i64 0) ∧ Below w.heap.size w w' := by
  have h := iceil_any a (idx_zero w) List.Pairwise.nil (by decide)
  rw [clX_nil] at h
  exact h
theorem iz_on (a b : Int) : Calls Try.prog 33 #[.agg #[.slice none 0 0, .int .i64 0], .int .i64 a, .int .i64 b] w fun e w' => e = .returned (.int .i64 0) ∧ Below w.heap.size w w' := by
  have h := ion_any a b (idx_zero w) List.Pairwise.nil (by decide)
  rw [onX_nil] at h
  exact h
end
set_option maxRecDepth 100000 in
set_option maxHeartbeats 8000000 in
theorem indexNone_any (v0 : Value) (l0 : List Int) (i : Int) (w : World) (hl : RunesIn w v0 l0) (hok : RunesOk l0) :
    Calls Try.prog 8 #[v0, .int .i64 i] w fun e w' => e = .returned (.bool true) ∧ Below w.heap.size w w' := by
  obtain ⟨R, HFc, hrows⟩ := apiRows_any
  have HF := Lib.hid HFc
  have HRows := Lib.hid hrows
  have HTk := Lib.hid HFc.seg.tab
  have HFew := Lib.hid (few_any hl 60)
  clear HFc hrows hl
  obtain ⟨l, hll⟩ : ∃ l, l = l0.take 60 := ⟨_, rfl⟩
  rw [← hll] at HFew
  have HOk := Lib.hid (show RunesOk l by rw [hll]; exact hok.take 60)
  have hlen : l.length ≤ 1000000 := by rw [hll, List.length_take]; omega
  clear hll hok
  go_enter Try.func8, Try.ntmps8
  go_wp2_with fail
  refine HFew.out.mono ?_
  rintro e w' ⟨⟨sv, rfl, hS⟩, rfl⟩
  have HS := Lib.hid hS
  obtain ⟨sl, cap, rfl, _, hcm, _⟩ := runes_cells hS
  unfold maxLen at hcm
  have hc2 := cell_two_new w (.slice none 0 0) (.int .i64 0) 39
  have c0 : (w.alloc (.cells #[.slice none 0 0, .int .i64 0] 39)).cell? ⟨w.heap.size, 0, none⟩ = some (.slice none 0 0) := hc2 0 _ rfl
  have c1 : (w.alloc (.cells #[.slice none 0 0, .int .i64 0] 39)).cell? ⟨w.heap.size, 1, none⟩ = some (.int .i64 0) := hc2 1 _ rfl
  have hb0 := below1 w (.cells #[.slice none 0 0, .int .i64 0] 39)
  have HS0 := Lib.hid (HS.out.below hb0)
  have HB0 := Lib.hid hb0
  clear hS HFew hc2 hb0 HS
  go_wp2_with fail
  generalize w.alloc (.cells #[.slice none 0 0, .int .i64 0] 39) = w0 at c0 c1 HS0 HB0 ⊢
  refine (HRows.out w0).mono ?_
  rintro e w1 ⟨v, rfl, hB1, hR1⟩
  have p0 := cell_later hB1 c0
  have p1 := cell_later hB1 c1
  have HB1 := Lib.hid (HB0.out.trans (hB1.mono HB0.out.size))
  have HR1 := Lib.hid hR1
  have HS1 := Lib.hid (HS0.out.below hB1)
  clear hB1 hR1 HS0 c0 c1 HB0
  go_wp2_with fail
  refine (iz_len).mono ?_
  rintro e w2 ⟨rfl, hB2⟩
  have q0 := cell_later hB2 p0
  have q1 := cell_later hB2 p1
  have HB2 := Lib.hid (HB1.out.trans (hB2.mono HB1.out.size))
  have HR2 := Lib.hid (HR1.out.below hB2)
  have HS2 := Lib.hid (HS1.out.below hB2)
  clear hB2 p0 p1 HB1 HR1 HS1
  go_wp2_with fail
  refine (iz_count).mono ?_
  rintro e w3 ⟨rfl, hB3⟩
  have p0 := cell_later hB3 q0
  have p1 := cell_later hB3 q1
  have HB3 := Lib.hid (HB2.out.trans (hB3.mono HB2.out.size))
  have HR3 := Lib.hid (HR2.out.below hB3)
  have HS3 := Lib.hid (HS2.out.below hB3)
  clear hB3 q0 q1 HB2 HR2 HS2
  go_wp2_with fail
  refine (iz_floor i).mono ?_
  rintro e w4 ⟨rfl, hB4⟩
  have q0 := cell_later hB4 p0
  have q1 := cell_later hB4 p1
  have HB4 := Lib.hid (HB3.out.trans (hB4.mono HB3.out.size))
  have HR4 := Lib.hid (HR3.out.below hB4)
  have HS4 := Lib.hid (HS3.out.below hB4)
  clear hB4 p0 p1 HB3 HR3 HS3
  go_wp2_with fail
  refine (iz_ceil i).mono ?_
  rintro e w5 ⟨rfl, hB5⟩
  have p0 := cell_later hB5 q0
  have p1 := cell_later hB5 q1
  have HB5 := Lib.hid (HB4.out.trans (hB5.mono HB4.out.size))
  have HR5 := Lib.hid (HR4.out.below hB5)
  have HS5 := Lib.hid (HS4.out.below hB5)
  clear hB5 q0 q1 HB4 HR4 HS4
  go_wp2_with fail
  refine (iz_on i i).mono ?_
  rintro e w6 ⟨rfl, hB6⟩
  have q0 := cell_later hB6 p0
  have q1 := cell_later hB6 p1
  have HB6 := Lib.hid (HB5.out.trans (hB6.mono HB5.out.size))
  have HR6 := Lib.hid (HR5.out.below hB6)
  have HS6 := Lib.hid (HS5.out.below hB6)
  clear hB6 p0 p1 HB5 HR5 HS5
  go_wp2_with fail
  refine (iz_start i).mono ?_
  rintro e w7 ⟨rfl, hB7⟩
  have p0 := cell_later hB7 q0
  have p1 := cell_later hB7 q1
  have HB7 := Lib.hid (HB6.out.trans (hB7.mono HB6.out.size))
  have HR7 := Lib.hid (HR6.out.below hB7)
  have HS7 := Lib.hid (HS6.out.below hB7)
  clear hB7 q0 q1 HB6 HR6 HS6
  go_upto_region 6 with fail
  go_region_held3 (fun w' => w'.cell? ⟨w.heap.size, 0, none⟩ = some (.slice none 0 0) ∧ w'.cell? ⟨w.heap.size, 1, none⟩ = some (.int .i64 0)) (first | exact ⟨f0, f1⟩ | exact ⟨e0, e1⟩ | exact ⟨d0, d1⟩ | exact ⟨a0, a1⟩ | exact ⟨p0, p1⟩ | go_keep)
    (first
      | (go_at_call 13; refine (build_tb v R _ (HR7.out.drewN 1) HF.out.ok).mono ?_; rintro e w8 ⟨tp, rfl, hB8, hT8⟩; have a0 := cell_later hB8 (show (w7.drewN 1).cell? _ = _ from p0); have a1 := cell_later hB8 (show (w7.drewN 1).cell? _ = _ from p1); have HB8 := Lib.hid ((below_dN HB7.out 1).trans (hB8.mono (below_dN HB7.out 1).size)); have HR8 := Lib.hid ((HR7.out.drewN 1).below hB8); have HS8 := Lib.hid ((HS7.out.drewN 1).below hB8); have HCh := Lib.hid (change_any (o := []) (f := 0) (was := 0) (is := l.length) HTk.out (by rw [starts_nil]; exact idx_zero w8) hT8 HS8.out HOk.out hlen (by decide) (starts_len _ _) (starts_len _ _) (Win.zero l)); clear hB8 hT8)
      | (go_at_call 26; refine HCh.out.mono ?_; rintro e w9 ⟨u, rfl, hB9, hX9⟩; have d0 := cell_later hB9 a0; have d1 := cell_later hB9 a1; have HB9 := Lib.hid (HB8.out.trans (hB9.mono HB8.out.size)); have HR9 := Lib.hid (HR8.out.below hB9); have HS9 := Lib.hid (HS8.out.below hB9); have HX9 := Lib.hid hX9; clear hB9 hX9)
      | (go_at_call 22; refine (isame_any HX9.out HR9.out HS9.out HOk.out hlen).mono ?_; rintro e w10 ⟨rfl, hB10⟩; have e0 := cell_later hB10 d0; have e1 := cell_later hB10 d1; have HB10 := Lib.hid (HB9.out.trans (hB10.mono HB9.out.size)); clear hB10)
      | (go_at_call 24; refine (awake15_any w10).mono ?_; rintro e w11 ⟨rfl, hB11⟩; have f0 := cell_later hB11 e0; have f1 := cell_later hB11 e1; have HB11 := Lib.hid (HB10.out.trans (hB11.mono HB10.out.size)); clear hB11)
      | fail)
  all_goals go_wp2_with fail
  all_goals go_ret
  all_goals exact ⟨rfl, HB11.out⟩
end Go.Proofs.Ytblajooebmjfoaa
