/- Joined texts: WordD. -/
import Derived.Test.YthlpelfogplomaaZfaf
/- Chapter 12's example. -/
namespace Go.Proofs.Ythlpelfogplomaa
open Go.RowKit

/-- the scalars of chapter 12's text -/
def wordEx (R : List Rw) : Bool := decide (starts (tabOf R) [97, 98, 44, 32, 99, 100] = [0, 1, 2, 3, 4, 5]) && (decide (ofA R 8 97 = 1) && (decide (ofA R 8 98 = 1) && (!decide (ofA R 8 44 = 1) && (!decide (ofA R 8 32 = 1) && (decide (ofA R 8 99 = 1) && decide (ofA R 8 100 = 1))))))
structure WFacts (R : List Rw) : Prop where
  st : starts (tabOf R) [97, 98, 44, 32, 99, 100] = [0, 1, 2, 3, 4, 5]
  l97 : ofA R 8 97 = 1
  l98 : ofA R 8 98 = 1
  l44 : ¬ ofA R 8 44 = 1
  l32 : ¬ ofA R 8 32 = 1
  l99 : ofA R 8 99 = 1
  l100 : ofA R 8 100 = 1
theorem wfacts_of {R : List Rw} (h : wordEx R = true) : WFacts R := by
  simp only [wordEx, Bool.and_eq_true, decide_eq_true_eq, Bool.not_eq_true', decide_eq_false_iff_not] at h
  obtain ⟨a1, a2, a3, a4, a5, a6, a7⟩ := h
  exact ⟨a1, a2, a3, a4, a5, a6, a7⟩
theorem wordRows_any : ∃ R : List Rw, RFacts R ∧ WFacts R ∧ ∀ w, Calls Try.prog 11 #[] w (LitPost R w) :=
  ⟨((((((((rowsFn Try.f34) ++ rowsFn Try.f35) ++ rowsFn Try.f36) ++ rowsFn Try.f37) ++ rowsFn Try.f38) ++ rowsFn Try.f39) ++ rowsFn Try.f40) ++ rowsFn Try.f41), rfacts_of (by kernel_rfl) (by kernel_rfl) (by kernel_rfl) (by kernel_rfl) (by kernel_rfl) (by kernel_rfl), wfacts_of (by kernel_rfl), fun w => apiRows_of _ _ _ _ _ _ _ _ (of_decide_eq_true (by kernel_rfl)) (of_decide_eq_true (by kernel_rfl)) (of_decide_eq_true (by kernel_rfl)) (of_decide_eq_true (by kernel_rfl)) (of_decide_eq_true (by kernel_rfl)) (of_decide_eq_true (by kernel_rfl)) (of_decide_eq_true (by kernel_rfl)) (of_decide_eq_true (by kernel_rfl)) classes_any pairs_any outs_any breaks_any picts_any conjs_any wides_any letters_any w⟩
theorem nxt_one {T : Tab} (H : T.Ok) {s : List Int} {b : Nat} (hb : begAt T s b = true) (h : b + 1 = s.length ∨ begAt T s (b + 1) = true) : nxt T s b = b + 1 := by
  obtain ⟨h1, h2, h3, h4⟩ := nx_spec H hb
  unfold nxt
  rcases h with h | h
  · omega
  · by_cases e : b + 1 < b + nx T (s.drop b)
    · rw [h3 (b + 1) (by omega) e] at h; cases h
    · omega
theorem prv_one {T : Tab} {s : List Int} {b : Nat} (hb : begAt T s b = true) : prv T s (b + 1) = b := by
  have hl := begAt_lt hb
  unfold prv prevI
  rw [show max (min ((b + 1 : Nat) : Int) ((s.length : Int) + 1)) 0 - 1 = ((b : Nat) : Int) by omega]
  by_cases h0 : b = 0
  · rw [floorI_nonpos (by omega)]; omega
  · rw [floorI_mid (by omega) (by omega)]
    exact floorB_eq (Nat.le_refl _) (.inr (by rw [isB_lt hl]; exact hb)) fun j h1 h2 => by omega
section
variable {R : List Rw}
theorem ex12_beg (W : WFacts R) (b : Nat) (h : b < 6) : begAt (tabOf R) [97, 98, 44, 32, 99, 100] b = true := by
  rw [← starts_mem, W.st]; simp; omega
theorem ex12_nxt (H : (tabOf R).Ok) (W : WFacts R) (b : Nat) (h : b < 6) : nxt (tabOf R) [97, 98, 44, 32, 99, 100] b = b + 1 := by
  refine nxt_one H (ex12_beg W b h) ?_
  by_cases e : b = 5
  · exact .inl (by subst e; rfl)
  · exact .inr (ex12_beg W (b + 1) (by omega))
theorem ex12_prv (W : WFacts R) (b : Nat) (h : b < 6) : prv (tabOf R) [97, 98, 44, 32, 99, 100] (b + 1) = b := prv_one (ex12_beg W b h)
theorem ex12_i0 (W : WFacts R) : insR R [97, 98, 44, 32, 99, 100] 0 = true := decide_eq_true W.l97
theorem ex12_i1 (W : WFacts R) : insR R [97, 98, 44, 32, 99, 100] 1 = true := decide_eq_true W.l98
theorem ex12_i2 (W : WFacts R) : insR R [97, 98, 44, 32, 99, 100] 2 = false := decide_eq_false W.l44
theorem ex12_i3 (W : WFacts R) : insR R [97, 98, 44, 32, 99, 100] 3 = false := decide_eq_false W.l32
theorem ex12_i4 (W : WFacts R) : insR R [97, 98, 44, 32, 99, 100] 4 = true := decide_eq_true W.l99
theorem ex12_i5 (W : WFacts R) : insR R [97, 98, 44, 32, 99, 100] 5 = true := decide_eq_true W.l100
theorem ex12_f0 (H : (tabOf R).Ok) (W : WFacts R) : fwdI R [97, 98, 44, 32, 99, 100] 0 = 2 := by
  have n := ex12_nxt H W
  unfold fwdI
  rw [ceilI_nonpos (Int.le_refl _), skp_stop (ex12_i0 W), runE_step (by decide) (by rw [n 0 (by decide)]; decide) (ex12_i0 W), n 0 (by decide), runE_step (by decide) (by rw [n (0 + 1) (by decide)]; decide) (ex12_i1 W), n (0 + 1) (by decide), runE_stop (ex12_i2 W)]
theorem ex12_f2 (H : (tabOf R).Ok) (W : WFacts R) : fwdI R [97, 98, 44, 32, 99, 100] 2 = 6 := by
  have n := ex12_nxt H W
  unfold fwdI
  rw [show (2 : Int) = ((2 : Nat) : Int) from rfl, ceilI_beg (ex12_beg W 2 (by decide)), skp_step (by decide) (by rw [n 2 (by decide)]; decide) (ex12_i2 W), n 2 (by decide), skp_step (by decide) (by rw [n (2 + 1) (by decide)]; decide) (ex12_i3 W), n (2 + 1) (by decide), skp_stop (ex12_i4 W),
    runE_step (by decide) (by rw [n (2 + 1 + 1) (by decide)]; decide) (ex12_i4 W), n (2 + 1 + 1) (by decide), runE_step (by decide) (by rw [n (2 + 1 + 1 + 1) (by decide)]; decide) (ex12_i5 W), n (2 + 1 + 1 + 1) (by decide), runE_end (by decide)]
theorem ex12_b6 (W : WFacts R) : bckI R [97, 98, 44, 32, 99, 100] 6 = 4 := by
  have p := ex12_prv W
  unfold bckI
  rw [floorI_big (by decide) (by decide)]
  show bck _ _ (5 + 1) false = 4
  rw [bck_in (by decide) (by rw [p 5 (by decide)]; decide) (by rw [p 5 (by decide)]; exact ex12_i5 W), p 5 (by decide)]
  show bck _ _ (4 + 1) true = 4
  rw [bck_in (by decide) (by rw [p 4 (by decide)]; decide) (by rw [p 4 (by decide)]; exact ex12_i4 W), p 4 (by decide)]
  show bck _ _ (3 + 1) true = 4
  rw [bck_stop (by decide) (by rw [p 3 (by decide)]; decide) (by rw [p 3 (by decide)]; exact ex12_i3 W)]
theorem ex12_b4 (W : WFacts R) : bckI R [97, 98, 44, 32, 99, 100] 4 = 0 := by
  have p := ex12_prv W
  unfold bckI
  rw [show (4 : Int) = ((4 : Nat) : Int) from rfl, floorI_mid (by decide) (by decide), floorB_eq (Nat.le_refl _) (.inr (by rw [isB_lt (by decide)]; exact ex12_beg W 4 (by decide))) (fun j h1 h2 => by omega)]
  show bck _ _ (3 + 1) false = 0
  rw [bck_out (by decide) (by rw [p 3 (by decide)]; decide) (by rw [p 3 (by decide)]; exact ex12_i3 W), p 3 (by decide)]
  show bck _ _ (2 + 1) false = 0
  rw [bck_out (by decide) (by rw [p 2 (by decide)]; decide) (by rw [p 2 (by decide)]; exact ex12_i2 W), p 2 (by decide)]
  show bck _ _ (1 + 1) false = 0
  rw [bck_in (by decide) (by rw [p 1 (by decide)]; decide) (by rw [p 1 (by decide)]; exact ex12_i1 W), p 1 (by decide)]
  show bck _ _ (0 + 1) true = 0
  rw [bck_in (by decide) (by rw [p 0 (by decide)]; decide) (by rw [p 0 (by decide)]; exact ex12_i0 W), p 0 (by decide), bck_zero]
end
set_option maxRecDepth 100000 in
set_option maxHeartbeats 4000000 in
theorem awake12_any (w : World) : Calls Try.prog 22 #[] w fun e w' => e = .returned (.bool true) ∧ Below w.heap.size w w' := by
  obtain ⟨R, HFc, HWc, hrows⟩ := wordRows_any
  have HF := Lib.hid HFc
  have HWf := Lib.hid HWc
  have HRows := Lib.hid hrows
  have HTk := Lib.hid HFc.seg.tab
  clear HFc hrows HWc
  go_enter Try.func22, Try.ntmps22
  go_wp2_with fail
  refine (HRows.out w).mono ?_
  rintro e w1 ⟨v, rfl, hB1, hR1⟩
  have HB1 := Lib.hid hB1
  go_wp2_with fail
  refine (build_tb v R w1 hR1 HF.out.ok).mono ?_
  rintro e w2 ⟨tp, rfl, hB2, hT⟩
  have HT2 := Lib.hid (hT.below (below1 w2 (.cells #[.int .i32 97, .int .i32 98, .int .i32 44, .int .i32 32, .int .i32 99, .int .i32 100] 21)))
  have HB2 := Lib.hid (below_new (below_trans' HB1.out hB2) (.cells #[.int .i32 97, .int .i32 98, .int .i32 44, .int .i32 32, .int .i32 99, .int .i32 100] 21))
  have HL2 := Lib.hid (show RunesIn (w2.alloc (.cells #[.int .i32 97, .int .i32 98, .int .i32 44, .int .i32 32, .int .i32 99, .int .i32 100] 21)) (.slice (some ⟨w2.heap.size, 0, none⟩) 6 6) [97, 98, 44, 32, 99, 100] from rs_lit runeE_len w2 _ _ _ 6 rfl (by decide) rfl)
  have HOk := Lib.hid (show RunesOk [97, 98, 44, 32, 99, 100] from fun x hx => by simp at hx; unfold I32; omega)
  clear hB1 hR1 hB2 hT HB1
  go_upto_region 3 with fail
  generalize w2.alloc (.cells #[.int .i32 97, .int .i32 98, .int .i32 44, .int .i32 32, .int .i32 99, .int .i32 100] 21) = W at HT2 HB2 HL2 ⊢
  generalize w2.heap.size = lb at HL2 ⊢
  go_wp2_with fail
  refine (fwd_any 0 HTk.out HT2.out HL2.out HOk.out (by decide)).mono ?_
  rintro e w3 ⟨rfl, hB3⟩
  rw [ex12_f0 HTk.out HWf.out]
  have HT3 := Lib.hid (HT2.out.below hB3)
  have HL3 := Lib.hid (HL2.out.below hB3)
  have HB3 := Lib.hid (below_trans' HB2.out hB3)
  clear hB3 HT2 HL2 HB2
  go_wp2_with fail
  refine (fwd_any 2 HTk.out HT3.out HL3.out HOk.out (by decide)).mono ?_
  rintro e w4 ⟨rfl, hB4⟩
  rw [ex12_f2 HTk.out HWf.out]
  have HT4 := Lib.hid (HT3.out.below hB4)
  have HL4 := Lib.hid (HL3.out.below hB4)
  have HB4 := Lib.hid (below_trans' HB3.out hB4)
  clear hB4 HT3 HL3 HB3
  go_wp2_with fail
  refine (wback_any 6 HTk.out HT4.out HL4.out HOk.out (by decide)).mono ?_
  rintro e w5 ⟨rfl, hB5⟩
  rw [ex12_b6 HWf.out]
  have HT5 := Lib.hid (HT4.out.below hB5)
  have HL5 := Lib.hid (HL4.out.below hB5)
  have HB5 := Lib.hid (below_trans' HB4.out hB5)
  clear hB5 HT4 HL4 HB4
  go_wp2_with fail
  refine (wback_any 4 HTk.out HT5.out HL5.out HOk.out (by decide)).mono ?_
  rintro e w6 ⟨rfl, hB6⟩
  rw [ex12_b4 HWf.out]
  have HB6 := Lib.hid (below_trans' HB5.out hB6)
  clear hB6 HT5 HL5 HB5
  go_wp2_with fail
  go_ret
  exact ⟨rfl, HB6.out⟩
theorem fin12 {w w1 : World} (h1 : Below w.heap.size w w1) : Calls Try.prog 22 #[] w1 fun e w' => e = .returned (.bool true) ∧ Below w.heap.size w w' := by
  refine (awake12_any w1).mono ?_
  rintro e w' ⟨rfl, hB⟩
  exact ⟨rfl, below_trans' h1 hB⟩
end Go.Proofs.Ythlpelfogplomaa
