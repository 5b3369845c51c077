/- Joined texts: ScrG. -/
import Derived.Laws.StructEq
import Derived.Test.YtkeainhjghdfcaaGreatSwbh
import Derived.Test.YtkeainhjghdfcaaGreatSwbd

/- screen: chapter 29's example. -/
namespace Go.Proofs.YtkeainhjghdfcaaGreat
open Go.RowKit

theorem eqin_two (t : TypeId) (ht : Tryz.prog.underlying t = some (.struct (Tryz.prog.fieldsOf t))) (hp : Tryz.prog.stoodInHeld t = false) (f0 f1 : Field) (hf : (Tryz.prog.fieldsOf t).toList = [f0, f1]) (n0 : f0.name ≠ "_") (n1 : f1.name ≠ "_") (y0 : f0.type = 3) (y1 : f1.type = 3) (o0 : f0.offset = 0) (o1 : f1.offset = 1) (a b d e : Int) (w : World) :
    (Op.equalIn 10000 t (.agg #[.int .i64 a, .int .i64 b]) (.agg #[.int .i64 d, .int .i64 e])).run Tryz.prog w = .ok (decide ((a, b) = (d, e))) w := by
  rw [run_equalIn_agg _ _ _ _ _ ht hp, hf]
  simp only [Op.eqFields, y0, y1, o0, o1]
  simp [go_sem]
  rw [if_neg n0, if_neg n1]
  by_cases h0 : a = d
  · subst h0
    by_cases h1 : b = e
    · subst h1; simp
    · simp [h1]
  · simp [h0]
set_option maxRecDepth 100000 in
theorem eqin_spot (a b d e : Int) (w : World) :
    (Op.equalIn 10000 57 (.agg #[.int .i64 a, .int .i64 b]) (.agg #[.int .i64 d, .int .i64 e])).run Tryz.prog w = .ok (decide ((a, b) = (d, e))) w :=
  eqin_two 57 (by kernel_rfl) (by kernel_rfl) _ _ rfl (by decide) (by decide) rfl rfl rfl rfl _ _ _ _ w
def scrP : List (List Int) := [[62, 32]]
def scrL : List Int := [97, 98, 99]
def scrGl : List Gy := [(⟨#[62]⟩, 1), (⟨#[32]⟩, 1), (⟨#[97]⟩, 1), (⟨#[98]⟩, 1), (⟨#[99]⟩, 1)]
def scrEx (R : List Rw) : Bool := decide (viewG R scrP scrL = scrGl) && decide (curK R scrP scrL 1 = 3)
structure ScrEx (R : List Rw) : Prop where
  v : viewG R scrP scrL = scrGl
  k : curK R scrP scrL 1 = 3
theorem scrEx_of {R : List Rw} (h : scrEx R = true) : ScrEx R := by
  unfold scrEx at h
  simp only [Bool.and_eq_true, decide_eq_true_eq] at h
  exact ⟨h.1, h.2⟩
set_option maxRecDepth 100000 in
theorem scrExRows_any : ∃ R : List Rw, RFacts R ∧ ScrEx R ∧ ∀ w, Calls Tryz.prog 17 #[] w (LitPost R w) :=
  ⟨((((((((rowsFn Tryz.f51) ++ rowsFn Tryz.f52) ++ rowsFn Tryz.f53) ++ rowsFn Tryz.f54) ++ rowsFn Tryz.f55) ++ rowsFn Tryz.f56) ++ rowsFn Tryz.f57) ++ rowsFn Tryz.f58), rfacts_of (by kernel_rfl) (by kernel_rfl) (by kernel_rfl) (by kernel_rfl) (by kernel_rfl) (by kernel_rfl), scrEx_of (show scrEx _ = true by kernel_rfl), fun w => apiRows_of _ _ _ _ _ _ _ _ (of_decide_eq_true (by kernel_rfl)) (of_decide_eq_true (by kernel_rfl)) (of_decide_eq_true (by kernel_rfl)) (of_decide_eq_true (by kernel_rfl)) (of_decide_eq_true (by kernel_rfl)) (of_decide_eq_true (by kernel_rfl)) (of_decide_eq_true (by kernel_rfl)) (of_decide_eq_true (by kernel_rfl)) classes_any pairs_any outs_any breaks_any picts_any conjs_any wides_any letters_any w⟩
def scrGrid : List (List Gl) := [[(⟨#[62]⟩, 1), (⟨#[32]⟩, 1), (⟨#[97]⟩, 1), (⟨#[98]⟩, 1)], [(⟨#[99]⟩, 1), blankC, blankC, blankC]]
theorem scrGrid_eq : scG scrGl 2 4 3 = scrGrid := by decide +kernel
theorem scrTop_eq : scTop scrGl 2 4 3 = 0 := by decide +kernel
theorem scrCur_eq : itemAt 4 scrGl 3 = (0, 3) := by decide +kernel
theorem scrTxt_eq : scrGrid.map txtC = [⟨#[62, 32, 97, 98]⟩, ⟨#[99]⟩] := by decide +kernel
theorem scrSz : ∀ l ∈ scrGrid, szG l ≤ 1000000000 := by decide +kernel
set_option maxRecDepth 100000 in
set_option maxHeartbeats 4000000 in
theorem awake29_any (w : World) : Calls Tryz.prog 28 #[] w fun e w' => e = .returned (.bool true) ∧ Below w.heap.size w w' := by
  obtain ⟨R, HFc, HUc, hrows⟩ := scrExRows_any
  have HF := Lib.hid HFc
  have HRows := Lib.hid hrows
  have HU := Lib.hid HUc
  clear HFc hrows HUc
  go_enter Tryz.func28, Tryz.ntmps28
  go_wp2_with fail
  refine (HRows.out w).mono ?_
  rintro e w1 ⟨v, rfl, hB1, hR1⟩
  have HB1 := Lib.hid hB1
  go_wp2_with fail
  refine (build_tb v R w1 hR1 HF.out.ok).mono ?_
  rintro e w2 ⟨tp, rfl, hB2, hT⟩
  obtain ⟨w3, hw3⟩ : ∃ w3, w3 = w2.alloc (.cells #[.int .i32 62, .int .i32 32] 21) := ⟨_, rfl⟩
  obtain ⟨w4, hw4⟩ : ∃ w4, w4 = w3.alloc (.cells #[.slice (some ⟨w2.heap.size, 0, none⟩) 2 2] 35) := ⟨_, rfl⟩
  obtain ⟨w5, hw5⟩ : ∃ w5, w5 = w4.alloc (.cells #[.int .i32 97, .int .i32 98, .int .i32 99] 21) := ⟨_, rfl⟩
  have b3 : Below w2.heap.size w2 w3 := by rw [hw3]; exact below1 w2 _
  have b4 : Below w3.heap.size w3 w4 := by rw [hw4]; exact below1 w3 _
  have b5 : Below w4.heap.size w4 w5 := by rw [hw5]; exact below1 w4 _
  have z3 : w3.heap.size = w2.heap.size + 1 := by rw [hw3]; simp
  have z4 : w4.heap.size = w3.heap.size + 1 := by rw [hw4]; simp
  have r3 : RunesIn w3 (.slice (some ⟨w2.heap.size, 0, none⟩) 2 2) [62, 32] := by rw [hw3]; exact rs_lit runeE_len w2 _ _ _ 2 rfl (by decide) rfl
  have n4 : w4.heap[w3.heap.size]? = some (.cells #[.slice (some ⟨w2.heap.size, 0, none⟩) 2 2] 35 (0, 0)) := by rw [hw4]; exact heap_alloc_new w3 _
  have t4 : TextsIn w4 (.slice (some ⟨w3.heap.size, 0, none⟩) 1 1) scrP := by
    refine ⟨[.slice (some ⟨w2.heap.size, 0, none⟩) 2 2], ⟨_, _, rfl, Nat.le_refl _, by decide, rfl, fun _ => ⟨w3.heap.size, 0, rfl, by omega, fun j u hu => ?_⟩⟩, fun i u l hu hl => ?_⟩
    · match j, hu with
      | 0, hu => cases hu; exact row_cells (i := 0) n4 rfl
    · match i, hu, hl with
      | 0, hu, hl => cases hu; cases hl; exact r3.below b4
  have l5 : RunesIn w5 (.slice (some ⟨w4.heap.size, 0, none⟩) 3 3) scrL := by rw [hw5]; exact rs_lit runeE_len w4 _ _ _ 3 rfl (by decide) rfl
  have p5 := t4.below b5
  rw [z4, z3] at l5
  rw [z3] at p5
  have HL5 := Lib.hid l5
  have HP5 := Lib.hid p5
  have HT5 := Lib.hid (((hT.below b3).below b4).below b5)
  have HB5 := Lib.hid (below_trans' (below_trans' (below_trans' (below_trans' HB1.out hB2) b3) b4) b5)
  have HOk := Lib.hid (show RunesOk scrL from fun x hx => by simp [scrL] at hx; unfold I32; omega)
  have HPk := Lib.hid (show ∀ p ∈ scrP, RunesOk p ∧ p.length ≤ 20 from fun p hp => by
    simp [scrP] at hp
    subst hp
    exact ⟨fun x hx => by simp at hx; unfold I32; omega, by decide⟩)
  have HOf := Lib.hid (sof_yes HF.out.seg.tab HT5.out HP5.out HPk.out (by decide) HL5.out HOk.out (by decide) 1 (n := 2) (m := 4) (by decide) (by decide) (by decide) (by decide))
  have HW3 := Lib.hid hw3
  have HW4 := Lib.hid hw4
  have HW5 := Lib.hid hw5
  clear hB1 hR1 hB2 hT HB1 r3 n4 t4 b3 b4 b5 z3 z4 l5 p5 hw3 hw4 hw5
  go_wp2_with fail
  rw [← HW3.out, ← HW4.out, ← HW5.out]
  refine HOf.out.mono ?_
  rintro e w6 ⟨gb, lb, rfl, hB6, hgb, hlb, hG6⟩
  rw [HU.out.v, HU.out.k] at hG6 ⊢
  rw [show ((4 : Nat) : Int) = 4 from rfl, scrCur_eq, scrTop_eq]
  rw [scrGrid_eq] at hG6
  have HB6 := Lib.hid (below_trans' HB5.out hB6)
  have hn7 := heap_alloc_new w6 (.cells #[.pointer (some ⟨gb, 0, none⟩), .int .i64 0, .int .i64 3] 59)
  have hb7 := below1 w6 (.cells #[.pointer (some ⟨gb, 0, none⟩), .int .i64 0, .int .i64 3] 59)
  have HB7 := Lib.hid (below_trans' HB6.out hb7)
  have HG7 := Lib.hid (hG6.kept (by decide) (by decide) (P := fun _ => False) (.of_below hb7) id id)
  clear hB6 hG6 hb7 hgb hlb HOf HT5 HP5 HL5 HB5 HB6 HW3 HW4 HW5 HPk HOk
  go_upto_region 2 with fail
  generalize w6.alloc (.cells #[.pointer (some ⟨gb, 0, none⟩), .int .i64 0, .int .i64 3] 59) = w7 at hn7 HB7 HG7 ⊢
  generalize w6.heap.size = sp at hn7 ⊢
  have y0 := row_cells (i := 0) hn7 rfl
  have y1 := row_cells (i := 1) hn7 rfl
  have y2 := row_cells (i := 2) hn7 rfl
  go_wp2_with fail
  refine (stext_any (r := 0) (c := 3) HG7.out (by decide) (by decide) (by decide) (by decide) scrSz).mono ?_
  rintro e w8 ⟨u, rfl, hB8, hO8⟩
  rw [scrTxt_eq, show scrGrid.length = 2 from rfl] at hO8
  obtain ⟨tg, tc, rfl, hg1, hg2⟩ := ownBlock_of_owns hO8 (by decide)
  have c0 : w8.cell? ⟨tg, 0, none⟩ = some (.string ⟨#[62, 32, 97, 98]⟩) := hO8.cellAt 0 (by decide)
  have c1 : w8.cell? ⟨tg, 1, none⟩ = some (.string ⟨#[99]⟩) := hO8.cellAt 1 (by decide)
  have z1 := cell_later hB8 y1
  have z2 := cell_later hB8 y2
  have HB8 := Lib.hid (below_trans' HB7.out hB8)
  have t1 := eqin_spot 0 3 0 3 w8
  clear hn7 y0 y1 y2 HB7 HG7 hB8 hO8 hg1 hg2
  go_wp2_with fail
  go_ret
  exact ⟨rfl, HB8.out⟩
theorem fin29 {w w1 : World} (h1 : Below w.heap.size w w1) : Calls Tryz.prog 28 #[] w1 fun e w' => e = .returned (.bool true) ∧ Below w.heap.size w w' := by
  refine (awake29_any w1).mono ?_
  rintro e w' ⟨rfl, hB⟩
  exact ⟨rfl, below_trans' h1 hB⟩
end Go.Proofs.YtkeainhjghdfcaaGreat
