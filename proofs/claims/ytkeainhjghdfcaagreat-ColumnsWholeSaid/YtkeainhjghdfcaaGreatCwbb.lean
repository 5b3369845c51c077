/- Joined texts: ApiC. -/
import Derived.Test.YtkeainhjghdfcaaGreatCwba
import Derived.Test.YtkeainhjghdfcaaGreatCwad

/- api.Rows. -/
namespace Go.Proofs.YtkeainhjghdfcaaGreat
open Go.RowKit

theorem Erow : ElemT Tryz.prog 37 169 5 40 := elemT_of (by kernel_rfl) (z := .agg #[.int .i64 0, .int .i64 0, .int .i64 0, .int .i64 0, .int .i64 0]) (by kernel_rfl) rfl (by decide) (by decide)
theorem renc_one (R : List Rw) : ∀ u ∈ R.flatMap renc, u.oneCell' = true := by
  intro u hu
  obtain ⟨x, _, hx⟩ := List.mem_flatMap.1 hu
  simp [renc] at hx
  rcases hx with rfl | rfl | rfl | rfl | rfl <;> rfl
/-- rows of the call's own -/
def RowsOwn (w : World) (base : Nat) (v : Value) (R : List Rw) : Prop := w.ownsRow base 169 5 v R.length (R.flatMap renc)
set_option maxRecDepth 100000 in
set_option maxHeartbeats 1000000 in
theorem apiRows_of (L1 L2 L3 L4 L5 L6 L7 L8 : List Rw) (l1 : L1.length ≤ 1000) (l2 : L2.length ≤ 1000) (l3 : L3.length ≤ 1000) (l4 : L4.length ≤ 1000) (l5 : L5.length ≤ 1000) (l6 : L6.length ≤ 1000) (l7 : L7.length ≤ 1000) (l8 : L8.length ≤ 1000) (h1 : ∀ w, Calls Tryz.prog 51 #[] w (LitPost L1 w)) (h2 : ∀ w, Calls Tryz.prog 52 #[] w (LitPost L2 w)) (h3 : ∀ w, Calls Tryz.prog 53 #[] w (LitPost L3 w)) (h4 : ∀ w, Calls Tryz.prog 54 #[] w (LitPost L4 w)) (h5 : ∀ w, Calls Tryz.prog 55 #[] w (LitPost L5 w)) (h6 : ∀ w, Calls Tryz.prog 56 #[] w (LitPost L6 w)) (h7 : ∀ w, Calls Tryz.prog 57 #[] w (LitPost L7 w)) (h8 : ∀ w, Calls Tryz.prog 58 #[] w (LitPost L8 w)) (w : World) :
    Calls Tryz.prog 17 #[] w (LitPost (((((((L1 ++ L2) ++ L3) ++ L4) ++ L5) ++ L6) ++ L7) ++ L8) w) := by
  go_enter Tryz.func17, Tryz.ntmps17
  have HO0 := Lib.hid (show RowsOwn w w.heap.size (.slice none 0 0) [] from World.ownsRow_nil _ _ _ _)
  have HB0 := Lib.hid (Below.refl w.heap.size w)
  go_wp2_with fail
  refine (h1 _).mono ?_
  rintro e w1 ⟨x1, rfl, hB1, hR1⟩
  have HR1 := Lib.hid hR1
  have HBa1 := Lib.hid (below_trans' HB0.out hB1)
  have HOa1 := Lib.hid (show RowsOwn w1 w.heap.size (.slice none 0 0) [] from owns_stays HO0.out hB1)
  clear hB1 hR1
  go_wp2_with (at_builtin; refine wpList_app_rd _ rfl (.tmp 2) (.tmp 3) _ rfl Erow _ _ _ rfl HOa1.out _ _ _ rfl HR1.out (renc_one _) (by simp <;> omega) HBa1.out.size ?_; intro v1 u1 ho1 hg1; have HB1 := Lib.hid (below_app HBa1.out HBa1.out.size HOa1.out (Nat.le_refl _) hg1); have HO1 := Lib.hid (show RowsOwn u1 w.heap.size v1 ([] ++ L1) from (by unfold RowsOwn; rw [List.flatMap_append, List.length_append]; exact ho1)); clear ho1 hg1)
  refine (h2 _).mono ?_
  rintro e w2 ⟨x2, rfl, hB2, hR2⟩
  have HR2 := Lib.hid hR2
  have HBa2 := Lib.hid (below_trans' HB1.out hB2)
  have HOa2 := Lib.hid (show RowsOwn w2 w.heap.size v1 ([] ++ L1) from owns_stays HO1.out hB2)
  clear hB2 hR2
  go_wp2_with (at_builtin; refine wpList_app_rd _ rfl (.tmp 5) (.tmp 6) _ rfl Erow _ _ _ rfl HOa2.out _ _ _ rfl HR2.out (renc_one _) (by simp <;> omega) HBa2.out.size ?_; intro v2 u2 ho2 hg2; have HB2 := Lib.hid (below_app HBa2.out HBa2.out.size HOa2.out (Nat.le_refl _) hg2); have HO2 := Lib.hid (show RowsOwn u2 w.heap.size v2 (([] ++ L1) ++ L2) from (by unfold RowsOwn; rw [List.flatMap_append, List.length_append]; exact ho2)); clear ho2 hg2)
  refine (h3 _).mono ?_
  rintro e w3 ⟨x3, rfl, hB3, hR3⟩
  have HR3 := Lib.hid hR3
  have HBa3 := Lib.hid (below_trans' HB2.out hB3)
  have HOa3 := Lib.hid (show RowsOwn w3 w.heap.size v2 (([] ++ L1) ++ L2) from owns_stays HO2.out hB3)
  clear hB3 hR3
  go_wp2_with (at_builtin; refine wpList_app_rd _ rfl (.tmp 8) (.tmp 9) _ rfl Erow _ _ _ rfl HOa3.out _ _ _ rfl HR3.out (renc_one _) (by simp <;> omega) HBa3.out.size ?_; intro v3 u3 ho3 hg3; have HB3 := Lib.hid (below_app HBa3.out HBa3.out.size HOa3.out (Nat.le_refl _) hg3); have HO3 := Lib.hid (show RowsOwn u3 w.heap.size v3 ((([] ++ L1) ++ L2) ++ L3) from (by unfold RowsOwn; rw [List.flatMap_append, List.length_append]; exact ho3)); clear ho3 hg3)
  refine (h4 _).mono ?_
  rintro e w4 ⟨x4, rfl, hB4, hR4⟩
  have HR4 := Lib.hid hR4
  have HBa4 := Lib.hid (below_trans' HB3.out hB4)
  have HOa4 := Lib.hid (show RowsOwn w4 w.heap.size v3 ((([] ++ L1) ++ L2) ++ L3) from owns_stays HO3.out hB4)
  clear hB4 hR4
  go_wp2_with (at_builtin; refine wpList_app_rd _ rfl (.tmp 11) (.tmp 12) _ rfl Erow _ _ _ rfl HOa4.out _ _ _ rfl HR4.out (renc_one _) (by simp <;> omega) HBa4.out.size ?_; intro v4 u4 ho4 hg4; have HB4 := Lib.hid (below_app HBa4.out HBa4.out.size HOa4.out (Nat.le_refl _) hg4); have HO4 := Lib.hid (show RowsOwn u4 w.heap.size v4 (((([] ++ L1) ++ L2) ++ L3) ++ L4) from (by unfold RowsOwn; rw [List.flatMap_append, List.length_append]; exact ho4)); clear ho4 hg4)
  refine (h5 _).mono ?_
  rintro e w5 ⟨x5, rfl, hB5, hR5⟩
  have HR5 := Lib.hid hR5
  have HBa5 := Lib.hid (below_trans' HB4.out hB5)
  have HOa5 := Lib.hid (show RowsOwn w5 w.heap.size v4 (((([] ++ L1) ++ L2) ++ L3) ++ L4) from owns_stays HO4.out hB5)
  clear hB5 hR5
  go_wp2_with (at_builtin; refine wpList_app_rd _ rfl (.tmp 14) (.tmp 15) _ rfl Erow _ _ _ rfl HOa5.out _ _ _ rfl HR5.out (renc_one _) (by simp <;> omega) HBa5.out.size ?_; intro v5 u5 ho5 hg5; have HB5 := Lib.hid (below_app HBa5.out HBa5.out.size HOa5.out (Nat.le_refl _) hg5); have HO5 := Lib.hid (show RowsOwn u5 w.heap.size v5 ((((([] ++ L1) ++ L2) ++ L3) ++ L4) ++ L5) from (by unfold RowsOwn; rw [List.flatMap_append, List.length_append]; exact ho5)); clear ho5 hg5)
  refine (h6 _).mono ?_
  rintro e w6 ⟨x6, rfl, hB6, hR6⟩
  have HR6 := Lib.hid hR6
  have HBa6 := Lib.hid (below_trans' HB5.out hB6)
  have HOa6 := Lib.hid (show RowsOwn w6 w.heap.size v5 ((((([] ++ L1) ++ L2) ++ L3) ++ L4) ++ L5) from owns_stays HO5.out hB6)
  clear hB6 hR6
  go_wp2_with (at_builtin; refine wpList_app_rd _ rfl (.tmp 17) (.tmp 18) _ rfl Erow _ _ _ rfl HOa6.out _ _ _ rfl HR6.out (renc_one _) (by simp <;> omega) HBa6.out.size ?_; intro v6 u6 ho6 hg6; have HB6 := Lib.hid (below_app HBa6.out HBa6.out.size HOa6.out (Nat.le_refl _) hg6); have HO6 := Lib.hid (show RowsOwn u6 w.heap.size v6 (((((([] ++ L1) ++ L2) ++ L3) ++ L4) ++ L5) ++ L6) from (by unfold RowsOwn; rw [List.flatMap_append, List.length_append]; exact ho6)); clear ho6 hg6)
  refine (h7 _).mono ?_
  rintro e w7 ⟨x7, rfl, hB7, hR7⟩
  have HR7 := Lib.hid hR7
  have HBa7 := Lib.hid (below_trans' HB6.out hB7)
  have HOa7 := Lib.hid (show RowsOwn w7 w.heap.size v6 (((((([] ++ L1) ++ L2) ++ L3) ++ L4) ++ L5) ++ L6) from owns_stays HO6.out hB7)
  clear hB7 hR7
  go_wp2_with (at_builtin; refine wpList_app_rd _ rfl (.tmp 20) (.tmp 21) _ rfl Erow _ _ _ rfl HOa7.out _ _ _ rfl HR7.out (renc_one _) (by simp <;> omega) HBa7.out.size ?_; intro v7 u7 ho7 hg7; have HB7 := Lib.hid (below_app HBa7.out HBa7.out.size HOa7.out (Nat.le_refl _) hg7); have HO7 := Lib.hid (show RowsOwn u7 w.heap.size v7 ((((((([] ++ L1) ++ L2) ++ L3) ++ L4) ++ L5) ++ L6) ++ L7) from (by unfold RowsOwn; rw [List.flatMap_append, List.length_append]; exact ho7)); clear ho7 hg7)
  refine (h8 _).mono ?_
  rintro e w8 ⟨x8, rfl, hB8, hR8⟩
  have HR8 := Lib.hid hR8
  have HBa8 := Lib.hid (below_trans' HB7.out hB8)
  have HOa8 := Lib.hid (show RowsOwn w8 w.heap.size v7 ((((((([] ++ L1) ++ L2) ++ L3) ++ L4) ++ L5) ++ L6) ++ L7) from owns_stays HO7.out hB8)
  clear hB8 hR8
  go_wp2_with (at_builtin; refine wpList_app_rd _ rfl (.tmp 23) (.tmp 24) _ rfl Erow _ _ _ rfl HOa8.out _ _ _ rfl HR8.out (renc_one _) (by simp <;> omega) HBa8.out.size ?_; intro v8 u8 ho8 hg8; have HB8 := Lib.hid (below_app HBa8.out HBa8.out.size HOa8.out (Nat.le_refl _) hg8); have HO8 := Lib.hid (show RowsOwn u8 w.heap.size v8 (((((((([] ++ L1) ++ L2) ++ L3) ++ L4) ++ L5) ++ L6) ++ L7) ++ L8) from (by unfold RowsOwn; rw [List.flatMap_append, List.length_append]; exact ho8)); clear ho8 hg8)
  go_ret
  exact ⟨_, rfl, HB8.out, rd_of_owns (by have h := HO8.out; rw [List.nil_append] at h; exact h)⟩
end Go.Proofs.YtkeainhjghdfcaaGreat
