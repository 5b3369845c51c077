/- Joined texts: DecA. -/
import Derived.Test.YthlpelfogplomaaGreatZdaa
import Derived.Test.YthlpelfogplomaaGreatZcad
import Derived.Test.YthlpelfogplomaaGreatZaaa
/- utf: the first byte of a row. -/
namespace Go.Proofs.YthlpelfogplomaaGreat
open Go.RowKit

theorem and31u (n : Int) (h0 : 0 ≤ n) (h1 : n ≤ 255) : bits .and .u8 n 31 = n % 32 := by
  have key : ∀ x : Fin 256, bits .and .u8 ((x.val : Nat) : Int) 31 = ((x.val : Nat) : Int) % 32 := by decide +kernel
  have := key ⟨n.toNat, by omega⟩
  rwa [show ((n.toNat : Nat) : Int) = n by omega] at this
theorem and15u (n : Int) (h0 : 0 ≤ n) (h1 : n ≤ 255) : bits .and .u8 n 15 = n % 16 := by
  have key : ∀ x : Fin 256, bits .and .u8 ((x.val : Nat) : Int) 15 = ((x.val : Nat) : Int) % 16 := by decide +kernel
  have := key ⟨n.toNat, by omega⟩
  rwa [show ((n.toNat : Nat) : Int) = n by omega] at this
theorem and7u (n : Int) (h0 : 0 ≤ n) (h1 : n ≤ 255) : bits .and .u8 n 7 = n % 8 := by
  have key : ∀ x : Fin 256, bits .and .u8 ((x.val : Nat) : Int) 7 = ((x.val : Nat) : Int) % 8 := by decide +kernel
  have := key ⟨n.toNat, by omega⟩
  rwa [show ((n.toNat : Nat) : Int) = n by omega] at this
theorem and63u (n : Int) (h0 : 0 ≤ n) (h1 : n ≤ 255) : bits .and .u8 n 63 = n % 64 := by
  have key : ∀ x : Fin 256, bits .and .u8 ((x.val : Nat) : Int) 63 = ((x.val : Nat) : Int) % 64 := by decide +kernel
  have := key ⟨n.toNat, by omega⟩
  rwa [show ((n.toNat : Nat) : Int) = n by omega] at this
theorem or64 (v y : Int) (h0 : 0 ≤ v) (h1 : v < 1048576) (h2 : 0 ≤ y) (h3 : y < 64) : bits .or .i32 (v * 64) y = v * 64 + y := by
  obtain ⟨a, rfl⟩ : ∃ a : Nat, v = a := ⟨v.toNat, by omega⟩
  obtain ⟨b, rfl⟩ : ∃ b : Nat, y = b := ⟨y.toNat, by omega⟩
  have e1 : ((a : Int) * 64 % ((2 ^ 32 : Nat) : Int)).toNat = 2 ^ 6 * a := by omega
  have e2 : ((b : Int) % ((2 ^ 32 : Nat) : Int)).toNat = b := by omega
  have key : (BitVec.ofInt 32 ((a : Int) * 64) ||| BitVec.ofInt 32 (b : Int)).toNat = 2 ^ 6 * a + b := by
    rw [BitVec.toNat_or, BitVec.toNat_ofInt, BitVec.toNat_ofInt, e1, e2, Nat.two_pow_add_eq_or_of_lt (by omega)]
  show IntKind.i32.wrap ((BitVec.ofInt 32 ((a : Int) * 64) ||| BitVec.ofInt 32 (b : Int)).toNat : Nat) = _
  rw [key, IntKind.wrap_i32]
  omega
/-- a decoder's value -/
def dcV (d : Dc) : Value := .agg #[.int .i64 d.nd, .int .i64 d.hv, .int .u8 d.lo, .int .u8 d.hi, .int .i32 d.vl]
theorem range5' {w : World} {b : Nat} {u v x y z : Value} (h0 : w.cell? ⟨b, 0, none⟩ = some u) (h1 : w.cell? ⟨b, 1, none⟩ = some v) (h2 : w.cell? ⟨b, 2, none⟩ = some x) (h3 : w.cell? ⟨b, 3, none⟩ = some y) (h4 : w.cell? ⟨b, 4, none⟩ = some z) : w.rangeAt b 0 [u, v, x, y, z] := fun j t ht => by
  match j with
  | 0 => simp at ht; subst ht; exact h0
  | 1 => simp at ht; subst ht; exact h1
  | 2 => simp at ht; subst ht; exact h2
  | 3 => simp at ht; subst ht; exact h3
  | 4 => simp at ht; subst ht; exact h4
  | j + 5 => simp at ht
/-- what a byte brings -/
def FdPost (p : Dc × List Int) (w : World) (e : Ending) (w' : World) : Prop := ∃ u, e = .returned (.tuple #[dcV p.1, u]) ∧ Below w.heap.size w w' ∧ w'.ownsRow w.heap.size 21 1 u p.2.length (p.2.flatMap runeE)
set_option maxRecDepth 100000 in
set_option maxHeartbeats 8000000 in
theorem first_any (b : Int) (h0 : 0 ≤ b) (h1 : b ≤ 255) (w : World) : Calls Tryz.prog 136 #[.int .u8 b] w (FdPost (fstD b) w) := by
  by_cases c1 : b < 128
  · have HF := Lib.hid (show fstD b = (Dc0, [b]) by unfold fstD; rw [if_pos c1])
    go_enter Tryz.func136, Tryz.ntmps136
    go_wp2_with fail
    refine ret_cell_tmp (x := .slice (some ⟨w.heap.size + 1 + 1, 0, none⟩) 1 1) (ad := ⟨w.heap.size, 0, none⟩) rfl rfl rfl (run_loadVar_mid _ _ 0 _ [.int .i64 0, .int .i64 0, .int .u8 0, .int .u8 0, .int .i32 0] _ (range5' (by go_simp) (by go_simp) (by go_simp) (by go_simp) (by go_simp)) Tryz.underlying191 rfl (by kernel_rfl)) rfl ?_
    rw [HF.out]
    refine ⟨_, rfl, ((Below.refl _ w).alloc (Nat.le_refl _) _ |>.alloc (by simp) _).alloc (by simp; omega) _, ?_⟩
    have hn : ((w.alloc (.cells #[.int .i64 0, .int .i64 0, .int .u8 0, .int .u8 0, .int .i32 0] 191)).alloc (.cells #[.int .i64 0, .int .i64 1, .int .u8 128, .int .u8 191, .int .i32 0] 191)).heap.size = w.heap.size + 1 + 1 := by simp
    have := owns_lit ((w.alloc (.cells #[.int .i64 0, .int .i64 0, .int .u8 0, .int .u8 0, .int .i32 0] 191)).alloc (.cells #[.int .i64 0, .int .i64 1, .int .u8 128, .int .u8 191, .int .i32 0] 191)) #[.int .i32 b] 21 (base := w.heap.size) (size := 1) (n := 1) rfl (by decide) (by simp; omega)
    rw [hn] at this
    exact this
  have d1 : decide (b < 128) = false := decide_eq_false c1
  by_cases c2 : b < 194
  · have HF := Lib.hid (show fstD b = (Dc0, [65533]) by unfold fstD; rw [if_neg c1, if_pos (by omega)])
    go_enter Tryz.func136, Tryz.ntmps136
    go_wp2_with fail
    refine ret_cell_tmp (x := .slice (some ⟨w.heap.size + 1 + 1, 0, none⟩) 1 1) (ad := ⟨w.heap.size, 0, none⟩) rfl rfl rfl (run_loadVar_mid _ _ 0 _ [.int .i64 0, .int .i64 0, .int .u8 0, .int .u8 0, .int .i32 0] _ (range5' (by go_simp) (by go_simp) (by go_simp) (by go_simp) (by go_simp)) Tryz.underlying191 rfl (by kernel_rfl)) rfl ?_
    rw [HF.out]
    refine ⟨_, rfl, ((Below.refl _ w).alloc (Nat.le_refl _) _ |>.alloc (by simp) _).alloc (by simp; omega) _, ?_⟩
    have hn : ((w.alloc (.cells #[.int .i64 0, .int .i64 0, .int .u8 0, .int .u8 0, .int .i32 0] 191)).alloc (.cells #[.int .i64 0, .int .i64 1, .int .u8 128, .int .u8 191, .int .i32 0] 191)).heap.size = w.heap.size + 1 + 1 := by simp
    have := owns_lit ((w.alloc (.cells #[.int .i64 0, .int .i64 0, .int .u8 0, .int .u8 0, .int .i32 0] 191)).alloc (.cells #[.int .i64 0, .int .i64 1, .int .u8 128, .int .u8 191, .int .i32 0] 191)) #[.int .i32 65533] 21 (base := w.heap.size) (size := 1) (n := 1) rfl (by decide) (by simp; omega)
    rw [hn] at this
    exact this
  have d2 : decide (b < 194) = false := decide_eq_false c2
  by_cases c3 : b > 244
  · have HF := Lib.hid (show fstD b = (Dc0, [65533]) by unfold fstD; rw [if_neg c1, if_pos (by omega)])
    go_enter Tryz.func136, Tryz.ntmps136
    go_wp2_with fail
    refine ret_cell_tmp (x := .slice (some ⟨w.heap.size + 1 + 1, 0, none⟩) 1 1) (ad := ⟨w.heap.size, 0, none⟩) rfl rfl rfl (run_loadVar_mid _ _ 0 _ [.int .i64 0, .int .i64 0, .int .u8 0, .int .u8 0, .int .i32 0] _ (range5' (by go_simp) (by go_simp) (by go_simp) (by go_simp) (by go_simp)) Tryz.underlying191 rfl (by kernel_rfl)) rfl ?_
    rw [HF.out]
    refine ⟨_, rfl, ((Below.refl _ w).alloc (Nat.le_refl _) _ |>.alloc (by simp) _).alloc (by simp; omega) _, ?_⟩
    have hn : ((w.alloc (.cells #[.int .i64 0, .int .i64 0, .int .u8 0, .int .u8 0, .int .i32 0] 191)).alloc (.cells #[.int .i64 0, .int .i64 1, .int .u8 128, .int .u8 191, .int .i32 0] 191)).heap.size = w.heap.size + 1 + 1 := by simp
    have := owns_lit ((w.alloc (.cells #[.int .i64 0, .int .i64 0, .int .u8 0, .int .u8 0, .int .i32 0] 191)).alloc (.cells #[.int .i64 0, .int .i64 1, .int .u8 128, .int .u8 191, .int .i32 0] 191)) #[.int .i32 65533] 21 (base := w.heap.size) (size := 1) (n := 1) rfl (by decide) (by simp; omega)
    rw [hn] at this
    exact this
  have d3 : decide (b > 244) = false := decide_eq_false c3
  have a31 := and31u b h0 h1
  have a15 := and15u b h0 h1
  have a7 := and7u b h0 h1
  by_cases c4 : b < 224
  · have g224 : (b == 224) = false := by simp; omega
    have g237 : (b == 237) = false := by simp; omega
    have g240 : (b == 240) = false := by simp; omega
    have g244 : (b == 244) = false := by simp; omega
    have HF := Lib.hid (show fstD b = (⟨1, 1, 128, 191, b % 32⟩, []) by unfold fstD; rw [if_neg c1, if_neg (by omega)]; unfold Dc1; rw [if_pos (by omega), if_neg (by omega), if_neg (by omega), if_neg (by omega), if_neg (by omega), if_pos (by omega)])
    have e1 : IntKind.i32.wrap (b % 32) = b % 32 := by rw [IntKind.wrap_i32]; omega
    go_enter Tryz.func136, Tryz.ntmps136
    go_wp2_with fail
    refine ret_cell_tmp (x := .slice none 0 0) (ad := ⟨w.heap.size, 0, none⟩) rfl rfl rfl (run_loadVar_mid _ _ 0 _ [.int .i64 1, .int .i64 1, .int .u8 128, .int .u8 191, .int .i32 (b % 32)] _ (range5' (by go_simp) (by go_simp) (by go_simp) (by go_simp) (by go_simp)) Tryz.underlying191 rfl (by kernel_rfl)) rfl ?_
    rw [HF.out]
    refine ⟨_, rfl, (Below.refl _ w).alloc (Nat.le_refl _) _ |>.alloc (by simp) _, World.ownsRow_nil _ _ _ _⟩
  have d4 : decide (b < 224) = false := decide_eq_false c4
  by_cases c5 : b < 240
  · by_cases k1 : b = 224
    · subst k1
      clear a31 a15 a7
      have HF := Lib.hid (show fstD 224 = (⟨2, 1, 160, 191, 0⟩, []) from rfl)
      go_enter Tryz.func136, Tryz.ntmps136
      go_wp2_with fail
      refine ret_cell_tmp (x := .slice none 0 0) (ad := ⟨w.heap.size, 0, none⟩) rfl rfl rfl (run_loadVar_mid _ _ 0 _ [.int .i64 2, .int .i64 1, .int .u8 160, .int .u8 191, .int .i32 0] _ (range5' (by go_simp) (by go_simp) (by go_simp) (by go_simp) (by go_simp)) Tryz.underlying191 rfl (by kernel_rfl)) rfl ?_
      rw [HF.out]
      refine ⟨_, rfl, (Below.refl _ w).alloc (Nat.le_refl _) _ |>.alloc (by simp) _, World.ownsRow_nil _ _ _ _⟩
    by_cases k2 : b = 237
    · subst k2
      clear a31 a15 a7
      have HF := Lib.hid (show fstD 237 = (⟨2, 1, 128, 159, 13⟩, []) from rfl)
      go_enter Tryz.func136, Tryz.ntmps136
      go_wp2_with fail
      refine ret_cell_tmp (x := .slice none 0 0) (ad := ⟨w.heap.size, 0, none⟩) rfl rfl rfl (run_loadVar_mid _ _ 0 _ [.int .i64 2, .int .i64 1, .int .u8 128, .int .u8 159, .int .i32 13] _ (range5' (by go_simp) (by go_simp) (by go_simp) (by go_simp) (by go_simp)) Tryz.underlying191 rfl (by kernel_rfl)) rfl ?_
      rw [HF.out]
      refine ⟨_, rfl, (Below.refl _ w).alloc (Nat.le_refl _) _ |>.alloc (by simp) _, World.ownsRow_nil _ _ _ _⟩
    have g224 : (b == 224) = false := by simp; omega
    have g237 : (b == 237) = false := by simp; omega
    have g240 : (b == 240) = false := by simp; omega
    have g244 : (b == 244) = false := by simp; omega
    have HF := Lib.hid (show fstD b = (⟨2, 1, 128, 191, b % 16⟩, []) by unfold fstD; rw [if_neg c1, if_neg (by omega)]; unfold Dc1; rw [if_neg (by omega), if_pos (by omega), if_neg (by omega), if_neg (by omega), if_neg (by omega), if_neg (by omega), if_neg (by omega), if_pos (by omega)])
    have e1 : IntKind.i32.wrap (b % 16) = b % 16 := by rw [IntKind.wrap_i32]; omega
    go_enter Tryz.func136, Tryz.ntmps136
    go_wp2_with fail
    refine ret_cell_tmp (x := .slice none 0 0) (ad := ⟨w.heap.size, 0, none⟩) rfl rfl rfl (run_loadVar_mid _ _ 0 _ [.int .i64 2, .int .i64 1, .int .u8 128, .int .u8 191, .int .i32 (b % 16)] _ (range5' (by go_simp) (by go_simp) (by go_simp) (by go_simp) (by go_simp)) Tryz.underlying191 rfl (by kernel_rfl)) rfl ?_
    rw [HF.out]
    refine ⟨_, rfl, (Below.refl _ w).alloc (Nat.le_refl _) _ |>.alloc (by simp) _, World.ownsRow_nil _ _ _ _⟩
  have d5 : decide (b < 240) = false := decide_eq_false c5
  by_cases k1 : b = 240
  · subst k1
    clear a31 a15 a7
    have HF := Lib.hid (show fstD 240 = (⟨3, 1, 144, 191, 0⟩, []) from rfl)
    go_enter Tryz.func136, Tryz.ntmps136
    go_wp2_with fail
    refine ret_cell_tmp (x := .slice none 0 0) (ad := ⟨w.heap.size, 0, none⟩) rfl rfl rfl (run_loadVar_mid _ _ 0 _ [.int .i64 3, .int .i64 1, .int .u8 144, .int .u8 191, .int .i32 0] _ (range5' (by go_simp) (by go_simp) (by go_simp) (by go_simp) (by go_simp)) Tryz.underlying191 rfl (by kernel_rfl)) rfl ?_
    rw [HF.out]
    refine ⟨_, rfl, (Below.refl _ w).alloc (Nat.le_refl _) _ |>.alloc (by simp) _, World.ownsRow_nil _ _ _ _⟩
  by_cases k2 : b = 244
  · subst k2
    clear a31 a15 a7
    have HF := Lib.hid (show fstD 244 = (⟨3, 1, 128, 143, 4⟩, []) from rfl)
    go_enter Tryz.func136, Tryz.ntmps136
    go_wp2_with fail
    refine ret_cell_tmp (x := .slice none 0 0) (ad := ⟨w.heap.size, 0, none⟩) rfl rfl rfl (run_loadVar_mid _ _ 0 _ [.int .i64 3, .int .i64 1, .int .u8 128, .int .u8 143, .int .i32 4] _ (range5' (by go_simp) (by go_simp) (by go_simp) (by go_simp) (by go_simp)) Tryz.underlying191 rfl (by kernel_rfl)) rfl ?_
    rw [HF.out]
    refine ⟨_, rfl, (Below.refl _ w).alloc (Nat.le_refl _) _ |>.alloc (by simp) _, World.ownsRow_nil _ _ _ _⟩
  have g224 : (b == 224) = false := by simp; omega
  have g237 : (b == 237) = false := by simp; omega
  have g240 : (b == 240) = false := by simp; omega
  have g244 : (b == 244) = false := by simp; omega
  have HF := Lib.hid (show fstD b = (⟨3, 1, 128, 191, b % 8⟩, []) by unfold fstD; rw [if_neg c1, if_neg (by omega)]; unfold Dc1; rw [if_neg (by omega), if_neg (by omega), if_neg (by omega), if_neg (by omega), if_neg (by omega), if_neg (by omega), if_neg (by omega), if_neg (by omega)])
  have e1 : IntKind.i32.wrap (b % 8) = b % 8 := by rw [IntKind.wrap_i32]; omega
  go_enter Tryz.func136, Tryz.ntmps136
  go_wp2_with fail
  refine ret_cell_tmp (x := .slice none 0 0) (ad := ⟨w.heap.size, 0, none⟩) rfl rfl rfl (run_loadVar_mid _ _ 0 _ [.int .i64 3, .int .i64 1, .int .u8 128, .int .u8 191, .int .i32 (b % 8)] _ (range5' (by go_simp) (by go_simp) (by go_simp) (by go_simp) (by go_simp)) Tryz.underlying191 rfl (by kernel_rfl)) rfl ?_
  rw [HF.out]
  refine ⟨_, rfl, (Below.refl _ w).alloc (Nat.le_refl _) _ |>.alloc (by simp) _, World.ownsRow_nil _ _ _ _⟩
end Go.Proofs.YthlpelfogplomaaGreat
