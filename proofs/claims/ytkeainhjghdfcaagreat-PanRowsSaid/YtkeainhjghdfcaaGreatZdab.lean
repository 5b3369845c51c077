/- Joined texts: DecA. -/
import Derived.Test.YtkeainhjghdfcaaGreatZdaa
import Derived.Test.YtkeainhjghdfcaaGreatZcad
import Derived.Test.YtkeainhjghdfcaaGreatZaaa
/- utf: the first byte of a row. -/
namespace Go.Proofs.YtkeainhjghdfcaaGreat
open Go.RowKit

theorem and31u (n : Int) (h0 : 0 ≤ n) (h1 : n ≤ 255) : bits .and .u8 n 31 = n % 32 := by
  have key : ∀ x : Fin 256, bits .and .u8 ((x.val : Nat) : Int) 31 = ((x.val : Nat) : Int) % 32 := by decide +kernel
  have := key ⟨n.toNat, by omega⟩
  rwa [show ((n.toNat : Nat) : Int) = n by omega] at this
theorem and15u (n : Int) (h0 : 0 ≤ n) (h1 : n ≤ 255) : bits .and .u8 n 15 = n % 16 := by
  have key : ∀ x : Fin 256, bits .and .u8 ((x.val : Nat) : Int) 15 = ((x.val : Nat) : Int) % 16 := by decide +kernel
  have := key ⟨n.toNat, by omega⟩
  rwa [show ((n.toNat : Nat) : Int) = n by omega] at this
theorem and7u (n : Int) (h0 : 0 ≤ n) (h1 : n ≤ 255) : bits .and .u8 n 7 = n % 8 := by
  have key : ∀ x : Fin 256, bits .and .u8 ((x.val : Nat) : Int) 7 = ((x.val : Nat) : Int) % 8 := by decide +kernel
  have := key ⟨n.toNat, by omega⟩
  rwa [show ((n.toNat : Nat) : Int) = n by omega] at this
theorem and63u (n : Int) (h0 : 0 ≤ n) (h1 : n ≤ 255) : bits .and .u8 n 63 = n % 64 := by
  have key : ∀ x : Fin 256, bits .and .u8 ((x.val : Nat) : Int) 63 = ((x.val : Nat) : Int) % 64 := by decide +kernel
  have := key ⟨n.toNat, by omega⟩
  rwa [show ((n.toNat : Nat) : Int) = n by omega] at this
theorem or64 (v y : Int) (h0 : 0 ≤ v) (h1 : v < 1048576) (h2 : 0 ≤ y) (h3 : y < 64) : bits .or .i32 (v * 64) y = v * 64 + y := by
  obtain ⟨a, rfl⟩ : ∃ a : Nat, v = a := ⟨v.toNat, by omega⟩
  obtain ⟨b, rfl⟩ : ∃ b : Nat, y = b := ⟨y.toNat, by omega⟩
  have e1 : ((a : Int) * 64 % ((2 ^ 32 : Nat) : Int)).toNat = 2 ^ 6 * a := by omega
  have e2 : ((b : Int) % ((2 ^ 32 : Nat) : Int)).toNat = b := by omega
  have key : (BitVec.ofInt 32 ((a : Int) * 64) ||| BitVec.ofInt 32 (b : Int)).toNat = 2 ^ 6 * a + b := by
    rw [BitVec.toNat_or, BitVec.toNat_ofInt, BitVec.toNat_ofInt, e1, e2, Nat.two_pow_add_eq_or_of_lt (by omega)]
  show IntKind.i32.wrap ((BitVec.ofInt 32 ((a : Int) * 64) ||| BitVec.ofInt 32 (b : Int)).toNat : Nat) = _
  rw [key, IntKind.wrap_i32]
  omega
/-- a decoder's value -/
def dcV (d : Dc) : Value := .agg #[.int .i64 d.nd, .int .i64 d.hv, .int .u8 d.lo, .int .u8 d.hi, .int .i32 d.vl]
theorem range5' {w : World} {b : Nat} {u v x y z : Value} (h0 : w.cell? ⟨b, 0, none⟩ = some u) (h1 : w.cell? ⟨b, 1, none⟩ = some v) (h2 : w.cell? ⟨b, 2, none⟩ = some x) (h3 : w.cell? ⟨b, 3, none⟩ = some y) (h4 : w.cell? ⟨b, 4, none⟩ = some z) : w.rangeAt b 0 [u, v, x, y, z] := fun j t ht => by
  match j with
  | 0 => simp at ht; subst ht; exact h0
  | 1 => simp at ht; subst ht; exact h1
  | 2 => simp at ht; subst ht; exact h2
  | 3 => simp at ht; subst ht; exact h3
  | 4 => simp at ht; subst ht; exact h4
  | j + 5 => simp at ht
/-- what a byte brings -/
def FdPost (p : Dc × List Int) (w : World) (e : Ending) (w' : World) : Prop := ∃ u, e = .returned (.tuple #[dcV p.1, u]) ∧ Below w.heap.size w w' ∧ w'.ownsRow w.heap.size 21 1 u p.2.length (p.2.flatMap runeE)
end Go.Proofs.YtkeainhjghdfcaaGreat
