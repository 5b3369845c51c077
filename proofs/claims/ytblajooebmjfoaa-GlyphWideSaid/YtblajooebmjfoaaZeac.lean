/- Joined texts: GlyB GlyC GlyD GlyE GlyG GlyH GlyF GlyI GlyJ GlyK. -/
import Derived.Deep.RegionHeld3
import Derived.Deep.DeepCutAuto
import Derived.Lib.AppendStr
import Derived.Laws.Concat
import Derived.Deep.QuietTactic
import Derived.BigQuiet
import Derived.Laws.StructEq
import Derived.Test.YtblajooebmjfoaaZeab
import Derived.Test.YtblajooebmjfoaaZaaw
import Derived.Test.YtblajooebmjfoaaZcaa
import Derived.Test.YtblajooebmjfoaaZaac
import Derived.Test.YtblajooebmjfoaaZbac
import Derived.Test.YtblajooebmjfoaaZbaa
import Derived.Test.YtblajooebmjfoaaZaaz
/- The document's Put; bytes turned to a string. -/
namespace Go.Proofs.Ytblajooebmjfoaa
open Go.RowKit

theorem conv_new (w : World) (xs : List Int) (cs : Array Value) (hc : cs.toList = xs.map (Value.int .u8)) (n : Nat) (hn : xs.length = n) :
    (convert 153 9 (.slice (some ⟨w.heap.size, 0, none⟩) n n)).run Try.prog (w.alloc (.cells cs 5)) = .ok (.string (strOfNums xs)) (w.alloc (.cells cs 5)) := by
  refine run_convert_bytes_arg (P := Try.prog) (w.alloc (.cells cs 5)) 153 5 Try.underlying153 Try.underlying5 w.heap.size 0 n n xs hn (fun i hi => ?_) 9 Try.underlying9
  rw [Nat.zero_add, cell_of_row _ w.heap.size i cs 5 (0, 0) (heap_alloc_new w _), ← Array.getElem?_toList, hc]
  have hl : i < xs.length := by omega
  simp [List.getElem?_eq_getElem hl]
def PutPost (r : Int) (w : World) (e : Ending) (w' : World) : Prop := e = .returned (.string (put r)) ∧ Below w.heap.size w w'
theorem put_of {r : Int} {xs : List Int} (h : putN r = xs) {w w' : World} (hB : Below w.heap.size w w') : Ending.returned (.string (strOfNums xs)) = .returned (.string (put r)) ∧ Below w.heap.size w w' := by
  unfold put
  rw [h]
  exact ⟨rfl, hB⟩
theorem below1' (w : World) (o : Obj) : Below w.heap.size w (w.alloc o) := (Below.refl _ w).alloc (Nat.le_refl _) o
theorem quo_in (x y : Int) (h : 0 ≤ x) : x.tdiv y = x / y := Int.tdiv_eq_ediv_of_nonneg h
set_option maxRecDepth 100000 in
set_option maxHeartbeats 4000000 in
theorem rput_any (r : Int) (w : World) : Calls Try.prog 57 #[.int .i32 r] w fun e w' => e = .returned (.string (put r)) ∧ Below w.heap.size w w' := by
  have HV := Lib.hid (rvalid_any r w)
  have hf := fixR_rng r
  obtain ⟨n, hn⟩ : ∃ n, n = fixR r := ⟨_, rfl⟩
  have HP := Lib.hid (show putN r = if n < 128 then [n] else if n < 2048 then [192 + n / 64, 128 + n % 64] else if n < 65536 then [224 + n / 4096, 128 + n / 64 % 64, 128 + n % 64] else [240 + n / 262144, 128 + n / 4096 % 64, 128 + n / 64 % 64, 128 + n % 64] by unfold putN; rw [hn])
  rw [← hn] at hf
  have hw : IntKind.i64.wrap r = r ∨ validB r = false := by
    by_cases h : validB r = true
    · have := validB_iff.1 h
      exact .inl (IntWalk.i64_in r (by omega))
    · exact .inr (Bool.eq_false_iff.2 h)
  have hn2 : (validB r = true ∧ IntKind.i64.wrap r = n) ∨ (validB r = false ∧ 65533 = n) := by
    by_cases h : validB r = true
    · exact .inl ⟨h, by rw [hn, fixR_ok h]; rcases hw with h1 | h1; exact h1; rw [h] at h1; cases h1⟩
    · have h' := Bool.eq_false_iff.2 h
      exact .inr ⟨h', by rw [hn, fixR_bad h']⟩
  clear hn hw
  have HF := Lib.hid hf
  rcases hn2 with ⟨h1, h2⟩ | ⟨h1, h2⟩
  case' inl =>
    rw [h1] at HV
    clear h1
    go_enter Try.func57, Try.ntmps57
    go_wp2_with fail
    refine HV.out.mono ?_
    rintro e w' ⟨rfl, rfl⟩
    go_upto_region 4 with fail
  case' inr =>
    rw [h1] at HV
    clear h1
    go_enter Try.func57, Try.ntmps57
    go_wp2_with fail
    refine HV.out.mono ?_
    rintro e w' ⟨rfl, rfl⟩
    go_upto_region 4 with fail
  case' inr => rw [h2]
  all_goals
    obtain ⟨f0, f1⟩ := HF.out
    clear h2 hf
    by_cases c1 : n < 128
    · have u1 := IntWalk.u8_in n (by omega)
      have cv := conv_new w [n] #[.int .u8 n] rfl 1 rfl
      have HE := Lib.hid (show putN r = [n] by rw [HP.out, if_pos c1])
      clear f0 f1
      go_wp2_with fail
      go_ret
      exact put_of HE.out (below1' _ _)
    · have q1 : decide (n < 128) = false := decide_eq_false c1
      have hd1 := quo_in n 64 f0
      have hm1 := IntWalk.rem_in n 64 f0
      have hi1 := IntWalk.i64_in (n / 64) (by omega)
      have hi2 := IntWalk.i64_in (192 + n / 64) (by omega)
      have hi3 := IntWalk.i64_in (128 + n % 64) (by omega)
      have hi4 := IntWalk.i64_in (n % 64) (by omega)
      by_cases c2 : n < 2048
      · have u1 := IntWalk.u8_in (192 + n / 64) (by omega)
        have u2 := IntWalk.u8_in (128 + n % 64) (by omega)
        have cv := conv_new w [192 + n / 64, 128 + n % 64] #[.int .u8 (192 + n / 64), .int .u8 (128 + n % 64)] rfl 2 rfl
        have HE := Lib.hid (show putN r = [192 + n / 64, 128 + n % 64] by rw [HP.out, if_neg c1, if_pos c2])
        clear f0 f1 c1
        go_wp2_with fail
        go_ret
        exact put_of HE.out (below1' _ _)
      · have q2 : decide (n < 2048) = false := decide_eq_false c2
        have hd2 := quo_in n 4096 f0
        have hm2 := IntWalk.rem_in (n / 64) 64 (by omega)
        have hj1 := IntWalk.i64_in (n / 4096) (by omega)
        have hj2 := IntWalk.i64_in (224 + n / 4096) (by omega)
        have hj3 := IntWalk.i64_in (n / 64 % 64) (by omega)
        have hj4 := IntWalk.i64_in (128 + n / 64 % 64) (by omega)
        have u1 := IntWalk.u8_in (128 + n % 64) (by omega)
        have u2 := IntWalk.u8_in (128 + n / 64 % 64) (by omega)
        by_cases c3 : n < 65536
        · have u3 := IntWalk.u8_in (224 + n / 4096) (by omega)
          have cv := conv_new w [224 + n / 4096, 128 + n / 64 % 64, 128 + n % 64] #[.int .u8 (224 + n / 4096), .int .u8 (128 + n / 64 % 64), .int .u8 (128 + n % 64)] rfl 3 rfl
          have HE := Lib.hid (show putN r = [224 + n / 4096, 128 + n / 64 % 64, 128 + n % 64] by rw [HP.out, if_neg c1, if_neg c2, if_pos c3])
          clear f0 f1 c1 c2
          go_wp2_with fail
          go_ret
          exact put_of HE.out (below1' _ _)
        · have q3 : decide (n < 65536) = false := decide_eq_false c3
          have hd3 := quo_in n 262144 f0
          have hm3 := IntWalk.rem_in (n / 4096) 64 (by omega)
          have hk1 := IntWalk.i64_in (n / 262144) (by omega)
          have hk2 := IntWalk.i64_in (240 + n / 262144) (by omega)
          have hk3 := IntWalk.i64_in (n / 4096 % 64) (by omega)
          have hk4 := IntWalk.i64_in (128 + n / 4096 % 64) (by omega)
          have u3 := IntWalk.u8_in (128 + n / 4096 % 64) (by omega)
          have u4 := IntWalk.u8_in (240 + n / 262144) (by omega)
          have cv := conv_new w [240 + n / 262144, 128 + n / 4096 % 64, 128 + n / 64 % 64, 128 + n % 64] #[.int .u8 (240 + n / 262144), .int .u8 (128 + n / 4096 % 64), .int .u8 (128 + n / 64 % 64), .int .u8 (128 + n % 64)] rfl 4 rfl
          have HE := Lib.hid (show putN r = [240 + n / 262144, 128 + n / 4096 % 64, 128 + n / 64 % 64, 128 + n % 64] by rw [HP.out, if_neg c1, if_neg c2, if_neg c3])
          clear f0 f1 c1 c2 c3
          go_wp2_with fail
          go_ret
          exact put_of HE.out (below1' _ _)
end Go.Proofs.Ytblajooebmjfoaa

/- utf.Put. -/
namespace Go.Proofs.Ytblajooebmjfoaa
open Go.RowKit

theorem make_u8 (w : World) (n : Nat) (hn : n ≤ 8) (cs : Array Value) (hc : madeCells #[.int .u8 0] n = cs) : (Instr.makeSlice 153 (.int .i64 (n : Int)) (.int .i64 (n : Int))).run Try.prog w = .ok (.slice (some ⟨w.heap.size, 0, none⟩) n n) (w.alloc (.cells cs 5)) := by
  obtain ⟨i, hi, hz, hs, hb⟩ := info_parts (show (Try.prog.info? 5).map (fun i => (i.zero, i.size, i.bytes)) = some (some (.int .u8 0), 1, 1) by kernel_rfl)
  have := run_make (P := Try.prog) w 153 5 i (.int .u8 0) Try.underlying153 hi hz .i64 .i64 (n : Int) (n : Int) (by omega) (by omega) (by rw [hb]; omega) (by omega)
  rw [hs, Nat.mul_one, Int.toNat_natCast] at this
  rw [this]
  show _ = Result.ok _ (w.alloc (.cells cs 5))
  rw [← hc]
  rfl
theorem and63 (n : Int) (h0 : 0 ≤ n) (h1 : n ≤ 2147483647) : bits .and .i32 n 63 = n % 64 := by
  have key : (BitVec.ofInt 32 n &&& BitVec.ofInt 32 63).toNat = (n % ((2 ^ 32 : Nat) : Int)).toNat % 64 := by
    rw [BitVec.toNat_and, BitVec.toNat_ofInt, show (BitVec.ofInt 32 63).toNat = 2 ^ 6 - 1 by decide, Nat.and_two_pow_sub_one_eq_mod]
  show IntKind.i32.wrap ((BitVec.ofInt 32 n &&& BitVec.ofInt 32 63).toNat : Nat) = _
  rw [key, IntKind.wrap_i32]
  omega
theorem or128 (n : Int) : bits .or .i32 128 (n % 64) = 128 + n % 64 := by
  have key : ∀ x : Fin 64, bits .or .i32 128 ((x.val : Nat) : Int) = 128 + ((x.val : Nat) : Int) := by decide
  have := key ⟨(n % 64).toNat, by omega⟩
  rwa [show (((n % 64).toNat : Nat) : Int) = n % 64 by omega] at this
theorem or192 (n : Int) (h0 : 0 ≤ n) (h1 : n < 32) : bits .or .u8 192 n = 192 + n := by
  have key : ∀ x : Fin 32, bits .or .u8 192 ((x.val : Nat) : Int) = 192 + ((x.val : Nat) : Int) := by decide
  have := key ⟨n.toNat, by omega⟩
  rwa [show ((n.toNat : Nat) : Int) = n by omega] at this
theorem or224 (n : Int) (h0 : 0 ≤ n) (h1 : n < 16) : bits .or .u8 224 n = 224 + n := by
  have key : ∀ x : Fin 16, bits .or .u8 224 ((x.val : Nat) : Int) = 224 + ((x.val : Nat) : Int) := by decide
  have := key ⟨n.toNat, by omega⟩
  rwa [show ((n.toNat : Nat) : Int) = n by omega] at this
theorem or240 (n : Int) (h0 : 0 ≤ n) (h1 : n < 8) : bits .or .u8 240 n = 240 + n := by
  have key : ∀ x : Fin 8, bits .or .u8 240 ((x.val : Nat) : Int) = 240 + ((x.val : Nat) : Int) := by decide
  have := key ⟨n.toNat, by omega⟩
  rwa [show ((n.toNat : Nat) : Int) = n by omega] at this
theorem conv_row (W : World) (b : Nat) (xs : List Int) (cs : Array Value) (h : W.heap[b]? = some (.cells cs 5 (0, 0))) (hc : cs.toList = xs.map (Value.int .u8)) (n : Nat) (hn : xs.length = n) :
    (convert 153 9 (.slice (some ⟨b, 0, none⟩) n n)).run Try.prog W = .ok (.string (strOfNums xs)) W := by
  refine run_convert_bytes_arg (P := Try.prog) W 153 5 Try.underlying153 Try.underlying5 b 0 n n xs hn (fun i hi => ?_) 9 Try.underlying9
  rw [Nat.zero_add, cell_of_row _ b i cs 5 (0, 0) h, ← Array.getElem?_toList, hc]
  have hl : i < xs.length := by omega
  simp [List.getElem?_eq_getElem hl]
theorem row_cells' {w : World} {b : Nat} {cs : Array Value} {t : TypeId} (h : w.heap[b]? = some (.cells cs t (0, 0))) {i : Nat} {v : Value} (hi : cs[i]? = some v) : w.cell? ⟨b, i, none⟩ = some v := by
  rw [cell_of_row _ b i cs t (0, 0) h]; exact hi
theorem row_warm' {w : World} {b : Nat} {cs : Array Value} {t : TypeId} (h : w.heap[b]? = some (.cells cs t (0, 0))) (i : Nat) : w.frozen? ⟨b, i, none⟩ = false := by
  unfold World.frozen?; rw [show w.heap[(⟨b, i, none⟩ : Addr).block]? = _ from h]; simp
def shN (n : Int) : Nat → Int
  | 0 => n
  | 1 => n / 64
  | 2 => n / 4096
  | _ => n / 262144
def putRow (n : Int) : Nat → Nat → Array Value
  | 2, 0 => #[.int .u8 0, .int .u8 0]
  | 2, _ => #[.int .u8 0, .int .u8 (128 + n % 64)]
  | 3, 0 => #[.int .u8 0, .int .u8 0, .int .u8 0]
  | 3, 1 => #[.int .u8 0, .int .u8 0, .int .u8 (128 + n % 64)]
  | 3, _ => #[.int .u8 0, .int .u8 (128 + n / 64 % 64), .int .u8 (128 + n % 64)]
  | _, 0 => #[.int .u8 0, .int .u8 0, .int .u8 0, .int .u8 0]
  | _, 1 => #[.int .u8 0, .int .u8 0, .int .u8 0, .int .u8 (128 + n % 64)]
  | _, 2 => #[.int .u8 0, .int .u8 0, .int .u8 (128 + n / 64 % 64), .int .u8 (128 + n % 64)]
  | _, _ => #[.int .u8 0, .int .u8 (128 + n / 4096 % 64), .int .u8 (128 + n / 64 % 64), .int .u8 (128 + n % 64)]
set_option maxRecDepth 100000 in
set_option maxHeartbeats 1000000 in
theorem put_any (r : Int) (w : World) : Calls Try.prog 92 #[.int .i32 r] w fun e w' => e = .returned (.string (put r)) ∧ Below w.heap.size w w' := by
  have HV := Lib.hid (valid_any r w)
  obtain ⟨n, hn⟩ : ∃ n, n = fixR r := ⟨_, rfl⟩
  have hf := fixR_rng r
  have HP := Lib.hid (show putN r = if n < 128 then [n] else if n < 2048 then [192 + n / 64, 128 + n % 64] else if n < 65536 then [224 + n / 4096, 128 + n / 64 % 64, 128 + n % 64] else [240 + n / 262144, 128 + n / 4096 % 64, 128 + n / 64 % 64, 128 + n % 64] by unfold putN; rw [hn])
  have hsz : sizeN n = if n < 128 then 1 else if n < 2048 then 2 else if n < 65536 then 3 else 4 := by
    rw [sizeN_fix]
    have : fixR n = n := by
      rw [hn]
      by_cases h : validB r = true
      · rw [fixR_ok h, fixR_ok h]
      · rw [fixR_bad (Bool.eq_false_iff.2 h)]; exact fixR_ok (validB_iff.2 (by omega))
    rw [this]
  have HS := Lib.hid (usize_any n w)
  rw [← hn] at hf
  have hn2 : (validB r = true ∧ n = r) ∨ (validB r = false ∧ n = 65533) := by
    by_cases h : validB r = true
    · exact .inl ⟨h, by rw [hn, fixR_ok h]⟩
    · have h' := Bool.eq_false_iff.2 h
      exact .inr ⟨h', by rw [hn, fixR_bad h']⟩
  have HF := Lib.hid hf
  have HZ := Lib.hid hsz
  clear hn hf hsz
  rcases hn2 with ⟨h1, h2⟩ | ⟨h1, h2⟩
  case' inl =>
    rw [h1] at HV
    subst h2
    clear h1
    go_enter Try.func92, Try.ntmps92
    go_wp2_with fail
    refine HV.out.mono ?_
    rintro e w' ⟨rfl, rfl⟩
    go_upto_region 3 with fail
  case' inr =>
    rw [h1] at HV
    clear h1
    go_enter Try.func92, Try.ntmps92
    go_wp2_with fail
    refine HV.out.mono ?_
    rintro e w' ⟨rfl, rfl⟩
    go_upto_region 3 with fail
    rw [← h2]
    clear h2
  all_goals
    clear HV
    go_wp2_with fail
    refine HS.out.mono ?_
    rintro e w' ⟨rfl, rfl⟩
    obtain ⟨f0, f1⟩ := HF.out
    have hz := HZ.out
    by_cases c1 : n < 128
    · rw [if_pos c1] at hz
      rw [hz]
      have u1 := IntWalk.u8_in n (by omega)
      have cv := conv_new w [n] #[.int .u8 n] rfl 1 rfl
      have HE := Lib.hid (show putN _ = [n] by rw [HP.out, if_pos c1])
      clear f0 f1 hz HS c1
      go_wp2_with fail
      go_ret
      exact put_of HE.out (below1' _ _)
    · by_cases c2 : n < 2048
      · rw [if_neg c1, if_pos c2] at hz
        rw [hz]
        have HE := Lib.hid (show putN _ = [192 + n / 64, 128 + n % 64] by rw [HP.out, if_neg c1, if_pos c2])
        clear hz c1 HS
        have mk : (Instr.makeSlice 153 (.int .i64 2) (.int .i64 2)).run Try.prog w = .ok (.slice (some ⟨w.heap.size, 0, none⟩) 2 2) (w.alloc (.cells #[.int .u8 0, .int .u8 0] 5)) := make_u8 w 2 (by decide) _ (by kernel_rfl)
        have hr0 := heap_alloc_new w (.cells #[.int .u8 0, .int .u8 0] 5)
        have HB0 := Lib.hid (below1' w (.cells #[.int .u8 0, .int .u8 0] 5))
        go_wp2_with fail
        generalize w.alloc (.cells #[.int .u8 0, .int .u8 0] 5) = w0 at hr0 HB0 ⊢
        clear mk
        go_loopw [0, 5] (fun rv iv wr => ∃ k : Nat, k ≤ 1 ∧ rv = .int .i32 (shN n k) ∧ iv = .int .i64 ((1 - k : Nat) : Int) ∧ wr.heap[w.heap.size]? = some (.cells (putRow n 2 k) 5 (0, 0)) ∧ Below w.heap.size w wr) (fun _ iv _ => (intOf iv).toNat)
        case atStart => exact ⟨0, by decide, rfl, rfl, hr0, HB0.out⟩
        case round =>
          obtain ⟨k, hk, rfl, rfl, hr, hB⟩ := hrel
          have HR := Lib.hid hr
          have HB := Lib.hid hB
          have hk2 : k = 0 ∨ k = 1 := by omega
          clear hB hr0 HB0
          rcases hk2 with rfl | rfl
          · have c1 : wr.cell? ⟨w.heap.size, 1, none⟩ = some (.int .u8 0) := row_cells' hr rfl
            have f1 := row_warm' hr 1
            have a1 := and63 (n) (by omega) (by omega)
            have a2 := or128 (n)
            have a3 : (128 + n % 64) % 256 = 128 + n % 64 := by omega
            clear hr hk
            simp only [shN]
            go_wp2_with fail
            go_roundw
            case rel => exact ⟨1, by decide, rfl, rfl, heap_setCell_same _ _ _ _ _ _ HR.out, HB.out.setCell (p := ⟨w.heap.size, 1, none⟩) (Nat.le_refl _) _⟩
            case measure => simp [intOf]
          · have c1 : wr.cell? ⟨w.heap.size, 0, none⟩ = some (.int .u8 0) := row_cells' hr rfl
            have f1 := row_warm' hr 0
            have a3 : n / 64 % 256 = n / 64 := by omega
            have a2 := or192 (n / 64) (by omega) (by omega)
            have cv := conv_row (wr.setCell ⟨w.heap.size, 0, none⟩ (.int .u8 (192 + n / 64))) w.heap.size [192 + n / 64, 128 + n % 64] _ (heap_setCell_same _ _ _ _ _ _ hr) rfl 2 rfl
            clear hr hk
            simp only [shN]
            go_wp2_with fail
            go_ret
            exact put_of HE.out (HB.out.setCell (p := ⟨w.heap.size, 0, none⟩) (Nat.le_refl _) _)
      · by_cases c3 : n < 65536
        · rw [if_neg c1, if_neg c2, if_pos c3] at hz
          rw [hz]
          have HE := Lib.hid (show putN _ = [224 + n / 4096, 128 + n / 64 % 64, 128 + n % 64] by rw [HP.out, if_neg c1, if_neg c2, if_pos c3])
          clear hz c1 c2 HS
          have mk : (Instr.makeSlice 153 (.int .i64 3) (.int .i64 3)).run Try.prog w = .ok (.slice (some ⟨w.heap.size, 0, none⟩) 3 3) (w.alloc (.cells #[.int .u8 0, .int .u8 0, .int .u8 0] 5)) := make_u8 w 3 (by decide) _ (by kernel_rfl)
          have hr0 := heap_alloc_new w (.cells #[.int .u8 0, .int .u8 0, .int .u8 0] 5)
          have HB0 := Lib.hid (below1' w (.cells #[.int .u8 0, .int .u8 0, .int .u8 0] 5))
          go_wp2_with fail
          generalize w.alloc (.cells #[.int .u8 0, .int .u8 0, .int .u8 0] 5) = w0 at hr0 HB0 ⊢
          clear mk
          go_loopw [0, 5] (fun rv iv wr => ∃ k : Nat, k ≤ 2 ∧ rv = .int .i32 (shN n k) ∧ iv = .int .i64 ((2 - k : Nat) : Int) ∧ wr.heap[w.heap.size]? = some (.cells (putRow n 3 k) 5 (0, 0)) ∧ Below w.heap.size w wr) (fun _ iv _ => (intOf iv).toNat)
          case atStart => exact ⟨0, by decide, rfl, rfl, hr0, HB0.out⟩
          case round =>
            obtain ⟨k, hk, rfl, rfl, hr, hB⟩ := hrel
            have HR := Lib.hid hr
            have HB := Lib.hid hB
            have hk2 : k = 0 ∨ k = 1 ∨ k = 2 := by omega
            clear hB hr0 HB0
            rcases hk2 with rfl | rfl | rfl
            · have c1 : wr.cell? ⟨w.heap.size, 2, none⟩ = some (.int .u8 0) := row_cells' hr rfl
              have f1 := row_warm' hr 2
              have a1 := and63 (n) (by omega) (by omega)
              have a2 := or128 (n)
              have a3 : (128 + n % 64) % 256 = 128 + n % 64 := by omega
              clear hr hk
              simp only [shN]
              go_wp2_with fail
              go_roundw
              case rel => exact ⟨1, by decide, rfl, rfl, heap_setCell_same _ _ _ _ _ _ HR.out, HB.out.setCell (p := ⟨w.heap.size, 2, none⟩) (Nat.le_refl _) _⟩
              case measure => simp [intOf]
            · have c1 : wr.cell? ⟨w.heap.size, 1, none⟩ = some (.int .u8 0) := row_cells' hr rfl
              have f1 := row_warm' hr 1
              have a1 := and63 (n / 64) (by omega) (by omega)
              have a2 := or128 (n / 64)
              have a3 : (128 + n / 64 % 64) % 256 = 128 + n / 64 % 64 := by omega
              have a4 : n / 64 / 64 = n / 4096 := by omega
              clear hr hk
              simp only [shN]
              go_wp2_with fail
              go_roundw
              case rel => exact ⟨2, by decide, rfl, rfl, heap_setCell_same _ _ _ _ _ _ HR.out, HB.out.setCell (p := ⟨w.heap.size, 1, none⟩) (Nat.le_refl _) _⟩
              case measure => simp [intOf]
            · have c1 : wr.cell? ⟨w.heap.size, 0, none⟩ = some (.int .u8 0) := row_cells' hr rfl
              have f1 := row_warm' hr 0
              have a3 : n / 4096 % 256 = n / 4096 := by omega
              have a2 := or224 (n / 4096) (by omega) (by omega)
              have cv := conv_row (wr.setCell ⟨w.heap.size, 0, none⟩ (.int .u8 (224 + n / 4096))) w.heap.size [224 + n / 4096, 128 + n / 64 % 64, 128 + n % 64] _ (heap_setCell_same _ _ _ _ _ _ hr) rfl 3 rfl
              clear hr hk
              simp only [shN]
              go_wp2_with fail
              go_ret
              exact put_of HE.out (HB.out.setCell (p := ⟨w.heap.size, 0, none⟩) (Nat.le_refl _) _)
        · rw [if_neg c1, if_neg c2, if_neg c3] at hz
          rw [hz]
          have HE := Lib.hid (show putN _ = [240 + n / 262144, 128 + n / 4096 % 64, 128 + n / 64 % 64, 128 + n % 64] by rw [HP.out, if_neg c1, if_neg c2, if_neg c3])
          clear hz c1 c2 c3 HS
          have mk : (Instr.makeSlice 153 (.int .i64 4) (.int .i64 4)).run Try.prog w = .ok (.slice (some ⟨w.heap.size, 0, none⟩) 4 4) (w.alloc (.cells #[.int .u8 0, .int .u8 0, .int .u8 0, .int .u8 0] 5)) := make_u8 w 4 (by decide) _ (by kernel_rfl)
          have hr0 := heap_alloc_new w (.cells #[.int .u8 0, .int .u8 0, .int .u8 0, .int .u8 0] 5)
          have HB0 := Lib.hid (below1' w (.cells #[.int .u8 0, .int .u8 0, .int .u8 0, .int .u8 0] 5))
          go_wp2_with fail
          generalize w.alloc (.cells #[.int .u8 0, .int .u8 0, .int .u8 0, .int .u8 0] 5) = w0 at hr0 HB0 ⊢
          clear mk
          go_loopw [0, 5] (fun rv iv wr => ∃ k : Nat, k ≤ 3 ∧ rv = .int .i32 (shN n k) ∧ iv = .int .i64 ((3 - k : Nat) : Int) ∧ wr.heap[w.heap.size]? = some (.cells (putRow n 4 k) 5 (0, 0)) ∧ Below w.heap.size w wr) (fun _ iv _ => (intOf iv).toNat)
          case atStart => exact ⟨0, by decide, rfl, rfl, hr0, HB0.out⟩
          case round =>
            obtain ⟨k, hk, rfl, rfl, hr, hB⟩ := hrel
            have HR := Lib.hid hr
            have HB := Lib.hid hB
            have hk2 : k = 0 ∨ k = 1 ∨ k = 2 ∨ k = 3 := by omega
            clear hB hr0 HB0
            rcases hk2 with rfl | rfl | rfl | rfl
            · have c1 : wr.cell? ⟨w.heap.size, 3, none⟩ = some (.int .u8 0) := row_cells' hr rfl
              have f1 := row_warm' hr 3
              have a1 := and63 (n) (by omega) (by omega)
              have a2 := or128 (n)
              have a3 : (128 + n % 64) % 256 = 128 + n % 64 := by omega
              clear hr hk
              simp only [shN]
              go_wp2_with fail
              go_roundw
              case rel => exact ⟨1, by decide, rfl, rfl, heap_setCell_same _ _ _ _ _ _ HR.out, HB.out.setCell (p := ⟨w.heap.size, 3, none⟩) (Nat.le_refl _) _⟩
              case measure => simp [intOf]
            · have c1 : wr.cell? ⟨w.heap.size, 2, none⟩ = some (.int .u8 0) := row_cells' hr rfl
              have f1 := row_warm' hr 2
              have a1 := and63 (n / 64) (by omega) (by omega)
              have a2 := or128 (n / 64)
              have a3 : (128 + n / 64 % 64) % 256 = 128 + n / 64 % 64 := by omega
              have a4 : n / 64 / 64 = n / 4096 := by omega
              clear hr hk
              simp only [shN]
              go_wp2_with fail
              go_roundw
              case rel => exact ⟨2, by decide, rfl, rfl, heap_setCell_same _ _ _ _ _ _ HR.out, HB.out.setCell (p := ⟨w.heap.size, 2, none⟩) (Nat.le_refl _) _⟩
              case measure => simp [intOf]
            · have c1 : wr.cell? ⟨w.heap.size, 1, none⟩ = some (.int .u8 0) := row_cells' hr rfl
              have f1 := row_warm' hr 1
              have a1 := and63 (n / 4096) (by omega) (by omega)
              have a2 := or128 (n / 4096)
              have a3 : (128 + n / 4096 % 64) % 256 = 128 + n / 4096 % 64 := by omega
              have a4 : n / 4096 / 64 = n / 262144 := by omega
              clear hr hk
              simp only [shN]
              go_wp2_with fail
              go_roundw
              case rel => exact ⟨3, by decide, rfl, rfl, heap_setCell_same _ _ _ _ _ _ HR.out, HB.out.setCell (p := ⟨w.heap.size, 1, none⟩) (Nat.le_refl _) _⟩
              case measure => simp [intOf]
            · have c1 : wr.cell? ⟨w.heap.size, 0, none⟩ = some (.int .u8 0) := row_cells' hr rfl
              have f1 := row_warm' hr 0
              have a3 : n / 262144 % 256 = n / 262144 := by omega
              have a2 := or240 (n / 262144) (by omega) (by omega)
              have cv := conv_row (wr.setCell ⟨w.heap.size, 0, none⟩ (.int .u8 (240 + n / 262144))) w.heap.size [240 + n / 262144, 128 + n / 4096 % 64, 128 + n / 64 % 64, 128 + n % 64] _ (heap_setCell_same _ _ _ _ _ _ hr) rfl 4 rfl
              clear hr hk
              simp only [shN]
              go_wp2_with fail
              go_ret
              exact put_of HE.out (HB.out.setCell (p := ⟨w.heap.size, 0, none⟩) (Nat.le_refl _) _)
end Go.Proofs.Ytblajooebmjfoaa

/- utf.Encode, the document's Encode. -/
namespace Go.Proofs.Ytblajooebmjfoaa
open Go.RowKit Go.Lib

theorem strCells_nums (xs : List Int) (h : ∀ x ∈ xs, 0 ≤ x ∧ x ≤ 255) : strCells (strOfNums xs) = xs.map (Value.int .u8) := by
  unfold strCells
  rw [strOfNums_data, List.map_map]
  refine List.map_congr_left fun x hx => ?_
  obtain ⟨h0, h1⟩ := h x hx
  show Value.int .u8 (((UInt8.ofNat x.toNat).toNat : Nat) : Int) = _
  congr 1
  rw [UInt8.toNat_ofNat']
  omega
theorem conv_owns {W : World} {base n : Nat} {v : Value} {xs : List Int} (h : W.ownsRow base 5 1 v n (xs.map (Value.int .u8))) :
    (convert 153 9 v).run Try.prog W = .ok (.string (strOfNums xs)) W := by
  have hl : xs.length = n := by have := h.1; simpa using this
  rcases h.2 with ⟨rfl, rfl⟩ | ⟨g, cap, cur, rfl, hb, hg, _⟩
  · have : xs = [] := List.eq_nil_of_length_eq_zero hl
    subst this
    exact run_convert_bytes_nil W 153 5 Try.underlying153 Try.underlying5 0 0 9 Try.underlying9
  · have hc := h.cells (g := g) rfl
    refine run_convert_bytes_arg (P := Try.prog) W 153 5 Try.underlying153 Try.underlying5 g 0 n cap xs hl (fun i hi => ?_) 9 Try.underlying9
    have := hc i (.int .u8 (xs.getD i 0)) (by rw [List.getElem?_map, List.getElem?_eq_getElem (by omega)]; simp [List.getD, List.getElem?_eq_getElem (show i < xs.length by omega)])
    rw [addr_add] at this
    rw [Nat.zero_add]
    exact this
theorem encN_succ {s : List Int} {k : Nat} {x : Int} (h : s[k]? = some x) : encN (s.take (k + 1)) = encN (s.take k) ++ putN x := by
  rw [List.take_add_one, h]
  unfold encN
  rw [List.flatMap_append]
  simp
theorem encN_take_len (s : List Int) (k : Nat) (hs : s.length ≤ 1000000) : (encN (s.take k)).length ≤ 4000000 := by
  have := encN_len (s.take k)
  rw [List.length_take] at this
  omega
section
variable {s : List Int} {w : World} {sv : Value}
set_option maxRecDepth 100000 in
set_option maxHeartbeats 4000000 in
theorem encode_any (hs : RunesIn w sv s) (hl : s.length ≤ 1000000) :
    Calls Try.prog 55 #[sv] w fun e w' => e = .returned (.string (enc s)) ∧ Below w.heap.size w w' := by
  have HS := Lib.hid hs
  obtain ⟨sl, cap, rfl, hcap, hmax, _⟩ := runes_cells hs
  unfold maxLen at hmax
  obtain ⟨iu, hiu, hzu, hsu, hbu⟩ := info_parts (show (Try.prog.info? 5).map (fun i => (i.zero, i.size, i.bytes)) = some (some (.int .u8 0), 1, 1) by kernel_rfl)
  have HU := Lib.hid hiu
  have HUz := Lib.hid hzu
  have HUs := Lib.hid hsu
  have HUb := Lib.hid hbu
  clear hs hiu hzu hsu hbu
  go_enter Try.func55, Try.ntmps55
  go_wp2_with fail
  go_loopw [3, 8] (fun bv iv wr => ∃ k : Nat, k ≤ s.length ∧ iv = .int .i64 ((k : Nat) : Int) ∧ Below w.heap.size w wr ∧ wr.ownsRow w.heap.size 5 1 bv (encN (s.take k)).length ((encN (s.take k)).map (Value.int .u8))) (fun _ iv _ => s.length - (intOf iv).toNat)
  case atStart => exact ⟨0, Nat.zero_le _, rfl, .refl _ _, World.ownsRow_nil _ _ _ _⟩
  case round =>
    obtain ⟨k, hk, rfl, hB, hO⟩ := hrel
    have HB := Lib.hid hB
    obtain ⟨pa, pc, rfl⟩ := slice_of_owns hO
    have HO := Lib.hid hO
    clear hB hO
    by_cases hlt : k < s.length
    · obtain ⟨x, hx⟩ : ∃ x, s[k]? = some x := ⟨s[k], List.getElem?_eq_getElem hlt⟩
      have HN := Lib.hid (encN_succ hx)
      obtain ⟨b0, off, cap', hv, _, _, _, _, d0⟩ := rune_cell (HS.out.below HB.out) hx
      cases hv
      clear hx
      go_wp2_with fail
      refine (put_any x wr).mono ?_
      rintro e w1 ⟨rfl, hB1⟩
      have HB1 := Lib.hid (HB.out.trans (hB1.mono HB.out.size))
      have HO1 := Lib.hid (owns_stays HO.out hB1)
      have hbs := HB1.out.size
      have hsz : (encN (s.take k)).length + (put x).size ≤ 5000000 := by have := encN_take_len s k hl; have := (sizeN_rng x).2; rw [put_size]; omega
      have HSz := Lib.hid hsz
      clear hB1 HO HB d0 hsz
      go_wp2_with (at_builtin; refine wpList_append_own_string _ rfl (.tmp 12) (.tmp 14) _ _ rfl w.heap.size 5 iu Try.underlying153 Try.underlying9 HU.out HUz.out HUs.out HUb.out _ _ _ rfl HO1.out (put x) rfl (by have := HSz.out; unfold maxLen; omega) (by have := HSz.out; omega) hbs ?_; intro v2 w2 ho2 hg2 _; have HB2 := Lib.hid (below_app HB1.out hbs HO1.out (Nat.le_refl _) hg2); have HO2 := Lib.hid ho2; clear ho2 hg2)
      have HO3 := Lib.hid (show w2.ownsRow w.heap.size 5 1 v2 (encN (s.take (k + 1))).length ((encN (s.take (k + 1))).map (Value.int .u8)) by
        have h := HO2.out
        rw [show put x = strOfNums (putN x) from rfl, strCells_nums _ (putN_rng x), strOfNums_size, ← List.map_append, ← List.length_append, ← HN.out] at h
        exact h)
      go_roundw
      case rel => exact ⟨k + 1, by omega, by go_num, HB2.out, HO3.out⟩
      case measure => simp [intOf] <;> omega
    · have hke : k = s.length := by omega
      subst hke
      rw [List.take_length] at HO
      have cv := conv_owns HO.out
      clear hlt hk
      go_wp2_with fail
      go_ret
      exact ⟨rfl, HB.out⟩
set_option maxRecDepth 100000 in
set_option maxHeartbeats 4000000 in
theorem rencode_any (hs : RunesIn w sv s) (hl : s.length ≤ 1000000) :
    Calls Try.prog 58 #[sv] w fun e w' => e = .returned (.string (enc s)) ∧ Below w.heap.size w w' := by
  have HS := Lib.hid hs
  obtain ⟨sl, cap, rfl, hcap, hmax, _⟩ := runes_cells hs
  unfold maxLen at hmax
  clear hs
  go_enter Try.func58, Try.ntmps58
  go_wp2_with fail
  go_loopw [3, 4] (fun bv iv wr => ∃ k : Nat, k ≤ s.length ∧ iv = .int .i64 ((k : Nat) : Int) ∧ Below w.heap.size w wr ∧ bv = .string (enc (s.take k))) (fun _ iv _ => s.length - (intOf iv).toNat)
  case atStart => exact ⟨0, Nat.zero_le _, rfl, .refl _ _, rfl⟩
  case round =>
    obtain ⟨k, hk, rfl, hB, rfl⟩ := hrel
    have HB := Lib.hid hB
    clear hB
    by_cases hlt : k < s.length
    · obtain ⟨x, hx⟩ : ∃ x, s[k]? = some x := ⟨s[k], List.getElem?_eq_getElem hlt⟩
      have HN := Lib.hid (show enc (s.take (k + 1)) = enc (s.take k) ++ put x by unfold enc put; rw [encN_succ hx, nums_append])
      obtain ⟨b0, off, cap', hv, _, _, _, _, d0⟩ := rune_cell (HS.out.below HB.out) hx
      cases hv
      have r0 : (k : Int) < (s.length : Int) := by omega
      have r1 : (0 : Int) ≤ (k : Int) := by omega
      clear hx
      go_wp2_with fail
      refine (rput_any x wr).mono ?_
      rintro e w1 ⟨rfl, hB1⟩
      have HB1 := Lib.hid (HB.out.trans (hB1.mono HB.out.size))
      have cc := run_string_add_sum (P := Try.prog) w1 (enc (s.take k)) (put x) (by have := encN_take_len s k hl; have := (sizeN_rng x).2; rw [put_size, enc_size]; omega)
      have e1 := IntWalk.i64_in ((k : Int) + 1) (by omega)
      clear hB1 HB d0
      go_wp2_with fail
      go_roundw
      case rel => exact ⟨k + 1, by omega, by go_num, HB1.out, by rw [HN.out]⟩
      case measure => simp [intOf] <;> omega
    · have hke : k = s.length := by omega
      subst hke
      rw [List.take_length]
      have r0 : decide ((s.length : Int) < (s.length : Int)) = false := by simp
      clear hlt hk
      go_wp2_with fail
      go_ret
      exact ⟨rfl, HB.out⟩
end
end Go.Proofs.Ytblajooebmjfoaa

/- glyph.Width. -/
namespace Go.Proofs.Ytblajooebmjfoaa
open Go.RowKit

section
variable {R : List Rw} {s : List Int} {w : World} {v sv : Value} {tp : Nat}
theorem wid_of {n : Nat} (h : widN R s = n) {w w' : World} (hB : Below w.heap.size w w') : Ending.returned (.int .i64 (n : Int)) = .returned (.int .i64 ((widN R s : Nat) : Int)) ∧ Below w.heap.size w w' := ⟨by rw [h], hB⟩
set_option maxRecDepth 100000 in
set_option maxHeartbeats 1000000 in
theorem width_any (hT : Tb R w tp) (hs : RunesIn w sv s) (ok : RunesOk s) (hl : s.length ≤ 1000000) :
    Calls Try.prog 17 #[.pointer (some ⟨tp, 0, none⟩), sv] w fun e w' => e = .returned (.int .i64 ((widN R s : Nat) : Int)) ∧ Below w.heap.size w w' := by
  have HT := Lib.hid hT
  have HS := Lib.hid hs
  have HOk := Lib.hid ok
  obtain ⟨sl, cap, rfl, hcap, hmax, _⟩ := runes_cells hs
  unfold maxLen at hmax
  clear hT hs ok
  obtain ⟨c0, hc0⟩ : ∃ c0, c0 = s.headD 0 := ⟨_, rfl⟩
  have HW2 := Lib.hid (fun (h : hitsF R c0 0 s = true) => show widN R s = 2 by unfold widN; rw [← hc0, if_pos h])
  have HW1 := Lib.hid (fun (h : hitsF R c0 0 s = false) => show widN R s = 1 by unfold widN; rw [← hc0, h]; rfl)
  have HC0 := Lib.hid hc0
  clear hc0
  go_enter Try.func17, Try.ntmps17
  go_wp2_with fail
  go_loopw [9] (fun iv wr => ∃ k : Nat, k ≤ s.length ∧ iv = .int .i64 ((k : Nat) : Int) ∧ Below w.heap.size w wr ∧ hitsF R c0 0 s = hitsF R c0 k (s.drop k)) (fun iv _ => s.length - (intOf iv).toNat)
  case atStart => exact ⟨0, Nat.zero_le _, rfl, .refl _ _, rfl⟩
  case round =>
    obtain ⟨k, hk, rfl, hB, hH⟩ := hrel
    have HB := Lib.hid hB
    have HH := Lib.hid hH
    clear hB hH
    by_cases hlt : k < s.length
    · obtain ⟨x, hx⟩ : ∃ x, s[k]? = some x := ⟨s[k], List.getElem?_eq_getElem hlt⟩
      have hx0 : s[0]? = some c0 := by
        rw [HC0.out]
        cases s with
        | nil => simp at hlt
        | cons a l => rfl
      have HI := Lib.hid (HOk.out.get hx)
      have HI0 := Lib.hid (HOk.out.get hx0)
      have HD := Lib.hid (hitsF_step R (c0 := c0) hx)
      have HX0 := Lib.hid hx0
      obtain ⟨b0, off, cap', hv, _, _, _, _, d0⟩ := rune_cell (HS.out.below HB.out) hx
      cases hv
      clear hx hx0
      go_wp2_with fail
      refine (Tb.wide (HT.out.below HB.out) x HI.out).mono ?_
      rintro e w1 ⟨rfl, hB1⟩
      have HB1 := Lib.hid (HB.out.trans (hB1.mono HB.out.size))
      clear hB1 HB d0
      by_cases hwd : wideB R x = true
      · have hwd' : decide (ofA R 7 x = 1) = true := hwd
        have HF := Lib.hid (HW2.out (by rw [HH.out, HD.out]; unfold hitB; rw [hwd]; rfl))
        rw [hwd']
        clear hwd hwd'
        go_wp2_with fail
        go_ret
        exact wid_of HF.out HB1.out
      · have hwd2 : wideB R x = false := Bool.eq_false_iff.2 hwd
        have hwd' : decide (ofA R 7 x = 1) = false := hwd2
        rw [hwd']
        have HWd := Lib.hid hwd2
        clear hwd hwd' hwd2
        have d00 := (rune_cell (HS.out.below HB1.out) HX0.out)
        obtain ⟨b0', off', cap'', hv, _, _, _, _, d0⟩ := d00
        cases hv
        rw [Nat.add_zero] at d0
        obtain ⟨bx, hbx⟩ : ∃ bx, bx = (tabOf R).b x := ⟨_, rfl⟩
        have HBk := Lib.hid (fun (W : World) (h : Tb R W tp) => show Calls Try.prog 53 #[.pointer (some ⟨tp, 0, none⟩), .int .i32 x] W (fun e w' => e = .returned (.int .i64 bx) ∧ Below W.heap.size W w') by rw [hbx]; exact Tb.break h x HI.out)
        have HBx := Lib.hid hbx
        clear hbx
        by_cases hf : x = 65039
        case' neg =>
          have q1 : (x == 65039) = false := by simpa using hf
          have HM := Lib.hid (show ((decide (x = 65039) && decide (0 < k)) && (tabOf R).p c0) = false by rw [decide_eq_false hf]; rfl)
          clear hf
          go_upto_region 8 with fail
        case' pos =>
          have q1 : (x == 65039) = true := by simpa using hf
          by_cases hk0 : 0 < k
          case' neg =>
            have q2 : decide ((k : Int) > 0) = false := decide_eq_false (by omega)
            have q2' : decide (0 < k) = false := decide_eq_false hk0
            have HM := Lib.hid (show ((decide (x = 65039) && decide (0 < k)) && (tabOf R).p c0) = false by rw [decide_eq_false hk0, Bool.and_false]; rfl)
            clear hf hk0
            go_upto_region 8 with fail
          case' pos =>
            have q2 : (k : Int) > 0 := by omega
            rw [hf] at HBk
            have HP0 := Lib.hid (show (decide (x = 65039) && decide (0 < k)) = true by rw [decide_eq_true hf, decide_eq_true hk0]; rfl)
            have hw1 := HB1.out
            go_wp2_with fail
            refine (Tb.pict (HT.out.below HB1.out) c0 HI0.out).mono ?_
            rintro e w2 ⟨rfl, hB2⟩
            have HB2 := Lib.hid (HB1.out.trans (hB2.mono HB1.out.size))
            obtain ⟨_, _, _, hv, _, _, _, _, d0⟩ := rune_cell (HS.out.below HB2.out) HX0.out
            cases hv
            rw [Nat.add_zero] at d0
            clear hB2 hw1 hk0 hf
            by_cases hp : (tabOf R).p c0 = true
            case' pos =>
              rw [hp]
              have HF := Lib.hid (HW2.out (by rw [HH.out, HD.out]; unfold hitB; rw [HP0.out, hp]; simp))
              clear hp
              go_wp2_with fail
              go_ret
              exact wid_of HF.out HB2.out
            have hp2 : (tabOf R).p c0 = false := Bool.eq_false_iff.2 hp
            rw [hp2]
            have HM := Lib.hid (show ((decide (x = 65039) && decide (0 < k)) && (tabOf R).p c0) = false by rw [hp2, Bool.and_false])
            clear hp hp2 HB1
            have HB1 := HB2
            clear HB2
            go_upto_region 8 with fail
        all_goals
          by_cases hk1 : ((k : Nat) : Int) = 1
          case' neg =>
            have q3 : (((k : Nat) : Int) == 1) = false := by simpa using hk1
            have HN := Lib.hid (show hitB R c0 k x = false by unfold hitB; rw [HWd.out, HM.out, decide_eq_false (show ¬ k = 1 by omega)]; rfl)
            clear hk1
            go_upto_region 10 with fail
          case' pos =>
            have hk2 : k = 1 := by omega
            have q3 : (((k : Nat) : Int) == 1) = true := by simpa using hk1
            clear hk1
            go_wp2_with fail
            refine (HBk.out _ (HT.out.below HB1.out)).mono ?_
            rintro e w3 ⟨rfl, hB3⟩
            have HB3 := Lib.hid (HB1.out.trans (hB3.mono HB1.out.size))
            obtain ⟨_, _, _, hv, _, _, _, _, d0⟩ := rune_cell (HS.out.below HB3.out) HX0.out
            cases hv
            rw [Nat.add_zero] at d0
            clear hB3
            by_cases hb : bx = 6
            case' neg =>
              have q4 : (bx == 6) = false := by simpa using hb
              have HN := Lib.hid (show hitB R c0 k x = false by unfold hitB; rw [HWd.out, HM.out, ← HBx.out, decide_eq_false hb]; simp)
              clear hb HB1
              have HB1 := HB3
              clear HB3
              go_upto_region 10 with fail
            case' pos =>
              have q4 : (bx == 6) = true := by simpa using hb
              have HBx2 := Lib.hid hb
              clear hb
              go_wp2_with fail
              refine (Tb.break (HT.out.below HB3.out) c0 HI0.out).mono ?_
              rintro e w4 ⟨rfl, hB4⟩
              have HB4 := Lib.hid (HB3.out.trans (hB4.mono HB3.out.size))
              clear hB4
              by_cases hc : (tabOf R).b c0 = 6
              case' neg =>
                have q5 : ((tabOf R).b c0 == 6) = false := by simpa using hc
                have HN := Lib.hid (show hitB R c0 k x = false by unfold hitB; rw [HWd.out, HM.out, decide_eq_false hc]; simp)
                clear hc HB1
                have HB1 := HB4
                clear HB4 HB3
                go_upto_region 10 with fail
              case' pos =>
                have q5 : ((tabOf R).b c0 == 6) = true := by simpa using hc
                have HF := Lib.hid (HW2.out (by rw [HH.out, HD.out]; unfold hitB; rw [← HBx.out, decide_eq_true HBx2.out, decide_eq_true hc, decide_eq_true hk2]; simp))
                clear hc
                go_wp2_with fail
                go_ret
                exact wid_of HF.out HB4.out
          all_goals
            have e1 := IntWalk.i64_in ((k : Int) + 1) (by omega)
            go_wp2_with fail
            go_roundw
            case rel => exact ⟨k + 1, by omega, by go_num, HB1.out, by rw [HH.out, HD.out, HN.out]; rfl⟩
            case measure => simp [intOf] <;> omega
    · have hke : k = s.length := by omega
      subst hke
      have HF := Lib.hid (HW1.out (by rw [HH.out, List.drop_length]; rfl))
      clear hlt hk
      go_wp2_with fail
      go_ret
      exact wid_of HF.out HB.out
end
end Go.Proofs.Ytblajooebmjfoaa

/- glyph: caret; append behind a slice that has no room. -/
namespace Go.Proofs.Ytblajooebmjfoaa
open Go.RowKit

/-- a literal's row is the call's own -/
theorem owns_lit (w : World) (cs : Array Value) (e : TypeId) {base size n : Nat} (hn : cs.size = n * size) (hm : n ≤ maxLen) (hb : base ≤ w.heap.size) :
    (w.alloc (.cells cs e)).ownsRow base e size (.slice (some ⟨w.heap.size, 0, none⟩) n n) n cs.toList :=
  ⟨by simpa using hn, .inr ⟨w.heap.size, n, cs, rfl, hb, heap_alloc_new w _, Nat.le_refl _, hm, hn, by rw [List.take_of_length_le (by simp [hn])]⟩⟩
/-- append behind a slice that is full, whoever owns it: a row of the call's own -/
theorem run_app_full {P : Program} (w : World) {base t ty e size bytes B : Nat} (E : ElemT P t e size bytes) (b : Addr) (n : Nat) (xs : List Value) (hR : Rd B w size (.slice (some b) n n) n xs) (hn : 0 < n)
    (a : Addr) (m c : Nat) (news : List Value) (hm : 0 < m) (hl : news.length = m * size) (hnews : ∀ j u, news[j]? = some u → w.cell? (a.add j) = some u)
    (hbytes : (n + m) * bytes ≤ 140737488355328) (hbase : base ≤ w.heap.size) :
    ∃ v' w', (Builtin.append_ #[t, t] ty #[.slice (some b) n n, .slice (some a) m c]).run P w = .ok v' w' ∧ w'.ownsRow base e size v' (n + m) (xs ++ news) ∧ w.grownBy w' none := by
  obtain ⟨hu, ⟨i, z, hi, hz, hsize, hby, hzs⟩, hsz, hbp⟩ := E
  subst hsize
  subst hby
  have hnm : n + m ≤ 140737488355328 := Nat.le_trans (Nat.le_mul_of_pos_right _ hbp) hbytes
  have h63 : n + m ≤ maxLen := by unfold maxLen; omega
  obtain ⟨a0, cap, hv, _, _, hxl, hc⟩ := hR
  cases hv
  obtain ⟨g, off, hg, _, hcell⟩ := hc hn
  cases hg
  have hlen : (xs ++ news).length = (n + m) * i.size := by rw [List.length_append, hxl, hl, Nat.add_mul]
  have holds : ∀ j u, xs[j]? = some u → w.cell? ((⟨g, off, none⟩ : Addr).add j) = some u := fun j u h => by
    have : (⟨g, off, none⟩ : Addr).add j = ⟨g, off + j, none⟩ := by unfold Addr.add; split <;> simp_all
    rw [this]; exact hcell j u h
  have hr := run_append_grow (P := P) (ty := ty) w t e i z hu hi hz ⟨g, off, none⟩ n n xs hxl holds a m c news hl hnews (by omega) (by unfold maxLen at h63; omega) (growslice_fits (by omega) hbytes)
  have hge := grownCap_ge w (n + m) n e
  have hcm : grownCap w (n + m) n e ≤ maxLen := grownCap_le_maxLen w (n + m) n e h63
  refine ⟨_, _, hr, ⟨hlen, .inr ⟨w.heap.size, _, _, rfl, hbase, heap_alloc_new w.drew _, hge, hcm, ?_, ?_⟩⟩, ⟨rfl, rfl, rfl, by simp, fun k hk _ => Below.heap_alloc w.drew _ k hk⟩⟩
  · simp only [Array.size_append, List.size_toArray, size_zeroCells, hzs, hxl, hl, ← Nat.add_mul]
    congr 1
    omega
  · simp only [Array.toList_append, List.append_assoc]
    rw [← List.append_assoc, ← hlen]
    exact List.take_left
theorem wpList_app_full {P : Program} (w : World) {ops : Array Oper} {rest : List Oper} {o : Oper} {act : Act} {Q : Exit → Act → World → Prop} (hgd : o.guard = none) (s x : Operand) (t : TypeId)
    (ho : o.op = .call { callee := .builtin .append, args := #[s, x], argTypes := #[t, t] })
    {base e size bytes B : Nat} (E : ElemT P t e size bytes) (b : Addr) (n : Nat) (xs : List Value) (hs : act.eval s = .slice (some b) n n) (hR : Rd B w size (.slice (some b) n n) n xs) (hn : 0 < n)
    (a : Addr) (m c : Nat) (news : List Value) (hx : act.eval x = .slice (some a) m c) (hm : 0 < m) (hl : news.length = m * size) (hnews : ∀ j u, news[j]? = some u → w.cell? (a.add j) = some u)
    (hbytes : (n + m) * bytes ≤ 140737488355328) (hbase : base ≤ w.heap.size)
    (h : ∀ v' w', w'.ownsRow base e size v' (n + m) (xs ++ news) → w.grownBy w' none → wpList P ops Q rest (act.put o.dst v') w') : wpList P ops Q (o :: rest) act w := by
  obtain ⟨v', w', hr, h2, h3⟩ := run_app_full (P := P) (ty := o.type) w E b n xs hR hn a m c news hm hl hnews hbytes hbase
  refine wpList_plain hgd fun _ hK => ?_
  unfold Oper.wp execOp
  simp only [ho, resolve, invoke, builtin, Sem.run_bind, Sem.run_pure, Result.andThen_ok, List.map_toArray, List.map_cons, List.map_nil, hs, hx, hr]
  exact hK _ _ (h v' w' h2 h3)
def GlyIn (w : World) (v : Value) (L : List Gy) : Prop := Rs w.heap.size w gyE 2 v L
theorem GlyIn.below {w w' : World} {v : Value} {l : List Gy} (h : GlyIn w v l) (hb : Below w.heap.size w w') : GlyIn w' v l := (Rd.below h hb (Nat.le_refl _)).mono hb.size
theorem EG : ElemT Try.prog 29 57 2 24 := elemT_of (by kernel_rfl) (z := .agg #[.string ⟨#[]⟩, .int .i64 0]) (by kernel_rfl) rfl (by decide) (by decide)
set_option maxRecDepth 100000 in
set_option maxHeartbeats 1000000 in
theorem caret_any (r : Int) (w : World) : Calls Try.prog 54 #[.int .i32 r] w fun e w' => ∃ u, e = .returned u ∧ Below w.heap.size w w' ∧ GlyIn w' u (caretG r) := by
  by_cases h0 : r ≥ 0
  case' pos =>
    by_cases h1 : r < 32
    case' pos =>
      have HG := Lib.hid (show caretG r = [(⟨#[94]⟩, 1), (strOfNums [r + 64], 1)] by unfold caretG; rw [if_pos ⟨h0, h1⟩])
      have u1 := IntWalk.u8_in r (by omega)
      have u2 := IntWalk.u8_in (r + 64) (by omega)
      have cv := conv_new w [r + 64] #[.int .u8 (r + 64)] rfl 1 rfl
      have HB := Lib.hid ((below1' w (.cells #[.int .u8 (r + 64)] 5)).alloc (by simp) (.cells #[.string ⟨#[94]⟩, .int .i64 1, .string (strOfNums [r + 64]), .int .i64 1] 57))
      have HL := Lib.hid (rs_lit gyE_len (w.alloc (.cells #[.int .u8 (r + 64)] 5)) #[.string ⟨#[94]⟩, .int .i64 1, .string (strOfNums [r + 64]), .int .i64 1] 57 [((⟨#[94]⟩ : ByteArray), (1 : Int)), (strOfNums [r + 64], (1 : Int))] 2 rfl (by decide) rfl)
      go_enter Try.func54, Try.ntmps54
      go_wp2_with fail
      go_ret
      have hl := HL.out
      rw [show (w.alloc (.cells #[.int .u8 (r + 64)] 5)).heap.size = w.heap.size + 1 by simp] at hl
      exact ⟨_, rfl, HB.out, by rw [HG.out]; exact hl⟩
    have q1 : decide (r < 32) = false := decide_eq_false h1
    have HN := Lib.hid (show ¬ (0 ≤ r ∧ r < 32) by omega)
    clear h1
  case' neg =>
    have q0 : decide (r ≥ 0) = false := decide_eq_false h0
    have q4 : decide (0 ≤ r) = false := decide_eq_false h0
    have HN := Lib.hid (show ¬ (0 ≤ r ∧ r < 32) by omega)
    clear h0
  all_goals
    by_cases h2 : r = 127
    · have e2 : (r == 127) = true := by simpa using h2
      have HG := Lib.hid (show caretG r = [(⟨#[94]⟩, 1), (⟨#[63]⟩, 1)] by unfold caretG; rw [if_neg HN.out, if_pos h2])
      have HB := Lib.hid (below1' w (.cells #[.string ⟨#[94]⟩, .int .i64 1, .string ⟨#[63]⟩, .int .i64 1] 57))
      have HL := Lib.hid (rs_lit gyE_len w #[.string ⟨#[94]⟩, .int .i64 1, .string ⟨#[63]⟩, .int .i64 1] 57 [((⟨#[94]⟩ : ByteArray), (1 : Int)), ((⟨#[63]⟩ : ByteArray), (1 : Int))] 2 rfl (by decide) rfl)
      clear h2
      go_enter Try.func54, Try.ntmps54
      go_wp2_with fail
      go_ret
      exact ⟨_, rfl, HB.out, by rw [HG.out]; exact HL.out⟩
    · have e2 : (r == 127) = false := by simpa using h2
      have HG := Lib.hid (show caretG r = [(put 65533, 1)] by unfold caretG; rw [if_neg HN.out, if_neg h2])
      clear h2
      go_enter Try.func54, Try.ntmps54
      go_wp2_with fail
      refine (put_any 65533 w).mono ?_
      rintro e w1 ⟨rfl, hB1⟩
      have HB := Lib.hid (below_new hB1 (.cells #[.string (put 65533), .int .i64 1] 57))
      have HL := Lib.hid (rs_lit gyE_len w1 #[.string (put 65533), .int .i64 1] 57 [(put 65533, (1 : Int))] 1 rfl (by decide) rfl)
      clear hB1
      go_wp2_with fail
      go_ret
      exact ⟨_, rfl, HB.out, by rw [HG.out]; exact HL.out⟩
end Go.Proofs.Ytblajooebmjfoaa

/- glyph.Of. -/
namespace Go.Proofs.Ytblajooebmjfoaa
open Go.RowKit

section
variable {R : List Rw} {c : List Int} {w : World} {sv : Value} {tp : Nat}
theorem glOf_ctl {R : List Rw} {c : List Int} {a : Int} (h0 : c[0]? = some a) (hb : (tabOf R).b a = 1 ∨ (tabOf R).b a = 2 ∨ (tabOf R).b a = 3) : glOf R c = c.flatMap caretG := by
  cases c with
  | nil => simp at h0
  | cons x l =>
    simp at h0
    subst h0
    unfold glOf
    rw [if_neg (by simp), if_pos]
    show ctlB ((tabOf R).b x) = true
    unfold ctlB
    rcases hb with h | h | h <;> rw [h] <;> decide
theorem glOf_one {R : List Rw} {c : List Int} {a : Int} (h0 : c[0]? = some a) (n1 : ¬ (tabOf R).b a = 1) (n2 : ¬ (tabOf R).b a = 2) (n3 : ¬ (tabOf R).b a = 3) : glOf R c = [(enc (lean R c), (widN R (lean R c) : Int))] := by
  cases c with
  | nil => simp at h0
  | cons x l =>
    simp at h0
    subst h0
    unfold glOf
    rw [if_neg (by simp), if_neg]
    show ¬ ctlB ((tabOf R).b x) = true
    unfold ctlB
    simp [n1, n2, n3]
theorem lean_at {R : List Rw} {c : List Int} {a z : Int} (h0 : c[0]? = some a) (hz : c[c.length - 1]? = some z) : lean R c = (if dotB ((tabOf R).b a) then [9676] else []) ++ c ++ (if (tabOf R).b z = 7 then [9676] else []) := by
  have h1 : c.headD 0 = a := by
    cases c with
    | nil => simp at h0
    | cons x l => simpa using h0
  have h2 : c.getLastD 0 = z := by
    rw [List.getLastD_eq_getLast?, List.getLast?_eq_getElem?, hz]
    rfl
  unfold lean
  rw [h1, h2]
theorem carets_succ {c : List Int} {k : Nat} {x : Int} (h : c[k]? = some x) : (c.take (k + 1)).flatMap caretG = (c.take k).flatMap caretG ++ caretG x := by
  rw [List.take_add_one, h, List.flatMap_append]
  simp
theorem carets_le (c : List Int) (k : Nat) (h : c.length ≤ 1000000) : ((c.take k).flatMap caretG).length ≤ 2000000 := by
  have := (carets_len (c.take k)).2
  rw [List.length_take] at this
  omega
theorem gly_of_owns {w : World} {base : Nat} {v : Value} {l : List Gy} (h : w.ownsRow base 57 2 v l.length (l.flatMap gyE)) : GlyIn w v l := rd_of_owns h
theorem rd_full {w : World} {a : Option Addr} {n cap : Nat} {l : List Int} (h : RunesIn w (.slice a n cap) l) : Rd w.heap.size w 1 (.slice a l.length l.length) l.length (l.flatMap runeE) := by
  obtain ⟨a', cap', hv, h1, h2, h3, h4⟩ := h
  cases hv
  exact ⟨a, l.length, rfl, Nat.le_refl _, by omega, h3, h4⟩
theorem runes_of_owns {w : World} {base : Nat} {v : Value} {l : List Int} (h : w.ownsRow base 21 1 v l.length (l.flatMap runeE)) : RunesIn w v l := rd_of_owns h
set_option maxRecDepth 100000 in
set_option maxHeartbeats 1000000 in
theorem of_any_nil : Calls Try.prog 15 #[.pointer (some ⟨tp, 0, none⟩), .slice none 0 0] w fun e w' => ∃ u, e = .returned u ∧ Below w.heap.size w w' ∧ GlyIn w' u (glOf R []) := by
  go_enter Try.func15, Try.ntmps15
  go_wp2_with fail
  go_ret
  exact ⟨_, rfl, .refl _ _, Rd.nil _ _ _⟩
set_option maxRecDepth 100000 in
set_option maxHeartbeats 1000000 in
theorem gof_any (hT : Tb R w tp) (hs : RunesIn w sv c) (ok : RunesOk c) (hl : c.length ≤ 900000) :
    Calls Try.prog 15 #[.pointer (some ⟨tp, 0, none⟩), sv] w fun e w' => ∃ u, e = .returned u ∧ Below w.heap.size w w' ∧ GlyIn w' u (glOf R c) := by
  have HT := Lib.hid hT
  have HS := Lib.hid hs
  have HOk := Lib.hid ok
  obtain ⟨sl, cap, rfl, hcap, hmax, _⟩ := runes_cells hs
  unfold maxLen at hmax
  clear hT hs ok
  by_cases hne : c.length = 0
  · have he : c = [] := List.eq_nil_of_length_eq_zero hne
    subst he
    clear hne
    go_enter Try.func15, Try.ntmps15
    go_wp2_with fail
    go_ret
    exact ⟨_, rfl, .refl _ _, Rd.nil _ _ _⟩
  · obtain ⟨a, ha⟩ : ∃ a, c[0]? = some a := ⟨c[0], List.getElem?_eq_getElem (by omega)⟩
    obtain ⟨z, hz⟩ : ∃ z, c[c.length - 1]? = some z := ⟨c[c.length - 1], List.getElem?_eq_getElem (by omega)⟩
    have HA := Lib.hid (HOk.out.get ha)
    have HZ := Lib.hid (HOk.out.get hz)
    have HCtl := Lib.hid (fun h => glOf_ctl (R := R) ha h)
    have HOne := Lib.hid (fun h1 h2 h3 => glOf_one (R := R) ha h1 h2 h3)
    have HLean := Lib.hid (lean_at (R := R) ha hz)
    have HZx := Lib.hid hz
    have q0 : ((c.length : Int) == 0) = false := by simpa using (show ¬ (c.length : Int) = 0 by omega)
    have q1 : (0 : Int) < (c.length : Int) := by omega
    obtain ⟨b0, off, cap', hv, _, _, _, _, d0⟩ := rune_cell HS.out ha
    cases hv
    rw [Nat.add_zero] at d0
    clear ha hz
    go_enter Try.func15, Try.ntmps15
    go_wp2_with fail
    refine (Tb.break HT.out a HA.out).mono ?_
    rintro e w1 ⟨rfl, hB1⟩
    have HB1 := Lib.hid hB1
    clear hB1 d0
    obtain ⟨b, hb⟩ : ∃ b, b = (tabOf R).b a := ⟨_, rfl⟩
    rw [← hb]
    rw [← hb] at HCtl HOne HLean
    clear hb
    by_cases c1 : b = 1
    case' pos =>
      have p1 : (b == 1) = true := by simpa using c1
      have HG := Lib.hid (HCtl.out (.inl c1))
      clear c1
      go_upto_region 8 with fail
    case' neg =>
      have n1 : (b == 1) = false := by simpa using c1
      by_cases c2 : b = 2
      case' pos =>
        have p2 : (b == 2) = true := by simpa using c2
        have HG := Lib.hid (HCtl.out (.inr (.inl c2)))
        clear c1 c2
        go_upto_region 8 with fail
      case' neg =>
        have n2 : (b == 2) = false := by simpa using c2
        by_cases c3 : b = 3
        case' pos =>
          have p3 : (b == 3) = true := by simpa using c3
          have HG := Lib.hid (HCtl.out (.inr (.inr c3)))
          clear c1 c2 c3
          go_upto_region 8 with fail
        case' neg =>
          have n3 : (b == 3) = false := by simpa using c3
          have HG := Lib.hid (HOne.out c1 c2 c3)
          clear c1 c2 c3
          obtain ⟨zz, hzz⟩ : ∃ zz, zz = (tabOf R).b z := ⟨_, rfl⟩
          rw [← hzz] at HLean
          have HZb := Lib.hid (fun (W : World) (h : Tb R W tp) => show Calls Try.prog 53 #[.pointer (some ⟨tp, 0, none⟩), .int .i32 z] W (fun e w' => e = .returned (.int .i64 zz) ∧ Below W.heap.size W w') by rw [hzz]; exact Tb.break h z HZ.out)
          clear hzz
          have HB1b := HB1.out
          by_cases c4 : b = 4
          case' pos =>
            have p4 : (b == 4) = true := by simpa using c4
            have HD := Lib.hid (show dotB b = true by unfold dotB; rw [decide_eq_true c4]; rfl)
            clear c4
            go_upto_region 17 with fail
          case' neg =>
            have n4 : (b == 4) = false := by simpa using c4
            by_cases c5 : b = 5
            case' pos =>
              have p5 : (b == 5) = true := by simpa using c5
              have HD := Lib.hid (show dotB b = true by unfold dotB; rw [decide_eq_true c5]; simp)
              clear c4 c5
              go_upto_region 17 with fail
            case' neg =>
              have n5 : (b == 5) = false := by simpa using c5
              by_cases c6 : b = 8
              case' pos =>
                have p6 : (b == 8) = true := by simpa using c6
                have HD := Lib.hid (show dotB b = true by unfold dotB; rw [decide_eq_true c6]; simp)
                clear c4 c5 c6
                go_upto_region 17 with fail
              case' neg =>
                have n6 : (b == 8) = false := by simpa using c6
                have HD := Lib.hid (show dotB b = false by unfold dotB; rw [decide_eq_false c4, decide_eq_false c5, decide_eq_false c6]; rfl)
                clear c4 c5 c6
                go_upto_region 18 with fail
                obtain ⟨c2, hc2⟩ : ∃ c2, c2 = c := ⟨_, rfl⟩
                have HFin := Lib.hid (show ∀ tl, tl = (if zz = 7 then [9676] else []) → glOf R c = [(enc (c2 ++ tl), (widN R (c2 ++ tl) : Int))] from fun tl h => by rw [HG.out, HLean.out, HD.out, h, hc2]; rfl)
                have HC2 := Lib.hid (HS.out.below HB1.out)
                have HB2 := Lib.hid HB1.out
                have HOk2 := Lib.hid HOk.out
                have HZ2 := Lib.hid HZx.out
                have hln : c.length ≤ 999999 := by omega
                have hl1 : 1 ≤ c.length := by omega
                clear hne q0 q1 HG HLean HD HOne HCtl HS HOk HZx HB1 hl hcap
                subst hc2
                obtain ⟨b2, off2, cp2, hv, hcm2, hcl2, _, _, d2⟩ := rune_cell HC2.out HZ2.out
                cases hv
                have e1 := IntWalk.i64_in ((c2.length : Int) - 1) (by omega)
                have r1 : (0 : Int) ≤ (c2.length : Int) - 1 := by omega
                have r2 : (c2.length : Int) - 1 < (c2.length : Int) := by omega
                have r3 : ((c2.length : Int) - 1).toNat = c2.length - 1 := by omega
                unfold maxLen at hcm2
                go_wp2_with fail
                refine (HZb.out _ (HT.out.below HB2.out)).mono ?_
                rintro e w3 ⟨rfl, hB3⟩
                have HB3 := Lib.hid (HB2.out.trans (hB3.mono HB2.out.size))
                have HC3 := Lib.hid (HC2.out.below hB3)
                clear hB3 HC2 HB2 d2 e1 r1 r2 r3
                by_cases c7 : zz = 7
                case' neg =>
                  have p7 : (zz == 7) = false := by simpa using c7
                  have HF2 := Lib.hid (HFin.out [] (by rw [if_neg c7]))
                  rw [List.append_nil] at HF2
                  clear c7 HFin
                  go_upto_region 20 with fail
                  go_wp2_with fail
                  refine (encode_any HC3.out (by omega)).mono ?_
                  rintro e w4 ⟨rfl, hB4⟩
                  have HB4 := Lib.hid (HB3.out.trans (hB4.mono HB3.out.size))
                  have HC4 := Lib.hid (HC3.out.below hB4)
                  clear hB4
                  go_wp2_with fail
                  refine (width_any (HT.out.below HB4.out) HC4.out HOk2.out (by omega)).mono ?_
                  rintro e w5 ⟨rfl, hB5⟩
                  have HB5 := Lib.hid ((HB4.out.trans (hB5.mono HB4.out.size)).alloc ((HB4.out.trans (hB5.mono HB4.out.size)).size) (.cells #[.string (enc c2), .int .i64 ((widN R c2 : Nat) : Int)] 57))
                  have HL := Lib.hid (rs_lit gyE_len w5 #[.string (enc c2), .int .i64 ((widN R c2 : Nat) : Int)] 57 [(enc c2, ((widN R c2 : Nat) : Int))] 1 rfl (by decide) rfl)
                  clear hB5
                  go_wp2_with fail
                  go_ret
                  exact ⟨_, rfl, HB5.out, by rw [HF2.out]; exact HL.out⟩
                case' pos =>
                  have p7 : (zz == 7) = true := by simpa using c7
                  have HF2 := Lib.hid (HFin.out [9676] (by rw [if_pos c7]))
                  clear c7 HFin
                  have hbs3 := HB3.out.size
                  have HBl3 := Lib.hid (below_new HB3.out (.cells #[.int .i32 9676] 21))
                  have HFull := Lib.hid (Rd.below (rd_full HC3.out) (below1' w3 (.cells #[.int .i32 9676] 21)) (Nat.le_refl _))
                  have HNew := Lib.hid (show ∀ j u, [Value.int .i32 9676][j]? = some u → (w3.alloc (.cells #[.int .i32 9676] 21)).cell? ((⟨w3.heap.size, 0, none⟩ : Addr).add j) = some u from fun j u h => by
                    rw [addr_add, cell_of_row _ w3.heap.size j _ 21 (0, 0) (heap_alloc_new w3 _)]
                    simpa using h)
                  have hbig3 : (c2.length + 1) * 4 ≤ 140737488355328 := by omega
                  have k1 : (c2.length : Int) ≤ (c2.length : Int) := Int.le_refl _
                  have k2 := Int.ofNat_le.2 hcl2
                  have k3 : (0 : Int) ≤ (c2.length : Int) := by omega
                  have hbs4 := HBl3.out.size
                  go_upto_region 20 with (at_builtin; go_loud (refine wpList_app_full _ rfl (.tmp 53) (.tmp 54) _ rfl ER _ _ _ rfl HFull.out (by omega) _ 1 1 [.int .i32 9676] rfl (by decide) rfl HNew.out hbig3 hbs4 ?_); intro v4 w4 ho4 hg4; obtain ⟨a4, cap4, rfl⟩ := slice_of_owns ho4; have HB4 := Lib.hid (HBl3.out.grown hg4 hbs4 (fun _ h => by cases h)); have HO4 := Lib.hid ho4; clear ho4 hg4)
                  obtain ⟨c3, hc3⟩ : ∃ c3, c3 = c2 ++ [9676] := ⟨_, rfl⟩
                  have hlen3 : c2.length + 1 = c3.length := by rw [hc3, List.length_append]; rfl
                  have HC5 := Lib.hid (show RunesIn w4 (.slice a4 c3.length cap4) c3 by
                    have h := HO4.out
                    have e : c3.flatMap runeE = c2.flatMap runeE ++ [Value.int .i32 9676] := by rw [hc3, List.flatMap_append]; rfl
                    rw [hlen3, ← e] at h
                    exact runes_of_owns h)
                  have HOk3 := Lib.hid (show RunesOk c3 by
                    rw [hc3]
                    intro x hx
                    rcases List.mem_append.1 hx with hx | hx
                    · exact HOk2.out x hx
                    · simp at hx; subst hx; unfold I32; omega)
                  have hl3 : c3.length ≤ 1000000 := by omega
                  rw [← hc3] at HF2
                  rw [hlen3]
                  clear hc3 hlen3 hbig3 k1 k2 k3 hbs3 hbs4 HBl3 HFull HNew HO4
                  go_wp2_with fail
                  refine (encode_any HC5.out hl3).mono ?_
                  rintro e w6 ⟨rfl, hB6⟩
                  have HB6 := Lib.hid (HB4.out.trans (hB6.mono HB4.out.size))
                  have HC6 := Lib.hid (HC5.out.below hB6)
                  clear hB6
                  go_wp2_with fail
                  refine (width_any (HT.out.below HB6.out) HC6.out HOk3.out hl3).mono ?_
                  rintro e w7 ⟨rfl, hB7⟩
                  have HB7 := Lib.hid ((HB6.out.trans (hB7.mono HB6.out.size)).alloc ((HB6.out.trans (hB7.mono HB6.out.size)).size) (.cells #[.string (enc c3), .int .i64 ((widN R c3 : Nat) : Int)] 57))
                  have HL := Lib.hid (rs_lit gyE_len w7 #[.string (enc c3), .int .i64 ((widN R c3 : Nat) : Int)] 57 [(enc c3, ((widN R c3 : Nat) : Int))] 1 rfl (by decide) rfl)
                  clear hB7
                  go_wp2_with fail
                  go_ret
                  exact ⟨_, rfl, HB7.out, by rw [HF2.out]; exact HL.out⟩
          all_goals
            have hbs := HB1.out.size
            have HOl := Lib.hid (owns_lit w1 #[.int .i32 9676] 21 (base := w.heap.size) (size := 1) (n := 1) rfl (by decide) hbs)
            have HBl := Lib.hid (below_new HB1.out (.cells #[.int .i32 9676] 21))
            have HSl := Lib.hid (HS.out.below HBl.out)
            have hbs2 := HBl.out.size
            have hbig : (1 + c.length) * 4 ≤ 140737488355328 := by omega
            go_upto_region 18 with (at_builtin; go_loud (refine wpList_app_rd _ rfl (.tmp 36) (.tmp 37) _ rfl ER _ _ _ rfl HOl.out _ _ _ rfl HSl.out (runeE_one _) hbig hbs2 ?_); intro v2 w2 ho2 hg2; obtain ⟨a2, cap2, rfl⟩ := slice_of_owns ho2; have HB2 := Lib.hid (below_app HBl.out hbs2 HOl.out (Nat.le_refl _) hg2); have HO2 := Lib.hid ho2; clear ho2 hg2)
            obtain ⟨c2, hc2⟩ : ∃ c2, c2 = 9676 :: c := ⟨_, rfl⟩
            have hlen : 1 + c.length = c2.length := by rw [hc2, List.length_cons]; omega
            have hfl : c2.flatMap runeE = (#[Value.int .i32 9676]).toList ++ c.flatMap runeE := by rw [hc2]; rfl
            have HC2 := Lib.hid (show RunesIn w2 (.slice a2 c2.length cap2) c2 by
              have h := HO2.out
              rw [hlen, ← hfl] at h
              exact runes_of_owns h)
            have HFin := Lib.hid (show ∀ tl, tl = (if zz = 7 then [9676] else []) → glOf R c = [(enc (c2 ++ tl), (widN R (c2 ++ tl) : Int))] from fun tl h => by rw [HG.out, HLean.out, HD.out, h, hc2]; rfl)
            have HOk2 := Lib.hid (show RunesOk c2 by
              rw [hc2]
              intro x hx
              rcases List.mem_cons.1 hx with rfl | hx
              · unfold I32; omega
              · exact HOk.out x hx)
            have HZ2 := Lib.hid (show c2[c2.length - 1]? = some z by
              have h1 : c2.length - 1 = (c.length - 1) + 1 := by rw [← hlen]; omega
              rw [h1, hc2, List.getElem?_cons_succ]
              exact HZx.out)
            have hln : c2.length ≤ 999999 := by omega
            have hl1 : 1 ≤ c2.length := by omega
            rw [hlen]
            clear hne q0 q1 HG HLean HD HOne HCtl HS HOk HZx HB1 hl hcap hc2 hlen hfl HOl HBl HSl hbs hbs2 hbig HO2
            obtain ⟨b2, off2, cp2, hv, hcm2, hcl2, _, _, d2⟩ := rune_cell HC2.out HZ2.out
            cases hv
            have e1 := IntWalk.i64_in ((c2.length : Int) - 1) (by omega)
            have r1 : (0 : Int) ≤ (c2.length : Int) - 1 := by omega
            have r2 : (c2.length : Int) - 1 < (c2.length : Int) := by omega
            have r3 : ((c2.length : Int) - 1).toNat = c2.length - 1 := by omega
            unfold maxLen at hcm2
            go_wp2_with fail
            refine (HZb.out _ (HT.out.below HB2.out)).mono ?_
            rintro e w3 ⟨rfl, hB3⟩
            have HB3 := Lib.hid (HB2.out.trans (hB3.mono HB2.out.size))
            have HC3 := Lib.hid (HC2.out.below hB3)
            clear hB3 HC2 HB2 d2 e1 r1 r2 r3
            by_cases c7 : zz = 7
            case' neg =>
              have p7 : (zz == 7) = false := by simpa using c7
              have HF2 := Lib.hid (HFin.out [] (by rw [if_neg c7]))
              rw [List.append_nil] at HF2
              clear c7 HFin
              go_upto_region 20 with fail
              go_wp2_with fail
              refine (encode_any HC3.out (by omega)).mono ?_
              rintro e w4 ⟨rfl, hB4⟩
              have HB4 := Lib.hid (HB3.out.trans (hB4.mono HB3.out.size))
              have HC4 := Lib.hid (HC3.out.below hB4)
              clear hB4
              go_wp2_with fail
              refine (width_any (HT.out.below HB4.out) HC4.out HOk2.out (by omega)).mono ?_
              rintro e w5 ⟨rfl, hB5⟩
              have HB5 := Lib.hid ((HB4.out.trans (hB5.mono HB4.out.size)).alloc ((HB4.out.trans (hB5.mono HB4.out.size)).size) (.cells #[.string (enc c2), .int .i64 ((widN R c2 : Nat) : Int)] 57))
              have HL := Lib.hid (rs_lit gyE_len w5 #[.string (enc c2), .int .i64 ((widN R c2 : Nat) : Int)] 57 [(enc c2, ((widN R c2 : Nat) : Int))] 1 rfl (by decide) rfl)
              clear hB5
              go_wp2_with fail
              go_ret
              exact ⟨_, rfl, HB5.out, by rw [HF2.out]; exact HL.out⟩
            case' pos =>
              have p7 : (zz == 7) = true := by simpa using c7
              have HF2 := Lib.hid (HFin.out [9676] (by rw [if_pos c7]))
              clear c7 HFin
              have hbs3 := HB3.out.size
              have HBl3 := Lib.hid (below_new HB3.out (.cells #[.int .i32 9676] 21))
              have HFull := Lib.hid (Rd.below (rd_full HC3.out) (below1' w3 (.cells #[.int .i32 9676] 21)) (Nat.le_refl _))
              have HNew := Lib.hid (show ∀ j u, [Value.int .i32 9676][j]? = some u → (w3.alloc (.cells #[.int .i32 9676] 21)).cell? ((⟨w3.heap.size, 0, none⟩ : Addr).add j) = some u from fun j u h => by
                rw [addr_add, cell_of_row _ w3.heap.size j _ 21 (0, 0) (heap_alloc_new w3 _)]
                simpa using h)
              have hbig3 : (c2.length + 1) * 4 ≤ 140737488355328 := by omega
              have k1 : (c2.length : Int) ≤ (c2.length : Int) := Int.le_refl _
              have k2 := Int.ofNat_le.2 hcl2
              have k3 : (0 : Int) ≤ (c2.length : Int) := by omega
              have hbs4 := HBl3.out.size
              go_upto_region 20 with (at_builtin; go_loud (refine wpList_app_full _ rfl (.tmp 53) (.tmp 54) _ rfl ER _ _ _ rfl HFull.out (by omega) _ 1 1 [.int .i32 9676] rfl (by decide) rfl HNew.out hbig3 hbs4 ?_); intro v4 w4 ho4 hg4; obtain ⟨a4, cap4, rfl⟩ := slice_of_owns ho4; have HB4 := Lib.hid (HBl3.out.grown hg4 hbs4 (fun _ h => by cases h)); have HO4 := Lib.hid ho4; clear ho4 hg4)
              obtain ⟨c3, hc3⟩ : ∃ c3, c3 = c2 ++ [9676] := ⟨_, rfl⟩
              have hlen3 : c2.length + 1 = c3.length := by rw [hc3, List.length_append]; rfl
              have HC5 := Lib.hid (show RunesIn w4 (.slice a4 c3.length cap4) c3 by
                have h := HO4.out
                have e : c3.flatMap runeE = c2.flatMap runeE ++ [Value.int .i32 9676] := by rw [hc3, List.flatMap_append]; rfl
                rw [hlen3, ← e] at h
                exact runes_of_owns h)
              have HOk3 := Lib.hid (show RunesOk c3 by
                rw [hc3]
                intro x hx
                rcases List.mem_append.1 hx with hx | hx
                · exact HOk2.out x hx
                · simp at hx; subst hx; unfold I32; omega)
              have hl3 : c3.length ≤ 1000000 := by omega
              rw [← hc3] at HF2
              rw [hlen3]
              clear hc3 hlen3 hbig3 k1 k2 k3 hbs3 hbs4 HBl3 HFull HNew HO4
              go_wp2_with fail
              refine (encode_any HC5.out hl3).mono ?_
              rintro e w6 ⟨rfl, hB6⟩
              have HB6 := Lib.hid (HB4.out.trans (hB6.mono HB4.out.size))
              have HC6 := Lib.hid (HC5.out.below hB6)
              clear hB6
              go_wp2_with fail
              refine (width_any (HT.out.below HB6.out) HC6.out HOk3.out hl3).mono ?_
              rintro e w7 ⟨rfl, hB7⟩
              have HB7 := Lib.hid ((HB6.out.trans (hB7.mono HB6.out.size)).alloc ((HB6.out.trans (hB7.mono HB6.out.size)).size) (.cells #[.string (enc c3), .int .i64 ((widN R c3 : Nat) : Int)] 57))
              have HL := Lib.hid (rs_lit gyE_len w7 #[.string (enc c3), .int .i64 ((widN R c3 : Nat) : Int)] 57 [(enc c3, ((widN R c3 : Nat) : Int))] 1 rfl (by decide) rfl)
              clear hB7
              go_wp2_with fail
              go_ret
              exact ⟨_, rfl, HB7.out, by rw [HF2.out]; exact HL.out⟩
    all_goals
      go_wp2_with fail
      go_loopw [5, 22] (fun ov iv wr => ∃ (k : Nat) (L : List Gy), k ≤ c.length ∧ iv = .int .i64 ((k : Nat) : Int) ∧ Below w.heap.size w wr ∧ wr.ownsRow w.heap.size 57 2 ov L.length (L.flatMap gyE) ∧ L = (c.take k).flatMap caretG) (fun _ iv _ => c.length - (intOf iv).toNat)
      case atStart => exact ⟨0, [], Nat.zero_le _, rfl, HB1.out, World.ownsRow_nil _ _ _ _, rfl⟩
      case round =>
        obtain ⟨k, L, hk, rfl, hB, hO, hL⟩ := hrel
        have HL := Lib.hid hL
        have HB := Lib.hid hB
        obtain ⟨pa, pc, rfl⟩ := slice_of_owns hO
        have HO := Lib.hid hO
        clear hB hO hL
        by_cases hlt : k < c.length
        · obtain ⟨x, hx⟩ : ∃ x, c[k]? = some x := ⟨c[k], List.getElem?_eq_getElem hlt⟩
          have HN := Lib.hid (carets_succ hx)
          have hbd : L.length ≤ 2000000 := by rw [HL.out]; exact carets_le c k (by omega)
          have hbd2 := (caretG_len x).2
          have HLN := Lib.hid (show L ++ caretG x = (c.take (k + 1)).flatMap caretG by rw [HN.out, ← HL.out])
          obtain ⟨_, _, _, hv, _, _, _, _, d0⟩ := rune_cell (HS.out.below HB.out) hx
          cases hv
          clear hx
          go_wp2_with fail
          refine (caret_any x wr).mono ?_
          rintro e w2 ⟨u, rfl, hB2, hI2⟩
          have HI2 := Lib.hid hI2
          have HB2 := Lib.hid (HB.out.trans (hB2.mono HB.out.size))
          have HO2 := Lib.hid (owns_stays HO.out hB2)
          have hbs := HB2.out.size
          have hbig : (L.length + (caretG x).length) * 24 ≤ 140737488355328 := by omega
          clear hB2 hI2 HO HB d0 hbd hbd2
          go_wp2_with (at_builtin; refine wpList_app_rd _ rfl (.tmp 26) (.tmp 28) _ rfl EG _ _ _ rfl HO2.out _ _ _ rfl HI2.out (gyE_ones _) hbig hbs ?_; intro v3 w3 ho3 hg3; have HB3 := Lib.hid (below_app HB2.out hbs HO2.out (Nat.le_refl _) hg3); have HO3 := Lib.hid ho3; clear ho3 hg3)
          go_roundw
          case rel => exact ⟨k + 1, L ++ caretG x, by omega, by go_num, HB3.out, by rw [List.length_append, List.flatMap_append]; exact HO3.out, HLN.out⟩
          case measure => simp [intOf] <;> omega
        · have hke : k = c.length := by omega
          subst hke
          rw [List.take_length] at HL
          clear hlt hk
          go_wp2_with fail
          go_ret
          exact ⟨_, rfl, HB.out, by rw [HG.out, ← HL.out]; exact gly_of_owns HO.out⟩
end
end Go.Proofs.Ytblajooebmjfoaa

/- The document's Width. -/
namespace Go.Proofs.Ytblajooebmjfoaa
open Go.RowKit

section
variable {R : List Rw} {s : List Int} {w : World} {v sv : Value}
theorem flags2_short {l : List Int} (h : l.length ≤ 1) : flags2 R l = false := by
  match l, h with
  | [], _ => rfl
  | [a], _ => rfl
theorem flags2_at {l : List Int} {a b : Int} (h0 : l[0]? = some a) (h1 : l[1]? = some b) : flags2 R l = (decide ((tabOf R).b a = 6) && decide ((tabOf R).b b = 6)) := by
  match l, h0, h1 with
  | a' :: b' :: _, h0, h1 => simp at h0 h1; subst h0; subst h1; rfl
theorem wid_ref {b fl : Bool} {m : Int} (hb : hits1 R (s.headD 0) 0 s = b) (hf : flags2 R s = fl) (hm : m = if (b || fl) = true then 2 else 1) {w w' : World} (hw : Below w.heap.size w w') :
    Ending.returned (.int .i64 m) = .returned (.int .i64 ((widN R s : Nat) : Int)) ∧ Below w.heap.size w w' := by
  refine ⟨?_, hw⟩
  rw [widN_ref, hb, hf, hm]
  cases b <;> cases fl <;> rfl
set_option maxRecDepth 100000 in
set_option maxHeartbeats 1000000 in
theorem rwidth_any (hR : RowsIn w v R) (hs : RunesIn w sv s) (ok : RunesOk s) (hl : s.length ≤ 1000000) :
    Calls Try.prog 18 #[v, sv] w fun e w' => e = .returned (.int .i64 ((widN R s : Nat) : Int)) ∧ Below w.heap.size w w' := by
  have HR := Lib.hid hR
  have HS := Lib.hid hs
  have HOk := Lib.hid ok
  obtain ⟨sl, cap, rfl, hcap, hmax, _⟩ := runes_cells hs
  unfold maxLen at hmax
  clear hR hs ok
  obtain ⟨c0, hc0⟩ : ∃ c0, c0 = s.headD 0 := ⟨_, rfl⟩
  have HC0 := Lib.hid hc0
  clear hc0
  go_enter Try.func18, Try.ntmps18
  go_wp2_with fail
  go_loopw [5, 6] (fun nv iv wr => ∃ (k : Nat) (b : Bool) (m : Int), k ≤ s.length ∧ nv = .int .i64 m ∧ iv = .int .i64 ((k : Nat) : Int) ∧ (m = if b = true then 2 else 1) ∧ w = wr ∧ hits1 R c0 0 s = (b || hits1 R c0 k (s.drop k))) (fun _ iv _ => s.length - (intOf iv).toNat)
  case atStart => exact ⟨0, false, 1, Nat.zero_le _, rfl, rfl, rfl, rfl, rfl⟩
  case round =>
    obtain ⟨k, b, m, hk, rfl, rfl, hm, rfl, hH⟩ := hrel
    have HM := Lib.hid hm
    have HH := Lib.hid hH
    clear hm hH
    by_cases hlt : k < s.length
    · obtain ⟨x, hx⟩ : ∃ x, s[k]? = some x := ⟨s[k], List.getElem?_eq_getElem hlt⟩
      have hx0 : s[0]? = some c0 := by
        rw [HC0.out]
        cases s with
        | nil => simp at hlt
        | cons a l => rfl
      have HI := Lib.hid (HOk.out.get hx)
      have HI0 := Lib.hid (HOk.out.get hx0)
      have HD := Lib.hid (hits1_step R (c0 := c0) hx)
      obtain ⟨b0, off, cap', hv, _, _, _, _, d0⟩ := rune_cell HS.out hx
      cases hv
      obtain ⟨_, _, _, hv, _, _, _, _, d1⟩ := rune_cell HS.out hx0
      cases hv
      rw [Nat.add_zero] at d1
      have r0 : (k : Int) < (s.length : Int) := by omega
      have r1 : (0 : Int) ≤ (k : Int) := by omega
      clear hx hx0
      go_wp2_with fail
      refine (rof_t 7 x HR.out HI.out).mono ?_
      rintro e w1 ⟨rfl, rfl⟩
      obtain ⟨wd, hwd⟩ : ∃ wd, wd = wideB R x := ⟨_, rfl⟩
      have HWd := Lib.hid hwd
      cases wd with
      | true =>
        have q1 : (ofA R 7 x == 1) = true := by simpa using of_decide_eq_true hwd.symm
        clear hwd
        go_upto_region 7 with fail
        by_cases hk0 : 0 < k
        · have q2 : (k : Int) > 0 := by omega
          by_cases hf : x = 65039
          · have q3 : (x == 65039) = true := by simpa using hf
            have HS7 := Lib.hid (show (decide (x = 65039) && decide (0 < k)) = true by rw [decide_eq_true hf, decide_eq_true hk0]; rfl)
            clear hf hk0
            go_wp2_with fail
            refine (rof_t 5 c0 HR.out HI0.out).mono ?_
            rintro e w1 ⟨rfl, rfl⟩
            by_cases hp : ofA R 5 c0 = 1
            · have q4 : (ofA R 5 c0 == 1) = true := by simpa using hp
              have HP := Lib.hid (show (tabOf R).p c0 = true from decide_eq_true hp)
              clear hp
              have HHit := Lib.hid (show hit1 R c0 k x = true by unfold hit1; rw [← HWd.out]; rfl)
              clear HS7
              have e1 := IntWalk.i64_in ((k : Int) + 1) (by omega)
              go_wp2_with fail
              go_roundw
              case rel => exact ⟨k + 1, b || hit1 R c0 k x, _, by omega, rfl, by go_num, by rw [HHit.out, Bool.or_true]; rfl, by first | rfl | trivial, by rw [HH.out, HD.out, Bool.or_assoc]⟩
              case measure => simp [intOf] <;> omega
            · have q4 : (ofA R 5 c0 == 1) = false := by simpa using hp
              have HP := Lib.hid (show (tabOf R).p c0 = false from decide_eq_false hp)
              clear hp
              have HHit := Lib.hid (show hit1 R c0 k x = true by unfold hit1; rw [← HWd.out]; rfl)
              clear HS7
              have e1 := IntWalk.i64_in ((k : Int) + 1) (by omega)
              go_wp2_with fail
              go_roundw
              case rel => exact ⟨k + 1, b || hit1 R c0 k x, _, by omega, rfl, by go_num, by rw [HHit.out, Bool.or_true]; rfl, by first | rfl | trivial, by rw [HH.out, HD.out, Bool.or_assoc]⟩
              case measure => simp [intOf] <;> omega
          · have q3 : (x == 65039) = false := by simpa using hf
            have HS7 := Lib.hid (show (false || ((decide (x = 65039) && decide (0 < k)) && (tabOf R).p c0)) = false by rw [decide_eq_false hf]; rfl)
            clear hf hk0
            have HHit := Lib.hid (show hit1 R c0 k x = true by unfold hit1; rw [← HWd.out]; rfl)
            clear HS7
            have e1 := IntWalk.i64_in ((k : Int) + 1) (by omega)
            go_wp2_with fail
            go_roundw
            case rel => exact ⟨k + 1, b || hit1 R c0 k x, _, by omega, rfl, by go_num, by rw [HHit.out, Bool.or_true]; rfl, by first | rfl | trivial, by rw [HH.out, HD.out, Bool.or_assoc]⟩
            case measure => simp [intOf] <;> omega
        · have q2 : decide ((k : Int) > 0) = false := decide_eq_false (by omega)
          have q2' : decide (0 < k) = false := decide_eq_false hk0
          have HS7 := Lib.hid (show (false || ((decide (x = 65039) && decide (0 < k)) && (tabOf R).p c0)) = false by rw [decide_eq_false hk0, Bool.and_false]; rfl)
          clear hk0
          have HHit := Lib.hid (show hit1 R c0 k x = true by unfold hit1; rw [← HWd.out]; rfl)
          clear HS7
          have e1 := IntWalk.i64_in ((k : Int) + 1) (by omega)
          go_wp2_with fail
          go_roundw
          case rel => exact ⟨k + 1, b || hit1 R c0 k x, _, by omega, rfl, by go_num, by rw [HHit.out, Bool.or_true]; rfl, by first | rfl | trivial, by rw [HH.out, HD.out, Bool.or_assoc]⟩
          case measure => simp [intOf] <;> omega
      | false =>
        have q1 : (ofA R 7 x == 1) = false := by simpa using of_decide_eq_false hwd.symm
        clear hwd
        go_upto_region 7 with fail
        by_cases hk0 : 0 < k
        · have q2 : (k : Int) > 0 := by omega
          by_cases hf : x = 65039
          · have q3 : (x == 65039) = true := by simpa using hf
            have HS7 := Lib.hid (show (decide (x = 65039) && decide (0 < k)) = true by rw [decide_eq_true hf, decide_eq_true hk0]; rfl)
            clear hf hk0
            go_wp2_with fail
            refine (rof_t 5 c0 HR.out HI0.out).mono ?_
            rintro e w1 ⟨rfl, rfl⟩
            by_cases hp : ofA R 5 c0 = 1
            · have q4 : (ofA R 5 c0 == 1) = true := by simpa using hp
              have HP := Lib.hid (show (tabOf R).p c0 = true from decide_eq_true hp)
              clear hp
              have HHit := Lib.hid (show hit1 R c0 k x = true by unfold hit1; rw [← HWd.out]; rw [HS7.out, HP.out]; rfl)
              clear HS7
              have e1 := IntWalk.i64_in ((k : Int) + 1) (by omega)
              go_wp2_with fail
              go_roundw
              case rel => exact ⟨k + 1, b || hit1 R c0 k x, _, by omega, rfl, by go_num, by rw [HHit.out, Bool.or_true]; rfl, by first | rfl | trivial, by rw [HH.out, HD.out, Bool.or_assoc]⟩
              case measure => simp [intOf] <;> omega
            · have q4 : (ofA R 5 c0 == 1) = false := by simpa using hp
              have HP := Lib.hid (show (tabOf R).p c0 = false from decide_eq_false hp)
              clear hp
              have HHit := Lib.hid (show hit1 R c0 k x = false by unfold hit1; rw [← HWd.out]; rw [HP.out, Bool.and_false]; rfl)
              clear HS7
              have e1 := IntWalk.i64_in ((k : Int) + 1) (by omega)
              go_wp2_with fail
              go_roundw
              case rel => exact ⟨k + 1, b || hit1 R c0 k x, _, by omega, rfl, by go_num, by rw [HHit.out, Bool.or_false]; exact HM.out, by first | rfl | trivial, by rw [HH.out, HD.out, Bool.or_assoc]⟩
              case measure => simp [intOf] <;> omega
          · have q3 : (x == 65039) = false := by simpa using hf
            have HS7 := Lib.hid (show (false || ((decide (x = 65039) && decide (0 < k)) && (tabOf R).p c0)) = false by rw [decide_eq_false hf]; rfl)
            clear hf hk0
            have HHit := Lib.hid (show hit1 R c0 k x = false by unfold hit1; rw [← HWd.out]; exact HS7.out)
            clear HS7
            have e1 := IntWalk.i64_in ((k : Int) + 1) (by omega)
            go_wp2_with fail
            go_roundw
            case rel => exact ⟨k + 1, b || hit1 R c0 k x, _, by omega, rfl, by go_num, by rw [HHit.out, Bool.or_false]; exact HM.out, by first | rfl | trivial, by rw [HH.out, HD.out, Bool.or_assoc]⟩
            case measure => simp [intOf] <;> omega
        · have q2 : decide ((k : Int) > 0) = false := decide_eq_false (by omega)
          have q2' : decide (0 < k) = false := decide_eq_false hk0
          have HS7 := Lib.hid (show (false || ((decide (x = 65039) && decide (0 < k)) && (tabOf R).p c0)) = false by rw [decide_eq_false hk0, Bool.and_false]; rfl)
          clear hk0
          have HHit := Lib.hid (show hit1 R c0 k x = false by unfold hit1; rw [← HWd.out]; exact HS7.out)
          clear HS7
          have e1 := IntWalk.i64_in ((k : Int) + 1) (by omega)
          go_wp2_with fail
          go_roundw
          case rel => exact ⟨k + 1, b || hit1 R c0 k x, _, by omega, rfl, by go_num, by rw [HHit.out, Bool.or_false]; exact HM.out, by first | rfl | trivial, by rw [HH.out, HD.out, Bool.or_assoc]⟩
          case measure => simp [intOf] <;> omega
    · have hke : k = s.length := by omega
      subst hke
      have HT := Lib.hid (show hits1 R (s.headD 0) 0 s = b by rw [← HC0.out, HH.out, List.drop_length]; simp [hits1])
      have r0 : decide ((s.length : Int) < (s.length : Int)) = false := by simp
      clear hlt hk
      by_cases h1 : s.length > 1
      · have q1 : (s.length : Int) > 1 := by omega
        obtain ⟨a, ha⟩ : ∃ x, s[0]? = some x := ⟨s[0], List.getElem?_eq_getElem (by omega)⟩
        obtain ⟨a2, ha2⟩ : ∃ x, s[1]? = some x := ⟨s[1], List.getElem?_eq_getElem (by omega)⟩
        have HI := Lib.hid (HOk.out.get ha)
        have HI2 := Lib.hid (HOk.out.get ha2)
        have HF2 := Lib.hid (flags2_at (R := R) ha ha2)
        obtain ⟨b0, off, cap', hv, _, _, _, _, d0⟩ := rune_cell HS.out ha
        cases hv
        obtain ⟨_, _, _, hv, _, _, _, _, d1⟩ := rune_cell HS.out ha2
        cases hv
        rw [Nat.add_zero] at d0
        have q2 : (0 : Int) < (s.length : Int) := by omega
        have q3 : (1 : Int) < (s.length : Int) := by omega
        clear ha ha2 h1
        go_wp2_with fail
        refine (rbrk_t a HR.out HI.out).mono ?_
        rintro e w1 ⟨rfl, rfl⟩
        by_cases c1 : (tabOf R).b a = 6
        · have e1 : ((tabOf R).b a == 6) = true := by simpa using c1
          have HB1 := Lib.hid c1
          clear c1
          go_wp2_with fail
          refine (rbrk_t a2 HR.out HI2.out).mono ?_
          rintro e w1 ⟨rfl, rfl⟩
          by_cases c2 : (tabOf R).b a2 = 6
          · have e2 : ((tabOf R).b a2 == 6) = true := by simpa using c2
            have HFl := Lib.hid (show flags2 R s = true by rw [HF2.out, decide_eq_true HB1.out, decide_eq_true c2]; rfl)
            clear c2
            go_wp2_with fail
            go_ret
            exact wid_ref HT.out HFl.out (by rw [Bool.or_true]; rfl) (.refl _ _)
          · have e2 : ((tabOf R).b a2 == 6) = false := by simpa using c2
            have HFl := Lib.hid (show flags2 R s = false by rw [HF2.out, decide_eq_false c2, Bool.and_false])
            clear c2
            go_wp2_with fail
            go_ret
            exact wid_ref HT.out HFl.out (by rw [Bool.or_false]; exact HM.out) (.refl _ _)
        · have e1 : ((tabOf R).b a == 6) = false := by simpa using c1
          have HFl := Lib.hid (show flags2 R s = false by rw [HF2.out, decide_eq_false c1]; rfl)
          clear c1
          go_wp2_with fail
          go_ret
          exact wid_ref HT.out HFl.out (by rw [Bool.or_false]; exact HM.out) (.refl _ _)
      · have q1 : decide ((s.length : Int) > 1) = false := decide_eq_false (by omega)
        have q2 : decide (1 < s.length) = false := decide_eq_false (by omega)
        have HFl := Lib.hid (flags2_short (R := R) (l := s) (by omega))
        clear h1
        go_wp2_with fail
        go_ret
        exact wid_ref HT.out HFl.out (by rw [Bool.or_false]; exact HM.out) (.refl _ _)
end
end Go.Proofs.Ytblajooebmjfoaa

/- The document's Of; are two lists of glyphs the same? -/
namespace Go.Proofs.Ytblajooebmjfoaa
open Go.RowKit

section
variable {R : List Rw} {c : List Int} {w : World} {v sv : Value}
theorem ERG : ElemT Try.prog 31 96 2 24 := elemT_of (by kernel_rfl) (z := .agg #[.string ⟨#[]⟩, .int .i64 0]) (by kernel_rfl) rfl (by decide) (by decide)
theorem rgly_of_owns {w : World} {base : Nat} {v : Value} {l : List Gy} (h : w.ownsRow base 96 2 v l.length (l.flatMap gyE)) : GlyIn w v l := rd_of_owns h
theorem caret_a {r : Int} (h : 0 ≤ r ∧ r < 32) : caretG r = [(⟨#[94]⟩, 1), (put (r + 64), 1)] := by
  have hv : validB (r + 64) = true := validB_iff.2 (by omega)
  have e : putN (r + 64) = [r + 64] := by unfold putN; rw [fixR_ok hv, if_pos (by omega)]
  unfold caretG put
  rw [if_pos h, e]
theorem caret_b {r : Int} (h : ¬ (0 ≤ r ∧ r < 32)) (h2 : r = 127) : caretG r = [(⟨#[94]⟩, 1), (⟨#[63]⟩, 1)] := by unfold caretG; rw [if_neg h, if_pos h2]
theorem caret_c {r : Int} (h : ¬ (0 ≤ r ∧ r < 32)) (h2 : ¬ r = 127) : caretG r = [(put 65533, 1)] := by unfold caretG; rw [if_neg h, if_neg h2]
set_option maxRecDepth 100000 in
set_option maxHeartbeats 1000000 in
theorem rgof_any (hR : RowsIn w v R) (hs : RunesIn w sv c) (ok : RunesOk c) (hl : c.length ≤ 900000) :
    Calls Try.prog 16 #[v, sv] w fun e w' => ∃ u, e = .returned u ∧ Below w.heap.size w w' ∧ GlyIn w' u (glOf R c) := by
  have HR := Lib.hid hR
  have HS := Lib.hid hs
  have HOk := Lib.hid ok
  obtain ⟨sl, cap, rfl, hcap, hmax, _⟩ := runes_cells hs
  unfold maxLen at hmax
  clear hR hs ok
  by_cases hne : c.length = 0
  · have he : c = [] := List.eq_nil_of_length_eq_zero hne
    subst he
    clear hne
    go_enter Try.func16, Try.ntmps16
    go_wp2_with fail
    go_ret
    exact ⟨_, rfl, .refl _ _, Rd.nil _ _ _⟩
  · obtain ⟨a, ha⟩ : ∃ a, c[0]? = some a := ⟨c[0], List.getElem?_eq_getElem (by omega)⟩
    obtain ⟨z, hz⟩ : ∃ z, c[c.length - 1]? = some z := ⟨c[c.length - 1], List.getElem?_eq_getElem (by omega)⟩
    have HA := Lib.hid (HOk.out.get ha)
    have HZ := Lib.hid (HOk.out.get hz)
    have HCtl := Lib.hid (fun h => glOf_ctl (R := R) ha h)
    have HOne := Lib.hid (fun h1 h2 h3 => glOf_one (R := R) ha h1 h2 h3)
    have HLean := Lib.hid (lean_at (R := R) ha hz)
    have HZx := Lib.hid hz
    have q0 : ((c.length : Int) == 0) = false := by simpa using (show ¬ (c.length : Int) = 0 by omega)
    have q1 : (0 : Int) < (c.length : Int) := by omega
    obtain ⟨b0, off, cap', hv, _, _, _, _, d0⟩ := rune_cell HS.out ha
    cases hv
    rw [Nat.add_zero] at d0
    clear ha hz
    go_enter Try.func16, Try.ntmps16
    go_wp2_with fail
    refine (rbrk_t a HR.out HA.out).mono ?_
    rintro e w1 ⟨rfl, rfl⟩
    obtain ⟨b, hb⟩ : ∃ b, b = (tabOf R).b a := ⟨_, rfl⟩
    rw [← hb]
    rw [← hb] at HCtl HOne HLean
    clear hb
    by_cases c1 : b = 1
    case' pos =>
      have p1 : (b == 1) = true := by simpa using c1
      have HG := Lib.hid (HCtl.out (.inl c1))
      clear c1 d0
      go_upto_region 5 with fail
    case' neg =>
      have n1 : (b == 1) = false := by simpa using c1
      by_cases c2 : b = 2
      case' pos =>
        have p2 : (b == 2) = true := by simpa using c2
        have HG := Lib.hid (HCtl.out (.inr (.inl c2)))
        clear c1 c2 d0
        go_upto_region 5 with fail
      case' neg =>
        have n2 : (b == 2) = false := by simpa using c2
        by_cases c3 : b = 3
        case' pos =>
          have p3 : (b == 3) = true := by simpa using c3
          have HG := Lib.hid (HCtl.out (.inr (.inr c3)))
          clear c1 c2 c3 d0
          go_upto_region 5 with fail
        case' neg =>
          have n3 : (b == 3) = false := by simpa using c3
          have HG := Lib.hid (HOne.out c1 c2 c3)
          obtain ⟨zz, hzz⟩ : ∃ zz, zz = (tabOf R).b z := ⟨_, rfl⟩
          rw [← hzz] at HLean
          have HZb := Lib.hid (fun (W : World) (h : RowsIn W v R) => show Calls Try.prog 56 #[v, .int .i32 z] W (fun e w' => e = .returned (.int .i64 zz) ∧ W = w') by rw [hzz]; exact rbrk_t z h HZ.out)
          clear hzz c1 c2 c3 d0
          by_cases c4 : b = 4
          case' pos =>
            have p4 : (b == 4) = true := by simpa using c4
            have HD := Lib.hid (show dotB b = true by unfold dotB; rw [decide_eq_true c4]; rfl)
            clear c4
            go_upto_region 17 with fail
          case' neg =>
            have n4 : (b == 4) = false := by simpa using c4
            by_cases c5 : b = 5
            case' pos =>
              have p5 : (b == 5) = true := by simpa using c5
              have HD := Lib.hid (show dotB b = true by unfold dotB; rw [decide_eq_true c5]; simp)
              clear c4 c5
              go_upto_region 17 with fail
            case' neg =>
              have n5 : (b == 5) = false := by simpa using c5
              by_cases c6 : b = 8
              case' pos =>
                have p6 : (b == 8) = true := by simpa using c6
                have HD := Lib.hid (show dotB b = true by unfold dotB; rw [decide_eq_true c6]; simp)
                clear c4 c5 c6
                go_upto_region 17 with fail
              case' neg =>
                have n6 : (b == 8) = false := by simpa using c6
                have HD := Lib.hid (show dotB b = false by unfold dotB; rw [decide_eq_false c4, decide_eq_false c5, decide_eq_false c6]; rfl)
                clear c4 c5 c6
                have hbig : (0 + c.length) * 4 ≤ 140737488355328 := by omega
                go_upto_region 19 with (at_builtin; go_loud (refine wpList_app_rd _ rfl (.tmp 85) (.tmp 86) _ rfl ER (.slice none 0 0) 0 [] rfl (World.ownsRow_nil w w.heap.size 21 1) _ _ _ rfl HS.out (runeE_one _) hbig (Nat.le_refl _) ?_); intro v2 w2 ho2 hg2; obtain ⟨a2, cap2, rfl⟩ := slice_of_owns ho2; have HB2 := Lib.hid (below_app (Below.refl w.heap.size w) (Nat.le_refl _) (World.ownsRow_nil w w.heap.size 21 1) (Nat.le_refl _) hg2); have HO2 := Lib.hid ho2; clear ho2 hg2)
                obtain ⟨_, _, _, hv, _, _, _, _, d2⟩ := rune_cell (HS.out.below HB2.out) HZx.out
                cases hv
                have e1 := IntWalk.i64_in ((c.length : Int) - 1) (by omega)
                have r1 : (0 : Int) ≤ (c.length : Int) - 1 := by omega
                have r2 : (c.length : Int) - 1 < (c.length : Int) := by omega
                have r3 : ((c.length : Int) - 1).toNat = c.length - 1 := by omega
                obtain ⟨c2, hc2⟩ : ∃ c2, c2 = c := ⟨_, rfl⟩
                have hlen : 0 + c.length = c2.length := by rw [hc2]; omega
                have hfl : c2.flatMap runeE = [] ++ c.flatMap runeE := by rw [hc2]; rfl
                have HOc := Lib.hid (show w2.ownsRow w.heap.size 21 1 (.slice a2 c2.length cap2) c2.length (c2.flatMap runeE) by
                  have h := HO2.out
                  rw [hlen, ← hfl] at h
                  exact h)
                have HFin := Lib.hid (show ∀ tl, tl = (if zz = 7 then [9676] else []) → glOf R c = [(enc (c2 ++ tl), (widN R (c2 ++ tl) : Int))] from fun tl h => by rw [HG.out, HLean.out, HD.out, h, hc2]; rfl)
                have HOk2 := Lib.hid (show RunesOk c2 by rw [hc2]; exact HOk.out)
                have hl2 : c2.length ≤ 900001 := by omega
                clear hne q0 q1 HG HLean HD HOne HCtl HS HOk HZx hl hcap hlen hfl hbig HO2
                subst hc2
          rotate_left
          all_goals
            try (
              have hbig0 : (0 + 1) * 4 ≤ 140737488355328 := by omega
              go_upto_region 18 with (at_builtin; go_loud (refine wpList_app1 _ rfl (.tmp 82) (.tmp 83) _ rfl ER (.slice none 0 0) 0 [] rfl (World.ownsRow_nil w w.heap.size 21 1) 1 1 [.int .i32 9676] rfl (by decide) rfl (by intro u hu; simp at hu; subst hu; rfl) hbig0 (Nat.le_refl _) ?_); intro g cp w1 ho1 hg1 hf1; have HB1 := Lib.hid (below_app (Below.refl w.heap.size w) (Nat.le_refl _) (World.ownsRow_nil w w.heap.size 21 1) (Nat.le_refl _) hg1); have HO1 := Lib.hid ho1; clear ho1 hg1 hf1)
              have HS1 := Lib.hid (HS.out.below HB1.out)
              have hbs1 := HB1.out.size
              have hbig : (0 + 1 + c.length) * 4 ≤ 140737488355328 := by omega
              go_upto_region 19 with (at_builtin; go_loud (refine wpList_app_rd _ rfl (.tmp 85) (.tmp 86) _ rfl ER _ _ _ rfl HO1.out _ _ _ rfl HS1.out (runeE_one _) hbig hbs1 ?_); intro v2 w2 ho2 hg2; obtain ⟨a2, cap2, rfl⟩ := slice_of_owns ho2; have HB2 := Lib.hid (below_app HB1.out hbs1 HO1.out (Nat.le_refl _) hg2); have HO2 := Lib.hid ho2; clear ho2 hg2)
              obtain ⟨_, _, _, hv, _, _, _, _, d2⟩ := rune_cell (HS.out.below HB2.out) HZx.out
              cases hv
              have e1 := IntWalk.i64_in ((c.length : Int) - 1) (by omega)
              have r1 : (0 : Int) ≤ (c.length : Int) - 1 := by omega
              have r2 : (c.length : Int) - 1 < (c.length : Int) := by omega
              have r3 : ((c.length : Int) - 1).toNat = c.length - 1 := by omega
              obtain ⟨c2, hc2⟩ : ∃ c2, c2 = 9676 :: c := ⟨_, rfl⟩
              have hlen0 : 0 + 1 + c.length = c2.length := by rw [hc2, List.length_cons]; omega
              have hlen : 1 + c.length = c2.length := by rw [hc2, List.length_cons]; omega
              have hfl : c2.flatMap runeE = [] ++ [Value.int .i32 9676] ++ c.flatMap runeE := by rw [hc2]; rfl
              have HOc := Lib.hid (show w2.ownsRow w.heap.size 21 1 (.slice a2 c2.length cap2) c2.length (c2.flatMap runeE) by
                have h := HO2.out
                rw [hlen0, ← hfl] at h
                exact h)
              have HFin := Lib.hid (show ∀ tl, tl = (if zz = 7 then [9676] else []) → glOf R c = [(enc (c2 ++ tl), (widN R (c2 ++ tl) : Int))] from fun tl h => by rw [HG.out, HLean.out, HD.out, h, hc2]; rfl)
              have HOk2 := Lib.hid (show RunesOk c2 by
                rw [hc2]
                intro x hx
                rcases List.mem_cons.1 hx with rfl | hx
                · unfold I32; omega
                · exact HOk.out x hx)
              have hl2 : c2.length ≤ 900001 := by omega
              rw [hlen]
              clear hne q0 q1 HG HLean HD HOne HCtl HS HOk HZx hl hcap hc2 hlen hlen0 hfl HO2 HO1 HS1 HB1 hbs1 hbig hbig0)
          all_goals
            have HC2 := Lib.hid (runes_of_owns HOc.out)
            go_wp2_with fail
            refine (HZb.out _ (HR.out.below HB2.out)).mono ?_
            rintro e w3 ⟨rfl, rfl⟩
            clear d2 e1 r1 r2 r3
            have hbs2 := HB2.out.size
            by_cases c7 : zz = 7
            case' neg =>
              have p7 : (zz == 7) = false := by simpa using c7
              have HF2 := Lib.hid (HFin.out [] (by rw [if_neg c7]))
              rw [List.append_nil] at HF2
              clear c7 HFin
              go_wp2_with fail
              refine (rencode_any HC2.out (by omega)).mono ?_
              rintro e w4 ⟨rfl, hB4⟩
              have HB4 := Lib.hid (HB2.out.trans (hB4.mono HB2.out.size))
              have HC4 := Lib.hid (HC2.out.below hB4)
              clear hB4
              go_wp2_with fail
              refine (rwidth_any (HR.out.below HB4.out) HC4.out HOk2.out (by omega)).mono ?_
              rintro e w5 ⟨rfl, hB5⟩
              have HB5 := Lib.hid ((HB4.out.trans (hB5.mono HB4.out.size)).alloc ((HB4.out.trans (hB5.mono HB4.out.size)).size) (.cells #[.string (enc c2), .int .i64 ((widN R c2 : Nat) : Int)] 96))
              have HL := Lib.hid (rs_lit gyE_len w5 #[.string (enc c2), .int .i64 ((widN R c2 : Nat) : Int)] 96 [(enc c2, ((widN R c2 : Nat) : Int))] 1 rfl (by decide) rfl)
              clear hB5
              go_wp2_with fail
              go_ret
              exact ⟨_, rfl, HB5.out, by rw [HF2.out]; exact HL.out⟩
            case' pos =>
              have p7 : (zz == 7) = true := by simpa using c7
              have HF2 := Lib.hid (HFin.out [9676] (by rw [if_pos c7]))
              clear c7 HFin
              have hbig3 : (c2.length + 1) * 4 ≤ 140737488355328 := by omega
              go_upto_region 21 with (at_builtin; go_loud (refine wpList_app1 _ rfl (.tmp 97) (.tmp 98) _ rfl ER _ _ _ rfl HOc.out 1 1 [.int .i32 9676] rfl (by decide) rfl (by intro u hu; simp at hu; subst hu; rfl) hbig3 hbs2 ?_); intro g4 cap4 w4 ho4 hg4 hf4; have HB4 := Lib.hid (below_app HB2.out hbs2 HOc.out (Nat.le_refl _) hg4); have HO4 := Lib.hid ho4; clear ho4 hg4 hf4)
              obtain ⟨c3, hc3⟩ : ∃ c3, c3 = c2 ++ [9676] := ⟨_, rfl⟩
              have hlen3 : c2.length + 1 = c3.length := by rw [hc3, List.length_append]; rfl
              have HC5 := Lib.hid (show RunesIn w4 (.slice (some ⟨g4, 0, none⟩) c3.length cap4) c3 by
                have h := HO4.out
                have e : c3.flatMap runeE = c2.flatMap runeE ++ [Value.int .i32 9676] := by rw [hc3, List.flatMap_append]; rfl
                rw [hlen3, ← e] at h
                exact runes_of_owns h)
              have HOk3 := Lib.hid (show RunesOk c3 by
                rw [hc3]
                intro x hx
                rcases List.mem_append.1 hx with hx | hx
                · exact HOk2.out x hx
                · simp at hx; subst hx; unfold I32; omega)
              have hl3 : c3.length ≤ 1000000 := by omega
              rw [← hc3] at HF2
              rw [hlen3]
              clear hc3 hlen3 hbig3 HO4
              go_wp2_with fail
              refine (rencode_any HC5.out hl3).mono ?_
              rintro e w6 ⟨rfl, hB6⟩
              have HB6 := Lib.hid (HB4.out.trans (hB6.mono HB4.out.size))
              have HC6 := Lib.hid (HC5.out.below hB6)
              clear hB6
              go_wp2_with fail
              refine (rwidth_any (HR.out.below HB6.out) HC6.out HOk3.out hl3).mono ?_
              rintro e w7 ⟨rfl, hB7⟩
              have HB7 := Lib.hid ((HB6.out.trans (hB7.mono HB6.out.size)).alloc ((HB6.out.trans (hB7.mono HB6.out.size)).size) (.cells #[.string (enc c3), .int .i64 ((widN R c3 : Nat) : Int)] 96))
              have HL := Lib.hid (rs_lit gyE_len w7 #[.string (enc c3), .int .i64 ((widN R c3 : Nat) : Int)] 96 [(enc c3, ((widN R c3 : Nat) : Int))] 1 rfl (by decide) rfl)
              clear hB7
              go_wp2_with fail
              go_ret
              exact ⟨_, rfl, HB7.out, by rw [HF2.out]; exact HL.out⟩
    all_goals
      go_wp2_with fail
      go_loopw [6, 7] (fun ov iv wr => ∃ (k : Nat) (L : List Gy), k ≤ c.length ∧ iv = .int .i64 ((k : Nat) : Int) ∧ Below w.heap.size w wr ∧ wr.ownsRow w.heap.size 96 2 ov L.length (L.flatMap gyE) ∧ L = (c.take k).flatMap caretG) (fun _ iv _ => c.length - (intOf iv).toNat)
      case atStart => exact ⟨0, [], Nat.zero_le _, rfl, .refl _ _, World.ownsRow_nil _ _ _ _, rfl⟩
      case round =>
        obtain ⟨k, L, hk, rfl, hB, hO, hL⟩ := hrel
        have HL := Lib.hid hL
        have HB := Lib.hid hB
        obtain ⟨pa, pc, rfl⟩ := slice_of_owns hO
        have HO := Lib.hid hO
        clear hB hO hL
        by_cases hlt : k < c.length
        · obtain ⟨x, hx⟩ : ∃ x, c[k]? = some x := ⟨c[k], List.getElem?_eq_getElem hlt⟩
          have HN := Lib.hid (carets_succ hx)
          have hbd : L.length ≤ 2000000 := by rw [HL.out]; exact carets_le c k (by omega)
          obtain ⟨_, _, _, hv, _, _, _, _, d0⟩ := rune_cell (HS.out.below HB.out) hx
          cases hv
          have r0 : (k : Int) < (c.length : Int) := by omega
          have r1 : (0 : Int) ≤ (k : Int) := by omega
          have e1 := IntWalk.i64_in ((k : Int) + 1) (by omega)
          have hbs := HB.out.size
          have hbig2 : (L.length + 2) * 24 ≤ 140737488355328 := by omega
          have hbig1 : (L.length + 1) * 24 ≤ 140737488355328 := by omega
          have HX := Lib.hid (HOk.out.get hx)
          clear hx
          by_cases g0 : x ≥ 0
          case' pos =>
            by_cases g1 : x < 32
            case' pos =>
              have HCx := Lib.hid (caret_a ⟨g0, g1⟩)
              have e2 := IntWalk.i32_in (x + 64) (by omega)
              go_wp2_with fail
              refine (rput_any (x + 64) wr).mono ?_
              rintro e w2 ⟨rfl, hB2⟩
              have HB2 := Lib.hid (HB.out.trans (hB2.mono HB.out.size))
              have HO2 := Lib.hid (owns_stays HO.out hB2)
              have hbs2 := HB2.out.size
              clear hB2 HO HB d0
              go_wp2_with (at_builtin; go_loud (refine wpList_app1 _ rfl (.tmp 45) (.tmp 54) _ rfl ERG _ _ _ rfl HO2.out 2 2 [.string ⟨#[94]⟩, .int .i64 1, .string (put (x + 64)), .int .i64 1] rfl (by decide) rfl (by intro u hu; simp only [List.mem_cons, List.not_mem_nil, or_false] at hu; rcases hu with rfl | rfl | rfl | rfl <;> rfl) hbig2 hbs2 ?_); intro g cp w7 ho7 hg7 hf7; have HB7 := Lib.hid (below_app HB2.out hbs2 HO2.out (Nat.le_refl _) hg7); have HO7 := Lib.hid ho7; clear ho7 hg7 hf7)
              go_roundw
              case rel => exact ⟨k + 1, L ++ caretG x, by omega, by go_num, HB7.out, by rw [List.length_append, List.flatMap_append, HCx.out]; exact HO7.out, by rw [HN.out, ← HL.out]⟩
              case measure => simp [intOf] <;> omega
            have q2 : decide (x < 32) = false := decide_eq_false g1
            have HNx := Lib.hid (show ¬ (0 ≤ x ∧ x < 32) by omega)
            clear g1
          case' neg =>
            have q2 : decide (x ≥ 0) = false := decide_eq_false g0
            have q3 : decide (0 ≤ x) = false := decide_eq_false g0
            have HNx := Lib.hid (show ¬ (0 ≤ x ∧ x < 32) by omega)
            clear g0
          all_goals
            by_cases g2 : x = 127
            · have p2 : (x == 127) = true := by simpa using g2
              have HCx := Lib.hid (caret_b HNx.out g2)
              clear g2
              go_wp2_with (at_builtin; go_loud (refine wpList_app1 _ rfl (.tmp 61) (.tmp 64) _ rfl ERG _ _ _ rfl HO.out 2 2 [.string ⟨#[94]⟩, .int .i64 1, .string ⟨#[63]⟩, .int .i64 1] rfl (by decide) rfl (by intro u hu; simp only [List.mem_cons, List.not_mem_nil, or_false] at hu; rcases hu with rfl | rfl | rfl | rfl <;> rfl) hbig2 hbs ?_); intro g cp w7 ho7 hg7 hf7; have HB7 := Lib.hid (below_app HB.out hbs HO.out (Nat.le_refl _) hg7); have HO7 := Lib.hid ho7; clear ho7 hg7 hf7)
              go_roundw
              case rel => exact ⟨k + 1, L ++ caretG x, by omega, by go_num, HB7.out, by rw [List.length_append, List.flatMap_append, HCx.out]; exact HO7.out, by rw [HN.out, ← HL.out]⟩
              case measure => simp [intOf] <;> omega
            · have p2 : (x == 127) = false := by simpa using g2
              have HCx := Lib.hid (caret_c HNx.out g2)
              clear g2
              go_wp2_with fail
              refine (rput_any 65533 wr).mono ?_
              rintro e w2 ⟨rfl, hB2⟩
              have HB2 := Lib.hid (HB.out.trans (hB2.mono HB.out.size))
              have HO2 := Lib.hid (owns_stays HO.out hB2)
              have hbs2 := HB2.out.size
              clear hB2 HO HB d0
              go_wp2_with (at_builtin; go_loud (refine wpList_app1 _ rfl (.tmp 66) (.tmp 69) _ rfl ERG _ _ _ rfl HO2.out 1 1 [.string (put 65533), .int .i64 1] rfl (by decide) rfl (by intro u hu; simp only [List.mem_cons, List.not_mem_nil, or_false] at hu; rcases hu with rfl | rfl <;> rfl) hbig1 hbs2 ?_); intro g cp w7 ho7 hg7 hf7; have HB7 := Lib.hid (below_app HB2.out hbs2 HO2.out (Nat.le_refl _) hg7); have HO7 := Lib.hid ho7; clear ho7 hg7 hf7)
              go_roundw
              case rel => exact ⟨k + 1, L ++ caretG x, by omega, by go_num, HB7.out, by rw [List.length_append, List.flatMap_append, HCx.out]; exact HO7.out, by rw [HN.out, ← HL.out]⟩
              case measure => simp [intOf] <;> omega
        · have hke : k = c.length := by omega
          subst hke
          rw [List.take_length] at HL
          have r0 : decide ((c.length : Int) < (c.length : Int)) = false := by simp
          clear hlt hk
          go_wp2_with fail
          go_ret
          exact ⟨_, rfl, HB.out, by rw [HG.out, ← HL.out]; exact rgly_of_owns HO.out⟩
end
end Go.Proofs.Ytblajooebmjfoaa

/- Are two lists of glyphs the same? Chapter 13's facts. -/
namespace Go.Proofs.Ytblajooebmjfoaa
open Go.RowKit

theorem gly_cells {w : World} {v : Value} {l : List Gy} (h : GlyIn w v l) {k : Nat} {x : Gy} (hx : l[k]? = some x) : ∃ b off cap, v = .slice (some ⟨b, off, none⟩) l.length cap ∧ l.length ≤ cap ∧ cap ≤ maxLen ∧ b < w.heap.size ∧ w.cell? ⟨b, off + k * 2, none⟩ = some (.string x.1) ∧ w.cell? ⟨b, off + k * 2 + 1, none⟩ = some (.int .i64 x.2) := by
  obtain ⟨a, cap, rfl, h1, h2, _, h4⟩ := h
  have hk := (List.getElem?_eq_some_iff.1 hx).1
  obtain ⟨b, off, rfl, hb, hc⟩ := h4 (by omega)
  refine ⟨b, off, cap, rfl, h1, h2, hb, ?_, ?_⟩
  · have := hc (k * 2 + 0) _ (flat_get gyE_len l k x 0 (.string x.1) hx rfl)
    simpa using this
  · exact hc (k * 2 + 1) _ (flat_get gyE_len l k x 1 (.int .i64 x.2) hx rfl)
theorem gly_shape {w : World} {v : Value} {l : List Gy} (h : GlyIn w v l) : ∃ a cap, v = .slice a l.length cap ∧ l.length ≤ cap ∧ cap ≤ maxLen := by
  obtain ⟨a, cap, hv, h1, h2, _⟩ := h
  exact ⟨a, cap, hv, h1, h2⟩
set_option maxRecDepth 100000 in
set_option maxHeartbeats 1000000 in
theorem gsame_any {w : World} {u v : Value} {l : List Gy} (hu : GlyIn w u l) (hv : GlyIn w v l) (hl : l.length ≤ 4000000) :
    Calls Try.prog 14 #[u, v] w fun e w' => e = .returned (.bool true) ∧ Below w.heap.size w w' := by
  have HU := Lib.hid hu
  have HV := Lib.hid hv
  obtain ⟨ua, uc, rfl, hu1, hu2⟩ := gly_shape hu
  obtain ⟨va, vc, rfl, hv1, hv2⟩ := gly_shape hv
  unfold maxLen at hu2 hv2
  have q0 : ((l.length : Int) != (l.length : Int)) = false := by simp
  clear hu hv
  go_enter Try.func14, Try.ntmps14
  go_wp2_with fail
  go_loopw [5] (fun iv wr => ∃ k : Nat, k ≤ l.length ∧ iv = .int .i64 ((k : Nat) : Int) ∧ Below w.heap.size w wr) (fun iv _ => l.length - (intOf iv).toNat)
  case atStart => exact ⟨0, Nat.zero_le _, rfl, .refl _ _⟩
  case round =>
    obtain ⟨k, hk, rfl, hB⟩ := hrel
    have HB := Lib.hid hB
    clear hB
    by_cases hlt : k < l.length
    · obtain ⟨x, hx⟩ : ∃ x, l[k]? = some x := ⟨l[k], List.getElem?_eq_getElem hlt⟩
      obtain ⟨x1, x2⟩ := x
      obtain ⟨b, off, _, hv, _, _, _, d0, d1⟩ := gly_cells (HU.out.below HB.out) hx
      cases hv
      obtain ⟨b', off', _, hv, _, _, _, d2, d3⟩ := gly_cells (HV.out.below HB.out) hx
      cases hv
      have r0 : (k : Int) < (l.length : Int) := by omega
      have r1 : (0 : Int) ≤ (k : Int) := by omega
      have e1 := IntWalk.i64_in ((k : Int) + 1) (by omega)
      clear hx
      go_wp2_with fail
      go_quiet (fail)
      go_wp2_with fail
      go_roundw
      case rel => exact ⟨k + 1, by omega, by go_num, below_dN HB.out _⟩
      case measure => simp [intOf] <;> omega
    · have hke : k = l.length := by omega
      subst hke
      have r0 : decide ((l.length : Int) < (l.length : Int)) = false := by simp
      clear hlt hk
      go_wp2_with fail
      go_ret
      exact ⟨rfl, HB.out⟩
def glyEx (R : List Rw) : Bool := decide (glOf R [1] = [(⟨#[94]⟩, 1), (⟨#[65]⟩, 1)]) && decide (glOf R [769] = [(⟨#[226, 151, 140, 204, 129]⟩, 1)]) && decide (widN R [19968] = 2) && decide (widN R [127462, 127463] = 2)
structure GFacts (R : List Rw) : Prop where
  a : glOf R [1] = [(⟨#[94]⟩, 1), (⟨#[65]⟩, 1)]
  b : glOf R [769] = [(⟨#[226, 151, 140, 204, 129]⟩, 1)]
  c : widN R [19968] = 2
  d : widN R [127462, 127463] = 2
theorem gfacts_of {R : List Rw} (h : glyEx R = true) : GFacts R := by
  simp only [glyEx, Bool.and_eq_true, decide_eq_true_eq] at h
  exact ⟨h.1.1.1, h.1.1.2, h.1.2, h.2⟩
set_option maxRecDepth 100000 in
theorem glyRows_any : ∃ R : List Rw, RFacts R ∧ GFacts R ∧ ∀ w, Calls Try.prog 12 #[] w (LitPost R w) :=
  ⟨((((((((rowsFn Try.f39) ++ rowsFn Try.f40) ++ rowsFn Try.f41) ++ rowsFn Try.f42) ++ rowsFn Try.f43) ++ rowsFn Try.f44) ++ rowsFn Try.f45) ++ rowsFn Try.f46), rfacts_of (by kernel_rfl) (by kernel_rfl) (by kernel_rfl) (by kernel_rfl) (by kernel_rfl) (by kernel_rfl), gfacts_of (by kernel_rfl), fun w => apiRows_of _ _ _ _ _ _ _ _ (of_decide_eq_true (by kernel_rfl)) (of_decide_eq_true (by kernel_rfl)) (of_decide_eq_true (by kernel_rfl)) (of_decide_eq_true (by kernel_rfl)) (of_decide_eq_true (by kernel_rfl)) (of_decide_eq_true (by kernel_rfl)) (of_decide_eq_true (by kernel_rfl)) (of_decide_eq_true (by kernel_rfl)) classes_any pairs_any outs_any breaks_any picts_any conjs_any wides_any letters_any w⟩
end Go.Proofs.Ytblajooebmjfoaa

/- Chapter 13's example; GlyphShows' walk. -/
namespace Go.Proofs.Ytblajooebmjfoaa
open Go.RowKit

theorem toList_inj' {a b : ByteArray} (h : a.toList = b.toList) : a = b := by
  rw [ByteArray.toList_eq, ByteArray.toList_eq] at h
  obtain ⟨⟨x⟩⟩ := a
  obtain ⟨⟨y⟩⟩ := b
  simp at h
  rw [h]
theorem eql_cell_any (t : TypeId) (ht : Try.prog.underlying t = some (.struct (Try.prog.fieldsOf t))) (hp : Try.prog.stoodInHeld t = false) (f0 f1 : Field) (hf : (Try.prog.fieldsOf t).toList = [f0, f1]) (n0 : f0.name ≠ "_") (n1 : f1.name ≠ "_") (y0 : f0.type = 9) (y1 : f1.type = 3) (o0 : f0.offset = 0) (o1 : f1.offset = 1) (s1 s2 : ByteArray) (d1 d2 : Int) (w : World) :
    Sem.run Try.prog (binOp .eql t (.agg #[.string s1, .int .i64 d1]) (.agg #[.string s2, .int .i64 d2])) w = .ok (.bool (decide ((s1, d1) = (s2, d2)))) w := by
  rw [run_eql_struct, run_equalIn_agg _ _ _ _ _ ht hp, hf]
  simp only [Op.eqFields, y0, y1, o0, o1]
  simp [go_sem]
  rw [if_neg n0]
  by_cases hs : s1 = s2
  · subst hs
    rw [if_pos rfl, if_neg n1]
    by_cases hd : d1 = d2
    · subst hd; simp
    · simp [hd]
  · rw [if_neg (fun h => hs (toList_inj' h))]
    simp [hs]
set_option maxRecDepth 100000 in
theorem eql_gly (s1 s2 : ByteArray) (d1 d2 : Int) (w : World) :
    Sem.run Try.prog (binOp .eql 57 (.agg #[.string s1, .int .i64 d1]) (.agg #[.string s2, .int .i64 d2])) w = .ok (.bool (decide ((s1, d1) = (s2, d2)))) w :=
  eql_cell_any 57 (by kernel_rfl) (by kernel_rfl) _ _ rfl (by decide) (by decide) rfl rfl rfl rfl _ _ _ _ w
set_option maxRecDepth 100000 in
set_option maxHeartbeats 2000000 in
theorem awake13_any (w : World) : Calls Try.prog 19 #[] w fun e w' => e = .returned (.bool true) ∧ Below w.heap.size w w' := by
  obtain ⟨R, HFc, HGc, hrows⟩ := glyRows_any
  have HF := Lib.hid HFc
  have HG := Lib.hid HGc
  have HRows := Lib.hid hrows
  clear HFc hrows HGc
  go_enter Try.func19, Try.ntmps19
  go_wp2_with fail
  refine (HRows.out w).mono ?_
  rintro e w1 ⟨v, rfl, hB1, hR1⟩
  have HB1 := Lib.hid hB1
  go_wp2_with fail
  refine (build_tb v R w1 hR1 HF.out.ok).mono ?_
  rintro e w2 ⟨tp, rfl, hB2, hT⟩
  have hb2 := below1 w2 (.cells #[.int .i32 1] 21)
  have HT2 := Lib.hid (hT.below hb2)
  have HB2 := Lib.hid (below_trans' (below_trans' HB1.out hB2) hb2)
  have HL2 := Lib.hid (show RunesIn (w2.alloc (.cells #[.int .i32 1] 21)) (.slice (some ⟨w2.heap.size, 0, none⟩) 1 1) [1] from rs_lit runeE_len w2 _ _ _ 1 rfl (by decide) rfl)
  clear hB1 hR1 hB2 hT HB1 hb2
  go_wp2_with fail
  refine (gof_any HT2.out HL2.out (by intro x hx; simp at hx; unfold I32; omega) (by decide)).mono ?_
  rintro e w3 ⟨u, rfl, hB3, hA⟩
  rw [HG.out.a] at hA
  obtain ⟨b, off, cap, hv, _, _, _, a0, a1⟩ := gly_cells hA (k := 0) (x := (⟨#[94]⟩, 1)) rfl
  have hv2 : u = .slice (some ⟨b, off, none⟩) 2 cap := hv
  subst hv2
  obtain ⟨_, _, _, hv, _, _, _, a2, a3⟩ := gly_cells hA (k := 1) (x := (⟨#[65]⟩, 1)) rfl
  cases hv
  have a0 : w3.cell? ⟨b, off, none⟩ = some (.string ⟨#[94]⟩) := a0
  have a1 : w3.cell? ⟨b, off + 1, none⟩ = some (.int .i64 1) := a1
  have a2 : w3.cell? ⟨b, off + 2, none⟩ = some (.string ⟨#[65]⟩) := a2
  have a3 : w3.cell? ⟨b, off + 3, none⟩ = some (.int .i64 1) := a3
  have hb3 := below1 w3 (.cells #[.int .i32 769] 21)
  have HT3 := Lib.hid ((HT2.out.below hB3).below hb3)
  have HB3 := Lib.hid (below_trans' (below_trans' HB2.out hB3) hb3)
  have HL3 := Lib.hid (show RunesIn (w3.alloc (.cells #[.int .i32 769] 21)) (.slice (some ⟨w3.heap.size, 0, none⟩) 1 1) [769] from rs_lit runeE_len w3 _ _ _ 1 rfl (by decide) rfl)
  have a0 := cell_later hb3 a0
  have a1 := cell_later hb3 a1
  have a2 := cell_later hb3 a2
  have a3 := cell_later hb3 a3
  clear hB3 hA HT2 HB2 HL2 hb3
  go_wp2_with fail
  refine (gof_any HT3.out HL3.out (by intro x hx; simp at hx; unfold I32; omega) (by decide)).mono ?_
  rintro e w4 ⟨u, rfl, hB4, hA⟩
  rw [HG.out.b] at hA
  obtain ⟨b2, off2, cap2, hv, _, _, _, c0, c1⟩ := gly_cells hA (k := 0) (x := (⟨#[226, 151, 140, 204, 129]⟩, 1)) rfl
  have hv2 : u = .slice (some ⟨b2, off2, none⟩) 1 cap2 := hv
  subst hv2
  have c0 : w4.cell? ⟨b2, off2, none⟩ = some (.string ⟨#[226, 151, 140, 204, 129]⟩) := c0
  have c1 : w4.cell? ⟨b2, off2 + 1, none⟩ = some (.int .i64 1) := c1
  have a0 := cell_later hB4 a0
  have a1 := cell_later hB4 a1
  have a2 := cell_later hB4 a2
  have a3 := cell_later hB4 a3
  have HB4 := Lib.hid (below_trans' HB3.out hB4)
  have hb4 := below1 w4 (.cells #[.int .i32 19968] 21)
  have HT4 := Lib.hid ((HT3.out.below hB4).below hb4)
  have HB5 := Lib.hid (below_trans' HB4.out hb4)
  have HL4 := Lib.hid (show RunesIn (w4.alloc (.cells #[.int .i32 19968] 21)) (.slice (some ⟨w4.heap.size, 0, none⟩) 1 1) [19968] from rs_lit runeE_len w4 _ _ _ 1 rfl (by decide) rfl)
  have t1 : Sem.run Try.prog (binOp .eql 57 (.agg #[.string ⟨#[94]⟩, .int .i64 1]) (.agg #[.string ⟨#[94]⟩, .int .i64 1])) w4 = .ok (.bool true) w4 := by rw [eql_gly]; rfl
  have t2 : Sem.run Try.prog (binOp .eql 57 (.agg #[.string ⟨#[65]⟩, .int .i64 1]) (.agg #[.string ⟨#[65]⟩, .int .i64 1])) w4 = .ok (.bool true) w4 := by rw [eql_gly]; rfl
  have t3 : Sem.run Try.prog (binOp .eql 57 (.agg #[.string ⟨#[226, 151, 140, 204, 129]⟩, .int .i64 1]) (.agg #[.string ⟨#[226, 151, 140, 204, 129]⟩, .int .i64 1])) w4 = .ok (.bool true) w4 := by rw [eql_gly]; rfl
  clear hB4 hA HT3 HB3 HB4 HL3 hb4
  go_wp2_with fail
  refine (width_any HT4.out HL4.out (by intro x hx; simp at hx; unfold I32; omega) (by decide)).mono ?_
  rintro e w5 ⟨rfl, hB5⟩
  rw [HG.out.c]
  have hb5 := below1 w5 (.cells #[.int .i32 127462, .int .i32 127463] 21)
  have HT5 := Lib.hid ((HT4.out.below hB5).below hb5)
  have HB6 := Lib.hid (below_trans' (below_trans' HB5.out hB5) hb5)
  have HL5 := Lib.hid (show RunesIn (w5.alloc (.cells #[.int .i32 127462, .int .i32 127463] 21)) (.slice (some ⟨w5.heap.size, 0, none⟩) 2 2) [127462, 127463] from rs_lit runeE_len w5 _ _ _ 2 rfl (by decide) rfl)
  clear hB5 hb5 HT4 HL4 HB5 a0 a1 a2 a3 c0 c1 t1 t2 t3
  go_wp2_with fail
  refine (width_any HT5.out HL5.out (by intro x hx; simp at hx; unfold I32; omega) (by decide)).mono ?_
  rintro e w6 ⟨rfl, hB6⟩
  rw [HG.out.d]
  have HB7 := Lib.hid (below_trans' HB6.out hB6)
  clear hB6
  go_wp2_with fail
  go_ret
  exact ⟨rfl, HB7.out⟩
theorem fin13 {w w1 : World} (h1 : Below w.heap.size w w1) : Calls Try.prog 19 #[] w1 fun e w' => e = .returned (.bool true) ∧ Below w.heap.size w w' := by
  refine (awake13_any w1).mono ?_
  rintro e w' ⟨rfl, hB⟩
  exact ⟨rfl, below_trans' h1 hB⟩
set_option maxRecDepth 100000 in
set_option maxHeartbeats 2000000 in
theorem glyphShows_any (v0 : Value) (l0 : List Int) (w : World) (hl : RunesIn w v0 l0) (hok : RunesOk l0) :
    Calls Try.prog 3 #[v0] w fun e w' => e = .returned (.bool true) ∧ Below w.heap.size w w' := by
  obtain ⟨R, HFc, hrows⟩ := apiRows_any
  have HF := Lib.hid HFc
  have HRows := Lib.hid hrows
  have HFew := Lib.hid (few_any hl 60)
  clear HFc hrows hl
  obtain ⟨l, hll⟩ : ∃ l, l = l0.take 60 := ⟨_, rfl⟩
  rw [← hll] at HFew
  have HOk := Lib.hid (show RunesOk l by rw [hll]; exact hok.take 60)
  have hlen : l.length ≤ 60 := by rw [hll, List.length_take]; omega
  have hgl : (glOf R l).length ≤ 4000000 := by have := glOf_le R l; omega
  clear hll hok
  go_enter Try.func3, Try.ntmps3
  go_wp2_with fail
  refine HFew.out.mono ?_
  rintro e w' ⟨⟨sv, rfl, hS⟩, rfl⟩
  have HS := Lib.hid hS
  obtain ⟨sl, cap, rfl, _, _, _⟩ := runes_cells hS
  clear hS HFew
  go_wp2_with fail
  refine (HRows.out w).mono ?_
  rintro e w1 ⟨v, rfl, hB1, hR1⟩
  have HB1 := Lib.hid hB1
  have HR1 := Lib.hid hR1
  have HS1 := Lib.hid (HS.out.below hB1)
  clear hB1 hR1 HS
  go_wp2_with fail
  refine (build_tb v R w1 HR1.out HF.out.ok).mono ?_
  rintro e w2 ⟨tp, rfl, hB2, hT⟩
  have HT2 := Lib.hid hT
  have HR2 := Lib.hid (HR1.out.below hB2)
  have HS2 := Lib.hid (HS1.out.below hB2)
  have HB2 := Lib.hid (below_trans' HB1.out hB2)
  clear hB2 hT HB1 HR1 HS1
  go_wp2_with fail
  refine (gof_any HT2.out HS2.out HOk.out (by omega)).mono ?_
  rintro e w3 ⟨u, rfl, hB3, hA⟩
  have HA := Lib.hid hA
  have HT3 := Lib.hid (HT2.out.below hB3)
  have HR3 := Lib.hid (HR2.out.below hB3)
  have HS3 := Lib.hid (HS2.out.below hB3)
  have HB3 := Lib.hid (below_trans' HB2.out hB3)
  clear hB3 hA HB2 HR2 HS2 HT2
  go_wp2_with fail
  refine (rgof_any HR3.out HS3.out HOk.out (by omega)).mono ?_
  rintro e w4 ⟨u2, rfl, hB4, hA2⟩
  have HA2 := Lib.hid hA2
  have HA4 := Lib.hid (HA.out.below hB4)
  have HT4 := Lib.hid (HT3.out.below hB4)
  have HR4 := Lib.hid (HR3.out.below hB4)
  have HS4 := Lib.hid (HS3.out.below hB4)
  have HB4 := Lib.hid (below_trans' HB3.out hB4)
  clear hB4 hA2 HB3 HR3 HS3 HT3 HA
  go_wp2_with fail
  refine (gsame_any HA4.out HA2.out hgl).mono ?_
  rintro e w5 ⟨rfl, hB5⟩
  have HT5 := Lib.hid (HT4.out.below hB5)
  have HR5 := Lib.hid (HR4.out.below hB5)
  have HS5 := Lib.hid (HS4.out.below hB5)
  have HB5 := Lib.hid (below_trans' HB4.out hB5)
  clear hB5 HB4 HR4 HS4 HT4 HA4 HA2
  go_wp2_with fail
  refine (width_any HT5.out HS5.out HOk.out (by omega)).mono ?_
  rintro e w6 ⟨rfl, hB6⟩
  have HR6 := Lib.hid (HR5.out.below hB6)
  have HS6 := Lib.hid (HS5.out.below hB6)
  have HB6 := Lib.hid (below_trans' HB5.out hB6)
  clear hB6 HB5 HR5 HS5 HT5
  go_wp2_with fail
  refine (rwidth_any HR6.out HS6.out HOk.out (by omega)).mono ?_
  rintro e w7 ⟨rfl, hB7⟩
  have HB7 := Lib.hid (below_trans' HB6.out hB7)
  clear hB7 HB6 HR6 HS6
  go_wp2_with fail
  refine (fin13 HB7.out).mono ?_
  rintro e w9 ⟨rfl, hB9⟩
  go_wp2_with fail
  go_ret
  exact ⟨rfl, hB9⟩
end Go.Proofs.Ytblajooebmjfoaa
