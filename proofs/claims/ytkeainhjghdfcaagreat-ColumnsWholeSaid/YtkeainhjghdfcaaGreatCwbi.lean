/- Joined texts: LayB LayC. -/
import Derived.Test.YtkeainhjghdfcaaGreatCwbh
import Derived.Test.YtkeainhjghdfcaaGreatCwbd
import Derived.Test.YtkeainhjghdfcaaGreatCwab

/- ColumnsLay: its walk. (Printed by gen_laylaw.py.) -/
namespace Go.Proofs.YtkeainhjghdfcaaGreat
open Go.RowKit

set_option maxRecDepth 100000 in
set_option maxHeartbeats 4000000 in
theorem clay_nil (tp : Nat) (a : Option Addr) (cap : Nat) (cols : Int) (w : World) :
    Calls Tryz.prog 36 #[.pointer (some ⟨tp, 0, none⟩), .slice a 0 cap, .int .i64 cols] w fun e w' => ∃ b c, e = .returned (.slice b 0 c) ∧ Below w.heap.size w w' := by
  have mk1 : (Instr.makeSlice 75 (.int .i64 0) (.int .i64 0)).run Tryz.prog w = .ok (.slice (some ⟨w.heap.size, 0, none⟩) 0 0) (w.alloc (.cells #[] 3)) := mk_ints w 0 (by omega)
  have hza : (w.alloc (.cells #[] 3)).heap.size = w.heap.size + 1 := by simp
  have mk2 : (Instr.makeSlice 69 (.int .i64 0) (.int .i64 0)).run Tryz.prog (w.alloc (.cells #[] 3)) = .ok (.slice (some ⟨w.heap.size + 1, 0, none⟩) 0 0) ((w.alloc (.cells #[] 3)).alloc (.cells #[] 9)) := by
    have := mk_strs (w.alloc (.cells #[] 3)) 0 (by omega)
    rw [hza] at this
    exact this
  have hB := (below1 w (.cells #[] 3)).trans ((below1 (w.alloc (.cells #[] 3)) (.cells #[] 9)).mono (by rw [hza]; omega))
  have HB := Lib.hid hB
  go_enter Tryz.func36, Tryz.ntmps36
  go_upto_region 3 with fail
  generalize (w.alloc (.cells #[] 3)).alloc (.cells #[] 9) = w1 at HB ⊢
  clear mk1 mk2 hza hB
  go_wp2_with fail
  go_loopw [29] (fun iv wr => iv = .int .i64 0 ∧ wr = w1) (fun _ _ => 0)
  case atStart => exact ⟨rfl, rfl⟩
  case round =>
    obtain ⟨rfl, rfl⟩ := hrel
    have hfit := fit_nil (.slice (some ⟨w.heap.size, 0, none⟩) 0 0) cols wr ⟨_, _, rfl, Nat.le_refl _, by unfold maxLen; omega, rfl, fun h => absurd h (Nat.lt_irrefl _)⟩
    have HFit := Lib.hid hfit
    clear hfit
    go_wp2_with fail
    refine HFit.out.mono ?_
    rintro e w8 ⟨rfl, hB8⟩
    have hzb : (w8.alloc (.cells #[.int .i64 0, .slice none 0 0] 152)).heap.size = w8.heap.size + 1 := by simp
    have mk3 : (Instr.makeSlice 69 (.int .i64 0) (.int .i64 0)).run Tryz.prog (w8.alloc (.cells #[.int .i64 0, .slice none 0 0] 152)) = .ok (.slice (some ⟨w8.heap.size + 1, 0, none⟩) 0 0) ((w8.alloc (.cells #[.int .i64 0, .slice none 0 0] 152)).alloc (.cells #[] 9)) := by
      have := mk_strs (w8.alloc (.cells #[.int .i64 0, .slice none 0 0] 152)) 0 (by omega)
      rw [hzb] at this
      exact this
    have hB9 := hB8.trans (((below1 w8 (.cells #[.int .i64 0, .slice none 0 0] 152)).trans ((below1 (w8.alloc (.cells #[.int .i64 0, .slice none 0 0] 152)) (.cells #[] 9)).mono (by rw [hzb]; omega))).mono hB8.size)
    have HB9 := Lib.hid (HB.out.trans (hB9.mono HB.out.size))
    clear hzb hB9 hB8
    go_upto_region 16 with fail
    generalize (w8.alloc (.cells #[.int .i64 0, .slice none 0 0] 152)).alloc (.cells #[] 9) = w9 at HB9 ⊢
    clear mk3
    go_wp2_with fail
    go_loopw [70] (fun iv wr => iv = .int .i64 0 ∧ wr = w9) (fun _ _ => 0)
    case atStart => exact ⟨rfl, rfl⟩
    case round =>
      rename World => wz
      obtain ⟨rfl, rfl⟩ := hrel
      go_wp2_with fail
      go_ret
      exact ⟨_, _, rfl, HB9.out⟩
/-- words that are not too long, nor too many -/
def fewW (LL : List (List Int)) : List (List Int) := (LL.take 12).map (·.take 10)
theorem fewW_len (LL : List (List Int)) : (fewW LL).length ≤ 12 := by unfold fewW; rw [List.length_map, List.length_take]; omega
theorem fewW_ok {LL : List (List Int)} (h : ∀ p ∈ LL, RunesOk p) : ∀ p ∈ fewW LL, RunesOk p ∧ p.length ≤ 10 := by
  intro p hp
  obtain ⟨q, hq, rfl⟩ := List.mem_map.1 hp
  exact ⟨(h q (List.mem_of_mem_take hq)).take 10, by rw [List.length_take]; omega⟩
theorem texts_of_own3 {W : World} {w0 : World} {B n : Nat} {e : TypeId} {pv : Value} {vs : List Value} {LL : List (List Int)} (h : W.ownsRow B e 1 pv n vs) (hn : vs.length = n) (hb : Below w0.heap.size w0 W) (hl : vs.length = LL.length) (hel : ∀ (i : Nat) (u : Value) (l : List Int), vs[i]? = some u → LL[i]? = some l → RunesIn w0 u l) : TextsIn W pv LL := by
  subst hn
  exact texts_of_own h hb hl hel
end Go.Proofs.YtkeainhjghdfcaaGreat
