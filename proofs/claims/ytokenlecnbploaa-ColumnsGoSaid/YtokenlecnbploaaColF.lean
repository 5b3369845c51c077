/- Chapter 45's example; the walk of ColumnsFit. -/
import Derived.Test.YtokenlecnbploaaColE
namespace Go.Proofs.Ytokenlecnbploaa
open Go.RowKit

theorem smallL_narrow (zs : List Int) : narrow (smallL zs) := ⟨by rw [smallL_len]; omega, fun z hz => by have := smallL_bd zs z hz; omega⟩

theorem fit123 {R : Nat} (h : isFit [1, 2, 3] 7 R) : R = 2 :=
  isFit_unique h ⟨by decide, by decide, fun r h1 h2 => by
    have : r = 1 := by omega
    subst this
    decide +kernel, fun _ => by decide +kernel⟩
theorem plan123 : planL [1, 2, 3] 2 = [2, 3] := by decide +kernel
theorem narrow123 : narrow [1, 2, 3] := ⟨by decide, by decide⟩
theorem narrow23 : narrow [2, 3] := ⟨by decide, by decide⟩
theorem total23 : totalL [2, 3] = 7 := by decide +kernel

theorem ri_lit (w : World) (zs : List Int) (n : Nat) (hn : n = zs.length) (hm : n ≤ maxLen) (cs : Array Value) (hcs : cs.toList = ints zs) (e : Nat) :
    Ri (w.alloc (.cells cs e)).heap.size (w.alloc (.cells cs e)) (.slice (some ⟨w.heap.size, 0, none⟩) n n) zs := by
  subst hn
  refine ⟨_, _, rfl, Nat.le_refl _, hm, by simp [ints_len], fun _ => ⟨_, _, rfl, by simp, fun j u hu => ?_⟩⟩
  rw [Nat.zero_add, cell_of_row _ w.heap.size j cs e (0, 0) (heap_alloc_new w _), ← Array.getElem?_toList, hcs]
  exact hu

set_option maxRecDepth 100000 in
set_option maxHeartbeats 400000 in
theorem awake45_any (w : World) : Calls Try.prog 23 #[] w fun e w' => e = .returned (.bool true) ∧ Below w.heap.size w w' := by
  go_enter Try.func23, Try.ntmps23
  go_wp2_with fail
  refine (fit_some _ [1, 2, 3] 7 _ (ri_lit w _ 3 rfl (by decide) _ rfl _) narrow123 (by decide)).mono ?_
  rintro e w1 ⟨R, vw, rfl, hB1, hfit, ho⟩
  obtain rfl := fit123 hfit
  rw [plan123] at ho
  obtain ⟨va, vcap, rfl⟩ := slice_of_owns ho
  have hB0 : Below w.heap.size w w1 := ((Below.refl _ w).alloc (Nat.le_refl _) _).trans (hB1.mono (by simp))
  clear hfit hB1
  have HO := Lib.hid ho
  clear ho
  go_wp2_with fail
  refine (sameInts_eq _ _ [2, 3] _ ?_ ?_).mono ?_
  · exact ri_of_owns ((HO.out.alloc _).alloc _)
  · simpa using ri_lit (w1.alloc (.cells #[.int .i64 2, .slice va 2 vcap] 42)) [2, 3] 2 rfl (by decide) #[.int .i64 2, .int .i64 3] rfl 3
  rintro e w2 ⟨rfl, hB2⟩
  have hb2 : Below w1.heap.size w1 w2 := (((Below.refl _ w1).alloc (Nat.le_refl _) _).alloc (by simp) _).trans (hB2.mono (by simp; omega))
  have c0 : w2.cell? ⟨w1.heap.size, 0, none⟩ = some (.int .i64 2) := (hB2.cell (p := ⟨w1.heap.size, 0, none⟩) (by show w1.heap.size < _; simp; omega)).trans (by go_simp)
  have c1 : w2.cell? ⟨w1.heap.size, 1, none⟩ = some (.slice va 2 vcap) := (hB2.cell (p := ⟨w1.heap.size, 1, none⟩) (by show w1.heap.size < _; simp; omega)).trans (by go_simp)
  go_wp2_with fail
  refine (total_any _ _ [2, 3] _ (ri_of_owns (owns_stays HO.out hb2)) narrow23).mono ?_
  rintro e w3 ⟨rfl, hB3⟩
  have ht : ((totalL [2, 3]) == 7) = true := by rw [total23]; rfl
  go_wp2
  go_ret
  exact ⟨rfl, below_trans' (below_trans' hB0 hb2) hB3⟩
end Go.Proofs.Ytokenlecnbploaa
