/- Joined texts: SegA. -/
import Derived.Deep.DeepCutAuto
import Derived.Deep.CutBlock
import Derived.Deep.RegionHeld3
import Derived.Test.YtkeainhjghdfcaaGreatCwax

/- seg: sticks, Step. -/
namespace Go.Proofs.YtkeainhjghdfcaaGreat
open Go.RowKit

set_option maxRecDepth 100000 in
set_option maxHeartbeats 2000000 in
theorem sticks_any (a b : Int) (w : World) : Calls Tryz.prog 158 #[.int .i64 a, .int .i64 b] w fun e w' => e = .returned (.bool (sticksB a b)) ∧ w = w' := by

  by_cases a1 : a = 1
  · subst a1
    have HV := Lib.hid (show sticksB 1 b = decide (b = 2) by unfold sticksB hangulB; simp [*])

    go_enter Tryz.func158, Tryz.ntmps158
    go_wp2_with fail
    go_ret
    exact ⟨ret_b (by first | (simp [HV.out]; done) | (rw [HV.out]; rfl)), rfl⟩
  have na1 : (a == 1) = false := by simpa using a1
  by_cases a2 : a = 2
  · subst a2
    have HV := Lib.hid (show sticksB 2 b = false by unfold sticksB hangulB; simp [*])

    go_enter Tryz.func158, Tryz.ntmps158
    go_wp2_with fail
    go_ret
    exact ⟨ret_b (by first | (simp [HV.out]; done) | (rw [HV.out]; rfl)), rfl⟩
  have na2 : (a == 2) = false := by simpa using a2
  by_cases a3 : a = 3
  · subst a3
    have HV := Lib.hid (show sticksB 3 b = false by unfold sticksB hangulB; simp [*])

    go_enter Tryz.func158, Tryz.ntmps158
    go_wp2_with fail
    go_ret
    exact ⟨ret_b (by first | (simp [HV.out]; done) | (rw [HV.out]; rfl)), rfl⟩
  have na3 : (a == 3) = false := by simpa using a3
  by_cases b1 : b = 1
  · subst b1
    have HV := Lib.hid (show sticksB a 1 = false by unfold sticksB hangulB; simp [*])
    clear a1 a2 a3
    go_enter Tryz.func158, Tryz.ntmps158
    go_wp2_with fail
    go_ret
    exact ⟨ret_b (by first | (simp [HV.out]; done) | (rw [HV.out]; rfl)), rfl⟩
  have nb1 : (b == 1) = false := by simpa using b1
  by_cases b2 : b = 2
  · subst b2
    have HV := Lib.hid (show sticksB a 2 = false by unfold sticksB hangulB; simp [*])
    clear a1 a2 a3
    go_enter Tryz.func158, Tryz.ntmps158
    go_wp2_with fail
    go_ret
    exact ⟨ret_b (by first | (simp [HV.out]; done) | (rw [HV.out]; rfl)), rfl⟩
  have nb2 : (b == 2) = false := by simpa using b2
  by_cases b3 : b = 3
  · subst b3
    have HV := Lib.hid (show sticksB a 3 = false by unfold sticksB hangulB; simp [*])
    clear a1 a2 a3
    go_enter Tryz.func158, Tryz.ntmps158
    go_wp2_with fail
    go_ret
    exact ⟨ret_b (by first | (simp [HV.out]; done) | (rw [HV.out]; rfl)), rfl⟩
  have nb3 : (b == 3) = false := by simpa using b3
  by_cases b4 : b = 4
  · subst b4
    have HV := Lib.hid (show sticksB a 4 = true by unfold sticksB hangulB; simp [*])
    clear a1 a2 a3
    go_enter Tryz.func158, Tryz.ntmps158
    go_wp2_with fail
    go_ret
    exact ⟨ret_b (by first | (simp [HV.out]; done) | (rw [HV.out]; rfl)), rfl⟩
  have nb4 : (b == 4) = false := by simpa using b4
  by_cases b5 : b = 5
  · subst b5
    have HV := Lib.hid (show sticksB a 5 = true by unfold sticksB hangulB; simp [*])
    clear a1 a2 a3
    go_enter Tryz.func158, Tryz.ntmps158
    go_wp2_with fail
    go_ret
    exact ⟨ret_b (by first | (simp [HV.out]; done) | (rw [HV.out]; rfl)), rfl⟩
  have nb5 : (b == 5) = false := by simpa using b5
  by_cases b8 : b = 8
  · subst b8
    have HV := Lib.hid (show sticksB a 8 = true by unfold sticksB hangulB; simp [*])
    clear a1 a2 a3
    go_enter Tryz.func158, Tryz.ntmps158
    go_wp2_with fail
    go_ret
    exact ⟨ret_b (by first | (simp [HV.out]; done) | (rw [HV.out]; rfl)), rfl⟩
  have nb8 : (b == 8) = false := by simpa using b8
  by_cases a7 : a = 7
  · subst a7
    have HV := Lib.hid (show sticksB 7 b = true by unfold sticksB hangulB; simp [*])
    clear b1 b2 b3 b4 b5 b8
    go_enter Tryz.func158, Tryz.ntmps158
    go_wp2_with fail
    go_ret
    exact ⟨ret_b (by first | (simp [HV.out]; done) | (rw [HV.out]; rfl)), rfl⟩
  have na7 : (a == 7) = false := by simpa using a7
  by_cases a9 : a = 9
  · subst a9
    by_cases b9 : b = 9
    · subst b9
      have HV := Lib.hid (show sticksB 9 9 = true by unfold sticksB hangulB; simp [*])

      go_enter Tryz.func158, Tryz.ntmps158
      go_wp2_with fail
      go_ret
      exact ⟨ret_b (by first | (simp [HV.out]; done) | (rw [HV.out]; rfl)), rfl⟩
    have nb9 : (b == 9) = false := by simpa using b9
    by_cases b10 : b = 10
    · subst b10
      have HV := Lib.hid (show sticksB 9 10 = true by unfold sticksB hangulB; simp [*])

      go_enter Tryz.func158, Tryz.ntmps158
      go_wp2_with fail
      go_ret
      exact ⟨ret_b (by first | (simp [HV.out]; done) | (rw [HV.out]; rfl)), rfl⟩
    have nb10 : (b == 10) = false := by simpa using b10
    by_cases b12 : b = 12
    · subst b12
      have HV := Lib.hid (show sticksB 9 12 = true by unfold sticksB hangulB; simp [*])

      go_enter Tryz.func158, Tryz.ntmps158
      go_wp2_with fail
      go_ret
      exact ⟨ret_b (by first | (simp [HV.out]; done) | (rw [HV.out]; rfl)), rfl⟩
    have nb12 : (b == 12) = false := by simpa using b12
    by_cases b13 : b = 13
    · subst b13
      have HV := Lib.hid (show sticksB 9 13 = true by unfold sticksB hangulB; simp [*])

      go_enter Tryz.func158, Tryz.ntmps158
      go_wp2_with fail
      go_ret
      exact ⟨ret_b (by first | (simp [HV.out]; done) | (rw [HV.out]; rfl)), rfl⟩
    have nb13 : (b == 13) = false := by simpa using b13
    have HV := Lib.hid (show sticksB 9 b = false by unfold sticksB hangulB; simp [*])
    clear b1 b2 b3 b4 b5 b8 b9 b10 b12 b13
    go_enter Tryz.func158, Tryz.ntmps158
    go_wp2_with fail
    go_ret
    exact ⟨ret_b (by first | (simp [HV.out]; done) | (rw [HV.out]; rfl)), rfl⟩
  have na9 : (a == 9) = false := by simpa using a9
  by_cases a12 : a = 12
  · subst a12
    by_cases b10 : b = 10
    · subst b10
      have HV := Lib.hid (show sticksB 12 10 = true by unfold sticksB hangulB; simp [*])

      go_enter Tryz.func158, Tryz.ntmps158
      go_wp2_with fail
      go_ret
      exact ⟨ret_b (by first | (simp [HV.out]; done) | (rw [HV.out]; rfl)), rfl⟩
    have nb10 : (b == 10) = false := by simpa using b10
    by_cases b11 : b = 11
    · subst b11
      have HV := Lib.hid (show sticksB 12 11 = true by unfold sticksB hangulB; simp [*])

      go_enter Tryz.func158, Tryz.ntmps158
      go_wp2_with fail
      go_ret
      exact ⟨ret_b (by first | (simp [HV.out]; done) | (rw [HV.out]; rfl)), rfl⟩
    have nb11 : (b == 11) = false := by simpa using b11
    have HV := Lib.hid (show sticksB 12 b = false by unfold sticksB hangulB; simp [*])
    clear b1 b2 b3 b4 b5 b8 b10 b11
    go_enter Tryz.func158, Tryz.ntmps158
    go_wp2_with fail
    go_ret
    exact ⟨ret_b (by first | (simp [HV.out]; done) | (rw [HV.out]; rfl)), rfl⟩
  have na12 : (a == 12) = false := by simpa using a12
  by_cases a10 : a = 10
  · subst a10
    by_cases b10 : b = 10
    · subst b10
      have HV := Lib.hid (show sticksB 10 10 = true by unfold sticksB hangulB; simp [*])

      go_enter Tryz.func158, Tryz.ntmps158
      go_wp2_with fail
      go_ret
      exact ⟨ret_b (by first | (simp [HV.out]; done) | (rw [HV.out]; rfl)), rfl⟩
    have nb10 : (b == 10) = false := by simpa using b10
    by_cases b11 : b = 11
    · subst b11
      have HV := Lib.hid (show sticksB 10 11 = true by unfold sticksB hangulB; simp [*])

      go_enter Tryz.func158, Tryz.ntmps158
      go_wp2_with fail
      go_ret
      exact ⟨ret_b (by first | (simp [HV.out]; done) | (rw [HV.out]; rfl)), rfl⟩
    have nb11 : (b == 11) = false := by simpa using b11
    have HV := Lib.hid (show sticksB 10 b = false by unfold sticksB hangulB; simp [*])
    clear b1 b2 b3 b4 b5 b8 b10 b11
    go_enter Tryz.func158, Tryz.ntmps158
    go_wp2_with fail
    go_ret
    exact ⟨ret_b (by first | (simp [HV.out]; done) | (rw [HV.out]; rfl)), rfl⟩
  have na10 : (a == 10) = false := by simpa using a10
  by_cases a13 : a = 13
  · subst a13
    have HV := Lib.hid (show sticksB 13 b = decide (b = 11) by unfold sticksB hangulB; simp [*])
    clear b1 b2 b3 b4 b5 b8
    go_enter Tryz.func158, Tryz.ntmps158
    go_wp2_with fail
    go_ret
    exact ⟨ret_b (by first | (simp [HV.out]; done) | (rw [HV.out]; rfl)), rfl⟩
  have na13 : (a == 13) = false := by simpa using a13
  by_cases a11 : a = 11
  · subst a11
    have HV := Lib.hid (show sticksB 11 b = decide (b = 11) by unfold sticksB hangulB; simp [*])
    clear b1 b2 b3 b4 b5 b8
    go_enter Tryz.func158, Tryz.ntmps158
    go_wp2_with fail
    go_ret
    exact ⟨ret_b (by first | (simp [HV.out]; done) | (rw [HV.out]; rfl)), rfl⟩
  have na11 : (a == 11) = false := by simpa using a11
  have HV := Lib.hid (show sticksB a b = false by unfold sticksB hangulB; simp [*])
  clear b1 b2 b3 b4 b5 b8 a1 a2 a3 a7 a9 a12 a10 a13 a11
  go_enter Tryz.func158, Tryz.ntmps158
  go_wp2_with fail
  go_ret
  exact ⟨ret_b (by first | (simp [HV.out]; done) | (rw [HV.out]; rfl)), rfl⟩

def stV (s : St) : Value := .agg #[.bool s.some, .int .i64 s.last, .int .i64 s.pict, .int .i64 s.conj, .bool s.odd]
theorem range5 {w : World} {b : Nat} {u0 u1 u2 u3 u4 : Value} (h0 : w.cell? ⟨b, 0, none⟩ = some u0) (h1 : w.cell? ⟨b, 1, none⟩ = some u1) (h2 : w.cell? ⟨b, 2, none⟩ = some u2) (h3 : w.cell? ⟨b, 3, none⟩ = some u3) (h4 : w.cell? ⟨b, 4, none⟩ = some u4) : w.rangeAt b 0 [u0, u1, u2, u3, u4] := fun j x hx => by
  match j with
  | 0 => simp at hx; subst hx; exact h0
  | 1 => simp at hx; subst hx; exact h1
  | 2 => simp at hx; subst hx; exact h2
  | 3 => simp at hx; subst hx; exact h3
  | 4 => simp at hx; subst hx; exact h4
  | j + 5 => simp at hx
theorem row_cells {w : World} {b : Nat} {cs : Array Value} {t : TypeId} (h : w.heap[b]? = some (.cells cs t (0, 0))) {i : Nat} {v : Value} (hi : cs[i]? = some v) : w.cell? ⟨b, i, none⟩ = some v := by
  rw [cell_of_row _ _ i _ _ _ h]; simpa using hi
theorem row_warm {w : World} {b : Nat} {cs : Array Value} {t : TypeId} (h : w.heap[b]? = some (.cells cs t (0, 0))) (i : Nat) : w.frozen? ⟨b, i, none⟩ = false := by
  unfold World.frozen?; rw [h]; simp
set_option maxRecDepth 100000 in
set_option maxHeartbeats 8000000 in
theorem step_any {R : List Rw} {tp : Nat} (s : St) (r : Int) (w : World) (hT : Tb R w tp) (hr : I32 r) :
    Calls Tryz.prog 102 #[stV s, .pointer (some ⟨tp, 0, none⟩), .int .i32 r] w fun e w' => e = .returned (.tuple #[stV (nextSt (tabOf R) s r), .bool (cutB (tabOf R) s r)]) ∧ Below w.heap.size w w' := by
  obtain ⟨s0, sl, sp, sc, so⟩ := s
  have HNx := Lib.hid (show nextSt (tabOf R) ⟨s0, sl, sp, sc, so⟩ r = ⟨true, (tabOf R).b r, nextP (tabOf R) ⟨s0, sl, sp, sc, so⟩ r, nextC (tabOf R) ⟨s0, sl, sp, sc, so⟩ r, decide ((tabOf R).b r = 6) && !so⟩ from rfl)
  have HPx := Lib.hid (show nextP (tabOf R) ⟨s0, sl, sp, sc, so⟩ r = if (tabOf R).p r then 1 else if sp = 1 ∧ (tabOf R).b r = 4 then 1 else if sp = 1 ∧ (tabOf R).b r = 5 then 2 else 0 from rfl)
  have HCx := Lib.hid (show nextC (tabOf R) ⟨s0, sl, sp, sc, so⟩ r = if (tabOf R).c r = 2 then 1 else if sc ≠ 0 ∧ (tabOf R).c r = 1 then 2 else if sc ≠ 0 ∧ (tabOf R).c r = 3 then sc else 0 from rfl)
  have HUx := Lib.hid (show cutB (tabOf R) ⟨s0, sl, sp, sc, so⟩ r = (!s0 || (!sticksB sl ((tabOf R).b r) && !(decide (sp = 2) && (tabOf R).p r) && !(decide (sc = 2) && decide ((tabOf R).c r = 2)) && !(so && decide ((tabOf R).b r = 6)))) from rfl)
  unfold stV
  generalize nextSt (tabOf R) ⟨s0, sl, sp, sc, so⟩ r = nx at HNx ⊢
  generalize nextP (tabOf R) ⟨s0, sl, sp, sc, so⟩ r = np at HNx HPx
  generalize nextC (tabOf R) ⟨s0, sl, sp, sc, so⟩ r = nc at HNx HCx
  generalize cutB (tabOf R) ⟨s0, sl, sp, sc, so⟩ r = cu at HUx ⊢
  have hB0 := ((Below.refl w.heap.size w).alloc (Nat.le_refl _) (.cells #[.bool s0, .int .i64 sl, .int .i64 sp, .int .i64 sc, .bool so] 175)).alloc (by simp) (.cells #[.bool false, .int .i64 0, .int .i64 0, .int .i64 0, .bool false] 175)
  have hrA : ((w.alloc (.cells #[.bool s0, .int .i64 sl, .int .i64 sp, .int .i64 sc, .bool so] 175)).alloc (.cells #[.bool false, .int .i64 0, .int .i64 0, .int .i64 0, .bool false] 175)).heap[w.heap.size]? = some (.cells #[.bool s0, .int .i64 sl, .int .i64 sp, .int .i64 sc, .bool so] 175 (0, 0)) := by
    rw [Below.heap_alloc _ _ _ (by simp)]; exact heap_alloc_new w _
  have hrB : ((w.alloc (.cells #[.bool s0, .int .i64 sl, .int .i64 sp, .int .i64 sc, .bool so] 175)).alloc (.cells #[.bool false, .int .i64 0, .int .i64 0, .int .i64 0, .bool false] 175)).heap[w.heap.size + 1]? = some (.cells #[.bool false, .int .i64 0, .int .i64 0, .int .i64 0, .bool false] 175 (0, 0)) := by
    have := heap_alloc_new (w.alloc (.cells #[.bool s0, .int .i64 sl, .int .i64 sp, .int .i64 sc, .bool so] 175)) (.cells #[.bool false, .int .i64 0, .int .i64 0, .int .i64 0, .bool false] 175)
    rwa [show (w.alloc (.cells #[.bool s0, .int .i64 sl, .int .i64 sp, .int .i64 sc, .bool so] 175)).heap.size = w.heap.size + 1 by simp] at this
  have hsz : ((w.alloc (.cells #[.bool s0, .int .i64 sl, .int .i64 sp, .int .i64 sc, .bool so] 175)).alloc (.cells #[.bool false, .int .i64 0, .int .i64 0, .int .i64 0, .bool false] 175)).heap.size = w.heap.size + 2 := by simp
  have HB0 := Lib.hid hB0
  have HrA := Lib.hid hrA
  have HrB := Lib.hid hrB
  have Hsz := Lib.hid hsz
  have HT0 := Lib.hid (hT.below hB0)
  have HI := Lib.hid hr
  clear hT hr hB0 hrA hrB hsz
  go_enter Tryz.func102, Tryz.ntmps102
  go_wp2_with fail
  refine (HT0.out.break r HI.out).mono ?_
  rintro e w1 ⟨rfl, hB1⟩
  have HB1 := Lib.hid hB1
  have HT1 := Lib.hid (HT0.out.below hB1)
  clear hB1 HT0
  go_wp2_with fail
  refine (HT1.out.pict r HI.out).mono ?_
  rintro e w2 ⟨rfl, hB2⟩
  have HT2 := Lib.hid (HT1.out.below hB2)
  have HB2 := Lib.hid (below_trans' HB1.out hB2)
  clear hB2 HT1 HB1
  go_wp2_with fail
  refine (HT2.out.conj r HI.out).mono ?_
  rintro e w3 ⟨rfl, hB3⟩
  have hb := below_trans' HB2.out hB3
  have hs3 : w.heap.size + 2 ≤ w3.heap.size := by have := hb.size; rw [Hsz.out] at this; exact this
  have hrA := (hb.block w.heap.size (by rw [Hsz.out]; omega)).trans HrA.out
  have hrB := (hb.block (w.heap.size + 1) (by rw [Hsz.out]; omega)).trans HrB.out
  have HW3 := Lib.hid (HB0.out.trans (hb.mono HB0.out.size))
  clear hB3 hb HT2 HB2 HrA HrB Hsz HB0
  have a0 : w3.cell? ⟨w.heap.size, 0, none⟩ = some (.bool s0) := row_cells hrA rfl
  have a1 : w3.cell? ⟨w.heap.size, 1, none⟩ = some (.int .i64 sl) := row_cells hrA rfl
  have a2 : w3.cell? ⟨w.heap.size, 2, none⟩ = some (.int .i64 sp) := row_cells hrA rfl
  have a3 : w3.cell? ⟨w.heap.size, 3, none⟩ = some (.int .i64 sc) := row_cells hrA rfl
  have a4 : w3.cell? ⟨w.heap.size, 4, none⟩ = some (.bool so) := row_cells hrA rfl
  have HrB := Lib.hid hrB
  clear hrA hrB
  generalize (tabOf R).b r = b at HNx HPx HCx HUx ⊢
  generalize (tabOf R).p r = p at HPx HUx ⊢
  generalize (tabOf R).c r = c at HCx HUx ⊢
  obtain ⟨st, hst⟩ : ∃ x, x = sticksB sl b := ⟨_, rfl⟩
  have HSt := Lib.hid hst
  clear hst
  go_upto_region 2 with fail
  go_cut [11] (fun s11 wx => s11 = .bool (!st && !(decide (sp = 2) && p) && !(decide (sc = 2) && decide (c = 2)) && !(so && decide (b = 6))) ∧ wx = w3)
  case first =>
    go_wp2_with fail
    refine (sticks_any sl b w3).mono ?_
    rintro e w' ⟨rfl, rfl⟩
    rw [← HSt.out]
    cases st with
    | true =>
      go_wp2_with fail
      go_meet
      exact ⟨by simp [], rfl⟩
    | false =>
      by_cases p2 : sp = 2
      · have e_p2 : (sp == 2) = true := by simpa using p2
        have P2 := Lib.hid p2
        clear p2
        cases p with
        | true =>
          go_wp2_with fail
          go_meet
          exact ⟨by simp [P2.out], rfl⟩
        | false =>
          by_cases c2 : sc = 2
          · have e_c2 : (sc == 2) = true := by simpa using c2
            have C2 := Lib.hid c2
            clear c2
            by_cases k2 : c = 2
            · have e_k2 : (c == 2) = true := by simpa using k2
              have K2 := Lib.hid k2
              clear k2
              go_wp2_with fail
              go_meet
              exact ⟨by simp [P2.out, C2.out, K2.out], rfl⟩
            · have e_k2 : (c == 2) = false := by simpa using k2
              have K2 := Lib.hid k2
              clear k2
              cases so with
              | false =>
                go_wp2_with fail
                go_meet
                exact ⟨by simp [P2.out, C2.out, K2.out], rfl⟩
              | true =>
                by_cases b6 : b = 6
                · have e_b6 : (b == 6) = true := by simpa using b6
                  have B6 := Lib.hid b6
                  clear b6
                  go_wp2_with fail
                  go_meet
                  exact ⟨by simp [P2.out, C2.out, K2.out, B6.out], rfl⟩
                · have e_b6 : (b == 6) = false := by simpa using b6
                  have B6 := Lib.hid b6
                  clear b6
                  go_wp2_with fail
                  go_meet
                  exact ⟨by simp [P2.out, C2.out, K2.out, B6.out], rfl⟩
          · have e_c2 : (sc == 2) = false := by simpa using c2
            have C2 := Lib.hid c2
            clear c2
            cases so with
            | false =>
              go_wp2_with fail
              go_meet
              exact ⟨by simp [P2.out, C2.out], rfl⟩
            | true =>
              by_cases b6 : b = 6
              · have e_b6 : (b == 6) = true := by simpa using b6
                have B6 := Lib.hid b6
                clear b6
                go_wp2_with fail
                go_meet
                exact ⟨by simp [P2.out, C2.out, B6.out], rfl⟩
              · have e_b6 : (b == 6) = false := by simpa using b6
                have B6 := Lib.hid b6
                clear b6
                go_wp2_with fail
                go_meet
                exact ⟨by simp [P2.out, C2.out, B6.out], rfl⟩
      · have e_p2 : (sp == 2) = false := by simpa using p2
        have P2 := Lib.hid p2
        clear p2
        by_cases c2 : sc = 2
        · have e_c2 : (sc == 2) = true := by simpa using c2
          have C2 := Lib.hid c2
          clear c2
          by_cases k2 : c = 2
          · have e_k2 : (c == 2) = true := by simpa using k2
            have K2 := Lib.hid k2
            clear k2
            go_wp2_with fail
            go_meet
            exact ⟨by simp [P2.out, C2.out, K2.out], rfl⟩
          · have e_k2 : (c == 2) = false := by simpa using k2
            have K2 := Lib.hid k2
            clear k2
            cases so with
            | false =>
              go_wp2_with fail
              go_meet
              exact ⟨by simp [P2.out, C2.out, K2.out], rfl⟩
            | true =>
              by_cases b6 : b = 6
              · have e_b6 : (b == 6) = true := by simpa using b6
                have B6 := Lib.hid b6
                clear b6
                go_wp2_with fail
                go_meet
                exact ⟨by simp [P2.out, C2.out, K2.out, B6.out], rfl⟩
              · have e_b6 : (b == 6) = false := by simpa using b6
                have B6 := Lib.hid b6
                clear b6
                go_wp2_with fail
                go_meet
                exact ⟨by simp [P2.out, C2.out, K2.out, B6.out], rfl⟩
        · have e_c2 : (sc == 2) = false := by simpa using c2
          have C2 := Lib.hid c2
          clear c2
          cases so with
          | false =>
            go_wp2_with fail
            go_meet
            exact ⟨by simp [P2.out, C2.out], rfl⟩
          | true =>
            by_cases b6 : b = 6
            · have e_b6 : (b == 6) = true := by simpa using b6
              have B6 := Lib.hid b6
              clear b6
              go_wp2_with fail
              go_meet
              exact ⟨by simp [P2.out, C2.out, B6.out], rfl⟩
            · have e_b6 : (b == 6) = false := by simpa using b6
              have B6 := Lib.hid b6
              clear b6
              go_wp2_with fail
              go_meet
              exact ⟨by simp [P2.out, C2.out, B6.out], rfl⟩
  case rest =>
  obtain ⟨rfl, hw⟩ := hcut
  have hw' := hw.symm
  subst hw'
  clear hw
  have HU2 := Lib.hid (show cu = (!s0 || (!st && !(decide (sp = 2) && p) && !(decide (sc = 2) && decide (c = 2)) && !(so && decide (b = 6)))) by rw [HUx.out, HSt.out])
  clear HUx HSt
  generalize (!st && !(decide (sp = 2) && p) && !(decide (sc = 2) && decide (c = 2)) && !(so && decide (b = 6))) = X at HU2 ⊢
  go_upto_region 3 with fail
  go_cut [12] (fun s12 wx' => s12 = .pointer (some ⟨w3.heap.size, 0, none⟩) ∧ wx' = w3.alloc (.cells #[.bool true, .int .i64 b, .int .i64 0, .int .i64 0, .bool (decide (b = 6) && !so)] 175))
  case first =>
    by_cases b6 : b = 6
    · have e_b6 : (b == 6) = true := by simpa using b6
      have B6 := Lib.hid b6
      clear b6
      go_wp2_with fail
      go_meet
      exact ⟨by first | rfl | simp [B6.out], by simp [B6.out]⟩
    · have e_b6 : (b == 6) = false := by simpa using b6
      have B6 := Lib.hid b6
      clear b6
      go_wp2_with fail
      go_meet
      exact ⟨by first | rfl | simp [B6.out], by simp [B6.out]⟩
  case rest =>
  obtain ⟨rfl, rfl⟩ := hcut
  generalize hod : (decide (b = 6) && !so) = od
  have HOd := Lib.hid hod
  clear hod
  have hl1 : w.heap.size < w3.heap.size := by omega
  have hl2 : w.heap.size + 1 < w3.heap.size := by omega
  have b2 : (w3.alloc (.cells #[.bool true, .int .i64 b, .int .i64 0, .int .i64 0, .bool od] 175)).cell? ⟨w.heap.size, 2, none⟩ = some (.int .i64 sp) := (World.cell?_of_block (Below.heap_alloc _ _ _ hl1)).trans a2
  go_upto_block 0 with fail
  go_cut [] (fun wx' => wx' = w3.alloc (.cells #[.bool true, .int .i64 b, .int .i64 np, .int .i64 0, .bool od] 175))
  case first =>
    cases p with
    | true =>
      have HZ := Lib.hid (show np = 1 by rw [HPx.out]; rfl)
      go_wp2_with fail
      go_meet
      rw [HZ.out]
    | false =>
      by_cases p1 : sp = 1
      · have e_p1 : (sp == 1) = true := by simpa using p1
        have P1 := Lib.hid p1
        clear p1
        by_cases b4 : b = 4
        · have e_b4 : (b == 4) = true := by simpa using b4
          have B4 := Lib.hid b4
          clear b4
          have HZ := Lib.hid (show np = 1 by rw [HPx.out]; simp [P1.out, B4.out])
          go_wp2_with fail
          go_meet
          rw [HZ.out]
        · have e_b4 : (b == 4) = false := by simpa using b4
          have B4 := Lib.hid b4
          clear b4
          by_cases b5 : b = 5
          · have e_b5 : (b == 5) = true := by simpa using b5
            have B5 := Lib.hid b5
            clear b5
            have HZ := Lib.hid (show np = 2 by rw [HPx.out]; simp [P1.out, B5.out])
            go_wp2_with fail
            go_meet
            rw [HZ.out]
          · have e_b5 : (b == 5) = false := by simpa using b5
            have B5 := Lib.hid b5
            clear b5
            have HZ := Lib.hid (show np = 0 by rw [HPx.out]; simp [B4.out, B5.out])
            go_wp2_with fail
            go_meet
            rw [HZ.out]
      · have e_p1 : (sp == 1) = false := by simpa using p1
        have P1 := Lib.hid p1
        clear p1
        have HZ := Lib.hid (show np = 0 by rw [HPx.out]; simp [P1.out])
        go_wp2_with fail
        go_meet
        rw [HZ.out]
  case rest =>
  obtain rfl := hcut
  have b3 : (w3.alloc (.cells #[.bool true, .int .i64 b, .int .i64 np, .int .i64 0, .bool od] 175)).cell? ⟨w.heap.size, 3, none⟩ = some (.int .i64 sc) := (World.cell?_of_block (Below.heap_alloc _ _ _ hl1)).trans a3
  go_upto_block 1 with fail
  go_cut [] (fun wx' => wx' = w3.alloc (.cells #[.bool true, .int .i64 b, .int .i64 np, .int .i64 nc, .bool od] 175))
  case first =>
    by_cases k2 : c = 2
    · have e_k2 : (c == 2) = true := by simpa using k2
      have K2 := Lib.hid k2
      clear k2
      have HZ := Lib.hid (show nc = 1 by rw [HCx.out]; simp [K2.out])
      go_wp2_with fail
      go_meet
      rw [HZ.out]
    · have e_k2 : (c == 2) = false := by simpa using k2
      have K2 := Lib.hid k2
      clear k2
      by_cases z0 : sc = 0
      · have e_z0 : (sc != 0) = false := by simpa using z0
        have Z0 := Lib.hid z0
        clear z0
        have HZ := Lib.hid (show nc = 0 by rw [HCx.out]; simp [K2.out, Z0.out])
        go_wp2_with fail
        go_meet
        rw [HZ.out]
      · have e_z0 : (sc != 0) = true := by simpa using z0
        have Z0 := Lib.hid z0
        clear z0
        by_cases k1 : c = 1
        · have e_k1 : (c == 1) = true := by simpa using k1
          have K1 := Lib.hid k1
          clear k1
          have HZ := Lib.hid (show nc = 2 by rw [HCx.out]; simp [K1.out, Z0.out])
          go_wp2_with fail
          go_meet
          rw [HZ.out]
        · have e_k1 : (c == 1) = false := by simpa using k1
          have K1 := Lib.hid k1
          clear k1
          by_cases k3 : c = 3
          · have e_k3 : (c == 3) = true := by simpa using k3
            have K3 := Lib.hid k3
            clear k3
            have HZ := Lib.hid (show nc = sc by rw [HCx.out]; simp [K3.out, Z0.out])
            go_wp2_with fail
            go_meet
            rw [HZ.out]
          · have e_k3 : (c == 3) = false := by simpa using k3
            have K3 := Lib.hid k3
            clear k3
            have HZ := Lib.hid (show nc = 0 by rw [HCx.out]; simp [K1.out, K2.out, K3.out])
            go_wp2_with fail
            go_meet
            rw [HZ.out]
  case rest =>
  obtain rfl := hcut
  have x0 : (w3.alloc (.cells #[.bool true, .int .i64 b, .int .i64 np, .int .i64 nc, .bool od] 175)).cell? ⟨w.heap.size, 0, none⟩ = some (.bool s0) := (World.cell?_of_block (Below.heap_alloc _ _ _ hl1)).trans a0
  have hrW := (Below.heap_alloc w3 (.cells #[.bool true, .int .i64 b, .int .i64 np, .int .i64 nc, .bool od] 175) _ hl2).trans HrB.out
  have t0 := row_cells hrW (i := 0) rfl
  have t1 := row_cells hrW (i := 1) rfl
  have t2 := row_cells hrW (i := 2) rfl
  have t3 := row_cells hrW (i := 3) rfl
  have t4 := row_cells hrW (i := 4) rfl
  have y0 := row_warm hrW 0
  have y1 := row_warm hrW 1
  have y2 := row_warm hrW 2
  have y3 := row_warm hrW 3
  have y4 := row_warm hrW 4
  have HBW := Lib.hid (HW3.out.alloc HW3.out.size (.cells #[.bool true, .int .i64 b, .int .i64 np, .int .i64 nc, .bool od] 175))
  clear hrW a0 a1 a2 a3 a4 b2 b3 hl1 hl2
  cases s0 <;> go_wp2_with fail
  all_goals refine ret_cell_tmp (ad := ⟨w.heap.size + 1, 0, none⟩) rfl rfl rfl (run_loadVar_mid _ _ 0 _ [.bool true, .int .i64 b, .int .i64 np, .int .i64 nc, .bool od] _ (range5 (by go_simp) (by go_simp) (by go_simp) (by go_simp) (by go_simp)) Tryz.underlying175 rfl (by kernel_rfl)) rfl ⟨by rw [HNx.out, HU2.out, HOd.out]; rfl, (((((HBW.out.setCell (by simp) _).setCell (by simp) _).setCell (by simp) _).setCell (by simp) _).setCell (by simp) _)⟩
end Go.Proofs.YtkeainhjghdfcaaGreat
