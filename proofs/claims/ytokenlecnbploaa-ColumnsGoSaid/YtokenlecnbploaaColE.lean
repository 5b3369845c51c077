/- Fit, and the document's Fit: the fewest rows. -/
import Derived.Test.YtokenlecnbploaaColD
namespace Go.Proofs.Ytokenlecnbploaa
open Go.RowKit

def isFit (zs : List Int) (cols : Int) (R : Nat) : Prop :=
  1 ≤ R ∧ R ≤ zs.length ∧ (∀ r, 1 ≤ r → r < R → cols < totalL (planL zs r)) ∧ (R < zs.length → totalL (planL zs R) ≤ cols)
theorem isFit_unique {zs : List Int} {cols : Int} {R S : Nat} (h : isFit zs cols R) (k : isFit zs cols S) : R = S := by
  obtain ⟨h1, h2, h3, h4⟩ := h
  obtain ⟨k1, k2, k3, k4⟩ := k
  rcases Nat.lt_trichotomy R S with hlt | he | hgt
  · have a := k3 R h1 hlt
    have b := h4 (by omega)
    omega
  · exact he
  · have a := h3 S k1 hgt
    have b := k4 (by omega)
    omega

theorem planL_narrow {zs : List Int} (h : narrow zs) (rows : Nat) (hr : 0 < rows) : narrow (planL zs rows) := by
  refine ⟨?_, fun z hz => planL_bd (by omega) zs rows (fun y hy => (h.2 y hy).2) z hz⟩
  rw [planL_len]
  have h1 := h.1
  refine Nat.le_trans ?_ h1
  rcases Nat.eq_zero_or_pos zs.length with h0 | h0
  · rw [h0, Nat.div_eq_of_lt (by omega)]; exact Nat.zero_le _
  · rw [← Nat.lt_succ_iff, Nat.div_lt_iff_lt_mul hr, Nat.succ_mul]
    have := Nat.mul_le_mul_left zs.length hr
    omega

structure FitF (w wr : World) : Prop where
  below : Below w.heap.size w wr
  size : w.heap.size + 1 ≤ wr.heap.size
  r0 : wr.cell? ⟨w.heap.size, 0, none⟩ = some (.int .i64 0)
  r1 : wr.cell? ⟨w.heap.size, 1, none⟩ = some (.slice none 0 0)
  f0 : wr.frozen? ⟨w.heap.size, 0, none⟩ = false
  f1 : wr.frozen? ⟨w.heap.size, 1, none⟩ = false
theorem FitF.stays {w wr w1 : World} (h : FitF w wr) (hb : Below wr.heap.size wr w1) : FitF w w1 := by
  have hs := h.size
  exact ⟨h.below.trans (hb.mono (by omega)), Nat.le_trans h.size hb.size, (hb.cell (p := ⟨w.heap.size, 0, none⟩) (by show w.heap.size < _; omega)).trans h.r0, (hb.cell (p := ⟨w.heap.size, 1, none⟩) (by show w.heap.size < _; omega)).trans h.r1,
    (hb.frozen (p := ⟨w.heap.size, 0, none⟩) (by show w.heap.size < _; omega)).trans h.f0, (hb.frozen (p := ⟨w.heap.size, 1, none⟩) (by show w.heap.size < _; omega)).trans h.f1⟩

/-- The result's two cells are written: what is owned lies elsewhere. -/
theorem fit_close {w W : World} {e n : Nat} {v x y : Value} {xs : List Value} (hF : FitF w W) {base : Nat} (ho : W.ownsRow base e 1 v n xs) (hb : w.heap.size < base) :
    Below w.heap.size w ((W.setCell ⟨w.heap.size, 0, none⟩ x).setCell ⟨w.heap.size, 1, none⟩ y) ∧ ((W.setCell ⟨w.heap.size, 0, none⟩ x).setCell ⟨w.heap.size, 1, none⟩ y).ownsRow w.heap.size e 1 v n xs :=
  ⟨(hF.below.setCell (p := ⟨w.heap.size, 0, none⟩) (Nat.le_refl _) _).setCell (p := ⟨w.heap.size, 1, none⟩) (Nat.le_refl _) _,
    owns_mono (ownsRow_setCell_below (ownsRow_setCell_below ho (a := ⟨w.heap.size, 0, none⟩) hb _) (a := ⟨w.heap.size, 1, none⟩) hb _) (Nat.le_of_lt hb)⟩

set_option maxRecDepth 100000 in
set_option maxHeartbeats 1000000 in
theorem fit_some (v : Value) (zs : List Int) (cols : Int) (w : World) (hR : Ri w.heap.size w v zs) (hn : narrow zs) (h0 : 0 < zs.length) :
    Calls Try.prog 21 #[v, .int .i64 cols] w fun e w' => ∃ (R : Nat) (vw : Value), e = .returned (.agg #[.int .i64 R, vw]) ∧ Below w.heap.size w w' ∧ isFit zs cols R ∧ w'.ownsRow w.heap.size 3 1 vw (planL zs R).length (ints (planL zs R)) := by
  have hR' := Lib.hid hR
  obtain ⟨a, cap, rfl, hcap, hmax, hxl, hcells⟩ := hR
  unfold maxLen at hmax
  clear hxl hcells
  have hlen := hn.1
  have hnz : ∀ z ∈ zs, 0 ≤ z := fun z hz => (hn.2 z hz).1
  have hb0 : ((zs.length : Int) == 0) = false := by simp; intro h; rw [h] at h0; simp at h0
  go_enter Try.func21, Try.ntmps21
  go_wp2
  go_loopw [5] (fun i wr => ∃ r : Nat, 1 ≤ r ∧ r ≤ zs.length ∧ i = .int .i64 r ∧ FitF w wr ∧ (∀ r', 1 ≤ r' → r' < r → cols < totalL (planL zs r'))) (fun i _ => zs.length - (intOf i).toNat)
  case atStart => exact ⟨1, Nat.le_refl _, h0, rfl, ⟨(Below.refl _ w).alloc (Nat.le_refl _) _, by simp, by go_simp, by go_simp, by go_simp, by go_simp⟩, fun r' h1 h2 => by omega⟩
  case round =>
    obtain ⟨r, hr1, hr2, rfl, hF, hall⟩ := hrel
    have HA := Lib.hid hall
    clear hall
    by_cases hlt : r < zs.length
    · go_wp2_with fail
      refine (plan_any _ zs r _ (hR'.out.below hF.below (Nat.le_refl _) |>.mono hF.below.size) hlen (by omega) (by omega) hnz).mono ?_
      rintro e w1 ⟨vw, rfl, hB1, ho⟩
      obtain ⟨va, vcap, rfl⟩ := slice_of_owns ho
      have hF1 := hF.stays hB1
      have hT := total_any r (.slice va (planL zs r).length vcap) (planL zs r)
      have hnar := planL_narrow hn r (by omega)
      have HO := Lib.hid ho
      clear ho
      by_cases hfit : totalL (planL zs r) ≤ cols
      · go_wp2_with fail
        refine (hT _ ((ri_of_owns (HO.out.alloc _)).mono (by simp)) hnar).mono ?_
        rintro e w2 ⟨rfl, hB2⟩
        have c0 : w2.cell? ⟨w1.heap.size, 0, none⟩ = some (.int .i64 r) := (hB2.cell (p := ⟨w1.heap.size, 0, none⟩) (by show w1.heap.size < _; simp)).trans (by go_simp)
        have c1 : w2.cell? ⟨w1.heap.size, 1, none⟩ = some (.slice va (planL zs r).length vcap) := (hB2.cell (p := ⟨w1.heap.size, 1, none⟩) (by show w1.heap.size < _; simp)).trans (by go_simp)
        have hB3 : Below w1.heap.size w1 w2 := ((Below.refl _ _).alloc (Nat.le_refl _) _).trans (hB2.mono (by simp))
        have hF2 := hF1.stays hB3
        obtain ⟨r0, r1, f0, f1⟩ := (⟨hF2.r0, hF2.r1, hF2.f0, hF2.f1⟩ : _ ∧ _ ∧ _ ∧ _)
        clear hT
        go_wp2
        have hcl := fit_close (x := .int .i64 r) (y := .slice va (planL zs r).length vcap) hF2 (owns_stays HO.out hB3) (by have := hF.size; omega)
        refine bodyPost_ret (v := .agg #[.int .i64 r, .slice va (planL zs r).length vcap]) (by simp [results, Try.results21, go_sem, r0, r1]) rfl ⟨r, _, rfl, hcl.1, ⟨hr1, hr2, HA.out, fun _ => hfit⟩, hcl.2⟩
      · go_wp2_with fail
        refine (hT _ ((ri_of_owns (HO.out.alloc _)).mono (by simp)) hnar).mono ?_
        rintro e w2 ⟨rfl, hB2⟩
        have c0 : w2.cell? ⟨w1.heap.size, 0, none⟩ = some (.int .i64 r) := (hB2.cell (p := ⟨w1.heap.size, 0, none⟩) (by show w1.heap.size < _; simp)).trans (by go_simp)
        have c1 : w2.cell? ⟨w1.heap.size, 1, none⟩ = some (.slice va (planL zs r).length vcap) := (hB2.cell (p := ⟨w1.heap.size, 1, none⟩) (by show w1.heap.size < _; simp)).trans (by go_simp)
        have hB3 : Below w1.heap.size w1 w2 := ((Below.refl _ _).alloc (Nat.le_refl _) _).trans (hB2.mono (by simp))
        have hF2 := hF1.stays hB3
        obtain ⟨r0, r1, f0, f1⟩ := (⟨hF2.r0, hF2.r1, hF2.f0, hF2.f1⟩ : _ ∧ _ ∧ _ ∧ _)
        clear hT
        go_wp2
        refine ⟨⟨r + 1, by omega, by omega, by go_num, hF2, ?_⟩, by simp [intOf]; omega⟩
        intro r' k1 k2
        rcases Nat.lt_or_ge r' r with k3 | k3
        · exact HA.out r' k1 k3
        · have : r' = r := by omega
          subst this
          omega
    · have hrl : r = zs.length := by omega
      subst hrl
      go_wp2_with fail
      refine (plan_any _ zs zs.length _ (hR'.out.below hF.below (Nat.le_refl _) |>.mono hF.below.size) hlen (by omega) (by omega) hnz).mono ?_
      rintro e w1 ⟨vw, rfl, hB1, ho⟩
      obtain ⟨va, vcap, rfl⟩ := slice_of_owns ho
      have hF1 := hF.stays hB1
      have HO := Lib.hid ho
      clear ho
      obtain ⟨r0, r1, f0, f1⟩ := (⟨hF1.r0, hF1.r1, hF1.f0, hF1.f1⟩ : _ ∧ _ ∧ _ ∧ _)
      go_wp2
      have hcl := fit_close (x := .int .i64 zs.length) (y := .slice va (planL zs zs.length).length vcap) hF1 HO.out (by have := hF.size; omega)
      refine bodyPost_ret (v := .agg #[.int .i64 zs.length, .slice va (planL zs zs.length).length vcap]) (by simp [results, Try.results21, go_sem, r0, r1]) rfl ⟨zs.length, _, rfl, hcl.1, ⟨hr1, hr2, HA.out, fun h => by omega⟩, hcl.2⟩

set_option maxRecDepth 100000 in
set_option maxHeartbeats 400000 in
theorem fit_nil (v : Value) (cols : Int) (w : World) (hR : Ri w.heap.size w v []) :
    Calls Try.prog 21 #[v, .int .i64 cols] w fun e w' => e = .returned (.agg #[.int .i64 0, .slice none 0 0]) ∧ Below w.heap.size w w' := by
  obtain ⟨a, cap, rfl, hcap, hmax, hxl, hcells⟩ := hR
  clear hxl hcells hmax hcap
  go_enter Try.func21, Try.ntmps21
  go_wp2
  exact bodyPost_ret (v := .agg #[.int .i64 0, .slice none 0 0]) (by simp [results, Try.results21, go_sem]) rfl ⟨rfl, (Below.refl _ w).alloc (Nat.le_refl _) _⟩

set_option maxRecDepth 100000 in
set_option maxHeartbeats 1000000 in
theorem refFit_some (v : Value) (zs : List Int) (cols : Int) (w : World) (hR : Ri w.heap.size w v zs) (hn : narrow zs) (h0 : 0 < zs.length) :
    Calls Try.prog 24 #[v, .int .i64 cols] w fun e w' => ∃ R : Nat, e = .returned (.int .i64 R) ∧ Below w.heap.size w w' ∧ isFit zs cols R := by
  have hR' := Lib.hid hR
  obtain ⟨a, cap, rfl, hcap, hmax, hxl, hcells⟩ := hR
  unfold maxLen at hmax
  clear hxl hcells
  have hlen := hn.1
  go_enter Try.func24, Try.ntmps24
  go_wp2
  go_loopw [5] (fun i wr => ∃ r : Nat, 1 ≤ r ∧ r ≤ zs.length ∧ i = .int .i64 r ∧ Below w.heap.size w wr ∧ (∀ r', 1 ≤ r' → r' < r → cols < totalL (planL zs r'))) (fun i _ => zs.length - (intOf i).toNat)
  case atStart => exact ⟨1, Nat.le_refl _, h0, rfl, Below.refl _ _, fun r' h1 h2 => by omega⟩
  case round =>
    obtain ⟨r, hr1, hr2, rfl, hB, hall⟩ := hrel
    have HA := Lib.hid hall
    clear hall
    by_cases hlt : r < zs.length
    · have hnar := planL_narrow hn r (by omega)
      by_cases hfit : totalL (planL zs r) ≤ cols
      all_goals
        go_wp2_with fail
        refine (refPlan_any _ zs r _ (hR'.out.below hB (Nat.le_refl _) |>.mono hB.size) hlen (by omega) (by omega)).mono ?_
        rintro e w1 ⟨vw, rfl, hB1, ho⟩
        go_wp2_with fail
        refine (refTotal_any _ (planL zs r) _ (ri_of_owns ho) hnar).mono ?_
        rintro e w2 ⟨rfl, rfl⟩
        have hB2 := below_trans' hB hB1
        clear ho
        go_wp2
      · go_ret
        exact ⟨r, rfl, hB2, hr1, hr2, HA.out, fun _ => hfit⟩
      · refine ⟨⟨r + 1, by omega, by omega, by go_num, hB2, ?_⟩, by simp [intOf]; omega⟩
        intro r' k1 k2
        rcases Nat.lt_or_ge r' r with k3 | k3
        · exact HA.out r' k1 k3
        · have : r' = r := by omega
          subst this
          omega
    · have hrl : r = zs.length := by omega
      subst hrl
      go_wp2
      go_ret
      exact ⟨zs.length, rfl, hB, hr1, hr2, HA.out, fun h => by omega⟩
end Go.Proofs.Ytokenlecnbploaa
