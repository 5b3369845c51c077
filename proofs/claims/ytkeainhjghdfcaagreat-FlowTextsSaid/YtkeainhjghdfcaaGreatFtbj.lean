/- Joined texts: FltC. -/
import Derived.Test.YtkeainhjghdfcaaGreatFtbh
import Derived.Test.YtkeainhjghdfcaaGreatFtbi
import Derived.Test.YtkeainhjghdfcaaGreatFtab

/- FlowTexts: its walk. (Printed by gen_fltlaw.py.) -/
namespace Go.Proofs.YtkeainhjghdfcaaGreat
open Go.RowKit

set_option maxRecDepth 100000 in
set_option maxHeartbeats 1000000 in
theorem ftexts_nil (tv sv : Value) {cols side : Int} (w : World) (hno : side < 0 ∨ 2 < side ∨ cols < 1 ∨ 1000 < cols) :
    Calls Tryz.prog 44 #[tv, sv, .int .i64 cols, .int .i64 side] w fun e w' => e = .returned (.slice none 0 0) ∧ w = w' := by
  have hb4 : side < 0 ∨ (¬ side < 0 ∧ 2 < side) ∨ (¬ side < 0 ∧ ¬ 2 < side ∧ cols < 1) ∨ (¬ side < 0 ∧ ¬ 2 < side ∧ ¬ cols < 1 ∧ 1000 < cols) := by omega
  clear hno
  go_enter Tryz.func44, Tryz.ntmps44
  rcases hb4 with k1 | ⟨k1, k2⟩ | ⟨k1, k2, k3⟩ | ⟨k1, k2, k3, k4⟩
  · have g5 : decide (side < 0) = true := decide_eq_true k1
    go_wp2_with fail
    go_ret
    exact ⟨rfl, rfl⟩
  · have g5 : decide (side < 0) = false := decide_eq_false k1
    have g6 : decide (side > 2) = true := decide_eq_true k2
    go_wp2_with fail
    go_ret
    exact ⟨rfl, rfl⟩
  · have g5 : decide (side < 0) = false := decide_eq_false k1
    have g6 : decide (side > 2) = false := decide_eq_false k2
    have g7 : decide (cols < 1) = true := decide_eq_true k3
    go_wp2_with fail
    go_ret
    exact ⟨rfl, rfl⟩
  · have g5 : decide (side < 0) = false := decide_eq_false k1
    have g6 : decide (side > 2) = false := decide_eq_false k2
    have g7 : decide (cols < 1) = false := decide_eq_false k3
    have g8 : decide (cols > 1000) = true := decide_eq_true k4
    go_wp2_with fail
    go_ret
    exact ⟨rfl, rfl⟩
set_option maxRecDepth 100000 in
set_option maxHeartbeats 1000000 in
theorem rtexts_nil (rv sv : Value) {cols side : Int} (w : World) (hno : side < 0 ∨ 2 < side ∨ cols < 1 ∨ 1000 < cols) :
    Calls Tryz.prog 45 #[rv, sv, .int .i64 cols, .int .i64 side] w fun e w' => e = .returned (.slice none 0 0) ∧ w = w' := by
  have hb4 : side < 0 ∨ (¬ side < 0 ∧ 2 < side) ∨ (¬ side < 0 ∧ ¬ 2 < side ∧ cols < 1) ∨ (¬ side < 0 ∧ ¬ 2 < side ∧ ¬ cols < 1 ∧ 1000 < cols) := by omega
  clear hno
  go_enter Tryz.func45, Tryz.ntmps45
  rcases hb4 with k1 | ⟨k1, k2⟩ | ⟨k1, k2, k3⟩ | ⟨k1, k2, k3, k4⟩
  · have g5 : decide (side < 0) = true := decide_eq_true k1
    go_wp2_with fail
    go_ret
    exact ⟨rfl, rfl⟩
  · have g5 : decide (side < 0) = false := decide_eq_false k1
    have g6 : decide (side > 2) = true := decide_eq_true k2
    go_wp2_with fail
    go_ret
    exact ⟨rfl, rfl⟩
  · have g5 : decide (side < 0) = false := decide_eq_false k1
    have g6 : decide (side > 2) = false := decide_eq_false k2
    have g7 : decide (cols < 1) = true := decide_eq_true k3
    go_wp2_with fail
    go_ret
    exact ⟨rfl, rfl⟩
  · have g5 : decide (side < 0) = false := decide_eq_false k1
    have g6 : decide (side > 2) = false := decide_eq_false k2
    have g7 : decide (cols < 1) = false := decide_eq_false k3
    have g8 : decide (cols > 1000) = true := decide_eq_true k4
    go_wp2_with fail
    go_ret
    exact ⟨rfl, rfl⟩
set_option maxRecDepth 100000 in
set_option maxHeartbeats 8000000 in
theorem flowTexts_any (v0 : Value) (l0 : List Int) (cols side : Int) (w : World) (hl : RunesIn w v0 l0) (hok : RunesOk l0) :
    Calls Tryz.prog 11 #[v0, .int .i64 cols, .int .i64 side] w fun e w' => e = .returned (.bool true) ∧ Below w.heap.size w w' := by
  obtain ⟨R, HFc, hrows⟩ := apiRows_any
  have HF := Lib.hid HFc
  have HRows := Lib.hid hrows
  have HTk := Lib.hid HFc.seg.tab
  have HFew := Lib.hid (few_any hl 50)
  clear HFc hrows hl
  obtain ⟨l, hll⟩ : ∃ l, l = l0.take 50 := ⟨_, rfl⟩
  rw [← hll] at HFew
  have HOk := Lib.hid (show RunesOk l by rw [hll]; exact hok.take 50)
  have hlen : l.length ≤ 50 := by rw [hll, List.length_take]; omega
  clear hll hok
  go_enter Tryz.func11, Tryz.ntmps11
  go_wp2_with fail
  refine HFew.out.mono ?_
  rintro e w' ⟨⟨sv, rfl, hS⟩, rfl⟩
  have HS := Lib.hid hS
  obtain ⟨sl, cap, rfl, _, _, _⟩ := runes_cells hS
  clear hS HFew
  go_wp2_with fail
  refine (HRows.out w).mono ?_
  rintro e w1 ⟨v, rfl, hB1, hR1⟩
  have HB1 := Lib.hid hB1
  have HR1 := Lib.hid hR1
  have HS1 := Lib.hid (HS.out.below hB1)
  clear hB1 hR1 HS
  have hcc : cols ≤ 100 ∨ (100 < cols ∧ cols ≤ 1000) ∨ (100 < cols ∧ ¬ cols ≤ 1000) := by omega
  go_upto_region 3 with fail
  go_cut [19] from 14 to 19 (fun r wx => (∃ b : Bool, r = .bool b) ∧ wx = w1)
  case first =>
    rcases hcc with hc | ⟨hc, hc2⟩ | ⟨hc, hc2⟩
    · have g3 : decide (cols > 100) = false := decide_eq_false (by omega)
      go_wp2_with fail
      go_meet
      case rel => exact ⟨⟨_, rfl⟩, rfl⟩
    · have g3 : decide (cols > 100) = true := decide_eq_true hc
      have g4 : decide (cols ≤ 1000) = true := decide_eq_true hc2
      go_wp2_with fail
      go_meet
      case rel => exact ⟨⟨_, rfl⟩, rfl⟩
    · have g3 : decide (cols > 100) = true := decide_eq_true hc
      have g4 : decide (cols ≤ 1000) = false := decide_eq_false (by omega)
      go_wp2_with fail
      go_meet
      case rel => exact ⟨⟨_, rfl⟩, rfl⟩
  case rest =>
  obtain ⟨⟨b2, hb2⟩, hw3⟩ := hcut
  subst hb2
  rw [hw3]
  clear hw3 hcc
  obtain ⟨cl, hcl⟩ : ∃ cl : Int, cl = if b2 = true then 100 else cols := ⟨_, rfl⟩
  cases b2
  all_goals
    first | rw [if_pos rfl] at hcl | rw [if_neg (by decide)] at hcl
    go_upto_region 5 with fail
    rw [← hcl]
    clear hcl
    go_wp2_with fail
    refine (build_tb v R w1 HR1.out HF.out.ok).mono ?_
    rintro e w2 ⟨tp, rfl, hB2, hT⟩
    have HT2 := Lib.hid hT
    have HR2 := Lib.hid (HR1.out.below hB2)
    have HS2 := Lib.hid (HS1.out.below hB2)
    have HB2 := Lib.hid (HB1.out.trans (hB2.mono HB1.out.size))
    clear hB2 hT
    by_cases hbad : side < 0 ∨ 2 < side ∨ cl < 1 ∨ 1000 < cl
    · go_wp2_with fail
      refine (ftexts_nil (.pointer (some ⟨tp, 0, none⟩)) (.slice sl l.length cap) w2 hbad).mono ?_
      rintro e w3 ⟨rfl, rfl⟩
      go_wp2_with fail
      refine (rtexts_nil v (.slice sl l.length cap) w2 hbad).mono ?_
      rintro e w4 ⟨rfl, rfl⟩
      clear hbad
      go_wp2_with fail
      go_loopw [10] (fun iv wr => iv = .int .i64 0 ∧ wr = w2) (fun _ _ => 0)
      case atStart => exact ⟨rfl, rfl⟩
      case round =>
        rename World => wo
        obtain ⟨rfl, rfl⟩ := hrel
        go_wp2_with fail
        refine (fin49 HB2.out).mono ?_
        rintro e w9 ⟨rfl, hB9⟩
        go_wp2_with fail
        go_ret
        exact ⟨rfl, hB9⟩
    · have h0 : side = 0 ∨ side = 1 ∨ side = 2 := by omega
      have c1 : 1 ≤ cl := by omega
      have c2 : cl ≤ 1000 := by omega
      clear hbad
      go_wp2_with fail
      refine (ftexts_any HT2.out h0 c1 c2 HS2.out HOk.out (by omega)).mono ?_
      rintro e w3 ⟨u, rfl, hB3, hO3⟩
      have HB3 := Lib.hid (HB2.out.trans (hB3.mono HB2.out.size))
      have HRt := Lib.hid (rtexts_any HTk.out h0 c1 c2 (HR2.out.below hB3) (HS2.out.below hB3) HOk.out (by omega))
      generalize textsFl R cl side l = TT at hO3 HRt
      have HU := Lib.hid (strs_of_owns hO3 rfl)
      obtain ⟨ua, uc, rfl, _, hum⟩ := strs_shape HU.out
      unfold maxLen at hum
      clear hB3 hO3 HB2 HR2 HS2 HT2 h0 c1 c2
      go_wp2_with fail
      refine HRt.out.mono ?_
      rintro e w4 ⟨u2, rfl, hB4, hO4⟩
      have HB4 := Lib.hid (HB3.out.trans (hB4.mono HB3.out.size))
      have HS4 := Lib.hid (HU.out.below hB4)
      have HU4 := Lib.hid (strs_of_owns hO4 rfl)
      obtain ⟨va, vc, rfl, _, _⟩ := strs_shape HU4.out
      clear hB4 hO4 HB3 HU HRt
      go_wp2_with fail
      go_loopw [10] (fun iv wr => ∃ k : Nat, k ≤ TT.length ∧ iv = .int .i64 ((k : Nat) : Int) ∧ Below w4.heap.size w4 wr) (fun iv _ => TT.length - (intOf iv).toNat)
      case atStart => exact ⟨0, Nat.zero_le _, rfl, .refl _ _⟩
      case round =>
        rename World => wo
        obtain ⟨k, hk, rfl, hB⟩ := hrel
        have HBo := Lib.hid hB
        by_cases hlt : k < TT.length
        · obtain ⟨t, ht⟩ : ∃ t, TT[k]? = some t := ⟨TT[k], List.getElem?_eq_getElem hlt⟩
          obtain ⟨b, off, _, hv, _, _, hcm, _, d0⟩ := strs_cell (HS4.out.below hB) ht
          cases hv
          obtain ⟨b', off', _, hv, _, _, _, _, d1⟩ := strs_cell (HU4.out.below hB) ht
          cases hv
          have e1 := IntWalk.i64_in ((k : Int) + 1) (by omega)
          have s0 : (k : Int) < (TT.length : Int) := by omega
          have s1 : (0 : Int) ≤ (k : Int) := by omega
          clear ht hB hlt hcm
          go_upto_region 12 with fail
          refine wp_region_held_drew (S := fun w' => w'.cell? ⟨b, off + k, none⟩ = some (.string t) ∧ w'.cell? ⟨b', off' + k, none⟩ = some (.string t)) (by kernel_rfl) ⟨d0, d1⟩ (fun hHeld => ?_)
          refine hd_take 0 rfl (by kernel_rfl) (by kernel_rfl) (by kernel_rfl) (fun _ _ _ h => h) (by rfl) (by intro w hSw; (try dsimp only at hSw); obtain ⟨hs1, hs2⟩ := hSw; go_simp; first | done | with_reducible rfl) hHeld ?_
          try simp only [Act.put, List.setIfInBounds_toArray, List.set_cons_zero, List.set_cons_succ]
          refine hd_take 1 rfl (by kernel_rfl) (by kernel_rfl) (by kernel_rfl) (fun _ _ _ h => h) (by rfl) (by intro w hSw; (try dsimp only at hSw); obtain ⟨hs1, hs2⟩ := hSw; go_simp; first | done | with_reducible rfl) hHeld ?_
          try simp only [Act.put, List.setIfInBounds_toArray, List.set_cons_zero, List.set_cons_succ]
          refine hd_take 2 rfl (by kernel_rfl) (by kernel_rfl) (by kernel_rfl) (fun _ _ _ h => h) (by rfl) (by intro w hSw; (try dsimp only at hSw); obtain ⟨hs1, hs2⟩ := hSw; go_simp; first | done | with_reducible rfl) hHeld ?_
          try simp only [Act.put, List.setIfInBounds_toArray, List.set_cons_zero, List.set_cons_succ]
          refine hd_take 3 rfl (by kernel_rfl) (by kernel_rfl) (by kernel_rfl) (fun _ _ _ h => h) (by rfl) (by intro w hSw; (try dsimp only at hSw); obtain ⟨hs1, hs2⟩ := hSw; go_simp; first | done | with_reducible rfl) hHeld ?_
          try simp only [Act.put, List.setIfInBounds_toArray, List.set_cons_zero, List.set_cons_succ]
          refine hd_take 4 rfl (by kernel_rfl) (by kernel_rfl) (by kernel_rfl) (fun _ _ _ h => h) (by rfl) (by intro w hSw; (try dsimp only at hSw); obtain ⟨hs1, hs2⟩ := hSw; go_simp; first | done | with_reducible rfl) hHeld ?_
          try simp only [Act.put, List.setIfInBounds_toArray, List.set_cons_zero, List.set_cons_succ]
          refine hd_take 5 rfl (by kernel_rfl) (by kernel_rfl) (by kernel_rfl) (fun _ _ _ h => h) (by rfl) (by intro w hSw; (try dsimp only at hSw); obtain ⟨hs1, hs2⟩ := hSw; go_simp; first | done | with_reducible rfl) hHeld ?_
          try simp only [Act.put, List.setIfInBounds_toArray, List.set_cons_zero, List.set_cons_succ]
          refine hd_take 6 rfl (by kernel_rfl) (by kernel_rfl) (by kernel_rfl) (fun _ _ _ h => h) (by rfl) (by intro w hSw; (try dsimp only at hSw); obtain ⟨hs1, hs2⟩ := hSw; go_simp; first | done | with_reducible rfl) hHeld ?_
          try simp only [Act.put, List.setIfInBounds_toArray, List.set_cons_zero, List.set_cons_succ]
          refine hd_take 7 rfl (by kernel_rfl) (by kernel_rfl) (by kernel_rfl) (fun _ _ _ h => h) (by rfl) (by intro w hSw; (try dsimp only at hSw); obtain ⟨hs1, hs2⟩ := hSw; go_simp; first | done | with_reducible rfl) hHeld ?_
          try simp only [Act.put, List.setIfInBounds_toArray, List.set_cons_zero, List.set_cons_succ]
          refine hd_take 8 rfl (by kernel_rfl) (by kernel_rfl) (by kernel_rfl) (fun _ _ _ h => h) (by rfl) (by intro w hSw; (try dsimp only at hSw); obtain ⟨hs1, hs2⟩ := hSw; go_simp; first | done | with_reducible rfl) hHeld ?_
          try simp only [Act.put, List.setIfInBounds_toArray, List.set_cons_zero, List.set_cons_succ]
          refine wpAnyH_done (by kernel_rfl) ?_ _
          have HB6 := Lib.hid (show Below w4.heap.size w4 wo.drew from below_dN HBo.out 1)
          clear hHeld d0 d1 HBo
          generalize wo.drew = w6 at HB6 ⊢
          go_wp2_with fail
          go_roundw
          case rel => exact ⟨k + 1, by omega, by go_num, HB6.out⟩
          case measure => simp [intOf] <;> omega
        · have s0 : ¬ k < TT.length := hlt
          clear hB hlt hk
          go_wp2_with fail
          refine (fin49 (HB4.out.trans (HBo.out.mono HB4.out.size))).mono ?_
          rintro e w9 ⟨rfl, hB9⟩
          go_wp2_with fail
          go_ret
          exact ⟨rfl, hB9⟩
end Go.Proofs.YtkeainhjghdfcaaGreat
