/- Joined texts: FltB. -/
import Derived.Deep.CutBlock
import Derived.Test.YtkeainhjghdfcaaGreatFtbg

/- The document's Texts of rows. (Printed by gen_rflt.py.) -/
namespace Go.Proofs.YtkeainhjghdfcaaGreat
open Go.RowKit

section
variable {R : List Rw} {s : List Int} {w : World} {sv rv : Value}
set_option maxRecDepth 100000 in
set_option maxHeartbeats 16000000 in
theorem rtexts_any (H : (tabOf R).Ok) {cols side : Int} (h0 : side = 0 ∨ side = 1 ∨ side = 2) (hc1 : 1 ≤ cols) (hc2 : cols ≤ 1000) (hR : RowsIn w rv R) (hs : RunesIn w sv s) (ok : RunesOk s) (hl : s.length ≤ 1000) :
    Calls Tryz.prog 45 #[rv, sv, .int .i64 cols, .int .i64 side] w fun e w' => ∃ u, e = .returned u ∧ Below w.heap.size w w' ∧ w'.ownsRow w.heap.size 9 1 u (textsFl R cols side s).length ((textsFl R cols side s).flatMap strE) := by
  have HR := Lib.hid hR
  have HS := Lib.hid hs
  have HOk := Lib.hid ok
  have HOf := Lib.hid (frof_any H cols hR hs ok (by omega))
  have HBd := Lib.hid (fun (i : Nat) (r : Rw3) (hr : (rowsFl R cols (clus (tabOf R) s) 0)[i]? = some r) => row_bd hr (by omega))
  have HTk := Lib.hid H
  have hcl := chain_len (rowsFl_all R cols (clus (tabOf R) s))
  have hLL : (clus (tabOf R) s).length ≤ s.length := clusN_len (tabOf R) s.length s
  obtain ⟨sl, cap, rfl, hsc, hsm, HCells⟩ := runes_cells hs
  have HCells := Lib.hid HCells
  unfold textsFl
  generalize rowsFl R cols (clus (tabOf R) s) 0 = L at HOf HBd hcl ⊢
  rw [List.length_map]
  have hLlen : L.length ≤ 1000 := by omega
  unfold maxLen at hsm
  clear hR hs ok H hcl hLL
  have g1 : decide (cols < 1) = false := decide_eq_false (by omega)
  have g2 : decide (cols > 1000) = false := decide_eq_false (by omega)
  have hs01 : side = 0 ∨ 0 < side := by omega
  have g0 : decide (side < 0) = false := decide_eq_false (by omega)
  have g0' : decide (side > 2) = false := decide_eq_false (by omega)
  go_enter Tryz.func45, Tryz.ntmps45
  go_wp2_with fail
  refine HOf.out.mono ?_
  rintro e w1 ⟨u, rfl, hB1, hX⟩
  have HX := Lib.hid hX
  have HB1 := Lib.hid hB1
  have HR1 := Lib.hid (HR.out.below hB1)
  have HS1 := Lib.hid (HS.out.below hB1)
  obtain ⟨ra, rc, rfl, _, hrm⟩ := r3_shape hX
  unfold maxLen at hrm
  clear hX hB1 HOf g1 g2 g0 g0'
  go_wp2_with fail
  go_loopw [9, 11] (fun ov iv wr => ∃ k : Nat, k ≤ L.length ∧ iv = .int .i64 ((k : Nat) : Int) ∧ Below w1.heap.size w1 wr ∧ wr.ownsRow w1.heap.size 9 1 ov k (((L.take k).map (flTx R cols side s)).flatMap strE)) (fun _ iv _ => L.length - (intOf iv).toNat)
  case atStart => exact ⟨0, Nat.zero_le _, rfl, .refl _ _, World.ownsRow_nil _ _ _ _⟩
  case round =>
    obtain ⟨k, hk, rfl, hB, hO⟩ := hrel
    have HB := Lib.hid hB
    have HO := Lib.hid hO
    obtain ⟨oa, oc, rfl⟩ := slice_of_owns hO
    clear hO
    by_cases hlt : k < L.length
    · obtain ⟨r, hr⟩ : ∃ r, L[k]? = some r := ⟨L[k], List.getElem?_eq_getElem hlt⟩
      obtain ⟨F, T, e1, e2, hFT, hTl, hw0, hw1⟩ := HBd.out k r hr
      have HTn := Lib.hid (show ((L.take (k + 1)).map (flTx R cols side s)).flatMap strE = ((L.take k).map (flTx R cols side s)).flatMap strE ++ strE (flTx R cols side s r) by rw [List.take_add_one, hr, List.map_append, List.flatMap_append]; simp)
      obtain ⟨b, off, _, hv, _, _, _, _, d0, d1, d2⟩ := r3_cells (Rw3In.below HX.out hB) hr
      cases hv
      obtain ⟨r0, r1, wd⟩ := r
      dsimp only at e1 e2 hw0 hw1 d0 d1 d2
      subst e1
      subst e2
      have HTx := Lib.hid (show flTx R cols side s ((F : Int), (T : Int), wd) = rowTx cols side wd (lineG R (clus (tabOf R) ((s.take T).drop F))) from rfl)
      obtain ⟨N, hN⟩ : ∃ N, N = roomN cols side wd := ⟨_, rfl⟩
      have HNr := Lib.hid hN
      have hNle := roomN_le (cols := cols) (side := side) hw0 (by omega)
      rw [← hN] at hNle
      have hNv := hN
      unfold roomN at hNv
      have e3 := IntWalk.i64_in (cols - wd) (by omega)
      have s0 : (k : Int) < (L.length : Int) := by omega
      have s1 : (0 : Int) ≤ (k : Int) := by omega
      have e9 := IntWalk.i64_in ((k : Int) + 1) (by omega)
      clear hr hB
      have HN0 := Lib.hid (show side = 0 → N = 0 by intro h; rw [if_pos h] at hNv; simpa using hNv)
      go_upto_if 51 with fail
      go_cut [13] from 52 to 53 (fun v wz => ∃ n : Int, v = .int .i64 n ∧ wz = wr ∧ (0 < side → n.toNat = N) ∧ n ≤ 1000)
      case first =>
        by_cases h : side = 2
        · have t2 : (side == 2) = true := by rw [h]; rfl
          have hc5 : (cols - wd).tdiv 2 ≤ 1000 ∧ -1000000001 ≤ (cols - wd).tdiv 2 ∧ (0 < side → ((cols - wd).tdiv 2).toNat = N) := by
            rw [if_neg (by omega), if_pos h] at hNv
            by_cases hc : 0 ≤ cols - wd
            · have := Int.tdiv_eq_ediv_of_nonneg (b := 2) hc
              omega
            · have h3 : (cols - wd).tdiv 2 = -((-(cols - wd)).tdiv 2) := by rw [Int.neg_tdiv, Int.neg_neg]
              have h4 := Int.tdiv_eq_ediv_of_nonneg (a := -(cols - wd)) (b := 2) (by omega)
              omega
          have HQ := Lib.hid (show (0 < side → ((cols - wd).tdiv 2).toNat = N) ∧ (cols - wd).tdiv 2 ≤ 1000 from ⟨hc5.2.2, hc5.1⟩)
          have e6 : IntKind.i64.wrap ((cols - wd).tdiv 2) = (cols - wd).tdiv 2 := IntWalk.i64_in _ (by omega)
          clear hc5 hNv hN
          go_wp2_with fail
          go_meet
          case rel => exact ⟨_, rfl, rfl, HQ.out.1, HQ.out.2⟩
        · have t2 : (side == 2) = false := by simpa using h
          have HQ := Lib.hid (show (0 < side → (cols - wd).toNat = N) ∧ cols - wd ≤ 1000 from ⟨fun hp => by rw [if_neg (by omega), if_neg (by omega)] at hNv; omega, by omega⟩)
          clear hNv hN
          go_wp2_with fail
          go_meet
          case rel => exact ⟨_, rfl, rfl, HQ.out.1, HQ.out.2⟩
      case rest =>
      obtain ⟨n, hnv, hwz, hnN, hn1⟩ := hcut
      subst hnv
      rw [hwz]
      have HNn := Lib.hid hnN
      clear hwz hnN hNv hN e3
      go_upto_block 2 with fail
      go_cut [12, 14] from 54 to 64 (fun v v14 wz => v = .string (repB N) ∧ wz = wr)
      case first =>
        go_wp2_with fail
        go_loopw [12, 14] (fun tv jv wj => ∃ j : Nat, j ≤ N ∧ jv = .int .i64 ((j : Nat) : Int) ∧ tv = .string (repB j) ∧ wj = wr) (fun _ jv _ => N - (intOf jv).toNat)
        case atStart => exact ⟨0, Nat.zero_le _, rfl, by rw [repB_zero], rfl⟩
        case round =>
          rename World => wj
          obtain ⟨j, hj, rfl, rfl, hwj⟩ := hrel
          subst hwj
          rcases hs01 with p1 | p1
          · have p2 : j = N := by have := HN0.out p1; omega
            have dj2 : decide (side > 0) = false := decide_eq_false (by omega)
            clear p1
            by_cases p3 : (j : Int) < n
            · go_wp2_with fail
              go_meet
              case rel => exact ⟨by first | rfl | rw [p2], rfl⟩
            · go_wp2_with fail
              go_meet
              case rel => exact ⟨by first | rfl | rw [p2], rfl⟩
          · have dj2 : decide (side > 0) = true := decide_eq_true p1
            by_cases p2 : j < N
            · have dj1 : (j : Int) < n := by have := HNn.out p1; omega
              have cc := run_string_add_sum (P := Tryz.prog) wj (repB j) ⟨#[32]⟩ (by rw [repB_size]; show j + 1 ≤ _; omega)
              have HS := Lib.hid (repB_succ j)
              have e7 := IntWalk.i64_in ((j : Int) + 1) (by omega)
              go_wp2_with fail
              go_roundw
              case rel => exact ⟨j + 1, by omega, by go_num, by rw [HS.out], trivial⟩
              case measure => simp [intOf] <;> omega
            · have dj1 : ¬ (j : Int) < n := by have := HNn.out p1; omega
              go_wp2_with fail
              go_meet
              case rel => exact ⟨by rw [show j = N by omega], rfl⟩
      case rest =>
      obtain ⟨hv12, hwz⟩ := hcut
      subst hv12
      rw [hwz]
      clear hwz HNn HN0 hn1
      obtain ⟨sb, soff, hsl, hsb, _⟩ := HCells.out (by omega)
      subst hsl
      have hsb5 : sb < wr.heap.size := by
        have h1 := HB1.out.size
        have h2 := HB.out.size
        omega
      have HS5 := Lib.hid (HS1.out.below HB.out)
      have HSub := Lib.hid (show RunesIn wr.drew (.slice (some ⟨sb, soff + F, none⟩) (T - F) (cap - F)) ((s.take T).drop F) from runes_sub HS5.out (i := F) (j := T) (by omega) hTl hsb5)
      have HOks := Lib.hid ((HOk.out.take T).drop F)
      have hsl2 : ((s.take T).drop F).length ≤ 1000 := by rw [List.length_drop, List.length_take]; omega
      have HLine := Lib.hid (rline_any HTk.out (show RowsIn wr.drew rv R from (HR1.out.below HB.out).drewN 1) HSub.out HOks.out (by omega))
      have hLs := lineG_sz R (clus (tabOf R) ((s.take T).drop F))
      rw [clus_flat (tabOf R) _ _ (Nat.le_refl _)] at hLs
      have hLl := lineG_take_le R ((s.take T).drop F) (clus (tabOf R) ((s.take T).drop F)).length
      rw [List.take_length] at hLl
      generalize lineG R (clus (tabOf R) ((s.take T).drop F)) = G at HLine hLs hLl HTx
      have s3 : (0 : Int) ≤ (F : Int) := by omega
      have s4 : (F : Int) ≤ (T : Int) := by omega
      have s5 : (T : Int) ≤ (cap : Int) := by omega
      have s6 : ¬ cap = F := by omega
      clear HS5 HSub HOks
      go_upto_region 16 with fail
      refine wp_region_held_drew (S := fun w' => w'.cell? ⟨b, off + k * 3, none⟩ = some (.int .i64 (F : Int)) ∧ w'.cell? ⟨b, off + k * 3 + 1, none⟩ = some (.int .i64 (T : Int))) (by kernel_rfl) ⟨d0, d1⟩ (fun hHeld => ?_)
      refine hd_take 0 rfl (by kernel_rfl) (by kernel_rfl) (by kernel_rfl) (fun _ _ _ h => h) (by rfl) (by intro w hSw; (try dsimp only at hSw); obtain ⟨hs1, hs2⟩ := hSw; go_simp; first | done | with_reducible rfl) hHeld ?_
      try simp only [Act.put, List.setIfInBounds_toArray, List.set_cons_zero, List.set_cons_succ]
      refine hd_take 1 rfl (by kernel_rfl) (by kernel_rfl) (by kernel_rfl) (fun _ _ _ h => h) (by rfl) (by intro w hSw; (try dsimp only at hSw); obtain ⟨hs1, hs2⟩ := hSw; go_simp; first | done | with_reducible rfl) hHeld ?_
      try simp only [Act.put, List.setIfInBounds_toArray, List.set_cons_zero, List.set_cons_succ]
      refine hd_take 2 rfl (by kernel_rfl) (by kernel_rfl) (by kernel_rfl) (fun _ _ _ h => h) (by rfl) (by intro w hSw; (try dsimp only at hSw); obtain ⟨hs1, hs2⟩ := hSw; go_simp; first | done | with_reducible rfl) hHeld ?_
      try simp only [Act.put, List.setIfInBounds_toArray, List.set_cons_zero, List.set_cons_succ]
      refine hd_take 3 rfl (by kernel_rfl) (by kernel_rfl) (by kernel_rfl) (fun _ _ _ h => h) (by rfl) (by intro w hSw; (try dsimp only at hSw); obtain ⟨hs1, hs2⟩ := hSw; go_simp; first | done | with_reducible rfl) hHeld ?_
      try simp only [Act.put, List.setIfInBounds_toArray, List.set_cons_zero, List.set_cons_succ]
      refine hd_take 4 rfl (by kernel_rfl) (by kernel_rfl) (by kernel_rfl) (fun _ _ _ h => h) (by rfl) (by intro w hSw; (try dsimp only at hSw); obtain ⟨hs1, hs2⟩ := hSw; go_simp; first | done | with_reducible rfl) hHeld ?_
      try simp only [Act.put, List.setIfInBounds_toArray, List.set_cons_zero, List.set_cons_succ]
      refine hd_take 5 rfl (by kernel_rfl) (by kernel_rfl) (by kernel_rfl) (fun _ _ _ h => h) (by rfl) (by intro w hSw; (try dsimp only at hSw); obtain ⟨hs1, hs2⟩ := hSw; go_simp; first | done | with_reducible rfl) hHeld ?_
      try simp only [Act.put, List.setIfInBounds_toArray, List.set_cons_zero, List.set_cons_succ]
      refine hd_take 6 rfl (by kernel_rfl) (by kernel_rfl) (by kernel_rfl) (fun _ _ _ h => h) (by rfl) (by intro w hSw; (try dsimp only at hSw); obtain ⟨hs1, hs2⟩ := hSw; go_simp; first | done | with_reducible rfl) hHeld ?_
      try simp only [Act.put, List.setIfInBounds_toArray, List.set_cons_zero, List.set_cons_succ]
      refine hd_take 7 rfl (by kernel_rfl) (by kernel_rfl) (by kernel_rfl) (fun _ _ _ h => h) (by rfl) (by intro w hSw; (try dsimp only at hSw); obtain ⟨hs1, hs2⟩ := hSw; go_simp; first | done | with_reducible rfl) hHeld ?_
      try simp only [Act.put, List.setIfInBounds_toArray, List.set_cons_zero, List.set_cons_succ]
      refine hd_take 8 rfl (by kernel_rfl) (by kernel_rfl) (by kernel_rfl) (fun _ _ _ h => h) (by rfl) (by intro w hSw; (try dsimp only at hSw); obtain ⟨hs1, hs2⟩ := hSw; go_simp; first | done | with_reducible rfl) hHeld ?_
      try simp only [Act.put, List.setIfInBounds_toArray, List.set_cons_zero, List.set_cons_succ]
      refine hd_take 9 rfl (by kernel_rfl) (by kernel_rfl) (by kernel_rfl) (fun _ _ _ h => h) (by rfl) (by intro w hSw; (try dsimp only at hSw); obtain ⟨hs1, hs2⟩ := hSw; go_simp; first | done | with_reducible rfl) hHeld ?_
      try simp only [Act.put, List.setIfInBounds_toArray, List.set_cons_zero, List.set_cons_succ]
      refine hd_take 10 rfl (by kernel_rfl) (by kernel_rfl) (by kernel_rfl) (fun _ _ _ h => h) (by rfl) (by intro w hSw; (try dsimp only at hSw); obtain ⟨hs1, hs2⟩ := hSw; go_simp; first | done | with_reducible rfl) hHeld ?_
      try simp only [Act.put, List.setIfInBounds_toArray, List.set_cons_zero, List.set_cons_succ]
      refine hd_take 11 rfl (by kernel_rfl) (by kernel_rfl) (by kernel_rfl) (fun _ _ _ h => h) (by rfl) (by intro w hSw; (try dsimp only at hSw); obtain ⟨hs1, hs2⟩ := hSw; go_simp; first | done | with_reducible rfl) hHeld ?_
      try simp only [Act.put, List.setIfInBounds_toArray, List.set_cons_zero, List.set_cons_succ]
      refine hd_take 12 rfl (by kernel_rfl) (by kernel_rfl) (by kernel_rfl) (fun _ _ _ h => h) (by rfl) (by intro w hSw; (try dsimp only at hSw); obtain ⟨hs1, hs2⟩ := hSw; go_simp; first | done | with_reducible rfl) hHeld ?_
      try simp only [Act.put, List.setIfInBounds_toArray, List.set_cons_zero, List.set_cons_succ]
      refine hd_step 13 (by kernel_rfl) rfl (fun K hK => ?_)
      go_simp
      go_at_call 30
      refine HLine.out.mono ?_
      rintro e w5 ⟨u5, a5, rfl, hB5, hG5, _⟩
      have hB5 : Below wr.heap.size wr w5 := (below_dN (.refl _ _) 1).trans hB5
      have HG := Lib.hid hG5
      clear hG5
      go_wp2_with fail
      refine hK.out _ _ ⟨cell_later hB5 d0, cell_later hB5 d1⟩ (fun hHeld => ?_)
      clear hK K
      try simp only [Act.put, List.setIfInBounds_toArray, List.set_cons_zero, List.set_cons_succ]
      refine hd_take 14 rfl (by kernel_rfl) (by kernel_rfl) (by kernel_rfl) (fun _ _ _ h => h) (by rfl) (by intro w hSw; (try dsimp only at hSw); obtain ⟨hs1, hs2⟩ := hSw; go_simp; first | done | with_reducible rfl) hHeld ?_
      try simp only [Act.put, List.setIfInBounds_toArray, List.set_cons_zero, List.set_cons_succ]
      refine hd_take 15 rfl (by kernel_rfl) (by kernel_rfl) (by kernel_rfl) (fun _ _ _ h => h) (by rfl) (by intro w hSw; (try dsimp only at hSw); obtain ⟨hs1, hs2⟩ := hSw; go_simp; first | done | with_reducible rfl) hHeld ?_
      try simp only [Act.put, List.setIfInBounds_toArray, List.set_cons_zero, List.set_cons_succ]
      refine hd_take 16 rfl (by kernel_rfl) (by kernel_rfl) (by kernel_rfl) (fun _ _ _ h => h) (by rfl) (by intro w hSw; (try dsimp only at hSw); obtain ⟨hs1, hs2⟩ := hSw; go_simp; first | done | with_reducible rfl) hHeld ?_
      try simp only [Act.put, List.setIfInBounds_toArray, List.set_cons_zero, List.set_cons_succ]
      refine hd_take 17 rfl (by kernel_rfl) (by kernel_rfl) (by kernel_rfl) (fun _ _ _ h => h) (by rfl) (by intro w hSw; (try dsimp only at hSw); obtain ⟨hs1, hs2⟩ := hSw; go_simp; first | done | with_reducible rfl) hHeld ?_
      try simp only [Act.put, List.setIfInBounds_toArray, List.set_cons_zero, List.set_cons_succ]
      refine hd_take 18 rfl (by kernel_rfl) (by kernel_rfl) (by kernel_rfl) (fun _ _ _ h => h) (by rfl) (by intro w hSw; (try dsimp only at hSw); obtain ⟨hs1, hs2⟩ := hSw; go_simp; first | done | with_reducible rfl) hHeld ?_
      try simp only [Act.put, List.setIfInBounds_toArray, List.set_cons_zero, List.set_cons_succ]
      refine wpAnyH_done (by kernel_rfl) ?_ _
      have HB5 := Lib.hid (HB.out.trans (hB5.mono HB.out.size))
      have HO5 := Lib.hid (owns_stays HO.out hB5)
      have hbs5 := HB5.out.size
      obtain ⟨ga, gc, rfl, _, hgm⟩ := gly_shape HG.out
      unfold maxLen at hgm
      clear hHeld d0 d1 d2 hB5 HB HO HLine s3 s4 s5 s6 hsb hsb5
      go_upto_block 4 with fail
      go_cut [17] from 84 to 96 (fun v wz => ∃ q : Nat, q ≤ G.length ∧ v = .int .i64 ((q : Nat) : Int) ∧ trimN G G.length = q ∧ wz = w5)
      case first =>
        go_wp2_with fail
        go_loopw [17] (fun lv wk => ∃ q : Nat, q ≤ G.length ∧ lv = .int .i64 ((q : Nat) : Int) ∧ trimN G q = trimN G G.length ∧ wk = w5) (fun lv _ => (intOf lv).toNat)
        case atStart => exact ⟨G.length, Nat.le_refl _, rfl, rfl, rfl⟩
        case round =>
          rename World => wk
          obtain ⟨q, hq, rfl, hqt, hwk⟩ := hrel
          subst hwk
          have HQt := Lib.hid hqt
          clear hqt
          have h5 : q = 0 ∨ ∃ q' g, q = q' + 1 ∧ G[q']? = some g ∧ (g.1 = ⟨#[32]⟩ ∨ g.1 ≠ ⟨#[32]⟩) := by
            rcases q with _ | q'
            · exact .inl rfl
            · exact .inr ⟨q', G[q'], rfl, List.getElem?_eq_getElem (by omega), Decidable.em _⟩
          rcases h5 with hq0 | ⟨q', g, hqq, hg, hgt⟩
          · have dq0 : decide ((q : Int) > 0) = false := decide_eq_false (by omega)
            have dq1 : ¬ 0 < q := by omega
            have HE := Lib.hid (show trimN G G.length = q by rw [← HQt.out, hq0]; rfl)
            clear hq0
            go_wp2_with fail
            go_meet
            case rel => exact ⟨q, hq, rfl, HE.out, rfl⟩
          · obtain ⟨gb, goff, _, hv, _, _, _, x0, _⟩ := gly_cells HG.out hg
            cases hv
            have dq0 : decide ((q : Int) > 0) = true := decide_eq_true (by omega)
            have dq1 : (q : Int) > 0 := by omega
            have e12 : (q : Int) - 1 = (q' : Int) := by omega
            have e11 : IntKind.i64.wrap (q' : Int) = (q' : Int) := IntWalk.i64_in _ (by omega)
            have s8 : (q' : Int) < (G.length : Int) := by omega
            have s9 : (0 : Int) ≤ (q' : Int) := by omega
            by_cases hgt2 : g.1 = ⟨#[32]⟩
            · have hn : (g.1.toList == [32]) = true := by rw [hgt2]; decide +kernel
              have HE := Lib.hid (show trimN G q' = trimN G G.length by rw [← HQt.out, hqq, trimN_blank hg hgt2])
              have hqm : q' < q := by omega
              clear hgt hg hqq
              go_wp2_with fail
              go_roundw
              case rel => exact ⟨q', by omega, rfl, HE.out, trivial⟩
              case measure => simp [intOf] <;> omega
            · have hn : (g.1.toList == [32]) = false := by
                rw [beq_eq_false_iff_ne]
                exact fun e => hgt2 (toList_inj' (e.trans (by decide +kernel)))
              have HE := Lib.hid (show trimN G G.length = q by rw [← HQt.out, hqq, trimN_full hg hgt2])
              clear hgt hg hqq hgt2
              go_wp2_with fail
              go_meet
              case rel => exact ⟨q, hq, rfl, HE.out, rfl⟩
      case rest =>
      obtain ⟨q, hq, hqv, hqt, hwz⟩ := hcut
      subst hqv
      rw [hwz]
      clear hwz
      have HTt := Lib.hid (show flTx R cols side s ((F : Int), (T : Int), wd) = catG (repB N) (G.take q) by rw [HTx.out]; unfold rowTx; rw [hqt, ← HNr.out])
      clear hqt
      go_wp2_with fail
      go_loopw [12, 18] (fun tv jv wl => ∃ j : Nat, j ≤ q ∧ jv = .int .i64 ((j : Nat) : Int) ∧ tv = .string (catG (repB N) (G.take j)) ∧ wl = w5) (fun _ jv _ => q - (intOf jv).toNat)
      case atStart => exact ⟨0, Nat.zero_le _, rfl, rfl, rfl⟩
      case round =>
        rename World => wl
        obtain ⟨j2, hj2, rfl, rfl, hwl⟩ := hrel
        subst hwl
        by_cases hjq : j2 < q
        · obtain ⟨g, hg⟩ : ∃ g, G[j2]? = some g := ⟨G[j2], List.getElem?_eq_getElem (by omega)⟩
          obtain ⟨gb, goff, _, hv, _, _, _, x0, _⟩ := gly_cells HG.out hg
          cases hv
          have hcs := catG_size (G.take j2) (repB N)
          have hst := szG_take G (j2 + 1)
          have hsx : szG (G.take (j2 + 1)) = szG (G.take j2) + g.1.size := by rw [take_snoc hg, szG_app, szG_one]
          have hrs := repB_size N
          have HCn := Lib.hid (show catG (repB N) (G.take (j2 + 1)) = catG (repB N) (G.take j2) ++ g.1 by rw [take_snoc hg, catG_snoc])
          have cc2 := run_string_add_sum (P := Tryz.prog) wl (catG (repB N) (G.take j2)) g.1 (by omega)
          have e13 := IntWalk.i64_in ((j2 : Int) + 1) (by omega)
          have s8 : (j2 : Int) < (G.length : Int) := by omega
          have s9 : (0 : Int) ≤ (j2 : Int) := by omega
          clear hg hcs hst hsx hrs
          go_wp2_with fail
          go_roundw
          case rel => exact ⟨j2 + 1, by omega, by go_num, by rw [HCn.out], trivial⟩
          case measure => simp [intOf] <;> omega
        · have hje : j2 = q := by omega
          subst hje
          have hbig : (k + 1) * 16 ≤ 140737488355328 := by omega
          generalize catG (repB N) (G.take j2) = tt at HTt ⊢
          clear hjq hj2
          go_wp2_with (at_builtin; go_loud (refine wpList_app1 _ rfl (.tmp 109) (.tmp 111) _ rfl EStr _ _ _ rfl HO5.out 1 1 (strE tt) rfl (by decide) rfl (strE_one _) hbig hbs5 ?_); intro g9 cp9 w9 ho9 hg9 hf9; have HB9 := Lib.hid (below_app HB5.out hbs5 HO5.out (Nat.le_refl _) hg9); have HO9 := Lib.hid ho9; clear ho9 hg9 hf9)
          go_roundw
          case rel => exact ⟨k + 1, by omega, by go_num, HB9.out, by rw [HTn.out, HTt.out]; exact HO9.out⟩
          case measure => simp [intOf] <;> omega
    · have hke : k = L.length := by omega
      subst hke
      have hOe := HO.out
      rw [List.take_length] at hOe
      have HOe := Lib.hid hOe
      have s0 : ¬ L.length < L.length := hlt
      clear hOe HO hB hlt hk h0
      go_wp2_with fail
      go_ret
      exact ⟨_, rfl, HB1.out.trans (HB.out.mono HB1.out.size), owns_lower HOe.out HB1.out.size⟩
end
end Go.Proofs.YtkeainhjghdfcaaGreat
