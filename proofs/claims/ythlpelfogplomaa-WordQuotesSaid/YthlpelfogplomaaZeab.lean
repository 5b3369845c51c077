/- Joined texts: TokE. -/
import Derived.Test.YthlpelfogplomaaZeaa
/- The document's token: its walk. (Printed by gen_one.py.) -/
namespace Go.Proofs.Ythlpelfogplomaa
open Go.RowKit

section
variable {s : List Int} {w : World} {sv : Value}
theorem drop_cons {s : List Int} {k : Nat} {x : Int} (hx : s[k]? = some x) : s.drop k = x :: s.drop (k + 1) := by
  have h1 := List.getElem?_eq_some_iff.1 hx
  rw [List.drop_eq_getElem_cons h1.1, h1.2]
set_option maxRecDepth 100000 in
set_option maxHeartbeats 16000000 in
theorem rone_any {at' : Nat} (hs : RunesIn w sv s) (hl : s.length ≤ 100000) (hat : at' < s.length) :
    Calls Try.prog 55 #[sv, .int .i64 ((at' : Nat) : Int)] w (TokPost s at' w) := by
  have HS := Lib.hid hs
  obtain ⟨sl, cap, rfl, hcap, hmax, hxx⟩ := runes_cells hs
  unfold maxLen at hmax
  clear hs hxx
  go_enter Try.func55, Try.ntmps55
  go_wp2_with fail
  have HB0 := Lib.hid (TW.startB w 45 (at' : Int))
  have HW0 := Lib.hid (TW.start w 45 (at' : Int))
  generalize ((w.alloc (.cells #[.int .i64 0, .int .i64 0, .slice none 0 0] 45)).alloc (.cells #[.int .i64 (at' : Int), .int .i64 0, .slice none 0 0] 45)) = w5 at HB0 HW0 ⊢
  obtain ⟨h, hh⟩ : ∃ h, w.heap.size = h := ⟨_, rfl⟩
  have HH := Lib.hid hh
  rw [hh] at HB0 HW0 ⊢
  clear hh
  go_loopw [7, 8] (fun qv iv wr => ∃ (k : Nat) (q : Int) (tv : Value) (acc : List Int), k ≤ s.length ∧ qv = .int .i32 q ∧ iv = .int .i64 ((k : Nat) : Int) ∧ (q = 0 ∨ q = 34 ∨ q = 39) ∧ Below h w wr ∧ TW 45 wr h (at' : Int) 0 tv acc ∧ acc.length ≤ k ∧ oneS q acc (s.drop k) = tok [] (s.drop at')) (fun _ iv _ => s.length - (intOf iv).toNat)
  case atStart => exact ⟨at', 0, _, [], Nat.le_of_lt hat, rfl, rfl, .inl rfl, HB0.out, HW0.out, Nat.zero_le _, by unfold oneS; rw [if_pos rfl]⟩
  case round =>
    obtain ⟨k, q, tv, acc, hk, rfl, rfl, hq, hB, hW, hal, hE⟩ := hrel
    have HB := Lib.hid hB
    have HW := Lib.hid hW
    have HBw := Lib.hid (show Below w.heap.size w wr by rw [HH.out]; exact hB)
    obtain ⟨ta, tc, rfl⟩ := slice_of_owns hW.own
    have x0 := row_cells (i := 0) hW.tk rfl
    have x1 := row_cells (i := 1) hW.tk rfl
    have x2 := row_cells (i := 2) hW.tk rfl
    have z1 := row_warm hW.tk 1
    have z2 := row_warm hW.tk 2
    have y0 := row_cells (i := 0) hW.r rfl
    have y1 := row_cells (i := 1) hW.r rfl
    have y2 := row_cells (i := 2) hW.r rfl
    have v0 := row_warm hW.r 0
    have v1 := row_warm hW.r 1
    have v2 := row_warm hW.r 2
    have hhs := hW.hs
    have hbs1 : h + 2 ≤ wr.heap.size := hhs
    have hhr : h ≤ wr.heap.size := by omega
    by_cases hlt : k < s.length
    · obtain ⟨x, hx⟩ : ∃ x, s[k]? = some x := ⟨s[k], List.getElem?_eq_getElem hlt⟩
      obtain ⟨rb, roff, _, hv, _, _, _, _, l0⟩ := rune_cell (HS.out.below HBw.out) hx
      cases hv
      have hdr := drop_cons hx
      rw [hdr] at hE
      have HE := Lib.hid hE
      have HDr := Lib.hid hdr
      have e1 := IntWalk.i64_in ((k : Int) + 1) (by omega)
      have s0 : (k : Int) < (s.length : Int) := by omega
      have s1 : (0 : Int) ≤ (k : Int) := by omega
      have hbig : (acc.length + 1) * 4 ≤ 140737488355328 := by omega
      have HAl := Lib.hid hal
      clear hB hW hE hx hdr hal hhs
      rcases hq with rfl | rfl | rfl
      · by_cases h32 : x = 32
        · subst h32
          have HR := Lib.hid (show tok [] (s.drop at') = some (acc, 32 :: s.drop (k + 1)) by rw [← HE.out, one_blank (by decide)])
          have HT := Lib.hid (show s.length - (32 :: s.drop (k + 1)).length = k by rw [List.length_cons, List.length_drop]; omega)
          go_wp2_with fail
          have HW8 := Lib.hid (HW.out.setTo ((k : Nat) : Int))
          refine ret_cell_tmp (x := .bool true) (ad := ⟨h, 0, none⟩) rfl rfl rfl (run_loadVar_mid _ _ 0 _ [.int .i64 (at' : Int), .int .i64 (k : Int), .slice ta acc.length tc] _ (range3 (by go_simp) (by go_simp) (by go_simp)) Try.underlying45 rfl (by kernel_rfl)) rfl ?_
          unfold TokPost
          rw [HR.out, HH.out]
          exact ⟨_, _, _, _, _, _, rfl, (((HB.out.setCell (by show h ≤ h + 1; omega) _).setCell (Nat.le_refl _) _).setCell (Nat.le_refl _) _).setCell (Nat.le_refl _) _, rfl, rfl, by rw [HT.out], HW8.out.done _ _ _⟩
        by_cases h9 : x = 9
        · subst h9
          have HR := Lib.hid (show tok [] (s.drop at') = some (acc, 9 :: s.drop (k + 1)) by rw [← HE.out, one_blank (by decide)])
          have HT := Lib.hid (show s.length - (9 :: s.drop (k + 1)).length = k by rw [List.length_cons, List.length_drop]; omega)
          go_wp2_with fail
          have HW8 := Lib.hid (HW.out.setTo ((k : Nat) : Int))
          refine ret_cell_tmp (x := .bool true) (ad := ⟨h, 0, none⟩) rfl rfl rfl (run_loadVar_mid _ _ 0 _ [.int .i64 (at' : Int), .int .i64 (k : Int), .slice ta acc.length tc] _ (range3 (by go_simp) (by go_simp) (by go_simp)) Try.underlying45 rfl (by kernel_rfl)) rfl ?_
          unfold TokPost
          rw [HR.out, HH.out]
          exact ⟨_, _, _, _, _, _, rfl, (((HB.out.setCell (by show h ≤ h + 1; omega) _).setCell (Nat.le_refl _) _).setCell (Nat.le_refl _) _).setCell (Nat.le_refl _) _, rfl, rfl, by rw [HT.out], HW8.out.done _ _ _⟩
        have q32 : (x == 32) = false := by simpa using h32
        have q9 : (x == 9) = false := by simpa using h9
        have hbl : blkR x = false := by unfold blkR; rw [q32, q9]; rfl
        by_cases h92 : x = 92
        · subst h92
          clear q32 q9 h32 h9 hbl
          by_cases hm : k + 1 < s.length
          · obtain ⟨y, hy⟩ : ∃ y, s[k + 1]? = some y := ⟨s[k + 1], List.getElem?_eq_getElem hm⟩
            have HY := Lib.hid hy
            obtain ⟨_, _, _, hv, _, _, _, _, l1⟩ := rune_cell (HS.out.below HBw.out) hy
            cases hv
            have hd2 := drop_cons hy
            have r1 : (k : Int) + 1 < (s.length : Int) := by omega
            have r2 : (0 : Int) ≤ (k : Int) + 1 := by omega
            have r3 : ((k : Int) + 1).toNat = k + 1 := by omega
            have HD2 := Lib.hid hd2
            clear hy hd2
            have HN := Lib.hid (show oneS 0 (acc ++ [y]) (s.drop (k + 2)) = tok [] (s.drop at') by rw [← HE.out, HD2.out, one_esc])
            have hrne : rb ≠ h + 1 := by
              obtain ⟨_, _, _, hv, _, _, _, hrb', _⟩ := rune_cell HS.out HY.out
              cases hv
              have := HH.out
              omega
            have hrbs : rb < wr.heap.size := World.block_lt_of_cell? wr _ l1
            have e2 := IntWalk.i64_in ((k : Int) + 1 + 1) (by omega)
            go_upto_region 15 with fail
            refine wp_region_held_drew (S := fun w' => w'.cell? ⟨rb, roff + (k + 1), none⟩ = some (.int .i32 y)) (by kernel_rfl) l1 (fun hHeld => ?_)
            refine hd_take 0 rfl (by kernel_rfl) (by kernel_rfl) (by kernel_rfl) (fun _ _ _ h => h) (by rfl) (by intro w hSw; (try dsimp only at hSw); go_simp; first | done | with_reducible rfl) hHeld ?_
            try simp only [Act.put, List.setIfInBounds_toArray, List.set_cons_zero, List.set_cons_succ]
            refine hd_take 2 rfl (by kernel_rfl) (by kernel_rfl) (by kernel_rfl) (fun _ _ _ h => h) (by rfl) (by intro w hSw; (try dsimp only at hSw); go_simp; first | done | with_reducible rfl) hHeld ?_
            try simp only [Act.put, List.setIfInBounds_toArray, List.set_cons_zero, List.set_cons_succ]
            refine hd_take 3 rfl (by kernel_rfl) (by kernel_rfl) (by kernel_rfl) (fun _ _ _ h => h) (by rfl) (by intro w hSw; (try dsimp only at hSw); go_simp; first | done | with_reducible rfl) hHeld ?_
            try simp only [Act.put, List.setIfInBounds_toArray, List.set_cons_zero, List.set_cons_succ]
            refine hd_take 4 rfl (by kernel_rfl) (by kernel_rfl) (by kernel_rfl) (fun _ _ _ h => h) (by rfl) (by intro w hSw; (try dsimp only at hSw); go_simp; first | done | with_reducible rfl) hHeld ?_
            try simp only [Act.put, List.setIfInBounds_toArray, List.set_cons_zero, List.set_cons_succ]
            refine hd_take 5 rfl (by kernel_rfl) (by kernel_rfl) (by kernel_rfl) (fun _ _ _ h => h) (by rfl) (by intro w hSw; (try dsimp only at hSw); go_simp; first | done | with_reducible rfl) hHeld ?_
            try simp only [Act.put, List.setIfInBounds_toArray, List.set_cons_zero, List.set_cons_succ]
            refine hd_two 1 6 (by kernel_rfl) rfl rfl (fun K hK => ?_) (fun K hK => ?_)
            case' refine_1 =>
              go_simp
              refine hK.out _ _ l1 (fun hHeld => ?_)
              clear hK K
              try simp only [Act.put, List.setIfInBounds_toArray, List.set_cons_zero, List.set_cons_succ]
              refine hd_step 6 (by kernel_rfl) rfl (fun K hK => ?_)
              go_simp
              refine hK.out _ _ ((World.cell?_of_block (Below.heap_alloc wr.drew _ _ hrbs)).trans l1) (fun hHeld => ?_)
              clear hK K
              try simp only [Act.put, List.setIfInBounds_toArray, List.set_cons_zero, List.set_cons_succ]
            case' refine_2 =>
              go_simp
              refine hK.out _ _ ((World.cell?_of_block (Below.heap_alloc wr.drew _ _ hrbs)).trans l1) (fun hHeld => ?_)
              clear hK K
              try simp only [Act.put, List.setIfInBounds_toArray, List.set_cons_zero, List.set_cons_succ]
              have x2' : (wr.alloc (.cells #[.int .i32 y] 21)).drew.cell? ⟨h + 1, 2, none⟩ = some (.slice ta acc.length tc) := (World.cell?_of_block (Below.heap_alloc wr _ _ (show h + 1 < wr.heap.size by omega))).trans x2
              refine hd_step 1 (by kernel_rfl) rfl (fun K hK => ?_)
              go_simp
              refine hK.out _ _ ((World.cell?_of_block (Below.heap_alloc wr.drew _ _ hrbs)).trans l1) (fun hHeld => ?_)
              clear hK K x2'
              try simp only [Act.put, List.setIfInBounds_toArray, List.set_cons_zero, List.set_cons_succ]
            all_goals
              refine hd_step 7 (by kernel_rfl) rfl (fun K hK => ?_)
              rw [if_pos (by rfl)]
              show Oper.wp Try.prog _ _ (wr.drew.alloc (.cells #[.int .i32 y] 21)) _ _
              refine oper_app1 (base := h + 2) wr.drew (.tmp 81) (.tmp 86) _ (by rfl) ER (.slice ta acc.length tc) acc.length (acc.flatMap runeE) (by rfl) (show wr.drew.ownsRow (h + 2) 21 1 (.slice ta acc.length tc) acc.length (acc.flatMap runeE) from HW.out.own) 1 1 (runeE y) (by rfl) (by decide) rfl (by intro u hu; simp [runeE] at hu; subst hu; rfl) hbig hbs1 ?_
              intro g cp7 w7 ho7 hg7 hf7
              have HWd := Lib.hid (show TW 45 wr.drew h (at' : Int) 0 (.slice ta acc.length tc) acc from HW.out.later (below_dN (.refl _ _) 1))
              have HBd := Lib.hid (show Below h w wr.drew from below_dN HB.out 1)
              have l7 : w7.cell? ⟨rb, roff + (k + 1), none⟩ = some (.int .i32 y) := (World.cell?_of_block (hg7.block rb hrbs (fun e => by
                obtain ⟨_, _, _, hv, _, _, _, hrb', _⟩ := rune_cell HS.out HY.out
                cases hv
                have h1 := (HW.out.own.lt _ e.symm).1
                have h2 := HH.out
                omega))).trans l1
              have HW7 := Lib.hid (HWd.out.push ho7 hg7)
              have HB7 := Lib.hid (HWd.out.below HBd.out hg7 (.slice (some ⟨g, 0, none⟩) (acc.length + 1) cp7))
              have x7 := row_cells (i := 2) (HWd.out.tk7 hg7) rfl
              have z7 := row_warm (HWd.out.tk7 hg7) 2
              clear ho7 hg7 hf7 HWd HBd
              refine hK.out _ _ l7 (fun hHeld => ?_)
              clear hK K
              try simp only [Act.put, List.setIfInBounds_toArray, List.set_cons_zero, List.set_cons_succ]
              refine hd_take 8 rfl (by kernel_rfl) (by kernel_rfl) (by kernel_rfl) (fun _ _ _ h => h) (by rfl) (by intro w hSw; (try dsimp only at hSw); go_simp; first | done | with_reducible rfl) hHeld ?_
              try simp only [Act.put, List.setIfInBounds_toArray, List.set_cons_zero, List.set_cons_succ]
              refine hd_step 9 (by kernel_rfl) rfl (fun K hK => ?_)
              go_simp
              refine hK.out _ _ ((World.cell?_setCell_other _ _ _ _ (fun e => hrne (by injection e with e1; first | exact e1 | exact e1.symm))).trans l7) (fun hHeld => ?_)
              clear hK K
              try simp only [Act.put, List.setIfInBounds_toArray, List.set_cons_zero, List.set_cons_succ]
              refine wpAnyH_done (by kernel_rfl) ?_ _
              clear hHeld l7 x7 z7 l0 l1 x0 x1 x2 z1 z2 y0 y1 y2 v0 v1 v2 HB HW
              go_wp2_with fail
              go_roundw
              case rel => exact ⟨k + 2, 0, _, acc ++ [y], by omega, rfl, by go_num, by decide, HB7.out, HW7.out, by rw [List.length_append]; have := HAl.out; simp; omega, HN.out⟩
              case measure => simp [intOf] <;> omega
          · have r1 : decide ((k : Int) + 1 < (s.length : Int)) = false := decide_eq_false (by omega)
            have HR := Lib.hid (show tok [] (s.drop at') = none by rw [← HE.out, List.drop_eq_nil_of_le (by omega), one_esc0])
            go_wp2_with fail
            refine ret_cell_tmp (x := .bool false) (ad := ⟨h, 0, none⟩) rfl rfl rfl (run_loadVar_mid _ _ 0 _ [.int .i64 (at' : Int), .int .i64 0, .slice ta acc.length tc] _ (range3 (by go_simp) (by go_simp) (by go_simp)) Try.underlying45 rfl (by kernel_rfl)) rfl ?_
            unfold TokPost
            rw [HR.out, HH.out]
            exact ⟨_, _, _, _, _, _, rfl, ((HB.out.setCell (Nat.le_refl _) _).setCell (Nat.le_refl _) _).setCell (Nat.le_refl _) _, rfl⟩
        have q92 : (x == 92) = false := by simpa using h92
        by_cases h34 : x = 34
        · subst h34
          clear q32 q9 h32 h9 q92 h92
          have HN := Lib.hid (show oneS 34 acc (s.drop (k + 1)) = tok [] (s.drop at') by rw [← HE.out, one_quote hbl (by decide)])
          go_wp2_with fail
          go_roundw
          case rel => exact ⟨k + 1, 34, _, acc, by omega, rfl, by go_num, by decide, HB.out, HW.out, by have := HAl.out; omega, HN.out⟩
          case measure => simp [intOf] <;> omega
        have q34 : (x == 34) = false := by simpa using h34
        by_cases h39 : x = 39
        · subst h39
          clear q32 q9 h32 h9 q92 h92 q34 h34
          have HN := Lib.hid (show oneS 39 acc (s.drop (k + 1)) = tok [] (s.drop at') by rw [← HE.out, one_quote hbl (by decide)])
          go_wp2_with fail
          go_roundw
          case rel => exact ⟨k + 1, 39, _, acc, by omega, rfl, by go_num, by decide, HB.out, HW.out, by have := HAl.out; omega, HN.out⟩
          case measure => simp [intOf] <;> omega
        have q39 : (x == 39) = false := by simpa using h39
        have hqu : quoR x = false := by unfold quoR; rw [q39, q34]; rfl
        clear h32 h9 h34 h39
        have HN := Lib.hid (show oneS 0 (acc ++ [x]) (s.drop (k + 1)) = tok [] (s.drop at') by rw [← HE.out, one_plain hbl hqu h92])
        go_wp2_with (at_builtin; go_loud (refine wpList_app1 (base := h + 2) _ rfl (.tmp 108) (.tmp 110) _ rfl ER _ _ _ rfl HW.out.own 1 1 (runeE x) rfl (by decide) rfl (by intro u hu; simp [runeE] at hu; subst hu; rfl) hbig hbs1 ?_); intro g cp7 w7 ho7 hg7 hf7; have HW7 := Lib.hid (HW.out.push ho7 hg7); have HB7 := Lib.hid (HW.out.below HB.out hg7 (.slice (some ⟨g, 0, none⟩) (acc.length + 1) cp7)); have x7 := row_cells (i := 2) (HW.out.tk7 hg7) rfl; have z7 := row_warm (HW.out.tk7 hg7) 2; clear ho7 hg7 hf7)
        go_roundw
        case rel => exact ⟨k + 1, 0, _, acc ++ [x], by omega, rfl, by go_num, by decide, HB7.out, HW7.out, by rw [List.length_append]; have := HAl.out; simp; omega, HN.out⟩
        case measure => simp [intOf] <;> omega
      · by_cases h34 : x = 34
        · subst h34
          have HN := Lib.hid (show oneS 0 acc (s.drop (k + 1)) = tok [] (s.drop at') by rw [← HE.out, one_end (by decide)])
          go_wp2_with fail
          go_roundw
          case rel => exact ⟨k + 1, 0, _, acc, by omega, rfl, by go_num, by decide, HB.out, HW.out, by have := HAl.out; omega, HN.out⟩
          case measure => simp [intOf] <;> omega
        have q34 : (x == 34) = false := by simpa using h34
        by_cases h92 : x = 92
        · subst h92
          clear q34 h34
          by_cases hm : k + 1 < s.length
          · obtain ⟨y, hy⟩ : ∃ y, s[k + 1]? = some y := ⟨s[k + 1], List.getElem?_eq_getElem hm⟩
            have HY := Lib.hid hy
            obtain ⟨_, _, _, hv, _, _, _, _, l1⟩ := rune_cell (HS.out.below HBw.out) hy
            cases hv
            have hd2 := drop_cons hy
            have r1 : (k : Int) + 1 < (s.length : Int) := by omega
            have r2 : (0 : Int) ≤ (k : Int) + 1 := by omega
            have r3 : ((k : Int) + 1).toNat = k + 1 := by omega
            have HD2 := Lib.hid hd2
            by_cases hy34 : y = 34
            · subst hy34
              clear hy hd2
              have HN := Lib.hid (show oneS 34 (acc ++ [34]) (s.drop (k + 2)) = tok [] (s.drop at') by rw [← HE.out, HD2.out, one_escq (.inl rfl)])
              have hrne : rb ≠ h + 1 := by
                obtain ⟨_, _, _, hv, _, _, _, hrb', _⟩ := rune_cell HS.out HY.out
                cases hv
                have := HH.out
                omega
              have hrbs : rb < wr.heap.size := World.block_lt_of_cell? wr _ l1
              have e2 := IntWalk.i64_in ((k : Int) + 1 + 1) (by omega)
              go_upto_region 15 with fail
              refine wp_region_held_drew (S := fun w' => w'.cell? ⟨rb, roff + (k + 1), none⟩ = some (.int .i32 34)) (by kernel_rfl) l1 (fun hHeld => ?_)
              refine hd_take 0 rfl (by kernel_rfl) (by kernel_rfl) (by kernel_rfl) (fun _ _ _ h => h) (by rfl) (by intro w hSw; (try dsimp only at hSw); go_simp; first | done | with_reducible rfl) hHeld ?_
              try simp only [Act.put, List.setIfInBounds_toArray, List.set_cons_zero, List.set_cons_succ]
              refine hd_take 2 rfl (by kernel_rfl) (by kernel_rfl) (by kernel_rfl) (fun _ _ _ h => h) (by rfl) (by intro w hSw; (try dsimp only at hSw); go_simp; first | done | with_reducible rfl) hHeld ?_
              try simp only [Act.put, List.setIfInBounds_toArray, List.set_cons_zero, List.set_cons_succ]
              refine hd_take 3 rfl (by kernel_rfl) (by kernel_rfl) (by kernel_rfl) (fun _ _ _ h => h) (by rfl) (by intro w hSw; (try dsimp only at hSw); go_simp; first | done | with_reducible rfl) hHeld ?_
              try simp only [Act.put, List.setIfInBounds_toArray, List.set_cons_zero, List.set_cons_succ]
              refine hd_take 4 rfl (by kernel_rfl) (by kernel_rfl) (by kernel_rfl) (fun _ _ _ h => h) (by rfl) (by intro w hSw; (try dsimp only at hSw); go_simp; first | done | with_reducible rfl) hHeld ?_
              try simp only [Act.put, List.setIfInBounds_toArray, List.set_cons_zero, List.set_cons_succ]
              refine hd_take 5 rfl (by kernel_rfl) (by kernel_rfl) (by kernel_rfl) (fun _ _ _ h => h) (by rfl) (by intro w hSw; (try dsimp only at hSw); go_simp; first | done | with_reducible rfl) hHeld ?_
              try simp only [Act.put, List.setIfInBounds_toArray, List.set_cons_zero, List.set_cons_succ]
              refine hd_two 1 6 (by kernel_rfl) rfl rfl (fun K hK => ?_) (fun K hK => ?_)
              case' refine_1 =>
                go_simp
                refine hK.out _ _ l1 (fun hHeld => ?_)
                clear hK K
                try simp only [Act.put, List.setIfInBounds_toArray, List.set_cons_zero, List.set_cons_succ]
                refine hd_step 6 (by kernel_rfl) rfl (fun K hK => ?_)
                go_simp
                refine hK.out _ _ ((World.cell?_of_block (Below.heap_alloc wr.drew _ _ hrbs)).trans l1) (fun hHeld => ?_)
                clear hK K
                try simp only [Act.put, List.setIfInBounds_toArray, List.set_cons_zero, List.set_cons_succ]
              case' refine_2 =>
                go_simp
                refine hK.out _ _ ((World.cell?_of_block (Below.heap_alloc wr.drew _ _ hrbs)).trans l1) (fun hHeld => ?_)
                clear hK K
                try simp only [Act.put, List.setIfInBounds_toArray, List.set_cons_zero, List.set_cons_succ]
                have x2' : (wr.alloc (.cells #[.int .i32 34] 21)).drew.cell? ⟨h + 1, 2, none⟩ = some (.slice ta acc.length tc) := (World.cell?_of_block (Below.heap_alloc wr _ _ (show h + 1 < wr.heap.size by omega))).trans x2
                refine hd_step 1 (by kernel_rfl) rfl (fun K hK => ?_)
                go_simp
                refine hK.out _ _ ((World.cell?_of_block (Below.heap_alloc wr.drew _ _ hrbs)).trans l1) (fun hHeld => ?_)
                clear hK K x2'
                try simp only [Act.put, List.setIfInBounds_toArray, List.set_cons_zero, List.set_cons_succ]
              all_goals
                refine hd_step 7 (by kernel_rfl) rfl (fun K hK => ?_)
                rw [if_pos (by rfl)]
                show Oper.wp Try.prog _ _ (wr.drew.alloc (.cells #[.int .i32 34] 21)) _ _
                refine oper_app1 (base := h + 2) wr.drew (.tmp 81) (.tmp 86) _ (by rfl) ER (.slice ta acc.length tc) acc.length (acc.flatMap runeE) (by rfl) (show wr.drew.ownsRow (h + 2) 21 1 (.slice ta acc.length tc) acc.length (acc.flatMap runeE) from HW.out.own) 1 1 (runeE 34) (by rfl) (by decide) rfl (by intro u hu; simp [runeE] at hu; subst hu; rfl) hbig hbs1 ?_
                intro g cp7 w7 ho7 hg7 hf7
                have HWd := Lib.hid (show TW 45 wr.drew h (at' : Int) 0 (.slice ta acc.length tc) acc from HW.out.later (below_dN (.refl _ _) 1))
                have HBd := Lib.hid (show Below h w wr.drew from below_dN HB.out 1)
                have l7 : w7.cell? ⟨rb, roff + (k + 1), none⟩ = some (.int .i32 34) := (World.cell?_of_block (hg7.block rb hrbs (fun e => by
                  obtain ⟨_, _, _, hv, _, _, _, hrb', _⟩ := rune_cell HS.out HY.out
                  cases hv
                  have h1 := (HW.out.own.lt _ e.symm).1
                  have h2 := HH.out
                  omega))).trans l1
                have HW7 := Lib.hid (HWd.out.push ho7 hg7)
                have HB7 := Lib.hid (HWd.out.below HBd.out hg7 (.slice (some ⟨g, 0, none⟩) (acc.length + 1) cp7))
                have x7 := row_cells (i := 2) (HWd.out.tk7 hg7) rfl
                have z7 := row_warm (HWd.out.tk7 hg7) 2
                clear ho7 hg7 hf7 HWd HBd
                refine hK.out _ _ l7 (fun hHeld => ?_)
                clear hK K
                try simp only [Act.put, List.setIfInBounds_toArray, List.set_cons_zero, List.set_cons_succ]
                refine hd_take 8 rfl (by kernel_rfl) (by kernel_rfl) (by kernel_rfl) (fun _ _ _ h => h) (by rfl) (by intro w hSw; (try dsimp only at hSw); go_simp; first | done | with_reducible rfl) hHeld ?_
                try simp only [Act.put, List.setIfInBounds_toArray, List.set_cons_zero, List.set_cons_succ]
                refine hd_step 9 (by kernel_rfl) rfl (fun K hK => ?_)
                go_simp
                refine hK.out _ _ ((World.cell?_setCell_other _ _ _ _ (fun e => hrne (by injection e with e1; first | exact e1 | exact e1.symm))).trans l7) (fun hHeld => ?_)
                clear hK K
                try simp only [Act.put, List.setIfInBounds_toArray, List.set_cons_zero, List.set_cons_succ]
                refine wpAnyH_done (by kernel_rfl) ?_ _
                clear hHeld l7 x7 z7 l0 l1 x0 x1 x2 z1 z2 y0 y1 y2 v0 v1 v2 HB HW
                go_wp2_with fail
                go_roundw
                case rel => exact ⟨k + 2, 34, _, acc ++ [34], by omega, rfl, by go_num, by decide, HB7.out, HW7.out, by rw [List.length_append]; have := HAl.out; simp; omega, HN.out⟩
                case measure => simp [intOf] <;> omega
            by_cases hy92 : y = 92
            · subst hy92
              clear hy hd2 hy34
              have HN := Lib.hid (show oneS 34 (acc ++ [92]) (s.drop (k + 2)) = tok [] (s.drop at') by rw [← HE.out, HD2.out, one_escq (.inr rfl)])
              have hrne : rb ≠ h + 1 := by
                obtain ⟨_, _, _, hv, _, _, _, hrb', _⟩ := rune_cell HS.out HY.out
                cases hv
                have := HH.out
                omega
              have hrbs : rb < wr.heap.size := World.block_lt_of_cell? wr _ l1
              have e2 := IntWalk.i64_in ((k : Int) + 1 + 1) (by omega)
              go_upto_region 15 with fail
              refine wp_region_held_drew (S := fun w' => w'.cell? ⟨rb, roff + (k + 1), none⟩ = some (.int .i32 92)) (by kernel_rfl) l1 (fun hHeld => ?_)
              refine hd_take 0 rfl (by kernel_rfl) (by kernel_rfl) (by kernel_rfl) (fun _ _ _ h => h) (by rfl) (by intro w hSw; (try dsimp only at hSw); go_simp; first | done | with_reducible rfl) hHeld ?_
              try simp only [Act.put, List.setIfInBounds_toArray, List.set_cons_zero, List.set_cons_succ]
              refine hd_take 2 rfl (by kernel_rfl) (by kernel_rfl) (by kernel_rfl) (fun _ _ _ h => h) (by rfl) (by intro w hSw; (try dsimp only at hSw); go_simp; first | done | with_reducible rfl) hHeld ?_
              try simp only [Act.put, List.setIfInBounds_toArray, List.set_cons_zero, List.set_cons_succ]
              refine hd_take 3 rfl (by kernel_rfl) (by kernel_rfl) (by kernel_rfl) (fun _ _ _ h => h) (by rfl) (by intro w hSw; (try dsimp only at hSw); go_simp; first | done | with_reducible rfl) hHeld ?_
              try simp only [Act.put, List.setIfInBounds_toArray, List.set_cons_zero, List.set_cons_succ]
              refine hd_take 4 rfl (by kernel_rfl) (by kernel_rfl) (by kernel_rfl) (fun _ _ _ h => h) (by rfl) (by intro w hSw; (try dsimp only at hSw); go_simp; first | done | with_reducible rfl) hHeld ?_
              try simp only [Act.put, List.setIfInBounds_toArray, List.set_cons_zero, List.set_cons_succ]
              refine hd_take 5 rfl (by kernel_rfl) (by kernel_rfl) (by kernel_rfl) (fun _ _ _ h => h) (by rfl) (by intro w hSw; (try dsimp only at hSw); go_simp; first | done | with_reducible rfl) hHeld ?_
              try simp only [Act.put, List.setIfInBounds_toArray, List.set_cons_zero, List.set_cons_succ]
              refine hd_two 1 6 (by kernel_rfl) rfl rfl (fun K hK => ?_) (fun K hK => ?_)
              case' refine_1 =>
                go_simp
                refine hK.out _ _ l1 (fun hHeld => ?_)
                clear hK K
                try simp only [Act.put, List.setIfInBounds_toArray, List.set_cons_zero, List.set_cons_succ]
                refine hd_step 6 (by kernel_rfl) rfl (fun K hK => ?_)
                go_simp
                refine hK.out _ _ ((World.cell?_of_block (Below.heap_alloc wr.drew _ _ hrbs)).trans l1) (fun hHeld => ?_)
                clear hK K
                try simp only [Act.put, List.setIfInBounds_toArray, List.set_cons_zero, List.set_cons_succ]
              case' refine_2 =>
                go_simp
                refine hK.out _ _ ((World.cell?_of_block (Below.heap_alloc wr.drew _ _ hrbs)).trans l1) (fun hHeld => ?_)
                clear hK K
                try simp only [Act.put, List.setIfInBounds_toArray, List.set_cons_zero, List.set_cons_succ]
                have x2' : (wr.alloc (.cells #[.int .i32 92] 21)).drew.cell? ⟨h + 1, 2, none⟩ = some (.slice ta acc.length tc) := (World.cell?_of_block (Below.heap_alloc wr _ _ (show h + 1 < wr.heap.size by omega))).trans x2
                refine hd_step 1 (by kernel_rfl) rfl (fun K hK => ?_)
                go_simp
                refine hK.out _ _ ((World.cell?_of_block (Below.heap_alloc wr.drew _ _ hrbs)).trans l1) (fun hHeld => ?_)
                clear hK K x2'
                try simp only [Act.put, List.setIfInBounds_toArray, List.set_cons_zero, List.set_cons_succ]
              all_goals
                refine hd_step 7 (by kernel_rfl) rfl (fun K hK => ?_)
                rw [if_pos (by rfl)]
                show Oper.wp Try.prog _ _ (wr.drew.alloc (.cells #[.int .i32 92] 21)) _ _
                refine oper_app1 (base := h + 2) wr.drew (.tmp 81) (.tmp 86) _ (by rfl) ER (.slice ta acc.length tc) acc.length (acc.flatMap runeE) (by rfl) (show wr.drew.ownsRow (h + 2) 21 1 (.slice ta acc.length tc) acc.length (acc.flatMap runeE) from HW.out.own) 1 1 (runeE 92) (by rfl) (by decide) rfl (by intro u hu; simp [runeE] at hu; subst hu; rfl) hbig hbs1 ?_
                intro g cp7 w7 ho7 hg7 hf7
                have HWd := Lib.hid (show TW 45 wr.drew h (at' : Int) 0 (.slice ta acc.length tc) acc from HW.out.later (below_dN (.refl _ _) 1))
                have HBd := Lib.hid (show Below h w wr.drew from below_dN HB.out 1)
                have l7 : w7.cell? ⟨rb, roff + (k + 1), none⟩ = some (.int .i32 92) := (World.cell?_of_block (hg7.block rb hrbs (fun e => by
                  obtain ⟨_, _, _, hv, _, _, _, hrb', _⟩ := rune_cell HS.out HY.out
                  cases hv
                  have h1 := (HW.out.own.lt _ e.symm).1
                  have h2 := HH.out
                  omega))).trans l1
                have HW7 := Lib.hid (HWd.out.push ho7 hg7)
                have HB7 := Lib.hid (HWd.out.below HBd.out hg7 (.slice (some ⟨g, 0, none⟩) (acc.length + 1) cp7))
                have x7 := row_cells (i := 2) (HWd.out.tk7 hg7) rfl
                have z7 := row_warm (HWd.out.tk7 hg7) 2
                clear ho7 hg7 hf7 HWd HBd
                refine hK.out _ _ l7 (fun hHeld => ?_)
                clear hK K
                try simp only [Act.put, List.setIfInBounds_toArray, List.set_cons_zero, List.set_cons_succ]
                refine hd_take 8 rfl (by kernel_rfl) (by kernel_rfl) (by kernel_rfl) (fun _ _ _ h => h) (by rfl) (by intro w hSw; (try dsimp only at hSw); go_simp; first | done | with_reducible rfl) hHeld ?_
                try simp only [Act.put, List.setIfInBounds_toArray, List.set_cons_zero, List.set_cons_succ]
                refine hd_step 9 (by kernel_rfl) rfl (fun K hK => ?_)
                go_simp
                refine hK.out _ _ ((World.cell?_setCell_other _ _ _ _ (fun e => hrne (by injection e with e1; first | exact e1 | exact e1.symm))).trans l7) (fun hHeld => ?_)
                clear hK K
                try simp only [Act.put, List.setIfInBounds_toArray, List.set_cons_zero, List.set_cons_succ]
                refine wpAnyH_done (by kernel_rfl) ?_ _
                clear hHeld l7 x7 z7 l0 l1 x0 x1 x2 z1 z2 y0 y1 y2 v0 v1 v2 HB HW
                go_wp2_with fail
                go_roundw
                case rel => exact ⟨k + 2, 34, _, acc ++ [92], by omega, rfl, by go_num, by decide, HB7.out, HW7.out, by rw [List.length_append]; have := HAl.out; simp; omega, HN.out⟩
                case measure => simp [intOf] <;> omega
            have p34 : (y == 34) = false := by simpa using hy34
            have p92 : (y == 92) = false := by simpa using hy92
            have HN := Lib.hid (show oneS 34 (acc ++ [92]) (s.drop (k + 1)) = tok [] (s.drop at') by rw [← HE.out, one_plainq (by decide) (by decide) (by rintro ⟨_, _, z, hz, hzz⟩; rw [HD2.out] at hz; simp at hz; subst hz; rcases hzz with e | e; exact hy34 e; exact hy92 e)])
            go_wp2_with (at_builtin; go_loud (refine wpList_app1 (base := h + 2) _ rfl (.tmp 108) (.tmp 110) _ rfl ER _ _ _ rfl HW.out.own 1 1 (runeE 92) rfl (by decide) rfl (by intro u hu; simp [runeE] at hu; subst hu; rfl) hbig hbs1 ?_); intro g cp7 w7 ho7 hg7 hf7; have HW7 := Lib.hid (HW.out.push ho7 hg7); have HB7 := Lib.hid (HW.out.below HB.out hg7 (.slice (some ⟨g, 0, none⟩) (acc.length + 1) cp7)); have x7 := row_cells (i := 2) (HW.out.tk7 hg7) rfl; have z7 := row_warm (HW.out.tk7 hg7) 2; clear ho7 hg7 hf7)
            go_roundw
            case rel => exact ⟨k + 1, 34, _, acc ++ [92], by omega, rfl, by go_num, by decide, HB7.out, HW7.out, by rw [List.length_append]; have := HAl.out; simp; omega, HN.out⟩
            case measure => simp [intOf] <;> omega
          · have r1 : decide ((k : Int) + 1 < (s.length : Int)) = false := decide_eq_false (by omega)
            have HN := Lib.hid (show oneS 34 (acc ++ [92]) (s.drop (k + 1)) = tok [] (s.drop at') by rw [← HE.out, one_plainq (by decide) (by decide) (by rintro ⟨_, _, z, hz, _⟩; rw [List.drop_eq_nil_of_le (by omega)] at hz; cases hz)])
            go_wp2_with (at_builtin; go_loud (refine wpList_app1 (base := h + 2) _ rfl (.tmp 108) (.tmp 110) _ rfl ER _ _ _ rfl HW.out.own 1 1 (runeE 92) rfl (by decide) rfl (by intro u hu; simp [runeE] at hu; subst hu; rfl) hbig hbs1 ?_); intro g cp7 w7 ho7 hg7 hf7; have HW7 := Lib.hid (HW.out.push ho7 hg7); have HB7 := Lib.hid (HW.out.below HB.out hg7 (.slice (some ⟨g, 0, none⟩) (acc.length + 1) cp7)); have x7 := row_cells (i := 2) (HW.out.tk7 hg7) rfl; have z7 := row_warm (HW.out.tk7 hg7) 2; clear ho7 hg7 hf7)
            go_roundw
            case rel => exact ⟨k + 1, 34, _, acc ++ [92], by omega, rfl, by go_num, by decide, HB7.out, HW7.out, by rw [List.length_append]; have := HAl.out; simp; omega, HN.out⟩
            case measure => simp [intOf] <;> omega
        have q92 : (x == 92) = false := by simpa using h92
        have HN := Lib.hid (show oneS 34 (acc ++ [x]) (s.drop (k + 1)) = tok [] (s.drop at') by rw [← HE.out, one_plainq (by decide) h34 (by rintro ⟨e, _⟩; exact h92 e)])
        go_wp2_with (at_builtin; go_loud (refine wpList_app1 (base := h + 2) _ rfl (.tmp 108) (.tmp 110) _ rfl ER _ _ _ rfl HW.out.own 1 1 (runeE x) rfl (by decide) rfl (by intro u hu; simp [runeE] at hu; subst hu; rfl) hbig hbs1 ?_); intro g cp7 w7 ho7 hg7 hf7; have HW7 := Lib.hid (HW.out.push ho7 hg7); have HB7 := Lib.hid (HW.out.below HB.out hg7 (.slice (some ⟨g, 0, none⟩) (acc.length + 1) cp7)); have x7 := row_cells (i := 2) (HW.out.tk7 hg7) rfl; have z7 := row_warm (HW.out.tk7 hg7) 2; clear ho7 hg7 hf7)
        go_roundw
        case rel => exact ⟨k + 1, 34, _, acc ++ [x], by omega, rfl, by go_num, by decide, HB7.out, HW7.out, by rw [List.length_append]; have := HAl.out; simp; omega, HN.out⟩
        case measure => simp [intOf] <;> omega
      · by_cases h39 : x = 39
        · subst h39
          have HN := Lib.hid (show oneS 0 acc (s.drop (k + 1)) = tok [] (s.drop at') by rw [← HE.out, one_end (by decide)])
          go_wp2_with fail
          go_roundw
          case rel => exact ⟨k + 1, 0, _, acc, by omega, rfl, by go_num, by decide, HB.out, HW.out, by have := HAl.out; omega, HN.out⟩
          case measure => simp [intOf] <;> omega
        have q39 : (x == 39) = false := by simpa using h39
        have HN := Lib.hid (show oneS 39 (acc ++ [x]) (s.drop (k + 1)) = tok [] (s.drop at') by rw [← HE.out, one_plainq (by decide) h39 (by rintro ⟨_, e, _⟩; exact absurd e (by decide))])
        go_wp2_with (at_builtin; go_loud (refine wpList_app1 (base := h + 2) _ rfl (.tmp 108) (.tmp 110) _ rfl ER _ _ _ rfl HW.out.own 1 1 (runeE x) rfl (by decide) rfl (by intro u hu; simp [runeE] at hu; subst hu; rfl) hbig hbs1 ?_); intro g cp7 w7 ho7 hg7 hf7; have HW7 := Lib.hid (HW.out.push ho7 hg7); have HB7 := Lib.hid (HW.out.below HB.out hg7 (.slice (some ⟨g, 0, none⟩) (acc.length + 1) cp7)); have x7 := row_cells (i := 2) (HW.out.tk7 hg7) rfl; have z7 := row_warm (HW.out.tk7 hg7) 2; clear ho7 hg7 hf7)
        go_roundw
        case rel => exact ⟨k + 1, 39, _, acc ++ [x], by omega, rfl, by go_num, by decide, HB7.out, HW7.out, by rw [List.length_append]; have := HAl.out; simp; omega, HN.out⟩
        case measure => simp [intOf] <;> omega
    · have hke : k = s.length := by omega
      have s0 : ¬ k < s.length := hlt
      rw [hke, List.drop_length] at hE
      have HE := Lib.hid hE
      clear hB hW hE hlt hke
      rcases hq with rfl | rfl | rfl
      · have HR := Lib.hid (show tok [] (s.drop at') = some (acc, []) by rw [← HE.out, one_nil0])
        go_wp2_with fail
        have HW8 := Lib.hid (HW.out.setTo ((s.length : Nat) : Int))
        refine ret_cell_tmp (x := .bool true) (ad := ⟨h, 0, none⟩) rfl rfl rfl (run_loadVar_mid _ _ 0 _ [.int .i64 (at' : Int), .int .i64 (s.length : Int), .slice ta acc.length tc] _ (range3 (by go_simp) (by go_simp) (by go_simp)) Try.underlying45 rfl (by kernel_rfl)) rfl ?_
        unfold TokPost
        rw [HR.out, HH.out]
        exact ⟨_, _, _, _, _, _, rfl, (((HB.out.setCell (by show h ≤ h + 1; omega) _).setCell (Nat.le_refl _) _).setCell (Nat.le_refl _) _).setCell (Nat.le_refl _) _, rfl, rfl, rfl, HW8.out.done _ _ _⟩
      · have HR := Lib.hid (show tok [] (s.drop at') = none by rw [← HE.out, one_nilq (by decide)])
        go_wp2_with fail
        have HW8 := Lib.hid (HW.out.setTo ((s.length : Nat) : Int))
        refine ret_cell_tmp (x := .bool false) (ad := ⟨h, 0, none⟩) rfl rfl rfl (run_loadVar_mid _ _ 0 _ [.int .i64 (at' : Int), .int .i64 (s.length : Int), .slice ta acc.length tc] _ (range3 (by go_simp) (by go_simp) (by go_simp)) Try.underlying45 rfl (by kernel_rfl)) rfl ?_
        unfold TokPost
        rw [HR.out, HH.out]
        exact ⟨_, _, _, _, _, _, rfl, (((HB.out.setCell (by show h ≤ h + 1; omega) _).setCell (Nat.le_refl _) _).setCell (Nat.le_refl _) _).setCell (Nat.le_refl _) _, rfl⟩
      · have HR := Lib.hid (show tok [] (s.drop at') = none by rw [← HE.out, one_nilq (by decide)])
        go_wp2_with fail
        have HW8 := Lib.hid (HW.out.setTo ((s.length : Nat) : Int))
        refine ret_cell_tmp (x := .bool false) (ad := ⟨h, 0, none⟩) rfl rfl rfl (run_loadVar_mid _ _ 0 _ [.int .i64 (at' : Int), .int .i64 (s.length : Int), .slice ta acc.length tc] _ (range3 (by go_simp) (by go_simp) (by go_simp)) Try.underlying45 rfl (by kernel_rfl)) rfl ?_
        unfold TokPost
        rw [HR.out, HH.out]
        exact ⟨_, _, _, _, _, _, rfl, (((HB.out.setCell (by show h ≤ h + 1; omega) _).setCell (Nat.le_refl _) _).setCell (Nat.le_refl _) _).setCell (Nat.le_refl _) _, rfl⟩
end
end Go.Proofs.Ythlpelfogplomaa
