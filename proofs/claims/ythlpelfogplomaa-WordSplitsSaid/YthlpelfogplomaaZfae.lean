/- Joined texts: TokC. -/
import Derived.Test.YthlpelfogplomaaZfaa
/- The document's Quote: its walk. -/
namespace Go.Proofs.Ythlpelfogplomaa
open Go.RowKit

section
variable {s : List Int} {w : World} {sv : Value}
set_option maxRecDepth 100000 in
set_option maxHeartbeats 16000000 in
theorem rquote_any (hs : RunesIn w sv s) (hl : s.length ≤ 100000) :
    Calls Try.prog 21 #[sv] w fun e w' => ∃ u, e = .returned u ∧ Below w.heap.size w w' ∧ RunesIn w' u (quoteF s) := by
  have HS := Lib.hid hs
  obtain ⟨sl, cap, rfl, hcap, hmax, hxx⟩ := runes_cells hs
  unfold maxLen at hmax
  clear hs hxx
  obtain ⟨b0, hb0⟩ : ∃ b0, b0 = decide (0 < s.length) := ⟨_, rfl⟩
  have HB0 := Lib.hid hb0
  have g0 : decide ((s.length : Int) > 0) = b0 := by rw [hb0]; rw [decide_eq_decide]; omega
  have g0n : decide (0 < s.length) = b0 := hb0.symm
  clear hb0
  go_enter Try.func21, Try.ntmps21
  go_wp2_with (at_builtin; go_loud (refine wpList_app1 (base := w.heap.size) _ rfl (.tmp 10) (.tmp 11) _ rfl ER (.slice none 0 0) 0 [] rfl (World.ownsRow_nil w w.heap.size 21 1) 1 1 (runeE 39) rfl (by decide) rfl (by intro u hu; simp [runeE] at hu; subst hu; rfl) (by omega) (Nat.le_refl _) ?_); intro g cp1 w1 ho1 hg1 hf1; have HB1 := Lib.hid (below_app (.refl w.heap.size w) (Nat.le_refl _) (World.ownsRow_nil w w.heap.size 21 1) (Nat.le_refl _) hg1); have HO1 := Lib.hid ho1; clear ho1 hg1 hf1)
  go_loopw [3, 4, 5] (fun pv ov iv wr => ∃ (k : Nat) (b : Bool) (o : List Int), k ≤ s.length ∧ pv = .bool b ∧ iv = .int .i64 ((k : Nat) : Int) ∧ Below w.heap.size w wr ∧ wr.ownsRow w.heap.size 21 1 ov o.length (o.flatMap runeE) ∧ o = [39] ++ (s.take k).flatMap qOf ∧ o.length ≤ 1 + 4 * k ∧ b = (b0 && (s.take k).all bareR)) (fun _ _ iv _ => s.length - (intOf iv).toNat)
  case atStart => exact ⟨0, b0, [39], Nat.zero_le _, rfl, rfl, HB1.out, HO1.out, rfl, by simp, by simp⟩
  case round =>
    obtain ⟨k, b, o, hk, rfl, rfl, hB, hO, ho, hol, hb⟩ := hrel
    have HB := Lib.hid hB
    have HO := Lib.hid hO
    obtain ⟨pa, pc, rfl⟩ := slice_of_owns hO
    have hbs := hB.size
    by_cases hlt : k < s.length
    · obtain ⟨x, hx⟩ : ∃ x, s[k]? = some x := ⟨s[k], List.getElem?_eq_getElem hlt⟩
      have HNo := Lib.hid (show [39] ++ (s.take (k + 1)).flatMap qOf = o ++ qOf x by
        rw [List.take_add_one, hx, List.flatMap_append, ← List.append_assoc, ← ho]
        simp)
      have HNb := Lib.hid (show (b0 && (s.take (k + 1)).all bareR) = (b && bareR x) by
        rw [List.take_add_one, hx, List.all_append, ← Bool.and_assoc, ← hb]
        simp)
      obtain ⟨rb, roff, _, hv, _, _, _, _, l0⟩ := rune_cell (HS.out.below hB) hx
      cases hv
      have e1 := IntWalk.i64_in ((k : Int) + 1) (by omega)
      have s0 : (k : Int) < (s.length : Int) := by omega
      have s1 : (0 : Int) ≤ (k : Int) := by omega
      have hbig : (o.length + 2) * 4 ≤ 140737488355328 := by omega
      have hbig1 : (o.length + 1) * 4 ≤ 140737488355328 := by omega
      have hbig2 : (o.length + 2 + 1) * 4 ≤ 140737488355328 := by omega
      have hbig3 : (o.length + 2 + 1 + 1) * 4 ≤ 140737488355328 := by omega
      clear hB hO ho hx hlt hb
      have h0 : x ≤ 44 ∨ (45 ≤ x ∧ x ≤ 57) ∨ (58 ≤ x ∧ x ≤ 64) ∨ (65 ≤ x ∧ x ≤ 90) ∨ (91 ≤ x ∧ x ≤ 94) ∨ (95 ≤ x ∧ x ≤ 95) ∨ (96 ≤ x ∧ x ≤ 96) ∨ (97 ≤ x ∧ x ≤ 122) ∨ 123 ≤ x := by omega
      rcases h0 with h | h | h | h | h | h | h | h | h
      · have HV := Lib.hid (show bareR x = false by unfold bareR; rw [Bool.eq_false_iff]; intro h; simp at h; omega)
        have g97 : decide (x ≥ 97) = false := decide_eq_false (by omega)
        have g65 : decide (x ≥ 65) = false := decide_eq_false (by omega)
        have g45 : decide (x ≥ 45) = false := decide_eq_false (by omega)
        have l122 : x ≤ 122 := by omega
        have l90 : x ≤ 90 := by omega
        have l57 : x ≤ 57 := by omega
        have q95 : (x == 95) = false := by rw [beq_eq_false_iff_ne]; omega
        clear h
        go_upto_region 10 with fail
        have HN := Lib.hid (show false = (b0 && (s.take (k + 1)).all bareR) by rw [HNb.out, HV.out, Bool.and_false])
        clear g97 g65 g45 l122 l90 l57 q95
        obtain ⟨b', hb'⟩ : ∃ b', b' = false := ⟨_, rfl⟩
        rw [← hb'] at HN
        subst hb'
        by_cases h39 : x = 39
        · have q39 : (x == 39) = true := by simpa using h39
          have HQx := Lib.hid (show qOf x = [39, 92] ++ [39] ++ [x] by unfold qOf; rw [if_pos h39, h39]; rfl)
          clear h39
          go_wp2_with (first
            | (at_builtin; go_loud (refine wpList_app1 _ rfl (.tmp 52) (.tmp 53) _ rfl ER _ _ _ rfl HO.out 2 2 (([39, 92] : List Int).flatMap runeE) rfl (by decide) rfl (runeE_one _) hbig hbs ?_); intro g cp7 w7 ho7 hg7 hf7; have HB7 := Lib.hid (below_app HB.out hbs HO.out (Nat.le_refl _) hg7); have HO7 := Lib.hid ho7; have hbs7 := HB7.out.size; clear ho7 hg7 hf7)
            | (at_builtin; go_loud (refine wpList_app1 _ rfl (.tmp 55) (.tmp 56) _ rfl ER _ _ _ rfl HO7.out 1 1 (runeE 39) rfl (by decide) rfl (by intro u hu; simp [runeE] at hu; subst hu; rfl) hbig2 hbs7 ?_); intro g8 cp8 w8 ho8 hg8 hf8; have HB8 := Lib.hid (below_app HB7.out hbs7 HO7.out (Nat.le_refl _) hg8); have HO8 := Lib.hid ho8; have hbs8 := HB8.out.size; clear ho8 hg8 hf8)
            | (at_builtin; go_loud (refine wpList_app1 _ rfl (.tmp 58) (.tmp 60) _ rfl ER _ _ _ rfl HO8.out 1 1 (runeE x) rfl (by decide) rfl (by intro u hu; simp [runeE] at hu; subst hu; rfl) hbig3 hbs8 ?_); intro g9 cp9 w9 ho9 hg9 hf9; have HB9 := Lib.hid (below_app HB8.out hbs8 HO8.out (Nat.le_refl _) hg9); have HO9 := Lib.hid ho9; clear ho9 hg9 hf9)
            | fail)
          go_roundw
          case rel =>
            refine ⟨k + 1, false, o ++ [39, 92] ++ [39] ++ [x], by omega, rfl, by go_num, HB9.out, ?_, by rw [HNo.out, HQx.out]; simp, by simp; omega, HN.out⟩
            have h := HO9.out
            have e1 : (o ++ [39, 92] ++ [39] ++ [x]).length = o.length + 2 + 1 + 1 := by simp
            have e2 : (o ++ [39, 92] ++ [39] ++ [x]).flatMap runeE = o.flatMap runeE ++ ([39, 92] : List Int).flatMap runeE ++ runeE 39 ++ runeE x := by
              rw [List.flatMap_append, List.flatMap_append, List.flatMap_append]
              simp
            rw [e1, e2]
            exact h
          case measure => simp [intOf] <;> omega
        · have q39 : (x == 39) = false := by simpa using h39
          have HQx := Lib.hid (show qOf x = [x] by unfold qOf; rw [if_neg h39])
          clear h39
          go_wp2_with (at_builtin; go_loud (refine wpList_app1 _ rfl (.tmp 58) (.tmp 60) _ rfl ER _ _ _ rfl HO.out 1 1 (runeE x) rfl (by decide) rfl (by intro u hu; simp [runeE] at hu; subst hu; rfl) hbig1 hbs ?_); intro g cp7 w7 ho7 hg7 hf7; have HB7 := Lib.hid (below_app HB.out hbs HO.out (Nat.le_refl _) hg7); have HO7 := Lib.hid ho7; clear ho7 hg7 hf7)
          go_roundw
          case rel => exact ⟨k + 1, false, o ++ [x], by omega, rfl, by go_num, HB7.out, by rw [List.length_append, flat_snoc]; exact HO7.out, by rw [HNo.out, HQx.out], by rw [List.length_append]; simp; omega, HN.out⟩
          case measure => simp [intOf] <;> omega
      · have HV := Lib.hid (show bareR x = true by unfold bareR; simp; omega)
        have g97 : decide (x ≥ 97) = false := decide_eq_false (by omega)
        have g65 : decide (x ≥ 65) = false := decide_eq_false (by omega)
        have g45 : x ≥ 45 := by omega
        have l122 : x ≤ 122 := by omega
        have l90 : x ≤ 90 := by omega
        have l57 : x ≤ 57 := by omega
        have q95 : (x == 95) = false := by rw [beq_eq_false_iff_ne]; omega
        clear h
        go_upto_region 10 with fail
        have HN := Lib.hid (show b = (b0 && (s.take (k + 1)).all bareR) by rw [HNb.out, HV.out, Bool.and_true])
        clear g97 g65 g45 l122 l90 l57 q95
        obtain ⟨b', hb'⟩ : ∃ b', b' = b := ⟨_, rfl⟩
        rw [← hb'] at HN
        subst hb'
        by_cases h39 : x = 39
        · have q39 : (x == 39) = true := by simpa using h39
          have HQx := Lib.hid (show qOf x = [39, 92] ++ [39] ++ [x] by unfold qOf; rw [if_pos h39, h39]; rfl)
          clear h39
          go_wp2_with (first
            | (at_builtin; go_loud (refine wpList_app1 _ rfl (.tmp 52) (.tmp 53) _ rfl ER _ _ _ rfl HO.out 2 2 (([39, 92] : List Int).flatMap runeE) rfl (by decide) rfl (runeE_one _) hbig hbs ?_); intro g cp7 w7 ho7 hg7 hf7; have HB7 := Lib.hid (below_app HB.out hbs HO.out (Nat.le_refl _) hg7); have HO7 := Lib.hid ho7; have hbs7 := HB7.out.size; clear ho7 hg7 hf7)
            | (at_builtin; go_loud (refine wpList_app1 _ rfl (.tmp 55) (.tmp 56) _ rfl ER _ _ _ rfl HO7.out 1 1 (runeE 39) rfl (by decide) rfl (by intro u hu; simp [runeE] at hu; subst hu; rfl) hbig2 hbs7 ?_); intro g8 cp8 w8 ho8 hg8 hf8; have HB8 := Lib.hid (below_app HB7.out hbs7 HO7.out (Nat.le_refl _) hg8); have HO8 := Lib.hid ho8; have hbs8 := HB8.out.size; clear ho8 hg8 hf8)
            | (at_builtin; go_loud (refine wpList_app1 _ rfl (.tmp 58) (.tmp 60) _ rfl ER _ _ _ rfl HO8.out 1 1 (runeE x) rfl (by decide) rfl (by intro u hu; simp [runeE] at hu; subst hu; rfl) hbig3 hbs8 ?_); intro g9 cp9 w9 ho9 hg9 hf9; have HB9 := Lib.hid (below_app HB8.out hbs8 HO8.out (Nat.le_refl _) hg9); have HO9 := Lib.hid ho9; clear ho9 hg9 hf9)
            | fail)
          go_roundw
          case rel =>
            refine ⟨k + 1, b', o ++ [39, 92] ++ [39] ++ [x], by omega, rfl, by go_num, HB9.out, ?_, by rw [HNo.out, HQx.out]; simp, by simp; omega, HN.out⟩
            have h := HO9.out
            have e1 : (o ++ [39, 92] ++ [39] ++ [x]).length = o.length + 2 + 1 + 1 := by simp
            have e2 : (o ++ [39, 92] ++ [39] ++ [x]).flatMap runeE = o.flatMap runeE ++ ([39, 92] : List Int).flatMap runeE ++ runeE 39 ++ runeE x := by
              rw [List.flatMap_append, List.flatMap_append, List.flatMap_append]
              simp
            rw [e1, e2]
            exact h
          case measure => simp [intOf] <;> omega
        · have q39 : (x == 39) = false := by simpa using h39
          have HQx := Lib.hid (show qOf x = [x] by unfold qOf; rw [if_neg h39])
          clear h39
          go_wp2_with (at_builtin; go_loud (refine wpList_app1 _ rfl (.tmp 58) (.tmp 60) _ rfl ER _ _ _ rfl HO.out 1 1 (runeE x) rfl (by decide) rfl (by intro u hu; simp [runeE] at hu; subst hu; rfl) hbig1 hbs ?_); intro g cp7 w7 ho7 hg7 hf7; have HB7 := Lib.hid (below_app HB.out hbs HO.out (Nat.le_refl _) hg7); have HO7 := Lib.hid ho7; clear ho7 hg7 hf7)
          go_roundw
          case rel => exact ⟨k + 1, b', o ++ [x], by omega, rfl, by go_num, HB7.out, by rw [List.length_append, flat_snoc]; exact HO7.out, by rw [HNo.out, HQx.out], by rw [List.length_append]; simp; omega, HN.out⟩
          case measure => simp [intOf] <;> omega
      · have HV := Lib.hid (show bareR x = false by unfold bareR; rw [Bool.eq_false_iff]; intro h; simp at h; omega)
        have g97 : decide (x ≥ 97) = false := decide_eq_false (by omega)
        have g65 : decide (x ≥ 65) = false := decide_eq_false (by omega)
        have g45 : x ≥ 45 := by omega
        have l122 : x ≤ 122 := by omega
        have l90 : x ≤ 90 := by omega
        have l57 : decide (x ≤ 57) = false := decide_eq_false (by omega)
        have q95 : (x == 95) = false := by rw [beq_eq_false_iff_ne]; omega
        clear h
        go_upto_region 10 with fail
        have HN := Lib.hid (show false = (b0 && (s.take (k + 1)).all bareR) by rw [HNb.out, HV.out, Bool.and_false])
        clear g97 g65 g45 l122 l90 l57 q95
        obtain ⟨b', hb'⟩ : ∃ b', b' = false := ⟨_, rfl⟩
        rw [← hb'] at HN
        subst hb'
        by_cases h39 : x = 39
        · have q39 : (x == 39) = true := by simpa using h39
          have HQx := Lib.hid (show qOf x = [39, 92] ++ [39] ++ [x] by unfold qOf; rw [if_pos h39, h39]; rfl)
          clear h39
          go_wp2_with (first
            | (at_builtin; go_loud (refine wpList_app1 _ rfl (.tmp 52) (.tmp 53) _ rfl ER _ _ _ rfl HO.out 2 2 (([39, 92] : List Int).flatMap runeE) rfl (by decide) rfl (runeE_one _) hbig hbs ?_); intro g cp7 w7 ho7 hg7 hf7; have HB7 := Lib.hid (below_app HB.out hbs HO.out (Nat.le_refl _) hg7); have HO7 := Lib.hid ho7; have hbs7 := HB7.out.size; clear ho7 hg7 hf7)
            | (at_builtin; go_loud (refine wpList_app1 _ rfl (.tmp 55) (.tmp 56) _ rfl ER _ _ _ rfl HO7.out 1 1 (runeE 39) rfl (by decide) rfl (by intro u hu; simp [runeE] at hu; subst hu; rfl) hbig2 hbs7 ?_); intro g8 cp8 w8 ho8 hg8 hf8; have HB8 := Lib.hid (below_app HB7.out hbs7 HO7.out (Nat.le_refl _) hg8); have HO8 := Lib.hid ho8; have hbs8 := HB8.out.size; clear ho8 hg8 hf8)
            | (at_builtin; go_loud (refine wpList_app1 _ rfl (.tmp 58) (.tmp 60) _ rfl ER _ _ _ rfl HO8.out 1 1 (runeE x) rfl (by decide) rfl (by intro u hu; simp [runeE] at hu; subst hu; rfl) hbig3 hbs8 ?_); intro g9 cp9 w9 ho9 hg9 hf9; have HB9 := Lib.hid (below_app HB8.out hbs8 HO8.out (Nat.le_refl _) hg9); have HO9 := Lib.hid ho9; clear ho9 hg9 hf9)
            | fail)
          go_roundw
          case rel =>
            refine ⟨k + 1, false, o ++ [39, 92] ++ [39] ++ [x], by omega, rfl, by go_num, HB9.out, ?_, by rw [HNo.out, HQx.out]; simp, by simp; omega, HN.out⟩
            have h := HO9.out
            have e1 : (o ++ [39, 92] ++ [39] ++ [x]).length = o.length + 2 + 1 + 1 := by simp
            have e2 : (o ++ [39, 92] ++ [39] ++ [x]).flatMap runeE = o.flatMap runeE ++ ([39, 92] : List Int).flatMap runeE ++ runeE 39 ++ runeE x := by
              rw [List.flatMap_append, List.flatMap_append, List.flatMap_append]
              simp
            rw [e1, e2]
            exact h
          case measure => simp [intOf] <;> omega
        · have q39 : (x == 39) = false := by simpa using h39
          have HQx := Lib.hid (show qOf x = [x] by unfold qOf; rw [if_neg h39])
          clear h39
          go_wp2_with (at_builtin; go_loud (refine wpList_app1 _ rfl (.tmp 58) (.tmp 60) _ rfl ER _ _ _ rfl HO.out 1 1 (runeE x) rfl (by decide) rfl (by intro u hu; simp [runeE] at hu; subst hu; rfl) hbig1 hbs ?_); intro g cp7 w7 ho7 hg7 hf7; have HB7 := Lib.hid (below_app HB.out hbs HO.out (Nat.le_refl _) hg7); have HO7 := Lib.hid ho7; clear ho7 hg7 hf7)
          go_roundw
          case rel => exact ⟨k + 1, false, o ++ [x], by omega, rfl, by go_num, HB7.out, by rw [List.length_append, flat_snoc]; exact HO7.out, by rw [HNo.out, HQx.out], by rw [List.length_append]; simp; omega, HN.out⟩
          case measure => simp [intOf] <;> omega
      · have HV := Lib.hid (show bareR x = true by unfold bareR; simp; omega)
        have g97 : decide (x ≥ 97) = false := decide_eq_false (by omega)
        have g65 : x ≥ 65 := by omega
        have g45 : x ≥ 45 := by omega
        have l122 : x ≤ 122 := by omega
        have l90 : x ≤ 90 := by omega
        have l57 : decide (x ≤ 57) = false := decide_eq_false (by omega)
        have q95 : (x == 95) = false := by rw [beq_eq_false_iff_ne]; omega
        clear h
        go_upto_region 10 with fail
        have HN := Lib.hid (show b = (b0 && (s.take (k + 1)).all bareR) by rw [HNb.out, HV.out, Bool.and_true])
        clear g97 g65 g45 l122 l90 l57 q95
        obtain ⟨b', hb'⟩ : ∃ b', b' = b := ⟨_, rfl⟩
        rw [← hb'] at HN
        subst hb'
        by_cases h39 : x = 39
        · have q39 : (x == 39) = true := by simpa using h39
          have HQx := Lib.hid (show qOf x = [39, 92] ++ [39] ++ [x] by unfold qOf; rw [if_pos h39, h39]; rfl)
          clear h39
          go_wp2_with (first
            | (at_builtin; go_loud (refine wpList_app1 _ rfl (.tmp 52) (.tmp 53) _ rfl ER _ _ _ rfl HO.out 2 2 (([39, 92] : List Int).flatMap runeE) rfl (by decide) rfl (runeE_one _) hbig hbs ?_); intro g cp7 w7 ho7 hg7 hf7; have HB7 := Lib.hid (below_app HB.out hbs HO.out (Nat.le_refl _) hg7); have HO7 := Lib.hid ho7; have hbs7 := HB7.out.size; clear ho7 hg7 hf7)
            | (at_builtin; go_loud (refine wpList_app1 _ rfl (.tmp 55) (.tmp 56) _ rfl ER _ _ _ rfl HO7.out 1 1 (runeE 39) rfl (by decide) rfl (by intro u hu; simp [runeE] at hu; subst hu; rfl) hbig2 hbs7 ?_); intro g8 cp8 w8 ho8 hg8 hf8; have HB8 := Lib.hid (below_app HB7.out hbs7 HO7.out (Nat.le_refl _) hg8); have HO8 := Lib.hid ho8; have hbs8 := HB8.out.size; clear ho8 hg8 hf8)
            | (at_builtin; go_loud (refine wpList_app1 _ rfl (.tmp 58) (.tmp 60) _ rfl ER _ _ _ rfl HO8.out 1 1 (runeE x) rfl (by decide) rfl (by intro u hu; simp [runeE] at hu; subst hu; rfl) hbig3 hbs8 ?_); intro g9 cp9 w9 ho9 hg9 hf9; have HB9 := Lib.hid (below_app HB8.out hbs8 HO8.out (Nat.le_refl _) hg9); have HO9 := Lib.hid ho9; clear ho9 hg9 hf9)
            | fail)
          go_roundw
          case rel =>
            refine ⟨k + 1, b', o ++ [39, 92] ++ [39] ++ [x], by omega, rfl, by go_num, HB9.out, ?_, by rw [HNo.out, HQx.out]; simp, by simp; omega, HN.out⟩
            have h := HO9.out
            have e1 : (o ++ [39, 92] ++ [39] ++ [x]).length = o.length + 2 + 1 + 1 := by simp
            have e2 : (o ++ [39, 92] ++ [39] ++ [x]).flatMap runeE = o.flatMap runeE ++ ([39, 92] : List Int).flatMap runeE ++ runeE 39 ++ runeE x := by
              rw [List.flatMap_append, List.flatMap_append, List.flatMap_append]
              simp
            rw [e1, e2]
            exact h
          case measure => simp [intOf] <;> omega
        · have q39 : (x == 39) = false := by simpa using h39
          have HQx := Lib.hid (show qOf x = [x] by unfold qOf; rw [if_neg h39])
          clear h39
          go_wp2_with (at_builtin; go_loud (refine wpList_app1 _ rfl (.tmp 58) (.tmp 60) _ rfl ER _ _ _ rfl HO.out 1 1 (runeE x) rfl (by decide) rfl (by intro u hu; simp [runeE] at hu; subst hu; rfl) hbig1 hbs ?_); intro g cp7 w7 ho7 hg7 hf7; have HB7 := Lib.hid (below_app HB.out hbs HO.out (Nat.le_refl _) hg7); have HO7 := Lib.hid ho7; clear ho7 hg7 hf7)
          go_roundw
          case rel => exact ⟨k + 1, b', o ++ [x], by omega, rfl, by go_num, HB7.out, by rw [List.length_append, flat_snoc]; exact HO7.out, by rw [HNo.out, HQx.out], by rw [List.length_append]; simp; omega, HN.out⟩
          case measure => simp [intOf] <;> omega
      · have HV := Lib.hid (show bareR x = false by unfold bareR; rw [Bool.eq_false_iff]; intro h; simp at h; omega)
        have g97 : decide (x ≥ 97) = false := decide_eq_false (by omega)
        have g65 : x ≥ 65 := by omega
        have g45 : x ≥ 45 := by omega
        have l122 : x ≤ 122 := by omega
        have l90 : decide (x ≤ 90) = false := decide_eq_false (by omega)
        have l57 : decide (x ≤ 57) = false := decide_eq_false (by omega)
        have q95 : (x == 95) = false := by rw [beq_eq_false_iff_ne]; omega
        clear h
        go_upto_region 10 with fail
        have HN := Lib.hid (show false = (b0 && (s.take (k + 1)).all bareR) by rw [HNb.out, HV.out, Bool.and_false])
        clear g97 g65 g45 l122 l90 l57 q95
        obtain ⟨b', hb'⟩ : ∃ b', b' = false := ⟨_, rfl⟩
        rw [← hb'] at HN
        subst hb'
        by_cases h39 : x = 39
        · have q39 : (x == 39) = true := by simpa using h39
          have HQx := Lib.hid (show qOf x = [39, 92] ++ [39] ++ [x] by unfold qOf; rw [if_pos h39, h39]; rfl)
          clear h39
          go_wp2_with (first
            | (at_builtin; go_loud (refine wpList_app1 _ rfl (.tmp 52) (.tmp 53) _ rfl ER _ _ _ rfl HO.out 2 2 (([39, 92] : List Int).flatMap runeE) rfl (by decide) rfl (runeE_one _) hbig hbs ?_); intro g cp7 w7 ho7 hg7 hf7; have HB7 := Lib.hid (below_app HB.out hbs HO.out (Nat.le_refl _) hg7); have HO7 := Lib.hid ho7; have hbs7 := HB7.out.size; clear ho7 hg7 hf7)
            | (at_builtin; go_loud (refine wpList_app1 _ rfl (.tmp 55) (.tmp 56) _ rfl ER _ _ _ rfl HO7.out 1 1 (runeE 39) rfl (by decide) rfl (by intro u hu; simp [runeE] at hu; subst hu; rfl) hbig2 hbs7 ?_); intro g8 cp8 w8 ho8 hg8 hf8; have HB8 := Lib.hid (below_app HB7.out hbs7 HO7.out (Nat.le_refl _) hg8); have HO8 := Lib.hid ho8; have hbs8 := HB8.out.size; clear ho8 hg8 hf8)
            | (at_builtin; go_loud (refine wpList_app1 _ rfl (.tmp 58) (.tmp 60) _ rfl ER _ _ _ rfl HO8.out 1 1 (runeE x) rfl (by decide) rfl (by intro u hu; simp [runeE] at hu; subst hu; rfl) hbig3 hbs8 ?_); intro g9 cp9 w9 ho9 hg9 hf9; have HB9 := Lib.hid (below_app HB8.out hbs8 HO8.out (Nat.le_refl _) hg9); have HO9 := Lib.hid ho9; clear ho9 hg9 hf9)
            | fail)
          go_roundw
          case rel =>
            refine ⟨k + 1, false, o ++ [39, 92] ++ [39] ++ [x], by omega, rfl, by go_num, HB9.out, ?_, by rw [HNo.out, HQx.out]; simp, by simp; omega, HN.out⟩
            have h := HO9.out
            have e1 : (o ++ [39, 92] ++ [39] ++ [x]).length = o.length + 2 + 1 + 1 := by simp
            have e2 : (o ++ [39, 92] ++ [39] ++ [x]).flatMap runeE = o.flatMap runeE ++ ([39, 92] : List Int).flatMap runeE ++ runeE 39 ++ runeE x := by
              rw [List.flatMap_append, List.flatMap_append, List.flatMap_append]
              simp
            rw [e1, e2]
            exact h
          case measure => simp [intOf] <;> omega
        · have q39 : (x == 39) = false := by simpa using h39
          have HQx := Lib.hid (show qOf x = [x] by unfold qOf; rw [if_neg h39])
          clear h39
          go_wp2_with (at_builtin; go_loud (refine wpList_app1 _ rfl (.tmp 58) (.tmp 60) _ rfl ER _ _ _ rfl HO.out 1 1 (runeE x) rfl (by decide) rfl (by intro u hu; simp [runeE] at hu; subst hu; rfl) hbig1 hbs ?_); intro g cp7 w7 ho7 hg7 hf7; have HB7 := Lib.hid (below_app HB.out hbs HO.out (Nat.le_refl _) hg7); have HO7 := Lib.hid ho7; clear ho7 hg7 hf7)
          go_roundw
          case rel => exact ⟨k + 1, false, o ++ [x], by omega, rfl, by go_num, HB7.out, by rw [List.length_append, flat_snoc]; exact HO7.out, by rw [HNo.out, HQx.out], by rw [List.length_append]; simp; omega, HN.out⟩
          case measure => simp [intOf] <;> omega
      · have HV := Lib.hid (show bareR x = true by unfold bareR; simp; omega)
        have g97 : decide (x ≥ 97) = false := decide_eq_false (by omega)
        have g65 : x ≥ 65 := by omega
        have g45 : x ≥ 45 := by omega
        have l122 : x ≤ 122 := by omega
        have l90 : decide (x ≤ 90) = false := decide_eq_false (by omega)
        have l57 : decide (x ≤ 57) = false := decide_eq_false (by omega)
        have q95 : (x == 95) = true := by simp; omega
        clear h
        go_upto_region 10 with fail
        have HN := Lib.hid (show b = (b0 && (s.take (k + 1)).all bareR) by rw [HNb.out, HV.out, Bool.and_true])
        clear g97 g65 g45 l122 l90 l57 q95
        obtain ⟨b', hb'⟩ : ∃ b', b' = b := ⟨_, rfl⟩
        rw [← hb'] at HN
        subst hb'
        by_cases h39 : x = 39
        · have q39 : (x == 39) = true := by simpa using h39
          have HQx := Lib.hid (show qOf x = [39, 92] ++ [39] ++ [x] by unfold qOf; rw [if_pos h39, h39]; rfl)
          clear h39
          go_wp2_with (first
            | (at_builtin; go_loud (refine wpList_app1 _ rfl (.tmp 52) (.tmp 53) _ rfl ER _ _ _ rfl HO.out 2 2 (([39, 92] : List Int).flatMap runeE) rfl (by decide) rfl (runeE_one _) hbig hbs ?_); intro g cp7 w7 ho7 hg7 hf7; have HB7 := Lib.hid (below_app HB.out hbs HO.out (Nat.le_refl _) hg7); have HO7 := Lib.hid ho7; have hbs7 := HB7.out.size; clear ho7 hg7 hf7)
            | (at_builtin; go_loud (refine wpList_app1 _ rfl (.tmp 55) (.tmp 56) _ rfl ER _ _ _ rfl HO7.out 1 1 (runeE 39) rfl (by decide) rfl (by intro u hu; simp [runeE] at hu; subst hu; rfl) hbig2 hbs7 ?_); intro g8 cp8 w8 ho8 hg8 hf8; have HB8 := Lib.hid (below_app HB7.out hbs7 HO7.out (Nat.le_refl _) hg8); have HO8 := Lib.hid ho8; have hbs8 := HB8.out.size; clear ho8 hg8 hf8)
            | (at_builtin; go_loud (refine wpList_app1 _ rfl (.tmp 58) (.tmp 60) _ rfl ER _ _ _ rfl HO8.out 1 1 (runeE x) rfl (by decide) rfl (by intro u hu; simp [runeE] at hu; subst hu; rfl) hbig3 hbs8 ?_); intro g9 cp9 w9 ho9 hg9 hf9; have HB9 := Lib.hid (below_app HB8.out hbs8 HO8.out (Nat.le_refl _) hg9); have HO9 := Lib.hid ho9; clear ho9 hg9 hf9)
            | fail)
          go_roundw
          case rel =>
            refine ⟨k + 1, b', o ++ [39, 92] ++ [39] ++ [x], by omega, rfl, by go_num, HB9.out, ?_, by rw [HNo.out, HQx.out]; simp, by simp; omega, HN.out⟩
            have h := HO9.out
            have e1 : (o ++ [39, 92] ++ [39] ++ [x]).length = o.length + 2 + 1 + 1 := by simp
            have e2 : (o ++ [39, 92] ++ [39] ++ [x]).flatMap runeE = o.flatMap runeE ++ ([39, 92] : List Int).flatMap runeE ++ runeE 39 ++ runeE x := by
              rw [List.flatMap_append, List.flatMap_append, List.flatMap_append]
              simp
            rw [e1, e2]
            exact h
          case measure => simp [intOf] <;> omega
        · have q39 : (x == 39) = false := by simpa using h39
          have HQx := Lib.hid (show qOf x = [x] by unfold qOf; rw [if_neg h39])
          clear h39
          go_wp2_with (at_builtin; go_loud (refine wpList_app1 _ rfl (.tmp 58) (.tmp 60) _ rfl ER _ _ _ rfl HO.out 1 1 (runeE x) rfl (by decide) rfl (by intro u hu; simp [runeE] at hu; subst hu; rfl) hbig1 hbs ?_); intro g cp7 w7 ho7 hg7 hf7; have HB7 := Lib.hid (below_app HB.out hbs HO.out (Nat.le_refl _) hg7); have HO7 := Lib.hid ho7; clear ho7 hg7 hf7)
          go_roundw
          case rel => exact ⟨k + 1, b', o ++ [x], by omega, rfl, by go_num, HB7.out, by rw [List.length_append, flat_snoc]; exact HO7.out, by rw [HNo.out, HQx.out], by rw [List.length_append]; simp; omega, HN.out⟩
          case measure => simp [intOf] <;> omega
      · have HV := Lib.hid (show bareR x = false by unfold bareR; rw [Bool.eq_false_iff]; intro h; simp at h; omega)
        have g97 : decide (x ≥ 97) = false := decide_eq_false (by omega)
        have g65 : x ≥ 65 := by omega
        have g45 : x ≥ 45 := by omega
        have l122 : x ≤ 122 := by omega
        have l90 : decide (x ≤ 90) = false := decide_eq_false (by omega)
        have l57 : decide (x ≤ 57) = false := decide_eq_false (by omega)
        have q95 : (x == 95) = false := by rw [beq_eq_false_iff_ne]; omega
        clear h
        go_upto_region 10 with fail
        have HN := Lib.hid (show false = (b0 && (s.take (k + 1)).all bareR) by rw [HNb.out, HV.out, Bool.and_false])
        clear g97 g65 g45 l122 l90 l57 q95
        obtain ⟨b', hb'⟩ : ∃ b', b' = false := ⟨_, rfl⟩
        rw [← hb'] at HN
        subst hb'
        by_cases h39 : x = 39
        · have q39 : (x == 39) = true := by simpa using h39
          have HQx := Lib.hid (show qOf x = [39, 92] ++ [39] ++ [x] by unfold qOf; rw [if_pos h39, h39]; rfl)
          clear h39
          go_wp2_with (first
            | (at_builtin; go_loud (refine wpList_app1 _ rfl (.tmp 52) (.tmp 53) _ rfl ER _ _ _ rfl HO.out 2 2 (([39, 92] : List Int).flatMap runeE) rfl (by decide) rfl (runeE_one _) hbig hbs ?_); intro g cp7 w7 ho7 hg7 hf7; have HB7 := Lib.hid (below_app HB.out hbs HO.out (Nat.le_refl _) hg7); have HO7 := Lib.hid ho7; have hbs7 := HB7.out.size; clear ho7 hg7 hf7)
            | (at_builtin; go_loud (refine wpList_app1 _ rfl (.tmp 55) (.tmp 56) _ rfl ER _ _ _ rfl HO7.out 1 1 (runeE 39) rfl (by decide) rfl (by intro u hu; simp [runeE] at hu; subst hu; rfl) hbig2 hbs7 ?_); intro g8 cp8 w8 ho8 hg8 hf8; have HB8 := Lib.hid (below_app HB7.out hbs7 HO7.out (Nat.le_refl _) hg8); have HO8 := Lib.hid ho8; have hbs8 := HB8.out.size; clear ho8 hg8 hf8)
            | (at_builtin; go_loud (refine wpList_app1 _ rfl (.tmp 58) (.tmp 60) _ rfl ER _ _ _ rfl HO8.out 1 1 (runeE x) rfl (by decide) rfl (by intro u hu; simp [runeE] at hu; subst hu; rfl) hbig3 hbs8 ?_); intro g9 cp9 w9 ho9 hg9 hf9; have HB9 := Lib.hid (below_app HB8.out hbs8 HO8.out (Nat.le_refl _) hg9); have HO9 := Lib.hid ho9; clear ho9 hg9 hf9)
            | fail)
          go_roundw
          case rel =>
            refine ⟨k + 1, false, o ++ [39, 92] ++ [39] ++ [x], by omega, rfl, by go_num, HB9.out, ?_, by rw [HNo.out, HQx.out]; simp, by simp; omega, HN.out⟩
            have h := HO9.out
            have e1 : (o ++ [39, 92] ++ [39] ++ [x]).length = o.length + 2 + 1 + 1 := by simp
            have e2 : (o ++ [39, 92] ++ [39] ++ [x]).flatMap runeE = o.flatMap runeE ++ ([39, 92] : List Int).flatMap runeE ++ runeE 39 ++ runeE x := by
              rw [List.flatMap_append, List.flatMap_append, List.flatMap_append]
              simp
            rw [e1, e2]
            exact h
          case measure => simp [intOf] <;> omega
        · have q39 : (x == 39) = false := by simpa using h39
          have HQx := Lib.hid (show qOf x = [x] by unfold qOf; rw [if_neg h39])
          clear h39
          go_wp2_with (at_builtin; go_loud (refine wpList_app1 _ rfl (.tmp 58) (.tmp 60) _ rfl ER _ _ _ rfl HO.out 1 1 (runeE x) rfl (by decide) rfl (by intro u hu; simp [runeE] at hu; subst hu; rfl) hbig1 hbs ?_); intro g cp7 w7 ho7 hg7 hf7; have HB7 := Lib.hid (below_app HB.out hbs HO.out (Nat.le_refl _) hg7); have HO7 := Lib.hid ho7; clear ho7 hg7 hf7)
          go_roundw
          case rel => exact ⟨k + 1, false, o ++ [x], by omega, rfl, by go_num, HB7.out, by rw [List.length_append, flat_snoc]; exact HO7.out, by rw [HNo.out, HQx.out], by rw [List.length_append]; simp; omega, HN.out⟩
          case measure => simp [intOf] <;> omega
      · have HV := Lib.hid (show bareR x = true by unfold bareR; simp; omega)
        have g97 : x ≥ 97 := by omega
        have g65 : x ≥ 65 := by omega
        have g45 : x ≥ 45 := by omega
        have l122 : x ≤ 122 := by omega
        have l90 : decide (x ≤ 90) = false := decide_eq_false (by omega)
        have l57 : decide (x ≤ 57) = false := decide_eq_false (by omega)
        have q95 : (x == 95) = false := by rw [beq_eq_false_iff_ne]; omega
        clear h
        go_upto_region 10 with fail
        have HN := Lib.hid (show b = (b0 && (s.take (k + 1)).all bareR) by rw [HNb.out, HV.out, Bool.and_true])
        clear g97 g65 g45 l122 l90 l57 q95
        obtain ⟨b', hb'⟩ : ∃ b', b' = b := ⟨_, rfl⟩
        rw [← hb'] at HN
        subst hb'
        by_cases h39 : x = 39
        · have q39 : (x == 39) = true := by simpa using h39
          have HQx := Lib.hid (show qOf x = [39, 92] ++ [39] ++ [x] by unfold qOf; rw [if_pos h39, h39]; rfl)
          clear h39
          go_wp2_with (first
            | (at_builtin; go_loud (refine wpList_app1 _ rfl (.tmp 52) (.tmp 53) _ rfl ER _ _ _ rfl HO.out 2 2 (([39, 92] : List Int).flatMap runeE) rfl (by decide) rfl (runeE_one _) hbig hbs ?_); intro g cp7 w7 ho7 hg7 hf7; have HB7 := Lib.hid (below_app HB.out hbs HO.out (Nat.le_refl _) hg7); have HO7 := Lib.hid ho7; have hbs7 := HB7.out.size; clear ho7 hg7 hf7)
            | (at_builtin; go_loud (refine wpList_app1 _ rfl (.tmp 55) (.tmp 56) _ rfl ER _ _ _ rfl HO7.out 1 1 (runeE 39) rfl (by decide) rfl (by intro u hu; simp [runeE] at hu; subst hu; rfl) hbig2 hbs7 ?_); intro g8 cp8 w8 ho8 hg8 hf8; have HB8 := Lib.hid (below_app HB7.out hbs7 HO7.out (Nat.le_refl _) hg8); have HO8 := Lib.hid ho8; have hbs8 := HB8.out.size; clear ho8 hg8 hf8)
            | (at_builtin; go_loud (refine wpList_app1 _ rfl (.tmp 58) (.tmp 60) _ rfl ER _ _ _ rfl HO8.out 1 1 (runeE x) rfl (by decide) rfl (by intro u hu; simp [runeE] at hu; subst hu; rfl) hbig3 hbs8 ?_); intro g9 cp9 w9 ho9 hg9 hf9; have HB9 := Lib.hid (below_app HB8.out hbs8 HO8.out (Nat.le_refl _) hg9); have HO9 := Lib.hid ho9; clear ho9 hg9 hf9)
            | fail)
          go_roundw
          case rel =>
            refine ⟨k + 1, b', o ++ [39, 92] ++ [39] ++ [x], by omega, rfl, by go_num, HB9.out, ?_, by rw [HNo.out, HQx.out]; simp, by simp; omega, HN.out⟩
            have h := HO9.out
            have e1 : (o ++ [39, 92] ++ [39] ++ [x]).length = o.length + 2 + 1 + 1 := by simp
            have e2 : (o ++ [39, 92] ++ [39] ++ [x]).flatMap runeE = o.flatMap runeE ++ ([39, 92] : List Int).flatMap runeE ++ runeE 39 ++ runeE x := by
              rw [List.flatMap_append, List.flatMap_append, List.flatMap_append]
              simp
            rw [e1, e2]
            exact h
          case measure => simp [intOf] <;> omega
        · have q39 : (x == 39) = false := by simpa using h39
          have HQx := Lib.hid (show qOf x = [x] by unfold qOf; rw [if_neg h39])
          clear h39
          go_wp2_with (at_builtin; go_loud (refine wpList_app1 _ rfl (.tmp 58) (.tmp 60) _ rfl ER _ _ _ rfl HO.out 1 1 (runeE x) rfl (by decide) rfl (by intro u hu; simp [runeE] at hu; subst hu; rfl) hbig1 hbs ?_); intro g cp7 w7 ho7 hg7 hf7; have HB7 := Lib.hid (below_app HB.out hbs HO.out (Nat.le_refl _) hg7); have HO7 := Lib.hid ho7; clear ho7 hg7 hf7)
          go_roundw
          case rel => exact ⟨k + 1, b', o ++ [x], by omega, rfl, by go_num, HB7.out, by rw [List.length_append, flat_snoc]; exact HO7.out, by rw [HNo.out, HQx.out], by rw [List.length_append]; simp; omega, HN.out⟩
          case measure => simp [intOf] <;> omega
      · have HV := Lib.hid (show bareR x = false by unfold bareR; rw [Bool.eq_false_iff]; intro h; simp at h; omega)
        have g97 : x ≥ 97 := by omega
        have g65 : x ≥ 65 := by omega
        have g45 : x ≥ 45 := by omega
        have l122 : decide (x ≤ 122) = false := decide_eq_false (by omega)
        have l90 : decide (x ≤ 90) = false := decide_eq_false (by omega)
        have l57 : decide (x ≤ 57) = false := decide_eq_false (by omega)
        have q95 : (x == 95) = false := by rw [beq_eq_false_iff_ne]; omega
        clear h
        go_upto_region 10 with fail
        have HN := Lib.hid (show false = (b0 && (s.take (k + 1)).all bareR) by rw [HNb.out, HV.out, Bool.and_false])
        clear g97 g65 g45 l122 l90 l57 q95
        obtain ⟨b', hb'⟩ : ∃ b', b' = false := ⟨_, rfl⟩
        rw [← hb'] at HN
        subst hb'
        by_cases h39 : x = 39
        · have q39 : (x == 39) = true := by simpa using h39
          have HQx := Lib.hid (show qOf x = [39, 92] ++ [39] ++ [x] by unfold qOf; rw [if_pos h39, h39]; rfl)
          clear h39
          go_wp2_with (first
            | (at_builtin; go_loud (refine wpList_app1 _ rfl (.tmp 52) (.tmp 53) _ rfl ER _ _ _ rfl HO.out 2 2 (([39, 92] : List Int).flatMap runeE) rfl (by decide) rfl (runeE_one _) hbig hbs ?_); intro g cp7 w7 ho7 hg7 hf7; have HB7 := Lib.hid (below_app HB.out hbs HO.out (Nat.le_refl _) hg7); have HO7 := Lib.hid ho7; have hbs7 := HB7.out.size; clear ho7 hg7 hf7)
            | (at_builtin; go_loud (refine wpList_app1 _ rfl (.tmp 55) (.tmp 56) _ rfl ER _ _ _ rfl HO7.out 1 1 (runeE 39) rfl (by decide) rfl (by intro u hu; simp [runeE] at hu; subst hu; rfl) hbig2 hbs7 ?_); intro g8 cp8 w8 ho8 hg8 hf8; have HB8 := Lib.hid (below_app HB7.out hbs7 HO7.out (Nat.le_refl _) hg8); have HO8 := Lib.hid ho8; have hbs8 := HB8.out.size; clear ho8 hg8 hf8)
            | (at_builtin; go_loud (refine wpList_app1 _ rfl (.tmp 58) (.tmp 60) _ rfl ER _ _ _ rfl HO8.out 1 1 (runeE x) rfl (by decide) rfl (by intro u hu; simp [runeE] at hu; subst hu; rfl) hbig3 hbs8 ?_); intro g9 cp9 w9 ho9 hg9 hf9; have HB9 := Lib.hid (below_app HB8.out hbs8 HO8.out (Nat.le_refl _) hg9); have HO9 := Lib.hid ho9; clear ho9 hg9 hf9)
            | fail)
          go_roundw
          case rel =>
            refine ⟨k + 1, false, o ++ [39, 92] ++ [39] ++ [x], by omega, rfl, by go_num, HB9.out, ?_, by rw [HNo.out, HQx.out]; simp, by simp; omega, HN.out⟩
            have h := HO9.out
            have e1 : (o ++ [39, 92] ++ [39] ++ [x]).length = o.length + 2 + 1 + 1 := by simp
            have e2 : (o ++ [39, 92] ++ [39] ++ [x]).flatMap runeE = o.flatMap runeE ++ ([39, 92] : List Int).flatMap runeE ++ runeE 39 ++ runeE x := by
              rw [List.flatMap_append, List.flatMap_append, List.flatMap_append]
              simp
            rw [e1, e2]
            exact h
          case measure => simp [intOf] <;> omega
        · have q39 : (x == 39) = false := by simpa using h39
          have HQx := Lib.hid (show qOf x = [x] by unfold qOf; rw [if_neg h39])
          clear h39
          go_wp2_with (at_builtin; go_loud (refine wpList_app1 _ rfl (.tmp 58) (.tmp 60) _ rfl ER _ _ _ rfl HO.out 1 1 (runeE x) rfl (by decide) rfl (by intro u hu; simp [runeE] at hu; subst hu; rfl) hbig1 hbs ?_); intro g cp7 w7 ho7 hg7 hf7; have HB7 := Lib.hid (below_app HB.out hbs HO.out (Nat.le_refl _) hg7); have HO7 := Lib.hid ho7; clear ho7 hg7 hf7)
          go_roundw
          case rel => exact ⟨k + 1, false, o ++ [x], by omega, rfl, by go_num, HB7.out, by rw [List.length_append, flat_snoc]; exact HO7.out, by rw [HNo.out, HQx.out], by rw [List.length_append]; simp; omega, HN.out⟩
          case measure => simp [intOf] <;> omega
    · have hke : k = s.length := by omega
      have HBe := Lib.hid (show b = (b0 && s.all bareR) by rw [hb, hke, List.take_length])
      have HOe := Lib.hid (show o = [39] ++ s.flatMap qOf by rw [ho, hke, List.take_length])
      have s0 : ¬ k < s.length := hlt
      have HSr := Lib.hid (HS.out.below hB)
      have hbig1 : (o.length + 1) * 4 ≤ 140737488355328 := by omega
      clear hB hb hlt hke ho hO
      cases b
      · have HQ := Lib.hid (show quoteF s = o ++ [39] by
          rw [HOe.out]
          unfold quoteF
          rw [if_neg]
          rintro ⟨h1, h2⟩
          have h3 := HBe.out
          rw [h2, Bool.and_true, HB0.out] at h3
          have h4 : 0 < s.length := List.length_pos_iff.2 h1
          rw [decide_eq_true h4] at h3
          cases h3)
        go_wp2_with (at_builtin; go_loud (refine wpList_app1 _ rfl (.tmp 64) (.tmp 65) _ rfl ER _ _ _ rfl HO.out 1 1 (runeE 39) rfl (by decide) rfl (by intro u hu; simp [runeE] at hu; subst hu; rfl) hbig1 hbs ?_); intro g cp7 w7 ho7 hg7 hf7; have HB7 := Lib.hid (below_app HB.out hbs HO.out (Nat.le_refl _) hg7); have HO7 := Lib.hid ho7; clear ho7 hg7 hf7)
        go_ret
        exact ⟨_, rfl, HB7.out, by rw [HQ.out]; exact rd_of_owns (base := w.heap.size) (e := 21) (by rw [List.length_append, flat_snoc]; exact HO7.out)⟩
      · have HQ := Lib.hid (show quoteF s = s by
          unfold quoteF
          have h3 := HBe.out
          have h4 := Bool.and_eq_true_iff.1 h3.symm
          rw [if_pos]
          refine ⟨fun e => ?_, h4.2⟩
          have h5 := h4.1
          rw [HB0.out, decide_eq_true_eq, e] at h5
          simp at h5)
        go_wp2_with fail
        go_ret
        exact ⟨_, rfl, HB.out, by rw [HQ.out]; exact HSr.out⟩
end
end Go.Proofs.Ythlpelfogplomaa
