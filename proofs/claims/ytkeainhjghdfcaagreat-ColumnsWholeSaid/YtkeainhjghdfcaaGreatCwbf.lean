/- Joined texts: GlyI. -/
import Derived.Test.YtkeainhjghdfcaaGreatCwbe
import Derived.Test.YtkeainhjghdfcaaGreatCwbd

/- The document's Of; are two lists of glyphs the same? -/
namespace Go.Proofs.YtkeainhjghdfcaaGreat
open Go.RowKit

section
variable {R : List Rw} {c : List Int} {w : World} {v sv : Value}
theorem ERG : ElemT Tryz.prog 22 81 2 24 := elemT_of (by kernel_rfl) (z := .agg #[.string ⟨#[]⟩, .int .i64 0]) (by kernel_rfl) rfl (by decide) (by decide)
theorem rgly_of_owns {w : World} {base : Nat} {v : Value} {l : List Gy} (h : w.ownsRow base 81 2 v l.length (l.flatMap gyE)) : GlyIn w v l := rd_of_owns h
theorem caret_a {r : Int} (h : 0 ≤ r ∧ r < 32) : caretG r = [(⟨#[94]⟩, 1), (put (r + 64), 1)] := by
  have hv : validB (r + 64) = true := validB_iff.2 (by omega)
  have e : putN (r + 64) = [r + 64] := by unfold putN; rw [fixR_ok hv, if_pos (by omega)]
  unfold caretG put
  rw [if_pos h, e]
theorem caret_b {r : Int} (h : ¬ (0 ≤ r ∧ r < 32)) (h2 : r = 127) : caretG r = [(⟨#[94]⟩, 1), (⟨#[63]⟩, 1)] := by unfold caretG; rw [if_neg h, if_pos h2]
theorem caret_c {r : Int} (h : ¬ (0 ≤ r ∧ r < 32)) (h2 : ¬ r = 127) : caretG r = [(put 65533, 1)] := by unfold caretG; rw [if_neg h, if_neg h2]
set_option maxRecDepth 100000 in
set_option maxHeartbeats 1000000 in
theorem rgof_any (hR : RowsIn w v R) (hs : RunesIn w sv c) (ok : RunesOk c) (hl : c.length ≤ 900000) :
    Calls Tryz.prog 83 #[v, sv] w fun e w' => ∃ u, e = .returned u ∧ Below w.heap.size w w' ∧ GlyIn w' u (glOf R c) := by
  have HR := Lib.hid hR
  have HS := Lib.hid hs
  have HOk := Lib.hid ok
  obtain ⟨sl, cap, rfl, hcap, hmax, _⟩ := runes_cells hs
  unfold maxLen at hmax
  clear hR hs ok
  by_cases hne : c.length = 0
  · have he : c = [] := List.eq_nil_of_length_eq_zero hne
    subst he
    clear hne
    go_enter Tryz.func83, Tryz.ntmps83
    go_wp2_with fail
    go_ret
    exact ⟨_, rfl, .refl _ _, Rd.nil _ _ _⟩
  · obtain ⟨a, ha⟩ : ∃ a, c[0]? = some a := ⟨c[0], List.getElem?_eq_getElem (by omega)⟩
    obtain ⟨z, hz⟩ : ∃ z, c[c.length - 1]? = some z := ⟨c[c.length - 1], List.getElem?_eq_getElem (by omega)⟩
    have HA := Lib.hid (HOk.out.get ha)
    have HZ := Lib.hid (HOk.out.get hz)
    have HCtl := Lib.hid (fun h => glOf_ctl (R := R) ha h)
    have HOne := Lib.hid (fun h1 h2 h3 => glOf_one (R := R) ha h1 h2 h3)
    have HLean := Lib.hid (lean_at (R := R) ha hz)
    have HZx := Lib.hid hz
    have q0 : ((c.length : Int) == 0) = false := by simpa using (show ¬ (c.length : Int) = 0 by omega)
    have q1 : (0 : Int) < (c.length : Int) := by omega
    obtain ⟨b0, off, cap', hv, _, _, _, _, d0⟩ := rune_cell HS.out ha
    cases hv
    rw [Nat.add_zero] at d0
    clear ha hz
    go_enter Tryz.func83, Tryz.ntmps83
    go_wp2_with fail
    refine (rbrk_t a HR.out HA.out).mono ?_
    rintro e w1 ⟨rfl, rfl⟩
    obtain ⟨b, hb⟩ : ∃ b, b = (tabOf R).b a := ⟨_, rfl⟩
    rw [← hb]
    rw [← hb] at HCtl HOne HLean
    clear hb
    by_cases c1 : b = 1
    case' pos =>
      have p1 : (b == 1) = true := by simpa using c1
      have HG := Lib.hid (HCtl.out (.inl c1))
      clear c1 d0
      go_upto_region 5 with fail
    case' neg =>
      have n1 : (b == 1) = false := by simpa using c1
      by_cases c2 : b = 2
      case' pos =>
        have p2 : (b == 2) = true := by simpa using c2
        have HG := Lib.hid (HCtl.out (.inr (.inl c2)))
        clear c1 c2 d0
        go_upto_region 5 with fail
      case' neg =>
        have n2 : (b == 2) = false := by simpa using c2
        by_cases c3 : b = 3
        case' pos =>
          have p3 : (b == 3) = true := by simpa using c3
          have HG := Lib.hid (HCtl.out (.inr (.inr c3)))
          clear c1 c2 c3 d0
          go_upto_region 5 with fail
        case' neg =>
          have n3 : (b == 3) = false := by simpa using c3
          have HG := Lib.hid (HOne.out c1 c2 c3)
          obtain ⟨zz, hzz⟩ : ∃ zz, zz = (tabOf R).b z := ⟨_, rfl⟩
          rw [← hzz] at HLean
          have HZb := Lib.hid (fun (W : World) (h : RowsIn W v R) => show Calls Tryz.prog 125 #[v, .int .i32 z] W (fun e w' => e = .returned (.int .i64 zz) ∧ W = w') by rw [hzz]; exact rbrk_t z h HZ.out)
          clear hzz c1 c2 c3 d0
          by_cases c4 : b = 4
          case' pos =>
            have p4 : (b == 4) = true := by simpa using c4
            have HD := Lib.hid (show dotB b = true by unfold dotB; rw [decide_eq_true c4]; rfl)
            clear c4
            go_upto_region 17 with fail
          case' neg =>
            have n4 : (b == 4) = false := by simpa using c4
            by_cases c5 : b = 5
            case' pos =>
              have p5 : (b == 5) = true := by simpa using c5
              have HD := Lib.hid (show dotB b = true by unfold dotB; rw [decide_eq_true c5]; simp)
              clear c4 c5
              go_upto_region 17 with fail
            case' neg =>
              have n5 : (b == 5) = false := by simpa using c5
              by_cases c6 : b = 8
              case' pos =>
                have p6 : (b == 8) = true := by simpa using c6
                have HD := Lib.hid (show dotB b = true by unfold dotB; rw [decide_eq_true c6]; simp)
                clear c4 c5 c6
                go_upto_region 17 with fail
              case' neg =>
                have n6 : (b == 8) = false := by simpa using c6
                have HD := Lib.hid (show dotB b = false by unfold dotB; rw [decide_eq_false c4, decide_eq_false c5, decide_eq_false c6]; rfl)
                clear c4 c5 c6
                have hbig : (0 + c.length) * 4 ≤ 140737488355328 := by omega
                go_upto_region 19 with (at_builtin; go_loud (refine wpList_app_rd _ rfl (.tmp 85) (.tmp 86) _ rfl ER (.slice none 0 0) 0 [] rfl (World.ownsRow_nil w w.heap.size 21 1) _ _ _ rfl HS.out (runeE_one _) hbig (Nat.le_refl _) ?_); intro v2 w2 ho2 hg2; obtain ⟨a2, cap2, rfl⟩ := slice_of_owns ho2; have HB2 := Lib.hid (below_app (Below.refl w.heap.size w) (Nat.le_refl _) (World.ownsRow_nil w w.heap.size 21 1) (Nat.le_refl _) hg2); have HO2 := Lib.hid ho2; clear ho2 hg2)
                obtain ⟨_, _, _, hv, _, _, _, _, d2⟩ := rune_cell (HS.out.below HB2.out) HZx.out
                cases hv
                have e1 := IntWalk.i64_in ((c.length : Int) - 1) (by omega)
                have r1 : (0 : Int) ≤ (c.length : Int) - 1 := by omega
                have r2 : (c.length : Int) - 1 < (c.length : Int) := by omega
                have r3 : ((c.length : Int) - 1).toNat = c.length - 1 := by omega
                obtain ⟨c2, hc2⟩ : ∃ c2, c2 = c := ⟨_, rfl⟩
                have hlen : 0 + c.length = c2.length := by rw [hc2]; omega
                have hfl : c2.flatMap runeE = [] ++ c.flatMap runeE := by rw [hc2]; rfl
                have HOc := Lib.hid (show w2.ownsRow w.heap.size 21 1 (.slice a2 c2.length cap2) c2.length (c2.flatMap runeE) by
                  have h := HO2.out
                  rw [hlen, ← hfl] at h
                  exact h)
                have HFin := Lib.hid (show ∀ tl, tl = (if zz = 7 then [9676] else []) → glOf R c = [(enc (c2 ++ tl), (widN R (c2 ++ tl) : Int))] from fun tl h => by rw [HG.out, HLean.out, HD.out, h, hc2]; rfl)
                have HOk2 := Lib.hid (show RunesOk c2 by rw [hc2]; exact HOk.out)
                have hl2 : c2.length ≤ 900001 := by omega
                clear hne q0 q1 HG HLean HD HOne HCtl HS HOk HZx hl hcap hlen hfl hbig HO2
                subst hc2
          rotate_left
          all_goals
            try (
              have hbig0 : (0 + 1) * 4 ≤ 140737488355328 := by omega
              go_upto_region 18 with (at_builtin; go_loud (refine wpList_app1 _ rfl (.tmp 82) (.tmp 83) _ rfl ER (.slice none 0 0) 0 [] rfl (World.ownsRow_nil w w.heap.size 21 1) 1 1 [.int .i32 9676] rfl (by decide) rfl (by intro u hu; simp at hu; subst hu; rfl) hbig0 (Nat.le_refl _) ?_); intro g cp w1 ho1 hg1 hf1; have HB1 := Lib.hid (below_app (Below.refl w.heap.size w) (Nat.le_refl _) (World.ownsRow_nil w w.heap.size 21 1) (Nat.le_refl _) hg1); have HO1 := Lib.hid ho1; clear ho1 hg1 hf1)
              have HS1 := Lib.hid (HS.out.below HB1.out)
              have hbs1 := HB1.out.size
              have hbig : (0 + 1 + c.length) * 4 ≤ 140737488355328 := by omega
              go_upto_region 19 with (at_builtin; go_loud (refine wpList_app_rd _ rfl (.tmp 85) (.tmp 86) _ rfl ER _ _ _ rfl HO1.out _ _ _ rfl HS1.out (runeE_one _) hbig hbs1 ?_); intro v2 w2 ho2 hg2; obtain ⟨a2, cap2, rfl⟩ := slice_of_owns ho2; have HB2 := Lib.hid (below_app HB1.out hbs1 HO1.out (Nat.le_refl _) hg2); have HO2 := Lib.hid ho2; clear ho2 hg2)
              obtain ⟨_, _, _, hv, _, _, _, _, d2⟩ := rune_cell (HS.out.below HB2.out) HZx.out
              cases hv
              have e1 := IntWalk.i64_in ((c.length : Int) - 1) (by omega)
              have r1 : (0 : Int) ≤ (c.length : Int) - 1 := by omega
              have r2 : (c.length : Int) - 1 < (c.length : Int) := by omega
              have r3 : ((c.length : Int) - 1).toNat = c.length - 1 := by omega
              obtain ⟨c2, hc2⟩ : ∃ c2, c2 = 9676 :: c := ⟨_, rfl⟩
              have hlen0 : 0 + 1 + c.length = c2.length := by rw [hc2, List.length_cons]; omega
              have hlen : 1 + c.length = c2.length := by rw [hc2, List.length_cons]; omega
              have hfl : c2.flatMap runeE = [] ++ [Value.int .i32 9676] ++ c.flatMap runeE := by rw [hc2]; rfl
              have HOc := Lib.hid (show w2.ownsRow w.heap.size 21 1 (.slice a2 c2.length cap2) c2.length (c2.flatMap runeE) by
                have h := HO2.out
                rw [hlen0, ← hfl] at h
                exact h)
              have HFin := Lib.hid (show ∀ tl, tl = (if zz = 7 then [9676] else []) → glOf R c = [(enc (c2 ++ tl), (widN R (c2 ++ tl) : Int))] from fun tl h => by rw [HG.out, HLean.out, HD.out, h, hc2]; rfl)
              have HOk2 := Lib.hid (show RunesOk c2 by
                rw [hc2]
                intro x hx
                rcases List.mem_cons.1 hx with rfl | hx
                · unfold I32; omega
                · exact HOk.out x hx)
              have hl2 : c2.length ≤ 900001 := by omega
              rw [hlen]
              clear hne q0 q1 HG HLean HD HOne HCtl HS HOk HZx hl hcap hc2 hlen hlen0 hfl HO2 HO1 HS1 HB1 hbs1 hbig hbig0)
          all_goals
            have HC2 := Lib.hid (runes_of_owns HOc.out)
            go_wp2_with fail
            refine (HZb.out _ (HR.out.below HB2.out)).mono ?_
            rintro e w3 ⟨rfl, rfl⟩
            clear d2 e1 r1 r2 r3
            have hbs2 := HB2.out.size
            by_cases c7 : zz = 7
            case' neg =>
              have p7 : (zz == 7) = false := by simpa using c7
              have HF2 := Lib.hid (HFin.out [] (by rw [if_neg c7]))
              rw [List.append_nil] at HF2
              clear c7 HFin
              go_wp2_with fail
              refine (rencode_any HC2.out (by omega)).mono ?_
              rintro e w4 ⟨rfl, hB4⟩
              have HB4 := Lib.hid (HB2.out.trans (hB4.mono HB2.out.size))
              have HC4 := Lib.hid (HC2.out.below hB4)
              clear hB4
              go_wp2_with fail
              refine (rwidth_any (HR.out.below HB4.out) HC4.out HOk2.out (by omega)).mono ?_
              rintro e w5 ⟨rfl, hB5⟩
              have HB5 := Lib.hid ((HB4.out.trans (hB5.mono HB4.out.size)).alloc ((HB4.out.trans (hB5.mono HB4.out.size)).size) (.cells #[.string (enc c2), .int .i64 ((widN R c2 : Nat) : Int)] 81))
              have HL := Lib.hid (rs_lit gyE_len w5 #[.string (enc c2), .int .i64 ((widN R c2 : Nat) : Int)] 81 [(enc c2, ((widN R c2 : Nat) : Int))] 1 rfl (by decide) rfl)
              clear hB5
              go_wp2_with fail
              go_ret
              exact ⟨_, rfl, HB5.out, by rw [HF2.out]; exact HL.out⟩
            case' pos =>
              have p7 : (zz == 7) = true := by simpa using c7
              have HF2 := Lib.hid (HFin.out [9676] (by rw [if_pos c7]))
              clear c7 HFin
              have hbig3 : (c2.length + 1) * 4 ≤ 140737488355328 := by omega
              go_upto_region 21 with (at_builtin; go_loud (refine wpList_app1 _ rfl (.tmp 97) (.tmp 98) _ rfl ER _ _ _ rfl HOc.out 1 1 [.int .i32 9676] rfl (by decide) rfl (by intro u hu; simp at hu; subst hu; rfl) hbig3 hbs2 ?_); intro g4 cap4 w4 ho4 hg4 hf4; have HB4 := Lib.hid (below_app HB2.out hbs2 HOc.out (Nat.le_refl _) hg4); have HO4 := Lib.hid ho4; clear ho4 hg4 hf4)
              obtain ⟨c3, hc3⟩ : ∃ c3, c3 = c2 ++ [9676] := ⟨_, rfl⟩
              have hlen3 : c2.length + 1 = c3.length := by rw [hc3, List.length_append]; rfl
              have HC5 := Lib.hid (show RunesIn w4 (.slice (some ⟨g4, 0, none⟩) c3.length cap4) c3 by
                have h := HO4.out
                have e : c3.flatMap runeE = c2.flatMap runeE ++ [Value.int .i32 9676] := by rw [hc3, List.flatMap_append]; rfl
                rw [hlen3, ← e] at h
                exact runes_of_owns h)
              have HOk3 := Lib.hid (show RunesOk c3 by
                rw [hc3]
                intro x hx
                rcases List.mem_append.1 hx with hx | hx
                · exact HOk2.out x hx
                · simp at hx; subst hx; unfold I32; omega)
              have hl3 : c3.length ≤ 1000000 := by omega
              rw [← hc3] at HF2
              rw [hlen3]
              clear hc3 hlen3 hbig3 HO4
              go_wp2_with fail
              refine (rencode_any HC5.out hl3).mono ?_
              rintro e w6 ⟨rfl, hB6⟩
              have HB6 := Lib.hid (HB4.out.trans (hB6.mono HB4.out.size))
              have HC6 := Lib.hid (HC5.out.below hB6)
              clear hB6
              go_wp2_with fail
              refine (rwidth_any (HR.out.below HB6.out) HC6.out HOk3.out hl3).mono ?_
              rintro e w7 ⟨rfl, hB7⟩
              have HB7 := Lib.hid ((HB6.out.trans (hB7.mono HB6.out.size)).alloc ((HB6.out.trans (hB7.mono HB6.out.size)).size) (.cells #[.string (enc c3), .int .i64 ((widN R c3 : Nat) : Int)] 81))
              have HL := Lib.hid (rs_lit gyE_len w7 #[.string (enc c3), .int .i64 ((widN R c3 : Nat) : Int)] 81 [(enc c3, ((widN R c3 : Nat) : Int))] 1 rfl (by decide) rfl)
              clear hB7
              go_wp2_with fail
              go_ret
              exact ⟨_, rfl, HB7.out, by rw [HF2.out]; exact HL.out⟩
    all_goals
      go_wp2_with fail
      go_loopw [6, 7] (fun ov iv wr => ∃ (k : Nat) (L : List Gy), k ≤ c.length ∧ iv = .int .i64 ((k : Nat) : Int) ∧ Below w.heap.size w wr ∧ wr.ownsRow w.heap.size 81 2 ov L.length (L.flatMap gyE) ∧ L = (c.take k).flatMap caretG) (fun _ iv _ => c.length - (intOf iv).toNat)
      case atStart => exact ⟨0, [], Nat.zero_le _, rfl, .refl _ _, World.ownsRow_nil _ _ _ _, rfl⟩
      case round =>
        obtain ⟨k, L, hk, rfl, hB, hO, hL⟩ := hrel
        have HL := Lib.hid hL
        have HB := Lib.hid hB
        obtain ⟨pa, pc, rfl⟩ := slice_of_owns hO
        have HO := Lib.hid hO
        clear hB hO hL
        by_cases hlt : k < c.length
        · obtain ⟨x, hx⟩ : ∃ x, c[k]? = some x := ⟨c[k], List.getElem?_eq_getElem hlt⟩
          have HN := Lib.hid (carets_succ hx)
          have hbd : L.length ≤ 2000000 := by rw [HL.out]; exact carets_le c k (by omega)
          obtain ⟨_, _, _, hv, _, _, _, _, d0⟩ := rune_cell (HS.out.below HB.out) hx
          cases hv
          have r0 : (k : Int) < (c.length : Int) := by omega
          have r1 : (0 : Int) ≤ (k : Int) := by omega
          have e1 := IntWalk.i64_in ((k : Int) + 1) (by omega)
          have hbs := HB.out.size
          have hbig2 : (L.length + 2) * 24 ≤ 140737488355328 := by omega
          have hbig1 : (L.length + 1) * 24 ≤ 140737488355328 := by omega
          have HX := Lib.hid (HOk.out.get hx)
          clear hx
          by_cases g0 : x ≥ 0
          case' pos =>
            by_cases g1 : x < 32
            case' pos =>
              have HCx := Lib.hid (caret_a ⟨g0, g1⟩)
              have e2 := IntWalk.i32_in (x + 64) (by omega)
              go_wp2_with fail
              refine (rput_any (x + 64) wr).mono ?_
              rintro e w2 ⟨rfl, hB2⟩
              have HB2 := Lib.hid (HB.out.trans (hB2.mono HB.out.size))
              have HO2 := Lib.hid (owns_stays HO.out hB2)
              have hbs2 := HB2.out.size
              clear hB2 HO HB d0
              go_wp2_with (at_builtin; go_loud (refine wpList_app1 _ rfl (.tmp 45) (.tmp 54) _ rfl ERG _ _ _ rfl HO2.out 2 2 [.string ⟨#[94]⟩, .int .i64 1, .string (put (x + 64)), .int .i64 1] rfl (by decide) rfl (by intro u hu; simp only [List.mem_cons, List.not_mem_nil, or_false] at hu; rcases hu with rfl | rfl | rfl | rfl <;> rfl) hbig2 hbs2 ?_); intro g cp w7 ho7 hg7 hf7; have HB7 := Lib.hid (below_app HB2.out hbs2 HO2.out (Nat.le_refl _) hg7); have HO7 := Lib.hid ho7; clear ho7 hg7 hf7)
              go_roundw
              case rel => exact ⟨k + 1, L ++ caretG x, by omega, by go_num, HB7.out, by rw [List.length_append, List.flatMap_append, HCx.out]; exact HO7.out, by rw [HN.out, ← HL.out]⟩
              case measure => simp [intOf] <;> omega
            have q2 : decide (x < 32) = false := decide_eq_false g1
            have HNx := Lib.hid (show ¬ (0 ≤ x ∧ x < 32) by omega)
            clear g1
          case' neg =>
            have q2 : decide (x ≥ 0) = false := decide_eq_false g0
            have q3 : decide (0 ≤ x) = false := decide_eq_false g0
            have HNx := Lib.hid (show ¬ (0 ≤ x ∧ x < 32) by omega)
            clear g0
          all_goals
            by_cases g2 : x = 127
            · have p2 : (x == 127) = true := by simpa using g2
              have HCx := Lib.hid (caret_b HNx.out g2)
              clear g2
              go_wp2_with (at_builtin; go_loud (refine wpList_app1 _ rfl (.tmp 61) (.tmp 64) _ rfl ERG _ _ _ rfl HO.out 2 2 [.string ⟨#[94]⟩, .int .i64 1, .string ⟨#[63]⟩, .int .i64 1] rfl (by decide) rfl (by intro u hu; simp only [List.mem_cons, List.not_mem_nil, or_false] at hu; rcases hu with rfl | rfl | rfl | rfl <;> rfl) hbig2 hbs ?_); intro g cp w7 ho7 hg7 hf7; have HB7 := Lib.hid (below_app HB.out hbs HO.out (Nat.le_refl _) hg7); have HO7 := Lib.hid ho7; clear ho7 hg7 hf7)
              go_roundw
              case rel => exact ⟨k + 1, L ++ caretG x, by omega, by go_num, HB7.out, by rw [List.length_append, List.flatMap_append, HCx.out]; exact HO7.out, by rw [HN.out, ← HL.out]⟩
              case measure => simp [intOf] <;> omega
            · have p2 : (x == 127) = false := by simpa using g2
              have HCx := Lib.hid (caret_c HNx.out g2)
              clear g2
              go_wp2_with fail
              refine (rput_any 65533 wr).mono ?_
              rintro e w2 ⟨rfl, hB2⟩
              have HB2 := Lib.hid (HB.out.trans (hB2.mono HB.out.size))
              have HO2 := Lib.hid (owns_stays HO.out hB2)
              have hbs2 := HB2.out.size
              clear hB2 HO HB d0
              go_wp2_with (at_builtin; go_loud (refine wpList_app1 _ rfl (.tmp 66) (.tmp 69) _ rfl ERG _ _ _ rfl HO2.out 1 1 [.string (put 65533), .int .i64 1] rfl (by decide) rfl (by intro u hu; simp only [List.mem_cons, List.not_mem_nil, or_false] at hu; rcases hu with rfl | rfl <;> rfl) hbig1 hbs2 ?_); intro g cp w7 ho7 hg7 hf7; have HB7 := Lib.hid (below_app HB2.out hbs2 HO2.out (Nat.le_refl _) hg7); have HO7 := Lib.hid ho7; clear ho7 hg7 hf7)
              go_roundw
              case rel => exact ⟨k + 1, L ++ caretG x, by omega, by go_num, HB7.out, by rw [List.length_append, List.flatMap_append, HCx.out]; exact HO7.out, by rw [HN.out, ← HL.out]⟩
              case measure => simp [intOf] <;> omega
        · have hke : k = c.length := by omega
          subst hke
          rw [List.take_length] at HL
          have r0 : decide ((c.length : Int) < (c.length : Int)) = false := by simp
          clear hlt hk
          go_wp2_with fail
          go_ret
          exact ⟨_, rfl, HB.out, by rw [HG.out, ← HL.out]; exact rgly_of_owns HO.out⟩
end
end Go.Proofs.YtkeainhjghdfcaaGreat
