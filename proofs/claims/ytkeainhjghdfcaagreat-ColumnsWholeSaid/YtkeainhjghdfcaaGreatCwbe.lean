/- Joined texts: GlyH. -/
import Derived.Test.YtkeainhjghdfcaaGreatCwbd

/- glyph.Of. -/
namespace Go.Proofs.YtkeainhjghdfcaaGreat
open Go.RowKit

section
variable {R : List Rw} {c : List Int} {w : World} {sv : Value} {tp : Nat}
theorem glOf_ctl {R : List Rw} {c : List Int} {a : Int} (h0 : c[0]? = some a) (hb : (tabOf R).b a = 1 ∨ (tabOf R).b a = 2 ∨ (tabOf R).b a = 3) : glOf R c = c.flatMap caretG := by
  cases c with
  | nil => simp at h0
  | cons x l =>
    simp at h0
    subst h0
    unfold glOf
    rw [if_neg (by simp), if_pos]
    show ctlB ((tabOf R).b x) = true
    unfold ctlB
    rcases hb with h | h | h <;> rw [h] <;> decide
theorem glOf_one {R : List Rw} {c : List Int} {a : Int} (h0 : c[0]? = some a) (n1 : ¬ (tabOf R).b a = 1) (n2 : ¬ (tabOf R).b a = 2) (n3 : ¬ (tabOf R).b a = 3) : glOf R c = [(enc (lean R c), (widN R (lean R c) : Int))] := by
  cases c with
  | nil => simp at h0
  | cons x l =>
    simp at h0
    subst h0
    unfold glOf
    rw [if_neg (by simp), if_neg]
    show ¬ ctlB ((tabOf R).b x) = true
    unfold ctlB
    simp [n1, n2, n3]
theorem lean_at {R : List Rw} {c : List Int} {a z : Int} (h0 : c[0]? = some a) (hz : c[c.length - 1]? = some z) : lean R c = (if dotB ((tabOf R).b a) then [9676] else []) ++ c ++ (if (tabOf R).b z = 7 then [9676] else []) := by
  have h1 : c.headD 0 = a := by
    cases c with
    | nil => simp at h0
    | cons x l => simpa using h0
  have h2 : c.getLastD 0 = z := by
    rw [List.getLastD_eq_getLast?, List.getLast?_eq_getElem?, hz]
    rfl
  unfold lean
  rw [h1, h2]
theorem carets_succ {c : List Int} {k : Nat} {x : Int} (h : c[k]? = some x) : (c.take (k + 1)).flatMap caretG = (c.take k).flatMap caretG ++ caretG x := by
  rw [List.take_add_one, h, List.flatMap_append]
  simp
theorem carets_le (c : List Int) (k : Nat) (h : c.length ≤ 1000000) : ((c.take k).flatMap caretG).length ≤ 2000000 := by
  have := (carets_len (c.take k)).2
  rw [List.length_take] at this
  omega
theorem gly_of_owns {w : World} {base : Nat} {v : Value} {l : List Gy} (h : w.ownsRow base 97 2 v l.length (l.flatMap gyE)) : GlyIn w v l := rd_of_owns h
theorem rd_full {w : World} {a : Option Addr} {n cap : Nat} {l : List Int} (h : RunesIn w (.slice a n cap) l) : Rd w.heap.size w 1 (.slice a l.length l.length) l.length (l.flatMap runeE) := by
  obtain ⟨a', cap', hv, h1, h2, h3, h4⟩ := h
  cases hv
  exact ⟨a, l.length, rfl, Nat.le_refl _, by omega, h3, h4⟩
theorem runes_of_owns {w : World} {base : Nat} {v : Value} {l : List Int} (h : w.ownsRow base 21 1 v l.length (l.flatMap runeE)) : RunesIn w v l := rd_of_owns h
set_option maxRecDepth 100000 in
set_option maxHeartbeats 1000000 in
theorem gof_any (hT : Tb R w tp) (hs : RunesIn w sv c) (ok : RunesOk c) (hl : c.length ≤ 900000) :
    Calls Tryz.prog 99 #[.pointer (some ⟨tp, 0, none⟩), sv] w fun e w' => ∃ u, e = .returned u ∧ Below w.heap.size w w' ∧ GlyIn w' u (glOf R c) := by
  have HT := Lib.hid hT
  have HS := Lib.hid hs
  have HOk := Lib.hid ok
  obtain ⟨sl, cap, rfl, hcap, hmax, _⟩ := runes_cells hs
  unfold maxLen at hmax
  clear hT hs ok
  by_cases hne : c.length = 0
  · have he : c = [] := List.eq_nil_of_length_eq_zero hne
    subst he
    clear hne
    go_enter Tryz.func99, Tryz.ntmps99
    go_wp2_with fail
    go_ret
    exact ⟨_, rfl, .refl _ _, Rd.nil _ _ _⟩
  · obtain ⟨a, ha⟩ : ∃ a, c[0]? = some a := ⟨c[0], List.getElem?_eq_getElem (by omega)⟩
    obtain ⟨z, hz⟩ : ∃ z, c[c.length - 1]? = some z := ⟨c[c.length - 1], List.getElem?_eq_getElem (by omega)⟩
    have HA := Lib.hid (HOk.out.get ha)
    have HZ := Lib.hid (HOk.out.get hz)
    have HCtl := Lib.hid (fun h => glOf_ctl (R := R) ha h)
    have HOne := Lib.hid (fun h1 h2 h3 => glOf_one (R := R) ha h1 h2 h3)
    have HLean := Lib.hid (lean_at (R := R) ha hz)
    have HZx := Lib.hid hz
    have q0 : ((c.length : Int) == 0) = false := by simpa using (show ¬ (c.length : Int) = 0 by omega)
    have q1 : (0 : Int) < (c.length : Int) := by omega
    obtain ⟨b0, off, cap', hv, _, _, _, _, d0⟩ := rune_cell HS.out ha
    cases hv
    rw [Nat.add_zero] at d0
    clear ha hz
    go_enter Tryz.func99, Tryz.ntmps99
    go_wp2_with fail
    refine (Tb.break HT.out a HA.out).mono ?_
    rintro e w1 ⟨rfl, hB1⟩
    have HB1 := Lib.hid hB1
    clear hB1 d0
    obtain ⟨b, hb⟩ : ∃ b, b = (tabOf R).b a := ⟨_, rfl⟩
    rw [← hb]
    rw [← hb] at HCtl HOne HLean
    clear hb
    by_cases c1 : b = 1
    case' pos =>
      have p1 : (b == 1) = true := by simpa using c1
      have HG := Lib.hid (HCtl.out (.inl c1))
      clear c1
      go_upto_region 8 with fail
    case' neg =>
      have n1 : (b == 1) = false := by simpa using c1
      by_cases c2 : b = 2
      case' pos =>
        have p2 : (b == 2) = true := by simpa using c2
        have HG := Lib.hid (HCtl.out (.inr (.inl c2)))
        clear c1 c2
        go_upto_region 8 with fail
      case' neg =>
        have n2 : (b == 2) = false := by simpa using c2
        by_cases c3 : b = 3
        case' pos =>
          have p3 : (b == 3) = true := by simpa using c3
          have HG := Lib.hid (HCtl.out (.inr (.inr c3)))
          clear c1 c2 c3
          go_upto_region 8 with fail
        case' neg =>
          have n3 : (b == 3) = false := by simpa using c3
          have HG := Lib.hid (HOne.out c1 c2 c3)
          clear c1 c2 c3
          obtain ⟨zz, hzz⟩ : ∃ zz, zz = (tabOf R).b z := ⟨_, rfl⟩
          rw [← hzz] at HLean
          have HZb := Lib.hid (fun (W : World) (h : Tb R W tp) => show Calls Tryz.prog 151 #[.pointer (some ⟨tp, 0, none⟩), .int .i32 z] W (fun e w' => e = .returned (.int .i64 zz) ∧ Below W.heap.size W w') by rw [hzz]; exact Tb.break h z HZ.out)
          clear hzz
          have HB1b := HB1.out
          by_cases c4 : b = 4
          case' pos =>
            have p4 : (b == 4) = true := by simpa using c4
            have HD := Lib.hid (show dotB b = true by unfold dotB; rw [decide_eq_true c4]; rfl)
            clear c4
            go_upto_region 17 with fail
          case' neg =>
            have n4 : (b == 4) = false := by simpa using c4
            by_cases c5 : b = 5
            case' pos =>
              have p5 : (b == 5) = true := by simpa using c5
              have HD := Lib.hid (show dotB b = true by unfold dotB; rw [decide_eq_true c5]; simp)
              clear c4 c5
              go_upto_region 17 with fail
            case' neg =>
              have n5 : (b == 5) = false := by simpa using c5
              by_cases c6 : b = 8
              case' pos =>
                have p6 : (b == 8) = true := by simpa using c6
                have HD := Lib.hid (show dotB b = true by unfold dotB; rw [decide_eq_true c6]; simp)
                clear c4 c5 c6
                go_upto_region 17 with fail
              case' neg =>
                have n6 : (b == 8) = false := by simpa using c6
                have HD := Lib.hid (show dotB b = false by unfold dotB; rw [decide_eq_false c4, decide_eq_false c5, decide_eq_false c6]; rfl)
                clear c4 c5 c6
                go_upto_region 18 with fail
                obtain ⟨c2, hc2⟩ : ∃ c2, c2 = c := ⟨_, rfl⟩
                have HFin := Lib.hid (show ∀ tl, tl = (if zz = 7 then [9676] else []) → glOf R c = [(enc (c2 ++ tl), (widN R (c2 ++ tl) : Int))] from fun tl h => by rw [HG.out, HLean.out, HD.out, h, hc2]; rfl)
                have HC2 := Lib.hid (HS.out.below HB1.out)
                have HB2 := Lib.hid HB1.out
                have HOk2 := Lib.hid HOk.out
                have HZ2 := Lib.hid HZx.out
                have hln : c.length ≤ 999999 := by omega
                have hl1 : 1 ≤ c.length := by omega
                clear hne q0 q1 HG HLean HD HOne HCtl HS HOk HZx HB1 hl hcap
                subst hc2
                obtain ⟨b2, off2, cp2, hv, hcm2, hcl2, _, _, d2⟩ := rune_cell HC2.out HZ2.out
                cases hv
                have e1 := IntWalk.i64_in ((c2.length : Int) - 1) (by omega)
                have r1 : (0 : Int) ≤ (c2.length : Int) - 1 := by omega
                have r2 : (c2.length : Int) - 1 < (c2.length : Int) := by omega
                have r3 : ((c2.length : Int) - 1).toNat = c2.length - 1 := by omega
                unfold maxLen at hcm2
                go_wp2_with fail
                refine (HZb.out _ (HT.out.below HB2.out)).mono ?_
                rintro e w3 ⟨rfl, hB3⟩
                have HB3 := Lib.hid (HB2.out.trans (hB3.mono HB2.out.size))
                have HC3 := Lib.hid (HC2.out.below hB3)
                clear hB3 HC2 HB2 d2 e1 r1 r2 r3
                by_cases c7 : zz = 7
                case' neg =>
                  have p7 : (zz == 7) = false := by simpa using c7
                  have HF2 := Lib.hid (HFin.out [] (by rw [if_neg c7]))
                  rw [List.append_nil] at HF2
                  clear c7 HFin
                  go_upto_region 20 with fail
                  go_wp2_with fail
                  refine (encode_any HC3.out (by omega)).mono ?_
                  rintro e w4 ⟨rfl, hB4⟩
                  have HB4 := Lib.hid (HB3.out.trans (hB4.mono HB3.out.size))
                  have HC4 := Lib.hid (HC3.out.below hB4)
                  clear hB4
                  go_wp2_with fail
                  refine (width_any (HT.out.below HB4.out) HC4.out HOk2.out (by omega)).mono ?_
                  rintro e w5 ⟨rfl, hB5⟩
                  have HB5 := Lib.hid ((HB4.out.trans (hB5.mono HB4.out.size)).alloc ((HB4.out.trans (hB5.mono HB4.out.size)).size) (.cells #[.string (enc c2), .int .i64 ((widN R c2 : Nat) : Int)] 97))
                  have HL := Lib.hid (rs_lit gyE_len w5 #[.string (enc c2), .int .i64 ((widN R c2 : Nat) : Int)] 97 [(enc c2, ((widN R c2 : Nat) : Int))] 1 rfl (by decide) rfl)
                  clear hB5
                  go_wp2_with fail
                  go_ret
                  exact ⟨_, rfl, HB5.out, by rw [HF2.out]; exact HL.out⟩
                case' pos =>
                  have p7 : (zz == 7) = true := by simpa using c7
                  have HF2 := Lib.hid (HFin.out [9676] (by rw [if_pos c7]))
                  clear c7 HFin
                  have hbs3 := HB3.out.size
                  have HBl3 := Lib.hid (below_new HB3.out (.cells #[.int .i32 9676] 21))
                  have HFull := Lib.hid (Rd.below (rd_full HC3.out) (below1' w3 (.cells #[.int .i32 9676] 21)) (Nat.le_refl _))
                  have HNew := Lib.hid (show ∀ j u, [Value.int .i32 9676][j]? = some u → (w3.alloc (.cells #[.int .i32 9676] 21)).cell? ((⟨w3.heap.size, 0, none⟩ : Addr).add j) = some u from fun j u h => by
                    rw [addr_add, cell_of_row _ w3.heap.size j _ 21 (0, 0) (heap_alloc_new w3 _)]
                    simpa using h)
                  have hbig3 : (c2.length + 1) * 4 ≤ 140737488355328 := by omega
                  have k1 : (c2.length : Int) ≤ (c2.length : Int) := Int.le_refl _
                  have k2 := Int.ofNat_le.2 hcl2
                  have k3 : (0 : Int) ≤ (c2.length : Int) := by omega
                  have hbs4 := HBl3.out.size
                  go_upto_region 20 with (at_builtin; go_loud (refine wpList_app_full _ rfl (.tmp 53) (.tmp 54) _ rfl ER _ _ _ rfl HFull.out (by omega) _ 1 1 [.int .i32 9676] rfl (by decide) rfl HNew.out hbig3 hbs4 ?_); intro v4 w4 ho4 hg4; obtain ⟨a4, cap4, rfl⟩ := slice_of_owns ho4; have HB4 := Lib.hid (HBl3.out.grown hg4 hbs4 (fun _ h => by cases h)); have HO4 := Lib.hid ho4; clear ho4 hg4)
                  obtain ⟨c3, hc3⟩ : ∃ c3, c3 = c2 ++ [9676] := ⟨_, rfl⟩
                  have hlen3 : c2.length + 1 = c3.length := by rw [hc3, List.length_append]; rfl
                  have HC5 := Lib.hid (show RunesIn w4 (.slice a4 c3.length cap4) c3 by
                    have h := HO4.out
                    have e : c3.flatMap runeE = c2.flatMap runeE ++ [Value.int .i32 9676] := by rw [hc3, List.flatMap_append]; rfl
                    rw [hlen3, ← e] at h
                    exact runes_of_owns h)
                  have HOk3 := Lib.hid (show RunesOk c3 by
                    rw [hc3]
                    intro x hx
                    rcases List.mem_append.1 hx with hx | hx
                    · exact HOk2.out x hx
                    · simp at hx; subst hx; unfold I32; omega)
                  have hl3 : c3.length ≤ 1000000 := by omega
                  rw [← hc3] at HF2
                  rw [hlen3]
                  clear hc3 hlen3 hbig3 k1 k2 k3 hbs3 hbs4 HBl3 HFull HNew HO4
                  go_wp2_with fail
                  refine (encode_any HC5.out hl3).mono ?_
                  rintro e w6 ⟨rfl, hB6⟩
                  have HB6 := Lib.hid (HB4.out.trans (hB6.mono HB4.out.size))
                  have HC6 := Lib.hid (HC5.out.below hB6)
                  clear hB6
                  go_wp2_with fail
                  refine (width_any (HT.out.below HB6.out) HC6.out HOk3.out hl3).mono ?_
                  rintro e w7 ⟨rfl, hB7⟩
                  have HB7 := Lib.hid ((HB6.out.trans (hB7.mono HB6.out.size)).alloc ((HB6.out.trans (hB7.mono HB6.out.size)).size) (.cells #[.string (enc c3), .int .i64 ((widN R c3 : Nat) : Int)] 97))
                  have HL := Lib.hid (rs_lit gyE_len w7 #[.string (enc c3), .int .i64 ((widN R c3 : Nat) : Int)] 97 [(enc c3, ((widN R c3 : Nat) : Int))] 1 rfl (by decide) rfl)
                  clear hB7
                  go_wp2_with fail
                  go_ret
                  exact ⟨_, rfl, HB7.out, by rw [HF2.out]; exact HL.out⟩
          all_goals
            have hbs := HB1.out.size
            have HOl := Lib.hid (owns_lit w1 #[.int .i32 9676] 21 (base := w.heap.size) (size := 1) (n := 1) rfl (by decide) hbs)
            have HBl := Lib.hid (below_new HB1.out (.cells #[.int .i32 9676] 21))
            have HSl := Lib.hid (HS.out.below HBl.out)
            have hbs2 := HBl.out.size
            have hbig : (1 + c.length) * 4 ≤ 140737488355328 := by omega
            go_upto_region 18 with (at_builtin; go_loud (refine wpList_app_rd _ rfl (.tmp 36) (.tmp 37) _ rfl ER _ _ _ rfl HOl.out _ _ _ rfl HSl.out (runeE_one _) hbig hbs2 ?_); intro v2 w2 ho2 hg2; obtain ⟨a2, cap2, rfl⟩ := slice_of_owns ho2; have HB2 := Lib.hid (below_app HBl.out hbs2 HOl.out (Nat.le_refl _) hg2); have HO2 := Lib.hid ho2; clear ho2 hg2)
            obtain ⟨c2, hc2⟩ : ∃ c2, c2 = 9676 :: c := ⟨_, rfl⟩
            have hlen : 1 + c.length = c2.length := by rw [hc2, List.length_cons]; omega
            have hfl : c2.flatMap runeE = (#[Value.int .i32 9676]).toList ++ c.flatMap runeE := by rw [hc2]; rfl
            have HC2 := Lib.hid (show RunesIn w2 (.slice a2 c2.length cap2) c2 by
              have h := HO2.out
              rw [hlen, ← hfl] at h
              exact runes_of_owns h)
            have HFin := Lib.hid (show ∀ tl, tl = (if zz = 7 then [9676] else []) → glOf R c = [(enc (c2 ++ tl), (widN R (c2 ++ tl) : Int))] from fun tl h => by rw [HG.out, HLean.out, HD.out, h, hc2]; rfl)
            have HOk2 := Lib.hid (show RunesOk c2 by
              rw [hc2]
              intro x hx
              rcases List.mem_cons.1 hx with rfl | hx
              · unfold I32; omega
              · exact HOk.out x hx)
            have HZ2 := Lib.hid (show c2[c2.length - 1]? = some z by
              have h1 : c2.length - 1 = (c.length - 1) + 1 := by rw [← hlen]; omega
              rw [h1, hc2, List.getElem?_cons_succ]
              exact HZx.out)
            have hln : c2.length ≤ 999999 := by omega
            have hl1 : 1 ≤ c2.length := by omega
            rw [hlen]
            clear hne q0 q1 HG HLean HD HOne HCtl HS HOk HZx HB1 hl hcap hc2 hlen hfl HOl HBl HSl hbs hbs2 hbig HO2
            obtain ⟨b2, off2, cp2, hv, hcm2, hcl2, _, _, d2⟩ := rune_cell HC2.out HZ2.out
            cases hv
            have e1 := IntWalk.i64_in ((c2.length : Int) - 1) (by omega)
            have r1 : (0 : Int) ≤ (c2.length : Int) - 1 := by omega
            have r2 : (c2.length : Int) - 1 < (c2.length : Int) := by omega
            have r3 : ((c2.length : Int) - 1).toNat = c2.length - 1 := by omega
            unfold maxLen at hcm2
            go_wp2_with fail
            refine (HZb.out _ (HT.out.below HB2.out)).mono ?_
            rintro e w3 ⟨rfl, hB3⟩
            have HB3 := Lib.hid (HB2.out.trans (hB3.mono HB2.out.size))
            have HC3 := Lib.hid (HC2.out.below hB3)
            clear hB3 HC2 HB2 d2 e1 r1 r2 r3
            by_cases c7 : zz = 7
            case' neg =>
              have p7 : (zz == 7) = false := by simpa using c7
              have HF2 := Lib.hid (HFin.out [] (by rw [if_neg c7]))
              rw [List.append_nil] at HF2
              clear c7 HFin
              go_upto_region 20 with fail
              go_wp2_with fail
              refine (encode_any HC3.out (by omega)).mono ?_
              rintro e w4 ⟨rfl, hB4⟩
              have HB4 := Lib.hid (HB3.out.trans (hB4.mono HB3.out.size))
              have HC4 := Lib.hid (HC3.out.below hB4)
              clear hB4
              go_wp2_with fail
              refine (width_any (HT.out.below HB4.out) HC4.out HOk2.out (by omega)).mono ?_
              rintro e w5 ⟨rfl, hB5⟩
              have HB5 := Lib.hid ((HB4.out.trans (hB5.mono HB4.out.size)).alloc ((HB4.out.trans (hB5.mono HB4.out.size)).size) (.cells #[.string (enc c2), .int .i64 ((widN R c2 : Nat) : Int)] 97))
              have HL := Lib.hid (rs_lit gyE_len w5 #[.string (enc c2), .int .i64 ((widN R c2 : Nat) : Int)] 97 [(enc c2, ((widN R c2 : Nat) : Int))] 1 rfl (by decide) rfl)
              clear hB5
              go_wp2_with fail
              go_ret
              exact ⟨_, rfl, HB5.out, by rw [HF2.out]; exact HL.out⟩
            case' pos =>
              have p7 : (zz == 7) = true := by simpa using c7
              have HF2 := Lib.hid (HFin.out [9676] (by rw [if_pos c7]))
              clear c7 HFin
              have hbs3 := HB3.out.size
              have HBl3 := Lib.hid (below_new HB3.out (.cells #[.int .i32 9676] 21))
              have HFull := Lib.hid (Rd.below (rd_full HC3.out) (below1' w3 (.cells #[.int .i32 9676] 21)) (Nat.le_refl _))
              have HNew := Lib.hid (show ∀ j u, [Value.int .i32 9676][j]? = some u → (w3.alloc (.cells #[.int .i32 9676] 21)).cell? ((⟨w3.heap.size, 0, none⟩ : Addr).add j) = some u from fun j u h => by
                rw [addr_add, cell_of_row _ w3.heap.size j _ 21 (0, 0) (heap_alloc_new w3 _)]
                simpa using h)
              have hbig3 : (c2.length + 1) * 4 ≤ 140737488355328 := by omega
              have k1 : (c2.length : Int) ≤ (c2.length : Int) := Int.le_refl _
              have k2 := Int.ofNat_le.2 hcl2
              have k3 : (0 : Int) ≤ (c2.length : Int) := by omega
              have hbs4 := HBl3.out.size
              go_upto_region 20 with (at_builtin; go_loud (refine wpList_app_full _ rfl (.tmp 53) (.tmp 54) _ rfl ER _ _ _ rfl HFull.out (by omega) _ 1 1 [.int .i32 9676] rfl (by decide) rfl HNew.out hbig3 hbs4 ?_); intro v4 w4 ho4 hg4; obtain ⟨a4, cap4, rfl⟩ := slice_of_owns ho4; have HB4 := Lib.hid (HBl3.out.grown hg4 hbs4 (fun _ h => by cases h)); have HO4 := Lib.hid ho4; clear ho4 hg4)
              obtain ⟨c3, hc3⟩ : ∃ c3, c3 = c2 ++ [9676] := ⟨_, rfl⟩
              have hlen3 : c2.length + 1 = c3.length := by rw [hc3, List.length_append]; rfl
              have HC5 := Lib.hid (show RunesIn w4 (.slice a4 c3.length cap4) c3 by
                have h := HO4.out
                have e : c3.flatMap runeE = c2.flatMap runeE ++ [Value.int .i32 9676] := by rw [hc3, List.flatMap_append]; rfl
                rw [hlen3, ← e] at h
                exact runes_of_owns h)
              have HOk3 := Lib.hid (show RunesOk c3 by
                rw [hc3]
                intro x hx
                rcases List.mem_append.1 hx with hx | hx
                · exact HOk2.out x hx
                · simp at hx; subst hx; unfold I32; omega)
              have hl3 : c3.length ≤ 1000000 := by omega
              rw [← hc3] at HF2
              rw [hlen3]
              clear hc3 hlen3 hbig3 k1 k2 k3 hbs3 hbs4 HBl3 HFull HNew HO4
              go_wp2_with fail
              refine (encode_any HC5.out hl3).mono ?_
              rintro e w6 ⟨rfl, hB6⟩
              have HB6 := Lib.hid (HB4.out.trans (hB6.mono HB4.out.size))
              have HC6 := Lib.hid (HC5.out.below hB6)
              clear hB6
              go_wp2_with fail
              refine (width_any (HT.out.below HB6.out) HC6.out HOk3.out hl3).mono ?_
              rintro e w7 ⟨rfl, hB7⟩
              have HB7 := Lib.hid ((HB6.out.trans (hB7.mono HB6.out.size)).alloc ((HB6.out.trans (hB7.mono HB6.out.size)).size) (.cells #[.string (enc c3), .int .i64 ((widN R c3 : Nat) : Int)] 97))
              have HL := Lib.hid (rs_lit gyE_len w7 #[.string (enc c3), .int .i64 ((widN R c3 : Nat) : Int)] 97 [(enc c3, ((widN R c3 : Nat) : Int))] 1 rfl (by decide) rfl)
              clear hB7
              go_wp2_with fail
              go_ret
              exact ⟨_, rfl, HB7.out, by rw [HF2.out]; exact HL.out⟩
    all_goals
      go_wp2_with fail
      go_loopw [5, 22] (fun ov iv wr => ∃ (k : Nat) (L : List Gy), k ≤ c.length ∧ iv = .int .i64 ((k : Nat) : Int) ∧ Below w.heap.size w wr ∧ wr.ownsRow w.heap.size 97 2 ov L.length (L.flatMap gyE) ∧ L = (c.take k).flatMap caretG) (fun _ iv _ => c.length - (intOf iv).toNat)
      case atStart => exact ⟨0, [], Nat.zero_le _, rfl, HB1.out, World.ownsRow_nil _ _ _ _, rfl⟩
      case round =>
        obtain ⟨k, L, hk, rfl, hB, hO, hL⟩ := hrel
        have HL := Lib.hid hL
        have HB := Lib.hid hB
        obtain ⟨pa, pc, rfl⟩ := slice_of_owns hO
        have HO := Lib.hid hO
        clear hB hO hL
        by_cases hlt : k < c.length
        · obtain ⟨x, hx⟩ : ∃ x, c[k]? = some x := ⟨c[k], List.getElem?_eq_getElem hlt⟩
          have HN := Lib.hid (carets_succ hx)
          have hbd : L.length ≤ 2000000 := by rw [HL.out]; exact carets_le c k (by omega)
          have hbd2 := (caretG_len x).2
          have HLN := Lib.hid (show L ++ caretG x = (c.take (k + 1)).flatMap caretG by rw [HN.out, ← HL.out])
          obtain ⟨_, _, _, hv, _, _, _, _, d0⟩ := rune_cell (HS.out.below HB.out) hx
          cases hv
          clear hx
          go_wp2_with fail
          refine (caret_any x wr).mono ?_
          rintro e w2 ⟨u, rfl, hB2, hI2⟩
          have HI2 := Lib.hid hI2
          have HB2 := Lib.hid (HB.out.trans (hB2.mono HB.out.size))
          have HO2 := Lib.hid (owns_stays HO.out hB2)
          have hbs := HB2.out.size
          have hbig : (L.length + (caretG x).length) * 24 ≤ 140737488355328 := by omega
          clear hB2 hI2 HO HB d0 hbd hbd2
          go_wp2_with (at_builtin; refine wpList_app_rd _ rfl (.tmp 26) (.tmp 28) _ rfl EG _ _ _ rfl HO2.out _ _ _ rfl HI2.out (gyE_ones _) hbig hbs ?_; intro v3 w3 ho3 hg3; have HB3 := Lib.hid (below_app HB2.out hbs HO2.out (Nat.le_refl _) hg3); have HO3 := Lib.hid ho3; clear ho3 hg3)
          go_roundw
          case rel => exact ⟨k + 1, L ++ caretG x, by omega, by go_num, HB3.out, by rw [List.length_append, List.flatMap_append]; exact HO3.out, HLN.out⟩
          case measure => simp [intOf] <;> omega
        · have hke : k = c.length := by omega
          subst hke
          rw [List.take_length] at HL
          clear hlt hk
          go_wp2_with fail
          go_ret
          exact ⟨_, rfl, HB.out, by rw [HG.out, ← HL.out]; exact gly_of_owns HO.out⟩
end
end Go.Proofs.YtkeainhjghdfcaaGreat
