/- Joined texts: IdxF. -/
import Derived.Test.YtblajooebmjfoaaGreatZdaa
/- (Index).Change: its walk. -/
namespace Go.Proofs.YtblajooebmjfoaaGreat
open Go.RowKit

/-- an index whose row is the call's own -/
def IdxOwn (w : World) (b : Nat) (v : Value) (S : List Nat) (n : Nat) : Prop := ∃ sv, v = .agg #[sv, .int .i64 ((n : Nat) : Int)] ∧ w.ownsRow b 3 1 sv S.length (S.flatMap nE)
set_option maxRecDepth 100000 in
set_option maxHeartbeats 16000000 in
theorem change_own {R : List Rw} {o l : List Int} {f was is : Nat} {w : World} {v lv : Value} {tp : Nat} (H : (tabOf R).Ok) (hX : IdxIn w v (starts (tabOf R) o) o.length) (hT : Tb R w tp) (hs : RunesIn w lv l) (ok : RunesOk l) (hl : l.length ≤ 1000000) (ho : o.length ≤ 1000000) (hSl : (starts (tabOf R) o).length ≤ o.length) (hLl : (starts (tabOf R) l).length ≤ l.length) (hW : Win o l f was is) :
    Calls Tryz.prog 48 #[v, .pointer (some ⟨tp, 0, none⟩), lv, .agg #[.int .i64 ((f : Nat) : Int), .int .i64 ((was : Nat) : Int), .int .i64 ((is : Nat) : Int)]] w fun e w' => ∃ u, e = .returned u ∧ Below w.heap.size w w' ∧ IdxOwn w' w.heap.size u (starts (tabOf R) l) l.length := by
  have HT := Lib.hid hT
  have HS := Lib.hid hs
  have HOk := Lib.hid ok
  have HTk := Lib.hid H
  have HW := Lib.hid hW
  have hWf := hW.fw
  have hWo := hW.wo
  have hWi := hW.il
  have HStart := Lib.hid (fun k a hk ha => @idx_start (tabOf R) o l f was is hW k hk a ha)
  have HNext := Lib.hid (fun m a hm => @start_next (tabOf R) l H m a hm)
  have HRest := Lib.hid (fun m a q s h1 h2 h3 h4 => @idx_rest (tabOf R) o l was is H hW.suf m a q s h1 h2 h3 h4)
  have HLt := Lib.hid (fun a (ha : a ∈ starts (tabOf R) l) => begAt_lt ((starts_mem (tabOf R) l a).1 ha))
  have HSt := Lib.hid (fun a (ha : a ∈ starts (tabOf R) o) => begAt_lt ((starts_mem (tabOf R) o a).1 ha))
  have HSp := Lib.hid (starts_sorted (tabOf R) o)
  generalize starts (tabOf R) o = S at hX hSl HStart HRest HSt HSp
  generalize starts (tabOf R) l = L at hLl HStart HNext HRest HLt
  have HX := Lib.hid hX
  obtain ⟨sv, rfl, hI⟩ := hX
  have HI := Lib.hid hI
  obtain ⟨sa, scap, rfl, hscap, hsmax, _⟩ := ints_cells hI
  unfold maxLen at hsmax
  obtain ⟨sl, cap, rfl, hcap, hmax, _⟩ := runes_cells hs
  unfold maxLen at hmax
  have HC0 := Lib.hid (CW.start w (.slice sa S.length scap) o.length f was is)
  clear hT hs ok H hW hI
  go_enter Tryz.func48, Tryz.ntmps48
  have HAh := Lib.hid (ahead_any ((f : Nat) : Int) (HX.out.below HC0.out.below) HSp.out (by omega))
  have HAw := Lib.hid (fun W (hB : Below w.heap.size w W) => ahead_any ((was : Nat) : Int) (HX.out.below hB) HSp.out (by omega))
  go_wp2_with fail
  go_step3
  go_wp2_with fail
  generalize (((w.alloc (.cells #[.slice sa S.length scap, .int .i64 ((o.length : Nat) : Int)] 28)).alloc (.cells #[.int .i64 ((f : Nat) : Int), .int .i64 ((was : Nat) : Int), .int .i64 ((is : Nat) : Int)] 86)).alloc (.cells #[.slice none 0 0, .int .i64 0] 28)) = w0 at HC0 HAh ⊢
  generalize hh : w.heap.size = h at HC0 HAw ⊢
  refine HAh.out.mono ?_
  rintro e w1 ⟨rfl, hB1⟩
  have HC1 := Lib.hid (HC0.out.later (hB1.mono HC0.out.hs))
  obtain ⟨k, hk⟩ : ∃ k, k = ahd S (f : Int) - 1 := ⟨_, rfl⟩
  have hkS : ahd S (f : Int) ≤ S.length := ahd_le S f
  have HK := Lib.hid hk
  have e1 := IntWalk.i64_in (((ahd S (f : Int) : Nat) : Int) - 1) (by omega)
  have e2 : max (((ahd S (f : Int) : Nat) : Int) - 1) 0 = ((k : Nat) : Int) := by omega
  have hks : k ≤ S.length := by omega
  have x0 := HC1.out.x0
  have HH := Lib.hid hh
  rw [show h + 1 + 1 = h + 2 from rfl]
  clear HC0 hB1 HAh hkS hk hh
  obtain ⟨a, ha⟩ : ∃ a, a = (S[k]?).getD 0 := ⟨_, rfl⟩
  have HSt2 := Lib.hid (HStart.out k a HK.out ha)
  have HBw := Lib.hid (show Below w.heap.size w w1 by rw [HH.out]; exact HC1.out.below)
  have HTake := Lib.hid (ints_take (HI.out.below HBw.out) hks)
  have k1 : (0 : Int) ≤ (k : Int) := by omega
  have k2 : (k : Int) ≤ (S.length : Int) := by omega
  have k3 : (k : Int) ≤ (scap : Int) := by omega
  have k4 : min (k : Int) (S.length : Int) = (k : Int) := by omega
  by_cases hkl : k < S.length
  case' pos =>
    obtain ⟨x, hx⟩ : ∃ x, S[k]? = some x := ⟨S[k], List.getElem?_eq_getElem hkl⟩
    obtain ⟨b, off, cap', hv, _, _, _, _, d0⟩ := int_cell (HI.out.below HBw.out) hx
    cases hv
    rw [hx] at ha
    have ha' : a = x := ha
    subst ha'
    have q1 : (k : Int) < (S.length : Int) := by omega
    clear ha hx
    go_upto_region 5 with fail
  case' neg =>
    have ha' : a = 0 := by rw [ha, List.getElem?_eq_none (by omega)]; rfl
    have q1 : decide ((k : Int) < (S.length : Int)) = false := by rw [decide_eq_false_iff_not]; omega
    have q2 : decide (k < S.length) = false := decide_eq_false hkl
    subst ha'
    clear ha
    go_upto_region 5 with fail
  all_goals
    have hs1 := HC1.out.hs
    go_upto_region 6 with (at_builtin; go_loud (refine wpList_app_rd _ rfl (.const (.slice none 0 0)) (.tmp 40) _ rfl EI (.slice none 0 0) 0 [] rfl (World.ownsRow_nil w1 (h + 3) 3 1) _ _ _ rfl HTake.out (intE_one _) (by rw [List.length_take]; omega) hs1 ?_); intro v1 w2 ho hg; obtain ⟨pa, pc, rfl⟩ := slice_of_owns ho; have HB2 := Lib.hid (below_app (Below.refl (h + 3) w1) hs1 (World.ownsRow_nil w1 (h + 3) 3 1) (Nat.le_refl _) hg); have HO := Lib.hid ho; clear ho hg)
    have hlk : (S.take k).length = k := by rw [List.length_take]; omega
    have HY := Lib.hid (show YA (w2.alloc (.cells #[.slice pa k pc, .int .i64 ((l.length : Nat) : Int)] 28)) w2.heap.size (h + 3) (.slice pa k pc) l.length (L.take k) by
      have ho := HO.out
      simp only [Nat.zero_add, List.nil_append, hlk] at ho
      rw [HSt2.out.1] at ho
      have hlk2 : (L.take k).length = k := by rw [← HSt2.out.1]; exact hlk
      exact YA.make (by rw [hlk2]; exact ho) (Nat.le_trans hs1 HB2.out.size))
    have HB3 := Lib.hid (HB2.out.alloc (Nat.le_trans hs1 HB2.out.size) (.cells #[.slice pa k pc, .int .i64 ((l.length : Nat) : Int)] 28))
    have HC3 := Lib.hid (HC1.out.later HB3.out)
    generalize w2.alloc (.cells #[.slice pa k pc, .int .i64 ((l.length : Nat) : Int)] 28) = w3 at HY HB3 HC3 ⊢
    generalize w2.heap.size = yb at HY ⊢
    have b0 := HC3.out.x0
    have b1 := HC3.out.x1
    have c1 := HC3.out.a1
    have c2 := HC3.out.a2
    have sh := IntWalk.i64_in ((is : Int) - (was : Int)) (by have := HW.out.il; have := HW.out.wo; omega)
    have HAx := Lib.hid (HAw.out w3 HC3.out.below)
    clear HO HB2
    go_wp2_with fail
    refine HAx.out.mono ?_
    rintro e w4 ⟨rfl, hB4⟩
    have HC4 := Lib.hid (HC3.out.later (hB4.mono HC3.out.hs))
    have HY4 := Lib.hid (HY.out.stays hB4)
    clear HC3 HY HB3 hB4 HAx HAw b0 b1 c1 c2
    go_wp2_with fail
    go_step3
    go_wp2_with fail
    have hq0 := ahd_le S (was : Int)
    generalize ahd S (was : Int) = q0 at hq0 ⊢
    go_loopw [10, 13, 14] (fun av ov _ wr => ∃ (m a' q : Nat) (yv : Value), av = .int .i64 ((a' : Nat) : Int) ∧ ov = .int .i64 ((q : Nat) : Int) ∧ q ≤ S.length ∧ m ≤ L.length ∧ (L[m]? = some a' ∨ (m = L.length ∧ a' = l.length)) ∧ Below (h + 3) w4 wr ∧ YA wr yb (h + 3) yv l.length (L.take m)) (fun av _ _ _ => l.length - (intOf av).toNat)
    case atStart => exact ⟨k, _, q0, _, rfl, rfl, hq0, HSt2.out.2.2.1, HSt2.out.2.2.2, .refl _ _, HY4.out⟩
    case round =>
      obtain ⟨m, a', q, yv, rfl, rfl, hq, hm, ha', hB, hY⟩ := hrel
      have HA := Lib.hid ha'
      have HCr := Lib.hid (HC4.out.later hB)
      have HYr := Lib.hid hY
      have HBr := Lib.hid hB
      clear ha' hB hY
      by_cases hlt : a' < l.length
      · have hma : L[m]? = some a' := HA.out.resolve_right (by omega)
        have hml := (List.getElem?_eq_some_iff.1 hma).1
        have HMa := Lib.hid hma
        obtain ⟨wa, rfl⟩ : ∃ wa, wa = wr := ⟨_, rfl⟩
        have x0 := HCr.out.x0
        have a2 := HCr.out.a2
        have r0 : ((a' : Nat) : Int) < (l.length : Int) := by omega
        clear hma
        go_wp2_with fail
        go_loopw [13, 14] (fun ov _ wb => ∃ q : Nat, ov = .int .i64 ((q : Nat) : Int) ∧ q ≤ S.length ∧ wb = wa) (fun ov _ _ => S.length - (intOf ov).toNat)
        case atStart => exact ⟨q, rfl, hq, rfl⟩
        case round =>
          obtain ⟨q', rfl, hq', rfl⟩ := hrel
          have hlm : (L.take m).length = m := by rw [List.length_take]; omega
          obtain ⟨pa1, pc1, rfl⟩ := slice_of_owns HYr.out.own
          have HYs := Lib.hid (show YA wr yb (h + 3) (.slice pa1 m pc1) l.length (L.take m) by have h1 := HYr.out; rw [hlm] at h1; exact h1)
          by_cases hge : is ≤ a'
          case' neg =>
            have s1 : decide (((a' : Nat) : Int) ≥ ((is : Nat) : Int)) = false := by rw [decide_eq_false_iff_not]; omega
            have s2 : decide (is ≤ a') = false := decide_eq_false hge
            clear hge
          case' pos =>
            have s1 : ((a' : Nat) : Int) ≥ ((is : Nat) : Int) := by omega
            by_cases hql : q' < S.length
            case' neg =>
              have q1 : decide (((q' : Nat) : Int) < (S.length : Int)) = false := by rw [decide_eq_false_iff_not]; omega
              have q2 : decide (q' < S.length) = false := decide_eq_false hql
              clear hql
            case' pos =>
              have q1 : ((q' : Nat) : Int) < (S.length : Int) := by omega
              have q2 : (0 : Int) ≤ ((q' : Nat) : Int) := by omega
              obtain ⟨s, hs⟩ : ∃ s, S[q']? = some s := ⟨S[q'], List.getElem?_eq_getElem hql⟩
              have HSq := Lib.hid hs
              have HBq := Lib.hid (show Below w.heap.size w wr by rw [HH.out]; exact HCr.out.below)
              obtain ⟨b, off, cap', hv, _, _, _, _, d0⟩ := int_cell (HI.out.below HBq.out) hs
              cases hv
              obtain ⟨z, hz⟩ : ∃ z : Int, z = (s : Int) + ((is : Int) - (was : Int)) := ⟨_, rfl⟩
              have hsl := HSt.out s (List.mem_of_getElem? hs)
              have e4 := IntWalk.i64_in ((s : Int) + ((is : Int) - (was : Int))) (by have := HW.out.il; have := HW.out.wo; omega)
              conv at e4 => rhs; rw [← hz]
              have HZ := Lib.hid hz
              clear hs hz
              by_cases hc : z < ((a' : Nat) : Int)
              case' pos =>
                have e5 := IntWalk.i64_in ((q' : Int) + 1) (by omega)
                go_wp2_with fail
                go_roundw
                case rel => exact ⟨q' + 1, by go_num, by omega, by first | rfl | trivial⟩
                case measure => simp [intOf] <;> omega
              case' neg =>
                have c1 : decide (z < ((a' : Nat) : Int)) = false := decide_eq_false hc
                by_cases hd : z = ((a' : Nat) : Int)
                case' pos =>
                  have c2 : (z == ((a' : Nat) : Int)) = true := by simpa using hd
                  have HR := Lib.hid (HRest.out m a' q' s HMa.out HSq.out hge (by rw [← HZ.out]; exact hd))
                  have t1 : (q' : Int) ≤ (S.length : Int) := by omega
                  have t2 : (S.length : Int) ≤ (scap : Int) := by omega
                  have t3 : ¬ q' = scap := by omega
                  have t4 : ((S.length : Int) - (q' : Int)).toNat = S.length - q' := by omega
                  have t5 : ((scap : Int) - (q' : Int)).toNat = scap - q' := by omega
                  clear hd hc
                  go_wp2_with fail
                  go_loopw [105, 16] (fun iv _ wl => ∃ (i : Nat) (yv : Value), iv = .int .i64 ((i : Nat) : Int) ∧ i ≤ S.length - q' ∧ Below (h + 3) wr wl ∧ YA wl yb (h + 3) yv l.length (L.take (m + i))) (fun iv _ _ => S.length - q' - (intOf iv).toNat)
                  case atStart => exact ⟨0, _, rfl, Nat.zero_le _, .refl _ _, HYs.out⟩
                  case round =>
                    obtain ⟨i, yv, rfl, hi, hB, hY⟩ := hrel
                    have HBl := Lib.hid hB
                    have HYl := Lib.hid hY
                    have HCl := Lib.hid (HCr.out.later hB)
                    have HBw := Lib.hid (show Below w.heap.size w wr by rw [HH.out]; exact HCl.out.below)
                    have hR1 := HR.out.1
                    clear hB hY x0 a2
                    by_cases hil : i < S.length - q'
                    · obtain ⟨x, hx⟩ : ∃ x, S[q' + i]? = some x := ⟨S[q' + i], List.getElem?_eq_getElem (by omega)⟩
                      obtain ⟨y, hy, hyx⟩ := HR.out.2 i x hx
                      have hxl := HSt.out x (List.mem_of_getElem? hx)
                      have hyl := HLt.out y (List.mem_of_getElem? hy)
                      obtain ⟨b', off', cap', hv, _, _, _, _, d1⟩ := int_cell (HI.out.below HBw.out) hx
                      cases hv
                      have d2 : wr.cell? ⟨b, off + q' + i, none⟩ = some (.int .i64 ((x : Nat) : Int)) := by rw [Nat.add_assoc]; exact d1
                      have e6 := IntWalk.i64_in ((x : Int) + ((is : Int) - (was : Int))) (by omega)
                      have HYX := Lib.hid hyx
                      have hbig : (m + i + 1) * 8 ≤ 140737488355328 := by omega
                      have hlmi : (L.take (m + i)).length = m + i := by rw [List.length_take]; omega
                      obtain ⟨pa2, pc2, rfl⟩ := slice_of_owns HYl.out.own
                      have HYt := Lib.hid (show YA wr yb (h + 3) (.slice pa2 (m + i) pc2) l.length (L.take (m + i)) by have h1 := HYl.out; rw [hlmi] at h1; exact h1)
                      have hown : wr.ownsRow (h + 3) 3 1 (.slice pa2 (m + i) pc2) (m + i) ((L.take (m + i)).flatMap nE) := by have h1 := HYt.out.own; rw [hlmi] at h1; exact h1
                      have y0 := row_cells (i := 0) HYt.out.y rfl
                      have hby := HCl.out.hs
                      have g1 : (i : Int) < ((S.length - q' : Nat) : Int) := by omega
                      have g2 : (0 : Int) ≤ (i : Int) := by omega
                      have HMy := Lib.hid hy
                      clear hx hy d1 d0 hyx
                      go_wp2_with (at_builtin; refine wpList_app1 _ rfl (.tmp 110) (.tmp 114) _ rfl EI _ _ _ rfl hown 1 1 [.int .i64 ((x : Int) + ((is : Int) - (was : Int)))] rfl (by decide) rfl (by intro u hu; simp at hu; subst hu; rfl) hbig hby ?_; intro g c w7 ho7 hg7 hf7; rw [← HYX.out] at ho7; have HY8 := Lib.hid (HYt.out.push (by rw [hlmi]; exact ho7) hg7 hf7); rw [hlmi] at HY8; have yr7 := (hg7.block _ HYt.out.lt (fun e => HYt.out.sep e.symm)).trans HYt.out.y; have yf := row_warm yr7 0; have y7 : w7.cell? ⟨yb, 0, none⟩ = some (.slice pa2 (m + i) pc2) := row_cells (i := 0) yr7 rfl; have HB8 := Lib.hid ((below_app (Below.refl (h + 3) wr) hby hown (Nat.le_refl _) hg7).setCell (p := ⟨yb, 0, none⟩) HYt.out.hy (.slice (some ⟨g, 0, none⟩) (m + i + 1) c)))
                      have htk : L.take (m + (i + 1)) = L.take (m + i) ++ [y] := by rw [← Nat.add_assoc, List.take_add_one, HMy.out]; rfl
                      rw [← htk] at HY8
                      go_roundw
                      case rel => exact ⟨i + 1, _, by go_num, by omega, HBl.out.trans HB8.out, HY8.out⟩
                      case measure => simp [intOf] <;> omega
                    · have g1 : decide ((i : Int) < ((S.length - q' : Nat) : Int)) = false := by rw [decide_eq_false_iff_not]; omega
                      have g2 : decide (i < S.length - q') = false := decide_eq_false hil
                      have hall : L.take (m + i) = L := List.take_of_length_le (by omega)
                      rw [hall] at HYl
                      have y0 := row_cells (i := 0) HYl.out.y rfl
                      have y1 := row_cells (i := 1) HYl.out.y rfl
                      have r0 := row_cells (i := 0) HCl.out.r rfl
                      have r1 := row_cells (i := 1) HCl.out.r rfl
                      have f0 := row_warm HCl.out.r 0
                      have f1 := row_warm HCl.out.r 1
                      have hown := HYl.out.own
                      obtain ⟨ya, yc, rfl⟩ := slice_of_owns hown
                      have HOw := Lib.hid hown
                      clear hil hown d0
                      go_wp2_with fail
                      try rw [Exit.noGoto_ret]
                      refine ret_cell1 (ad := ⟨h + 2, 0, none⟩) rfl rfl (run_loadVar_mid _ _ 0 _ [.slice ya L.length yc, .int .i64 ((l.length : Nat) : Int)] _ (range2 (by go_simp) (by go_simp)) Tryz.underlying28 rfl (by kernel_rfl)) rfl ?_
                      have hBB := (HCl.out.below.setCell (p := ⟨h + 2, 0, none⟩) (by show h ≤ h + 2; omega) (.slice ya L.length yc)).setCell (p := ⟨h + 2, 1, none⟩) (by show h ≤ h + 2; omega) (.int .i64 ((l.length : Nat) : Int))
                      have ho := owns_store (owns_store HOw.out (b := h + 2) (i := 0) (u := .slice ya L.length yc) (by omega)) (b := h + 2) (i := 1) (u := .int .i64 ((l.length : Nat) : Int)) (by omega)
                      rw [HH.out]
                      exact ⟨_, rfl, hBB, _, rfl, owns_mono ho (by omega)⟩
                case' neg =>
                  have c2 : (z == ((a' : Nat) : Int)) = false := by simpa using hd
                  clear hd hc
          all_goals
            have hown : wr.ownsRow (h + 3) 3 1 (.slice pa1 m pc1) m ((L.take m).flatMap nE) := by have h1 := HYs.out.own; rw [hlm] at h1; exact h1
            have y0 := row_cells (i := 0) HYs.out.y rfl
            have hby := HCr.out.hs
            go_wp2_with (at_builtin; refine wpList_app1 _ rfl (.tmp 87) (.tmp 89) _ rfl EI _ _ _ rfl hown 1 1 (nE a') rfl (by decide) rfl (nE_one _) (by omega) hby ?_; intro g c w7 ho7 hg7 hf7; have HY8 := Lib.hid (HYs.out.push (by rw [hlm]; exact ho7) hg7 hf7); rw [hlm] at HY8; have yr7 := (hg7.block _ HYs.out.lt (fun e => HYs.out.sep e.symm)).trans HYs.out.y; have yf := row_warm yr7 0; have y7 : w7.cell? ⟨yb, 0, none⟩ = some (.slice pa1 m pc1) := row_cells (i := 0) yr7 rfl; have HB8 := Lib.hid ((below_app (Below.refl (h + 3) wr) hby hown (Nat.le_refl _) hg7).setCell (p := ⟨yb, 0, none⟩) HYs.out.hy (.slice (some ⟨g, 0, none⟩) (m + 1) c)))
            have HBw8 := Lib.hid (show Below w.heap.size w _ by rw [HH.out]; exact HCr.out.below.trans (HB8.out.mono (by omega)))
            refine (next_any (R := R) a' (HT.out.below HBw8.out) (HS.out.below HBw8.out) HOk.out hlt hl).mono ?_
            rintro e w9 ⟨rfl, hB9⟩
            have HB9 := Lib.hid (HB8.out.trans (hB9.mono (Nat.le_trans hby HB8.out.size)))
            have HY9 := Lib.hid (HY8.out.stays hB9)
            have htk : L.take (m + 1) = L.take m ++ [a'] := by rw [List.take_add_one, HMa.out]; rfl
            rw [← htk] at HY9
            have HN := Lib.hid (HNext.out m a' HMa.out)
            have hgt : a' < nxt (tabOf R) l a' := nxt_gt (tabOf R) hlt
            unfold nxt at HN hgt
            have HA2 := Lib.hid (show L[m + 1]? = some (a' + nx (tabOf R) (l.drop a')) ∨ (m + 1 = L.length ∧ a' + nx (tabOf R) (l.drop a') = l.length) by
              by_cases hm1 : m + 1 < L.length
              · exact .inl (HN.out.1 hm1)
              · exact .inr ⟨by omega, HN.out.2 (by omega)⟩)
            generalize a' + nx (tabOf R) (l.drop a') = a3 at hgt HA2 ⊢
            clear hB9 HN
            go_wp2_with fail
            go_roundw
            case rel => exact ⟨m + 1, a3, q', _, rfl, rfl, hq', hml, HA2.out, HBr.out.trans HB9.out, HY9.out⟩
            case measure => simp [intOf] <;> omega
      · have hae : a' = l.length := by
          rcases HA.out with h1 | h1
          · exact absurd (HLt.out a' (List.mem_of_getElem? h1)) hlt
          · exact h1.2
        have hme : m = L.length := by
          rcases HA.out with h1 | h1
          · exact absurd (HLt.out a' (List.mem_of_getElem? h1)) hlt
          · exact h1.1
        subst hae
        have y0 := row_cells (i := 0) HYr.out.y rfl
        have y1 := row_cells (i := 1) HYr.out.y rfl
        have r0 := row_cells (i := 0) HCr.out.r rfl
        have r1 := row_cells (i := 1) HCr.out.r rfl
        have f0 := row_warm HCr.out.r 0
        have f1 := row_warm HCr.out.r 1
        subst hme
        have hown := HYr.out.own
        rw [List.take_length] at hown
        obtain ⟨ya, yc, rfl⟩ := slice_of_owns hown
        have HOw := Lib.hid hown
        clear hlt hown
        go_wp2_with fail
        try rw [Exit.noGoto_ret]
        refine ret_cell1 (ad := ⟨h + 2, 0, none⟩) rfl rfl (run_loadVar_mid _ _ 0 _ [.slice ya L.length yc, .int .i64 ((l.length : Nat) : Int)] _ (range2 (by go_simp) (by go_simp)) Tryz.underlying28 rfl (by kernel_rfl)) rfl ?_
        have hBB := (HCr.out.below.setCell (p := ⟨h + 2, 0, none⟩) (by show h ≤ h + 2; omega) (.slice ya L.length yc)).setCell (p := ⟨h + 2, 1, none⟩) (by show h ≤ h + 2; omega) (.int .i64 ((l.length : Nat) : Int))
        have ho := owns_store (owns_store HOw.out (b := h + 2) (i := 0) (u := .slice ya L.length yc) (by omega)) (b := h + 2) (i := 1) (u := .int .i64 ((l.length : Nat) : Int)) (by omega)
        rw [HH.out]
        exact ⟨_, rfl, hBB, _, rfl, owns_mono ho (by omega)⟩
theorem change_any {R : List Rw} {o l : List Int} {f was is : Nat} {w : World} {v lv : Value} {tp : Nat} (H : (tabOf R).Ok) (hX : IdxIn w v (starts (tabOf R) o) o.length) (hT : Tb R w tp) (hs : RunesIn w lv l) (ok : RunesOk l) (hl : l.length ≤ 1000000) (ho : o.length ≤ 1000000) (hSl : (starts (tabOf R) o).length ≤ o.length) (hLl : (starts (tabOf R) l).length ≤ l.length) (hW : Win o l f was is) :
    Calls Tryz.prog 48 #[v, .pointer (some ⟨tp, 0, none⟩), lv, .agg #[.int .i64 ((f : Nat) : Int), .int .i64 ((was : Nat) : Int), .int .i64 ((is : Nat) : Int)]] w fun e w' => ∃ u, e = .returned u ∧ Below w.heap.size w w' ∧ IdxIn w' u (starts (tabOf R) l) l.length := by
  refine (change_own H hX hT hs ok hl ho hSl hLl hW).mono ?_
  rintro e w' ⟨u, rfl, hB, sv, hu, ho'⟩
  exact ⟨u, rfl, hB, sv, hu, ints_of_owns ho'⟩
end Go.Proofs.YtblajooebmjfoaaGreat
