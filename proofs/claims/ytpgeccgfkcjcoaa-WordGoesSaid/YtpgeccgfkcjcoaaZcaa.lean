/- Joined texts: BackP BackA BackB BackC BackD BackE. -/
import Derived.Deep.RegionHeld3
import Derived.WalkMore
import Derived.Test.YtpgeccgfkcjcoaaZaaa
import Derived.Test.YtpgeccgfkcjcoaaZbac
import Derived.Test.YtpgeccgfkcjcoaaZaba
/- Boundaries around a place, plainly. -/
namespace Go.Proofs.Ytpgeccgfkcjcoaa

def isB (T : Tab) (s : List Int) (i : Nat) : Bool := decide (i = s.length) || begAt T s i
/-- the last boundary that is not behind a place -/
def floorB (T : Tab) (s : List Int) : Nat → Nat
  | 0 => 0
  | i + 1 => if isB T s (i + 1) then i + 1 else floorB T s i
/-- the first one that is not ahead of it -/
def ceilB (T : Tab) (s : List Int) (i : Nat) : Nat := i + fnb T (s.take i).reverse (s.drop i)
def floorI (T : Tab) (s : List Int) (a : Int) : Nat := if a ≤ 0 then 0 else if (s.length : Int) ≤ a then s.length else floorB T s a.toNat
def ceilI (T : Tab) (s : List Int) (a : Int) : Nat := if a ≤ 0 then 0 else if (s.length : Int) ≤ a then s.length else ceilB T s a.toNat
theorem isB_len (T : Tab) (s : List Int) : isB T s s.length = true := by simp [isB]
theorem isB_lt {T : Tab} {s : List Int} {i : Nat} (h : i < s.length) : isB T s i = begAt T s i := by
  unfold isB
  rw [decide_eq_false (by omega), Bool.false_or]
theorem floorB_eq {T : Tab} {s : List Int} {f : Nat} : ∀ {a : Nat}, f ≤ a → (f = 0 ∨ isB T s f = true) → (∀ j, f < j → j ≤ a → isB T s j = false) → floorB T s a = f
  | 0, h, _, _ => by simp only [floorB]; omega
  | a + 1, h, hf, hn => by
    simp only [floorB]
    by_cases he : f = a + 1
    · subst he
      rcases hf with hf | hf
      · omega
      · rw [hf, if_pos rfl]
    · rw [hn (a + 1) (by omega) (Nat.le_refl _), if_neg Bool.false_ne_true]
      exact floorB_eq (by omega) hf fun j h1 h2 => hn j h1 (by omega)
theorem floorB_le (T : Tab) (s : List Int) : ∀ a, floorB T s a ≤ a
  | 0 => Nat.le_refl _
  | a + 1 => by
    simp only [floorB]
    split
    · exact Nat.le_refl _
    · have := floorB_le T s a; omega
theorem floorB_is (T : Tab) (s : List Int) : ∀ a, floorB T s a = 0 ∨ isB T s (floorB T s a) = true
  | 0 => .inl rfl
  | a + 1 => by
    simp only [floorB]
    split
    · rename_i h; exact .inr h
    · exact floorB_is T s a
theorem floorB_none (T : Tab) (s : List Int) : ∀ a j, floorB T s a < j → j ≤ a → isB T s j = false
  | 0, j, h1, h2 => by omega
  | a + 1, j, h1, h2 => by
    simp only [floorB] at h1
    split at h1
    · omega
    · rename_i h
      by_cases hj : j = a + 1
      · subst hj; exact eq_false_of_ne_true h
      · exact floorB_none T s a j h1 (by omega)
theorem ceilB_spec (T : Tab) (s : List Int) {i : Nat} (h : i ≤ s.length) : (∀ j, i ≤ j → j < ceilB T s i → begAt T s j = false) ∧ ceilB T s i ≤ s.length ∧ (ceilB T s i = s.length ∨ begAt T s (ceilB T s i) = true) := fnb_spec T s _ i rfl h
theorem ceilB_eq {T : Tab} {s : List Int} {i c : Nat} (h : i ≤ s.length) (hic : i ≤ c) (hn : ∀ j, i ≤ j → j < c → begAt T s j = false) (hc : c ≤ s.length) (hb : c = s.length ∨ begAt T s c = true) : ceilB T s i = c := by
  obtain ⟨h1, h2, h3⟩ := ceilB_spec T s h
  have hge : i ≤ ceilB T s i := Nat.le_add_right _ _
  rcases Nat.lt_trichotomy (ceilB T s i) c with h4 | h4 | h4
  · rcases h3 with h3 | h3
    · omega
    · rw [hn _ hge h4] at h3; cases h3
  · exact h4
  · rcases hb with hb | hb
    · omega
    · rw [h1 c hic h4] at hb; cases hb
theorem ceilB_step {T : Tab} {s : List Int} {k : Nat} (hk : k < s.length) : ceilB T s k = if begAt T s k then k else ceilB T s (k + 1) := by
  have hx : s[k]? = some s[k] := List.getElem?_eq_getElem hk
  generalize s[k] = x at hx
  unfold ceilB begAt
  rw [drop_of_get hx, take_succ_rev hx, hx]
  simp only [fnb]
  split <;> omega
theorem ceilB_len (T : Tab) (s : List Int) : ceilB T s s.length = s.length := by unfold ceilB; rw [List.drop_length]; rfl
/-- from the last boundary not behind a place, that is ahead of it, the next one is the first not ahead of it -/
theorem ceil_of_floor {T : Tab} (H : T.Ok) {s : List Int} {a : Nat} (ha : a < s.length) (hf : floorB T s a < a) : ceilB T s a = floorB T s a + nx T (s.drop (floorB T s a)) := by
  have hb : begAt T s (floorB T s a) = true := by
    rcases floorB_is T s a with h | h
    · rw [h]; exact begAt_zero T (fun e => by rw [e] at ha; cases ha)
    · rwa [isB_lt (by omega)] at h
  obtain ⟨h1, h2, h3, h4⟩ := nx_spec H hb
  have h5 := floorB_none T s a
  refine ceilB_eq (Nat.le_of_lt ha) ?_ (fun j h6 h7 => h3 j (by omega) h7) h2 h4
  rcases Nat.lt_or_ge (floorB T s a + nx T (s.drop (floorB T s a))) a with h6 | h6
  · have h8 := h5 _ h1 (Nat.le_of_lt h6)
    rw [isB_lt (by omega)] at h8
    rcases h4 with h4 | h4
    · omega
    · rw [h8] at h4; cases h4
  · exact h6
theorem floorI_nonpos {T : Tab} {s : List Int} {a : Int} (h : a ≤ 0) : floorI T s a = 0 := by unfold floorI; rw [if_pos h]
theorem floorI_big {T : Tab} {s : List Int} {a : Int} (h : ¬ a ≤ 0) (h2 : (s.length : Int) ≤ a) : floorI T s a = s.length := by unfold floorI; rw [if_neg h, if_pos h2]
theorem floorI_mid {T : Tab} {s : List Int} {a : Nat} (h : 0 < a) (h2 : a < s.length) : floorI T s (a : Int) = floorB T s a := by unfold floorI; rw [if_neg (by omega), if_neg (by omega)]; rfl
theorem ceilI_nonpos {T : Tab} {s : List Int} {a : Int} (h : a ≤ 0) : ceilI T s a = 0 := by unfold ceilI; rw [if_pos h]
theorem ceilI_big {T : Tab} {s : List Int} {a : Int} (h : ¬ a ≤ 0) (h2 : (s.length : Int) ≤ a) : ceilI T s a = s.length := by unfold ceilI; rw [if_neg h, if_pos h2]
theorem ceilI_mid {T : Tab} {s : List Int} {a : Nat} (h : 0 < a) (h2 : a < s.length) : ceilI T s (a : Int) = ceilB T s a := by unfold ceilI; rw [if_neg (by omega), if_neg (by omega)]; rfl
theorem floorI_le (T : Tab) (s : List Int) (a : Int) : floorI T s a ≤ s.length := by
  unfold floorI
  split
  · exact Nat.zero_le _
  · split
    · exact Nat.le_refl _
    · have := floorB_le T s a.toNat; omega
theorem floorI_self {T : Tab} {s : List Int} {a : Int} : ¬ a ≤ 0 → a < s.length → (floorI T s a : Int) ≤ a := fun h1 h2 => by
  unfold floorI
  rw [if_neg h1, if_neg (by omega)]
  have := floorB_le T s a.toNat; omega
end Go.Proofs.Ytpgeccgfkcjcoaa

/- back: hangs, sure. -/
namespace Go.Proofs.Ytpgeccgfkcjcoaa
open Go.RowKit

section
variable {R : List Rw} {s : List Int} {w : World} {sv : Value} {tp : Nat}
set_option maxRecDepth 100000 in
set_option maxHeartbeats 4000000 in
theorem hangs_any (a r : Int) (hT : Tb R w tp) (ha : I32 a) (hr : I32 r) :
    Calls Try.prog 99 #[.pointer (some ⟨tp, 0, none⟩), .int .i32 a, .int .i32 r] w fun e w' => e = .returned (.bool (hangsB (tabOf R) a r)) ∧ Below w.heap.size w w' := by
  have HT := Lib.hid hT
  have HA := Lib.hid ha
  have HR := Lib.hid hr
  have HV := Lib.hid (show hangsB (tabOf R) a r = if (tabOf R).b r = 6 then decide ((tabOf R).b a = 6) else if (tabOf R).b r = 0 then (decide ((tabOf R).b a = 5) && (tabOf R).p r) || (decide ((tabOf R).c r = 2) && (decide ((tabOf R).c a ≠ 0) && decide ((tabOf R).c a ≠ 2))) else false from rfl)
  clear hT ha hr
  go_enter Try.func99, Try.ntmps99
  go_wp2_with fail
  refine (HT.out.break r HR.out).mono ?_
  rintro e w1 ⟨rfl, hB1⟩
  have HT1 := Lib.hid (HT.out.below hB1)
  have HB1 := Lib.hid hB1
  clear hB1 HT
  generalize (tabOf R).b r = br at HV ⊢
  by_cases b6 : br = 6
  · have e6 : (br == 6) = true := by simpa using b6
    have HV2 := Lib.hid (show hangsB (tabOf R) a r = decide ((tabOf R).b a = 6) by rw [HV.out, if_pos b6])
    clear b6
    go_wp2_with fail
    refine (HT1.out.break a HA.out).mono ?_
    rintro e w2 ⟨rfl, hB2⟩
    have HB2 := Lib.hid (below_trans' HB1.out hB2)
    clear hB2
    go_wp2_with fail
    go_ret
    exact ⟨ret_b (by rw [HV2.out]; rfl), HB2.out⟩
  · have e6 : (br == 6) = false := by simpa using b6
    by_cases b0 : br = 0
    · have e0 : (br == 0) = true := by simpa using b0
      have HV2 := Lib.hid (show hangsB (tabOf R) a r = ((decide ((tabOf R).b a = 5) && (tabOf R).p r) || (decide ((tabOf R).c r = 2) && (decide ((tabOf R).c a ≠ 0) && decide ((tabOf R).c a ≠ 2)))) by rw [HV.out, if_neg b6, if_pos b0])
      clear b6 b0
      go_wp2_with fail
      refine (HT1.out.break a HA.out).mono ?_
      rintro e w2 ⟨rfl, hB2⟩
      have HT2 := Lib.hid (HT1.out.below hB2)
      have HB2 := Lib.hid (below_trans' HB1.out hB2)
      clear hB2 HT1 HB1
      generalize (tabOf R).b a = ba at HV2 ⊢
      by_cases b5 : ba = 5
      · have e5 : (ba == 5) = true := by simpa using b5
        rw [decide_eq_true b5, Bool.true_and] at HV2
        clear b5
        go_wp2_with fail
        refine (HT2.out.pict r HR.out).mono ?_
        rintro e w3 ⟨rfl, hB3⟩
        have HT3 := Lib.hid (HT2.out.below hB3)
        have HB3 := Lib.hid (below_trans' HB2.out hB3)
        clear hB3 HT2 HB2
        generalize (tabOf R).p r = pr at HV2 ⊢
        cases pr with
        | true =>
          go_wp2_with fail
          go_ret
          exact ⟨ret_b (by rw [HV2.out]; rfl), HB3.out⟩
        | false =>
          rw [Bool.false_or] at HV2
          go_wp2_with fail
          refine (HT3.out.conj r HR.out).mono ?_
          rintro e w4 ⟨rfl, hB4⟩
          have HT4 := Lib.hid (HT3.out.below hB4)
          have HB4 := Lib.hid (below_trans' HB3.out hB4)
          clear hB4 HT3 HB3
          generalize (tabOf R).c r = cr at HV2 ⊢
          by_cases c2 : cr = 2
          · have f2 : (cr == 2) = true := by simpa using c2
            rw [decide_eq_true c2, Bool.true_and] at HV2
            clear c2
            go_wp2_with fail
            refine (HT4.out.conj a HA.out).mono ?_
            rintro e w5 ⟨rfl, hB5⟩
            have HT5 := Lib.hid (HT4.out.below hB5)
            have HB5 := Lib.hid (below_trans' HB4.out hB5)
            clear hB5 HT4 HB4
            have hcall := HT5.out.conj a HA.out
            generalize (tabOf R).c a = ca at HV2 hcall ⊢
            have HC5 := Lib.hid hcall
            clear hcall
            by_cases c0 : ca = 0
            · have f0 : (ca != 0) = false := by simpa using c0
              have HV3 := Lib.hid (show hangsB (tabOf R) a r = false by rw [HV2.out, c0]; rfl)
              clear c0
              go_wp2_with fail
              go_ret
              exact ⟨ret_b (by rw [HV3.out]), HB5.out⟩
            · have f0 : (ca != 0) = true := by simpa using c0
              have HV3 := Lib.hid (show hangsB (tabOf R) a r = decide (ca ≠ 2) by rw [HV2.out, decide_eq_true c0, Bool.true_and])
              clear c0
              go_wp2_with fail
              refine HC5.out.mono ?_
              rintro e w6 ⟨rfl, hB6⟩
              have HB6 := Lib.hid (below_trans' HB5.out hB6)
              clear hB6
              go_wp2_with fail
              go_ret
              exact ⟨ret_b (by rw [HV3.out]; simp [bne]; rfl), HB6.out⟩
          · have f2 : (cr == 2) = false := by simpa using c2
            rw [decide_eq_false c2, Bool.false_and] at HV2
            clear c2
            go_wp2_with fail
            go_ret
            exact ⟨ret_b (by rw [HV2.out]), HB4.out⟩
      · have e5 : (ba == 5) = false := by simpa using b5
        rw [decide_eq_false b5, Bool.false_and, Bool.false_or] at HV2
        clear b5
        have HT3 := Lib.hid HT2.out
        have HB3 := Lib.hid HB2.out
        go_wp2_with fail
        refine (HT3.out.conj r HR.out).mono ?_
        rintro e w4 ⟨rfl, hB4⟩
        have HT4 := Lib.hid (HT3.out.below hB4)
        have HB4 := Lib.hid (below_trans' HB3.out hB4)
        clear hB4 HT3 HB3
        generalize (tabOf R).c r = cr at HV2 ⊢
        by_cases c2 : cr = 2
        · have f2 : (cr == 2) = true := by simpa using c2
          rw [decide_eq_true c2, Bool.true_and] at HV2
          clear c2
          go_wp2_with fail
          refine (HT4.out.conj a HA.out).mono ?_
          rintro e w5 ⟨rfl, hB5⟩
          have HT5 := Lib.hid (HT4.out.below hB5)
          have HB5 := Lib.hid (below_trans' HB4.out hB5)
          clear hB5 HT4 HB4
          have hcall := HT5.out.conj a HA.out
          generalize (tabOf R).c a = ca at HV2 hcall ⊢
          have HC5 := Lib.hid hcall
          clear hcall
          by_cases c0 : ca = 0
          · have f0 : (ca != 0) = false := by simpa using c0
            have HV3 := Lib.hid (show hangsB (tabOf R) a r = false by rw [HV2.out, c0]; rfl)
            clear c0
            go_wp2_with fail
            go_ret
            exact ⟨ret_b (by rw [HV3.out]), HB5.out⟩
          · have f0 : (ca != 0) = true := by simpa using c0
            have HV3 := Lib.hid (show hangsB (tabOf R) a r = decide (ca ≠ 2) by rw [HV2.out, decide_eq_true c0, Bool.true_and])
            clear c0
            go_wp2_with fail
            refine HC5.out.mono ?_
            rintro e w6 ⟨rfl, hB6⟩
            have HB6 := Lib.hid (below_trans' HB5.out hB6)
            clear hB6
            go_wp2_with fail
            go_ret
            exact ⟨ret_b (by rw [HV3.out]; simp [bne]; rfl), HB6.out⟩
        · have f2 : (cr == 2) = false := by simpa using c2
          rw [decide_eq_false c2, Bool.false_and] at HV2
          clear c2
          go_wp2_with fail
          go_ret
          exact ⟨ret_b (by rw [HV2.out]), HB4.out⟩
    · have e0 : (br == 0) = false := by simpa using b0
      have HV2 := Lib.hid (show hangsB (tabOf R) a r = false by rw [HV.out, if_neg b6, if_neg b0])
      clear b6 b0
      go_wp2_with fail
      go_ret
      exact ⟨ret_b (by rw [HV2.out]), HB1.out⟩
end
end Go.Proofs.Ytpgeccgfkcjcoaa

/- back.sure. -/
namespace Go.Proofs.Ytpgeccgfkcjcoaa
open Go.RowKit

section
variable {R : List Rw} {s : List Int} {w : World} {sv : Value} {tp : Nat}
set_option maxRecDepth 100000 in
set_option maxHeartbeats 16000000 in
theorem sure_any (a : Nat) (H : (tabOf R).Ok) (hT : Tb R w tp) (hs : RunesIn w sv s) (ok : RunesOk s) (ha : a < s.length) (hl : s.length ≤ 1000000) :
    Calls Try.prog 63 #[.pointer (some ⟨tp, 0, none⟩), sv, .int .i64 (a : Nat)] w fun e w' => (∃ q : Nat, e = .returned (.int .i64 (q : Nat)) ∧ q ≤ a ∧ begAt (tabOf R) s q = true) ∧ Below w.heap.size w w' := by
  have HT := Lib.hid hT
  have HS := Lib.hid hs
  have HOk := Lib.hid ok
  have HTb := Lib.hid H
  obtain ⟨sl, cap, rfl, hcap, hmax, hcells⟩ := runes_cells hs
  unfold maxLen at hmax
  obtain ⟨b0, off, rfl, _, _⟩ := hcells (by omega)
  clear hT hs ok hcells H
  go_enter Try.func63, Try.ntmps63
  go_wp2_with fail
  go_loopw [2] (fun iv wr => ∃ k : Nat, k ≤ a ∧ iv = .int .i64 ((k : Nat) : Int) ∧ Below w.heap.size w wr) (fun iv _ => (intOf iv).toNat)
  case atStart => exact ⟨a, Nat.le_refl _, rfl, .refl _ _⟩
  case round =>
    obtain ⟨k, hk, rfl, hB⟩ := hrel
    have HB := Lib.hid hB
    clear hB
    rcases k with _ | k
    · have HV := Lib.hid (begAt_zero (tabOf R) (s := s) (fun e => by rw [e] at ha; cases ha))
      go_wp2_with fail
      go_ret
      exact ⟨⟨0, rfl, Nat.zero_le _, HV.out⟩, HB.out⟩
    · obtain ⟨x, hx⟩ : ∃ x, s[k]? = some x := ⟨s[k], List.getElem?_eq_getElem (by omega)⟩
      obtain ⟨y, hy⟩ : ∃ x, s[k + 1]? = some x := ⟨s[k + 1], List.getElem?_eq_getElem (by omega)⟩
      have HIx := Lib.hid (HOk.out.get hx)
      have HIy := Lib.hid (HOk.out.get hy)
      obtain ⟨b1, off1, cap1, hv, _, _, _, _, dx⟩ := rune_cell (HS.out.below HB.out) hx
      cases hv
      obtain ⟨b1, off1, cap1, hv, _, _, _, _, dy⟩ := rune_cell (HS.out.below HB.out) hy
      cases hv
      have HSure := Lib.hid (fun (h1 : cutB (tabOf R) (nextSt (tabOf R) St0 x) y = true) (h2 : hangsB (tabOf R) x y = false) => show begAt (tabOf R) s (k + 1) = true by
        unfold begAt
        rw [hy, take_succ_rev hx]
        exact two_sure HTb.out _ h1 h2)
      have e1 : (((k + 1 : Nat) : Int)) = (k : Int) + 1 := by omega
      have r0 : (k : Int) + 1 > 0 := by omega
      have r1 : (k : Int) + 1 - 1 = (k : Int) := by omega
      have r2 := IntWalk.i64_in (k : Int) (by omega)
      have r3 : (0 : Int) ≤ (k : Int) := by omega
      have r4 : (k : Int) < (s.length : Int) := by omega
      have r5 : (0 : Int) ≤ (k : Int) + 1 := by omega
      have r6 : (k : Int) + 1 < (s.length : Int) := by omega
      have hbl : b0 < wr.heap.size := World.block_lt_of_cell? wr _ dx
      have HBz := Lib.hid (HB.out.alloc HB.out.size (.cells #[.bool false, .int .i64 0, .int .i64 0, .int .i64 0, .bool false] 140))
      have gx : (wr.alloc (.cells #[.bool false, .int .i64 0, .int .i64 0, .int .i64 0, .bool false] 140)).cell? ⟨b0, off + k, none⟩ = some (.int .i32 x) := (World.cell?_of_block (Below.heap_alloc _ _ _ hbl)).trans dx
      have gy : (wr.alloc (.cells #[.bool false, .int .i64 0, .int .i64 0, .int .i64 0, .bool false] 140)).cell? ⟨b0, off + (k + 1), none⟩ = some (.int .i32 y) := (World.cell?_of_block (Below.heap_alloc _ _ _ hbl)).trans dy
      have hz : stRow (wr.alloc (.cells #[.bool false, .int .i64 0, .int .i64 0, .int .i64 0, .bool false] 140)) wr.heap.size ⟨false, 0, 0, 0, false⟩ := heap_alloc_new wr _
      have HZ := Lib.hid hz
      have HCall := Lib.hid (step_any St0 x (wr.alloc (.cells #[.bool false, .int .i64 0, .int .i64 0, .int .i64 0, .bool false] 140)).drew ((HT.out.below HBz.out).below (below_dN (.refl _ _) 1)) HIx.out)
      have HX := Lib.hid hx
      have HY := Lib.hid hy
      clear hx hy dx dy
      go_wp2_with fail
      have c0 : (wr.alloc (.cells #[.bool false, .int .i64 0, .int .i64 0, .int .i64 0, .bool false] 140)).cell? ⟨wr.heap.size, 0, none⟩ = some (.bool false) := row_cells hz rfl
      have c1 : (wr.alloc (.cells #[.bool false, .int .i64 0, .int .i64 0, .int .i64 0, .bool false] 140)).cell? ⟨wr.heap.size, 1, none⟩ = some (.int .i64 0) := row_cells hz rfl
      have c2 : (wr.alloc (.cells #[.bool false, .int .i64 0, .int .i64 0, .int .i64 0, .bool false] 140)).cell? ⟨wr.heap.size, 2, none⟩ = some (.int .i64 0) := row_cells hz rfl
      have c3 : (wr.alloc (.cells #[.bool false, .int .i64 0, .int .i64 0, .int .i64 0, .bool false] 140)).cell? ⟨wr.heap.size, 3, none⟩ = some (.int .i64 0) := row_cells hz rfl
      have c4 : (wr.alloc (.cells #[.bool false, .int .i64 0, .int .i64 0, .int .i64 0, .bool false] 140)).cell? ⟨wr.heap.size, 4, none⟩ = some (.bool false) := row_cells hz rfl
      unfold stV at HCall
      dsimp only [St0] at HCall
      have HSure2 := HSure.out
      unfold St0 at HSure2
      generalize hn : nextSt (tabOf R) ⟨false, 0, 0, 0, false⟩ x = n at HSure2 HCall
      obtain ⟨s0, s1, s2, s3, s4⟩ := n
      generalize cutB (tabOf R) ⟨false, 0, 0, 0, false⟩ x = cu0 at HCall
      have HSure := Lib.hid HSure2
      clear hn HSure2
      refine wp_region_held_drew (S := fun w' => w'.cell? ⟨b0, off + k, none⟩ = some (.int .i32 x)) (by kernel_rfl) gx (fun hHeld => ?_)
      refine hd_take 1 rfl (by kernel_rfl) (by kernel_rfl) (by kernel_rfl) (fun _ _ _ h => h) (by rfl) (by intro w hSw; (try dsimp only at hSw); go_split_ands; go_simp; first | done | with_reducible rfl) hHeld ?_
      simp only [Act.put, List.setIfInBounds_toArray, List.set_cons_zero, List.set_cons_succ]
      refine hd_take 2 rfl (by kernel_rfl) (by kernel_rfl) (by kernel_rfl) (fun _ _ _ h => h) (by rfl) (by intro w hSw; (try dsimp only at hSw); go_split_ands; go_simp; first | done | with_reducible rfl) hHeld ?_
      simp only [Act.put, List.setIfInBounds_toArray, List.set_cons_zero, List.set_cons_succ]
      refine hd_take 3 rfl (by kernel_rfl) (by kernel_rfl) (by kernel_rfl) (fun _ _ _ h => h) (by rfl) (by intro w hSw; (try dsimp only at hSw); go_split_ands; go_simp; first | done | with_reducible rfl) hHeld ?_
      simp only [Act.put, List.setIfInBounds_toArray, List.set_cons_zero, List.set_cons_succ]
      refine hd_take 4 rfl (by kernel_rfl) (by kernel_rfl) (by kernel_rfl) (fun _ _ _ h => h) (by rfl) (by intro w hSw; (try dsimp only at hSw); go_split_ands; go_simp; first | done | with_reducible rfl) hHeld ?_
      simp only [Act.put, List.setIfInBounds_toArray, List.set_cons_zero, List.set_cons_succ]
      refine hd_take 5 rfl (by kernel_rfl) (by kernel_rfl) (by kernel_rfl) (fun _ _ _ h => h) (by rfl) (by intro w hSw; (try dsimp only at hSw); go_split_ands; go_simp; first | done | with_reducible rfl) hHeld ?_
      simp only [Act.put, List.setIfInBounds_toArray, List.set_cons_zero, List.set_cons_succ]
      refine hd_take 6 rfl (by kernel_rfl) (by kernel_rfl) (by kernel_rfl) (fun _ _ _ h => h) (by rfl) (by intro w hSw; (try dsimp only at hSw); go_split_ands; go_simp; first | done | with_reducible rfl) hHeld ?_
      simp only [Act.put, List.setIfInBounds_toArray, List.set_cons_zero, List.set_cons_succ]
      refine hd_step 0 (by kernel_rfl) rfl (fun K hK => ?_)
      go_simp
      refine hK.out _ _ gx (fun hHeld => ?_)
      clear hK K
      try simp only [Act.put, List.setIfInBounds_toArray, List.set_cons_zero, List.set_cons_succ]
      refine hd_step 7 (by kernel_rfl) rfl (fun K hK => ?_)
      go_simp
      go_at_call 98
      refine HCall.out.mono ?_
      rintro e w5 ⟨rfl, hB5⟩
      have px := cell_later hB5 (show (wr.alloc (.cells #[.bool false, .int .i64 0, .int .i64 0, .int .i64 0, .bool false] 140)).drew.cell? _ = _ from gx)
      have py := cell_later hB5 (show (wr.alloc (.cells #[.bool false, .int .i64 0, .int .i64 0, .int .i64 0, .bool false] 140)).drew.cell? _ = _ from gy)
      have hz5 := stRow.kept (show stRow (wr.alloc (.cells #[.bool false, .int .i64 0, .int .i64 0, .int .i64 0, .bool false] 140)).drew wr.heap.size _ from HZ.out) hB5
      have z0 : w5.cell? ⟨wr.heap.size, 0, none⟩ = some (.bool false) := row_cells hz5 rfl
      have z1 : w5.cell? ⟨wr.heap.size, 1, none⟩ = some (.int .i64 0) := row_cells hz5 rfl
      have z2 : w5.cell? ⟨wr.heap.size, 2, none⟩ = some (.int .i64 0) := row_cells hz5 rfl
      have z3 : w5.cell? ⟨wr.heap.size, 3, none⟩ = some (.int .i64 0) := row_cells hz5 rfl
      have z4 : w5.cell? ⟨wr.heap.size, 4, none⟩ = some (.bool false) := row_cells hz5 rfl
      have y0 := row_warm hz5 0
      have y1 := row_warm hz5 1
      have y2 := row_warm hz5 2
      have y3 := row_warm hz5 3
      have y4 := row_warm hz5 4
      have HZ5 := Lib.hid hz5
      have HB5 := Lib.hid ((below_dN HBz.out 1).trans (hB5.mono (below_dN HBz.out 1).size))
      have hne : wr.heap.size ≠ b0 := by omega
      clear hz5 hB5
      go_wp2_with fail
      refine hK.out _ _ px (fun hHeld => ?_)
      clear hK K
      try simp only [Act.put, List.setIfInBounds_toArray, List.set_cons_zero, List.set_cons_succ]
      refine hd_take 8 rfl (by kernel_rfl) (by kernel_rfl) (by kernel_rfl) (fun _ _ _ h => h) (by rfl) (by intro w hSw; (try dsimp only at hSw); go_split_ands; go_simp; first | done | with_reducible rfl) hHeld ?_
      simp only [Act.put, List.setIfInBounds_toArray, List.set_cons_zero, List.set_cons_succ]
      refine hd_take 9 rfl (by kernel_rfl) (by kernel_rfl) (by kernel_rfl) (fun _ _ _ h => h) (by rfl) (by intro w hSw; (try dsimp only at hSw); go_split_ands; go_simp; first | done | with_reducible rfl) hHeld ?_
      simp only [Act.put, List.setIfInBounds_toArray, List.set_cons_zero, List.set_cons_succ]
      refine hd_take 10 rfl (by kernel_rfl) (by kernel_rfl) (by kernel_rfl) (fun _ _ _ h => h) (by rfl) (by intro w hSw; (try dsimp only at hSw); go_split_ands; go_simp; first | done | with_reducible rfl) hHeld ?_
      simp only [Act.put, List.setIfInBounds_toArray, List.set_cons_zero, List.set_cons_succ]
      refine hd_step 11 (by kernel_rfl) rfl (fun K hK => ?_)
      go_simp
      refine hK.out _ _ (set5_other px hne) (fun hHeld => ?_)
      clear hK K
      try simp only [Act.put, List.setIfInBounds_toArray, List.set_cons_zero, List.set_cons_succ]
      refine wpAnyH_done (by kernel_rfl) ?_ _
      have hR : stRow (((((w5.setCell ⟨wr.heap.size, 0, none⟩ (.bool s0)).setCell ⟨wr.heap.size, 1, none⟩ (.int .i64 s1)).setCell ⟨wr.heap.size, 2, none⟩ (.int .i64 s2)).setCell ⟨wr.heap.size, 3, none⟩ (.int .i64 s3)).setCell ⟨wr.heap.size, 4, none⟩ (.bool s4)) wr.heap.size ⟨s0, s1, s2, s3, s4⟩ := stRow_set HZ5.out ⟨s0, s1, s2, s3, s4⟩
      have HRs := Lib.hid hR
      have hB4 : Below w.heap.size w (((((w5.setCell ⟨wr.heap.size, 0, none⟩ (.bool s0)).setCell ⟨wr.heap.size, 1, none⟩ (.int .i64 s1)).setCell ⟨wr.heap.size, 2, none⟩ (.int .i64 s2)).setCell ⟨wr.heap.size, 3, none⟩ (.int .i64 s3)).setCell ⟨wr.heap.size, 4, none⟩ (.bool s4)) := below_set5 HB5.out HB.out.size
      have HB4 := Lib.hid hB4
      have dx : (((((w5.setCell ⟨wr.heap.size, 0, none⟩ (.bool s0)).setCell ⟨wr.heap.size, 1, none⟩ (.int .i64 s1)).setCell ⟨wr.heap.size, 2, none⟩ (.int .i64 s2)).setCell ⟨wr.heap.size, 3, none⟩ (.int .i64 s3)).setCell ⟨wr.heap.size, 4, none⟩ (.bool s4)).cell? ⟨b0, off + k, none⟩ = some (.int .i32 x) := set5_other px hne
      have d0 : (((((w5.setCell ⟨wr.heap.size, 0, none⟩ (.bool s0)).setCell ⟨wr.heap.size, 1, none⟩ (.int .i64 s1)).setCell ⟨wr.heap.size, 2, none⟩ (.int .i64 s2)).setCell ⟨wr.heap.size, 3, none⟩ (.int .i64 s3)).setCell ⟨wr.heap.size, 4, none⟩ (.bool s4)).cell? ⟨b0, off + (k + 1), none⟩ = some (.int .i32 y) := set5_other py hne
      clear hHeld px py z0 z1 z2 z3 z4 y0 y1 y2 y3 y4 c0 c1 c2 c3 c4 gx gy hz HZ HZ5 HB5 HBz HCall hB4 hne hbl
      generalize (((((w5.setCell ⟨wr.heap.size, 0, none⟩ (.bool s0)).setCell ⟨wr.heap.size, 1, none⟩ (.int .i64 s1)).setCell ⟨wr.heap.size, 2, none⟩ (.int .i64 s2)).setCell ⟨wr.heap.size, 3, none⟩ (.int .i64 s3)).setCell ⟨wr.heap.size, 4, none⟩ (.bool s4)) = w4 at hR HRs HB4 dx d0 ⊢
      generalize wr.heap.size = n1 at hR HRs ⊢
      go_wp2_with fail
      have c0 : w4.cell? ⟨n1, 0, none⟩ = some (.bool s0) := row_cells hR rfl
      have c1 : w4.cell? ⟨n1, 1, none⟩ = some (.int .i64 s1) := row_cells hR rfl
      have c2 : w4.cell? ⟨n1, 2, none⟩ = some (.int .i64 s2) := row_cells hR rfl
      have c3 : w4.cell? ⟨n1, 3, none⟩ = some (.int .i64 s3) := row_cells hR rfl
      have c4 : w4.cell? ⟨n1, 4, none⟩ = some (.bool s4) := row_cells hR rfl
      have HBz := Lib.hid (HB4.out.alloc HB4.out.size (.cells #[.bool false, .int .i64 0, .int .i64 0, .int .i64 0, .bool false] 140))
      have HCall := Lib.hid (step_any ⟨s0, s1, s2, s3, s4⟩ y (w4.alloc (.cells #[.bool false, .int .i64 0, .int .i64 0, .int .i64 0, .bool false] 140)).drew ((HT.out.below HBz.out).below (below_dN (.refl _ _) 1)) HIy.out)
      have HCallA := Lib.hid (step_any ⟨s0, s1, s2, s3, s4⟩ y w4.drew ((HT.out.below HB4.out).below (below_dN (.refl _ _) 1)) HIy.out)
      have hsl := HRs.out.lt
      have hdl : b0 < w4.heap.size := World.block_lt_of_cell? w4 _ d0
      have g0 : (w4.alloc (.cells #[.bool false, .int .i64 0, .int .i64 0, .int .i64 0, .bool false] 140)).drew.cell? ⟨n1, 0, none⟩ = some (.bool s0) := (World.cell?_of_block (Below.heap_alloc _ _ _ hsl)).trans c0
      have g1 : (w4.alloc (.cells #[.bool false, .int .i64 0, .int .i64 0, .int .i64 0, .bool false] 140)).drew.cell? ⟨n1, 1, none⟩ = some (.int .i64 s1) := (World.cell?_of_block (Below.heap_alloc _ _ _ hsl)).trans c1
      have g2 : (w4.alloc (.cells #[.bool false, .int .i64 0, .int .i64 0, .int .i64 0, .bool false] 140)).drew.cell? ⟨n1, 2, none⟩ = some (.int .i64 s2) := (World.cell?_of_block (Below.heap_alloc _ _ _ hsl)).trans c2
      have g3 : (w4.alloc (.cells #[.bool false, .int .i64 0, .int .i64 0, .int .i64 0, .bool false] 140)).drew.cell? ⟨n1, 3, none⟩ = some (.int .i64 s3) := (World.cell?_of_block (Below.heap_alloc _ _ _ hsl)).trans c3
      have g4 : (w4.alloc (.cells #[.bool false, .int .i64 0, .int .i64 0, .int .i64 0, .bool false] 140)).drew.cell? ⟨n1, 4, none⟩ = some (.bool s4) := (World.cell?_of_block (Below.heap_alloc _ _ _ hsl)).trans c4
      have g5 : (w4.alloc (.cells #[.bool false, .int .i64 0, .int .i64 0, .int .i64 0, .bool false] 140)).drew.cell? ⟨b0, off + (k + 1), none⟩ = some (.int .i32 y) := (World.cell?_of_block (Below.heap_alloc _ _ _ hdl)).trans d0
      have HG := Lib.hid (show stRow (w4.alloc (.cells #[.bool false, .int .i64 0, .int .i64 0, .int .i64 0, .bool false] 140)).drew n1 ⟨s0, s1, s2, s3, s4⟩ from (Below.heap_alloc _ _ _ hsl).trans HRs.out)
      have HZ := Lib.hid (show stRow (w4.alloc (.cells #[.bool false, .int .i64 0, .int .i64 0, .int .i64 0, .bool false] 140)).drew w4.heap.size ⟨false, 0, 0, 0, false⟩ from heap_alloc_new w4 _)
      have hne1 : w4.heap.size ≠ n1 := by omega
      have hne2 : w4.heap.size ≠ b0 := by omega
      clear hR
      unfold stV at HCall HCallA
      dsimp only at HCall HCallA
      generalize hn : nextSt (tabOf R) ⟨s0, s1, s2, s3, s4⟩ y = n at HSure HCall HCallA
      obtain ⟨m0, m1, m2, m3, m4⟩ := n
      generalize hc : cutB (tabOf R) ⟨s0, s1, s2, s3, s4⟩ y = cu at HSure HCall HCallA
      clear hn hc
      go_wp2_with fail
      refine wp_region_held_drew (S := fun w' => w'.cell? ⟨n1, 0, none⟩ = some (.bool s0) ∧ w'.cell? ⟨n1, 1, none⟩ = some (.int .i64 s1) ∧ w'.cell? ⟨n1, 2, none⟩ = some (.int .i64 s2) ∧ w'.cell? ⟨n1, 3, none⟩ = some (.int .i64 s3) ∧ w'.cell? ⟨n1, 4, none⟩ = some (.bool s4) ∧ w'.cell? ⟨b0, off + (k + 1), none⟩ = some (.int .i32 y)) (by kernel_rfl) ⟨c0, c1, c2, c3, c4, d0⟩ (fun hHeld => ?_)
      refine hd_take 0 rfl (by kernel_rfl) (by kernel_rfl) (by kernel_rfl) (fun _ _ _ h => h) (by rfl) (by intro w hSw; (try dsimp only at hSw); go_split_ands; go_simp; first | done | with_reducible rfl) hHeld ?_
      simp only [Act.put, List.setIfInBounds_toArray, List.set_cons_zero, List.set_cons_succ]
      refine hd_take 1 rfl (by kernel_rfl) (by kernel_rfl) (by kernel_rfl) (fun _ _ _ h => h) (by rfl) (by intro w hSw; (try dsimp only at hSw); go_split_ands; go_simp; first | done | with_reducible rfl) hHeld ?_
      simp only [Act.put, List.setIfInBounds_toArray, List.set_cons_zero, List.set_cons_succ]
      refine hd_take 2 rfl (by kernel_rfl) (by kernel_rfl) (by kernel_rfl) (fun _ _ _ h => h) (by rfl) (by intro w hSw; (try dsimp only at hSw); go_split_ands; go_simp; first | done | with_reducible rfl) hHeld ?_
      simp only [Act.put, List.setIfInBounds_toArray, List.set_cons_zero, List.set_cons_succ]
      refine hd_take 3 rfl (by kernel_rfl) (by kernel_rfl) (by kernel_rfl) (fun _ _ _ h => h) (by rfl) (by intro w hSw; (try dsimp only at hSw); go_split_ands; go_simp; first | done | with_reducible rfl) hHeld ?_
      simp only [Act.put, List.setIfInBounds_toArray, List.set_cons_zero, List.set_cons_succ]
      refine hd_take 4 rfl (by kernel_rfl) (by kernel_rfl) (by kernel_rfl) (fun _ _ _ h => h) (by rfl) (by intro w hSw; (try dsimp only at hSw); go_split_ands; go_simp; first | done | with_reducible rfl) hHeld ?_
      simp only [Act.put, List.setIfInBounds_toArray, List.set_cons_zero, List.set_cons_succ]
      refine hd_take 5 rfl (by kernel_rfl) (by kernel_rfl) (by kernel_rfl) (fun _ _ _ h => h) (by rfl) (by intro w hSw; (try dsimp only at hSw); go_split_ands; go_simp; first | done | with_reducible rfl) hHeld ?_
      simp only [Act.put, List.setIfInBounds_toArray, List.set_cons_zero, List.set_cons_succ]
      refine hd_two 6 10 (by kernel_rfl) rfl rfl (fun K hK => ?_) (fun K hK => ?_)
      case' refine_1 =>
        go_simp
        go_at_call 98
        refine HCallA.out.mono ?_
        rintro e w5 ⟨rfl, hB5⟩
        have p0 := cell_later hB5 (show w4.drew.cell? _ = _ from c0)
        have p1 := cell_later hB5 (show w4.drew.cell? _ = _ from c1)
        have p2 := cell_later hB5 (show w4.drew.cell? _ = _ from c2)
        have p3 := cell_later hB5 (show w4.drew.cell? _ = _ from c3)
        have p4 := cell_later hB5 (show w4.drew.cell? _ = _ from c4)
        have p5 := cell_later hB5 (show w4.drew.cell? _ = _ from d0)
        have hs5 : w4.heap.size ≤ w5.heap.size := hB5.size
        have HB5 := Lib.hid ((below_dN HB4.out 1).trans (hB5.mono (below_dN HB4.out 1).size))
        have HR5 := Lib.hid (stRow.kept (show stRow w4.drew n1 _ from HRs.out) hB5)
        clear hB5
        go_wp2_with fail
        refine hK.out _ _ ⟨p0, p1, p2, p3, p4, p5⟩ (fun hHeld => ?_)
        clear hK K
        try simp only [Act.put, List.setIfInBounds_toArray, List.set_cons_zero, List.set_cons_succ]
        refine hd_take 7 rfl (by kernel_rfl) (by kernel_rfl) (by kernel_rfl) (fun _ _ _ h => h) (by rfl) (by intro w hSw; (try dsimp only at hSw); go_split_ands; go_simp; first | done | with_reducible rfl) hHeld ?_
        simp only [Act.put, List.setIfInBounds_toArray, List.set_cons_zero, List.set_cons_succ]
        refine hd_take 8 rfl (by kernel_rfl) (by kernel_rfl) (by kernel_rfl) (fun _ _ _ h => h) (by rfl) (by intro w hSw; (try dsimp only at hSw); go_split_ands; go_simp; first | done | with_reducible rfl) hHeld ?_
        simp only [Act.put, List.setIfInBounds_toArray, List.set_cons_zero, List.set_cons_succ]
        refine hd_take 9 rfl (by kernel_rfl) (by kernel_rfl) (by kernel_rfl) (fun _ _ _ h => h) (by rfl) (by intro w hSw; (try dsimp only at hSw); go_split_ands; go_simp; first | done | with_reducible rfl) hHeld ?_
        simp only [Act.put, List.setIfInBounds_toArray, List.set_cons_zero, List.set_cons_succ]
        refine hd_step 10 (by kernel_rfl) rfl (fun K hK => ?_)
        go_simp
        have v0 := (World.cell?_of_block (Below.heap_alloc w5 (.cells #[.bool false, .int .i64 0, .int .i64 0, .int .i64 0, .bool false] 140) _ (Nat.lt_of_lt_of_le hsl hs5))).trans p0
        have v1 := (World.cell?_of_block (Below.heap_alloc w5 (.cells #[.bool false, .int .i64 0, .int .i64 0, .int .i64 0, .bool false] 140) _ (Nat.lt_of_lt_of_le hsl hs5))).trans p1
        have v2 := (World.cell?_of_block (Below.heap_alloc w5 (.cells #[.bool false, .int .i64 0, .int .i64 0, .int .i64 0, .bool false] 140) _ (Nat.lt_of_lt_of_le hsl hs5))).trans p2
        have v3 := (World.cell?_of_block (Below.heap_alloc w5 (.cells #[.bool false, .int .i64 0, .int .i64 0, .int .i64 0, .bool false] 140) _ (Nat.lt_of_lt_of_le hsl hs5))).trans p3
        have v4 := (World.cell?_of_block (Below.heap_alloc w5 (.cells #[.bool false, .int .i64 0, .int .i64 0, .int .i64 0, .bool false] 140) _ (Nat.lt_of_lt_of_le hsl hs5))).trans p4
        have v5 := (World.cell?_of_block (Below.heap_alloc w5 (.cells #[.bool false, .int .i64 0, .int .i64 0, .int .i64 0, .bool false] 140) _ (Nat.lt_of_lt_of_le hdl hs5))).trans p5
        refine hK.out _ _ ⟨v0, v1, v2, v3, v4, v5⟩ (fun hHeld => ?_)
        clear hK K
        try simp only [Act.put, List.setIfInBounds_toArray, List.set_cons_zero, List.set_cons_succ]
        have hz : stRow (w5.alloc (.cells #[.bool false, .int .i64 0, .int .i64 0, .int .i64 0, .bool false] 140)) w5.heap.size ⟨false, 0, 0, 0, false⟩ := heap_alloc_new w5 _
        have z0 : (w5.alloc (.cells #[.bool false, .int .i64 0, .int .i64 0, .int .i64 0, .bool false] 140)).cell? ⟨w5.heap.size, 0, none⟩ = some (.bool false) := row_cells hz rfl
        have z1 : (w5.alloc (.cells #[.bool false, .int .i64 0, .int .i64 0, .int .i64 0, .bool false] 140)).cell? ⟨w5.heap.size, 1, none⟩ = some (.int .i64 0) := row_cells hz rfl
        have z2 : (w5.alloc (.cells #[.bool false, .int .i64 0, .int .i64 0, .int .i64 0, .bool false] 140)).cell? ⟨w5.heap.size, 2, none⟩ = some (.int .i64 0) := row_cells hz rfl
        have z3 : (w5.alloc (.cells #[.bool false, .int .i64 0, .int .i64 0, .int .i64 0, .bool false] 140)).cell? ⟨w5.heap.size, 3, none⟩ = some (.int .i64 0) := row_cells hz rfl
        have z4 : (w5.alloc (.cells #[.bool false, .int .i64 0, .int .i64 0, .int .i64 0, .bool false] 140)).cell? ⟨w5.heap.size, 4, none⟩ = some (.bool false) := row_cells hz rfl
        have y0 := row_warm hz 0
        have y1 := row_warm hz 1
        have y2 := row_warm hz 2
        have y3 := row_warm hz 3
        have y4 := row_warm hz 4
        refine hd_step 11 (by kernel_rfl) rfl (fun K hK => ?_)
        go_simp
        refine hK.out _ _ ⟨(World.cell?_of_block (Below.heap_alloc w5 _ _ (Nat.lt_of_lt_of_le hsl hs5))).trans p0, (World.cell?_of_block (Below.heap_alloc w5 _ _ (Nat.lt_of_lt_of_le hsl hs5))).trans p1, (World.cell?_of_block (Below.heap_alloc w5 _ _ (Nat.lt_of_lt_of_le hsl hs5))).trans p2, (World.cell?_of_block (Below.heap_alloc w5 _ _ (Nat.lt_of_lt_of_le hsl hs5))).trans p3, (World.cell?_of_block (Below.heap_alloc w5 _ _ (Nat.lt_of_lt_of_le hsl hs5))).trans p4, (World.cell?_of_block (Below.heap_alloc w5 _ _ (Nat.lt_of_lt_of_le hdl hs5))).trans p5⟩ (fun hHeld => ?_)
        clear hK K
        try simp only [Act.put, List.setIfInBounds_toArray, List.set_cons_zero, List.set_cons_succ]
        refine hd_step 12 (by kernel_rfl) rfl (fun K hK => ?_)
        go_simp
        refine hK.out _ _ ⟨(World.cell?_of_block (Below.heap_alloc w5 _ _ (Nat.lt_of_lt_of_le hsl hs5))).trans p0, (World.cell?_of_block (Below.heap_alloc w5 _ _ (Nat.lt_of_lt_of_le hsl hs5))).trans p1, (World.cell?_of_block (Below.heap_alloc w5 _ _ (Nat.lt_of_lt_of_le hsl hs5))).trans p2, (World.cell?_of_block (Below.heap_alloc w5 _ _ (Nat.lt_of_lt_of_le hsl hs5))).trans p3, (World.cell?_of_block (Below.heap_alloc w5 _ _ (Nat.lt_of_lt_of_le hsl hs5))).trans p4, (World.cell?_of_block (Below.heap_alloc w5 _ _ (Nat.lt_of_lt_of_le hdl hs5))).trans p5⟩ (fun hHeld => ?_)
        clear hK K
        try simp only [Act.put, List.setIfInBounds_toArray, List.set_cons_zero, List.set_cons_succ]
        refine wpAnyH_done (by kernel_rfl) ?_ _
        have hNf : stRow (w5.alloc (.cells #[.bool m0, .int .i64 m1, .int .i64 m2, .int .i64 m3, .bool m4] 140)) w5.heap.size ⟨m0, m1, m2, m3, m4⟩ := heap_alloc_new w5 _
        have hSf : stRow (w5.alloc (.cells #[.bool m0, .int .i64 m1, .int .i64 m2, .int .i64 m3, .bool m4] 140)) n1 ⟨s0, s1, s2, s3, s4⟩ := (Below.heap_alloc _ _ _ (Nat.lt_of_lt_of_le hsl hs5)).trans HR5.out
        have hBf := HB5.out.alloc HB5.out.size (.cells #[.bool m0, .int .i64 m1, .int .i64 m2, .int .i64 m3, .bool m4] 140)
        have hDf := (World.cell?_of_block (Below.heap_alloc w5 (.cells #[.bool m0, .int .i64 m1, .int .i64 m2, .int .i64 m3, .bool m4] 140) _ (Nat.lt_of_lt_of_le hdl hs5))).trans p5
        clear hz z0 z1 z2 z3 z4 y0 y1 y2 y3 y4 v0 v1 v2 v3 v4 v5 HB5 HR5 hHeld p0 p1 p2 p3 p4 p5 hs5
        generalize w5.alloc (.cells #[.bool m0, .int .i64 m1, .int .i64 m2, .int .i64 m3, .bool m4] 140) = wf at hNf hSf hBf hDf ⊢
        generalize w5.heap.size = nb at hNf ⊢
      case' refine_2 =>
        go_simp
        refine hK.out _ _ ⟨g0, g1, g2, g3, g4, g5⟩ (fun hHeld => ?_)
        clear hK K
        try simp only [Act.put, List.setIfInBounds_toArray, List.set_cons_zero, List.set_cons_succ]
        refine hd_step 6 (by kernel_rfl) rfl (fun K hK => ?_)
        go_simp
        go_at_call 98
        refine HCall.out.mono ?_
        rintro e w5 ⟨rfl, hB5⟩
        have p0 := cell_later hB5 g0
        have p1 := cell_later hB5 g1
        have p2 := cell_later hB5 g2
        have p3 := cell_later hB5 g3
        have p4 := cell_later hB5 g4
        have p5 := cell_later hB5 g5
        have hz := HZ.out.kept hB5
        have z0 : w5.cell? ⟨w4.heap.size, 0, none⟩ = some (.bool false) := row_cells hz rfl
        have z1 : w5.cell? ⟨w4.heap.size, 1, none⟩ = some (.int .i64 0) := row_cells hz rfl
        have z2 : w5.cell? ⟨w4.heap.size, 2, none⟩ = some (.int .i64 0) := row_cells hz rfl
        have z3 : w5.cell? ⟨w4.heap.size, 3, none⟩ = some (.int .i64 0) := row_cells hz rfl
        have z4 : w5.cell? ⟨w4.heap.size, 4, none⟩ = some (.bool false) := row_cells hz rfl
        have y0 := row_warm hz 0
        have y1 := row_warm hz 1
        have y2 := row_warm hz 2
        have y3 := row_warm hz 3
        have y4 := row_warm hz 4
        have HZ5 := Lib.hid hz
        have HB5 := Lib.hid ((below_dN HBz.out 1).trans (hB5.mono (below_dN HBz.out 1).size))
        have HR5 := Lib.hid (HG.out.kept hB5)
        clear hz hB5
        go_wp2_with fail
        refine hK.out _ _ ⟨p0, p1, p2, p3, p4, p5⟩ (fun hHeld => ?_)
        clear hK K
        try simp only [Act.put, List.setIfInBounds_toArray, List.set_cons_zero, List.set_cons_succ]
        refine hd_take 7 rfl (by kernel_rfl) (by kernel_rfl) (by kernel_rfl) (fun _ _ _ h => h) (by rfl) (by intro w hSw; (try dsimp only at hSw); go_split_ands; go_simp; first | done | with_reducible rfl) hHeld ?_
        simp only [Act.put, List.setIfInBounds_toArray, List.set_cons_zero, List.set_cons_succ]
        refine hd_take 8 rfl (by kernel_rfl) (by kernel_rfl) (by kernel_rfl) (fun _ _ _ h => h) (by rfl) (by intro w hSw; (try dsimp only at hSw); go_split_ands; go_simp; first | done | with_reducible rfl) hHeld ?_
        simp only [Act.put, List.setIfInBounds_toArray, List.set_cons_zero, List.set_cons_succ]
        refine hd_take 9 rfl (by kernel_rfl) (by kernel_rfl) (by kernel_rfl) (fun _ _ _ h => h) (by rfl) (by intro w hSw; (try dsimp only at hSw); go_split_ands; go_simp; first | done | with_reducible rfl) hHeld ?_
        simp only [Act.put, List.setIfInBounds_toArray, List.set_cons_zero, List.set_cons_succ]
        refine hd_step 11 (by kernel_rfl) rfl (fun K hK => ?_)
        go_simp
        refine hK.out _ _ ⟨set5_other p0 hne1, set5_other p1 hne1, set5_other p2 hne1, set5_other p3 hne1, set5_other p4 hne1, set5_other p5 hne2⟩ (fun hHeld => ?_)
        clear hK K
        try simp only [Act.put, List.setIfInBounds_toArray, List.set_cons_zero, List.set_cons_succ]
        refine hd_step 12 (by kernel_rfl) rfl (fun K hK => ?_)
        go_simp
        refine hK.out _ _ ⟨set5_other p0 hne1, set5_other p1 hne1, set5_other p2 hne1, set5_other p3 hne1, set5_other p4 hne1, set5_other p5 hne2⟩ (fun hHeld => ?_)
        clear hK K
        try simp only [Act.put, List.setIfInBounds_toArray, List.set_cons_zero, List.set_cons_succ]
        refine wpAnyH_done (by kernel_rfl) ?_ _
        have hNf : stRow (((((w5.setCell ⟨w4.heap.size, 0, none⟩ (.bool m0)).setCell ⟨w4.heap.size, 1, none⟩ (.int .i64 m1)).setCell ⟨w4.heap.size, 2, none⟩ (.int .i64 m2)).setCell ⟨w4.heap.size, 3, none⟩ (.int .i64 m3)).setCell ⟨w4.heap.size, 4, none⟩ (.bool m4)) w4.heap.size ⟨m0, m1, m2, m3, m4⟩ := stRow_set HZ5.out ⟨m0, m1, m2, m3, m4⟩
        have hSf : stRow (((((w5.setCell ⟨w4.heap.size, 0, none⟩ (.bool m0)).setCell ⟨w4.heap.size, 1, none⟩ (.int .i64 m1)).setCell ⟨w4.heap.size, 2, none⟩ (.int .i64 m2)).setCell ⟨w4.heap.size, 3, none⟩ (.int .i64 m3)).setCell ⟨w4.heap.size, 4, none⟩ (.bool m4)) n1 ⟨s0, s1, s2, s3, s4⟩ := stRow_far HR5.out (fun e => hne1 e.symm)
        have hBf : Below w.heap.size w (((((w5.setCell ⟨w4.heap.size, 0, none⟩ (.bool m0)).setCell ⟨w4.heap.size, 1, none⟩ (.int .i64 m1)).setCell ⟨w4.heap.size, 2, none⟩ (.int .i64 m2)).setCell ⟨w4.heap.size, 3, none⟩ (.int .i64 m3)).setCell ⟨w4.heap.size, 4, none⟩ (.bool m4)) := below_set5 HB5.out HB4.out.size
        have hDf : (((((w5.setCell ⟨w4.heap.size, 0, none⟩ (.bool m0)).setCell ⟨w4.heap.size, 1, none⟩ (.int .i64 m1)).setCell ⟨w4.heap.size, 2, none⟩ (.int .i64 m2)).setCell ⟨w4.heap.size, 3, none⟩ (.int .i64 m3)).setCell ⟨w4.heap.size, 4, none⟩ (.bool m4)).cell? ⟨b0, off + (k + 1), none⟩ = some (.int .i32 y) := set5_other p5 hne2
        clear z0 z1 z2 z3 z4 y0 y1 y2 y3 y4 HB5 HR5 HZ5 hHeld p0 p1 p2 p3 p4 p5
        generalize (((((w5.setCell ⟨w4.heap.size, 0, none⟩ (.bool m0)).setCell ⟨w4.heap.size, 1, none⟩ (.int .i64 m1)).setCell ⟨w4.heap.size, 2, none⟩ (.int .i64 m2)).setCell ⟨w4.heap.size, 3, none⟩ (.int .i64 m3)).setCell ⟨w4.heap.size, 4, none⟩ (.bool m4)) = wf at hNf hSf hBf hDf ⊢
        generalize w4.heap.size = nb at hNf ⊢
      all_goals
        have HNf := Lib.hid hNf
        have HSf := Lib.hid hSf
        have HBf := Lib.hid hBf
        clear c0 c1 c2 c3 c4 d0 g0 g1 g2 g3 g4 g5 HG HZ hne1 hne2 HCall HCallA HBz hsl hdl
        clear hNf hSf hDf
        obtain ⟨b1, off1, cap1, hv, _, _, _, hbf, dx⟩ := rune_cell (HS.out.below hBf) HX.out
        cases hv
        obtain ⟨b1, off1, cap1, hv, _, _, _, _, dy⟩ := rune_cell (HS.out.below hBf) HY.out
        cases hv
        have HHg := Lib.hid (hangs_any x y ((HT.out.below HBf.out).below (below_dN (.refl _ _) 1)) HIx.out HIy.out)
        clear hBf
        cases cu with
        | false =>
          go_wp2_with fail
          go_quiet (fail)
          go_wp2_with fail
          go_roundw
          case rel => exact ⟨k, by omega, by go_num, below_dN HBf.out _⟩
          case measure => simp [intOf] <;> omega
        | true =>
          have HSr := Lib.hid (HSure.out rfl)
          generalize hangsB (tabOf R) x y = hg at HHg HSr
          go_wp2_with fail
          go_region_held3 (fun w' => w'.cell? ⟨b0, off + k, none⟩ = some (.int .i32 x) ∧ w'.cell? ⟨b0, off + (k + 1), none⟩ = some (.int .i32 y)) (first | exact ⟨px, py⟩ | exact ⟨dx, dy⟩ | go_keep)
            (first
              | (go_at_call 99; refine HHg.out.mono ?_; rintro e w6 ⟨rfl, hB6⟩; have px := cell_later hB6 (show wf.drew.cell? _ = _ from dx); have py := cell_later hB6 (show wf.drew.cell? _ = _ from dy); have HB6 := Lib.hid ((below_dN HBf.out 1).trans (hB6.mono (below_dN HBf.out 1).size)); clear hB6)
              | fail)
          all_goals
            cases hg with
            | true =>
              go_wp2_with fail
              go_roundw
              case rel => exact ⟨k, by omega, by go_num, HB6.out⟩
              case measure => simp [intOf] <;> omega
            | false =>
              have HBg := Lib.hid (HSr.out rfl)
              go_wp2_with fail
              go_ret
              exact ⟨⟨k + 1, ret_i (by omega), hk, HBg.out⟩, HB6.out⟩
end
end Go.Proofs.Ytpgeccgfkcjcoaa

/- back: Floor, Ceil, Prev, Next; the document's floor, ceil. -/
namespace Go.Proofs.Ytpgeccgfkcjcoaa
open Go.RowKit

section
variable {R : List Rw} {s : List Int} {w : World} {v sv : Value} {tp : Nat}
set_option maxRecDepth 100000 in
set_option maxHeartbeats 4000000 in
theorem floor_any (a : Int) (H : (tabOf R).Ok) (hT : Tb R w tp) (hs : RunesIn w sv s) (ok : RunesOk s) (hl : s.length ≤ 1000000) :
    Calls Try.prog 21 #[.pointer (some ⟨tp, 0, none⟩), sv, .int .i64 a] w fun e w' => e = .returned (.int .i64 ((floorI (tabOf R) s a : Nat) : Int)) ∧ Below w.heap.size w w' := by
  have HS := Lib.hid hs
  obtain ⟨sl, cap, rfl, hcap, hmax, _⟩ := runes_cells hs
  unfold maxLen at hmax
  by_cases h0 : a ≤ 0
  · have HV := Lib.hid (floorI_nonpos (T := tabOf R) (s := s) h0)
    go_enter Try.func21, Try.ntmps21
    go_wp2_with fail
    go_step3
    go_wp2_with fail
    try rw [Exit.noGoto_ret]
    go_ret
    exact ⟨ret_i (by rw [HV.out]; rfl), .refl _ _⟩
  · by_cases h1 : (s.length : Int) ≤ a
    · have HV := Lib.hid (floorI_big (T := tabOf R) h0 h1)
      have q0 : decide (a ≤ 0) = false := decide_eq_false h0
      have q1 : a ≥ (s.length : Int) := h1
      clear h0
      go_enter Try.func21, Try.ntmps21
      go_wp2_with fail
      go_step3
      go_wp2_with fail
      try rw [Exit.noGoto_ret]
      go_ret
      exact ⟨ret_i (by rw [HV.out]), .refl _ _⟩
    · obtain ⟨i, rfl⟩ : ∃ i : Nat, a = (i : Int) := ⟨a.toNat, by omega⟩
      have hi0 : 0 < i := by omega
      have hil : i < s.length := by omega
      have HV := Lib.hid (floorI_mid (T := tabOf R) hi0 hil)
      have HT := Lib.hid hT
      have HOk := Lib.hid ok
      have HTk := Lib.hid H
      have q0 : decide ((i : Int) ≤ 0) = false := by rw [decide_eq_false_iff_not]; omega
      have q0n : ¬ i = 0 := by omega
      have q1 : decide ((i : Int) ≥ (s.length : Int)) = false := by rw [decide_eq_false_iff_not]; omega
      have q1n : ¬ s.length ≤ i := by omega
      have q1d : decide (s.length ≤ i) = false := decide_eq_false q1n
      have q0d : decide (i = 0) = false := decide_eq_false q0n
      have HSure := Lib.hid (sure_any i H hT hs ok hil hl)
      clear h0 h1 hT hs ok H
      go_enter Try.func21, Try.ntmps21
      go_wp2_with fail
      go_step3
      go_wp2_with fail
      refine HSure.out.mono ?_
      rintro e w1 ⟨⟨q, rfl, hq, hbq⟩, hB1⟩
      have HB1 := Lib.hid hB1
      have HBq := Lib.hid hbq
      clear hB1 hbq HSure q0 q1 q0d q1d
      go_wp2_with fail
      go_step3
      go_wp2_with fail
      go_loopw [7] (fun fv wr => ∃ f : Nat, f ≤ i ∧ fv = .int .i64 ((f : Nat) : Int) ∧ begAt (tabOf R) s f = true ∧ Below w.heap.size w wr) (fun fv _ => i - (intOf fv).toNat)
      case atStart => exact ⟨q, hq, rfl, HBq.out, HB1.out⟩
      case round =>
        obtain ⟨f, hf, rfl, hb, hB⟩ := hrel
        have HB := Lib.hid hB
        have HBf := Lib.hid hb
        clear hB hb
        by_cases hlt : f < i
        · have HNx := Lib.hid (nx_spec HTk.out HBf.out)
          have HCall := Lib.hid (next_any f (HT.out.below HB.out) (HS.out.below HB.out) HOk.out (by omega) hl)
          generalize hn : f + nx (tabOf R) (s.drop f) = n at HNx HCall
          clear hn
          have q2 : (f : Int) < (i : Int) := by omega
          go_wp2_with fail
          refine HCall.out.mono ?_
          rintro e w2 ⟨rfl, hB2⟩
          have HB2 := Lib.hid (HB.out.trans (hB2.mono HB.out.size))
          clear hB2
          by_cases hg : i < n
          · have q3 : (n : Int) > (i : Int) := by omega
            have HF := Lib.hid (show floorB (tabOf R) s i = f from floorB_eq (by omega) (.inr (by rw [isB_lt (by omega)]; exact HBf.out)) fun j h1 h2 => by
              rw [isB_lt (by omega)]; exact HNx.out.2.2.1 j h1 (by omega))
            clear hg
            go_wp2_with fail
            try rw [Exit.noGoto_ret]
            go_ret
            exact ⟨ret_i (by rw [HV.out, HF.out]), HB2.out⟩
          · have q3 : decide ((n : Int) > (i : Int)) = false := by rw [decide_eq_false_iff_not]; omega
            have HBn := Lib.hid (show begAt (tabOf R) s n = true from HNx.out.2.2.2.resolve_left (by omega))
            have hfn := HNx.out.1
            go_wp2_with fail
            go_roundw
            case rel => exact ⟨n, by omega, rfl, HBn.out, HB2.out⟩
            case measure => simp [intOf] <;> omega
        · have hfi : f = i := by omega
          subst hfi
          have HF := Lib.hid (show floorB (tabOf R) s f = f from floorB_eq (Nat.le_refl _) (.inr (by rw [isB_lt hil]; exact HBf.out)) fun j h1 h2 => by omega)
          go_wp2_with fail
          try rw [Exit.noGoto_ret]
          go_ret
          exact ⟨ret_i (by rw [HV.out, HF.out]), HB.out⟩
set_option maxRecDepth 100000 in
set_option maxHeartbeats 4000000 in
theorem ceil_any (a : Int) (H : (tabOf R).Ok) (hT : Tb R w tp) (hs : RunesIn w sv s) (ok : RunesOk s) (hl : s.length ≤ 1000000) :
    Calls Try.prog 23 #[.pointer (some ⟨tp, 0, none⟩), sv, .int .i64 a] w fun e w' => e = .returned (.int .i64 ((ceilI (tabOf R) s a : Nat) : Int)) ∧ Below w.heap.size w w' := by
  have HS := Lib.hid hs
  have HT := Lib.hid hT
  have HOk := Lib.hid ok
  have HFl := Lib.hid (floor_any a H hT hs ok hl)
  have HV : (floorI (tabOf R) s a : Int) ≥ a ∧ ceilI (tabOf R) s a = floorI (tabOf R) s a ∨ (s.length : Int) < a ∧ floorI (tabOf R) s a = s.length ∧ ceilI (tabOf R) s a = s.length ∨ ∃ i : Nat, a = (i : Int) ∧ i < s.length ∧ floorI (tabOf R) s a < i ∧ begAt (tabOf R) s (floorI (tabOf R) s a) = true ∧ ceilI (tabOf R) s a = floorI (tabOf R) s a + nx (tabOf R) (s.drop (floorI (tabOf R) s a)) := by
    by_cases h0 : a ≤ 0
    · left; rw [floorI_nonpos h0, ceilI_nonpos h0]; exact ⟨h0, rfl⟩
    · by_cases h1 : (s.length : Int) ≤ a
      · rw [floorI_big h0 h1, ceilI_big h0 h1]
        by_cases h2 : (s.length : Int) = a
        · left; exact ⟨by omega, rfl⟩
        · right; left; exact ⟨by omega, rfl, rfl⟩
      · obtain ⟨i, rfl⟩ : ∃ i : Nat, a = (i : Int) := ⟨a.toNat, by omega⟩
        rw [floorI_mid (by omega) (by omega), ceilI_mid (by omega) (by omega)]
        have hle := floorB_le (tabOf R) s i
        by_cases h2 : floorB (tabOf R) s i = i
        · left
          refine ⟨by omega, ?_⟩
          rw [h2]
          have hb : begAt (tabOf R) s i = true := by
            rcases floorB_is (tabOf R) s i with h | h
            · omega
            · rw [h2, isB_lt (by omega)] at h; exact h
          rw [ceilB_step (by omega), hb]; rfl
        · right; right
          refine ⟨i, rfl, by omega, by omega, ?_, ceil_of_floor H (by omega) (by omega)⟩
          rcases floorB_is (tabOf R) s i with h | h
          · rw [h]; exact begAt_zero _ (fun e => by rw [e] at h1; simp at h1)
          · rwa [isB_lt (by omega)] at h
  generalize floorI (tabOf R) s a = f at HFl HV
  generalize ceilI (tabOf R) s a = c at HV ⊢
  clear hT ok H
  rcases HV with ⟨h1, rfl⟩ | ⟨h1, rfl, rfl⟩ | ⟨i, rfl, h2, h3, h4, h5⟩
  · go_enter Try.func23, Try.ntmps23
    go_wp2_with fail
    refine HFl.out.mono ?_
    rintro e w1 ⟨rfl, hB1⟩
    have HB1 := Lib.hid hB1
    clear hB1
    go_wp2_with fail
    go_ret
    exact ⟨rfl, HB1.out⟩
  · have q0 : decide ((s.length : Int) ≥ a) = false := by rw [decide_eq_false_iff_not]; omega
    have HCall := Lib.hid (fun w1 (hB : Below w.heap.size w w1) => next_out (tp := tp) (s.length : Int) (hs.below hB) (.inr (Int.le_refl _)))
    clear h1 hs
    go_enter Try.func23, Try.ntmps23
    go_wp2_with fail
    refine HFl.out.mono ?_
    rintro e w1 ⟨rfl, hB1⟩
    have HB1 := Lib.hid hB1
    clear hB1
    go_wp2_with fail
    refine (HCall.out w1 HB1.out).mono ?_
    rintro e w2 ⟨rfl, hB2⟩
    have HB2 := Lib.hid (below_trans' HB1.out hB2)
    clear hB2
    go_wp2_with fail
    go_ret
    exact ⟨rfl, HB2.out⟩
  · have q0 : decide ((f : Int) ≥ (i : Int)) = false := by rw [decide_eq_false_iff_not]; omega
    have q0n : ¬ i ≤ f := by omega
    have HCall := Lib.hid (fun w1 (hB : Below w.heap.size w w1) => next_any f (HT.out.below hB) (HS.out.below hB) HOk.out (by omega) hl)
    rw [← h5] at HCall
    clear h5 hs
    go_enter Try.func23, Try.ntmps23
    go_wp2_with fail
    refine HFl.out.mono ?_
    rintro e w1 ⟨rfl, hB1⟩
    have HB1 := Lib.hid hB1
    clear hB1
    go_wp2_with fail
    refine (HCall.out w1 HB1.out).mono ?_
    rintro e w2 ⟨rfl, hB2⟩
    have HB2 := Lib.hid (below_trans' HB1.out hB2)
    clear hB2
    go_wp2_with fail
    go_ret
    exact ⟨rfl, HB2.out⟩
set_option maxRecDepth 100000 in
set_option maxHeartbeats 4000000 in
theorem is_any (i : Nat) (hR : RowsIn w v R) (hs : RunesIn w sv s) (ok : RunesOk s) (hi : i ≤ s.length) (hl : s.length ≤ 1000000) :
    Calls Try.prog 26 #[v, sv, .int .i64 (i : Nat)] w fun e w' => e = .returned (.bool (isB (tabOf R) s i)) ∧ Below w.heap.size w w' := by
  have q0 : decide ((i : Int) < 0) = false := by rw [decide_eq_false_iff_not]; omega
  have q1 : decide ((i : Int) > (s.length : Int)) = false := by rw [decide_eq_false_iff_not]; omega
  have q1n : ¬ s.length < i := by omega
  have q1d : decide (s.length < i) = false := decide_eq_false q1n
  by_cases he : i = s.length
  · have HV := Lib.hid (show isB (tabOf R) s i = true by rw [he]; exact isB_len _ _)
    have q2 : ((i : Int) == (s.length : Int)) = true := by simp [he]
    obtain ⟨sl, cap, rfl, hcap, hmax, _⟩ := runes_cells hs
    unfold maxLen at hmax
    clear he hs hR ok
    go_enter Try.func26, Try.ntmps26
    go_wp2_with fail
    go_ret
    exact ⟨ret_b (by rw [HV.out]), .refl _ _⟩
  · have HCall := Lib.hid (begins_any i hR hs ok (by omega) hl)
    have HV := Lib.hid (show isB (tabOf R) s i = begAt (tabOf R) s i from isB_lt (by omega))
    have q2 : ((i : Int) == (s.length : Int)) = false := by simp; omega
    obtain ⟨sl, cap, rfl, hcap, hmax, _⟩ := runes_cells hs
    unfold maxLen at hmax
    clear hs hR ok
    go_enter Try.func26, Try.ntmps26
    go_wp2_with fail
    refine HCall.out.mono ?_
    rintro e w1 ⟨rfl, n1, rfl⟩
    go_wp2_with fail
    go_ret
    exact ⟨ret_b (by rw [HV.out]), below_dN (.refl _ _) n1⟩
end
end Go.Proofs.Ytpgeccgfkcjcoaa

/- back: Prev, Next; the document's floor, ceil; chapter 11's example. -/
namespace Go.Proofs.Ytpgeccgfkcjcoaa
open Go.RowKit

/-- the last boundary ahead of a place -/
def prevI (T : Tab) (s : List Int) (a : Int) : Nat := floorI T s (max (min a ((s.length : Int) + 1)) 0 - 1)
/-- the first one behind it -/
def nextI (T : Tab) (s : List Int) (a : Int) : Nat := if (s.length : Int) ≤ a then s.length else ceilI T s (max a (-1) + 1)
theorem floorI_clamp {T : Tab} {s : List Int} {a : Int} (h : (s.length : Int) ≤ a) (h0 : 0 < a) : floorI T s a = s.length := floorI_big (by omega) h
theorem floorI_all {T : Tab} {s : List Int} {a : Int} {n : Nat} (hn : n = if a ≤ 0 then 0 else if (s.length : Int) ≤ a then s.length else a.toNat) : floorI T s a = floorB T s n := by
  unfold floorI
  by_cases h : a ≤ 0
  · rw [if_pos h] at hn ⊢; rw [hn]; rfl
  · rw [if_neg h] at hn ⊢
    by_cases h2 : (s.length : Int) ≤ a
    · rw [if_pos h2] at hn ⊢
      rw [hn]
      exact (floorB_eq (Nat.le_refl _) (.inr (isB_len T s)) fun j h1 h2 => by omega).symm
    · rw [if_neg h2] at hn ⊢; rw [hn]
theorem ceilI_all {T : Tab} {s : List Int} {a : Int} {n : Nat} (hn : n = if a ≤ 0 then 0 else if (s.length : Int) ≤ a then s.length else a.toNat) : n ≤ s.length ∧ ceilI T s a = ceilB T s n := by
  unfold ceilI
  by_cases h : a ≤ 0
  · rw [if_pos h] at hn ⊢
    subst hn
    refine ⟨Nat.zero_le _, ?_⟩
    cases s with
    | nil => rfl
    | cons x l => rw [ceilB_step (by simp), begAt_zero T (by simp)]; rfl
  · rw [if_neg h] at hn ⊢
    by_cases h2 : (s.length : Int) ≤ a
    · rw [if_pos h2] at hn ⊢
      rw [hn]
      exact ⟨Nat.le_refl _, (ceilB_len T s).symm⟩
    · rw [if_neg h2] at hn ⊢; rw [hn]; exact ⟨by omega, rfl⟩
section
variable {R : List Rw} {s : List Int} {w : World} {v sv : Value} {tp : Nat}
set_option maxRecDepth 100000 in
set_option maxHeartbeats 4000000 in
theorem prev_any (a : Int) (H : (tabOf R).Ok) (hT : Tb R w tp) (hs : RunesIn w sv s) (ok : RunesOk s) (hl : s.length ≤ 1000000) (ha : -9223372036854775808 ≤ a ∧ a ≤ 9223372036854775807) :
    Calls Try.prog 19 #[.pointer (some ⟨tp, 0, none⟩), sv, .int .i64 a] w fun e w' => e = .returned (.int .i64 ((prevI (tabOf R) s a : Nat) : Int)) ∧ Below w.heap.size w w' := by
  have HCall := Lib.hid (fun b => floor_any b H hT hs ok hl)
  have HV := Lib.hid (show prevI (tabOf R) s a = floorI (tabOf R) s (max (min a ((s.length : Int) + 1)) 0 - 1) from rfl)
  obtain ⟨sl, cap, rfl, hcap, hmax, _⟩ := runes_cells hs
  unfold maxLen at hmax
  have q0 := IntWalk.i64_in ((s.length : Int) + 1) (by omega)
  have q1 := IntWalk.i64_in (max (min a ((s.length : Int) + 1)) 0 - 1) (by omega)
  clear hT hs ok H ha
  go_enter Try.func19, Try.ntmps19
  go_wp2_with fail
  refine (HCall.out _).mono ?_
  rintro e w1 ⟨rfl, hB1⟩
  rw [← HV.out]
  have HB1 := Lib.hid hB1
  clear hB1
  go_wp2_with fail
  go_ret
  exact ⟨rfl, HB1.out⟩
set_option maxRecDepth 100000 in
set_option maxHeartbeats 4000000 in
theorem bnext_any (a : Int) (H : (tabOf R).Ok) (hT : Tb R w tp) (hs : RunesIn w sv s) (ok : RunesOk s) (hl : s.length ≤ 1000000) (ha : -9223372036854775808 ≤ a ∧ a ≤ 9223372036854775807) :
    Calls Try.prog 18 #[.pointer (some ⟨tp, 0, none⟩), sv, .int .i64 a] w fun e w' => e = .returned (.int .i64 ((nextI (tabOf R) s a : Nat) : Int)) ∧ Below w.heap.size w w' := by
  have HCall := Lib.hid (fun b => ceil_any b H hT hs ok hl)
  obtain ⟨sl, cap, rfl, hcap, hmax, _⟩ := runes_cells hs
  unfold maxLen at hmax
  by_cases h : (s.length : Int) ≤ a
  · have HV := Lib.hid (show nextI (tabOf R) s a = s.length by unfold nextI; rw [if_pos h])
    have q0 : a ≥ (s.length : Int) := h
    clear hT hs ok H ha
    go_enter Try.func18, Try.ntmps18
    go_wp2_with fail
    go_ret
    exact ⟨ret_i (by rw [HV.out]), .refl _ _⟩
  · have HV := Lib.hid (show nextI (tabOf R) s a = ceilI (tabOf R) s (max a (-1) + 1) by unfold nextI; rw [if_neg h])
    have q0 : decide (a ≥ (s.length : Int)) = false := decide_eq_false h
    have q1 := IntWalk.i64_in (max a (-1) + 1) (by omega)
    clear hT hs ok H ha
    go_enter Try.func18, Try.ntmps18
    go_wp2_with fail
    refine (HCall.out _).mono ?_
    rintro e w1 ⟨rfl, hB1⟩
    rw [← HV.out]
    have HB1 := Lib.hid hB1
    clear hB1
    go_wp2_with fail
    go_ret
    exact ⟨rfl, HB1.out⟩
set_option maxRecDepth 100000 in
set_option maxHeartbeats 4000000 in
theorem lfloor_any (a : Int) (hR : RowsIn w v R) (hs : RunesIn w sv s) (ok : RunesOk s) (hl : s.length ≤ 1000000) :
    Calls Try.prog 22 #[v, sv, .int .i64 a] w fun e w' => e = .returned (.int .i64 ((floorI (tabOf R) s a : Nat) : Int)) ∧ Below w.heap.size w w' := by
  have HR := Lib.hid hR
  have HS := Lib.hid hs
  have HOk := Lib.hid ok
  obtain ⟨n, hn⟩ : ∃ n, n = if a ≤ 0 then 0 else if (s.length : Int) ≤ a then s.length else a.toNat := ⟨_, rfl⟩
  have HV := Lib.hid (floorI_all (T := tabOf R) hn)
  obtain ⟨sl, cap, rfl, hcap, hmax, _⟩ := runes_cells hs
  unfold maxLen at hmax
  have hcases : ((s.length : Int) < a ∧ n = s.length) ∨ (a < 0 ∧ n = 0) ∨ (a = (n : Int) ∧ n ≤ s.length) := by
    split at hn
    · by_cases h0 : a < 0
      · exact .inr (.inl ⟨h0, hn⟩)
      · exact .inr (.inr ⟨by omega, by omega⟩)
    · split at hn
      · by_cases h1 : (s.length : Int) < a
        · exact .inl ⟨h1, hn⟩
        · exact .inr (.inr ⟨by omega, by omega⟩)
      · exact .inr (.inr ⟨by omega, by omega⟩)
  clear hR hs ok hn
  rcases hcases with ⟨h1, h2⟩ | ⟨h1, h2⟩ | ⟨rfl, h2⟩
  rotate_left 1
  · have q0 : decide (a > (s.length : Int)) = false := by rw [decide_eq_false_iff_not]; omega
    have q1 : decide (a > 0) = false := by rw [decide_eq_false_iff_not]; omega
    subst h2
    go_enter Try.func22, Try.ntmps22
    go_wp2_with fail
    go_loopw [7] (fun iv wr => iv = .int .i64 a ∧ Below w.heap.size w wr) (fun iv _ => 0)
    case atStart => exact ⟨rfl, .refl _ _⟩
    case round =>
      obtain ⟨rfl, hB⟩ := hrel
      go_wp2_with fail
      go_ret
      exact ⟨ret_i (by rw [HV.out]; rfl), hB⟩
  rotate_left 1
  · have q0 : (s.length : Int) < a := h1
    subst h2
    go_enter Try.func22, Try.ntmps22
    go_wp2_with fail
    go_loopw [7] (fun iv wr => ∃ j : Nat, j ≤ s.length ∧ iv = .int .i64 ((j : Nat) : Int) ∧ Below w.heap.size w wr ∧ floorB (tabOf R) s j = floorB (tabOf R) s s.length) (fun iv _ => (intOf iv).toNat)
    case atStart => exact ⟨s.length, Nat.le_refl _, rfl, .refl _ _, rfl⟩
    case round =>
      obtain ⟨j, hj, rfl, hB, hE⟩ := hrel
      have HB := Lib.hid hB
      have HE := Lib.hid hE
      clear hB hE
      rcases j with _ | j
      · have HF := Lib.hid (show floorB (tabOf R) s s.length = 0 by rw [← HE.out]; rfl)
        go_wp2_with fail
        go_ret
        exact ⟨ret_i (by rw [HV.out, HF.out]; rfl), HB.out⟩
      · have r0 : (j : Int) + 1 > 0 := by omega
        have r1 : (j : Int) + 1 - 1 = (j : Int) := by omega
        have r2 := IntWalk.i64_in (j : Int) (by omega)
        have HCall := Lib.hid (is_any (j + 1) (HR.out.below HB.out) (HS.out.below HB.out) HOk.out (by omega) hl)
        have HD := Lib.hid (show floorB (tabOf R) s (j + 1) = if isB (tabOf R) s (j + 1) then j + 1 else floorB (tabOf R) s j from rfl)
        go_wp2_with fail
        refine HCall.out.mono ?_
        rintro e w1 ⟨rfl, hB1⟩
        have HB1 := Lib.hid (HB.out.trans (hB1.mono HB.out.size))
        clear hB1
        cases hb : isB (tabOf R) s (j + 1) with
        | true =>
          have HF := Lib.hid (show floorB (tabOf R) s s.length = j + 1 by rw [← HE.out, HD.out, hb]; rfl)
          clear hb
          go_wp2_with fail
          go_ret
          exact ⟨ret_i (by rw [HV.out, HF.out]; omega), HB1.out⟩
        | false =>
          have HN := Lib.hid (show floorB (tabOf R) s j = floorB (tabOf R) s s.length by rw [← HE.out, HD.out, hb]; rfl)
          clear hb
          go_wp2_with fail
          go_roundw
          case rel => exact ⟨j, by omega, rfl, HB1.out, HN.out⟩
          case measure => simp [intOf] <;> omega
  · have q0 : decide ((n : Int) > (s.length : Int)) = false := by rw [decide_eq_false_iff_not]; omega
    have q0n : ¬ s.length < n := by omega
    have q0d : decide (s.length < n) = false := decide_eq_false q0n
    go_enter Try.func22, Try.ntmps22
    go_wp2_with fail
    go_loopw [7] (fun iv wr => ∃ j : Nat, j ≤ n ∧ iv = .int .i64 ((j : Nat) : Int) ∧ Below w.heap.size w wr ∧ floorB (tabOf R) s j = floorB (tabOf R) s n) (fun iv _ => (intOf iv).toNat)
    case atStart => exact ⟨n, Nat.le_refl _, rfl, .refl _ _, rfl⟩
    case round =>
      obtain ⟨j, hj, rfl, hB, hE⟩ := hrel
      have HB := Lib.hid hB
      have HE := Lib.hid hE
      clear hB hE
      rcases j with _ | j
      · have HF := Lib.hid (show floorB (tabOf R) s n = 0 by rw [← HE.out]; rfl)
        go_wp2_with fail
        go_ret
        exact ⟨ret_i (by rw [HV.out, HF.out]; rfl), HB.out⟩
      · have r0 : (j : Int) + 1 > 0 := by omega
        have r1 : (j : Int) + 1 - 1 = (j : Int) := by omega
        have r2 := IntWalk.i64_in (j : Int) (by omega)
        have HCall := Lib.hid (is_any (j + 1) (HR.out.below HB.out) (HS.out.below HB.out) HOk.out (by omega) hl)
        have HD := Lib.hid (show floorB (tabOf R) s (j + 1) = if isB (tabOf R) s (j + 1) then j + 1 else floorB (tabOf R) s j from rfl)
        go_wp2_with fail
        refine HCall.out.mono ?_
        rintro e w1 ⟨rfl, hB1⟩
        have HB1 := Lib.hid (HB.out.trans (hB1.mono HB.out.size))
        clear hB1
        cases hb : isB (tabOf R) s (j + 1) with
        | true =>
          have HF := Lib.hid (show floorB (tabOf R) s n = j + 1 by rw [← HE.out, HD.out, hb]; rfl)
          clear hb
          go_wp2_with fail
          go_ret
          exact ⟨ret_i (by rw [HV.out, HF.out]; omega), HB1.out⟩
        | false =>
          have HN := Lib.hid (show floorB (tabOf R) s j = floorB (tabOf R) s n by rw [← HE.out, HD.out, hb]; rfl)
          clear hb
          go_wp2_with fail
          go_roundw
          case rel => exact ⟨j, by omega, rfl, HB1.out, HN.out⟩
          case measure => simp [intOf] <;> omega
set_option maxRecDepth 100000 in
set_option maxHeartbeats 4000000 in
theorem lceil_any (a : Int) (hR : RowsIn w v R) (hs : RunesIn w sv s) (ok : RunesOk s) (hl : s.length ≤ 1000000) :
    Calls Try.prog 24 #[v, sv, .int .i64 a] w fun e w' => e = .returned (.int .i64 ((ceilI (tabOf R) s a : Nat) : Int)) ∧ Below w.heap.size w w' := by
  have HR := Lib.hid hR
  have HS := Lib.hid hs
  have HOk := Lib.hid ok
  obtain ⟨n, hn⟩ : ∃ n, n = if a ≤ 0 then 0 else if (s.length : Int) ≤ a then s.length else a.toNat := ⟨_, rfl⟩
  have HV := Lib.hid (ceilI_all (T := tabOf R) hn)
  obtain ⟨sl, cap, rfl, hcap, hmax, _⟩ := runes_cells hs
  unfold maxLen at hmax
  have hcases : ((s.length : Int) < a ∧ n = s.length) ∨ (a < 0 ∧ n = 0) ∨ (a = (n : Int) ∧ n ≤ s.length) := by
    split at hn
    · by_cases h0 : a < 0
      · exact .inr (.inl ⟨h0, hn⟩)
      · exact .inr (.inr ⟨by omega, by omega⟩)
    · split at hn
      · by_cases h1 : (s.length : Int) < a
        · exact .inl ⟨h1, hn⟩
        · exact .inr (.inr ⟨by omega, by omega⟩)
      · exact .inr (.inr ⟨by omega, by omega⟩)
  clear hR hs ok hn
  rcases hcases with ⟨h1, h2⟩ | ⟨h1, h2⟩ | ⟨rfl, h2⟩
  · have q0 : decide (a < 0) = false := by rw [decide_eq_false_iff_not]; omega
    have q1 : decide (a < (s.length : Int)) = false := by rw [decide_eq_false_iff_not]; omega
    go_enter Try.func24, Try.ntmps24
    go_wp2_with fail
    go_loopw [7] (fun iv wr => iv = .int .i64 a ∧ Below w.heap.size w wr) (fun iv _ => 0)
    case atStart => exact ⟨rfl, .refl _ _⟩
    case round =>
      obtain ⟨rfl, hB⟩ := hrel
      go_wp2_with fail
      go_ret
      exact ⟨ret_i (by rw [HV.out.2, h2, ceilB_len]), hB⟩
  · have q0 : a < 0 := h1
    subst h2
    go_enter Try.func24, Try.ntmps24
    go_wp2_with fail
    go_loopw [7] (fun iv wr => ∃ k : Nat, k ≤ s.length ∧ iv = .int .i64 ((k : Nat) : Int) ∧ Below w.heap.size w wr ∧ ceilB (tabOf R) s k = ceilB (tabOf R) s 0) (fun iv _ => s.length - (intOf iv).toNat)
    case atStart => exact ⟨0, HV.out.1, rfl, .refl _ _, rfl⟩
    case round =>
      obtain ⟨k, hk, rfl, hB, hE⟩ := hrel
      have HB := Lib.hid hB
      have HE := Lib.hid hE
      clear hB hE
      by_cases hlt : k < s.length
      · have HCall := Lib.hid (is_any k (HR.out.below HB.out) (HS.out.below HB.out) HOk.out (by omega) hl)
        rw [isB_lt hlt] at HCall
        have HD := Lib.hid (ceilB_step (T := tabOf R) hlt)
        have r1 : (k : Int) < (s.length : Int) := by omega
        go_wp2_with fail
        refine HCall.out.mono ?_
        rintro e w1 ⟨rfl, hB1⟩
        have HB1 := Lib.hid (HB.out.trans (hB1.mono HB.out.size))
        clear hB1
        cases hb : begAt (tabOf R) s k with
        | true =>
          have HF := Lib.hid (show ceilB (tabOf R) s 0 = k by rw [← HE.out, HD.out, hb]; rfl)
          clear hb
          go_wp2_with fail
          go_ret
          exact ⟨ret_i (by rw [HV.out.2, HF.out]), HB1.out⟩
        | false =>
          have HN := Lib.hid (show ceilB (tabOf R) s (k + 1) = ceilB (tabOf R) s 0 by rw [← HE.out, HD.out, hb]; rfl)
          clear hb
          go_wp2_with fail
          go_roundw
          case rel => exact ⟨k + 1, by omega, by go_num, HB1.out, HN.out⟩
          case measure => simp [intOf] <;> omega
      · have hke : k = s.length := by omega
        subst hke
        have HF := Lib.hid (show ceilB (tabOf R) s 0 = s.length by rw [← HE.out, ceilB_len])
        go_wp2_with fail
        go_ret
        exact ⟨ret_i (by rw [HV.out.2, HF.out]), HB.out⟩
  · have q0 : decide ((n : Int) < 0) = false := by rw [decide_eq_false_iff_not]; omega
    go_enter Try.func24, Try.ntmps24
    go_wp2_with fail
    go_loopw [7] (fun iv wr => ∃ k : Nat, k ≤ s.length ∧ iv = .int .i64 ((k : Nat) : Int) ∧ Below w.heap.size w wr ∧ ceilB (tabOf R) s k = ceilB (tabOf R) s n) (fun iv _ => s.length - (intOf iv).toNat)
    case atStart => exact ⟨n, HV.out.1, rfl, .refl _ _, rfl⟩
    case round =>
      obtain ⟨k, hk, rfl, hB, hE⟩ := hrel
      have HB := Lib.hid hB
      have HE := Lib.hid hE
      clear hB hE
      by_cases hlt : k < s.length
      · have HCall := Lib.hid (is_any k (HR.out.below HB.out) (HS.out.below HB.out) HOk.out (by omega) hl)
        rw [isB_lt hlt] at HCall
        have HD := Lib.hid (ceilB_step (T := tabOf R) hlt)
        have r1 : (k : Int) < (s.length : Int) := by omega
        go_wp2_with fail
        refine HCall.out.mono ?_
        rintro e w1 ⟨rfl, hB1⟩
        have HB1 := Lib.hid (HB.out.trans (hB1.mono HB.out.size))
        clear hB1
        cases hb : begAt (tabOf R) s k with
        | true =>
          have HF := Lib.hid (show ceilB (tabOf R) s n = k by rw [← HE.out, HD.out, hb]; rfl)
          clear hb
          go_wp2_with fail
          go_ret
          exact ⟨ret_i (by rw [HV.out.2, HF.out]), HB1.out⟩
        | false =>
          have HN := Lib.hid (show ceilB (tabOf R) s (k + 1) = ceilB (tabOf R) s n by rw [← HE.out, HD.out, hb]; rfl)
          clear hb
          go_wp2_with fail
          go_roundw
          case rel => exact ⟨k + 1, by omega, by go_num, HB1.out, HN.out⟩
          case measure => simp [intOf] <;> omega
      · have hke : k = s.length := by omega
        subst hke
        have HF := Lib.hid (show ceilB (tabOf R) s n = s.length by rw [← HE.out, ceilB_len])
        go_wp2_with fail
        go_ret
        exact ⟨ret_i (by rw [HV.out.2, HF.out]), HB.out⟩
end
end Go.Proofs.Ytpgeccgfkcjcoaa

/- Chapter 11's example; BackPrev: its walk. -/
namespace Go.Proofs.Ytpgeccgfkcjcoaa
open Go.RowKit

/-- chapter 11's text: where its clusters begin -/
theorem ex11_beg {R : List Rw} (HF : RFacts R) (j : Nat) : begAt (tabOf R) [97, 127462, 127463, 127464] j = true ↔ j = 0 ∨ j = 1 ∨ j = 3 := by
  rw [← starts_mem, HF.seg.ex5]; simp
theorem ex11_begF {R : List Rw} (HF : RFacts R) (j : Nat) (h : ¬ (j = 0 ∨ j = 1 ∨ j = 3)) : begAt (tabOf R) [97, 127462, 127463, 127464] j = false := by
  cases hb : begAt (tabOf R) [97, 127462, 127463, 127464] j with
  | false => rfl
  | true => exact absurd ((ex11_beg HF j).1 hb) h
theorem ex11_floor {R : List Rw} (HF : RFacts R) : floorI (tabOf R) [97, 127462, 127463, 127464] 2 = 1 := by
  rw [show (2 : Int) = ((2 : Nat) : Int) from rfl, floorI_mid (by decide) (by decide)]
  refine floorB_eq (by decide) (.inr (by rw [isB_lt (by decide)]; exact (ex11_beg HF 1).2 (by simp))) fun j h1 h2 => ?_
  have : j = 2 := by omega
  subst this
  rw [isB_lt (by decide)]
  exact ex11_begF HF 2 (by omega)
theorem ex11_prev {R : List Rw} (HF : RFacts R) : prevI (tabOf R) [97, 127462, 127463, 127464] 3 = 1 := ex11_floor HF
theorem ex11_ceil {R : List Rw} (HF : RFacts R) : ceilI (tabOf R) [97, 127462, 127463, 127464] 2 = 3 := by
  rw [show (2 : Int) = ((2 : Nat) : Int) from rfl, ceilI_mid (by decide) (by decide)]
  refine ceilB_eq (by decide) (by decide) (fun j h1 h2 => ?_) (by decide) (.inr ((ex11_beg HF 3).2 (by simp)))
  have : j = 2 := by omega
  subst this
  exact ex11_begF HF 2 (by omega)
theorem ex11_next {R : List Rw} (HF : RFacts R) : nextI (tabOf R) [97, 127462, 127463, 127464] 0 = 1 := by
  show ceilI (tabOf R) [97, 127462, 127463, 127464] ((1 : Nat) : Int) = 1
  rw [ceilI_mid (by decide) (by decide)]
  exact ceilB_eq (by decide) (by decide) (fun j h1 h2 => by omega) (by decide) (.inr ((ex11_beg HF 1).2 (by simp)))
set_option maxRecDepth 100000 in
set_option maxHeartbeats 4000000 in
theorem awake11_any (w : World) : Calls Try.prog 20 #[] w fun e w' => e = .returned (.bool true) ∧ Below w.heap.size w w' := by
  obtain ⟨R, HFc, hrows⟩ := apiRows_any
  have HF := Lib.hid HFc
  have HRows := Lib.hid hrows
  have HTk := Lib.hid HFc.seg.tab
  clear HFc hrows
  go_enter Try.func20, Try.ntmps20
  go_wp2_with fail
  refine (HRows.out w).mono ?_
  rintro e w1 ⟨v, rfl, hB1, hR1⟩
  have HB1 := Lib.hid hB1
  go_wp2_with fail
  refine (build_tb v R w1 hR1 HF.out.ok).mono ?_
  rintro e w2 ⟨tp, rfl, hB2, hT⟩
  have HT2 := Lib.hid (hT.below (below1 w2 (.cells #[.int .i32 97, .int .i32 127462, .int .i32 127463, .int .i32 127464] 21)))
  have HB2 := Lib.hid (below_new (below_trans' HB1.out hB2) (.cells #[.int .i32 97, .int .i32 127462, .int .i32 127463, .int .i32 127464] 21))
  have HL2 := Lib.hid (show RunesIn (w2.alloc (.cells #[.int .i32 97, .int .i32 127462, .int .i32 127463, .int .i32 127464] 21)) (.slice (some ⟨w2.heap.size, 0, none⟩) 4 4) [97, 127462, 127463, 127464] from rs_lit runeE_len w2 _ _ _ 4 rfl (by decide) rfl)
  have HOk := Lib.hid (show RunesOk [97, 127462, 127463, 127464] from fun x hx => by simp at hx; unfold I32; omega)
  clear hB1 hR1 hB2 hT HB1
  go_upto_region 3 with fail
  generalize w2.alloc (.cells #[.int .i32 97, .int .i32 127462, .int .i32 127463, .int .i32 127464] 21) = W at HT2 HB2 HL2 ⊢
  generalize w2.heap.size = lb at HL2 ⊢
  go_wp2_with fail
  refine (floor_any 2 HTk.out HT2.out HL2.out HOk.out (by decide)).mono ?_
  rintro e w3 ⟨rfl, hB3⟩
  rw [ex11_floor HF.out]
  have HT3 := Lib.hid (HT2.out.below hB3)
  have HL3 := Lib.hid (HL2.out.below hB3)
  have HB3 := Lib.hid (below_trans' HB2.out hB3)
  clear hB3 HT2 HL2 HB2
  go_wp2_with fail
  refine (prev_any 3 HTk.out HT3.out HL3.out HOk.out (by decide) (by decide)).mono ?_
  rintro e w4 ⟨rfl, hB4⟩
  rw [ex11_prev HF.out]
  have HT4 := Lib.hid (HT3.out.below hB4)
  have HL4 := Lib.hid (HL3.out.below hB4)
  have HB4 := Lib.hid (below_trans' HB3.out hB4)
  clear hB4 HT3 HL3 HB3
  go_wp2_with fail
  refine (ceil_any 2 HTk.out HT4.out HL4.out HOk.out (by decide)).mono ?_
  rintro e w5 ⟨rfl, hB5⟩
  rw [ex11_ceil HF.out]
  have HT5 := Lib.hid (HT4.out.below hB5)
  have HL5 := Lib.hid (HL4.out.below hB5)
  have HB5 := Lib.hid (below_trans' HB4.out hB5)
  clear hB5 HT4 HL4 HB4
  go_wp2_with fail
  refine (bnext_any 0 HTk.out HT5.out HL5.out HOk.out (by decide) (by decide)).mono ?_
  rintro e w6 ⟨rfl, hB6⟩
  rw [ex11_next HF.out]
  have HB6 := Lib.hid (below_trans' HB5.out hB6)
  clear hB6 HT5 HL5 HB5
  go_wp2_with fail
  go_ret
  exact ⟨rfl, HB6.out⟩
theorem fin11 {w w1 : World} (h1 : Below w.heap.size w w1) : Calls Try.prog 20 #[] w1 fun e w' => e = .returned (.bool true) ∧ Below w.heap.size w w' := by
  refine (awake11_any w1).mono ?_
  rintro e w' ⟨rfl, hB⟩
  exact ⟨rfl, below_trans' h1 hB⟩
theorem prevI_cases (T : Tab) (s : List Int) (a : Int) : (prevI T s a : Int) = if a > 0 then (if a > (s.length : Int) then (s.length : Int) else (floorI T s (a - 1) : Int)) else 0 := by
  unfold prevI
  by_cases h : a > 0
  · rw [if_pos h]
    by_cases h2 : a > (s.length : Int)
    · rw [if_pos h2]
      by_cases h3 : s.length = 0
      · have hle := floorI_le T s (max (min a ((s.length : Int) + 1)) 0 - 1)
        omega
      · rw [floorI_big (by omega) (by omega)]
    · rw [if_neg h2]
      have : max (min a ((s.length : Int) + 1)) 0 - 1 = a - 1 := by omega
      rw [this]
  · rw [if_neg h, floorI_nonpos (by omega)]; rfl
theorem nextI_cases (T : Tab) (s : List Int) (a : Int) : (nextI T s a : Int) = if a < (s.length : Int) then (if a ≥ 0 then (ceilI T s (a + 1) : Int) else (ceilI T s 0 : Int)) else (s.length : Int) := by
  unfold nextI
  by_cases h : a < (s.length : Int)
  · rw [if_pos h, if_neg (by omega)]
    by_cases h2 : a ≥ 0
    · rw [if_pos h2]
      have : max a (-1) + 1 = a + 1 := by omega
      rw [this]
    · rw [if_neg h2, ceilI_nonpos (by omega), ceilI_nonpos (Int.le_refl _)]
  · rw [if_neg h, if_pos (by omega)]
end Go.Proofs.Ytpgeccgfkcjcoaa
