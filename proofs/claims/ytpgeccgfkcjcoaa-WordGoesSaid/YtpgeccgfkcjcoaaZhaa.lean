/- Joined texts: WordH WordI. -/
import Derived.Test.YtpgeccgfkcjcoaaZgaa
/- WordGoes: its walk. -/
namespace Go.Proofs.Ytpgeccgfkcjcoaa
open Go.RowKit

/-- where the law's first loop stands at its end, and what the document's Forward makes of it -/
theorem up_ceil {T : Tab} {s : List Int} {a : Int} {i : Nat} (hi : i ≤ s.length) (h1 : a ≤ (i : Int)) (hc : i ≤ ceilI T s a) (hb : Bd T s i) : ceilI T s a = i := by
  by_cases h0 : a ≤ 0
  · rw [ceilI_nonpos h0] at hc ⊢; omega
  · by_cases h2 : (s.length : Int) ≤ a
    · rw [ceilI_big h0 h2]; omega
    · obtain ⟨n, rfl⟩ : ∃ n : Nat, a = (n : Int) := ⟨a.toNat, by omega⟩
      rw [ceilI_mid (by omega) (by omega)] at hc ⊢
      obtain ⟨c1, c2, c3⟩ := ceilB_spec T s (i := n) (by omega)
      by_cases e : i < ceilB T s n
      · have := c1 i (by omega) e
        rcases hb.2 with hb | hb
        · omega
        · rw [this] at hb; cases hb
      · omega
theorem ceilI_is (T : Tab) (s : List Int) (a : Int) : Bd T s (ceilI T s a) := by
  by_cases h0 : a ≤ 0
  · rw [ceilI_nonpos h0]; exact Bd.zero _ _
  · by_cases h2 : (s.length : Int) ≤ a
    · rw [ceilI_big h0 h2]; exact ⟨Nat.le_refl _, .inl rfl⟩
    · obtain ⟨n, rfl⟩ : ∃ n : Nat, a = (n : Int) := ⟨a.toNat, by omega⟩
      rw [ceilI_mid (by omega) (by omega)]
      obtain ⟨c1, c2, c3⟩ := ceilB_spec T s (i := n) (by omega)
      exact ⟨c2, c3⟩
theorem ceilI_ge {T : Tab} {s : List Int} {a : Int} (h : a ≤ (s.length : Int)) : a ≤ (ceilI T s a : Int) := by
  by_cases h0 : a ≤ 0
  · omega
  · by_cases h2 : (s.length : Int) ≤ a
    · rw [ceilI_big h0 h2]; omega
    · obtain ⟨n, rfl⟩ : ∃ n : Nat, a = (n : Int) := ⟨a.toNat, by omega⟩
      rw [ceilI_mid (by omega) (by omega)]
      have : n ≤ ceilB T s n := Nat.le_add_right _ _
      omega
theorem floorI_is (T : Tab) (s : List Int) (a : Int) : Bd T s (floorI T s a) := by
  by_cases h0 : a ≤ 0
  · rw [floorI_nonpos h0]; exact Bd.zero _ _
  · by_cases h2 : (s.length : Int) ≤ a
    · rw [floorI_big h0 h2]; exact ⟨Nat.le_refl _, .inl rfl⟩
    · obtain ⟨n, rfl⟩ : ∃ n : Nat, a = (n : Int) := ⟨a.toNat, by omega⟩
      rw [floorI_mid (by omega) (by omega)]
      have hle := floorB_le T s n
      rcases floorB_is T s n with h | h
      · rw [h]; exact Bd.zero _ _
      · exact Bd.of (by omega) h
theorem down_floor {T : Tab} {s : List Int} {a : Int} {i : Nat} (hi : i ≤ s.length) (h1 : (i : Int) ≤ a) (hc : floorI T s a ≤ i) (hb : Bd T s i) : floorI T s a = i := by
  by_cases h0 : a ≤ 0
  · rw [floorI_nonpos h0] at hc ⊢; omega
  · by_cases h2 : (s.length : Int) ≤ a
    · rw [floorI_big h0 h2] at hc ⊢; omega
    · obtain ⟨n, rfl⟩ : ∃ n : Nat, a = (n : Int) := ⟨a.toNat, by omega⟩
      rw [floorI_mid (by omega) (by omega)] at hc ⊢
      by_cases e : floorB T s n < i
      · have := floorB_none T s n i e (by omega)
        rw [hb.isB] at this; cases this
      · omega
theorem isI_bd {T : Tab} {s : List Int} {i : Nat} (hi : i ≤ s.length) (h : isI T s (i : Int) = true) : Bd T s i := by
  unfold isI at h
  simp only [Bool.and_eq_true] at h
  exact Bd.of hi h.2.2
theorem isI_no {T : Tab} {s : List Int} {i : Nat} (h : isI T s (i : Int) = false) : ¬ Bd T s i := fun hb => by rw [hb.isI] at h; cases h
end Go.Proofs.Ytpgeccgfkcjcoaa

/- WordGoes: its walk. -/
namespace Go.Proofs.Ytpgeccgfkcjcoaa
open Go.RowKit

set_option maxRecDepth 100000 in
set_option maxHeartbeats 16000000 in
theorem wordGoes_any (v0 : Value) (l0 : List Int) (a : Int) (w : World) (hl : RunesIn w v0 l0) (hok : RunesOk l0) (_ : -9223372036854775808 ≤ a ∧ a ≤ 9223372036854775807) :
    Calls Try.prog 6 #[v0, .int .i64 a] w fun e w' => e = .returned (.bool true) ∧ Below w.heap.size w w' := by
  obtain ⟨R, HFc, hrows⟩ := apiRows_any
  have HF := Lib.hid HFc
  have HRows := Lib.hid hrows
  have HTk := Lib.hid HFc.seg.tab
  have HFew := Lib.hid (few_any hl 120)
  clear HFc hrows hl
  obtain ⟨l, hll⟩ : ∃ l, l = l0.take 120 := ⟨_, rfl⟩
  rw [← hll] at HFew
  have HOk := Lib.hid (show RunesOk l by rw [hll]; exact hok.take 120)
  have hlen : l.length ≤ 1000000 := by rw [hll, List.length_take]; omega
  clear hll hok
  have HFst := Lib.hid (fwdI_first (a := a) HTk.out rfl (ceilI_is (tabOf R) l a))
  have HLst := Lib.hid (bckI_last (a := a) HTk.out rfl (floorI_is (tabOf R) l a))
  have HE1 := Lib.hid (wrdsR_ends R l).1
  go_enter Try.func6, Try.ntmps6
  go_wp2_with fail
  refine HFew.out.mono ?_
  rintro e w' ⟨⟨sv, rfl, hS⟩, rfl⟩
  have HS := Lib.hid hS
  clear hS HFew
  go_wp2_with fail
  refine (HRows.out w).mono ?_
  rintro e w1 ⟨v, rfl, hB1, hR1⟩
  have HB1 := Lib.hid hB1
  have HR1 := Lib.hid hR1
  have HS1 := Lib.hid (HS.out.below hB1)
  clear hB1 hR1 HS
  go_wp2_with fail
  refine (build_tb v R w1 HR1.out HF.out.ok).mono ?_
  rintro e w2 ⟨tp, rfl, hB2, hT⟩
  have HT2 := Lib.hid hT
  have HR2 := Lib.hid (HR1.out.below hB2)
  have HS2 := Lib.hid (HS1.out.below hB2)
  have HB2 := Lib.hid (below_trans' HB1.out hB2)
  clear hB2 hT HB1 HR1 HS1
  obtain ⟨sl, cap, rfl, hcap, hmax, _⟩ := runes_cells HS2.out
  unfold maxLen at hmax
  by_cases h0 : a < 0
  · have q0 : a < 0 := h0
    have q1 : decide (a > (l.length : Int)) = false := by rw [decide_eq_false_iff_not]; omega
    have q2 : decide (a > 0) = false := by rw [decide_eq_false_iff_not]; omega
    go_wp2_with fail
    go_loopw [7] (fun iv wr => ∃ i : Nat, i ≤ l.length ∧ iv = .int .i64 ((i : Nat) : Int) ∧ a ≤ (i : Int) ∧ i ≤ ceilI (tabOf R) l a ∧ Below w2.heap.size w2 wr) (fun iv _ => l.length - (intOf iv).toNat)
    case atStart => exact ⟨0, Nat.zero_le _, rfl, by omega, Nat.zero_le _, .refl _ _⟩
    case round =>
      obtain ⟨i, hi, rfl, hia, hic, hB⟩ := hrel
      have HTr := Lib.hid (HT2.out.below hB)
      have HSr := Lib.hid (HS2.out.below hB)
      have HRr := Lib.hid (HR2.out.below hB)
      have HBw := Lib.hid hB
      have HBr := Lib.hid (below_trans' HB2.out hB)
      clear hB
      by_cases hlt : i < l.length
      · have HIs := Lib.hid (isI_any ((i : Nat) : Int) HRr.out HSr.out HOk.out hlen)
        have r0 : (i : Int) < (l.length : Int) := by omega
        cases hI : isI (tabOf R) l ((i : Nat) : Int) with
        | true =>
          rw [hI] at HIs
          have hce := up_ceil hi hia hic (isI_bd hi hI)
          have HUp := Lib.hid (show ∀ x ∈ wrdsR R l, ((x.2 : Nat) : Int) > (i : Int) ↔ ceilI (tabOf R) l a < x.2 from fun x _ => by rw [hce]; omega)
          clear hI hce
          go_wp2_with fail
          refine HIs.out.mono ?_
          rintro e wq ⟨rfl, hC⟩
          have HTq := Lib.hid (HTr.out.below hC)
          have HSq := Lib.hid (HSr.out.below hC)
          have HRq := Lib.hid (HRr.out.below hC)
          have HBq := Lib.hid (below_trans' HBr.out hC)
          clear hC HTr HSr HRr HBr
          go_wp2_with fail
          go_loopw [8] (fun jv wr => jv = .int .i64 a ∧ Below wq.heap.size wq wr) (fun _ _ => 0)
          case atStart => exact ⟨rfl, .refl _ _⟩
          case round =>
            obtain ⟨rfl, hB⟩ := hrel
            have HTz := Lib.hid (HTq.out.below hB)
            have HSz := Lib.hid (HSq.out.below hB)
            have HRz := Lib.hid (HRq.out.below hB)
            have HBz := Lib.hid (below_trans' HBq.out hB)
            have HDn := Lib.hid (show ∀ x ∈ wrdsR R l, ((x.1 : Nat) : Int) < a ↔ x.1 < floorI (tabOf R) l a from fun x _ => by rw [floorI_nonpos (by omega)]; omega)
            clear hB
            go_wp2_with fail
            refine (fwd_any a HTk.out HTz.out HSz.out HOk.out hlen).mono ?_
            rintro e y1 ⟨rfl, hC⟩
            have HTy := Lib.hid (HTz.out.below hC)
            have HSy := Lib.hid (HSz.out.below hC)
            have HRy := Lib.hid (HRz.out.below hC)
            have HBy := Lib.hid (below_trans' HBz.out hC)
            clear hC HTz HSz HRz HBz
            go_wp2_with fail
            refine (rfwd_any (i : Int) _ _ HUp.out HFst.out HTk.out HRy.out HSy.out HOk.out hlen).mono ?_
            rintro e y2 ⟨rfl, hC⟩
            have HTx := Lib.hid (HTy.out.below hC)
            have HSx := Lib.hid (HSy.out.below hC)
            have HRx := Lib.hid (HRy.out.below hC)
            have HBx := Lib.hid (below_trans' HBy.out hC)
            clear hC HTy HSy HRy HBy
            go_wp2_with fail
            refine (wback_any a HTk.out HTx.out HSx.out HOk.out hlen).mono ?_
            rintro e y3 ⟨rfl, hC⟩
            have HTt := Lib.hid (HTx.out.below hC)
            have HSt := Lib.hid (HSx.out.below hC)
            have HRt := Lib.hid (HRx.out.below hC)
            have HBt := Lib.hid (below_trans' HBx.out hC)
            clear hC HTx HSx HRx HBx
            go_wp2_with fail
            refine (rback_any a _ _ HDn.out HLst.out HTk.out HRt.out HSt.out HOk.out hlen).mono ?_
            rintro e y4 ⟨rfl, hC⟩
            have HBe := Lib.hid (below_trans' HBt.out hC)
            clear hC
            go_wp2_with fail
            refine (fin12 HBe.out).mono ?_
            rintro e w9 ⟨rfl, hB9⟩
            go_wp2_with fail
            go_ret
            exact ⟨rfl, hB9⟩
        | false =>
          rw [hI] at HIs
          have hne : ceilI (tabOf R) l a ≠ i := fun e => isI_no hI (by rw [← e]; exact ceilI_is _ _ _)
          clear hI
          go_wp2_with fail
          refine HIs.out.mono ?_
          rintro e wq ⟨rfl, hC⟩
          have HBp := Lib.hid (HBw.out.trans (hC.mono HBw.out.size))
          clear hC
          go_wp2_with fail
          go_roundw
          case rel => exact ⟨i + 1, by omega, by go_num, by omega, by omega, HBp.out⟩
          case measure => simp [intOf] <;> omega
      · have hcl := (ceilI_is (tabOf R) l a).1
        have hce : ceilI (tabOf R) l a = i := by omega
        have HUp := Lib.hid (show ∀ x ∈ wrdsR R l, ((x.2 : Nat) : Int) > (i : Int) ↔ ceilI (tabOf R) l a < x.2 from fun x _ => by rw [hce]; omega)
        have r0 : decide ((i : Int) < (l.length : Int)) = false := by rw [decide_eq_false_iff_not]; omega
        have r1 : decide (i < l.length) = false := decide_eq_false hlt
        clear hce hcl
        obtain ⟨wq, hwq⟩ : ∃ wq, wq = wr := ⟨_, rfl⟩
        rw [← hwq] at HTr HSr HRr HBr ⊢
        have HTq := HTr
        have HSq := HSr
        have HRq := HRr
        have HBq := HBr
        clear hwq HTr HSr HRr HBr HBw
        go_wp2_with fail
        go_loopw [8] (fun jv wr => jv = .int .i64 a ∧ Below wq.heap.size wq wr) (fun _ _ => 0)
        case atStart => exact ⟨rfl, .refl _ _⟩
        case round =>
          obtain ⟨rfl, hB⟩ := hrel
          have HTz := Lib.hid (HTq.out.below hB)
          have HSz := Lib.hid (HSq.out.below hB)
          have HRz := Lib.hid (HRq.out.below hB)
          have HBz := Lib.hid (below_trans' HBq.out hB)
          have HDn := Lib.hid (show ∀ x ∈ wrdsR R l, ((x.1 : Nat) : Int) < a ↔ x.1 < floorI (tabOf R) l a from fun x _ => by rw [floorI_nonpos (by omega)]; omega)
          clear hB
          go_wp2_with fail
          refine (fwd_any a HTk.out HTz.out HSz.out HOk.out hlen).mono ?_
          rintro e y1 ⟨rfl, hC⟩
          have HTy := Lib.hid (HTz.out.below hC)
          have HSy := Lib.hid (HSz.out.below hC)
          have HRy := Lib.hid (HRz.out.below hC)
          have HBy := Lib.hid (below_trans' HBz.out hC)
          clear hC HTz HSz HRz HBz
          go_wp2_with fail
          refine (rfwd_any (i : Int) _ _ HUp.out HFst.out HTk.out HRy.out HSy.out HOk.out hlen).mono ?_
          rintro e y2 ⟨rfl, hC⟩
          have HTx := Lib.hid (HTy.out.below hC)
          have HSx := Lib.hid (HSy.out.below hC)
          have HRx := Lib.hid (HRy.out.below hC)
          have HBx := Lib.hid (below_trans' HBy.out hC)
          clear hC HTy HSy HRy HBy
          go_wp2_with fail
          refine (wback_any a HTk.out HTx.out HSx.out HOk.out hlen).mono ?_
          rintro e y3 ⟨rfl, hC⟩
          have HTt := Lib.hid (HTx.out.below hC)
          have HSt := Lib.hid (HSx.out.below hC)
          have HRt := Lib.hid (HRx.out.below hC)
          have HBt := Lib.hid (below_trans' HBx.out hC)
          clear hC HTx HSx HRx HBx
          go_wp2_with fail
          refine (rback_any a _ _ HDn.out HLst.out HTk.out HRt.out HSt.out HOk.out hlen).mono ?_
          rintro e y4 ⟨rfl, hC⟩
          have HBe := Lib.hid (below_trans' HBt.out hC)
          clear hC
          go_wp2_with fail
          refine (fin12 HBe.out).mono ?_
          rintro e w9 ⟨rfl, hB9⟩
          go_wp2_with fail
          go_ret
          exact ⟨rfl, hB9⟩
  · by_cases h1 : a > (l.length : Int)
    · have q0 : decide (a < 0) = false := by rw [decide_eq_false_iff_not]; omega
      have q1 : a > (l.length : Int) := h1
      have q2 : decide (a < (l.length : Int)) = false := by rw [decide_eq_false_iff_not]; omega
      go_wp2_with fail
      go_loopw [7] (fun iv wr => iv = .int .i64 a ∧ Below w2.heap.size w2 wr) (fun _ _ => 0)
      case atStart => exact ⟨rfl, .refl _ _⟩
      case round =>
        obtain ⟨rfl, hB⟩ := hrel
        have HTr := Lib.hid (HT2.out.below hB)
        have HSr := Lib.hid (HS2.out.below hB)
        have HRr := Lib.hid (HR2.out.below hB)
        have HBr := Lib.hid (below_trans' HB2.out hB)
        have HUp := Lib.hid (show ∀ x ∈ wrdsR R l, ((x.2 : Nat) : Int) > a ↔ ceilI (tabOf R) l a < x.2 from fun x hx => by rw [ceilI_big (by omega) (by omega)]; have := HE1.out x hx; omega)
        clear hB
        obtain ⟨wq, hwq⟩ : ∃ wq, wq = wr := ⟨_, rfl⟩
        rw [← hwq] at HTr HSr HRr HBr ⊢
        have HTq := HTr
        have HSq := HSr
        have HRq := HRr
        have HBq := HBr
        clear hwq HTr HSr HRr HBr
        go_wp2_with fail
        go_loopw [8] (fun jv wr => ∃ j : Nat, j ≤ l.length ∧ jv = .int .i64 ((j : Nat) : Int) ∧ (j : Int) ≤ a ∧ floorI (tabOf R) l a ≤ j ∧ Below wq.heap.size wq wr) (fun jv _ => (intOf jv).toNat)
        case atStart => exact ⟨l.length, Nat.le_refl _, rfl, by omega, (floorI_is _ _ _).1, .refl _ _⟩
        case round =>
          obtain ⟨j, hj, rfl, hja, hjf, hB⟩ := hrel
          have HTz := Lib.hid (HTq.out.below hB)
          have HSz := Lib.hid (HSq.out.below hB)
          have HRz := Lib.hid (HRq.out.below hB)
          have HBw := Lib.hid hB
          have HBz := Lib.hid (below_trans' HBq.out hB)
          clear hB
          by_cases h0 : 0 < j
          · have HIs := Lib.hid (isI_any ((j : Nat) : Int) HRz.out HSz.out HOk.out hlen)
            have r0 : (j : Int) > 0 := by omega
            have r2 := IntWalk.i64_in ((j : Int) - 1) (by omega)
            cases hi : isI (tabOf R) l ((j : Nat) : Int) with
            | true =>
              rw [hi] at HIs
              have hfl := down_floor hj hja hjf (isI_bd hj hi)
              have HDn := Lib.hid (show ∀ x ∈ wrdsR R l, ((x.1 : Nat) : Int) < (j : Int) ↔ x.1 < floorI (tabOf R) l a from fun x _ => by rw [hfl]; omega)
              clear hi hfl
              go_wp2_with fail
              refine HIs.out.mono ?_
              rintro e wz ⟨rfl, hC⟩
              have HTp := Lib.hid (HTz.out.below hC)
              have HSp := Lib.hid (HSz.out.below hC)
              have HRp := Lib.hid (HRz.out.below hC)
              have HBp := Lib.hid (below_trans' HBz.out hC)
              clear hC HTz HSz HRz HBz
              go_wp2_with fail
              refine (fwd_any a HTk.out HTp.out HSp.out HOk.out hlen).mono ?_
              rintro e y1 ⟨rfl, hC⟩
              have HTy := Lib.hid (HTp.out.below hC)
              have HSy := Lib.hid (HSp.out.below hC)
              have HRy := Lib.hid (HRp.out.below hC)
              have HBy := Lib.hid (below_trans' HBp.out hC)
              clear hC HTp HSp HRp HBp
              go_wp2_with fail
              refine (rfwd_any a _ _ HUp.out HFst.out HTk.out HRy.out HSy.out HOk.out hlen).mono ?_
              rintro e y2 ⟨rfl, hC⟩
              have HTx := Lib.hid (HTy.out.below hC)
              have HSx := Lib.hid (HSy.out.below hC)
              have HRx := Lib.hid (HRy.out.below hC)
              have HBx := Lib.hid (below_trans' HBy.out hC)
              clear hC HTy HSy HRy HBy
              go_wp2_with fail
              refine (wback_any a HTk.out HTx.out HSx.out HOk.out hlen).mono ?_
              rintro e y3 ⟨rfl, hC⟩
              have HTt := Lib.hid (HTx.out.below hC)
              have HSt := Lib.hid (HSx.out.below hC)
              have HRt := Lib.hid (HRx.out.below hC)
              have HBt := Lib.hid (below_trans' HBx.out hC)
              clear hC HTx HSx HRx HBx
              go_wp2_with fail
              refine (rback_any (j : Int) _ _ HDn.out HLst.out HTk.out HRt.out HSt.out HOk.out hlen).mono ?_
              rintro e y4 ⟨rfl, hC⟩
              have HBe := Lib.hid (below_trans' HBt.out hC)
              clear hC
              go_wp2_with fail
              refine (fin12 HBe.out).mono ?_
              rintro e w9 ⟨rfl, hB9⟩
              go_wp2_with fail
              go_ret
              exact ⟨rfl, hB9⟩
            | false =>
              rw [hi] at HIs
              have hne : floorI (tabOf R) l a ≠ j := fun e => isI_no hi (by rw [← e]; exact floorI_is _ _ _)
              clear hi
              go_wp2_with fail
              refine HIs.out.mono ?_
              rintro e wz ⟨rfl, hC⟩
              have HBp := Lib.hid (HBw.out.trans (hC.mono HBw.out.size))
              clear hC
              go_wp2_with fail
              go_roundw
              case rel => exact ⟨j - 1, by omega, by go_num, by omega, by omega, HBp.out⟩
              case measure => simp [intOf] <;> omega
          · have hj0 : j = 0 := by omega
            subst hj0
            have hfl : floorI (tabOf R) l a = 0 := by omega
            have HDn := Lib.hid (show ∀ x ∈ wrdsR R l, ((x.1 : Nat) : Int) < 0 ↔ x.1 < floorI (tabOf R) l a from fun x _ => by rw [hfl]; omega)
            clear hfl h0 HBw
            go_wp2_with fail
            refine (fwd_any a HTk.out HTz.out HSz.out HOk.out hlen).mono ?_
            rintro e y1 ⟨rfl, hC⟩
            have HTy := Lib.hid (HTz.out.below hC)
            have HSy := Lib.hid (HSz.out.below hC)
            have HRy := Lib.hid (HRz.out.below hC)
            have HBy := Lib.hid (below_trans' HBz.out hC)
            clear hC HTz HSz HRz HBz
            go_wp2_with fail
            refine (rfwd_any a _ _ HUp.out HFst.out HTk.out HRy.out HSy.out HOk.out hlen).mono ?_
            rintro e y2 ⟨rfl, hC⟩
            have HTx := Lib.hid (HTy.out.below hC)
            have HSx := Lib.hid (HSy.out.below hC)
            have HRx := Lib.hid (HRy.out.below hC)
            have HBx := Lib.hid (below_trans' HBy.out hC)
            clear hC HTy HSy HRy HBy
            go_wp2_with fail
            refine (wback_any a HTk.out HTx.out HSx.out HOk.out hlen).mono ?_
            rintro e y3 ⟨rfl, hC⟩
            have HTt := Lib.hid (HTx.out.below hC)
            have HSt := Lib.hid (HSx.out.below hC)
            have HRt := Lib.hid (HRx.out.below hC)
            have HBt := Lib.hid (below_trans' HBx.out hC)
            clear hC HTx HSx HRx HBx
            go_wp2_with fail
            refine (rback_any 0 _ _ HDn.out HLst.out HTk.out HRt.out HSt.out HOk.out hlen).mono ?_
            rintro e y4 ⟨rfl, hC⟩
            have HBe := Lib.hid (below_trans' HBt.out hC)
            clear hC
            go_wp2_with fail
            refine (fin12 HBe.out).mono ?_
            rintro e w9 ⟨rfl, hB9⟩
            go_wp2_with fail
            go_ret
            exact ⟨rfl, hB9⟩
    · obtain ⟨n, rfl⟩ : ∃ n : Nat, a = (n : Int) := ⟨a.toNat, by omega⟩
      have q0 : decide ((n : Int) < 0) = false := by rw [decide_eq_false_iff_not]; omega
      have q1 : decide ((n : Int) > (l.length : Int)) = false := by rw [decide_eq_false_iff_not]; omega
      have q3 : decide (l.length < n) = false := by rw [decide_eq_false_iff_not]; omega
      have hcg := ceilI_ge (T := tabOf R) (s := l) (a := (n : Int)) (by omega)
      have hfg : floorI (tabOf R) l (n : Int) ≤ n := by
        by_cases e : (n : Int) ≤ 0
        · rw [floorI_nonpos e]; exact Nat.zero_le _
        · by_cases e2 : (l.length : Int) ≤ (n : Int)
          · rw [floorI_big e e2]; omega
          · have := floorI_self (T := tabOf R) (s := l) e (by omega); omega
      go_wp2_with fail
      go_loopw [7] (fun iv wr => ∃ i : Nat, i ≤ l.length ∧ iv = .int .i64 ((i : Nat) : Int) ∧ (n : Int) ≤ (i : Int) ∧ i ≤ ceilI (tabOf R) l (n : Int) ∧ Below w2.heap.size w2 wr) (fun iv _ => l.length - (intOf iv).toNat)
      case atStart => exact ⟨n, by omega, rfl, Int.le_refl _, by omega, .refl _ _⟩
      case round =>
        obtain ⟨i, hi, rfl, hia, hic, hB⟩ := hrel
        have HTr := Lib.hid (HT2.out.below hB)
        have HSr := Lib.hid (HS2.out.below hB)
        have HRr := Lib.hid (HR2.out.below hB)
        have HBw := Lib.hid hB
        have HBr := Lib.hid (below_trans' HB2.out hB)
        clear hB
        by_cases hlt : i < l.length
        · have HIs := Lib.hid (isI_any ((i : Nat) : Int) HRr.out HSr.out HOk.out hlen)
          have r0 : (i : Int) < (l.length : Int) := by omega
          cases hI : isI (tabOf R) l ((i : Nat) : Int) with
          | true =>
            rw [hI] at HIs
            have hce := up_ceil hi hia hic (isI_bd hi hI)
            have HUp := Lib.hid (show ∀ x ∈ wrdsR R l, ((x.2 : Nat) : Int) > (i : Int) ↔ ceilI (tabOf R) l (n : Int) < x.2 from fun x _ => by rw [hce]; omega)
            clear hI hce
            go_wp2_with fail
            refine HIs.out.mono ?_
            rintro e wq ⟨rfl, hC⟩
            have HTq := Lib.hid (HTr.out.below hC)
            have HSq := Lib.hid (HSr.out.below hC)
            have HRq := Lib.hid (HRr.out.below hC)
            have HBq := Lib.hid (below_trans' HBr.out hC)
            clear hC HTr HSr HRr HBr
            go_wp2_with fail
            go_loopw [8] (fun jv wr => ∃ j : Nat, j ≤ l.length ∧ jv = .int .i64 ((j : Nat) : Int) ∧ (j : Int) ≤ (n : Int) ∧ floorI (tabOf R) l (n : Int) ≤ j ∧ Below wq.heap.size wq wr) (fun jv _ => (intOf jv).toNat)
            case atStart => exact ⟨n, by omega, rfl, Int.le_refl _, hfg, .refl _ _⟩
            case round =>
              obtain ⟨j, hj, rfl, hja, hjf, hB⟩ := hrel
              have HTz := Lib.hid (HTq.out.below hB)
              have HSz := Lib.hid (HSq.out.below hB)
              have HRz := Lib.hid (HRq.out.below hB)
              have HBw := Lib.hid hB
              have HBz := Lib.hid (below_trans' HBq.out hB)
              clear hB
              by_cases h0 : 0 < j
              · have HIs := Lib.hid (isI_any ((j : Nat) : Int) HRz.out HSz.out HOk.out hlen)
                have r0 : (j : Int) > 0 := by omega
                have r2 := IntWalk.i64_in ((j : Int) - 1) (by omega)
                cases hi : isI (tabOf R) l ((j : Nat) : Int) with
                | true =>
                  rw [hi] at HIs
                  have hfl := down_floor hj hja hjf (isI_bd hj hi)
                  have HDn := Lib.hid (show ∀ x ∈ wrdsR R l, ((x.1 : Nat) : Int) < (j : Int) ↔ x.1 < floorI (tabOf R) l (n : Int) from fun x _ => by rw [hfl]; omega)
                  clear hi hfl
                  go_wp2_with fail
                  refine HIs.out.mono ?_
                  rintro e wz ⟨rfl, hC⟩
                  have HTp := Lib.hid (HTz.out.below hC)
                  have HSp := Lib.hid (HSz.out.below hC)
                  have HRp := Lib.hid (HRz.out.below hC)
                  have HBp := Lib.hid (below_trans' HBz.out hC)
                  clear hC HTz HSz HRz HBz
                  go_wp2_with fail
                  refine (fwd_any (n : Int) HTk.out HTp.out HSp.out HOk.out hlen).mono ?_
                  rintro e y1 ⟨rfl, hC⟩
                  have HTy := Lib.hid (HTp.out.below hC)
                  have HSy := Lib.hid (HSp.out.below hC)
                  have HRy := Lib.hid (HRp.out.below hC)
                  have HBy := Lib.hid (below_trans' HBp.out hC)
                  clear hC HTp HSp HRp HBp
                  go_wp2_with fail
                  refine (rfwd_any (i : Int) _ _ HUp.out HFst.out HTk.out HRy.out HSy.out HOk.out hlen).mono ?_
                  rintro e y2 ⟨rfl, hC⟩
                  have HTx := Lib.hid (HTy.out.below hC)
                  have HSx := Lib.hid (HSy.out.below hC)
                  have HRx := Lib.hid (HRy.out.below hC)
                  have HBx := Lib.hid (below_trans' HBy.out hC)
                  clear hC HTy HSy HRy HBy
                  go_wp2_with fail
                  refine (wback_any (n : Int) HTk.out HTx.out HSx.out HOk.out hlen).mono ?_
                  rintro e y3 ⟨rfl, hC⟩
                  have HTt := Lib.hid (HTx.out.below hC)
                  have HSt := Lib.hid (HSx.out.below hC)
                  have HRt := Lib.hid (HRx.out.below hC)
                  have HBt := Lib.hid (below_trans' HBx.out hC)
                  clear hC HTx HSx HRx HBx
                  go_wp2_with fail
                  refine (rback_any (j : Int) _ _ HDn.out HLst.out HTk.out HRt.out HSt.out HOk.out hlen).mono ?_
                  rintro e y4 ⟨rfl, hC⟩
                  have HBe := Lib.hid (below_trans' HBt.out hC)
                  clear hC
                  go_wp2_with fail
                  refine (fin12 HBe.out).mono ?_
                  rintro e w9 ⟨rfl, hB9⟩
                  go_wp2_with fail
                  go_ret
                  exact ⟨rfl, hB9⟩
                | false =>
                  rw [hi] at HIs
                  have hne : floorI (tabOf R) l (n : Int) ≠ j := fun e => isI_no hi (by rw [← e]; exact floorI_is _ _ _)
                  clear hi
                  go_wp2_with fail
                  refine HIs.out.mono ?_
                  rintro e wz ⟨rfl, hC⟩
                  have HBp := Lib.hid (HBw.out.trans (hC.mono HBw.out.size))
                  clear hC
                  go_wp2_with fail
                  go_roundw
                  case rel => exact ⟨j - 1, by omega, by go_num, by omega, by omega, HBp.out⟩
                  case measure => simp [intOf] <;> omega
              · have hj0 : j = 0 := by omega
                subst hj0
                have hfl : floorI (tabOf R) l (n : Int) = 0 := by omega
                have HDn := Lib.hid (show ∀ x ∈ wrdsR R l, ((x.1 : Nat) : Int) < 0 ↔ x.1 < floorI (tabOf R) l (n : Int) from fun x _ => by rw [hfl]; omega)
                clear hfl h0 HBw
                go_wp2_with fail
                refine (fwd_any (n : Int) HTk.out HTz.out HSz.out HOk.out hlen).mono ?_
                rintro e y1 ⟨rfl, hC⟩
                have HTy := Lib.hid (HTz.out.below hC)
                have HSy := Lib.hid (HSz.out.below hC)
                have HRy := Lib.hid (HRz.out.below hC)
                have HBy := Lib.hid (below_trans' HBz.out hC)
                clear hC HTz HSz HRz HBz
                go_wp2_with fail
                refine (rfwd_any (i : Int) _ _ HUp.out HFst.out HTk.out HRy.out HSy.out HOk.out hlen).mono ?_
                rintro e y2 ⟨rfl, hC⟩
                have HTx := Lib.hid (HTy.out.below hC)
                have HSx := Lib.hid (HSy.out.below hC)
                have HRx := Lib.hid (HRy.out.below hC)
                have HBx := Lib.hid (below_trans' HBy.out hC)
                clear hC HTy HSy HRy HBy
                go_wp2_with fail
                refine (wback_any (n : Int) HTk.out HTx.out HSx.out HOk.out hlen).mono ?_
                rintro e y3 ⟨rfl, hC⟩
                have HTt := Lib.hid (HTx.out.below hC)
                have HSt := Lib.hid (HSx.out.below hC)
                have HRt := Lib.hid (HRx.out.below hC)
                have HBt := Lib.hid (below_trans' HBx.out hC)
                clear hC HTx HSx HRx HBx
                go_wp2_with fail
                refine (rback_any 0 _ _ HDn.out HLst.out HTk.out HRt.out HSt.out HOk.out hlen).mono ?_
                rintro e y4 ⟨rfl, hC⟩
                have HBe := Lib.hid (below_trans' HBt.out hC)
                clear hC
                go_wp2_with fail
                refine (fin12 HBe.out).mono ?_
                rintro e w9 ⟨rfl, hB9⟩
                go_wp2_with fail
                go_ret
                exact ⟨rfl, hB9⟩
          | false =>
            rw [hI] at HIs
            have hne : ceilI (tabOf R) l (n : Int) ≠ i := fun e => isI_no hI (by rw [← e]; exact ceilI_is _ _ _)
            clear hI
            go_wp2_with fail
            refine HIs.out.mono ?_
            rintro e wq ⟨rfl, hC⟩
            have HBp := Lib.hid (HBw.out.trans (hC.mono HBw.out.size))
            clear hC
            go_wp2_with fail
            go_roundw
            case rel => exact ⟨i + 1, by omega, by go_num, by omega, by omega, HBp.out⟩
            case measure => simp [intOf] <;> omega
        · have hcl := (ceilI_is (tabOf R) l (n : Int)).1
          have hce : ceilI (tabOf R) l (n : Int) = i := by omega
          have HUp := Lib.hid (show ∀ x ∈ wrdsR R l, ((x.2 : Nat) : Int) > (i : Int) ↔ ceilI (tabOf R) l (n : Int) < x.2 from fun x _ => by rw [hce]; omega)
          have r0 : decide ((i : Int) < (l.length : Int)) = false := by rw [decide_eq_false_iff_not]; omega
          have r1 : decide (i < l.length) = false := decide_eq_false hlt
          clear hce hcl
          obtain ⟨wq, hwq⟩ : ∃ wq, wq = wr := ⟨_, rfl⟩
          rw [← hwq] at HTr HSr HRr HBr ⊢
          have HTq := HTr
          have HSq := HSr
          have HRq := HRr
          have HBq := HBr
          clear hwq HTr HSr HRr HBr HBw
          go_wp2_with fail
          go_loopw [8] (fun jv wr => ∃ j : Nat, j ≤ l.length ∧ jv = .int .i64 ((j : Nat) : Int) ∧ (j : Int) ≤ (n : Int) ∧ floorI (tabOf R) l (n : Int) ≤ j ∧ Below wq.heap.size wq wr) (fun jv _ => (intOf jv).toNat)
          case atStart => exact ⟨n, by omega, rfl, Int.le_refl _, hfg, .refl _ _⟩
          case round =>
            obtain ⟨j, hj, rfl, hja, hjf, hB⟩ := hrel
            have HTz := Lib.hid (HTq.out.below hB)
            have HSz := Lib.hid (HSq.out.below hB)
            have HRz := Lib.hid (HRq.out.below hB)
            have HBw := Lib.hid hB
            have HBz := Lib.hid (below_trans' HBq.out hB)
            clear hB
            by_cases h0 : 0 < j
            · have HIs := Lib.hid (isI_any ((j : Nat) : Int) HRz.out HSz.out HOk.out hlen)
              have r0 : (j : Int) > 0 := by omega
              have r2 := IntWalk.i64_in ((j : Int) - 1) (by omega)
              cases hi : isI (tabOf R) l ((j : Nat) : Int) with
              | true =>
                rw [hi] at HIs
                have hfl := down_floor hj hja hjf (isI_bd hj hi)
                have HDn := Lib.hid (show ∀ x ∈ wrdsR R l, ((x.1 : Nat) : Int) < (j : Int) ↔ x.1 < floorI (tabOf R) l (n : Int) from fun x _ => by rw [hfl]; omega)
                clear hi hfl
                go_wp2_with fail
                refine HIs.out.mono ?_
                rintro e wz ⟨rfl, hC⟩
                have HTp := Lib.hid (HTz.out.below hC)
                have HSp := Lib.hid (HSz.out.below hC)
                have HRp := Lib.hid (HRz.out.below hC)
                have HBp := Lib.hid (below_trans' HBz.out hC)
                clear hC HTz HSz HRz HBz
                go_wp2_with fail
                refine (fwd_any (n : Int) HTk.out HTp.out HSp.out HOk.out hlen).mono ?_
                rintro e y1 ⟨rfl, hC⟩
                have HTy := Lib.hid (HTp.out.below hC)
                have HSy := Lib.hid (HSp.out.below hC)
                have HRy := Lib.hid (HRp.out.below hC)
                have HBy := Lib.hid (below_trans' HBp.out hC)
                clear hC HTp HSp HRp HBp
                go_wp2_with fail
                refine (rfwd_any (i : Int) _ _ HUp.out HFst.out HTk.out HRy.out HSy.out HOk.out hlen).mono ?_
                rintro e y2 ⟨rfl, hC⟩
                have HTx := Lib.hid (HTy.out.below hC)
                have HSx := Lib.hid (HSy.out.below hC)
                have HRx := Lib.hid (HRy.out.below hC)
                have HBx := Lib.hid (below_trans' HBy.out hC)
                clear hC HTy HSy HRy HBy
                go_wp2_with fail
                refine (wback_any (n : Int) HTk.out HTx.out HSx.out HOk.out hlen).mono ?_
                rintro e y3 ⟨rfl, hC⟩
                have HTt := Lib.hid (HTx.out.below hC)
                have HSt := Lib.hid (HSx.out.below hC)
                have HRt := Lib.hid (HRx.out.below hC)
                have HBt := Lib.hid (below_trans' HBx.out hC)
                clear hC HTx HSx HRx HBx
                go_wp2_with fail
                refine (rback_any (j : Int) _ _ HDn.out HLst.out HTk.out HRt.out HSt.out HOk.out hlen).mono ?_
                rintro e y4 ⟨rfl, hC⟩
                have HBe := Lib.hid (below_trans' HBt.out hC)
                clear hC
                go_wp2_with fail
                refine (fin12 HBe.out).mono ?_
                rintro e w9 ⟨rfl, hB9⟩
                go_wp2_with fail
                go_ret
                exact ⟨rfl, hB9⟩
              | false =>
                rw [hi] at HIs
                have hne : floorI (tabOf R) l (n : Int) ≠ j := fun e => isI_no hi (by rw [← e]; exact floorI_is _ _ _)
                clear hi
                go_wp2_with fail
                refine HIs.out.mono ?_
                rintro e wz ⟨rfl, hC⟩
                have HBp := Lib.hid (HBw.out.trans (hC.mono HBw.out.size))
                clear hC
                go_wp2_with fail
                go_roundw
                case rel => exact ⟨j - 1, by omega, by go_num, by omega, by omega, HBp.out⟩
                case measure => simp [intOf] <;> omega
            · have hj0 : j = 0 := by omega
              subst hj0
              have hfl : floorI (tabOf R) l (n : Int) = 0 := by omega
              have HDn := Lib.hid (show ∀ x ∈ wrdsR R l, ((x.1 : Nat) : Int) < 0 ↔ x.1 < floorI (tabOf R) l (n : Int) from fun x _ => by rw [hfl]; omega)
              clear hfl h0 HBw
              go_wp2_with fail
              refine (fwd_any (n : Int) HTk.out HTz.out HSz.out HOk.out hlen).mono ?_
              rintro e y1 ⟨rfl, hC⟩
              have HTy := Lib.hid (HTz.out.below hC)
              have HSy := Lib.hid (HSz.out.below hC)
              have HRy := Lib.hid (HRz.out.below hC)
              have HBy := Lib.hid (below_trans' HBz.out hC)
              clear hC HTz HSz HRz HBz
              go_wp2_with fail
              refine (rfwd_any (i : Int) _ _ HUp.out HFst.out HTk.out HRy.out HSy.out HOk.out hlen).mono ?_
              rintro e y2 ⟨rfl, hC⟩
              have HTx := Lib.hid (HTy.out.below hC)
              have HSx := Lib.hid (HSy.out.below hC)
              have HRx := Lib.hid (HRy.out.below hC)
              have HBx := Lib.hid (below_trans' HBy.out hC)
              clear hC HTy HSy HRy HBy
              go_wp2_with fail
              refine (wback_any (n : Int) HTk.out HTx.out HSx.out HOk.out hlen).mono ?_
              rintro e y3 ⟨rfl, hC⟩
              have HTt := Lib.hid (HTx.out.below hC)
              have HSt := Lib.hid (HSx.out.below hC)
              have HRt := Lib.hid (HRx.out.below hC)
              have HBt := Lib.hid (below_trans' HBx.out hC)
              clear hC HTx HSx HRx HBx
              go_wp2_with fail
              refine (rback_any 0 _ _ HDn.out HLst.out HTk.out HRt.out HSt.out HOk.out hlen).mono ?_
              rintro e y4 ⟨rfl, hC⟩
              have HBe := Lib.hid (below_trans' HBt.out hC)
              clear hC
              go_wp2_with fail
              refine (fin12 HBe.out).mono ?_
              rintro e w9 ⟨rfl, hB9⟩
              go_wp2_with fail
              go_ret
              exact ⟨rfl, hB9⟩
end Go.Proofs.Ytpgeccgfkcjcoaa
