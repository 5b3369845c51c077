/- Joined texts: IdxN IdxR. -/
import Derived.Test.YtblajooebmjfoaaGreatZdac
import Derived.Test.YtblajooebmjfoaaGreatZdaa
/- IndexFinds: the document's Floor, Ceil, On; the law's walk. -/
namespace Go.Proofs.YtblajooebmjfoaaGreat
open Go.RowKit

theorem bds_starts (T : Tab) (s : List Int) : Bds (starts T s) s.length := by
  refine ⟨starts_sorted T s, fun x hx => begAt_lt ((starts_mem T s x).1 hx), ?_⟩
  by_cases hs : s = []
  · subst hs
    exact .inr ⟨by rw [starts_nil]; rfl, rfl⟩
  · have h0 := (starts_mem T s 0).2 (begAt_zero T hs)
    obtain ⟨i, hi⟩ := List.mem_iff_getElem?.1 h0
    rcases Nat.eq_zero_or_pos i with rfl | hp
    · exact .inl hi
    · obtain ⟨y, hy⟩ := at_some (k := 0) (S := starts T s) (by have := at_lt hi; omega)
      have := sorted_at (starts_sorted T s) hy hi hp
      omega
section
variable {S : List Nat} {n : Nat} {w : World} {sv : Value}
set_option maxRecDepth 100000 in
set_option maxHeartbeats 1000000 in
theorem rfloor_any (hI : IntsIn w sv S) (H : Bds S n) (hl : S.length ≤ 1000000) (hn : n ≤ 1000000) (a : Int) :
    Calls Tryz.prog 13 #[sv, .int .i64 (n : Int), .int .i64 a] w fun e w' => e = .returned (.int .i64 ((flX S n a : Nat) : Int)) ∧ w = w' := by
  have HI := Lib.hid hI
  have HS := Lib.hid H.sorted
  obtain ⟨sa, scap, rfl, _, hm, _⟩ := ints_cells hI
  unfold maxLen at hm
  clear hI
  by_cases han : a ≥ (n : Int)
  · have HE := Lib.hid (show flX S n a = n by unfold flX; rw [if_pos han])
    go_enter Tryz.func13, Tryz.ntmps13
    go_wp2_with fail
    go_ret
    exact ⟨by rw [HE.out]; rfl, rfl⟩
  · have q0 : decide (a ≥ (n : Int)) = false := decide_eq_false han
    have HE := Lib.hid (lstTo_end (S := S) (n := n) (a := a) (by omega))
    clear han
    go_enter Tryz.func13, Tryz.ntmps13
    go_wp2_with fail
    go_loopw [7, 8] (fun kv iv wr => ∃ i : Nat, i ≤ S.length ∧ kv = .int .i64 ((lstTo S a i : Nat) : Int) ∧ iv = .int .i64 ((i : Nat) : Int) ∧ w = wr) (fun _ iv _ => S.length - (intOf iv).toNat)
    case atStart => exact ⟨0, Nat.zero_le _, by rw [lstTo_zero]; rfl, rfl, rfl⟩
    case round =>
      obtain ⟨i, hi, rfl, rfl, rfl⟩ := hrel
      by_cases hlt : i < S.length
      · obtain ⟨x, hx⟩ : ∃ x, S[i]? = some x := ⟨S[i], List.getElem?_eq_getElem hlt⟩
        have HT := Lib.hid (lstTo_take HS.out (a := a) hx)
        have HP := Lib.hid (lstTo_pass HS.out (a := a) hx)
        obtain ⟨b, off, _, hv, _, _, _, _, d0⟩ := int_cell HI.out hx
        cases hv
        have r0 : (i : Int) < (S.length : Int) := by omega
        have r1 : (0 : Int) ≤ (i : Int) := by omega
        have e1 := IntWalk.i64_in ((i : Int) + 1) (by omega)
        clear hx
        by_cases hxa : (x : Int) ≤ a
        · have HN := Lib.hid (HT.out hxa)
          go_wp2_with fail
          go_roundw
          case rel => exact ⟨i + 1, by omega, by rw [HN.out], by go_num, by first | rfl | trivial⟩
          case measure => simp [intOf] <;> omega
        · have q1 : decide ((x : Int) ≤ a) = false := decide_eq_false hxa
          have HN := Lib.hid (HP.out hxa)
          clear hxa
          go_wp2_with fail
          go_roundw
          case rel => exact ⟨i + 1, by omega, by rw [HN.out], by go_num, by first | rfl | trivial⟩
          case measure => simp [intOf] <;> omega
      · have hke : i = S.length := by omega
        subst hke
        rw [HE.out]
        have r0 : decide ((S.length : Int) < (S.length : Int)) = false := by simp
        clear hlt hi
        go_wp2_with fail
        go_ret
        exact ⟨rfl, rfl⟩
theorem clX_hit (H : Bds S n) {a : Int} {x : Nat} (hx : S[ahd S a]? = some x) : clX S n a = x := by
  unfold clX
  by_cases h : a ≤ 0
  · rw [if_pos h]
    have := clX_of H a h (by have := at_lt hx; omega)
    rw [this] at hx
    exact (Option.some.inj hx)
  · rw [if_neg h, stA_nat, bd_some hx]
set_option maxRecDepth 100000 in
set_option maxHeartbeats 1000000 in
theorem rceil_any (hI : IntsIn w sv S) (H : Bds S n) (hl : S.length ≤ 1000000) (hn : n ≤ 1000000) (a : Int) :
    Calls Tryz.prog 15 #[sv, .int .i64 (n : Int), .int .i64 a] w fun e w' => e = .returned (.int .i64 ((clX S n a : Nat) : Int)) ∧ w = w' := by
  have HI := Lib.hid hI
  have HF := Lib.hid (ahd_found H.sorted a)
  have HH := Lib.hid H
  have hal := ahd_le S a
  obtain ⟨sa, scap, rfl, _, hm, _⟩ := ints_cells hI
  unfold maxLen at hm
  clear hI H
  go_enter Tryz.func15, Tryz.ntmps15
  go_wp2_with fail
  go_loopw [7] (fun iv wr => ∃ i : Nat, i ≤ ahd S a ∧ iv = .int .i64 ((i : Nat) : Int) ∧ w = wr) (fun iv _ => S.length - (intOf iv).toNat)
  case atStart => exact ⟨0, Nat.zero_le _, rfl, rfl⟩
  case round =>
    obtain ⟨i, hi, rfl, rfl⟩ := hrel
    by_cases hlt : i < S.length
    · obtain ⟨x, hx⟩ : ∃ x, S[i]? = some x := ⟨S[i], List.getElem?_eq_getElem hlt⟩
      have HX := Lib.hid hx
      obtain ⟨b, off, _, hv, _, _, _, _, d0⟩ := int_cell HI.out hx
      cases hv
      have r0 : (i : Int) < (S.length : Int) := by omega
      have r1 : (0 : Int) ≤ (i : Int) := by omega
      have e1 := IntWalk.i64_in ((i : Int) + 1) (by omega)
      clear hx
      by_cases hxa : (x : Int) ≥ a
      · have hia : i = ahd S a := by
          rcases Nat.lt_or_ge i (ahd S a) with h | h
          · have := HF.out.lo i x h HX.out; omega
          · omega
        have HE := Lib.hid (show clX S n a = x from clX_hit HH.out (by rw [← hia]; exact HX.out))
        clear hia
        go_wp2_with fail
        go_ret
        exact ⟨by rw [HE.out]; rfl, rfl⟩
      · have q1 : decide ((x : Int) ≥ a) = false := decide_eq_false hxa
        have hia : i + 1 ≤ ahd S a := by
          rcases Nat.lt_or_ge i (ahd S a) with h | h
          · exact h
          · have := HF.out.hi i x h HX.out; omega
        clear hxa
        go_wp2_with fail
        go_roundw
        case rel => exact ⟨i + 1, hia, by go_num, by first | rfl | trivial⟩
        case measure => simp [intOf] <;> omega
    · have hke : i = S.length := by omega
      have hae : ahd S a = S.length := by omega
      subst hke
      have r0 : decide ((S.length : Int) < (S.length : Int)) = false := by simp
      by_cases ha : a ≤ 0
      · have HE := Lib.hid (show clX S n a = 0 by unfold clX; rw [if_pos ha])
        clear hlt hi hae
        go_wp2_with fail
        go_ret
        exact ⟨by rw [HE.out]; rfl, rfl⟩
      · have q1 : decide (a ≤ 0) = false := decide_eq_false ha
        have HE := Lib.hid (show clX S n a = n by unfold clX; rw [if_neg ha, hae, stA_nat, bd_end])
        clear hlt hi hae ha
        go_wp2_with fail
        go_ret
        exact ⟨by rw [HE.out]; rfl, rfl⟩
/-- the place so many on, as a number -/
def tgt (L k m : Int) : Int := k + min (max m (-k)) (L - k)
set_option maxRecDepth 100000 in
set_option maxHeartbeats 2000000 in
theorem ron_any (hI : IntsIn w sv S) (H : Bds S n) (hl : S.length ≤ 1000000) (hn : n ≤ 1000000) (a m : Int) (hm0 : -1000000 ≤ m) (hm1 : m ≤ 1000000) :
    Calls Tryz.prog 17 #[sv, .int .i64 (n : Int), .int .i64 a, .int .i64 m] w fun e w' => e = .returned (.int .i64 ((onX S n a m : Nat) : Int)) ∧ w = w' := by
  have HI := Lib.hid hI
  have HH := Lib.hid H
  obtain ⟨k, hk, hka⟩ := flX_bd H a
  have HOn := Lib.hid (fun (j : Nat) (hj : (j : Int) = tgt (S.length : Int) k m) => onX_bd H (m := m) hk hka hj)
  have HFl := Lib.hid (rfloor_any hI H hl hn a)
  rw [hka] at HFl
  have HFa := Lib.hid (fun (x : Int) => rfloor_any hI H hl hn x)
  have HCa := Lib.hid (fun (x : Int) => rceil_any hI H hl hn x)
  have HBle := Lib.hid (bd_le H)
  obtain ⟨sa, scap, rfl, _, hmx, _⟩ := ints_cells hI
  clear hI hka
  go_enter Tryz.func17, Tryz.ntmps17
  go_wp2_with fail
  refine HFl.out.mono ?_
  rintro e w' ⟨rfl, rfl⟩
  clear HFl
  go_wp2_with fail
  go_loopw [2, 3] (fun av mv wr => ∃ (p : Nat) (q : Int), p ≤ S.length ∧ -1000000 ≤ q ∧ q ≤ 1000000 ∧ tgt (S.length : Int) p q = tgt (S.length : Int) k m ∧ av = .int .i64 ((bd S n p : Nat) : Int) ∧ mv = .int .i64 q ∧ w = wr) (fun _ mv _ => (intOf mv).toNat)
  case atStart => exact ⟨k, m, hk, hm0, hm1, rfl, rfl, rfl, rfl⟩
  case round =>
    obtain ⟨p, q, hp, hq0, hq1, ht, rfl, rfl, rfl⟩ := hrel
    have hbl := HBle.out p
    have HT := Lib.hid ht
    clear ht
    by_cases hgo : q > 0 ∧ p < S.length
    · obtain ⟨g0, g1⟩ := hgo
      have hb := bd_lt HH.out g1
      have HN := Lib.hid (clX_next HH.out g1)
      have HT2 := Lib.hid (show tgt (S.length : Int) ((p + 1 : Nat) : Int) (q - 1) = tgt (S.length : Int) k m by
        rw [← HT.out]; unfold tgt; omega)
      obtain ⟨bp, hbp⟩ : ∃ bp, bp = bd S n p := ⟨_, rfl⟩
      rw [← hbp] at hb hbl HN ⊢
      have s1 : (bp : Int) < (n : Int) := by omega
      have e1 := IntWalk.i64_in ((bp : Int) + 1) (by omega)
      have e2 := IntWalk.i64_in (q - 1) (by omega)
      clear hbp
      go_wp2_with fail
      refine (HCa.out ((bp : Int) + 1)).mono ?_
      rintro e w' ⟨rfl, rfl⟩
      rw [HN.out]
      go_wp2_with fail
      go_roundw
      case rel => exact ⟨p + 1, q - 1, by omega, by omega, by omega, HT2.out, rfl, rfl, by first | rfl | trivial⟩
      case measure => simp [intOf] <;> omega
    · have HEx := Lib.hid (show q ≤ 0 ∨ p = S.length by omega)
      clear hgo
      by_cases g0 : q > 0
      case' pos =>
        have hpe : p = S.length := by have := HEx.out; omega
        have hbn : bd S n p = n := by rw [hpe]; exact bd_end
        have s1 : decide (((bd S n p : Nat) : Int) < (n : Int)) = false := decide_eq_false (by omega)
        have s2 : decide (bd S n p < n) = false := decide_eq_false (by omega)
        clear hpe hbn
        go_upto_region 5 with fail
        clear s1 s2
      case' neg =>
        have s0 : decide (q > 0) = false := decide_eq_false g0
        have s3 : decide (0 < q) = false := decide_eq_false g0
        go_upto_region 5 with fail
        clear s0 s3
      all_goals
        clear g0
        go_loopw [2, 3] (fun av mv wr => ∃ (p : Nat) (q : Int), p ≤ S.length ∧ -1000000 ≤ q ∧ q ≤ 1000000 ∧ (q ≤ 0 ∨ p = S.length) ∧ tgt (S.length : Int) p q = tgt (S.length : Int) k m ∧ av = .int .i64 ((bd S n p : Nat) : Int) ∧ mv = .int .i64 q ∧ w = wr) (fun _ mv _ => (-(intOf mv)).toNat)
        case atStart => exact ⟨p, q, hp, hq0, hq1, HEx.out, HT.out, rfl, rfl, rfl⟩
        case round =>
          clear HT HEx hbl hp hq0 hq1
          obtain ⟨p, q, hp, hq0, hq1, hex, ht, rfl, rfl, rfl⟩ := hrel
          have hbl := HBle.out p
          have HT := Lib.hid ht
          have HEx := Lib.hid hex
          clear ht hex
          by_cases hgo : q < 0 ∧ 0 < p
          · obtain ⟨g0, g1⟩ := hgo
            obtain ⟨p1, rfl⟩ : ∃ p1, p = p1 + 1 := ⟨p - 1, by omega⟩
            have hb := bd_mono HH.out (show 0 < p1 + 1 by omega) hp
            have HN := Lib.hid (flX_prev HH.out (show p1 < S.length by omega))
            have HT2 := Lib.hid (show tgt (S.length : Int) ((p1 : Nat) : Int) (q + 1) = tgt (S.length : Int) k m by
              rw [← HT.out]; unfold tgt; omega)
            obtain ⟨bp, hbp⟩ : ∃ bp, bp = bd S n (p1 + 1) := ⟨_, rfl⟩
            rw [← hbp] at hb hbl HN ⊢
            have s1 : (bp : Int) > 0 := by omega
            have e1 := IntWalk.i64_in ((bp : Int) - 1) (by omega)
            have e2 := IntWalk.i64_in (q + 1) (by omega)
            clear hbp
            go_wp2_with fail
            refine (HFa.out ((bp : Int) - 1)).mono ?_
            rintro e w' ⟨rfl, rfl⟩
            rw [HN.out]
            go_wp2_with fail
            go_roundw
            case rel => exact ⟨p1, q + 1, by omega, by omega, by omega, .inl (by omega), HT2.out, rfl, rfl, by first | rfl | trivial⟩
            case measure => simp [intOf] <;> omega
          · have hj : ((p : Nat) : Int) = tgt (S.length : Int) k m := by
              rw [← HT.out]
              have := HEx.out
              unfold tgt
              omega
            have HE := Lib.hid (HOn.out p hj)
            clear hj
            by_cases g0 : q < 0
            · have hp0 : p = 0 := by omega
              have hb0 : bd S n p = 0 := by rw [hp0]; exact bd_zero HH.out
              have s1 : decide (((bd S n p : Nat) : Int) > 0) = false := decide_eq_false (by omega)
              have s2 : decide (0 < bd S n p) = false := decide_eq_false (by omega)
              clear hgo hp0 hb0
              go_wp2_with fail
              go_ret
              exact ⟨by rw [HE.out]; rfl, rfl⟩
            · have s0 : decide (q < 0) = false := decide_eq_false g0
              clear hgo g0
              go_wp2_with fail
              go_ret
              exact ⟨by rw [HE.out]; rfl, rfl⟩
end
end Go.Proofs.YtblajooebmjfoaaGreat

/- IndexFinds: its walk. -/
namespace Go.Proofs.YtblajooebmjfoaaGreat
open Go.RowKit

theorem onX_clamp {S : List Nat} {n : Nat} {a m q : Int} (hl : S.length ≤ 400) (hq : (m > 400 ∧ q = 400) ∨ (m < -400 ∧ q = -400) ∨ (-400 ≤ m ∧ m ≤ 400 ∧ q = m)) : onX S n a m = onX S n a q := by
  have hk := ahd_le S (flX S n a : Nat)
  unfold onX
  generalize ahd S ((flX S n a : Nat) : Int) = k at hk ⊢
  congr 1
  omega
theorem fin15' {w w1 : World} (h1 : Below w.heap.size w w1) : Calls Tryz.prog 18 #[] w1 fun e w' => e = .returned (.bool true) ∧ Below w.heap.size w w' := by
  refine (awake15_any w1).mono ?_
  rintro e w' ⟨rfl, hB⟩
  exact ⟨rfl, below_trans' h1 hB⟩
set_option maxRecDepth 100000 in
set_option maxHeartbeats 4000000 in
theorem indexFinds_any (v0 : Value) (l0 : List Int) (a m : Int) (w : World) (hl : RunesIn w v0 l0) (hok : RunesOk l0) :
    Calls Tryz.prog 3 #[v0, .int .i64 a, .int .i64 m] w fun e w' => e = .returned (.bool true) ∧ Below w.heap.size w w' := by
  obtain ⟨R, HFc, hrows⟩ := apiRows_any
  have HF := Lib.hid HFc
  have HRows := Lib.hid hrows
  have HTk := Lib.hid HFc.seg.tab
  have HFew := Lib.hid (few_any hl 150)
  clear HFc hrows hl
  obtain ⟨l, hll⟩ : ∃ l, l = l0.take 150 := ⟨_, rfl⟩
  rw [← hll] at HFew
  have HOk := Lib.hid (show RunesOk l by rw [hll]; exact hok.take 150)
  have hlen : l.length ≤ 150 := by rw [hll, List.length_take]; omega
  clear hll hok
  go_enter Tryz.func3, Tryz.ntmps3
  go_wp2_with fail
  refine HFew.out.mono ?_
  rintro e w' ⟨⟨sv, rfl, hS⟩, rfl⟩
  have HS := Lib.hid hS
  obtain ⟨sl, cap, rfl, _, _, _⟩ := runes_cells hS
  clear hS HFew
  go_wp2_with fail
  refine (HRows.out w).mono ?_
  rintro e w1 ⟨v, rfl, hB1, hR1⟩
  have HB1 := Lib.hid hB1
  have HR1 := Lib.hid hR1
  have HS1 := Lib.hid (HS.out.below hB1)
  clear hB1 hR1 HS
  go_wp2_with fail
  refine (build_tb v R w1 HR1.out HF.out.ok).mono ?_
  rintro e w2 ⟨tp, rfl, hB2, hT⟩
  have HT2 := Lib.hid hT
  have HR2 := Lib.hid (HR1.out.below hB2)
  have HS2 := Lib.hid (HS1.out.below hB2)
  have HB2 := Lib.hid (below_trans' HB1.out hB2)
  clear hB2 hT HB1 HR1 HS1
  go_wp2_with fail
  refine (iof_any HTk.out HT2.out HS2.out HOk.out (by omega)).mono ?_
  rintro e w3 ⟨u, rfl, hB3, hX⟩
  have hSl := starts_len (tabOf R) l
  have HRS := Lib.hid (fun (W : World) (rv : Value) (h1 : RowsIn W rv R) (h2 : RunesIn W (.slice sl l.length cap) l) => rstarts_any h1 h2 HOk.out (by omega))
  have HBd := Lib.hid (bds_starts (tabOf R) l)
  generalize starts (tabOf R) l = S at hX hSl HRS HBd
  obtain ⟨xv, rfl, hI⟩ := hX
  have HXc := Lib.hid (show IdxIn w3 (.agg #[xv, .int .i64 ((l.length : Nat) : Int)]) S l.length from ⟨xv, rfl, hI⟩)
  obtain ⟨xa, xcap, rfl, _, hxm, _⟩ := ints_cells hI
  unfold maxLen at hxm
  have HR3 := Lib.hid (HR2.out.below hB3)
  have HS3 := Lib.hid (HS2.out.below hB3)
  have HB3 := Lib.hid (below_trans' HB2.out hB3)
  have hc2 := cell_two_new w3 (.slice xa S.length xcap) (.int .i64 ((l.length : Nat) : Int)) 28
  have c0 : (w3.alloc (.cells #[.slice xa S.length xcap, .int .i64 ((l.length : Nat) : Int)] 28)).cell? ⟨w3.heap.size, 0, none⟩ = some (.slice xa S.length xcap) := hc2 0 _ rfl
  have c1 : (w3.alloc (.cells #[.slice xa S.length xcap, .int .i64 ((l.length : Nat) : Int)] 28)).cell? ⟨w3.heap.size, 1, none⟩ = some (.int .i64 ((l.length : Nat) : Int)) := hc2 1 _ rfl
  have hb4 := below1 w3 (.cells #[.slice xa S.length xcap, .int .i64 ((l.length : Nat) : Int)] 28)
  have HX4 := Lib.hid (HXc.out.below hb4)
  have HR4 := Lib.hid (HR3.out.below hb4)
  have HS4 := Lib.hid (HS3.out.below hb4)
  have HB4 := Lib.hid (below_trans' HB3.out hb4)
  clear hB3 hI hc2 hb4 HR2 HS2 HB2 HT2 HR3 HS3 HB3 HXc
  go_wp2_with fail
  generalize w3.alloc (.cells #[.slice xa S.length xcap, .int .i64 ((l.length : Nat) : Int)] 28) = w4 at c0 c1 HX4 HR4 HS4 HB4 ⊢
  generalize w3.heap.size = xb at c0 c1 ⊢
  refine (HRS.out w4 _ HR4.out HS4.out).mono ?_
  rintro e w5 ⟨ru, rfl, hB5, hI5⟩
  have p0 := cell_later hB5 c0
  have p1 := cell_later hB5 c1
  have HX5 := Lib.hid (HX4.out.below hB5)
  have HB5 := Lib.hid (below_trans' HB4.out hB5)
  have HI5 := Lib.hid hI5
  obtain ⟨ra, rc, rfl, _, hrm, _⟩ := ints_cells hI5
  unfold maxLen at hrm
  clear hB5 hI5 c0 c1 HX4 HR4 HS4 HB4 HRS
  obtain ⟨q, hq⟩ : ∃ q : Int, (m > 400 ∧ q = 400) ∨ (m < -400 ∧ q = -400) ∨ (-400 ≤ m ∧ m ≤ 400 ∧ q = m) := by
    by_cases h1 : m > 400
    · exact ⟨400, .inl ⟨h1, rfl⟩⟩
    · by_cases h2 : m < -400
      · exact ⟨-400, .inr (.inl ⟨h2, rfl⟩)⟩
      · exact ⟨m, .inr (.inr ⟨by omega, by omega, rfl⟩)⟩
  have HC := Lib.hid (onX_clamp (S := S) (n := l.length) (a := a) (by omega) hq)
  have hqb : -1000000 ≤ q ∧ q ≤ 1000000 := by omega
  obtain ⟨ox, hox⟩ : ∃ ox, ox = onX S l.length a q := ⟨_, rfl⟩
  have HOn := Lib.hid (fun (W : World) (X : Value) (h : IdxIn W X S l.length) => show Calls Tryz.prog 16 #[X, .int .i64 a, .int .i64 m] W (fun e w' => e = .returned (.int .i64 ((ox : Nat) : Int)) ∧ Below W.heap.size W w') by rw [hox, ← HC.out]; exact ion_any a m h HBd.out.sorted (by omega))
  have HRon := Lib.hid (fun (W : World) (X : Value) (h : IntsIn W X S) => show Calls Tryz.prog 17 #[X, .int .i64 ((l.length : Nat) : Int), .int .i64 a, .int .i64 q] W (fun e w' => e = .returned (.int .i64 ((ox : Nat) : Int)) ∧ W = w') by rw [hox]; exact ron_any h HBd.out (by omega) (by omega) a q hqb.1 hqb.2)
  clear HC hox hqb
  rcases hq with ⟨h1, hq⟩ | ⟨h1, hq⟩ | ⟨h1, h2, hq⟩
  case' inl =>
    have s2 : decide ((400 : Int) < -400) = false := by decide
    go_upto_region 10 with fail
    rw [hq] at HRon
    clear hq h1 s2
  case' inr.inl =>
    have s1 : decide (m > 400) = false := decide_eq_false (by omega)
    go_upto_region 10 with fail
    rw [hq] at HRon
    clear hq h1 s1
  case' inr.inr =>
    have s1 : decide (m > 400) = false := decide_eq_false (by omega)
    have s2 : decide (m < -400) = false := decide_eq_false (by omega)
    rw [hq] at HRon
    clear hq
    go_upto_region 10 with fail
    clear s1 s2 h1 h2
  all_goals
    go_wp2_with fail
    refine (ifloor_any a HX5.out HBd.out.sorted (by omega)).mono ?_
    rintro e w6 ⟨rfl, hB6⟩
    have c0 := cell_later hB6 p0
    have c1 := cell_later hB6 p1
    have HX6 := Lib.hid (HX5.out.below hB6)
    have HI6 := Lib.hid (HI5.out.below hB6)
    have HB6 := Lib.hid (below_trans' HB5.out hB6)
    obtain ⟨fl, hfl⟩ : ∃ fl, fl = flX S l.length a := ⟨_, rfl⟩
    have HFl := Lib.hid hfl
    rw [← hfl]
    clear hB6 p0 p1 HX5 HI5 HB5 hfl
    go_wp2_with fail
    refine (rfloor_any HI6.out HBd.out (by omega) (by omega) a).mono ?_
    rintro e w' ⟨rfl, rfl⟩
    rw [← HFl.out]
    go_wp2_with fail
    refine (iceil_any a HX6.out HBd.out.sorted (by omega)).mono ?_
    rintro e w7 ⟨rfl, hB7⟩
    have p0 := cell_later hB7 c0
    have p1 := cell_later hB7 c1
    have HX7 := Lib.hid (HX6.out.below hB7)
    have HI7 := Lib.hid (HI6.out.below hB7)
    have HB7 := Lib.hid (below_trans' HB6.out hB7)
    obtain ⟨cl, hcl⟩ : ∃ cl, cl = clX S l.length a := ⟨_, rfl⟩
    have HCl := Lib.hid hcl
    rw [← hcl]
    clear hB7 c0 c1 HX6 HI6 HB6 hcl
    go_wp2_with fail
    refine (rceil_any HI7.out HBd.out (by omega) (by omega) a).mono ?_
    rintro e w' ⟨rfl, rfl⟩
    rw [← HCl.out]
    go_wp2_with fail
    refine (HOn.out w7 _ HX7.out).mono ?_
    rintro e w8 ⟨rfl, hB8⟩
    have HI8 := Lib.hid (HI7.out.below hB8)
    have HB8 := Lib.hid (below_trans' HB7.out hB8)
    clear hB8 p0 p1 HX7 HI7 HB7
    go_wp2_with fail
    refine (HRon.out w8 _ HI8.out).mono ?_
    rintro e w' ⟨rfl, rfl⟩
    go_wp2_with fail
    refine (fin15' HB8.out).mono ?_
    rintro e w9 ⟨rfl, hB9⟩
    go_wp2_with fail
    go_ret
    exact ⟨rfl, hB9⟩
end Go.Proofs.YtblajooebmjfoaaGreat
