/- Joined texts: TokK. -/
import Derived.Deep.RegionHeld3
import Derived.Test.YthlpelfogplomaaZfad
import Derived.Test.YthlpelfogplomaaZfae
import Derived.Test.YthlpelfogplomaaZfag
import Derived.Test.YthlpelfogplomaaZcaa
/- WordSplits: its walk. -/
namespace Go.Proofs.Ythlpelfogplomaa
open Go.RowKit

set_option maxRecDepth 100000 in
set_option maxHeartbeats 8000000 in
theorem wordSplits_any (v0 : Value) (l0 : List Int) (w : World) (hl : RunesIn w v0 l0) (_hok : RunesOk l0) :
    Calls Try.prog 4 #[v0] w fun e w' => e = .returned (.bool true) ∧ Below w.heap.size w w' := by
  have HFew := Lib.hid (few_any hl 100)
  clear hl
  obtain ⟨l, hll⟩ : ∃ l, l = l0.take 100 := ⟨_, rfl⟩
  rw [← hll] at HFew
  have hlen : l.length ≤ 100000 := by rw [hll, List.length_take]; omega
  clear hll
  go_enter Try.func4, Try.ntmps4
  go_wp2_with fail
  refine HFew.out.mono ?_
  rintro e w0 ⟨⟨sv, rfl, hS⟩, rfl⟩
  have HS := Lib.hid hS
  clear hS HFew
  go_wp2_with fail
  refine (wsplit_any HS.out hlen).mono ?_
  rintro e w1 ⟨v, n1, ok1, rfl, hB1, hM1⟩
  have HB1 := Lib.hid hB1
  have HS1 := Lib.hid (HS.out.below hB1)
  have HM1 := Lib.hid hM1
  clear hB1 hM1
  go_wp2_with fail
  refine (rsplit_any HS1.out hlen).mono ?_
  rintro e w2 ⟨v', n2, ok2, rfl, hB2, hM2⟩
  obtain ⟨L, e1, e2, hA, hD⟩ : ∃ (L : List Tk), n2 = n1 ∧ ok2 = ok1 ∧ TksIn 44 w1 w.heap.size v L ∧ TksIn 45 w2 w1.heap.size v' L := by
    have hM1 := HM1.out
    cases hsp : splS l.length [] l with
    | error p =>
      rw [hsp] at hM1 hM2
      obtain ⟨rfl, rfl, rfl⟩ := hM1
      obtain ⟨rfl, rfl, rfl⟩ := hM2
      exact ⟨[], rfl, rfl, TksIn.nil _ _ _, TksIn.nil _ _ _⟩
    | ok L =>
      rw [hsp] at hM1 hM2
      obtain ⟨rfl, rfl, h1⟩ := hM1
      obtain ⟨rfl, rfl, h2⟩ := hM2
      exact ⟨L, rfl, rfl, h1, h2⟩
  subst e1
  subst e2
  have HB2 := Lib.hid (below_trans' HB1.out hB2)
  have HS2 := Lib.hid (HS1.out.below hB2)
  have HA := Lib.hid (hA.later hB2)
  have HD := Lib.hid hD
  have hLm : L.length ≤ maxLen := by
    obtain ⟨ts, h1, h2, _⟩ := HA.out
    obtain ⟨_, _, _, h3, h4, _⟩ := rd_of_owns h2
    omega
  unfold maxLen at hLm
  obtain ⟨pa, pc, rfl⟩ := hA.shape
  obtain ⟨pb, pd, rfl⟩ := hD.shape
  clear hB2 hM2 HM1 HB1 HS1 hA hD HS
  have g1 : (n2 != n2) = false := by simp
  have g2 : ((L.length : Int) != (L.length : Int)) = false := by simp
  cases ok2
  all_goals
    go_wp2_with fail
    go_loopw [9] (fun iv wr => ∃ k : Nat, k ≤ L.length ∧ iv = .int .i64 ((k : Nat) : Int) ∧ Below w2.heap.size w2 wr) (fun iv _ => L.length - (intOf iv).toNat)
    case atStart => exact ⟨0, Nat.zero_le _, rfl, .refl _ _⟩
    case round =>
      obtain ⟨k, hk, rfl, hB⟩ := hrel
      have HB := Lib.hid hB
      have HAr := Lib.hid (HA.out.later hB)
      have HDr := Lib.hid (HD.out.later hB)
      by_cases hlt : k < L.length
      · obtain ⟨x, hx⟩ : ∃ x, L[k]? = some x := ⟨L[k], List.getElem?_eq_getElem hlt⟩
        obtain ⟨b, cap, tv, hv, d0, d1, d2, hp⟩ := HAr.out.get hx
        cases hv
        obtain ⟨b', cap', tv', hv, d3, d4, d5, hp'⟩ := HDr.out.get hx
        cases hv
        have HSame := Lib.hid (same_runes (hp.drewN 1) (hp'.drewN 1))
        rw [decide_eq_true rfl] at HSame
        obtain ⟨ta, tc, rfl, _⟩ := runes_cells hp
        obtain ⟨ta', tc', rfl, _⟩ := runes_cells hp'
        obtain ⟨x1, x2, x3⟩ := x
        have q1 : (0 : Int) ≤ (k : Int) := by omega
        have q2 : (k : Int) < (L.length : Int) := by omega
        have q3 : ((x1 : Int) != (x1 : Int)) = false := by simp
        have q4 : ((x2 : Int) != (x2 : Int)) = false := by simp
        have e1 := IntWalk.i64_in ((k : Int) + 1) (by omega)
        clear hx hp hp' hB
        go_wp2_with fail
        go_region_held3 (fun w' => w'.cell? ⟨b, k * 3, none⟩ = some (.int .i64 (x1 : Int)) ∧ w'.cell? ⟨b, k * 3 + 1, none⟩ = some (.int .i64 (x2 : Int)) ∧ w'.cell? ⟨b, k * 3 + 2, none⟩ = some (.slice ta x3.length tc) ∧ w'.cell? ⟨b', k * 3, none⟩ = some (.int .i64 (x1 : Int)) ∧ w'.cell? ⟨b', k * 3 + 1, none⟩ = some (.int .i64 (x2 : Int)) ∧ w'.cell? ⟨b', k * 3 + 2, none⟩ = some (.slice ta' x3.length tc')) (first | exact ⟨p0, p1, p2, p3, p4, p5⟩ | exact ⟨d0, d1, d2, d3, d4, d5⟩ | go_keep)
          (first
            | (go_at_call 19; refine HSame.out.mono ?_; rintro e w5 ⟨rfl, hB5⟩; have p0 := cell_later hB5 (show wr.drew.cell? _ = _ from d0); have p1 := cell_later hB5 (show wr.drew.cell? _ = _ from d1); have p2 := cell_later hB5 (show wr.drew.cell? _ = _ from d2); have p3 := cell_later hB5 (show wr.drew.cell? _ = _ from d3); have p4 := cell_later hB5 (show wr.drew.cell? _ = _ from d4); have p5 := cell_later hB5 (show wr.drew.cell? _ = _ from d5); have HB5 := Lib.hid ((below_dN HB.out 1).trans (hB5.mono (below_dN HB.out 1).size)); clear hB5)
            | fail)
        all_goals go_wp2_with fail
        all_goals go_roundw
        case rel => exact ⟨k + 1, by omega, by go_num, HB5.out⟩
        case measure => simp [intOf] <;> omega
      · have hke : k = L.length := by omega
        subst hke
        have HSr := Lib.hid (HS2.out.below hB)
        clear hlt hk hB
        go_wp2_with fail
        refine (wquote_any HSr.out hlen).mono ?_
        rintro e w6 ⟨qv, rfl, hB6, hQ6⟩
        have HQ6 := Lib.hid hQ6
        have HB6 := Lib.hid hB6
        have HS6 := Lib.hid (HSr.out.below hB6)
        clear hB6 hQ6
        go_wp2_with fail
        refine (rquote_any HS6.out hlen).mono ?_
        rintro e w7 ⟨rv, rfl, hB7, hQ7⟩
        have HB7 := Lib.hid hB7
        have HSame := Lib.hid (same_runes (HQ6.out.below hB7) hQ7)
        rw [decide_eq_true rfl] at HSame
        clear hB7 hQ7
        go_wp2_with fail
        refine HSame.out.mono ?_
        rintro e w8 ⟨rfl, hB8⟩
        have HB8 := Lib.hid (below_trans' (below_trans' (below_trans' (below_trans' HB2.out HB.out) HB6.out) HB7.out) hB8)
        clear hB8
        go_wp2_with fail
        refine (fin12 HB8.out).mono ?_
        rintro e w9 ⟨rfl, hB9⟩
        go_wp2_with fail
        go_ret
        exact ⟨rfl, hB9⟩
end Go.Proofs.Ythlpelfogplomaa
