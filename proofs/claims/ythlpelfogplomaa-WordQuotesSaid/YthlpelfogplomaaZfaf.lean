/- Joined texts: WordC. -/
import Derived.Test.YthlpelfogplomaaZfaa
/- Words: back. -/
namespace Go.Proofs.Ythlpelfogplomaa
open Go.RowKit

section
variable {R : List Rw} {s : List Int} {w : World} {v sv : Value} {tp : Nat}
set_option maxRecDepth 100000 in
set_option maxHeartbeats 8000000 in
theorem wback_any (a : Int) (H : (tabOf R).Ok) (hT : Tb R w tp) (hs : RunesIn w sv s) (ok : RunesOk s) (hl : s.length ≤ 1000000) :
    Calls Try.prog 58 #[.pointer (some ⟨tp, 0, none⟩), sv, .int .i64 a] w fun e w' => e = .returned (.int .i64 ((bckI R s a : Nat) : Int)) ∧ Below w.heap.size w w' := by
  have HT := Lib.hid hT
  have HS := Lib.hid hs
  have HOk := Lib.hid ok
  have HTk := Lib.hid H
  have HFl := Lib.hid (floor_any a H hT hs ok hl)
  have hcl := floorI_le (tabOf R) s a
  have HV0 := Lib.hid (show bck (prv (tabOf R) s) (insR R s) (floorI (tabOf R) s a) false = bckI R s a from rfl)
  obtain ⟨sl, cap, rfl, hcap, hmax, _⟩ := runes_cells hs
  unfold maxLen at hmax
  generalize floorI (tabOf R) s a = c at HFl hcl HV0
  clear hT hs ok H
  go_enter Try.func58, Try.ntmps58
  go_wp2_with fail
  refine HFl.out.mono ?_
  rintro e w1 ⟨rfl, hB1⟩
  have HB1 := Lib.hid hB1
  clear hB1 HFl
  go_wp2_with fail
  go_loopw [2, 7, 8, 9] (fun av wv _ _ wr => ∃ (m : Nat) (wi : Bool), m ≤ s.length ∧ av = .int .i64 ((m : Nat) : Int) ∧ wv = .bool wi ∧ Below w.heap.size w wr ∧ bck (prv (tabOf R) s) (insR R s) m wi = bckI R s a) (fun av _ _ _ _ => (intOf av).toNat)
  case atStart => exact ⟨c, false, hcl, rfl, rfl, HB1.out, HV0.out⟩
  case round =>
    obtain ⟨m, wi, hm, rfl, rfl, hB, hV⟩ := hrel
    have HB := Lib.hid hB
    have HV := Lib.hid hV
    have HTr := Lib.hid (HT.out.below hB)
    have HSr := Lib.hid (HS.out.below hB)
    clear hB hV
    by_cases h0 : 0 < m
    · have hp := prv_lt (tabOf R) h0 hm
      have HPr := Lib.hid (prev_any (m : Int) HTk.out HTr.out HSr.out HOk.out hl (by omega))
      rw [show prevI (tabOf R) s (m : Int) = prv (tabOf R) s m from rfl] at HPr
      have HIn := Lib.hid (fun w2 (hb : Below w.heap.size w w2) => inside_any (prv (tabOf R) s m) (HT.out.below hb) (HS.out.below hb) HOk.out (by omega) hl)
      have r0 : (m : Int) > 0 := by omega
      cases hin : insR R s (prv (tabOf R) s m) with
      | true =>
        rw [hin] at HIn
        have HN := Lib.hid (show bck (prv (tabOf R) s) (insR R s) (prv (tabOf R) s m) true = bckI R s a by rw [← HV.out, bck_in h0 hp hin])
        generalize prv (tabOf R) s m = p at HPr hp HIn HN
        clear hin HV
        go_wp2_with fail
        refine HPr.out.mono ?_
        rintro e w2 ⟨rfl, hB2⟩
        have HB2 := Lib.hid (HB.out.trans (hB2.mono HB.out.size))
        have HIy := Lib.hid (HIn.out w2 HB2.out)
        clear hB2 HIn HPr HB
        go_wp2_with fail
        refine HIy.out.mono ?_
        rintro e w3 ⟨rfl, hB3⟩
        have HB3 := Lib.hid (HB2.out.trans (hB3.mono HB2.out.size))
        clear hB3 HIy HB2
        cases wi with
        | true =>
          go_wp2_with fail
          go_roundw
          case rel => exact ⟨p, true, by omega, rfl, rfl, HB3.out, HN.out⟩
          case measure => simp [intOf] <;> omega
        | false =>
          go_wp2_with fail
          go_roundw
          case rel => exact ⟨p, true, by omega, rfl, rfl, HB3.out, HN.out⟩
          case measure => simp [intOf] <;> omega
      | false =>
        rw [hin] at HIn
        cases wi with
        | true =>
          have HF := Lib.hid (show m = bckI R s a by rw [← HV.out, bck_stop h0 hp hin])
          generalize prv (tabOf R) s m = p at HPr hp HIn
          clear hin HV
          go_wp2_with fail
          refine HPr.out.mono ?_
          rintro e w2 ⟨rfl, hB2⟩
          have HB2 := Lib.hid (HB.out.trans (hB2.mono HB.out.size))
          have HIy := Lib.hid (HIn.out w2 HB2.out)
          clear hB2 HIn HPr HB
          go_wp2_with fail
          refine HIy.out.mono ?_
          rintro e w3 ⟨rfl, hB3⟩
          have HB3 := Lib.hid (HB2.out.trans (hB3.mono HB2.out.size))
          clear hB3 HIy HB2
          go_wp2_with fail
          go_ret
          exact ⟨ret_i (by rw [← HF.out]), HB3.out⟩
        | false =>
          have HN := Lib.hid (show bck (prv (tabOf R) s) (insR R s) (prv (tabOf R) s m) false = bckI R s a by rw [← HV.out, bck_out h0 hp hin])
          generalize prv (tabOf R) s m = p at HPr hp HIn HN
          clear hin HV
          go_wp2_with fail
          refine HPr.out.mono ?_
          rintro e w2 ⟨rfl, hB2⟩
          have HB2 := Lib.hid (HB.out.trans (hB2.mono HB.out.size))
          have HIy := Lib.hid (HIn.out w2 HB2.out)
          clear hB2 HIn HPr HB
          go_wp2_with fail
          refine HIy.out.mono ?_
          rintro e w3 ⟨rfl, hB3⟩
          have HB3 := Lib.hid (HB2.out.trans (hB3.mono HB2.out.size))
          clear hB3 HIy HB2
          go_wp2_with fail
          go_roundw
          case rel => exact ⟨p, false, by omega, rfl, rfl, HB3.out, HN.out⟩
          case measure => simp [intOf] <;> omega
    · have hm0 : m = 0 := by omega
      subst hm0
      have HF := Lib.hid (show 0 = bckI R s a by rw [← HV.out, bck_zero])
      clear h0 hm
      go_wp2_with fail
      go_ret
      exact ⟨ret_i (by rw [← HF.out]), HB.out⟩
end
end Go.Proofs.Ythlpelfogplomaa
