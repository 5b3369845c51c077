/- Joined texts: GlyA. -/
import Derived.Test.YtblajooebmjfoaaProg
import Derived.IntWalk
import Derived.Test.YtblajooebmjfoaaZeaa
import Derived.Test.YtblajooebmjfoaaZaaa
/- utf.Valid, Size; the document's Valid. -/
namespace Go.Proofs.Ytblajooebmjfoaa
open Go.RowKit

set_option maxRecDepth 100000 in
set_option maxHeartbeats 2000000 in
theorem valid_any (r : Int) (w : World) : Calls Try.prog 72 #[.int .i32 r] w fun e w' => e = .returned (.bool (validB r)) ∧ w = w' := by
  by_cases h0 : r ≥ 0
  · by_cases h1 : r ≤ 1114111
    · by_cases h2 : r < 55296
      · rw [show validB r = true from validB_iff.2 (by omega)]
        go_enter Try.func72, Try.ntmps72
        go_wp2_with fail
        go_ret
        exact ⟨rfl, rfl⟩
      · have q2 : decide (r < 55296) = false := decide_eq_false h2
        by_cases h3 : r > 57343
        · rw [show validB r = true from validB_iff.2 (by omega)]
          clear h2
          go_enter Try.func72, Try.ntmps72
          go_wp2_with fail
          go_ret
          exact ⟨rfl, rfl⟩
        · have q3 : decide (r > 57343) = false := decide_eq_false h3
          rw [show validB r = false from by rw [Bool.eq_false_iff]; intro e; have := validB_iff.1 e; omega]
          clear h2 h3
          go_enter Try.func72, Try.ntmps72
          go_wp2_with fail
          go_ret
          exact ⟨rfl, rfl⟩
    · have q1 : decide (r ≤ 1114111) = false := decide_eq_false h1
      rw [show validB r = false from by rw [Bool.eq_false_iff]; intro e; have := validB_iff.1 e; omega]
      clear h1
      go_enter Try.func72, Try.ntmps72
      go_wp2_with fail
      go_ret
      exact ⟨rfl, rfl⟩
  · have q0 : decide (r ≥ 0) = false := decide_eq_false h0
    have q4 : decide (0 ≤ r) = false := decide_eq_false h0
    rw [show validB r = false from by rw [Bool.eq_false_iff]; intro e; have := validB_iff.1 e; omega]
    clear h0
    go_enter Try.func72, Try.ntmps72
    go_wp2_with fail
    go_ret
    exact ⟨rfl, rfl⟩
set_option maxRecDepth 100000 in
set_option maxHeartbeats 2000000 in
theorem rvalid_any (r : Int) (w : World) : Calls Try.prog 93 #[.int .i32 r] w fun e w' => e = .returned (.bool (validB r)) ∧ w = w' := by
  by_cases h0 : r ≥ 0
  · by_cases h2 : r < 55296
    · rw [show validB r = true from validB_iff.2 (by omega)]
      go_enter Try.func93, Try.ntmps93
      go_wp2_with fail
      go_ret
      exact ⟨rfl, rfl⟩
    · have q2 : decide (r < 55296) = false := decide_eq_false h2
      clear h2
      by_cases h3 : r > 57343
      · by_cases h1 : r ≤ 1114111
        · rw [show validB r = true from validB_iff.2 (by omega)]
          go_enter Try.func93, Try.ntmps93
          go_wp2_with fail
          go_ret
          exact ⟨rfl, rfl⟩
        · have q1 : decide (r ≤ 1114111) = false := decide_eq_false h1
          rw [show validB r = false from by rw [Bool.eq_false_iff]; intro e; have := validB_iff.1 e; omega]
          clear h1
          go_enter Try.func93, Try.ntmps93
          go_wp2_with fail
          go_ret
          exact ⟨rfl, rfl⟩
      · have q3 : decide (r > 57343) = false := decide_eq_false h3
        have q5 : decide (57343 < r) = false := decide_eq_false h3
        have q2' := of_decide_eq_false q2
        rw [show validB r = false from by rw [Bool.eq_false_iff]; intro e; have := validB_iff.1 e; omega]
        clear h3 q2'
        go_enter Try.func93, Try.ntmps93
        go_wp2_with fail
        go_ret
        exact ⟨rfl, rfl⟩
  · have q0 : decide (r ≥ 0) = false := decide_eq_false h0
    have q4 : decide (0 ≤ r) = false := decide_eq_false h0
    have q3 : decide (r > 57343) = false := decide_eq_false (by omega)
    have q5 : decide (57343 < r) = false := decide_eq_false (by omega)
    rw [show validB r = false from by rw [Bool.eq_false_iff]; intro e; have := validB_iff.1 e; omega]
    clear h0
    go_enter Try.func93, Try.ntmps93
    go_wp2_with fail
    go_ret
    exact ⟨rfl, rfl⟩
theorem size_of {r : Int} {n : Int} (h : ((sizeN r : Nat) : Int) = n) {w w' : World} (hw : w = w') : Ending.returned (.int .i64 n) = .returned (.int .i64 ((sizeN r : Nat) : Int)) ∧ w = w' := ⟨by rw [h], hw⟩
set_option maxRecDepth 100000 in
set_option maxHeartbeats 2000000 in
theorem usize_any (r : Int) (w : World) : Calls Try.prog 71 #[.int .i32 r] w fun e w' => e = .returned (.int .i64 ((sizeN r : Nat) : Int)) ∧ w = w' := by
  have HV := Lib.hid (valid_any r w)
  by_cases hv : validB r = true
  · have hr := validB_iff.1 hv
    rw [hv] at HV
    have HS := Lib.hid (show sizeN r = (if r < 128 then 1 else if r < 2048 then 2 else if r < 65536 then 3 else 4) by unfold sizeN; rw [if_pos hv])
    clear hv
    by_cases h1 : r < 128
    · go_enter Try.func71, Try.ntmps71
      go_wp2_with fail
      refine HV.out.mono ?_
      rintro e w' ⟨rfl, rfl⟩
      go_wp2_with fail
      go_ret
      exact size_of (by rw [HS.out, if_pos h1]; rfl) rfl
    · have q1 : decide (r < 128) = false := decide_eq_false h1
      by_cases h2 : r < 2048
      · have HS2 := Lib.hid (show ((sizeN r : Nat) : Int) = 2 by rw [HS.out, if_neg h1, if_pos h2]; rfl)
        clear h1
        go_enter Try.func71, Try.ntmps71
        go_wp2_with fail
        refine HV.out.mono ?_
        rintro e w' ⟨rfl, rfl⟩
        go_wp2_with fail
        go_ret
        exact size_of HS2.out rfl
      · have q2 : decide (r < 2048) = false := decide_eq_false h2
        by_cases h3 : r < 65536
        · have HS2 := Lib.hid (show ((sizeN r : Nat) : Int) = 3 by rw [HS.out, if_neg h1, if_neg h2, if_pos h3]; rfl)
          clear h1 h2
          go_enter Try.func71, Try.ntmps71
          go_wp2_with fail
          refine HV.out.mono ?_
          rintro e w' ⟨rfl, rfl⟩
          go_wp2_with fail
          go_ret
          exact size_of HS2.out rfl
        · have q3 : decide (r < 65536) = false := decide_eq_false h3
          have HS2 := Lib.hid (show ((sizeN r : Nat) : Int) = 4 by rw [HS.out, if_neg h1, if_neg h2, if_neg h3]; rfl)
          clear h1 h2 h3
          go_enter Try.func71, Try.ntmps71
          go_wp2_with fail
          refine HV.out.mono ?_
          rintro e w' ⟨rfl, rfl⟩
          go_wp2_with fail
          go_ret
          exact size_of HS2.out rfl
  · have hv' : validB r = false := Bool.eq_false_iff.2 hv
    have HS2 := Lib.hid (show ((sizeN r : Nat) : Int) = 3 by unfold sizeN; rw [if_neg hv]; rfl)
    rw [hv'] at HV
    clear hv hv'
    go_enter Try.func71, Try.ntmps71
    go_wp2_with fail
    refine HV.out.mono ?_
    rintro e w' ⟨rfl, rfl⟩
    go_wp2_with fail
    go_ret
    exact size_of HS2.out rfl
end Go.Proofs.Ytblajooebmjfoaa
