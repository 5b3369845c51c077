/- Joined texts: RdcA RdcB RdcC RdcD RdcE. -/
import Derived.BigQuiet
import Derived.Test.YthlpelfogplomaaGreatZdac
import Derived.Test.YthlpelfogplomaaGreatZcad
import Derived.Test.YthlpelfogplomaaGreatZaaa
/- The document's decoding: its parts. (Printed by gen_rdc.py.) -/
namespace Go.Proofs.YthlpelfogplomaaGreat
open Go.RowKit

theorem bytesN_extract (s : ByteArray) (i j : Nat) : bytesN (s.extract i j) = ((bytesN s).drop i).take (j - i) := by
  unfold bytesN
  rw [ByteArray.data_extract, Array.toList_extract]
  unfold List.extract
  rw [List.map_take, List.map_drop]
theorem byte_at (s : ByteArray) {i : Nat} (hi : i < s.size) : (((s[i]'hi).toNat : Nat) : Int) = (bytesN s).getD i 0 := by
  rw [List.getD_eq_getElem?_getD, bytesN_get s hi]
  have h2 : i < s.data.toList.length := hi
  rw [List.getD_eq_getElem?_getD, List.getElem?_eq_getElem h2]
  rfl
/-- a string's byte -/
theorem str_ix (s : ByteArray) (i : Nat) (hi : i < s.size) (w : World) : (Instr.index 9 (.string s) (.int .i64 (i : Int))).run Tryz.prog w = .ok (.int .u8 ((bytesN s).getD i 0)) w := by
  rw [run_index_string w 9 s .i64 (i : Int) Tryz.underlying9, dif_pos ⟨by omega, by omega⟩]
  congr 2
  exact byte_at s hi
theorem str_ix0 (s : ByteArray) (hi : 0 < s.size) (w : World) : (Instr.index 9 (.string s) (.int .i64 0)).run Tryz.prog w = .ok (.int .u8 ((bytesN s).getD 0 0)) w := str_ix s 0 hi w
set_option maxRecDepth 100000 in
theorem long_any (b : Int) (w : World) : Calls Tryz.prog 137 #[.int .u8 b] w fun e w' => e = .returned (.int .i64 ((longN b : Nat) : Int)) ∧ w' = w := by
  by_cases c1 : b < 128
  · have HL := Lib.hid (show longN b = 1 by unfold longN; rw [if_pos c1])
    go_enter Tryz.func137, Tryz.ntmps137
    go_wp2_with fail
    go_ret
    exact ⟨by rw [HL.out]; rfl, rfl⟩
  have d1 : decide (b < 128) = false := decide_eq_false c1
  by_cases c2 : b < 224
  · have HL := Lib.hid (show longN b = 2 by unfold longN; rw [if_neg c1, if_pos c2])
    go_enter Tryz.func137, Tryz.ntmps137
    go_wp2_with fail
    go_ret
    exact ⟨by rw [HL.out]; rfl, rfl⟩
  have d2 : decide (b < 224) = false := decide_eq_false c2
  by_cases c3 : b < 240
  · have HL := Lib.hid (show longN b = 3 by unfold longN; rw [if_neg c1, if_neg c2, if_pos c3])
    go_enter Tryz.func137, Tryz.ntmps137
    go_wp2_with fail
    go_ret
    exact ⟨by rw [HL.out]; rfl, rfl⟩
  · have d3 : decide (b < 240) = false := decide_eq_false c3
    have HL := Lib.hid (show longN b = 4 by unfold longN; rw [if_neg c1, if_neg c2, if_neg c3])
    go_enter Tryz.func137, Tryz.ntmps137
    go_wp2_with fail
    go_ret
    exact ⟨by rw [HL.out]; rfl, rfl⟩
set_option maxRecDepth 100000 in
set_option maxHeartbeats 4000000 in
theorem may_any (s : ByteArray) (i : Nat) (hi : i < s.size) (hs : s.size ≤ 1000000) (w : World) : Calls Tryz.prog 138 #[.string s, .int .i64 (i : Int)] w fun e w' => e = .returned (.bool (mayB ((bytesN s).getD 0 0) i ((bytesN s).getD i 0))) ∧ ∃ n, w' = w.drewN n := by
  have ix0 := fun w => str_ix0 s (by omega) w
  have ixi := fun w => str_ix s i hi w
  generalize (bytesN s).getD 0 0 = c at ix0 ⊢
  generalize (bytesN s).getD i 0 = b at ixi ⊢
  have r0 : (i : Int) < (s.size : Int) := by omega
  have r1 : (0 : Int) ≤ (i : Int) := by omega
  have r2 : (0 : Int) < (s.size : Int) := by omega
  by_cases h0 : i = 0
  · subst h0
    have HM := Lib.hid (show mayB c 0 b = (decide (c < 128) || (decide (194 ≤ c) && decide (c ≤ 244))) by unfold mayB; rw [if_pos rfl])
    by_cases c1 : c < 128
    · go_enter Tryz.func138, Tryz.ntmps138
      go_wp2_with fail
      go_quiet (fail)
      go_wp2_with fail
      go_ret
      exact ⟨by rw [HM.out, decide_eq_true c1]; rfl, _, rfl⟩
    · have d1 : decide (c < 128) = false := decide_eq_false c1
      by_cases c2 : c ≥ 194
      · go_enter Tryz.func138, Tryz.ntmps138
        go_wp2_with fail
        go_quiet (fail)
        go_wp2_with fail
        go_ret
        exact ⟨by rw [HM.out, d1, decide_eq_true (show 194 ≤ c from c2)]; rfl, _, rfl⟩
      · have d2 : decide (c ≥ 194) = false := decide_eq_false c2
        go_enter Tryz.func138, Tryz.ntmps138
        go_wp2_with fail
        go_quiet (fail)
        go_wp2_with fail
        go_ret
        exact ⟨by rw [HM.out, d1, decide_eq_false (show ¬ 194 ≤ c by omega)]; rfl, _, rfl⟩
  have n0 : ((i : Int) == 0) = false := by rw [beq_eq_false_iff_ne]; omega
  have key : ∀ (lo hi : Int), (b ≥ lo ∧ b ≤ hi) ∨ (b ≥ lo ∧ ¬ b ≤ hi) ∨ ¬ b ≥ lo := fun lo hi => by omega
  by_cases h1 : i = 1
  · subst h1
    have ix1 : ∀ w, (Instr.index 9 (.string s) (.int .i64 1)).run Tryz.prog w = .ok (.int .u8 b) w := ixi
    have r3 : (1 : Int) < (s.size : Int) := by omega
    by_cases k1 : c = 224
    · subst k1
      have HM := Lib.hid (show mayB 224 1 b = (decide (160 ≤ b) && decide (b ≤ 191)) by unfold mayB; rw [if_neg (by decide), if_pos ⟨rfl, rfl⟩])
      rcases key 160 191 with ⟨b1, b2⟩ | ⟨b1, b2⟩ | b1
      · go_enter Tryz.func138, Tryz.ntmps138
        go_wp2_with fail
        go_quiet (fail)
        go_wp2_with fail
        go_ret
        exact ⟨by rw [HM.out, decide_eq_true (show 160 ≤ b by omega), decide_eq_true b2]; rfl, _, rfl⟩
      · have b2' : decide (b ≤ 191) = false := decide_eq_false b2
        go_enter Tryz.func138, Tryz.ntmps138
        go_wp2_with fail
        go_quiet (fail)
        go_wp2_with fail
        go_ret
        exact ⟨by rw [HM.out, decide_eq_true (show 160 ≤ b by omega), decide_eq_false (show ¬ b ≤ 191 by omega)]; rfl, _, rfl⟩
      · have b1' : decide (b ≥ 160) = false := decide_eq_false b1
        go_enter Tryz.func138, Tryz.ntmps138
        go_wp2_with fail
        go_quiet (fail)
        go_wp2_with fail
        go_ret
        exact ⟨by rw [HM.out, decide_eq_false (show ¬ 160 ≤ b by omega)]; rfl, _, rfl⟩
    have g1 : (c == 224) = false := by simpa using k1
    by_cases k2 : c = 237
    · subst k2
      have HM := Lib.hid (show mayB 237 1 b = (decide (128 ≤ b) && decide (b ≤ 159)) by unfold mayB; rw [if_neg (by decide), if_neg (by decide), if_pos ⟨rfl, rfl⟩])
      rcases key 128 159 with ⟨b1, b2⟩ | ⟨b1, b2⟩ | b1
      · go_enter Tryz.func138, Tryz.ntmps138
        go_wp2_with fail
        go_quiet (fail)
        go_wp2_with fail
        go_ret
        exact ⟨by rw [HM.out, decide_eq_true (show 128 ≤ b by omega), decide_eq_true b2]; rfl, _, rfl⟩
      · have b2' : decide (b ≤ 159) = false := decide_eq_false b2
        go_enter Tryz.func138, Tryz.ntmps138
        go_wp2_with fail
        go_quiet (fail)
        go_wp2_with fail
        go_ret
        exact ⟨by rw [HM.out, decide_eq_true (show 128 ≤ b by omega), decide_eq_false (show ¬ b ≤ 159 by omega)]; rfl, _, rfl⟩
      · have b1' : decide (b ≥ 128) = false := decide_eq_false b1
        go_enter Tryz.func138, Tryz.ntmps138
        go_wp2_with fail
        go_quiet (fail)
        go_wp2_with fail
        go_ret
        exact ⟨by rw [HM.out, decide_eq_false (show ¬ 128 ≤ b by omega)]; rfl, _, rfl⟩
    have g2 : (c == 237) = false := by simpa using k2
    by_cases k3 : c = 240
    · subst k3
      have HM := Lib.hid (show mayB 240 1 b = (decide (144 ≤ b) && decide (b ≤ 191)) by unfold mayB; rw [if_neg (by decide), if_neg (by decide), if_neg (by decide), if_pos ⟨rfl, rfl⟩])
      rcases key 144 191 with ⟨b1, b2⟩ | ⟨b1, b2⟩ | b1
      · go_enter Tryz.func138, Tryz.ntmps138
        go_wp2_with fail
        go_quiet (fail)
        go_wp2_with fail
        go_ret
        exact ⟨by rw [HM.out, decide_eq_true (show 144 ≤ b by omega), decide_eq_true b2]; rfl, _, rfl⟩
      · have b2' : decide (b ≤ 191) = false := decide_eq_false b2
        go_enter Tryz.func138, Tryz.ntmps138
        go_wp2_with fail
        go_quiet (fail)
        go_wp2_with fail
        go_ret
        exact ⟨by rw [HM.out, decide_eq_true (show 144 ≤ b by omega), decide_eq_false (show ¬ b ≤ 191 by omega)]; rfl, _, rfl⟩
      · have b1' : decide (b ≥ 144) = false := decide_eq_false b1
        go_enter Tryz.func138, Tryz.ntmps138
        go_wp2_with fail
        go_quiet (fail)
        go_wp2_with fail
        go_ret
        exact ⟨by rw [HM.out, decide_eq_false (show ¬ 144 ≤ b by omega)]; rfl, _, rfl⟩
    have g3 : (c == 240) = false := by simpa using k3
    by_cases k4 : c = 244
    · subst k4
      have HM := Lib.hid (show mayB 244 1 b = (decide (128 ≤ b) && decide (b ≤ 143)) by unfold mayB; rw [if_neg (by decide), if_neg (by decide), if_neg (by decide), if_neg (by decide), if_pos ⟨rfl, rfl⟩])
      rcases key 128 143 with ⟨b1, b2⟩ | ⟨b1, b2⟩ | b1
      · go_enter Tryz.func138, Tryz.ntmps138
        go_wp2_with fail
        go_quiet (fail)
        go_wp2_with fail
        go_ret
        exact ⟨by rw [HM.out, decide_eq_true (show 128 ≤ b by omega), decide_eq_true b2]; rfl, _, rfl⟩
      · have b2' : decide (b ≤ 143) = false := decide_eq_false b2
        go_enter Tryz.func138, Tryz.ntmps138
        go_wp2_with fail
        go_quiet (fail)
        go_wp2_with fail
        go_ret
        exact ⟨by rw [HM.out, decide_eq_true (show 128 ≤ b by omega), decide_eq_false (show ¬ b ≤ 143 by omega)]; rfl, _, rfl⟩
      · have b1' : decide (b ≥ 128) = false := decide_eq_false b1
        go_enter Tryz.func138, Tryz.ntmps138
        go_wp2_with fail
        go_quiet (fail)
        go_wp2_with fail
        go_ret
        exact ⟨by rw [HM.out, decide_eq_false (show ¬ 128 ≤ b by omega)]; rfl, _, rfl⟩
    · have g4 : (c == 244) = false := by simpa using k4
      have HM := Lib.hid (show mayB c 1 b = (decide (128 ≤ b) && decide (b ≤ 191)) by unfold mayB; rw [if_neg (by decide), if_neg (fun h => k1 h.2), if_neg (fun h => k2 h.2), if_neg (fun h => k3 h.2), if_neg (fun h => k4 h.2)])
      rcases key 128 191 with ⟨b1, b2⟩ | ⟨b1, b2⟩ | b1
      · go_enter Tryz.func138, Tryz.ntmps138
        go_wp2_with fail
        go_quiet (fail)
        go_wp2_with fail
        go_ret
        exact ⟨by rw [HM.out, decide_eq_true (show 128 ≤ b by omega), decide_eq_true b2]; rfl, _, rfl⟩
      · have b2' : decide (b ≤ 191) = false := decide_eq_false b2
        go_enter Tryz.func138, Tryz.ntmps138
        go_wp2_with fail
        go_quiet (fail)
        go_wp2_with fail
        go_ret
        exact ⟨by rw [HM.out, decide_eq_true (show 128 ≤ b by omega), decide_eq_false (show ¬ b ≤ 191 by omega)]; rfl, _, rfl⟩
      · have b1' : decide (b ≥ 128) = false := decide_eq_false b1
        go_enter Tryz.func138, Tryz.ntmps138
        go_wp2_with fail
        go_quiet (fail)
        go_wp2_with fail
        go_ret
        exact ⟨by rw [HM.out, decide_eq_false (show ¬ 128 ≤ b by omega)]; rfl, _, rfl⟩
  · have n1 : ((i : Int) == 1) = false := by rw [beq_eq_false_iff_ne]; omega
    have HM := Lib.hid (show mayB c i b = (decide (128 ≤ b) && decide (b ≤ 191)) by unfold mayB; rw [if_neg h0, if_neg (fun h => h1 h.1), if_neg (fun h => h1 h.1), if_neg (fun h => h1 h.1), if_neg (fun h => h1 h.1)])
    rcases key 128 191 with ⟨b1, b2⟩ | ⟨b1, b2⟩ | b1
    · go_enter Tryz.func138, Tryz.ntmps138
      go_wp2_with fail
      go_quiet (fail)
      go_wp2_with fail
      go_ret
      exact ⟨by rw [HM.out, decide_eq_true (show 128 ≤ b by omega), decide_eq_true b2]; rfl, _, rfl⟩
    · have b2' : decide (b ≤ 191) = false := decide_eq_false b2
      go_enter Tryz.func138, Tryz.ntmps138
      go_wp2_with fail
      go_quiet (fail)
      go_wp2_with fail
      go_ret
      exact ⟨by rw [HM.out, decide_eq_true (show 128 ≤ b by omega), decide_eq_false (show ¬ b ≤ 191 by omega)]; rfl, _, rfl⟩
    · have b1' : decide (b ≥ 128) = false := decide_eq_false b1
      go_enter Tryz.func138, Tryz.ntmps138
      go_wp2_with fail
      go_quiet (fail)
      go_wp2_with fail
      go_ret
      exact ⟨by rw [HM.out, decide_eq_false (show ¬ 128 ≤ b by omega)]; rfl, _, rfl⟩
end Go.Proofs.YthlpelfogplomaaGreat

/- The document's decoding: rows, values. -/
namespace Go.Proofs.YthlpelfogplomaaGreat
open Go.RowKit

theorem headD_getD (l : List Int) : l.headD 0 = l.getD 0 0 := by cases l <;> rfl
theorem rowGo_step {c : Int} {l : List Int} {i : Nat} {b : Int} (hb : l[i]? = some b) : rowGo c i (l.drop i) = if i < longN c ∧ mayB c i b = true then rowGo c (i + 1) (l.drop (i + 1)) else i := by
  have h1 := List.getElem?_eq_some_iff.1 hb
  rw [List.drop_eq_getElem_cons h1.1, h1.2]
  conv => lhs; unfold rowGo
theorem longN_rng (c : Int) : 1 ≤ longN c ∧ longN c ≤ 4 := by
  unfold longN
  split
  · omega
  · split
    · omega
    · split <;> omega
theorem rowN_eq (l : List Int) : rowN l = rowGo (l.getD 0 0) 0 (l.drop 0) := by unfold rowN; rw [headD_getD, List.drop_zero]
set_option maxRecDepth 100000 in
set_option maxHeartbeats 4000000 in
theorem row_any (s : ByteArray) (h0 : 0 < s.size) (hs : s.size ≤ 1000000) (w : World) : Calls Tryz.prog 105 #[.string s] w fun e w' => e = .returned (.tuple #[.int .i64 ((rowN (bytesN s) : Nat) : Int), .bool (wholeB (bytesN s))]) ∧ ∃ n, w' = w.drewN n := by
  have ix0 := fun w => str_ix0 s h0 w
  have HMay := Lib.hid (fun (i : Nat) (hi : i < s.size) (w : World) => may_any s i hi hs w)
  have HGet := Lib.hid (fun (k : Nat) (hk : k < s.size) => show (bytesN s)[k]? = some ((bytesN s).getD k 0) by
    have h : k < (bytesN s).length := by rw [bytesN_len]; exact hk
    rw [List.getD_eq_getElem?_getD, List.getElem?_eq_getElem h]; rfl)
  have hL := bytesN_len s
  have HRn := Lib.hid (rowN_eq (bytesN s))
  have HWh := Lib.hid (show wholeB (bytesN s) = (decide (0 < rowN (bytesN s)) && decide (rowN (bytesN s) = longN ((bytesN s).getD 0 0))) by unfold wholeB; rw [headD_getD])
  generalize bytesN s = l at ix0 HMay HGet hL HRn HWh ⊢
  generalize l.getD 0 0 = c at ix0 HMay HRn HWh ⊢
  have hlc := longN_rng c
  have HLong := Lib.hid (long_any c)
  generalize hln : longN c = ln at hlc HLong HWh
  have HLn := Lib.hid hln
  have r2 : (0 : Int) < (s.size : Int) := by omega
  clear hln
  go_enter Tryz.func105, Tryz.ntmps105
  go_wp2_with fail
  go_loopw [4] (fun nv wr => ∃ i : Nat, i ≤ s.size ∧ i ≤ ln ∧ nv = .int .i64 (i : Int) ∧ (∃ n, wr = w.drewN n) ∧ rowGo c i (l.drop i) = rowN l) (fun nv _ => s.size - (intOf nv).toNat)
  case atStart => exact ⟨0, Nat.zero_le _, Nat.zero_le _, rfl, ⟨0, rfl⟩, HRn.out.symm⟩
  case round =>
    obtain ⟨i, hi, hil, rfl, ⟨n0, rfl⟩, hE⟩ := hrel
    have HE := Lib.hid hE
    have e1 := IntWalk.i64_in ((i : Int) + 1) (by omega)
    clear hE
    by_cases hlt : i < s.size
    · have s0 : (i : Int) < (s.size : Int) := by omega
      have hst := rowGo_step (c := c) (HGet.out i hlt)
      rw [HE.out, HLn.out] at hst
      have HSt := Lib.hid hst
      clear hst
      by_cases hll : i < ln
      · have s1 : (i : Int) < (ln : Int) := by omega
        have HM := Lib.hid (HMay.out i hlt)
        go_wp2_with fail
        refine (HLong.out _).mono ?_
        rintro e w3 ⟨rfl, rfl⟩
        go_wp2_with fail
        refine (HM.out _).mono ?_
        rintro e w4 ⟨rfl, n1, rfl⟩
        by_cases hm : mayB c i (l.getD i 0) = true
        · rw [hm]
          have HN := Lib.hid (show rowGo c (i + 1) (l.drop (i + 1)) = rowN l by rw [HSt.out, if_pos ⟨hll, hm⟩])
          clear hm hlt hll
          go_wp2_with fail
          go_roundw
          case rel => exact ⟨i + 1, by omega, by omega, by go_num, ⟨_, rfl⟩, HN.out⟩
          case measure => simp [intOf] <;> omega
        · have hm : mayB c i (l.getD i 0) = false := Bool.eq_false_iff.2 hm
          rw [hm]
          have HR := Lib.hid (show rowN l = i by rw [HSt.out, if_neg (fun h => by rw [hm] at h; exact absurd h.2 (by decide))])
          clear hm hlt
          by_cases hi0 : i = 0
          · have HWv := Lib.hid (show wholeB l = false by rw [HWh.out, HR.out, hi0]; rfl)
            have s5 : ¬ 0 < i := by omega
            clear hi0
            go_wp2_with fail
            go_ret2
            exact ⟨by rw [HR.out, HWv.out]; rfl, _, rfl⟩
          · have s5 : 0 < i := by omega
            go_wp2_with fail
            refine (HLong.out _).mono ?_
            rintro e w8 ⟨rfl, rfl⟩
            by_cases hie : i = ln
            · have HWv := Lib.hid (show wholeB l = true by rw [HWh.out, HR.out, decide_eq_true s5, decide_eq_true hie]; rfl)
              have s6 : ((i : Int) == (ln : Int)) = true := by rw [beq_iff_eq]; omega
              clear hie
              go_wp2_with fail
              go_ret2
              exact ⟨by rw [HR.out, HWv.out]; rfl, _, rfl⟩
            · have HWv := Lib.hid (show wholeB l = false by rw [HWh.out, HR.out, decide_eq_true s5, decide_eq_false hie]; rfl)
              have s6 : ((i : Int) == (ln : Int)) = false := by rw [beq_eq_false_iff_ne]; omega
              clear hie
              go_wp2_with fail
              go_ret2
              exact ⟨by rw [HR.out, HWv.out]; rfl, _, rfl⟩
      · have hle : ¬ (i : Int) < (ln : Int) := by omega
        have HR := Lib.hid (show rowN l = i by rw [HSt.out, if_neg (fun h => hll h.1)])
        clear hlt
        go_wp2_with fail
        refine (HLong.out _).mono ?_
        rintro e w3 ⟨rfl, rfl⟩
        by_cases hi0 : i = 0
        · have HWv := Lib.hid (show wholeB l = false by rw [HWh.out, HR.out, hi0]; rfl)
          have s5 : ¬ 0 < i := by omega
          clear hi0
          go_wp2_with fail
          go_ret2
          exact ⟨by rw [HR.out, HWv.out]; rfl, _, rfl⟩
        · have s5 : 0 < i := by omega
          go_wp2_with fail
          refine (HLong.out _).mono ?_
          rintro e w8 ⟨rfl, rfl⟩
          by_cases hie : i = ln
          · have HWv := Lib.hid (show wholeB l = true by rw [HWh.out, HR.out, decide_eq_true s5, decide_eq_true hie]; rfl)
            have s6 : ((i : Int) == (ln : Int)) = true := by rw [beq_iff_eq]; omega
            clear hie
            go_wp2_with fail
            go_ret2
            exact ⟨by rw [HR.out, HWv.out]; rfl, _, rfl⟩
          · have HWv := Lib.hid (show wholeB l = false by rw [HWh.out, HR.out, decide_eq_true s5, decide_eq_false hie]; rfl)
            have s6 : ((i : Int) == (ln : Int)) = false := by rw [beq_eq_false_iff_ne]; omega
            clear hie
            go_wp2_with fail
            go_ret2
            exact ⟨by rw [HR.out, HWv.out]; rfl, _, rfl⟩
    · have s0 : ¬ i < s.size := hlt
      have HR := Lib.hid (show rowN l = i by rw [← HE.out, List.drop_eq_nil_of_le (by omega)]; rfl)
      clear hlt
      by_cases hi0 : i = 0
      · have HWv := Lib.hid (show wholeB l = false by rw [HWh.out, HR.out, hi0]; rfl)
        have s5 : ¬ 0 < i := by omega
        clear hi0
        go_wp2_with fail
        go_ret2
        exact ⟨by rw [HR.out, HWv.out]; rfl, _, rfl⟩
      · have s5 : 0 < i := by omega
        go_wp2_with fail
        refine (HLong.out _).mono ?_
        rintro e w8 ⟨rfl, rfl⟩
        by_cases hie : i = ln
        · have HWv := Lib.hid (show wholeB l = true by rw [HWh.out, HR.out, decide_eq_true s5, decide_eq_true hie]; rfl)
          have s6 : ((i : Int) == (ln : Int)) = true := by rw [beq_iff_eq]; omega
          clear hie
          go_wp2_with fail
          go_ret2
          exact ⟨by rw [HR.out, HWv.out]; rfl, _, rfl⟩
        · have HWv := Lib.hid (show wholeB l = false by rw [HWh.out, HR.out, decide_eq_true s5, decide_eq_false hie]; rfl)
          have s6 : ((i : Int) == (ln : Int)) = false := by rw [beq_eq_false_iff_ne]; omega
          clear hie
          go_wp2_with fail
          go_ret2
          exact ⟨by rw [HR.out, HWv.out]; rfl, _, rfl⟩
end Go.Proofs.YthlpelfogplomaaGreat

/- The document's decoding: values, Decode. -/
namespace Go.Proofs.YthlpelfogplomaaGreat
open Go.RowKit

def valF (v b : Int) : Int := 64 * v + b - 128
theorem valN_eq {l : List Int} (h : 2 ≤ l.length) : valN l = (l.drop 1).foldl valF (if l.length = 3 then l.getD 0 0 - 224 else if l.length = 4 then l.getD 0 0 - 240 else l.getD 0 0 - 192) := by
  match l, h with
  | c :: b :: l, _ =>
    show (b :: l).foldl (fun v b => 64 * v + b - 128) (if (b :: l).length = 2 then c - 224 else if (b :: l).length = 3 then c - 240 else c - 192) = (b :: l).foldl valF _
    simp only [List.length_cons, List.getD_cons_zero]
    have e1 : (l.length + 1 = 2) = (l.length + 1 + 1 = 3) := by rw [eq_iff_iff]; omega
    have e2 : (l.length + 1 = 3) = (l.length + 1 + 1 = 4) := by rw [eq_iff_iff]; omega
    simp only [e1, e2]
    rfl
theorem valN_one {l : List Int} (h : l.length = 1) : valN l = l.getD 0 0 := by
  match l, h with
  | [c], _ => rfl
theorem fold_snoc {l : List Int} {i : Nat} {b : Int} (v0 : Int) (hi : 1 ≤ i) (h : l[i]? = some b) : ((l.drop 1).take (i + 1 - 1)).foldl valF v0 = valF (((l.drop 1).take (i - 1)).foldl valF v0) b := by
  obtain ⟨j, rfl⟩ : ∃ j, i = j + 1 := ⟨i - 1, by omega⟩
  show ((l.drop 1).take (j + 1)).foldl valF v0 = valF (((l.drop 1).take j).foldl valF v0) b
  rw [List.take_add_one, List.getElem?_drop, show 1 + j = j + 1 by omega, h, List.foldl_append]
  rfl
theorem rowGo_le (c : Int) : ∀ (l : List Int) (i : Nat), rowGo c i l ≤ i + l.length
  | [], i => Nat.le_refl _
  | b :: l, i => by
    unfold rowGo
    split
    · have := rowGo_le c l (i + 1)
      rw [List.length_cons]
      omega
    · omega
theorem rowN_le (l : List Int) : rowN l ≤ l.length := by have := rowGo_le (l.headD 0) l 0; unfold rowN; omega
theorem whole_rng {l : List Int} (h : wholeB l = true) : 1 ≤ rowN l ∧ rowN l ≤ 4 := by
  unfold wholeB at h
  rw [Bool.and_eq_true, decide_eq_true_eq, decide_eq_true_eq] at h
  have := longN_rng (l.headD 0)
  omega
set_option maxRecDepth 100000 in
set_option maxHeartbeats 4000000 in
theorem value_any (s : ByteArray) (h1 : 1 ≤ s.size) (h4 : s.size ≤ 4) (w : World) : Calls Tryz.prog 106 #[.string s] w fun e w' => e = .returned (.int .i32 (valN (bytesN s))) ∧ w' = w := by
  have ix0 := fun w => str_ix0 s (by omega) w
  have HIx := Lib.hid (fun (i : Nat) (hi : i < s.size) (w : World) => str_ix s i hi w)
  have HGet := Lib.hid (fun (k : Nat) (hk : k < s.size) => show (bytesN s)[k]? = some ((bytesN s).getD k 0) by
    have h : k < (bytesN s).length := by rw [bytesN_len]; exact hk
    rw [List.getD_eq_getElem?_getD, List.getElem?_eq_getElem h]; rfl)
  have hL := bytesN_len s
  have HRng := Lib.hid (bytesN_rng s)
  generalize bytesN s = l at ix0 HIx HGet hL HRng ⊢
  have hc := HRng.out _ (List.mem_of_getElem? (HGet.out 0 (by omega)))
  have r2 : (0 : Int) < (s.size : Int) := by omega
  by_cases hs1 : s.size = 1
  · have HV := Lib.hid (valN_one (l := l) (by omega))
    generalize l.getD 0 0 = c at ix0 hc HV ⊢
    have g1 : ((s.size : Int) == 1) = true := by rw [beq_iff_eq]; omega
    have e1 : IntKind.i64.wrap c = c := IntWalk.i64_in c (by omega)
    have e2 : IntKind.i32.wrap c = c := by rw [IntKind.wrap_i32]; omega
    clear hs1
    go_enter Tryz.func106, Tryz.ntmps106
    go_wp2_with fail
    go_ret
    exact ⟨by rw [HV.out]; rfl, rfl⟩
  have HV := Lib.hid (valN_eq (l := l) (by omega))
  obtain ⟨v0, hv0⟩ : ∃ v0, v0 = (if l.length = 3 then l.getD 0 0 - 224 else if l.length = 4 then l.getD 0 0 - 240 else l.getD 0 0 - 192) := ⟨_, rfl⟩
  rw [← hv0] at HV
  have hv0r : -300 ≤ v0 ∧ v0 ≤ 300 := by rw [hv0]; split; · omega
                                         split <;> omega
  have g1 : ((s.size : Int) == 1) = false := by rw [beq_eq_false_iff_ne]; omega
  rw [hL] at hv0
  generalize l.getD 0 0 = c at ix0 hc hv0
  have e1 : IntKind.i64.wrap c = c := IntWalk.i64_in c (by omega)
  have e3 := IntWalk.i64_in (c - 192) (by omega)
  have e4 := IntWalk.i64_in (c - 224) (by omega)
  have e5 := IntWalk.i64_in (c - 240) (by omega)
  have hcase : (((s.size : Int) == 3) = true ∧ ((s.size : Int) == 4) = false ∧ v0 = c - 224) ∨ (((s.size : Int) == 3) = false ∧ ((s.size : Int) == 4) = true ∧ v0 = c - 240) ∨ (((s.size : Int) == 3) = false ∧ ((s.size : Int) == 4) = false ∧ v0 = c - 192) := by
    by_cases q3 : s.size = 3
    · exact .inl ⟨by rw [beq_iff_eq]; omega, by rw [beq_eq_false_iff_ne]; omega, by rw [hv0, if_pos q3]⟩
    · by_cases q4 : s.size = 4
      · exact .inr (.inl ⟨by rw [beq_eq_false_iff_ne]; omega, by rw [beq_iff_eq]; omega, by rw [hv0, if_neg q3, if_pos q4]⟩)
      · exact .inr (.inr ⟨by rw [beq_eq_false_iff_ne]; omega, by rw [beq_eq_false_iff_ne]; omega, by rw [hv0, if_neg q3, if_neg q4]⟩)
  clear hv0 hs1
  rcases hcase with ⟨g3, g4, hv⟩ | ⟨g3, g4, hv⟩ | ⟨g3, g4, hv⟩
  all_goals
    have HV0 := Lib.hid hv
    clear hv
    go_enter Tryz.func106, Tryz.ntmps106
    go_wp2_with fail
    rw [← HV0.out]
    go_loopw [4, 5] (fun vv iv wr => ∃ (i : Nat) (v : Int), 1 ≤ i ∧ i ≤ s.size ∧ iv = .int .i64 (i : Int) ∧ vv = .int .i64 v ∧ wr = w ∧ v = ((l.drop 1).take (i - 1)).foldl valF v0 ∧ ((i = 1 ∧ -300 ≤ v ∧ v ≤ 300) ∨ (i = 2 ∧ -20000 ≤ v ∧ v ≤ 20000) ∨ (i = 3 ∧ -1300000 ≤ v ∧ v ≤ 1300000) ∨ (i = 4 ∧ -84000000 ≤ v ∧ v ≤ 84000000))) (fun _ iv _ => s.size - (intOf iv).toNat)
    case atStart => exact ⟨1, v0, Nat.le_refl _, h1, rfl, rfl, rfl, rfl, .inl ⟨rfl, hv0r⟩⟩
    case round =>
      obtain ⟨i, v, hi1, hi2, rfl, rfl, rfl, hv, hb⟩ := hrel
      have HVv := Lib.hid hv
      clear hv
      by_cases hlt : i < s.size
      · have hg := HGet.out i hlt
        have hbr := HRng.out _ (List.mem_of_getElem? hg)
        have ixi := fun w => HIx.out i hlt w
        have HN := Lib.hid (fold_snoc v0 hi1 hg)
        generalize l.getD i 0 = b at ixi hbr HN
        have s0 : (i : Int) < (s.size : Int) := by omega
        have s1 : (0 : Int) ≤ (i : Int) := by omega
        have f1 := IntWalk.i64_in ((i : Int) + 1) (by omega)
        have f2 := IntWalk.i64_in (64 * v) (by omega)
        have f3 : IntKind.i64.wrap b = b := IntWalk.i64_in b (by omega)
        have f4 := IntWalk.i64_in (64 * v + b) (by omega)
        have f5 := IntWalk.i64_in (64 * v + b - 128) (by omega)
        have hnb : ((i + 1 = 1 ∧ -300 ≤ 64 * v + b - 128 ∧ 64 * v + b - 128 ≤ 300) ∨ (i + 1 = 2 ∧ -20000 ≤ 64 * v + b - 128 ∧ 64 * v + b - 128 ≤ 20000) ∨ (i + 1 = 3 ∧ -1300000 ≤ 64 * v + b - 128 ∧ 64 * v + b - 128 ≤ 1300000) ∨ (i + 1 = 4 ∧ -84000000 ≤ 64 * v + b - 128 ∧ 64 * v + b - 128 ≤ 84000000)) := by omega
        have HNb := Lib.hid hnb
        clear hg hlt hb hnb
        go_wp2_with fail
        go_roundw
        case rel => exact ⟨i + 1, 64 * v + b - 128, by omega, by omega, by go_num, rfl, by first | rfl | trivial, by rw [HN.out, ← HVv.out]; rfl, HNb.out⟩
        case measure => simp [intOf] <;> omega
      · have s0 : ¬ i < s.size := hlt
        have HR := Lib.hid (show valN l = v by rw [HV.out, HVv.out, List.take_of_length_le (by rw [List.length_drop]; omega)])
        have e6 : IntKind.i32.wrap v = v := by rw [IntKind.wrap_i32]; omega
        clear hlt hb
        go_wp2_with fail
        go_ret
        exact ⟨by rw [HR.out]; rfl, rfl⟩
theorem docD_len : ∀ (n : Nat) (l : List Int), l.length ≤ n → (docD l).length ≤ l.length
  | _, [], _ => Nat.le_refl _
  | 0, b :: l, h => by simp at h
  | n + 1, b :: l, h => by
    rw [docD_cons, List.length_cons]
    have hd : ((b :: l).drop (max (rowN (b :: l)) 1)).length ≤ l.length := by rw [List.length_drop, List.length_cons]; omega
    have := docD_len n ((b :: l).drop (max (rowN (b :: l)) 1)) (by simp at h; omega)
    simp only [List.length_cons]
    omega
theorem docD_at {l : List Int} {k : Nat} (hk : k < l.length) : docD (l.drop k) = (if wholeB (l.drop k) = true then valN ((l.drop k).take (rowN (l.drop k))) else 65533) :: docD (l.drop (k + max (rowN (l.drop k)) 1)) := by
  obtain ⟨b, t, ht⟩ : ∃ b t, l.drop k = b :: t := ⟨_, _, List.drop_eq_getElem_cons hk⟩
  have h := docD_cons b t
  rw [← ht, List.drop_drop] at h
  exact h
set_option maxRecDepth 100000 in
set_option maxHeartbeats 4000000 in
theorem rdecode_any (s : ByteArray) (hs : s.size ≤ 500000) (w : World) : Calls Tryz.prog 58 #[.string s] w fun e w' => ∃ u, e = .returned u ∧ Below w.heap.size w w' ∧ RunesIn w' u (decS Dc0 (bytesN s)) := by
  rw [dec_doc (bytesN s).length (bytesN s) (Nat.le_refl _) (bytesN_rng s)]
  have hL := bytesN_len s
  have HEx := Lib.hid (bytesN_extract s)
  have HDl := Lib.hid (docD_len (bytesN s).length (bytesN s) (Nat.le_refl _))
  have HAt := Lib.hid (fun (k : Nat) (hk : k < (bytesN s).length) => docD_at hk)
  generalize bytesN s = l at hL HEx HDl HAt ⊢
  go_enter Tryz.func58, Tryz.ntmps58
  go_wp2_with fail
  go_loopw [3, 4] (fun ov iv wr => ∃ (k : Nat) (o : List Int), k ≤ s.size ∧ iv = .int .i64 (k : Int) ∧ Below w.heap.size w wr ∧ wr.ownsRow w.heap.size 21 1 ov o.length (o.flatMap runeE) ∧ o.length ≤ k ∧ o ++ docD (l.drop k) = docD l) (fun _ iv _ => s.size - (intOf iv).toNat)
  case atStart => exact ⟨0, [], Nat.zero_le _, rfl, .refl _ _, World.ownsRow_nil _ _ _ _, Nat.le_refl _, rfl⟩
  case round =>
    obtain ⟨k, o, hk, rfl, hB, hO, hol, hE⟩ := hrel
    have HB := Lib.hid hB
    have HO := Lib.hid hO
    have HE := Lib.hid hE
    have HOl := Lib.hid hol
    have hbs := hB.size
    obtain ⟨pa, pc, rfl⟩ := slice_of_owns hO
    by_cases hlt : k < s.size
    · have s0 : (k : Int) < (s.size : Int) := by omega
      have s1 : (0 : Int) ≤ (k : Int) := by omega
      have s2 : (k : Int) ≤ (s.size : Int) := by omega
      have hex : bytesN (s.extract k s.size) = l.drop k := by
        rw [HEx.out, List.take_of_length_le (by rw [List.length_drop]; omega)]
      have hsz : (s.extract k s.size).size = s.size - k := by rw [← bytesN_len, hex, List.length_drop, hL]
      have hrow := row_any (s.extract k s.size) (by omega) (by omega)
      rw [hex] at hrow
      have HRow := Lib.hid hrow
      have hdo := HAt.out k (by omega)
      have hle := rowN_le (l.drop k)
      rw [List.length_drop, hL] at hle
      have hex2 : ∀ n, bytesN (s.extract k (k + n)) = (l.drop k).take n := fun n => by rw [HEx.out, show k + n - k = n by omega]
      have hwr := fun h => whole_rng (l := l.drop k) h
      obtain ⟨n, hn⟩ : ∃ n, n = rowN (l.drop k) := ⟨_, rfl⟩
      rw [← hn] at hdo hle hwr HRow
      have hbig : (o.length + 1) * 4 ≤ 140737488355328 := by omega
      have e1 := IntWalk.i64_in ((k : Int) + (n : Int)) (by omega)
      have e2 := IntWalk.i64_in ((k : Int) + 1) (by omega)
      have HDo := Lib.hid hdo
      by_cases hw : wholeB (l.drop k) = true
      · have hwr2 := hwr hw
        have hsz2 : (s.extract k (k + n)).size = n := by rw [← bytesN_len, hex2, List.length_take, List.length_drop, hL]; omega
        have hval := value_any (s.extract k (k + n)) (by omega) (by omega)
        rw [hex2] at hval
        have HN := Lib.hid (show o ++ [valN ((l.drop k).take n)] ++ docD (l.drop (k + n)) = docD l by
          rw [← HE.out, HDo.out, if_pos hw, show max n 1 = n by omega, List.append_assoc]
          rfl)
        generalize valN ((l.drop k).take n) = x at hval HN
        have HVal := Lib.hid hval
        rw [hw] at HRow
        have s3 : (k : Int) ≤ (k : Int) + (n : Int) := by omega
        have s4 : (k : Int) + (n : Int) ≤ (s.size : Int) := by omega
        have s5 : ((k : Int) + (n : Int)).toNat = k + n := by omega
        have s6 : ((n : Int) == 0) = false := by rw [beq_eq_false_iff_ne]; omega
        clear hB hO hE hol hex hsz hrow hdo hex2 hwr hn hw hsz2 hval hlt
        go_wp2_with fail
        refine (HRow.out _).mono ?_
        rintro e w3 ⟨rfl, n3, rfl⟩
        go_wp2_with fail
        refine (HVal.out _).mono ?_
        rintro e w4 ⟨rfl, rfl⟩
        have HO4 := Lib.hid (show (wr.drewN n3).ownsRow w.heap.size 21 1 (.slice pa o.length pc) o.length (o.flatMap runeE) from HO.out)
        have HB4 := Lib.hid (below_dN HB.out n3)
        have hbs4 : w.heap.size ≤ (wr.drewN n3).heap.size := hbs
        generalize wr.drewN n3 = w5 at HO4 HB4 hbs4 ⊢
        go_wp2_with (at_builtin; go_loud (refine wpList_app1 _ rfl (.tmp 19) (.tmp 27) _ rfl ER _ _ _ rfl HO4.out 1 1 (runeE x) rfl (by decide) rfl (by intro u hu; simp [runeE] at hu; subst hu; rfl) hbig hbs4 ?_); intro g cp7 w7 ho7 hg7 hf7; have HB7 := Lib.hid (below_app HB4.out hbs4 HO4.out (Nat.le_refl _) hg7); have HO7 := Lib.hid ho7; clear ho7 hg7 hf7)
        go_roundw
        case rel => exact ⟨k + n, o ++ [x], by omega, by go_num, HB7.out, by rw [List.length_append, flat_snoc]; exact HO7.out, by rw [List.length_append]; have := HOl.out; simp; omega, HN.out⟩
        case measure => simp [intOf] <;> omega
      · have hw : wholeB (l.drop k) = false := Bool.eq_false_iff.2 hw
        have HN := Lib.hid (show o ++ [65533] ++ docD (l.drop (k + max n 1)) = docD l by
          rw [← HE.out, HDo.out, hw, if_neg (by decide), List.append_assoc]
          rfl)
        rw [hw] at HRow
        clear hB hO hE hol hex hsz hrow hdo hex2 hwr hn hw hlt
        go_wp2_with fail
        refine (HRow.out _).mono ?_
        rintro e w3 ⟨rfl, n3, rfl⟩
        have HO4 := Lib.hid (show (wr.drewN n3).ownsRow w.heap.size 21 1 (.slice pa o.length pc) o.length (o.flatMap runeE) from HO.out)
        have HB4 := Lib.hid (below_dN HB.out n3)
        have hbs4 : w.heap.size ≤ (wr.drewN n3).heap.size := hbs
        generalize wr.drewN n3 = w5 at HO4 HB4 hbs4 ⊢
        by_cases hn0 : n = 0
        · have HN2 := Lib.hid (show o ++ [65533] ++ docD (l.drop (k + 1)) = docD l by have := HN.out; rwa [hn0] at this)
          subst hn0
          go_wp2_with (at_builtin; go_loud (refine wpList_app1 _ rfl (.tmp 29) (.tmp 30) _ rfl ER _ _ _ rfl HO4.out 1 1 (runeE 65533) rfl (by decide) rfl (by intro u hu; simp [runeE] at hu; subst hu; rfl) hbig hbs4 ?_); intro g cp7 w7 ho7 hg7 hf7; have HB7 := Lib.hid (below_app HB4.out hbs4 HO4.out (Nat.le_refl _) hg7); have HO7 := Lib.hid ho7; clear ho7 hg7 hf7)
          go_roundw
          case rel => exact ⟨k + 1, o ++ [65533], by omega, by go_num, HB7.out, by rw [List.length_append, flat_snoc]; exact HO7.out, by rw [List.length_append]; have := HOl.out; simp; omega, HN2.out⟩
          case measure => simp [intOf] <;> omega
        · have HN2 := Lib.hid (show o ++ [65533] ++ docD (l.drop (k + n)) = docD l by have := HN.out; rwa [show max n 1 = n by omega] at this)
          have s6 : ((n : Int) == 0) = false := by rw [beq_eq_false_iff_ne]; omega
          have hn1 : 1 ≤ n := by omega
          clear hn0
          go_wp2_with (at_builtin; go_loud (refine wpList_app1 _ rfl (.tmp 29) (.tmp 30) _ rfl ER _ _ _ rfl HO4.out 1 1 (runeE 65533) rfl (by decide) rfl (by intro u hu; simp [runeE] at hu; subst hu; rfl) hbig hbs4 ?_); intro g cp7 w7 ho7 hg7 hf7; have HB7 := Lib.hid (below_app HB4.out hbs4 HO4.out (Nat.le_refl _) hg7); have HO7 := Lib.hid ho7; clear ho7 hg7 hf7)
          go_roundw
          case rel => exact ⟨k + n, o ++ [65533], by omega, by go_num, HB7.out, by rw [List.length_append, flat_snoc]; exact HO7.out, by rw [List.length_append]; have := HOl.out; simp; omega, HN2.out⟩
          case measure => simp [intOf] <;> omega
    · have hke : k = s.size := by omega
      have HRes := Lib.hid (show docD l = o by rw [← hE, List.drop_eq_nil_of_le (by omega), show docD [] = [] from rfl, List.append_nil])
      have s0 : ¬ k < s.size := hlt
      clear hB hO hE hol hlt
      go_wp2_with fail
      go_ret
      exact ⟨_, rfl, HB.out, by rw [HRes.out]; exact rd_of_owns HO.out⟩
end Go.Proofs.YthlpelfogplomaaGreat

/- The document's Read: its walk. (Printed by gen_rread.py.) -/
namespace Go.Proofs.YthlpelfogplomaaGreat
open Go.RowKit

theorem oper_app1g {P : Program} (w : World) {o : Oper} {act : Act} {K : Act → World → Prop} {Q : Exit → Act → World → Prop} (s x : Operand) (t : TypeId)
    (ho : o.op = .call { callee := .builtin .append, args := #[s, x], argTypes := #[t, t] })
    {base e size bytes : Nat} (E : ElemT P t e size bytes) (v : Value) (n : Nat) (xs : List Value) (hs : act.eval s = v) (hown : w.ownsRow base e size v n xs)
    (m c : Nat) (news : List Value) (hx : act.eval x = .slice (some ⟨w.heap.size, 0, none⟩) m c) (hm : 0 < m) (hl : news.length = m * size) (h1 : ∀ u ∈ news, u.oneCell' = true)
    (hbytes : (n + m) * bytes ≤ 140737488355328) (hbase : base ≤ w.heap.size)
    (h : ∀ g cap w', w'.ownsRow base e size (.slice (some ⟨g, 0, none⟩) (n + m) cap) (n + m) (xs ++ news) → w.grownBy w' v.ownBlock → (v.ownBlock = some g ∨ w.heap.size ≤ g) →
      K (act.put o.dst (.slice (some ⟨g, 0, none⟩) (n + m) cap)) w') : o.wp P act (w.alloc (.cells news.toArray e)) K Q := by
  have hnews : ∀ j u, news[j]? = some u → (w.alloc (.cells news.toArray e)).cell? ((⟨w.heap.size, 0, none⟩ : Addr).add j) = some u := by
    intro j u hu
    have hadd : (⟨w.heap.size, 0, none⟩ : Addr).add j = ⟨w.heap.size, j, none⟩ := by unfold Addr.add; split <;> simp_all
    rw [hadd, cell_of_row _ w.heap.size j news.toArray e (0, 0) (heap_alloc_new w _)]
    simpa using hu
  obtain ⟨g, cap, w', hr, h2, h3, h4⟩ := run_app (P := P) (ty := o.type) (w.alloc (.cells news.toArray e)) E v n xs (hown.alloc _) _ m c news hm hl hnews h1 hbytes (by simp; omega)
  unfold Oper.wp execOp
  simp only [ho, resolve, invoke, builtin, Sem.run_bind, Sem.run_pure, Result.andThen_ok, List.map_toArray, List.map_cons, List.map_nil, hs, hx, hr]
  refine h g cap w' h2 ?_ ?_
  · exact ⟨h3.os, h3.tape, h3.output, Nat.le_trans (by simp) h3.size, fun k hk hne => (h3.block k (by simp; omega) hne).trans (Below.heap_alloc w _ k hk)⟩
  · rcases h4 with h4 | h4
    · exact .inl h4
    · exact .inr (by simp at h4; omega)
section
variable {R : List Rw} {w : World} {rv : Value}
set_option maxRecDepth 100000 in
set_option maxHeartbeats 8000000 in
theorem rread_any (H : (tabOf R).Ok) (hR : RowsIn w rv R) (s : ByteArray) (hl : s.size ≤ 400000) :
    Calls Tryz.prog 19 #[rv, .string s] w fun e w' => ∃ u, e = .returned u ∧ Below w.heap.size w w' ∧ GlyIn w' u (readG R (decS Dc0 (bytesN s))) := by
  have HR := Lib.hid hR
  have hdl := decS_len (bytesN s)
  rw [bytesN_len] at hdl
  have HOk := Lib.hid (decS_ok s)
  have HDe := Lib.hid (rdecode_any s (by omega) w)
  generalize decS Dc0 (bytesN s) = l at hdl HOk HDe ⊢
  have HCl := Lib.hid (fun (W : World) (v : Value) (h1 : RowsIn W rv R) (h2 : RunesIn W v l) => rclusters_any H h1 h2 HOk.out (by omega))
  have HNe := Lib.hid (clus_ne (tabOf R) l.length l (Nat.le_refl _))
  have HMem := Lib.hid (clus_mem (tabOf R) l.length l (Nat.le_refl _))
  have hLl : (clus (tabOf R) l).length ≤ l.length := clusN_len (tabOf R) l.length l
  unfold readG
  generalize clus (tabOf R) l = LL at HCl HNe HMem hLl ⊢
  clear hR
  go_enter Tryz.func19, Tryz.ntmps19
  go_wp2_with fail
  refine HDe.out.mono ?_
  rintro e w1 ⟨u, rfl, hB1, hU1⟩
  have HB1 := Lib.hid hB1
  have HR1 := Lib.hid (HR.out.below hB1)
  have HU1 := Lib.hid hU1
  clear hB1 hU1 HDe HR
  go_wp2_with fail
  refine (HCl.out _ _ HR1.out HU1.out).mono ?_
  rintro e w2 ⟨v, rfl, hB2, hX2⟩
  have HB2 := Lib.hid (below_trans' HB1.out hB2)
  have HR2 := Lib.hid (HR1.out.below hB2)
  have HX := Lib.hid hX2
  obtain ⟨ta, tcap, rfl, ht1, ht2⟩ := texts_shape hX2
  unfold maxLen at ht2
  clear hB2 hX2 HB1 HR1 HU1 HCl
  go_wp2_with fail
  go_loopw [5, 7] (fun ov iv wr => ∃ (k : Nat) (G : List Gy), k ≤ LL.length ∧ iv = .int .i64 ((k : Nat) : Int) ∧ Below w2.heap.size w2 wr ∧ wr.ownsRow w2.heap.size 112 2 ov G.length (G.flatMap gyE) ∧ G = (LL.take k).map (rdG R)) (fun _ iv _ => LL.length - (intOf iv).toNat)
  case atStart => exact ⟨0, [], Nat.zero_le _, rfl, .refl _ _, World.ownsRow_nil _ _ _ _, rfl⟩
  case round =>
    obtain ⟨k, G, hk, rfl, hB, hO, hG⟩ := hrel
    have HB := Lib.hid hB
    have HO := Lib.hid hO
    have hbs := hB.size
    have hGl : G.length = k := by rw [hG, List.length_map, List.length_take]; omega
    obtain ⟨pa, pc, rfl⟩ := slice_of_owns hO
    by_cases hlt : k < LL.length
    · obtain ⟨c, hc⟩ : ∃ c, LL[k]? = some c := ⟨LL[k], List.getElem?_eq_getElem hlt⟩
      have hcm := List.mem_of_getElem? hc
      have hcl := (HNe.out c hcm).2
      have HOkc := Lib.hid (show RunesOk c from fun x hx => HOk.out x (HMem.out c hcm x hx))
      obtain ⟨b, off, cp, cu, hv, _, _, _, hbw, d00, hcu0⟩ := texts_cell HX.out hc
      cases hv
      have d0 := cell_later hB d00
      have hcu := hcu0.below hB
      have HCu := Lib.hid hcu
      obtain ⟨ca, cc, rfl, _⟩ := runes_cells hcu
      have HGn := Lib.hid (show G ++ [rdG R c] = (LL.take (k + 1)).map (rdG R) by rw [List.take_add_one, hc, List.map_append, hG]; rfl)
      have s0 : (k : Int) < (LL.length : Int) := by omega
      have s1 : (0 : Int) ≤ (k : Int) := by omega
      have e1 := IntWalk.i64_in ((k : Int) + 1) (by omega)
      have hbig : (G.length + 1) * 24 ≤ 140737488355328 := by omega
      have HRr := Lib.hid (HR2.out.below hB)
      clear hB hO hG hc hcm hcu hlt hGl d00 hcu0
      go_wp2_with fail
      refine wp_region_held_drew (S := fun w' => w'.cell? ⟨b, off + k, none⟩ = some (.slice ca c.length cc)) (by kernel_rfl) d0 (fun hHeld => ?_)
      refine hd_take 0 rfl (by kernel_rfl) (by kernel_rfl) (by kernel_rfl) (fun _ _ _ h => h) (by rfl) (by intro w hSw; (try dsimp only at hSw); go_simp; first | done | with_reducible rfl) hHeld ?_
      try simp only [Act.put, List.setIfInBounds_toArray, List.set_cons_zero, List.set_cons_succ]
      refine hd_take 1 rfl (by kernel_rfl) (by kernel_rfl) (by kernel_rfl) (fun _ _ _ h => h) (by rfl) (by intro w hSw; (try dsimp only at hSw); go_simp; first | done | with_reducible rfl) hHeld ?_
      try simp only [Act.put, List.setIfInBounds_toArray, List.set_cons_zero, List.set_cons_succ]
      refine hd_take 2 rfl (by kernel_rfl) (by kernel_rfl) (by kernel_rfl) (fun _ _ _ h => h) (by rfl) (by intro w hSw; (try dsimp only at hSw); go_simp; first | done | with_reducible rfl) hHeld ?_
      try simp only [Act.put, List.setIfInBounds_toArray, List.set_cons_zero, List.set_cons_succ]
      refine hd_take 3 rfl (by kernel_rfl) (by kernel_rfl) (by kernel_rfl) (fun _ _ _ h => h) (by rfl) (by intro w hSw; (try dsimp only at hSw); go_simp; first | done | with_reducible rfl) hHeld ?_
      try simp only [Act.put, List.setIfInBounds_toArray, List.set_cons_zero, List.set_cons_succ]
      refine hd_take 4 rfl (by kernel_rfl) (by kernel_rfl) (by kernel_rfl) (fun _ _ _ h => h) (by rfl) (by intro w hSw; (try dsimp only at hSw); go_simp; first | done | with_reducible rfl) hHeld ?_
      try simp only [Act.put, List.setIfInBounds_toArray, List.set_cons_zero, List.set_cons_succ]
      refine hd_take 6 rfl (by kernel_rfl) (by kernel_rfl) (by kernel_rfl) (fun _ _ _ h => h) (by rfl) (by intro w hSw; (try dsimp only at hSw); go_simp; first | done | with_reducible rfl) hHeld ?_
      try simp only [Act.put, List.setIfInBounds_toArray, List.set_cons_zero, List.set_cons_succ]
      refine hd_take 7 rfl (by kernel_rfl) (by kernel_rfl) (by kernel_rfl) (fun _ _ _ h => h) (by rfl) (by intro w hSw; (try dsimp only at hSw); go_simp; first | done | with_reducible rfl) hHeld ?_
      try simp only [Act.put, List.setIfInBounds_toArray, List.set_cons_zero, List.set_cons_succ]
      refine hd_take 8 rfl (by kernel_rfl) (by kernel_rfl) (by kernel_rfl) (fun _ _ _ h => h) (by rfl) (by intro w hSw; (try dsimp only at hSw); go_simp; first | done | with_reducible rfl) hHeld ?_
      try simp only [Act.put, List.setIfInBounds_toArray, List.set_cons_zero, List.set_cons_succ]
      refine hd_take 9 rfl (by kernel_rfl) (by kernel_rfl) (by kernel_rfl) (fun _ _ _ h => h) (by rfl) (by intro w hSw; (try dsimp only at hSw); go_simp; first | done | with_reducible rfl) hHeld ?_
      try simp only [Act.put, List.setIfInBounds_toArray, List.set_cons_zero, List.set_cons_succ]
      refine hd_take 10 rfl (by kernel_rfl) (by kernel_rfl) (by kernel_rfl) (fun _ _ _ h => h) (by rfl) (by intro w hSw; (try dsimp only at hSw); go_simp; first | done | with_reducible rfl) hHeld ?_
      try simp only [Act.put, List.setIfInBounds_toArray, List.set_cons_zero, List.set_cons_succ]
      refine hd_step 5 (by kernel_rfl) rfl (fun K hK => ?_)
      go_simp
      go_at_call 59
      refine (rencode_any (w := wr.drew) (HCu.out.drewN 1) (by omega)).mono ?_
      rintro e w3 ⟨rfl, hB3⟩
      have d3 := cell_later hB3 (show wr.drew.cell? _ = _ from d0)
      have HB3 := Lib.hid ((below_dN HB.out 1).trans (hB3.mono hbs))
      have HO3 := Lib.hid (owns_stays (show wr.drew.ownsRow w2.heap.size 112 2 (.slice pa G.length pc) G.length (G.flatMap gyE) from HO.out) hB3)
      have HC3 := Lib.hid (RunesIn.below (HCu.out.drewN 1) hB3)
      have HR3 := Lib.hid (RowsIn.below (w := wr.drew) HRr.out hB3)
      clear hB3
      refine hK.out _ _ d3 (fun hHeld => ?_)
      clear hK K
      try simp only [Act.put, List.setIfInBounds_toArray, List.set_cons_zero, List.set_cons_succ]
      refine hd_step 11 (by kernel_rfl) rfl (fun K hK => ?_)
      go_simp
      go_at_call 60
      refine (rwidth_any HR3.out HC3.out HOkc.out (by omega)).mono ?_
      rintro e w4 ⟨rfl, hB4⟩
      have d4 := cell_later hB4 d3
      have HB4 := Lib.hid (HB3.out.trans (hB4.mono HB3.out.size))
      have HO4 := Lib.hid (owns_stays HO3.out hB4)
      have hbs4 := HB4.out.size
      have hgy : rdG R c = (enc c, ((widN R c : Nat) : Int)) := rfl
      rw [hgy] at HGn
      clear hB4 HR3 HC3 HB3 HO3 hgy d3 HRr HB HO
      generalize enc c = ec at HGn ⊢
      generalize ((widN R c : Nat) : Int) = wc at HGn ⊢
      have hbl : b < w4.heap.size := World.block_lt_of_cell? w4 _ d4
      refine hK.out _ _ d4 (fun hHeld => ?_)
      clear hK K
      try simp only [Act.put, List.setIfInBounds_toArray, List.set_cons_zero, List.set_cons_succ]
      refine hd_take 12 rfl (by kernel_rfl) (by kernel_rfl) (by kernel_rfl) (fun _ _ _ h => h) (by rfl) (by intro w hSw; (try dsimp only at hSw); go_simp; first | done | with_reducible rfl) hHeld ?_
      try simp only [Act.put, List.setIfInBounds_toArray, List.set_cons_zero, List.set_cons_succ]
      refine hd_step 13 (by kernel_rfl) rfl (fun K hK => ?_)
      go_simp
      have d5 : (w4.alloc (.cells #[.string ec, .int .i64 wc] 112)).cell? ⟨b, off + k, none⟩ = some (.slice ca c.length cc) := (World.cell?_of_block (Below.heap_alloc w4 _ _ hbl)).trans d4
      refine hK.out _ _ d5 (fun hHeld => ?_)
      clear hK K
      try simp only [Act.put, List.setIfInBounds_toArray, List.set_cons_zero, List.set_cons_succ]
      refine hd_step 14 (by kernel_rfl) rfl (fun K hK => ?_)
      rw [if_pos (by rfl)]
      show Oper.wp Tryz.prog _ _ (w4.alloc (.cells #[.string ec, .int .i64 wc] 112)) _ _
      refine oper_app1g (base := w2.heap.size) w4 (.tmp 18) (.tmp 31) _ (by rfl) ERG (.slice pa G.length pc) G.length (G.flatMap gyE) (by rfl) HO4.out 1 1 (gyE (ec, wc)) (by rfl) (by decide) rfl (gyE_one _) hbig hbs4 ?_
      intro g cp7 w7 ho7 hg7 hf7
      have HB7 := Lib.hid (below_app HB4.out hbs4 HO4.out (Nat.le_refl _) hg7)
      have HO7 := Lib.hid ho7
      have d7 := (World.cell?_of_block (hg7.block b hbl (fun e => by have := (HO4.out.lt b e.symm).1; omega))).trans d4
      clear ho7 hg7 hf7
      refine hK.out _ _ d7 (fun hHeld => ?_)
      clear hK K
      try simp only [Act.put, List.setIfInBounds_toArray, List.set_cons_zero, List.set_cons_succ]
      refine hd_take 15 rfl (by kernel_rfl) (by kernel_rfl) (by kernel_rfl) (fun _ _ _ h => h) (by rfl) (by intro w hSw; (try dsimp only at hSw); go_simp; first | done | with_reducible rfl) hHeld ?_
      try simp only [Act.put, List.setIfInBounds_toArray, List.set_cons_zero, List.set_cons_succ]
      refine wpAnyH_done (by kernel_rfl) ?_ _
      clear hHeld d7 d5 d4
      go_wp2_with fail
      go_roundw
      case rel => exact ⟨k + 1, G ++ [(ec, wc)], by omega, by go_num, HB7.out, by rw [List.length_append, flat_snoc]; exact HO7.out, HGn.out⟩
      case measure => simp [intOf] <;> omega
    · have hke : k = LL.length := by omega
      subst hke
      rw [List.take_length] at hG
      have HGe := Lib.hid hG
      clear hlt hk hG hB hO hGl
      go_wp2_with fail
      go_ret
      exact ⟨_, rfl, below_trans' HB2.out HB.out, by rw [← HGe.out]; exact rd_of_owns HO.out⟩
end
end Go.Proofs.YthlpelfogplomaaGreat

/- GlyphLines: its walk. (Printed by gen_lines.py.) -/
namespace Go.Proofs.YthlpelfogplomaaGreat
open Go.RowKit

set_option maxRecDepth 100000 in
set_option maxHeartbeats 8000000 in
theorem glyphLines_any (v0 : Value) (l0 : List Int) (s : ByteArray) (w : World) (hl : RunesIn w v0 l0) (hok : RunesOk l0) (hss : s.size ≤ maxLen) :
    Calls Tryz.prog 4 #[v0, .string s] w fun e w' => e = .returned (.bool true) ∧ Below w.heap.size w w' := by
  unfold maxLen at hss
  obtain ⟨R, HFc, hrows⟩ := apiRows_any
  have HF := Lib.hid HFc
  have HTk := Lib.hid HFc.seg.tab
  have HRows := Lib.hid hrows
  have HFew := Lib.hid (few_any hl 100)
  clear HFc hrows hl
  obtain ⟨l, hll⟩ : ∃ l, l = l0.take 100 := ⟨_, rfl⟩
  rw [← hll] at HFew
  have HOk := Lib.hid (show RunesOk l by rw [hll]; exact hok.take 100)
  have hlen : l.length ≤ 100 := by rw [hll, List.length_take]; omega
  clear hll hok
  go_enter Tryz.func4, Tryz.ntmps4
  go_wp2_with fail
  refine HFew.out.mono ?_
  rintro e w' ⟨⟨sv, rfl, hS⟩, rfl⟩
  have HS := Lib.hid hS
  obtain ⟨sl, cap, rfl, _, _, _⟩ := runes_cells hS
  clear hS HFew
  by_cases hs3 : s.size > 300
  · have g0 : (s.size : Int) > 300 := by omega
    go_upto_region 4 with fail
    have hz : (s.extract 0 300).size ≤ 300 := by rw [ByteArray.size_extract]; omega
    generalize s.extract 0 300 = s1 at hz ⊢
    clear hs3 g0
    go_wp2_with fail
    refine (HRows.out w).mono ?_
    rintro e w1 ⟨v, rfl, hB1, hR1⟩
    have HB1 := Lib.hid hB1
    have HR1 := Lib.hid hR1
    have HS1 := Lib.hid (HS.out.below hB1)
    clear hB1 hR1
    go_wp2_with fail
    refine (build_tb v R w1 HR1.out HF.out.ok).mono ?_
    rintro e w2 ⟨tp, rfl, hB2, hT⟩
    have HT2 := Lib.hid hT
    have HR2 := Lib.hid (HR1.out.below hB2)
    have HS2 := Lib.hid (HS1.out.below hB2)
    have HB2 := Lib.hid (below_trans' HB1.out hB2)
    clear hB2 hT HR1 HS1 HB1
    go_wp2_with fail
    refine (line_any HT2.out HS2.out HOk.out (by omega)).mono ?_
    rintro e w3 ⟨gu, ga, rfl, hB3, hG3, hA3⟩
    have HT3 := Lib.hid (HT2.out.below hB3)
    have HR3 := Lib.hid (HR2.out.below hB3)
    have HS3 := Lib.hid (HS2.out.below hB3)
    have HG3 := Lib.hid hG3
    have HA3 := Lib.hid hA3
    have HB3 := Lib.hid (below_trans' HB2.out hB3)
    clear hB3 hG3 hA3 HT2 HR2 HS2 HB2
    go_wp2_with fail
    refine (rline_any HTk.out HR3.out HS3.out HOk.out (by omega)).mono ?_
    rintro e w4 ⟨hu, ha, rfl, hB4, hG4, hA4⟩
    have HT4 := Lib.hid (HT3.out.below hB4)
    have HR4 := Lib.hid (HR3.out.below hB4)
    have hgl := lineG_take_le R l (clus (tabOf R) l).length
    rw [List.take_length] at hgl
    have HSm := Lib.hid (gsame_any (HG3.out.below hB4) hG4 (by omega))
    have HA4 := Lib.hid (HA3.out.below hB4)
    have HD4 := Lib.hid hA4
    have HB4 := Lib.hid (below_trans' HB3.out hB4)
    clear hB4 hG4 hA4 HT3 HR3 HS3 HB3 HG3 HA3
    go_wp2_with fail
    refine HSm.out.mono ?_
    rintro e w5 ⟨rfl, hB5⟩
    have HT5 := Lib.hid (HT4.out.below hB5)
    have HR5 := Lib.hid (HR4.out.below hB5)
    have hsi := same_ints (HA4.out.below hB5) (HD4.out.below hB5)
    rw [decide_eq_true rfl] at hsi
    have HSi := Lib.hid hsi
    have HB5 := Lib.hid (below_trans' HB4.out hB5)
    clear hB5 hsi HT4 HR4 HA4 HD4 HB4 HSm
    go_wp2_with fail
    refine HSi.out.mono ?_
    rintro e w6 ⟨rfl, hB6⟩
    have HT6 := Lib.hid (HT5.out.below hB6)
    have HR6 := Lib.hid (HR5.out.below hB6)
    have HB6 := Lib.hid (below_trans' HB5.out hB6)
    clear hB6 HT5 HR5 HB5 HSi
    go_wp2_with fail
    refine (gread_any HT6.out s1 (by omega)).mono ?_
    rintro e w7 ⟨ru, rfl, hB7, hG7⟩
    have HR7 := Lib.hid (HR6.out.below hB7)
    have HG7 := Lib.hid hG7
    have HB7 := Lib.hid (below_trans' HB6.out hB7)
    clear hB7 hG7 HT6 HR6 HB6
    go_wp2_with fail
    refine (rread_any HTk.out HR7.out s1 (by omega)).mono ?_
    rintro e w8 ⟨rr, rfl, hB8, hG8⟩
    have hrl : (readG R (decS Dc0 (bytesN s1))).length ≤ 4000000 := by
      have h1 : (clus (tabOf R) (decS Dc0 (bytesN s1))).length ≤ (decS Dc0 (bytesN s1)).length := clusN_len (tabOf R) _ _
      have h2 := decS_len (bytesN s1)
      rw [bytesN_len] at h2
      unfold readG
      rw [List.length_map]
      omega
    have HSm := Lib.hid (gsame_any (HG7.out.below hB8) hG8 hrl)
    have HB8 := Lib.hid (below_trans' HB7.out hB8)
    clear hB8 hG8 HR7 HG7 HB7
    go_wp2_with fail
    refine HSm.out.mono ?_
    rintro e w9 ⟨rfl, hB9⟩
    have HB9 := Lib.hid (below_trans' HB8.out hB9)
    go_wp2_with fail
    refine (fin13 HB9.out).mono ?_
    rintro e w10 ⟨rfl, hB10⟩
    go_wp2_with fail
    go_ret
    exact ⟨rfl, hB10⟩
  · have g0 : decide ((s.size : Int) > 300) = false := decide_eq_false (by omega)
    go_upto_region 4 with fail
    obtain ⟨s1, hs1⟩ : ∃ s1, s1 = s := ⟨_, rfl⟩
    have hz : s1.size ≤ 300 := by rw [hs1]; omega
    rw [← hs1]
    clear hs1
    clear hs3 g0
    go_wp2_with fail
    refine (HRows.out w).mono ?_
    rintro e w1 ⟨v, rfl, hB1, hR1⟩
    have HB1 := Lib.hid hB1
    have HR1 := Lib.hid hR1
    have HS1 := Lib.hid (HS.out.below hB1)
    clear hB1 hR1
    go_wp2_with fail
    refine (build_tb v R w1 HR1.out HF.out.ok).mono ?_
    rintro e w2 ⟨tp, rfl, hB2, hT⟩
    have HT2 := Lib.hid hT
    have HR2 := Lib.hid (HR1.out.below hB2)
    have HS2 := Lib.hid (HS1.out.below hB2)
    have HB2 := Lib.hid (below_trans' HB1.out hB2)
    clear hB2 hT HR1 HS1 HB1
    go_wp2_with fail
    refine (line_any HT2.out HS2.out HOk.out (by omega)).mono ?_
    rintro e w3 ⟨gu, ga, rfl, hB3, hG3, hA3⟩
    have HT3 := Lib.hid (HT2.out.below hB3)
    have HR3 := Lib.hid (HR2.out.below hB3)
    have HS3 := Lib.hid (HS2.out.below hB3)
    have HG3 := Lib.hid hG3
    have HA3 := Lib.hid hA3
    have HB3 := Lib.hid (below_trans' HB2.out hB3)
    clear hB3 hG3 hA3 HT2 HR2 HS2 HB2
    go_wp2_with fail
    refine (rline_any HTk.out HR3.out HS3.out HOk.out (by omega)).mono ?_
    rintro e w4 ⟨hu, ha, rfl, hB4, hG4, hA4⟩
    have HT4 := Lib.hid (HT3.out.below hB4)
    have HR4 := Lib.hid (HR3.out.below hB4)
    have hgl := lineG_take_le R l (clus (tabOf R) l).length
    rw [List.take_length] at hgl
    have HSm := Lib.hid (gsame_any (HG3.out.below hB4) hG4 (by omega))
    have HA4 := Lib.hid (HA3.out.below hB4)
    have HD4 := Lib.hid hA4
    have HB4 := Lib.hid (below_trans' HB3.out hB4)
    clear hB4 hG4 hA4 HT3 HR3 HS3 HB3 HG3 HA3
    go_wp2_with fail
    refine HSm.out.mono ?_
    rintro e w5 ⟨rfl, hB5⟩
    have HT5 := Lib.hid (HT4.out.below hB5)
    have HR5 := Lib.hid (HR4.out.below hB5)
    have hsi := same_ints (HA4.out.below hB5) (HD4.out.below hB5)
    rw [decide_eq_true rfl] at hsi
    have HSi := Lib.hid hsi
    have HB5 := Lib.hid (below_trans' HB4.out hB5)
    clear hB5 hsi HT4 HR4 HA4 HD4 HB4 HSm
    go_wp2_with fail
    refine HSi.out.mono ?_
    rintro e w6 ⟨rfl, hB6⟩
    have HT6 := Lib.hid (HT5.out.below hB6)
    have HR6 := Lib.hid (HR5.out.below hB6)
    have HB6 := Lib.hid (below_trans' HB5.out hB6)
    clear hB6 HT5 HR5 HB5 HSi
    go_wp2_with fail
    refine (gread_any HT6.out s1 (by omega)).mono ?_
    rintro e w7 ⟨ru, rfl, hB7, hG7⟩
    have HR7 := Lib.hid (HR6.out.below hB7)
    have HG7 := Lib.hid hG7
    have HB7 := Lib.hid (below_trans' HB6.out hB7)
    clear hB7 hG7 HT6 HR6 HB6
    go_wp2_with fail
    refine (rread_any HTk.out HR7.out s1 (by omega)).mono ?_
    rintro e w8 ⟨rr, rfl, hB8, hG8⟩
    have hrl : (readG R (decS Dc0 (bytesN s1))).length ≤ 4000000 := by
      have h1 : (clus (tabOf R) (decS Dc0 (bytesN s1))).length ≤ (decS Dc0 (bytesN s1)).length := clusN_len (tabOf R) _ _
      have h2 := decS_len (bytesN s1)
      rw [bytesN_len] at h2
      unfold readG
      rw [List.length_map]
      omega
    have HSm := Lib.hid (gsame_any (HG7.out.below hB8) hG8 hrl)
    have HB8 := Lib.hid (below_trans' HB7.out hB8)
    clear hB8 hG8 HR7 HG7 HB7
    go_wp2_with fail
    refine HSm.out.mono ?_
    rintro e w9 ⟨rfl, hB9⟩
    have HB9 := Lib.hid (below_trans' HB8.out hB9)
    go_wp2_with fail
    refine (fin13 HB9.out).mono ?_
    rintro e w10 ⟨rfl, hB10⟩
    go_wp2_with fail
    go_ret
    exact ⟨rfl, hB10⟩
end Go.Proofs.YthlpelfogplomaaGreat
