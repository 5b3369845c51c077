/- Joined texts: Upto. -/
import Derived.Test.YtkeainhjghdfcaaGreatCwad
import Derived.Test.YtkeainhjghdfcaaGreatCwab
import Derived.Test.YtkeainhjghdfcaaGreatCwaa
import Derived.Test.YtkeainhjghdfcaaGreatCwaf

/- ucd.upto. -/
namespace Go.Proofs.YtkeainhjghdfcaaGreat
open Go.RowKit

theorem uptoS_drop {a : Int} {S : List Span} {k : Nat} {x : Span} (hx : S[k]? = some x) (last : Int) : uptoS a (S.drop k) last = uptoS a (S.drop (k + 1)) (if a < x.f ∧ x.f ≤ last then x.f - 1 else last) := by
  obtain ⟨h1, h2⟩ := List.getElem?_eq_some_iff.1 hx
  rw [List.drop_eq_getElem_cons h1, h2]; rfl
/-- the four kinds' spans -/
structure FourIn (w : World) (v0 v1 v2 v3 : Value) (F : Four) : Prop where
  i0 : SpansIn w v0 F.s0
  i1 : SpansIn w v1 F.s1
  i2 : SpansIn w v2 F.s2
  i3 : SpansIn w v3 F.s3
def FourGood (F : Four) : Prop := ∀ S ∈ F.all, Good S
theorem FourIn.below {w w' : World} {v0 v1 v2 v3 : Value} {F : Four} (h : FourIn w v0 v1 v2 v3 F) (hb : Below w.heap.size w w') : FourIn w' v0 v1 v2 v3 F := ⟨h.i0.below hb, h.i1.below hb, h.i2.below hb, h.i3.below hb⟩
theorem slice_of_in {w : World} {v : Value} {S : List Span} (h : SpansIn w v S) : ∃ a c, v = .slice a S.length c ∧ S.length ≤ c ∧ c ≤ maxLen := by
  obtain ⟨a, c, rfl, h1, h2, _⟩ := h
  exact ⟨a, c, rfl, h1, h2⟩

theorem FourIn.pick {w : World} {v0 v1 v2 v3 : Value} {F : Four} (h : FourIn w v0 v1 v2 v3 F) {k : Nat} (hk : k < 4) : ∃ S a c, F.all[k]? = some S ∧ (#[v0, v1, v2, v3] : Array Value)[k]? = some (.slice a S.length c) ∧ SpansIn w (.slice a S.length c) S ∧ S.length ≤ c ∧ c ≤ maxLen := by
  obtain ⟨a0, c0, rfl, l0, m0⟩ := slice_of_in h.i0
  obtain ⟨a1, c1, rfl, l1, m1⟩ := slice_of_in h.i1
  obtain ⟨a2, c2, rfl, l2, m2⟩ := slice_of_in h.i2
  obtain ⟨a3, c3, rfl, l3, m3⟩ := slice_of_in h.i3
  rcases (by omega : k = 0 ∨ k = 1 ∨ k = 2 ∨ k = 3) with rfl | rfl | rfl | rfl
  · exact ⟨_, a0, c0, rfl, rfl, h.i0, l0, m0⟩
  · exact ⟨_, a1, c1, rfl, rfl, h.i1, l1, m1⟩
  · exact ⟨_, a2, c2, rfl, rfl, h.i2, l2, m2⟩
  · exact ⟨_, a3, c3, rfl, rfl, h.i3, l3, m3⟩
set_option maxRecDepth 100000 in
set_option maxHeartbeats 1000000 in
theorem upto_any (at' last0 : Int) (v0 v1 v2 v3 : Value) (F : Four) (w : World) (hF : FourIn w v0 v1 v2 v3 F) (hG : FourGood F) :
    Calls Tryz.prog 108 #[.int .i64 at', .int .i64 last0, .agg #[v0, v1, v2, v3]] w fun e w' => e = .returned (.int .i64 (uptoL at' F.all last0)) ∧ Below w.heap.size w w' := by
  have HF := Lib.hid hF
  have HG := Lib.hid hG
  clear hF hG
  go_enter Tryz.func108, Tryz.ntmps108
  go_wp2_with fail
  go_loopw [1, 12] (fun lv iv wr => ∃ (k : Nat) (last : Int), k ≤ 4 ∧ iv = .int .i64 ((k : Nat) : Int) ∧ lv = .int .i64 last ∧ Below w.heap.size w wr ∧ uptoL at' (F.all.drop k) last = uptoL at' F.all last0) (fun _ iv _ => 4 - (intOf iv).toNat)
  case atStart => exact ⟨0, last0, Nat.zero_le _, rfl, rfl, (Below.refl w.heap.size w).alloc (Nat.le_refl _) _, rfl⟩
  case round =>
    obtain ⟨k, last, hk, rfl, rfl, hB, hE⟩ := hrel
    have HB := Lib.hid hB
    have HE := Lib.hid hE
    have hbs := hB.size
    clear hB hE
    by_cases hlt : k < 4
    · obtain ⟨S, a, c, hS, hv, hin, hsc, hcm⟩ := HF.out.pick hlt
      have HStep := Lib.hid (show uptoL at' (F.all.drop k) last = uptoL at' (F.all.drop (k + 1)) (uptoS at' S last) by
        obtain ⟨h1, h2⟩ := List.getElem?_eq_some_iff.1 hS
        rw [List.drop_eq_getElem_cons h1, h2]; rfl)
      have HIn := Lib.hid (hin.below HB.out)
      have HGS := Lib.hid (HG.out S (List.mem_of_getElem? hS))
      unfold maxLen at hcm
      clear hS hin
      go_wp2_with fail
      refine upon_run (run_index1 _ Tryz.underlying185 hlt Tryz.sizeOf120 Tryz.isAgg120 hv) ?_
      clear hv
      go_wp2_with fail
      obtain ⟨W0, hW0⟩ : ∃ W0, W0 = wr := ⟨_, rfl⟩
      subst hW0
      go_loopw [1, 17] (fun lv iv wr => ∃ (q : Nat) (last' : Int), q ≤ S.length ∧ iv = .int .i64 ((q : Nat) : Int) ∧ lv = .int .i64 last' ∧ Below W0.heap.size W0 wr ∧ uptoS at' (S.drop q) last' = uptoS at' S last) (fun _ iv _ => S.length - (intOf iv).toNat)
      case atStart => exact ⟨0, last, Nat.zero_le _, rfl, rfl, .refl _ _, rfl⟩
      case round =>
        obtain ⟨q, last', hq, rfl, rfl, hB2, hE2⟩ := hrel
        have HB2 := Lib.hid hB2
        have HE2 := Lib.hid hE2
        have hbs2 := hB2.size
        by_cases hlt2 : q < S.length
        · obtain ⟨x, hx⟩ : ∃ x, S[q]? = some x := ⟨S[q], List.getElem?_eq_getElem hlt2⟩
          obtain ⟨b, off, cap', hv, _, _, _, d0, d1, d2, d3⟩ := span_cells (HIn.out.below hB2) hx
          cases hv
          have hox := HGS.out.ok x (List.mem_of_getElem? hx)
          unfold okS at hox
          obtain ⟨o1, o2, o3⟩ := hox
          have HU := Lib.hid (uptoS_drop hx last' (a := at'))
          clear hx hB2 hE2
          have e1 := IntWalk.i64_in (x.f - 1) (by omega)
          by_cases h1 : at' < x.f
          · have p1 : x.f > at' := h1
            by_cases h2 : x.f ≤ last'
            · have HN := Lib.hid (show uptoS at' (S.drop (q + 1)) (x.f - 1) = uptoS at' S last by rw [← HE2.out, HU.out, if_pos ⟨h1, h2⟩])
              clear h1
              go_wp2
              go_roundw
              case rel => exact ⟨q + 1, x.f - 1, by omega, by go_num, rfl, HB2.out.alloc hbs2 _, HN.out⟩
              case measure => simp [intOf]; omega
            · have HN := Lib.hid (show uptoS at' (S.drop (q + 1)) last' = uptoS at' S last by rw [← HE2.out, HU.out, if_neg (fun h => h2 h.2)])
              have p2 : decide (x.f ≤ last') = false := by rw [decide_eq_false_iff_not]; exact h2
              clear h1 h2
              go_wp2
              go_roundw
              case rel => exact ⟨q + 1, last', by omega, by go_num, rfl, HB2.out.alloc hbs2 _, HN.out⟩
              case measure => simp [intOf]; omega
          · have HN := Lib.hid (show uptoS at' (S.drop (q + 1)) last' = uptoS at' S last by rw [← HE2.out, HU.out, if_neg (fun h => h1 h.1)])
            have p2 : decide (x.f > at') = false := by rw [decide_eq_false_iff_not]; exact h1
            clear h1
            go_wp2
            go_roundw
            case rel => exact ⟨q + 1, last', by omega, by go_num, rfl, HB2.out.alloc hbs2 _, HN.out⟩
            case measure => simp [intOf]; omega
        · have HN := Lib.hid (show uptoL at' (F.all.drop (k + 1)) last' = uptoL at' F.all last0 by
            rw [← HE.out, HStep.out, ← HE2.out, show S.drop q = [] from List.drop_of_length_le (by omega)]; rfl)
          have HB3 := Lib.hid (below_trans' HB.out hB2)
          clear hB2 hE2
          go_wp2
          go_roundw
          case rel => exact ⟨k + 1, last', by omega, by go_num, rfl, HB3.out, HN.out⟩
          case measure => simp [intOf]; omega
    · have HR := Lib.hid (show uptoL at' F.all last0 = last by rw [← HE.out, List.drop_of_length_le (by show 4 ≤ k; omega)]; rfl)
      go_wp2_with fail
      go_ret
      exact ⟨by rw [HR.out]; rfl, HB.out⟩
end Go.Proofs.YtkeainhjghdfcaaGreat
