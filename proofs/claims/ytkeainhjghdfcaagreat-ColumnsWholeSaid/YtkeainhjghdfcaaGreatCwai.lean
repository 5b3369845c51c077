/- Joined texts: Cut NumA. -/
import Derived.Maps.RangeWalk
import Derived.Maps.OwnSet
import Derived.Test.YtkeainhjghdfcaaGreatCwag
import Derived.Test.YtkeainhjghdfcaaGreatCwah
import Derived.Test.YtkeainhjghdfcaaGreatCwab
import Derived.Test.YtkeainhjghdfcaaGreatCwad

/- ucd.cut: where truths may change. -/
namespace Go.Proofs.YtkeainhjghdfcaaGreat
open Go.RowKit
open Go.Maps (Keyed)

abbrev DU := DataW Unit
def hasI (D : DU) (n : Int) : Prop := Maps.has D (.int .i64 n) = true
theorem keyI {n : Int} (h : (Lit.int .i64 n).wf = true) : keyOf Tryz.prog 3 (.int .i64 n) = some (.int .i64 n) := by
  rw [keyOf_int Tryz.underlying3]; unfold mapKey; rw [Tryz.underlying3]; simp [h]
theorem wfI_of {n : Int} (h0 : 0 ≤ n) (h1 : n ≤ 1114112) : (Lit.int .i64 n).wf = true := by
  show (decide _ && decide _) = true
  rw [Bool.and_eq_true, decide_eq_true_eq, decide_eq_true_eq]
  exact ⟨Int.le_trans (by decide) h0, Int.le_trans h1 (by decide)⟩
theorem KI : Keyed Tryz.prog 3 := Maps.int_keyed Tryz.underlying3
theorem rb_true : (plainElem (H := Unit) Tryz.prog 4) (.bool true) = some (.lit (.bool true), []) := plainElem_bool Tryz.underlying4 true
theorem bool_inv {v : Value} {y : DU × List MemPlace} (h : (plainElem (H := Unit) Tryz.prog 4) v = some y) : ∃ c, v = .bool c := by
  cases v <;> simp [plainElem, Tryz.underlying4] at h ⊢

/-- what is to be found -/
def Need (F : Four) (k q : Nat) (n : Int) : Prop :=
  n = 0 ∨ (∃ j S, j < k ∧ F.all[j]? = some S ∧ ∃ s ∈ S, n = s.f ∨ n = s.t + 1) ∨ ∃ S j s, F.all[k]? = some S ∧ j < q ∧ S[j]? = some s ∧ (n = s.f ∨ n = s.t + 1)
structure CutD (F : Four) (k q : Nat) (D : DU) : Prop where
  inr : ∀ n, hasI D n → 0 ≤ n ∧ n ≤ 1114112
  need : ∀ n, Need F k q n → hasI D n
theorem hasI_put {D : DU} (hD : Maps.IsMap D) (x : Int) (u : DU) (n : Int) : hasI (D.put (.int .i64 x) u) n ↔ n = x ∨ hasI D n := by
  unfold hasI
  by_cases h : n = x
  · subst h
    simp [Maps.has_put_same hD (show WideAt.IsKeyLit (.int .i64 n) from trivial)]
  · rw [Maps.has_put_other (fun e => h (by injection e))]
    simp [h]
theorem CutD.zero (F : Four) {D : DU} (hD : Maps.IsMap D) (hn : ∀ n, ¬ hasI D n) (u : DU) : CutD F 0 0 (D.put (.int .i64 0) u) :=
  ⟨fun n h => by rcases (hasI_put hD 0 u n).1 h with rfl | h; omega; exact absurd h (hn n), fun n h => by
    rcases h with rfl | ⟨j, _, hj, _⟩ | ⟨_, j, _, _, hj, _⟩
    · exact (hasI_put hD 0 u 0).2 (.inl rfl)
    · omega
    · omega⟩
theorem CutD.step {F : Four} {k q : Nat} {D D2 : DU} (h : CutD F k q D) {S : List Span} {s : Span} (hS : F.all[k]? = some S) (hs : S[q]? = some s) (hok : okS s)
    (h1 : ∀ n, hasI D2 n ↔ n = s.f ∨ n = s.t + 1 ∨ hasI D n) : CutD F k (q + 1) D2 := by
  unfold okS at hok
  refine ⟨fun n hn => ?_, fun n hn => ?_⟩
  · rcases (h1 n).1 hn with rfl | rfl | hn
    · omega
    · omega
    · exact h.inr n hn
  · rcases hn with rfl | hn | ⟨S', j, s', e1, hj, e2, e3⟩
    · exact (h1 0).2 (.inr (.inr (h.need 0 (.inl rfl))))
    · exact (h1 n).2 (.inr (.inr (h.need n (.inr (.inl hn)))))
    · rw [hS] at e1
      cases e1
      by_cases hq : j = q
      · subst hq
        rw [hs] at e2
        cases e2
        rcases e3 with e3 | e3
        · exact (h1 n).2 (.inl e3)
        · exact (h1 n).2 (.inr (.inl e3))
      · exact (h1 n).2 (.inr (.inr (h.need n (.inr (.inr ⟨S, j, s', hS, by omega, e2, e3⟩)))))
theorem CutD.next {F : Four} {k : Nat} {D : DU} {S : List Span} (hS : F.all[k]? = some S) (h : CutD F k S.length D) : CutD F (k + 1) 0 D := by
  refine ⟨h.inr, fun n hn => ?_⟩
  rcases hn with rfl | ⟨j, S', hj, e1, s, hs, e2⟩ | ⟨_, j, _, _, hj, _⟩
  · exact h.need 0 (.inl rfl)
  · by_cases hjk : j = k
    · subst hjk
      rw [hS] at e1
      cases e1
      obtain ⟨i, hi⟩ := List.mem_iff_getElem?.1 hs
      exact h.need n (.inr (.inr ⟨S, i, s, hS, (List.getElem?_eq_some_iff.1 hi).1, hi, e2⟩))
    · exact h.need n (.inr (.inl ⟨j, S', by omega, e1, s, hs, e2⟩))
  · omega

def CutPost (F : Four) (w : World) (e : Ending) (w' : World) : Prop :=
  ∃ v' C, e = .returned v' ∧ Rs w'.heap.size w' ienc1 1 v' C ∧ Below w.heap.size w w' ∧ Cuts F C ∧ (∀ c ∈ C, 0 ≤ c ∧ c ≤ 1114112) ∧ C.length ≤ 10000000

theorem step_mput {H : Type} {P : Program} {w : World} {ops : Array Oper} {o : Oper} {a : Act} {K' : Act → World → Prop} {Q : Exit → Act → World → Prop} {F' : Prop}
    (hg : o.guard = none) (m x v : Operand) (t : TypeId) (hop : o.op = Op.mapUpdate t m x v)
    {k e : TypeId} (K : Keyed P k) (ht : P.underlying t = some (.map k e)) (R : Value → Option (DataW H × List MemPlace)) (b n : Nat) (D : DataW H)
    (hm : a.eval m = .map (some b)) (hown : w.ownsMap P k R b n D) (hn : n < maxLen) (key val : Value) (kl : Lit) (hx : a.eval x = key) (hv : a.eval v = val) (hkey : keyOf P k key = some kl)
    (d : DataW H) (ps : List MemPlace) (hval : R val = some (d, ps))
    (h : ∀ w', w'.ownsMap P k R b (n + 1) (D.put kl d) → w.grownBy w' (some b) → K' (a.put o.dst undef) w') :
    if Region.wanted o (yielded ops a.tmps) = true then Oper.wp P o a w K' Q else F' := by
  rw [if_pos (by simp [Region.wanted, hg])]
  obtain ⟨w', hrun, r1, r2⟩ := hown.update K ht hn hkey hval
  unfold Oper.wp
  simp [execOp, hop, hm, hx, hv, hrun, Result.andThen]
  exact h w' r1 r2

set_option maxRecDepth 100000 in
set_option maxHeartbeats 1000000 in
theorem cut_any (sb cp : Nat) (v0 v1 v2 v3 : Value) (F : Four) (w : World) (hc : ∀ k, k < 4 → w.cell? ⟨sb, k, none⟩ = (#[v0, v1, v2, v3] : Array Value)[k]?) (hF : FourIn w v0 v1 v2 v3 F) (hG : FourGood F) :
    Calls Tryz.prog 106 #[.slice (some ⟨sb, 0, none⟩) 4 cp] w (CutPost F w) := by
  have HF := Lib.hid hF
  have HG := Lib.hid hG
  have HC := Lib.hid hc
  have hsb : sb < w.heap.size := World.block_lt_of_cell? w _ (hc 0 (by decide))
  clear hF hG hc
  go_enter Tryz.func106, Tryz.ntmps106
  go_wp2_with fail
  refine upon_run (run_makeMap _ _) ?_
  go_wp2_with fail
  have hown := World.ownsMap_made w Tryz.prog 3 (plainElem (H := Unit) Tryz.prog 4)
  obtain ⟨w1, hr1, ho1, hg1⟩ := hown.update KI Tryz.underlying268 (by decide) (keyI (n := 0) rfl) rb_true
  refine upon_do hr1 ?_
  have HCut := Lib.hid (CutD.zero F (D := .map []) ⟨[], rfl⟩ (fun n h => by simp [hasI, Maps.has_eq] at h) (.lit (.bool true)))
  have HOwn := Lib.hid ho1
  have HB1 := Lib.hid ((((Below.refl w.heap.size w).alloc (Nat.le_refl _) (.map #[] 0)).trans ⟨hg1.os, hg1.tape, hg1.output, hg1.size, fun k hk => hg1.block k (Nat.lt_of_lt_of_le hk (by simp)) (fun e => by injection e; omega)⟩ : Below w.heap.size w w1))
  clear hown hr1 ho1 hg1
  go_wp2_with fail
  go_loopw [14] (fun iv wr => ∃ (k n : Nat) (D : DU), k ≤ 4 ∧ iv = .int .i64 ((k : Nat) : Int) ∧ Below w.heap.size w wr ∧ wr.ownsMap Tryz.prog 3 (plainElem (H := Unit) Tryz.prog 4) w.heap.size n D ∧ n ≤ 1 + 2228224 * k ∧ CutD F k 0 D) (fun iv _ => 4 - (intOf iv).toNat)
  case atStart => exact ⟨0, 1, _, Nat.zero_le _, rfl, HB1.out, HOwn.out, by omega, HCut.out⟩
  case round =>
    obtain ⟨k, n, D, hk, rfl, hB, hO, hn, hD⟩ := hrel
    have HB := Lib.hid hB
    have HO := Lib.hid hO
    have HD := Lib.hid hD
    have hbs := hB.size
    clear hB hO hD
    by_cases hlt : k < 4
    · obtain ⟨S, a, c, hS, hv, hin, hsc, hcm⟩ := HF.out.pick hlt
      have hcell := HC.out k hlt
      rw [hv] at hcell
      have hcr := cell_later HB.out hcell
      have HGS := Lib.hid (HG.out S (List.mem_of_getElem? hS))
      have hfew := good_few HGS.out
      have HS := Lib.hid hS
      unfold maxLen at hcm
      have HIn := Lib.hid hin
      clear hS hin hv hcell
      go_wp2_with fail
      clear hcr
      go_loopw [20] (fun iv wr => ∃ (q n : Nat) (D : DU), q ≤ S.length ∧ iv = .int .i64 ((q : Nat) : Int) ∧ Below w.heap.size w wr ∧ wr.ownsMap Tryz.prog 3 (plainElem (H := Unit) Tryz.prog 4) w.heap.size n D ∧ n ≤ 1 + 2228224 * k + 2 * q ∧ CutD F k q D) (fun iv _ => S.length - (intOf iv).toNat)
      case atStart => exact ⟨0, n, D, Nat.zero_le _, rfl, HB.out, HO.out, by omega, HD.out⟩
      case round =>
        obtain ⟨q, n, D, hq, rfl, hB2, hO, hn, hD⟩ := hrel
        have HB := Lib.hid hB2
        have HO := Lib.hid hO
        have HD := Lib.hid hD
        have hbs := hB2.size
        by_cases hlt2 : q < S.length
        · obtain ⟨x, hx⟩ : ∃ x, S[q]? = some x := ⟨S[q], List.getElem?_eq_getElem hlt2⟩
          have hmb := hO.lt
          obtain ⟨b, off, cap', hv, _, _, _, d0, d1, d2, d3⟩ := span_cells (HIn.out.below HB.out) hx
          cases hv
          have hox := HGS.out.ok x (List.mem_of_getElem? hx)
          have HOx := Lib.hid hox
          unfold okS at hox
          obtain ⟨o1, o2, o3⟩ := hox
          have HX := Lib.hid hx
          have e1 := IntWalk.i64_in (x.t + 1) (by omega)
          clear hx hB2 hO hD
          go_wp2_with fail
          have s0 : (wr.alloc (.cells #[.int .i64 x.f, .int .i64 x.t, .int .i64 x.a, .int .i64 x.b] 123)).cell? ⟨wr.heap.size, 0, none⟩ = some (.int .i64 x.f) := by go_simp
          have s1 : (wr.alloc (.cells #[.int .i64 x.f, .int .i64 x.t, .int .i64 x.a, .int .i64 x.b] 123)).cell? ⟨wr.heap.size, 1, none⟩ = some (.int .i64 x.t) := by go_simp
          have hoW := HO.out.alloc (.cells #[.int .i64 x.f, .int .i64 x.t, .int .i64 x.a, .int .i64 x.b] 123)
          have hBW := HB.out.alloc hbs (.cells #[.int .i64 x.f, .int .i64 x.t, .int .i64 x.a, .int .i64 x.b] 123)
          have hne : ¬ wr.heap.size = w.heap.size := by omega
          generalize wr.alloc (.cells #[.int .i64 x.f, .int .i64 x.t, .int .i64 x.a, .int .i64 x.b] 123) = W at s0 s1 hoW hBW ⊢
          have HoW := Lib.hid hoW
          have HBW := Lib.hid hBW
          have HoI := Lib.hid (World.ownsMap.isMap hoW)
          clear hoW hBW d0 d1 d2 d3
          refine wp_region_held_drew (S := fun w' => w'.cell? ⟨wr.heap.size, 0, none⟩ = some (.int .i64 x.f) ∧ w'.cell? ⟨wr.heap.size, 1, none⟩ = some (.int .i64 x.t)) (by kernel_rfl) ⟨s0, s1⟩ (fun hHeld => ?_)
          refine hd_take 0 rfl (by kernel_rfl) (by kernel_rfl) (by kernel_rfl) (fun _ _ _ h => h) (by rfl) (by intro w hSw; (try dsimp only at hSw); go_split_ands; go_simp; first | done | with_reducible rfl) hHeld ?_
          try simp only [Act.put, List.setIfInBounds_toArray, List.set_cons_zero, List.set_cons_succ]
          refine hd_take 1 rfl (by kernel_rfl) (by kernel_rfl) (by kernel_rfl) (fun _ _ _ h => h) (by rfl) (by intro w hSw; (try dsimp only at hSw); go_split_ands; go_simp; first | done | with_reducible rfl) hHeld ?_
          try simp only [Act.put, List.setIfInBounds_toArray, List.set_cons_zero, List.set_cons_succ]
          refine hd_take 2 rfl (by kernel_rfl) (by kernel_rfl) (by kernel_rfl) (fun _ _ _ h => h) (by rfl) (by intro w hSw; (try dsimp only at hSw); go_split_ands; go_simp; first | done | with_reducible rfl) hHeld ?_
          try simp only [Act.put, List.setIfInBounds_toArray, List.set_cons_zero, List.set_cons_succ]
          refine hd_take 3 rfl (by kernel_rfl) (by kernel_rfl) (by kernel_rfl) (fun _ _ _ h => h) (by rfl) (by intro w hSw; (try dsimp only at hSw); go_split_ands; go_simp; first | done | with_reducible rfl) hHeld ?_
          try simp only [Act.put, List.setIfInBounds_toArray, List.set_cons_zero, List.set_cons_succ]
          refine hd_take 4 rfl (by kernel_rfl) (by kernel_rfl) (by kernel_rfl) (fun _ _ _ h => h) (by rfl) (by intro w hSw; (try dsimp only at hSw); go_split_ands; go_simp; first | done | with_reducible rfl) hHeld ?_
          try simp only [Act.put, List.setIfInBounds_toArray, List.set_cons_zero, List.set_cons_succ]
          refine hd_take 5 rfl (by kernel_rfl) (by kernel_rfl) (by kernel_rfl) (fun _ _ _ h => h) (by rfl) (by intro w hSw; (try dsimp only at hSw); go_split_ands; go_simp; first | done | with_reducible rfl) hHeld ?_
          try simp only [Act.put, List.setIfInBounds_toArray, List.set_cons_zero, List.set_cons_succ]
          refine hd_take 6 rfl (by kernel_rfl) (by kernel_rfl) (by kernel_rfl) (fun _ _ _ h => h) (by rfl) (by intro w hSw; (try dsimp only at hSw); go_split_ands; go_simp; first | done | with_reducible rfl) hHeld ?_
          try simp only [Act.put, List.setIfInBounds_toArray, List.set_cons_zero, List.set_cons_succ]
          refine hd_step 7 (by kernel_rfl) rfl (fun K hK => ?_)
          refine step_mput rfl (.tmp 24) (.tmp 26) (.const (.bool true)) _ rfl KI Tryz.underlying268 _ w.heap.size (n) (D) rfl (World.ownsMap.drew HoW.out) (by unfold maxLen; omega) (.int .i64 (x.f)) (.bool true) (.int .i64 (x.f)) rfl rfl (keyI (wfI_of (by omega) (by omega))) (.lit (.bool true)) [] rb_true ?_
          intro w2 ho2 hg2
          refine hK.out _ _ ⟨(hg2.cell (a := ⟨wr.heap.size, 0, none⟩) hHeld.1 (fun e => hne (by injection e))), (hg2.cell (a := ⟨wr.heap.size, 1, none⟩) hHeld.2 (fun e => hne (by injection e)))⟩ (fun hHeld => ?_)
          clear hK K
          try simp only [Act.put]
          refine hd_step 8 (by kernel_rfl) rfl (fun K hK => ?_)
          refine step_mput rfl (.tmp 27) (.tmp 30) (.const (.bool true)) _ rfl KI Tryz.underlying268 _ w.heap.size (n + 1) (D.put (.int .i64 (x.f)) (.lit (.bool true))) rfl ho2 (by unfold maxLen; omega) (.int .i64 (x.t + 1)) (.bool true) (.int .i64 (x.t + 1)) rfl rfl (keyI (wfI_of (by omega) (by omega))) (.lit (.bool true)) [] rb_true ?_
          intro w3 ho3 hg3
          have HIff := Lib.hid (fun n => (hasI_put (World.ownsMap.isMap ho2) (x.t + 1) (.lit (.bool true)) n).trans (or_congr Iff.rfl (hasI_put HoI.out (x.f) (.lit (.bool true)) n)))
          have HCD := Lib.hid (HD.out.step HS.out HX.out HOx.out (fun n => (HIff.out n).trans (by constructor <;> (rintro (h | h | h) <;> simp [h]))))
          all_goals
            have HB3 := Lib.hid (HBW.out.trans (show Below w.heap.size W w3 from ⟨hg3.os.trans hg2.os, hg3.tape.trans hg2.tape, hg3.output.trans hg2.output, Nat.le_trans hg2.size hg3.size, fun k hk => (hg3.block k (Nat.lt_of_lt_of_le (Nat.lt_of_lt_of_le hk HBW.out.size) hg2.size) (fun e => by injection e; omega)).trans (hg2.block k (Nat.lt_of_lt_of_le hk HBW.out.size) (fun e => by injection e; omega))⟩))
            have HO3 := Lib.hid ho3
            refine hK.out _ _ ⟨(hg3.cell (a := ⟨wr.heap.size, 0, none⟩) hHeld.1 (fun e => hne (by injection e))), (hg3.cell (a := ⟨wr.heap.size, 1, none⟩) hHeld.2 (fun e => hne (by injection e)))⟩ (fun hHeld => ?_)
            clear hK K ho2 ho3 hg2 hg3
            try simp only [Act.put]
            refine wpAnyH_done (by kernel_rfl) ?_ _
            clear hHeld s0 s1
            go_wp2_with fail
            go_roundw
            case rel => exact ⟨q + 1, n + 1 + 1, _, by omega, by go_num, HB3.out, HO3.out, by omega, HCD.out⟩
            case measure => simp [intOf]; omega
        · have hqe : q = S.length := by omega
          subst hqe
          have HD2 := Lib.hid (HD.out.next HS.out)
          go_wp2_with fail
          go_roundw
          case rel => exact ⟨k + 1, n, D, by omega, by go_num, HB.out, HO.out, by omega, HD2.out⟩
          case measure => simp [intOf]; omega
    · have hke : k = 4 := by omega
      subst hke
      obtain ⟨w4, hr4, hrg4, hg4, hs4⟩ := HO.out.range KI Tryz.underlying268
      have HR4 := Lib.hid hr4
      have HRg := Lib.hid hrg4
      have HB4 := Lib.hid (HB.out.trans (show Below w.heap.size wr w4 from ⟨hg4.os, hg4.tape, hg4.output, hg4.size, fun k hk => hg4.block k (Nat.lt_of_lt_of_le hk hbs) (by simp)⟩))
      have hsz := HO.out.size_le
      clear hr4 hrg4 hg4
      go_wp2_with fail
      refine upon_run HR4.out ?_
      clear HR4
      go_wp2_with fail
      generalize wr.heap.size = ib at HRg hs4 hbs ⊢
      go_loopw [8] (fun cv wr => ∃ (left : Lit → Bool) (cnt : Nat) (C : List Int), wr.ranges Tryz.prog 3 (plainElem (H := Unit) Tryz.prog 4) w.heap.size ib n D left cnt ∧ Below w.heap.size w wr ∧ wr.ownsRow w4.heap.size 3 1 cv C.length (C.map (fun c : Int => Value.int .i64 c)) ∧ C.length + cnt ≤ n ∧ w4.heap.size ≤ wr.heap.size ∧ (∀ c ∈ C, 0 ≤ c ∧ c ≤ 1114112) ∧ (∀ c : Int, left (.int .i64 c) = true → hasI D c) ∧ (∀ c : Int, hasI D c → left (.int .i64 c) = true ∨ c ∈ C)) (fun _ wr => wr.rangeLeft w.heap.size ib)
      case atStart => exact ⟨_, _, [], HRg.out, HB4.out, World.ownsRow_nil _ _ _ _, by simpa using hsz, Nat.le_refl _, by simp, fun _ h => h, fun _ h => .inl h⟩
      case round =>
        obtain ⟨left, cnt, C, hrg, hB, hO, hcn, hw4, hC, hl1, hl2⟩ := hrel
        have HRg := Lib.hid hrg
        have HB := Lib.hid hB
        have HOc := Lib.hid hO
        have HC1 := Lib.hid hC
        have HL1 := Lib.hid hl1
        have HL2 := Lib.hid hl2
        clear hrg hB hO hC hl1 hl2
        rcases HRg.out.next KI 0 with ⟨hc0, hl0, hrun⟩ | ⟨key, vv, kl, y, w5, cnt5, hkey, hlk, hvv, hat, hrun, hrg5, hlt5, hg5, hs5, hen5⟩
        · have HRun := Lib.hid hrun
          have HL0 := Lib.hid hl0
          clear hrun hl0
          go_wp2_with fail
          refine upon_run HRun.out ?_
          go_wp2_with fail
          go_ret
          refine ⟨_, C, rfl, ?_, HB.out, ?_, HC1.out, by omega⟩
          · have := rd_of_owns HOc.out
            rw [List.map_eq_flatMap] at this
            exact this
          · have hin : ∀ n, Need F 4 0 n → n ∈ C := fun n hn => (HL2.out n (HD.out.need n hn)).resolve_left (by rw [HL0.out]; simp)
            have hall : ∀ S ∈ F.all, ∃ j, j < 4 ∧ F.all[j]? = some S := fun S hS => by
              obtain ⟨j, hj⟩ := List.mem_iff_getElem?.1 hS
              exact ⟨j, (List.getElem?_eq_some_iff.1 hj).1, hj⟩
            exact ⟨hin 0 (.inl rfl), fun S hS s hs => let ⟨j, h1, h2⟩ := hall S hS; hin _ (.inr (.inl ⟨j, S, h1, h2, s, hs, .inl rfl⟩)), fun S hS s hs => let ⟨j, h1, h2⟩ := hall S hS; hin _ (.inr (.inl ⟨j, S, h1, h2, s, hs, .inr rfl⟩))⟩
        · obtain ⟨x, rfl, rfl, hwx⟩ := Maps.keyOf_int_inv Tryz.underlying3 hkey
          obtain ⟨c, rfl⟩ := bool_inv hvv
          have HRun := Lib.hid hrun
          have HEn := Lib.hid hen5
          have HRg5 := Lib.hid hrg5
          have HLk := Lib.hid hlk
          have HB5 := Lib.hid (HB.out.trans (show Below w.heap.size wr w5 from ⟨hg5.os, hg5.tape, hg5.output, hg5.size, fun k hk => hg5.block k (Nat.lt_of_lt_of_le hk HB.out.size) (fun e => by injection e; omega)⟩))
          have HO5 := Lib.hid (HOc.out.kept hg5 (.inr fun e => by have := (HOc.out.lt _ e).1; omega))
          obtain ⟨ca, cc, rfl⟩ := slice_of_owns HOc.out
          have hw5 : w4.heap.size ≤ w5.heap.size := by omega
          have HS5 := Lib.hid hs5
          clear hrun hen5 hrg5 hlk hat hvv hkey hs5 hg5
          go_wp2_with fail
          refine upon_run HRun.out ?_
          go_wp2_with fail
          refine upon_run HEn.out ?_
          go_wp2_with (at_builtin; refine wpList_app1 _ rfl (.tmp 39) (.tmp 41) _ rfl Eidx _ _ _ rfl HO5.out 1 1 [.int .i64 x] rfl (by decide) rfl (one_nat _) (by omega) hw5 ?_; intro g cap w6 ho6 hg6 hf6)
          have HB6 := Lib.hid (below_app HB5.out (Nat.le_trans (Nat.le_of_lt (by have := HB4.out.size; omega)) hw5) HO5.out (HB4.out.size) hg6)
          have HRg6 := Lib.hid (HRg5.out.kept hg6 (fun e => by have := (HO5.out.lt _ e.symm).1; have := HB4.out.size; omega) (fun e => by have := (HO5.out.lt _ e.symm).1; omega))
          have hsz6 := hg6.size
          have HO6 := Lib.hid ho6
          clear ho6 hg6 hf6
          go_roundw
          case rel =>
            refine ⟨_, cnt5, C ++ [x], HRg6.out, HB6.out, ?_, by simp; omega, by omega, ?_, ?_, ?_⟩
            · rw [List.length_append, List.map_append]
              exact HO6.out
            · intro c hc
              rcases List.mem_append.1 hc with hc | hc
              · exact HC1.out c hc
              · cases List.mem_singleton.1 hc
                exact HD.out.inr _ (HL1.out _ HLk.out)
            · intro c hc
              exact HL1.out c (by simp only [Bool.and_eq_true] at hc; exact hc.1)
            · intro c hc
              by_cases hcx : c = x
              · exact .inr (by rw [hcx]; simp)
              · rcases HL2.out c hc with hl | hl
                · refine .inl ?_
                  simp only [Bool.and_eq_true]
                  refine ⟨hl, ?_⟩
                  simp [Lit.sameKey, hcx]
                · exact .inr (List.mem_append_left _ hl)
          case measure =>
            rw [HRg6.out.left_eq, HRg.out.left_eq]
            exact hlt5
end Go.Proofs.YtkeainhjghdfcaaGreat

/- ucd.numbers: a trie of a kind's values. -/
namespace Go.Proofs.YtkeainhjghdfcaaGreat
open Go.RowKit

theorem Epi : ElemT Tryz.prog 180 182 3 24 := elemT_of (by kernel_rfl) (z := .agg #[.int .i64 0, .int .i64 0, .int .i64 0]) (by kernel_rfl) rfl (by decide) (by decide)
theorem pienc_one (p : Pc Int) : ∀ u ∈ pienc p, u.oneCell' = true := by intro u hu; simp [pienc] at hu; rcases hu with rfl | rfl | rfl <;> rfl
def TriePost {α : Type} (enc : α → List Value) (sz : Nat) (g : Int → α) (w : World) (e : Ending) (w' : World) : Prop :=
  ∃ tb, e = .returned (.pointer (some ⟨tb, 0, none⟩)) ∧ w.heap.size ≤ tb ∧ Below w.heap.size w w' ∧ TrieAt enc sz g w'.heap.size w' tb
theorem pcOf_take {α : Type} (val : Span → α) {S : List Span} {k : Nat} {x : Span} (hx : S[k]? = some x) : pcOf val (S.take (k + 1)) = pcOf val (S.take k) ++ [⟨x.f, x.t, val x⟩] := by
  rw [List.take_add_one, hx]; exact pcOf_snoc _ _ _
theorem pcOf_len {α : Type} (val : Span → α) (S : List Span) : (pcOf val S).length = S.length := by simp [pcOf]

set_option maxRecDepth 100000 in
set_option maxHeartbeats 1000000 in
theorem numbers_any (v : Value) (R : List Rw) (kind : Int) (w : World) (hR : RowsIn w v R) (hok : RowsOk R) :
    Calls Tryz.prog 65 #[v, .int .i64 kind] w (TriePost ienc1 1 (ofA R kind) w) := by
  have HR := Lib.hid hR
  have HOk := Lib.hid hok
  clear hR hok
  go_enter Tryz.func65, Tryz.ntmps65
  go_wp2_with fail
  refine (ofSpans_any v R kind w HR.out).mono ?_
  rintro e w1 ⟨sv, S, rfl, hO, hB1, hG, hS⟩
  have HS := Lib.hid hS
  have HG := Lib.hid hG
  have HB1 := Lib.hid hB1
  have HIn := Lib.hid hO.in
  have hfew := good_few hG
  have hb1 := hB1.size
  obtain ⟨sa, sc, rfl⟩ := slice_of_owns hO
  clear hS hG hB1 hO
  go_wp2_with fail
  go_loopw [5, 12] (fun pv' iv wr => ∃ k : Nat, k ≤ S.length ∧ iv = .int .i64 ((k : Nat) : Int) ∧ Below w1.heap.size w1 wr ∧ wr.ownsRow w1.heap.size 182 3 pv' (pcOf (fun s => s.a) (S.take k)).length ((pcOf (fun s => s.a) (S.take k)).flatMap pienc)) (fun _ iv _ => S.length - (intOf iv).toNat)
  case atStart => exact ⟨0, Nat.zero_le _, rfl, .refl _ _, World.ownsRow_nil _ _ _ _⟩
  case round =>
    obtain ⟨k, hk, rfl, hB, hO⟩ := hrel
    have HO := Lib.hid hO
    have HB := Lib.hid hB
    have hbs := hB.size
    by_cases hlt : k < S.length
    · obtain ⟨x, hx⟩ : ∃ x, S[k]? = some x := ⟨S[k], List.getElem?_eq_getElem hlt⟩
      obtain ⟨b, off, cap', hv, _, _, _, d0, d1, d2, d3⟩ := span_cells (HIn.out.below hB) hx
      cases hv
      have HJ := Lib.hid (pcOf_take (fun s => s.a) hx)
      have hlen := pcOf_len (fun s => s.a) (S.take k)
      rw [List.length_take] at hlen
      obtain ⟨pa, pc, rfl⟩ := slice_of_owns hO
      clear hx hO hB
      generalize hP : pcOf (fun s => s.a) (S.take k) = P at HO HJ hlen ⊢
      clear hP
      have HOa := Lib.hid (World.ownsRow.alloc HO.out (.cells #[.int .i64 x.f, .int .i64 x.t, .int .i64 x.a, .int .i64 x.b] 123))
      have HBa := Lib.hid (HB.out.alloc hbs (.cells #[.int .i64 x.f, .int .i64 x.t, .int .i64 x.a, .int .i64 x.b] 123))
      have hbl : w1.heap.size ≤ (wr.alloc (.cells #[.int .i64 x.f, .int .i64 x.t, .int .i64 x.a, .int .i64 x.b] 123)).heap.size := HBa.out.size
      have HSz := Lib.hid (show (wr.alloc (.cells #[.int .i64 x.f, .int .i64 x.t, .int .i64 x.a, .int .i64 x.b] 123)).heap.size = wr.heap.size + 1 by simp)
      go_wp2_with (at_builtin; refine wpList_app1 _ rfl (.tmp 16) (.tmp 24) _ rfl Epi _ _ _ rfl HOa.out 1 1 (pienc ⟨x.f, x.t, x.a⟩) (by rw [HSz.out]; rfl) (by decide) rfl (pienc_one _) (by omega) hbl ?_; intro g cap w4 ho4 hg4 hf4)
      have HB1 := Lib.hid (below_app HBa.out hbl HOa.out (Nat.le_refl _) hg4)
      have HO1 := Lib.hid ho4
      clear ho4 hg4 hf4
      go_roundw
      case rel => exact ⟨k + 1, by omega, by go_num, HB1.out, by
                    have ho := HO1.out
                    have hpk : P.length = k := by omega
                    rw [hpk] at ho
                    rw [HJ.out, flat_snoc, List.length_append, hpk]; exact ho⟩
      case measure => simp [intOf]; omega
    · have hke : k = S.length := by omega
      subst hke
      clear HO
      rw [List.take_length] at hO
      have hRp : Rs wr.heap.size wr pienc 3 u5 (pcOf (fun s => s.a) S) := rd_of_owns hO
      have HB2 := Lib.hid (below_trans' HB1.out hB)
      have hcall := build_int u5 (pcOf (fun s => s.a) S) 0 wr hRp (by rfl) (by
        intro p hp
        obtain ⟨s, hs, rfl⟩ := List.mem_map.1 hp
        exact (HS.out.ok HG.out HOk.out s hs).1) (good_few_f HG.out _)
      have HC := Lib.hid hcall
      clear hcall hRp hO hB
      go_wp2_with fail
      refine HC.out.mono ?_
      rintro e w2 ⟨tb, rfl, htb, hB3, mb, kb, eb, v1, v2, ks, bl, hM, hT⟩
      have hfin : TriePost ienc1 1 (ofA R kind) w (.returned (.pointer (some ⟨tb, 0, none⟩))) w2 := ⟨tb, rfl, Nat.le_trans HB2.out.size htb, below_trans' HB2.out hB3, trieAt_of_build hM (hT.congr fun r _ _ => pv_ofA HS.out r)⟩
      have HF := Lib.hid hfin
      clear hfin hM hT hB3
      go_wp2_with fail
      go_ret
      exact HF.out
end Go.Proofs.YtkeainhjghdfcaaGreat
