/- Joined texts: WordP WordA WordB. -/
import Derived.WalkMore
import Derived.ScopeJumps
import Derived.Test.YtpgeccgfkcjcoaaZdaa
/- Words, plainly. -/
namespace Go.Proofs.Ytpgeccgfkcjcoaa

/-- is the scalar at a place a letter? -/
def insR (R : List Rw) (s : List Int) (i : Nat) : Bool := match s[i]? with
  | some x => decide (ofA R 8 x = 1)
  | none => false
theorem insR_some {R : List Rw} {s : List Int} {i : Nat} {x : Int} (h : s[i]? = some x) : insR R s i = decide (ofA R 8 x = 1) := by unfold insR; rw [h]
theorem insR_big {R : List Rw} {s : List Int} {i : Nat} (h : s.length ≤ i) : insR R s i = false := by unfold insR; rw [List.getElem?_eq_none h]
theorem insR_lt {R : List Rw} {s : List Int} {i : Nat} (h : insR R s i = true) : i < s.length := by
  by_cases hi : i < s.length
  · exact hi
  · rw [insR_big (by omega)] at h; cases h
def nxt (T : Tab) (s : List Int) (b : Nat) : Nat := b + nx T (s.drop b)
theorem nxt_gt (T : Tab) {s : List Int} {b : Nat} (h : b < s.length) : b < nxt T s b := by
  have := nx_pos T (s := s.drop b) (fun e => by have := congrArg List.length e; rw [List.length_drop] at this; simp at this; omega)
  unfold nxt; omega
theorem nxt_le (T : Tab) {s : List Int} {b : Nat} (h : b ≤ s.length) : nxt T s b ≤ s.length := by
  have := nx_le T (s.drop b); rw [List.length_drop] at this
  unfold nxt; omega

section
variable (n : Nat) (nt : Nat → Nat) (ins : Nat → Bool)
/-- where a run of parts of words ends -/
def runE (b : Nat) : Nat := if h : b < n ∧ b < nt b ∧ ins b = true then runE (nt b) else b
termination_by n - b
decreasing_by omega
/-- where the next part of a word is -/
def skp (b : Nat) : Nat := if h : b < n ∧ b < nt b ∧ ins b = false then skp (nt b) else b
termination_by n - b
decreasing_by omega
/-- the words from a place on -/
def wrds (b : Nat) : List (Nat × Nat) := if h : b < n ∧ b < runE n nt ins b then (b, runE n nt ins b) :: wrds (runE n nt ins b) else if h2 : b < n ∧ b < nt b then wrds (nt b) else []
termination_by n - b
decreasing_by all_goals omega
def upd (out : List (Nat × Nat)) (a e : Nat) : List (Nat × Nat) := match out.getLast? with
  | some y => if y.2 = a then out.dropLast ++ [(y.1, e)] else out ++ [(a, e)]
  | none => out ++ [(a, e)]
/-- the words, cluster by cluster -/
def refW (out : List (Nat × Nat)) (b : Nat) : List (Nat × Nat) := if h : b < n ∧ b < nt b then (if ins b = true then refW (upd out b (nt b)) (nt b) else refW out (nt b)) else out
termination_by n - b
decreasing_by all_goals omega
end
section
variable {n : Nat} {nt : Nat → Nat} {ins : Nat → Bool} {b : Nat}
theorem runE_step (h1 : b < n) (h2 : b < nt b) (h3 : ins b = true) : runE n nt ins b = runE n nt ins (nt b) := by rw [runE, dif_pos ⟨h1, h2, h3⟩]
theorem runE_stop (h : ins b = false) : runE n nt ins b = b := by rw [runE, dif_neg (fun e => by rw [h] at e; cases e.2.2)]
theorem runE_end (h : ¬ b < n) : runE n nt ins b = b := by rw [runE, dif_neg (fun e => h e.1)]
theorem skp_step (h1 : b < n) (h2 : b < nt b) (h3 : ins b = false) : skp n nt ins b = skp n nt ins (nt b) := by rw [skp, dif_pos ⟨h1, h2, h3⟩]
theorem skp_stop (h : ins b = true) : skp n nt ins b = b := by rw [skp, dif_neg (fun e => by rw [h] at e; cases e.2.2)]
theorem skp_end (h : ¬ b < n) : skp n nt ins b = b := by rw [skp, dif_neg (fun e => h e.1)]
theorem runE_ge : ∀ m, ∀ b, n - b = m → b ≤ runE n nt ins b := by
  intro m
  induction m using Nat.strongRecOn with
  | _ m ih =>
    intro b hm
    rw [runE]
    split
    · rename_i h
      have := ih (n - nt b) (by omega) (nt b) rfl
      omega
    · exact Nat.le_refl _
theorem runE_gt (h1 : b < n) (h2 : b < nt b) (h3 : ins b = true) : b < runE n nt ins b := by
  rw [runE_step h1 h2 h3]
  have := runE_ge (n := n) (nt := nt) (ins := ins) _ (nt b) rfl
  omega
theorem wrds_in (h1 : b < n) (h2 : b < nt b) (h3 : ins b = true) : wrds n nt ins b = (b, runE n nt ins b) :: wrds n nt ins (runE n nt ins b) := by
  rw [wrds, dif_pos ⟨h1, runE_gt h1 h2 h3⟩]
theorem wrds_out (h1 : b < n) (h2 : b < nt b) (h3 : ins b = false) : wrds n nt ins b = wrds n nt ins (nt b) := by
  rw [wrds, dif_neg (fun e => by rw [runE_stop h3] at e; omega), dif_pos ⟨h1, h2⟩]
theorem wrds_end (h : ¬ b < n) : wrds n nt ins b = [] := by
  rw [wrds, dif_neg (fun e => h e.1), dif_neg (fun e => h e.1)]
theorem upd_nil (a e : Nat) : upd [] a e = [(a, e)] := rfl
theorem upd_same (o : List (Nat × Nat)) (f a e : Nat) : upd (o ++ [(f, a)]) a e = o ++ [(f, e)] := by
  unfold upd; rw [List.getLast?_concat, List.dropLast_concat]; simp
theorem upd_other (o : List (Nat × Nat)) (f a' a e : Nat) (h : a' ≠ a) : upd (o ++ [(f, a')]) a e = (o ++ [(f, a')]) ++ [(a, e)] := by
  unfold upd; rw [List.getLast?_concat]; simp [h]
theorem refW_in {out : List (Nat × Nat)} (h1 : b < n) (h2 : b < nt b) (h3 : ins b = true) : refW n nt ins out b = refW n nt ins (upd out b (nt b)) (nt b) := by
  rw [refW, dif_pos ⟨h1, h2⟩, if_pos h3]
theorem refW_out {out : List (Nat × Nat)} (h1 : b < n) (h2 : b < nt b) (h3 : ins b = false) : refW n nt ins out b = refW n nt ins out (nt b) := by
  rw [refW, dif_pos ⟨h1, h2⟩, if_neg (by rw [h3]; decide)]
theorem refW_end {out : List (Nat × Nat)} (h : ¬ b < n) : refW n nt ins out b = out := by
  rw [refW, dif_neg (fun e => h e.1)]
/-- no word is open at a place -/
def Shut (out : List (Nat × Nat)) (b : Nat) : Prop := out = [] ∨ ∃ o f a, out = o ++ [(f, a)] ∧ a < b
theorem Shut.later {out : List (Nat × Nat)} {b c : Nat} (h : Shut out b) (hc : b ≤ c) : Shut out c := by
  rcases h with h | ⟨o, f, a, h, ha⟩
  · exact .inl h
  · exact .inr ⟨o, f, a, h, by omega⟩
theorem Shut.upd {out : List (Nat × Nat)} {b : Nat} (h : Shut out b) (e : Nat) : upd out b e = out ++ [(b, e)] := by
  rcases h with rfl | ⟨o, f, a, rfl, ha⟩
  · rfl
  · exact upd_other o f a b e (by omega)
theorem refW_wrds (hn : ∀ b, b < n → b < nt b) : ∀ m b, n - b = m → (∀ out, Shut out b → refW n nt ins out b = out ++ wrds n nt ins b) ∧ (∀ o f, refW n nt ins (o ++ [(f, b)]) b = o ++ (f, runE n nt ins b) :: wrds n nt ins (runE n nt ins b)) := by
  intro m
  induction m using Nat.strongRecOn with
  | _ m ih =>
    intro b hm
    by_cases hb : b < n
    · have h2 := hn b hb
      obtain ⟨iA, iB⟩ := ih (n - nt b) (by omega) (nt b) rfl
      cases hi : ins b with
      | true =>
        refine ⟨fun out hs => ?_, fun o f => ?_⟩
        · rw [refW_in hb h2 hi, hs.upd, iB, wrds_in hb h2 hi, runE_step hb h2 hi]
        · rw [refW_in hb h2 hi, upd_same, iB, runE_step hb h2 hi]
      | false =>
        refine ⟨fun out hs => ?_, fun o f => ?_⟩
        · rw [refW_out hb h2 hi, iA _ (hs.later (by omega)), wrds_out hb h2 hi]
        · rw [refW_out hb h2 hi, iA _ (.inr ⟨o, f, b, rfl, h2⟩), runE_stop hi, wrds_out hb h2 hi, List.append_assoc]; rfl
    · refine ⟨fun out hs => ?_, fun o f => ?_⟩
      · rw [refW_end hb, wrds_end hb, List.append_nil]
      · rw [refW_end hb, runE_end hb, wrds_end hb]
theorem words_same (hn : ∀ b, b < n → b < nt b) : refW n nt ins [] 0 = wrds n nt ins 0 := (refW_wrds hn _ 0 rfl).1 [] (.inl rfl)
end
/-- the last word's beginning, going back -/
def bck (prv : Nat → Nat) (ins : Nat → Bool) (b : Nat) (wi : Bool) : Nat := if h : 0 < b ∧ prv b < b then (if (wi && !ins (prv b)) = true then b else bck prv ins (prv b) (wi || ins (prv b))) else b
termination_by b
decreasing_by omega
theorem bck_stop {prv : Nat → Nat} {ins : Nat → Bool} {b : Nat} (h : 0 < b) (h2 : prv b < b) (h3 : ins (prv b) = false) : bck prv ins b true = b := by
  rw [bck, dif_pos ⟨h, h2⟩, h3]; rfl
theorem bck_in {prv : Nat → Nat} {ins : Nat → Bool} {b : Nat} {wi : Bool} (h : 0 < b) (h2 : prv b < b) (h3 : ins (prv b) = true) : bck prv ins b wi = bck prv ins (prv b) true := by
  rw [bck, dif_pos ⟨h, h2⟩, h3]; simp
theorem bck_out {prv : Nat → Nat} {ins : Nat → Bool} {b : Nat} (h : 0 < b) (h2 : prv b < b) (h3 : ins (prv b) = false) : bck prv ins b false = bck prv ins (prv b) false := by
  rw [bck, dif_pos ⟨h, h2⟩, h3]; simp
theorem bck_zero {prv : Nat → Nat} {ins : Nat → Bool} {wi : Bool} : bck prv ins 0 wi = 0 := by
  rw [bck, dif_neg (by omega)]
def prv (T : Tab) (s : List Int) (b : Nat) : Nat := prevI T s (b : Int)
theorem prv_lt (T : Tab) {s : List Int} {b : Nat} (h : 0 < b) (hb : b ≤ s.length) : prv T s b < b := by
  unfold prv prevI
  rw [show max (min (b : Int) ((s.length : Int) + 1)) 0 - 1 = ((b - 1 : Nat) : Int) by omega]
  by_cases h0 : b - 1 = 0
  · rw [floorI_nonpos (by omega)]; omega
  · rw [floorI_mid (by omega) (by omega)]
    have := floorB_le T s (b - 1)
    omega
theorem ceilI_le (T : Tab) (s : List Int) (a : Int) : ceilI T s a ≤ s.length := by
  by_cases h : a ≤ 0
  · rw [ceilI_nonpos h]; exact Nat.zero_le _
  · by_cases h2 : (s.length : Int) ≤ a
    · rw [ceilI_big h h2]; exact Nat.le_refl _
    · obtain ⟨i, rfl⟩ : ∃ i : Nat, a = (i : Int) := ⟨a.toNat, by omega⟩
      rw [ceilI_mid (by omega) (by omega)]
      exact (ceilB_spec T s (by omega)).2.1
theorem ceilI_beg {T : Tab} {s : List Int} {b : Nat} (h : begAt T s b = true) : ceilI T s (b : Int) = b := by
  have hl := begAt_lt h
  by_cases h0 : b = 0
  · subst h0; exact ceilI_nonpos (Int.le_refl _)
  · rw [ceilI_mid (by omega) hl]
    exact ceilB_eq (by omega) (Nat.le_refl _) (fun j h1 h2 => by omega) (by omega) (.inr h)
/-- where the next word ends -/
def fwdI (R : List Rw) (s : List Int) (a : Int) : Nat := runE s.length (nxt (tabOf R) s) (insR R s) (skp s.length (nxt (tabOf R) s) (insR R s) (ceilI (tabOf R) s a))
/-- where the last word begins -/
def bckI (R : List Rw) (s : List Int) (a : Int) : Nat := bck (prv (tabOf R) s) (insR R s) (floorI (tabOf R) s a) false
def wrdsR (R : List Rw) (s : List Int) : List (Nat × Nat) := wrds s.length (nxt (tabOf R) s) (insR R s) 0
end Go.Proofs.Ytpgeccgfkcjcoaa

/- Words: their parts, forward. -/
namespace Go.Proofs.Ytpgeccgfkcjcoaa
open Go.RowKit

section
variable {R : List Rw} {s : List Int} {w : World} {v sv : Value} {tp : Nat}
set_option maxRecDepth 100000 in
set_option maxHeartbeats 4000000 in
theorem inside_any (i : Nat) (hT : Tb R w tp) (hs : RunesIn w sv s) (ok : RunesOk s) (hi : i ≤ s.length) (hl : s.length ≤ 1000000) :
    Calls Try.prog 65 #[.pointer (some ⟨tp, 0, none⟩), sv, .int .i64 (i : Nat)] w fun e w' => e = .returned (.bool (insR R s i)) ∧ Below w.heap.size w w' := by
  by_cases h : i < s.length
  · obtain ⟨x, hx⟩ : ∃ x, s[i]? = some x := ⟨s[i], List.getElem?_eq_getElem h⟩
    obtain ⟨b, off, cap, rfl, _, _, _, _, d0⟩ := rune_cell hs hx
    have HL := Lib.hid (hT.letter x (ok.get hx))
    have HV := Lib.hid (insR_some (R := R) hx)
    have r0 : (i : Int) < (s.length : Int) := by omega
    have r1 : (0 : Int) ≤ (i : Int) := by omega
    clear hT hs ok hx
    go_enter Try.func65, Try.ntmps65
    go_wp2_with fail
    refine HL.out.mono ?_
    rintro e w1 ⟨rfl, hB1⟩
    have HB1 := Lib.hid hB1
    clear hB1
    go_wp2_with fail
    go_ret
    exact ⟨ret_b (by rw [HV.out]), HB1.out⟩
  · have HV := Lib.hid (insR_big (R := R) (s := s) (i := i) (by omega))
    obtain ⟨sl, cap, rfl, hcap, hmax, _⟩ := runes_cells hs
    unfold maxLen at hmax
    have r0 : decide ((i : Int) < (s.length : Int)) = false := by rw [decide_eq_false_iff_not]; omega
    have r1 : decide (i < s.length) = false := decide_eq_false h
    clear hT hs ok
    go_enter Try.func65, Try.ntmps65
    go_wp2_with fail
    go_ret
    exact ⟨ret_b (by rw [HV.out]), .refl _ _⟩
set_option maxRecDepth 100000 in
set_option maxHeartbeats 4000000 in
theorem rin_any (i : Nat) (hR : RowsIn w v R) (hs : RunesIn w sv s) (ok : RunesOk s) (hi : i ≤ s.length) (hl : s.length ≤ 1000000) :
    Calls Try.prog 67 #[v, sv, .int .i64 (i : Nat)] w fun e w' => e = .returned (.bool (begAt (tabOf R) s i && insR R s i)) ∧ Below w.heap.size w w' := by
  by_cases h : i < s.length
  · obtain ⟨x, hx⟩ : ∃ x, s[i]? = some x := ⟨s[i], List.getElem?_eq_getElem h⟩
    have HBg := Lib.hid (begins_any i hR hs ok h hl)
    have HR := Lib.hid hR
    have HS := Lib.hid hs
    obtain ⟨b, off, cap, rfl, _, _, _, _, d0⟩ := rune_cell hs hx
    have HOx := Lib.hid (ok.get hx)
    have HV := Lib.hid (insR_some (R := R) hx)
    have r0 : (i : Int) < (s.length : Int) := by omega
    have r1 : (0 : Int) ≤ (i : Int) := by omega
    have r2 : (i : Int) ≥ 0 := by omega
    clear hR hs ok hx
    cases hb : begAt (tabOf R) s i with
    | true =>
      rw [hb] at HBg
      clear hb
      go_enter Try.func67, Try.ntmps67
      go_wp2_with fail
      refine HBg.out.mono ?_
      rintro e w1 ⟨rfl, q, rfl⟩
      have d1 : (w.drewN q).cell? ⟨b, off + i, none⟩ = some (.int .i32 x) := d0
      have HB1 := Lib.hid (below_dN (Below.refl w.heap.size w) q)
      have HOf := Lib.hid (rof_t (w := w.drewN q) 8 x (HR.out.below HB1.out) HOx.out)
      go_wp2_with fail
      refine HOf.out.mono ?_
      rintro e w2 ⟨rfl, rfl⟩
      go_wp2_with fail
      go_ret
      refine ⟨ret_b ?_, HB1.out⟩
      rw [HV.out, Bool.true_and]
      first | rfl | (rw [Bool.eq_iff_iff]; simp)
    | false =>
      rw [hb] at HBg
      clear hb
      go_enter Try.func67, Try.ntmps67
      go_wp2_with fail
      refine HBg.out.mono ?_
      rintro e w1 ⟨rfl, q, rfl⟩
      have HB1 := Lib.hid (below_dN (Below.refl w.heap.size w) q)
      go_wp2_with fail
      go_ret
      exact ⟨ret_b rfl, HB1.out⟩
  · have HV := Lib.hid (insR_big (R := R) (s := s) (i := i) (by omega))
    obtain ⟨sl, cap, rfl, hcap, hmax, _⟩ := runes_cells hs
    unfold maxLen at hmax
    have r0 : decide ((i : Int) < (s.length : Int)) = false := by rw [decide_eq_false_iff_not]; omega
    have r1 : decide (i < s.length) = false := decide_eq_false h
    have r2 : (i : Int) ≥ 0 := by omega
    clear hR hs ok
    go_enter Try.func67, Try.ntmps67
    go_wp2_with fail
    go_ret
    exact ⟨ret_b (by rw [HV.out, Bool.and_false]), .refl _ _⟩
set_option maxRecDepth 100000 in
set_option maxHeartbeats 8000000 in
theorem fwd_any (a : Int) (H : (tabOf R).Ok) (hT : Tb R w tp) (hs : RunesIn w sv s) (ok : RunesOk s) (hl : s.length ≤ 1000000) :
    Calls Try.prog 27 #[.pointer (some ⟨tp, 0, none⟩), sv, .int .i64 a] w fun e w' => e = .returned (.int .i64 ((fwdI R s a : Nat) : Int)) ∧ Below w.heap.size w w' := by
  have HT := Lib.hid hT
  have HS := Lib.hid hs
  have HOk := Lib.hid ok
  have HCe := Lib.hid (ceil_any a H hT hs ok hl)
  have hcl := ceilI_le (tabOf R) s a
  have HV0 := Lib.hid (show runE s.length (nxt (tabOf R) s) (insR R s) (skp s.length (nxt (tabOf R) s) (insR R s) (ceilI (tabOf R) s a)) = fwdI R s a from rfl)
  obtain ⟨sl, cap, rfl, hcap, hmax, _⟩ := runes_cells hs
  unfold maxLen at hmax
  generalize ceilI (tabOf R) s a = c at HCe hcl HV0
  clear hT hs ok H
  go_enter Try.func27, Try.ntmps27
  go_wp2_with fail
  refine wp_scope_jumps 0 (fun a' w' => ∃ (m : Nat) (u3 u4 u5 u7 u8 u9 u10 u11 u12 u13 u14 u15 u16 u17 u18 u19 u20 u21 u22 u23 u24 u25 u26 u27 u28 u29 u30 u31 u32 u33 u34 : Value), a' = { tmps := #[.pointer (some ⟨tp, 0, none⟩), .slice sl s.length cap, .int .i64 ((m : Nat) : Int), u3, u4, u5, .int .i64 0, u7, u8, u9, u10, u11, u12, u13, u14, u15, u16, u17, u18, u19, u20, u21, u22, u23, u24, u25, u26, u27, u28, u29, u30, u31, u32, u33, u34], defers := [] } ∧ m ≤ s.length ∧ Below w.heap.size w w' ∧ runE s.length (nxt (tabOf R) s) (insR R s) (skp s.length (nxt (tabOf R) s) (insR R s) m) = fwdI R s a) (fun a' _ => s.length - (intOf (a'.tmps.getD 2 undef)).toNat) rfl ?_ ?_
  · go_wp2_with fail
    refine HCe.out.mono ?_
    rintro e w1 ⟨rfl, hB1⟩
    have HB := Lib.hid hB1
    obtain ⟨m, hm⟩ : ∃ m, m = c := ⟨_, rfl⟩
    rw [← hm] at hcl HV0 ⊢
    have hml := hcl
    have HVm := HV0
    clear hB1 HCe hm hcl HV0
    go_wp2_with fail
    go_step3
    have HTm := Lib.hid (HT.out.below HB.out)
    have HSm := Lib.hid (HS.out.below HB.out)
    by_cases hlt : m < s.length
    · have HIn := Lib.hid (inside_any m HTm.out HSm.out HOk.out hml hl)
      have r0 : (m : Int) < (s.length : Int) := by omega
      cases hin : insR R s m with
      | true =>
        rw [hin] at HIn
        have HRe := Lib.hid (show runE s.length (nxt (tabOf R) s) (insR R s) m = fwdI R s a by rw [← HVm.out, skp_stop hin])
        clear hin HVm
        go_wp2_with fail
        refine HIn.out.mono ?_
        rintro e w2 ⟨rfl, hB2⟩
        have HB2 := Lib.hid (below_trans' HB.out hB2)
        clear hB2 HIn HB HTm HSm
        go_wp2_with fail
        go_loopw [2] (fun iv wr => ∃ k : Nat, k ≤ s.length ∧ iv = .int .i64 ((k : Nat) : Int) ∧ Below w.heap.size w wr ∧ runE s.length (nxt (tabOf R) s) (insR R s) k = fwdI R s a) (fun iv _ => s.length - (intOf iv).toNat)
        case atStart => exact ⟨_, hml, rfl, HB2.out, HRe.out⟩
        case round =>
          obtain ⟨k, hk, rfl, hB, hV⟩ := hrel
          have HBk := Lib.hid hB
          have HVk := Lib.hid hV
          have HTk := Lib.hid (HT.out.below hB)
          have HSk := Lib.hid (HS.out.below hB)
          have HIk := Lib.hid (inside_any k HTk.out HSk.out HOk.out hk hl)
          clear hB hV
          cases hik : insR R s k with
          | true =>
            rw [hik] at HIk
            have hkl := insR_lt hik
            have hn1 := nxt_gt (tabOf R) hkl
            have hn2 := nxt_le (tabOf R) hk
            have HVn := Lib.hid (show runE s.length (nxt (tabOf R) s) (insR R s) (nxt (tabOf R) s k) = fwdI R s a by rw [← HVk.out, runE_step hkl hn1 hik])
            clear hik HVk
            go_wp2_with fail
            refine HIk.out.mono ?_
            rintro e w4 ⟨rfl, hB4⟩
            have HNx := Lib.hid (next_any k (HTk.out.below hB4) (HSk.out.below hB4) HOk.out hkl hl)
            rw [show k + nx (tabOf R) (s.drop k) = nxt (tabOf R) s k from rfl] at HNx
            generalize nxt (tabOf R) s k = n at HNx hn1 hn2 HVn
            have HB4 := Lib.hid (below_trans' HBk.out hB4)
            clear hB4 HIk HBk
            go_wp2_with fail
            refine HNx.out.mono ?_
            rintro e w5 ⟨rfl, hB5⟩
            have HB5 := Lib.hid (below_trans' HB4.out hB5)
            clear hB5 HNx
            go_wp2_with fail
            go_roundw
            case rel => exact ⟨n, hn2, rfl, HB5.out, HVn.out⟩
            case measure => simp [intOf] <;> omega
          | false =>
            rw [hik] at HIk
            have HF := Lib.hid (show k = fwdI R s a by rw [← HVk.out, runE_stop hik])
            clear hik HVk
            go_wp2_with fail
            refine HIk.out.mono ?_
            rintro e w4 ⟨rfl, hB4⟩
            have HB4 := Lib.hid (below_trans' HBk.out hB4)
            clear hB4 HIk HBk
            go_wp2_with fail
            try simp only [Exit.jump]
            go_ret
            exact ⟨ret_i (by rw [← HF.out]), HB4.out⟩
      | false =>
        rw [hin] at HIn
        have hn1 := nxt_gt (tabOf R) hlt
        have hn2 := nxt_le (tabOf R) hml
        have HVn := Lib.hid (show runE s.length (nxt (tabOf R) s) (insR R s) (skp s.length (nxt (tabOf R) s) (insR R s) (nxt (tabOf R) s m)) = fwdI R s a by rw [← HVm.out, skp_step hlt hn1 hin])
        clear hin HVm
        go_wp2_with fail
        refine HIn.out.mono ?_
        rintro e w2 ⟨rfl, hB2⟩
        have HNx := Lib.hid (next_any m (HTm.out.below hB2) (HSm.out.below hB2) HOk.out hlt hl)
        rw [show m + nx (tabOf R) (s.drop m) = nxt (tabOf R) s m from rfl] at HNx
        generalize nxt (tabOf R) s m = n at HNx hn1 hn2 HVn
        have HB2 := Lib.hid (below_trans' HB.out hB2)
        clear hB2 HIn HB HTm HSm
        go_wp2_with fail
        refine HNx.out.mono ?_
        rintro e w3 ⟨rfl, hB3⟩
        have HB2 := Lib.hid (below_trans' HB2.out hB3)
        clear hB3 HNx
        go_wp2_with fail
        go_step3
        first
          | exact ⟨n, _, _, _, _, _, _, _, _, _, _, _, _, _, _, _, _, _, _, _, _, _, _, _, _, _, _, _, _, _, _, _, rfl, by omega, HB2.out, HVn.out⟩
          | exact ⟨rfl, n, _, _, _, _, _, _, _, _, _, _, _, _, _, _, _, _, _, _, _, _, _, _, _, _, _, _, _, _, _, _, _, rfl, by omega, HB2.out, HVn.out⟩
    · have hme : m = s.length := by omega
      have r0 : decide ((m : Int) < (s.length : Int)) = false := by rw [decide_eq_false_iff_not]; omega
      have r1 : decide (m < s.length) = false := decide_eq_false hlt
      have HRe := Lib.hid (show runE s.length (nxt (tabOf R) s) (insR R s) m = fwdI R s a by rw [← HVm.out, skp_end hlt])
      have HB2 := HB
      subst hme
      clear HVm HB HTm HSm
      go_wp2_with fail
      go_loopw [2] (fun iv wr => ∃ k : Nat, k ≤ s.length ∧ iv = .int .i64 ((k : Nat) : Int) ∧ Below w.heap.size w wr ∧ runE s.length (nxt (tabOf R) s) (insR R s) k = fwdI R s a) (fun iv _ => s.length - (intOf iv).toNat)
      case atStart => exact ⟨_, hml, rfl, HB2.out, HRe.out⟩
      case round =>
        obtain ⟨k, hk, rfl, hB, hV⟩ := hrel
        have HBk := Lib.hid hB
        have HVk := Lib.hid hV
        have HTk := Lib.hid (HT.out.below hB)
        have HSk := Lib.hid (HS.out.below hB)
        have HIk := Lib.hid (inside_any k HTk.out HSk.out HOk.out hk hl)
        clear hB hV
        cases hik : insR R s k with
        | true =>
          rw [hik] at HIk
          have hkl := insR_lt hik
          have hn1 := nxt_gt (tabOf R) hkl
          have hn2 := nxt_le (tabOf R) hk
          have HVn := Lib.hid (show runE s.length (nxt (tabOf R) s) (insR R s) (nxt (tabOf R) s k) = fwdI R s a by rw [← HVk.out, runE_step hkl hn1 hik])
          clear hik HVk
          go_wp2_with fail
          refine HIk.out.mono ?_
          rintro e w4 ⟨rfl, hB4⟩
          have HNx := Lib.hid (next_any k (HTk.out.below hB4) (HSk.out.below hB4) HOk.out hkl hl)
          rw [show k + nx (tabOf R) (s.drop k) = nxt (tabOf R) s k from rfl] at HNx
          generalize nxt (tabOf R) s k = n at HNx hn1 hn2 HVn
          have HB4 := Lib.hid (below_trans' HBk.out hB4)
          clear hB4 HIk HBk
          go_wp2_with fail
          refine HNx.out.mono ?_
          rintro e w5 ⟨rfl, hB5⟩
          have HB5 := Lib.hid (below_trans' HB4.out hB5)
          clear hB5 HNx
          go_wp2_with fail
          go_roundw
          case rel => exact ⟨n, hn2, rfl, HB5.out, HVn.out⟩
          case measure => simp [intOf] <;> omega
        | false =>
          rw [hik] at HIk
          have HF := Lib.hid (show k = fwdI R s a by rw [← HVk.out, runE_stop hik])
          clear hik HVk
          go_wp2_with fail
          refine HIk.out.mono ?_
          rintro e w4 ⟨rfl, hB4⟩
          have HB4 := Lib.hid (below_trans' HBk.out hB4)
          clear hB4 HIk HBk
          go_wp2_with fail
          try simp only [Exit.jump]
          go_ret
          exact ⟨ret_i (by rw [← HF.out]), HB4.out⟩
  · rintro a' w1 ⟨m, u3, u4, u5, u7, u8, u9, u10, u11, u12, u13, u14, u15, u16, u17, u18, u19, u20, u21, u22, u23, u24, u25, u26, u27, u28, u29, u30, u31, u32, u33, u34, rfl, hml, hB1, hVm⟩
    have HB := Lib.hid hB1
    have HVm := Lib.hid hVm
    clear hB1 HCe hcl HV0 hVm
    have HTm := Lib.hid (HT.out.below HB.out)
    have HSm := Lib.hid (HS.out.below HB.out)
    by_cases hlt : m < s.length
    · have HIn := Lib.hid (inside_any m HTm.out HSm.out HOk.out hml hl)
      have r0 : (m : Int) < (s.length : Int) := by omega
      cases hin : insR R s m with
      | true =>
        rw [hin] at HIn
        have HRe := Lib.hid (show runE s.length (nxt (tabOf R) s) (insR R s) m = fwdI R s a by rw [← HVm.out, skp_stop hin])
        clear hin HVm
        go_wp2_with fail
        refine HIn.out.mono ?_
        rintro e w2 ⟨rfl, hB2⟩
        have HB2 := Lib.hid (below_trans' HB.out hB2)
        clear hB2 HIn HB HTm HSm
        go_wp2_with fail
        go_loopw [2] (fun iv wr => ∃ k : Nat, k ≤ s.length ∧ iv = .int .i64 ((k : Nat) : Int) ∧ Below w.heap.size w wr ∧ runE s.length (nxt (tabOf R) s) (insR R s) k = fwdI R s a) (fun iv _ => s.length - (intOf iv).toNat)
        case atStart => exact ⟨_, hml, rfl, HB2.out, HRe.out⟩
        case round =>
          obtain ⟨k, hk, rfl, hB, hV⟩ := hrel
          have HBk := Lib.hid hB
          have HVk := Lib.hid hV
          have HTk := Lib.hid (HT.out.below hB)
          have HSk := Lib.hid (HS.out.below hB)
          have HIk := Lib.hid (inside_any k HTk.out HSk.out HOk.out hk hl)
          clear hB hV
          cases hik : insR R s k with
          | true =>
            rw [hik] at HIk
            have hkl := insR_lt hik
            have hn1 := nxt_gt (tabOf R) hkl
            have hn2 := nxt_le (tabOf R) hk
            have HVn := Lib.hid (show runE s.length (nxt (tabOf R) s) (insR R s) (nxt (tabOf R) s k) = fwdI R s a by rw [← HVk.out, runE_step hkl hn1 hik])
            clear hik HVk
            go_wp2_with fail
            refine HIk.out.mono ?_
            rintro e w4 ⟨rfl, hB4⟩
            have HNx := Lib.hid (next_any k (HTk.out.below hB4) (HSk.out.below hB4) HOk.out hkl hl)
            rw [show k + nx (tabOf R) (s.drop k) = nxt (tabOf R) s k from rfl] at HNx
            generalize nxt (tabOf R) s k = n at HNx hn1 hn2 HVn
            have HB4 := Lib.hid (below_trans' HBk.out hB4)
            clear hB4 HIk HBk
            go_wp2_with fail
            refine HNx.out.mono ?_
            rintro e w5 ⟨rfl, hB5⟩
            have HB5 := Lib.hid (below_trans' HB4.out hB5)
            clear hB5 HNx
            go_wp2_with fail
            go_roundw
            case rel => exact ⟨n, hn2, rfl, HB5.out, HVn.out⟩
            case measure => simp [intOf] <;> omega
          | false =>
            rw [hik] at HIk
            have HF := Lib.hid (show k = fwdI R s a by rw [← HVk.out, runE_stop hik])
            clear hik HVk
            go_wp2_with fail
            refine HIk.out.mono ?_
            rintro e w4 ⟨rfl, hB4⟩
            have HB4 := Lib.hid (below_trans' HBk.out hB4)
            clear hB4 HIk HBk
            go_wp2_with fail
            try simp only [Exit.jump]
            go_ret
            exact ⟨ret_i (by rw [← HF.out]), HB4.out⟩
      | false =>
        rw [hin] at HIn
        have hn1 := nxt_gt (tabOf R) hlt
        have hn2 := nxt_le (tabOf R) hml
        have HVn := Lib.hid (show runE s.length (nxt (tabOf R) s) (insR R s) (skp s.length (nxt (tabOf R) s) (insR R s) (nxt (tabOf R) s m)) = fwdI R s a by rw [← HVm.out, skp_step hlt hn1 hin])
        clear hin HVm
        go_wp2_with fail
        refine HIn.out.mono ?_
        rintro e w2 ⟨rfl, hB2⟩
        have HNx := Lib.hid (next_any m (HTm.out.below hB2) (HSm.out.below hB2) HOk.out hlt hl)
        rw [show m + nx (tabOf R) (s.drop m) = nxt (tabOf R) s m from rfl] at HNx
        generalize nxt (tabOf R) s m = n at HNx hn1 hn2 HVn
        have HB2 := Lib.hid (below_trans' HB.out hB2)
        clear hB2 HIn HB HTm HSm
        go_wp2_with fail
        refine HNx.out.mono ?_
        rintro e w3 ⟨rfl, hB3⟩
        have HB2 := Lib.hid (below_trans' HB2.out hB3)
        clear hB3 HNx
        go_wp2_with fail
        go_step3
        first
          | exact ⟨⟨n, _, _, _, _, _, _, _, _, _, _, _, _, _, _, _, _, _, _, _, _, _, _, _, _, _, _, _, _, _, _, _, rfl, by omega, HB2.out, HVn.out⟩, by simp [intOf] <;> omega⟩
          | exact ⟨rfl, ⟨n, _, _, _, _, _, _, _, _, _, _, _, _, _, _, _, _, _, _, _, _, _, _, _, _, _, _, _, _, _, _, _, rfl, by omega, HB2.out, HVn.out⟩, by simp [intOf] <;> omega⟩
    · have hme : m = s.length := by omega
      have r0 : decide ((m : Int) < (s.length : Int)) = false := by rw [decide_eq_false_iff_not]; omega
      have r1 : decide (m < s.length) = false := decide_eq_false hlt
      have HRe := Lib.hid (show runE s.length (nxt (tabOf R) s) (insR R s) m = fwdI R s a by rw [← HVm.out, skp_end hlt])
      have HB2 := HB
      subst hme
      clear HVm HB HTm HSm
      go_wp2_with fail
      go_loopw [2] (fun iv wr => ∃ k : Nat, k ≤ s.length ∧ iv = .int .i64 ((k : Nat) : Int) ∧ Below w.heap.size w wr ∧ runE s.length (nxt (tabOf R) s) (insR R s) k = fwdI R s a) (fun iv _ => s.length - (intOf iv).toNat)
      case atStart => exact ⟨_, hml, rfl, HB2.out, HRe.out⟩
      case round =>
        obtain ⟨k, hk, rfl, hB, hV⟩ := hrel
        have HBk := Lib.hid hB
        have HVk := Lib.hid hV
        have HTk := Lib.hid (HT.out.below hB)
        have HSk := Lib.hid (HS.out.below hB)
        have HIk := Lib.hid (inside_any k HTk.out HSk.out HOk.out hk hl)
        clear hB hV
        cases hik : insR R s k with
        | true =>
          rw [hik] at HIk
          have hkl := insR_lt hik
          have hn1 := nxt_gt (tabOf R) hkl
          have hn2 := nxt_le (tabOf R) hk
          have HVn := Lib.hid (show runE s.length (nxt (tabOf R) s) (insR R s) (nxt (tabOf R) s k) = fwdI R s a by rw [← HVk.out, runE_step hkl hn1 hik])
          clear hik HVk
          go_wp2_with fail
          refine HIk.out.mono ?_
          rintro e w4 ⟨rfl, hB4⟩
          have HNx := Lib.hid (next_any k (HTk.out.below hB4) (HSk.out.below hB4) HOk.out hkl hl)
          rw [show k + nx (tabOf R) (s.drop k) = nxt (tabOf R) s k from rfl] at HNx
          generalize nxt (tabOf R) s k = n at HNx hn1 hn2 HVn
          have HB4 := Lib.hid (below_trans' HBk.out hB4)
          clear hB4 HIk HBk
          go_wp2_with fail
          refine HNx.out.mono ?_
          rintro e w5 ⟨rfl, hB5⟩
          have HB5 := Lib.hid (below_trans' HB4.out hB5)
          clear hB5 HNx
          go_wp2_with fail
          go_roundw
          case rel => exact ⟨n, hn2, rfl, HB5.out, HVn.out⟩
          case measure => simp [intOf] <;> omega
        | false =>
          rw [hik] at HIk
          have HF := Lib.hid (show k = fwdI R s a by rw [← HVk.out, runE_stop hik])
          clear hik HVk
          go_wp2_with fail
          refine HIk.out.mono ?_
          rintro e w4 ⟨rfl, hB4⟩
          have HB4 := Lib.hid (below_trans' HBk.out hB4)
          clear hB4 HIk HBk
          go_wp2_with fail
          try simp only [Exit.jump]
          go_ret
          exact ⟨ret_i (by rw [← HF.out]), HB4.out⟩
end
end Go.Proofs.Ytpgeccgfkcjcoaa

/- Words: both lists of them. -/
namespace Go.Proofs.Ytpgeccgfkcjcoaa
open Go.RowKit

def wenc (x : Nat × Nat) : List Value := [.int .i64 (x.1 : Int), .int .i64 (x.2 : Int)]
theorem wenc_len (x : Nat × Nat) : (wenc x).length = 2 := rfl
theorem wenc_one (x : Nat × Nat) : ∀ u ∈ wenc x, u.oneCell' = true := by intro u hu; simp [wenc] at hu; rcases hu with rfl | rfl <;> rfl
theorem E2 : ElemT Try.prog 39 41 2 16 := elemT_of (by kernel_rfl) (z := .agg #[.int .i64 0, .int .i64 0]) (by kernel_rfl) rfl (by decide) (by decide)
def PairsIn (w : World) (v : Value) (L : List (Nat × Nat)) : Prop := Rs w.heap.size w wenc 2 v L
theorem wflat_snoc (l : List (Nat × Nat)) (x : Nat × Nat) : (l ++ [x]).flatMap wenc = l.flatMap wenc ++ wenc x := by simp
theorem wflat_last_set (o : List (Nat × Nat)) (f a e : Nat) : ((o ++ [(f, a)]).flatMap wenc).set (o.length * 2 + 1) (.int .i64 (e : Int)) = (o ++ [(f, e)]).flatMap wenc := by
  have hl := flat_len wenc_len o
  rw [wflat_snoc, wflat_snoc, List.set_append_right _ _ (by omega), hl, show o.length * 2 + 1 - o.length * 2 = 1 by omega]
  rfl
theorem runE_bd {n : Nat} {nt : Nat → Nat} {ins : Nat → Bool} {P : Nat → Prop} (hP : ∀ b, b < n → P b → P (nt b)) : ∀ m b, n - b = m → P b → P (runE n nt ins b) := by
  intro m
  induction m using Nat.strongRecOn with
  | _ m ih =>
    intro b hm hb
    rw [runE]
    split
    · rename_i h
      exact ih (n - nt b) (by omega) (nt b) rfl (hP b h.1 hb)
    · exact hb
theorem nxt_bd {T : Tab} (H : T.Ok) {s : List Int} {b : Nat} (hb : begAt T s b = true) : nxt T s b ≤ s.length ∧ (nxt T s b = s.length ∨ begAt T s (nxt T s b) = true) :=
  ⟨(nx_spec H hb).2.1, (nx_spec H hb).2.2.2⟩
theorem bd_step {T : Tab} (H : T.Ok) {s : List Int} (b : Nat) (hl : b < s.length) (hb : b ≤ s.length ∧ (b = s.length ∨ begAt T s b = true)) : nxt T s b ≤ s.length ∧ (nxt T s b = s.length ∨ begAt T s (nxt T s b) = true) :=
  nxt_bd H (hb.2.resolve_left (by omega))
section
variable {R : List Rw} {s : List Int} {w : World} {v sv : Value} {tp : Nat}
set_option maxRecDepth 100000 in
set_option maxHeartbeats 8000000 in
theorem words_any (H : (tabOf R).Ok) (hT : Tb R w tp) (hs : RunesIn w sv s) (ok : RunesOk s) (hl : s.length ≤ 1000000) :
    Calls Try.prog 33 #[.pointer (some ⟨tp, 0, none⟩), sv] w fun e w' => ∃ u, e = .returned u ∧ Below w.heap.size w w' ∧ PairsIn w' u (wrdsR R s) := by
  have HT := Lib.hid hT
  have HS := Lib.hid hs
  have HOk := Lib.hid ok
  have HTk := Lib.hid H
  obtain ⟨sl, cap, rfl, hcap, hmax, _⟩ := runes_cells hs
  unfold maxLen at hmax
  clear hT hs ok H
  go_enter Try.func33, Try.ntmps33
  go_wp2_with fail
  go_loopw [5, 6] (fun ov iv wr => ∃ (k : Nat) (L : List (Nat × Nat)), k ≤ s.length ∧ L.length ≤ k ∧ iv = .int .i64 ((k : Nat) : Int) ∧ (k = s.length ∨ begAt (tabOf R) s k = true) ∧ Below w.heap.size w wr ∧ wr.ownsRow w.heap.size 41 2 ov L.length (L.flatMap wenc) ∧
    L ++ wrds s.length (nxt (tabOf R) s) (insR R s) k = wrdsR R s) (fun _ iv _ => s.length - (intOf iv).toNat)
  case atStart => exact ⟨0, [], Nat.zero_le _, Nat.le_refl _, rfl, by
    cases s with
    | nil => exact .inl rfl
    | cons x l => exact .inr rfl, .refl _ _, World.ownsRow_nil _ _ _ _, rfl⟩
  case round =>
    obtain ⟨k, L, hk, hLk, rfl, hb, hB, hO, hC⟩ := hrel
    have HB := Lib.hid hB
    have HC := Lib.hid hC
    have HBg := Lib.hid hb
    obtain ⟨pa, pc, rfl⟩ := slice_of_owns hO
    have HO := Lib.hid hO
    have HTr := Lib.hid (HT.out.below hB)
    have HSr := Lib.hid (HS.out.below hB)
    clear hB hO hC hb
    by_cases hlt : k < s.length
    · have hn1 := nxt_gt (tabOf R) hlt
      have HIn := Lib.hid (inside_any k HTr.out HSr.out HOk.out hk hl)
      have r0 : (k : Int) < (s.length : Int) := by omega
      cases hin : insR R s k with
      | true =>
        rw [hin] at HIn
        have HV := Lib.hid (show fwdI R s (k : Int) = runE s.length (nxt (tabOf R) s) (insR R s) k by
          unfold fwdI; rw [ceilI_beg (HBg.out.resolve_left (by omega)), skp_stop hin])
        have hgt := runE_gt (n := s.length) hlt hn1 hin
        have HBd := Lib.hid (runE_bd (ins := insR R s) (bd_step HTk.out) _ k rfl ⟨hk, HBg.out⟩)
        have HC2 := Lib.hid (show (L ++ [(k, runE s.length (nxt (tabOf R) s) (insR R s) k)]) ++ wrds s.length (nxt (tabOf R) s) (insR R s) (runE s.length (nxt (tabOf R) s) (insR R s) k) = wrdsR R s by
          rw [← HC.out, wrds_in hlt hn1 hin, List.append_assoc]; rfl)
        generalize runE s.length (nxt (tabOf R) s) (insR R s) k = n at HV hgt HBd HC2
        have hnl := HBd.out.1
        clear hin HC HBg hn1
        go_wp2_with fail
        refine HIn.out.mono ?_
        rintro e w1 ⟨rfl, hB1⟩
        have HFw := Lib.hid (fwd_any (k : Int) HTk.out (HTr.out.below hB1) (HSr.out.below hB1) HOk.out hl)
        rw [HV.out] at HFw
        have HB1 := Lib.hid (HB.out.trans (hB1.mono HB.out.size))
        have HO1 := Lib.hid (owns_stays HO.out hB1)
        clear hB1 HIn HV HB HO HTr HSr
        go_wp2_with fail
        refine HFw.out.mono ?_
        rintro e w2 ⟨rfl, hB2⟩
        have HB2 := Lib.hid (HB1.out.trans (hB2.mono HB1.out.size))
        have HO2 := Lib.hid (owns_stays HO1.out hB2)
        have hbs := HB2.out.size
        clear hB2 HFw HB1 HO1
        go_wp2_with (at_builtin; refine wpList_app1 _ rfl (.tmp 25) (.tmp 29) _ rfl E2 _ _ _ rfl HO2.out 1 1 (wenc (k, n)) rfl (by decide) rfl (wenc_one _) (by omega) hbs ?_; intro g c w7 ho7 hg7 hf7)
        have HB7 := Lib.hid (below_app HB2.out hbs HO2.out (Nat.le_refl _) hg7)
        have HO7 := Lib.hid ho7
        clear ho7 hg7 hf7
        go_wp2_with fail
        go_roundw
        case rel => exact ⟨n, L ++ [(k, n)], hnl, by simp; omega, rfl, HBd.out.2, HB7.out, by
                      have ho := HO7.out
                      rw [List.length_append, wflat_snoc]; exact ho, HC2.out⟩
        case measure => simp [intOf] <;> omega
      | false =>
        rw [hin] at HIn
        have HNb := Lib.hid (nxt_bd HTk.out (HBg.out.resolve_left (by omega)))
        have HC2 := Lib.hid (show L ++ wrds s.length (nxt (tabOf R) s) (insR R s) (nxt (tabOf R) s k) = wrdsR R s by rw [← HC.out, wrds_out hlt hn1 hin])
        clear hin HC HBg
        go_wp2_with fail
        refine HIn.out.mono ?_
        rintro e w1 ⟨rfl, hB1⟩
        have HNx := Lib.hid (next_any k (HTr.out.below hB1) (HSr.out.below hB1) HOk.out hlt hl)
        rw [show k + nx (tabOf R) (s.drop k) = nxt (tabOf R) s k from rfl] at HNx
        generalize nxt (tabOf R) s k = n at HNx hn1 HNb HC2
        have hnl := HNb.out.1
        have HB1 := Lib.hid (HB.out.trans (hB1.mono HB.out.size))
        have HO1 := Lib.hid (owns_stays HO.out hB1)
        clear hB1 HIn HB HO HTr HSr
        go_wp2_with fail
        refine HNx.out.mono ?_
        rintro e w2 ⟨rfl, hB2⟩
        have HB2 := Lib.hid (HB1.out.trans (hB2.mono HB1.out.size))
        have HO2 := Lib.hid (owns_stays HO1.out hB2)
        clear hB2 HNx HB1 HO1
        go_wp2_with fail
        go_roundw
        case rel => exact ⟨n, L, hnl, by omega, rfl, HNb.out.2, HB2.out, HO2.out, HC2.out⟩
        case measure => simp [intOf] <;> omega
    · have hke : k = s.length := by omega
      have HF := Lib.hid (show L = wrdsR R s by rw [← HC.out, wrds_end hlt, List.append_nil])
      subst hke
      clear hlt hk
      go_wp2_with fail
      go_ret
      exact ⟨_, rfl, HB.out, by rw [← HF.out]; exact rd_of_owns HO.out⟩
set_option maxRecDepth 100000 in
set_option maxHeartbeats 8000000 in
theorem rwords_any (H : (tabOf R).Ok) (hR : RowsIn w v R) (hs : RunesIn w sv s) (ok : RunesOk s) (hl : s.length ≤ 1000000) :
    Calls Try.prog 32 #[v, sv] w fun e w' => ∃ u, e = .returned u ∧ Below w.heap.size w w' ∧ PairsIn w' u (wrdsR R s) := by
  have HR := Lib.hid hR
  have HS := Lib.hid hs
  have HOk := Lib.hid ok
  have HTk := Lib.hid H
  have HW := Lib.hid (show refW s.length (nxt (tabOf R) s) (insR R s) [] 0 = wrdsR R s from words_same (fun b hb => nxt_gt (tabOf R) hb))
  obtain ⟨sl, cap, rfl, hcap, hmax, _⟩ := runes_cells hs
  unfold maxLen at hmax
  clear hR hs ok H
  go_enter Try.func32, Try.ntmps32
  go_wp2_with fail
  go_loopw [5, 6] (fun ov iv wr => ∃ (k : Nat) (L : List (Nat × Nat)), k ≤ s.length ∧ L.length ≤ k ∧ iv = .int .i64 ((k : Nat) : Int) ∧ (k = s.length ∨ begAt (tabOf R) s k = true) ∧ Below w.heap.size w wr ∧ wr.ownsRow w.heap.size 41 2 ov L.length (L.flatMap wenc) ∧
    refW s.length (nxt (tabOf R) s) (insR R s) L k = wrdsR R s) (fun _ iv _ => s.length - (intOf iv).toNat)
  case atStart => exact ⟨0, [], Nat.zero_le _, Nat.le_refl _, rfl, by
    cases s with
    | nil => exact .inl rfl
    | cons x l => exact .inr rfl, .refl _ _, World.ownsRow_nil _ _ _ _, HW.out⟩
  case round =>
    obtain ⟨k, L, hk, hLk, rfl, hb, hB, hO, hC⟩ := hrel
    have HB := Lib.hid hB
    have HC := Lib.hid hC
    have HBg := Lib.hid hb
    have HRr := Lib.hid (HR.out.below hB)
    have HSr := Lib.hid (HS.out.below hB)
    by_cases hlt : k < s.length
    · have hbk := HBg.out.resolve_left (by omega)
      have hn1 := nxt_gt (tabOf R) hlt
      have HNb := Lib.hid (nxt_bd HTk.out hbk)
      have HIn := Lib.hid (rin_any k HRr.out HSr.out HOk.out hk hl)
      have HCall := Lib.hid (fun w1 (hb1 : Below w.heap.size w w1) => rnext_any k (HR.out.below hb1) (HS.out.below hb1) HOk.out hlt hl)
      rw [← nx_fnb HTk.out hbk, show k + nx (tabOf R) (s.drop k) = nxt (tabOf R) s k from rfl] at HCall
      rw [hbk, Bool.true_and] at HIn
      have r0 : (k : Int) < (s.length : Int) := by omega
      cases hin : insR R s k with
      | true =>
        rw [hin] at HIn
        have HC1 := Lib.hid (show refW s.length (nxt (tabOf R) s) (insR R s) (upd L k (nxt (tabOf R) s k)) (nxt (tabOf R) s k) = wrdsR R s by rw [← HC.out, refW_in hlt hn1 hin])
        generalize nxt (tabOf R) s k = n at HCall hn1 HNb HC1
        have hnl := HNb.out.1
        clear hin HC hbk HBg hb hC
        rcases List.eq_nil_or_concat L with hL | ⟨o, x, hL⟩
        · subst hL
          have HC2 := Lib.hid (show refW s.length (nxt (tabOf R) s) (insR R s) ([] ++ [(k, n)]) n = wrdsR R s from HC1.out)
          obtain ⟨pa, pc, rfl⟩ := slice_of_owns hO
          have HO := Lib.hid hO
          clear hO hB HC1
          go_wp2_with fail
          refine HIn.out.mono ?_
          rintro e w1 ⟨rfl, hB1⟩
          have HB1 := Lib.hid (HB.out.trans (hB1.mono HB.out.size))
          have HO1 := Lib.hid (owns_stays HO.out hB1)
          have HNx := Lib.hid (HCall.out w1 HB1.out)
          clear hB1 HIn HB HO HRr HSr
          go_wp2_with fail
          refine HNx.out.mono ?_
          rintro e w2 ⟨rfl, hB2⟩
          have HB2 := Lib.hid (HB1.out.trans (hB2.mono HB1.out.size))
          have HO2 := Lib.hid (owns_stays HO1.out hB2)
          have hbs := HB2.out.size
          clear hB2 HNx HB1 HO1
          go_wp2_with (at_builtin; refine wpList_app1 _ rfl (.tmp 46) (.tmp 50) _ rfl E2 _ _ _ rfl HO2.out 1 1 (wenc (k, n)) rfl (by decide) rfl (wenc_one _) (by omega) hbs ?_; intro g c w7 ho7 hg7 hf7; have HB7 := Lib.hid (below_app HB2.out hbs HO2.out (Nat.le_refl _) hg7); have HO7 := Lib.hid ho7; have HNy := Lib.hid (HCall.out w7 HB7.out); clear ho7 hg7 hf7)
          refine HNy.out.mono ?_
          rintro e w8 ⟨rfl, hB8⟩
          have HB8 := Lib.hid (HB7.out.trans (hB8.mono HB7.out.size))
          have HO8 := Lib.hid (owns_stays HO7.out hB8)
          clear hB8 HNy
          go_wp2_with fail
          go_roundw
          case rel => exact ⟨n, [] ++ [(k, n)], hnl, by simp; omega, rfl, HNb.out.2, HB8.out, by
                        have ho := HO8.out
                        rw [List.length_append, wflat_snoc]; exact ho, HC2.out⟩
          case measure => simp [intOf] <;> omega
        · rw [List.concat_eq_append] at hL
          subst hL
          obtain ⟨f, a⟩ := x
          obtain ⟨q, hq⟩ : ∃ q, q = o.length := ⟨_, rfl⟩
          have hol : (o ++ [(f, a)]).length = q + 1 := by rw [List.length_append, hq]; rfl
          rw [hol] at hO hLk
          obtain ⟨g, gc, rfl, hgb, hgs⟩ := ownBlock_of_owns hO (by omega)
          have hgc := owns_cap hO
          have HO := Lib.hid hO
          have HQ := Lib.hid hq
          have HOL := Lib.hid hol
          have HFl := Lib.hid (show ((o ++ [(f, a)]).flatMap wenc)[q * 2 + 1]? = some (.int .i64 (a : Int)) by
            rw [hq]; exact flat_get wenc_len (o ++ [(f, a)]) o.length (f, a) 1 _ (by rw [List.getElem?_append_right (Nat.le_refl _)]; simp) rfl)
          have s0 : ((q : Int) + 1) > 0 := by omega
          have s1 := IntWalk.i64_in (q : Int) (by omega)
          have s2 : (0 : Int) ≤ (q : Int) := by omega
          have s3 : (q : Int) < (q : Int) + 1 := by omega
          clear hO hB hq hol
          go_wp2_with fail
          refine HIn.out.mono ?_
          rintro e w1 ⟨rfl, hB1⟩
          have HB1 := Lib.hid (HB.out.trans (hB1.mono HB.out.size))
          have HO1 := Lib.hid (owns_stays HO.out hB1)
          have HNx := Lib.hid (HCall.out w1 HB1.out)
          clear hB1 HIn HB HO HRr HSr
          go_wp2_with fail
          refine HNx.out.mono ?_
          rintro e w2 ⟨rfl, hB2⟩
          have HB2 := Lib.hid (HB1.out.trans (hB2.mono HB1.out.size))
          have HO2 := Lib.hid (owns_stays HO1.out hB2)
          have hbs := HB2.out.size
          have hc := HO2.out.cells (g := g) rfl (q * 2 + 1) _ HFl.out
          simp only [addr_add] at hc
          have z4 : w2.frozen? ⟨g, q * 2 + 1, none⟩ = false := HO2.out.frozenAt _
          clear hB2 HNx HB1 HO1
          by_cases hak : a = k
          · subst hak
            have HC2 := Lib.hid (show refW s.length (nxt (tabOf R) s) (insR R s) (o ++ [(f, n)]) n = wrdsR R s by rw [← HC1.out, upd_same])
            have HST := Lib.hid (HO2.out.stored (q * 2 + 1) (.int .i64 (n : Int)))
            have HB7 := Lib.hid (HB2.out.setCell (p := ⟨g, q * 2 + 1, none⟩) hgb (.int .i64 (n : Int)))
            have HNy := Lib.hid (HCall.out _ HB7.out)
            have HFS := Lib.hid (show ((o ++ [(f, a)]).flatMap wenc).set (q * 2 + 1) (.int .i64 (n : Int)) = (o ++ [(f, n)]).flatMap wenc by rw [HQ.out]; exact wflat_last_set o f a n)
            clear HC1
            go_wp2_with fail
            refine HNy.out.mono ?_
            rintro e w8 ⟨rfl, hB8⟩
            have HB8 := Lib.hid (HB7.out.trans (hB8.mono HB7.out.size))
            have HO8 := Lib.hid (owns_stays HST.out.1 hB8)
            clear hB8 HNy
            go_wp2_with fail
            go_roundw
            case rel => exact ⟨n, o ++ [(f, n)], hnl, by rw [List.length_append, ← HQ.out]; show q + 1 ≤ n; omega, rfl, HNb.out.2, HB8.out, by
                          have ho := HO8.out
                          rw [HFS.out] at ho
                          rw [List.length_append, ← HQ.out]; exact ho, HC2.out⟩
            case measure => simp [intOf] <;> omega
          · have q1 : ((a : Int) == (k : Int)) = false := by simp; omega
            have HC2 := Lib.hid (show refW s.length (nxt (tabOf R) s) (insR R s) ((o ++ [(f, a)]) ++ [(k, n)]) n = wrdsR R s by rw [← HC1.out, upd_other _ _ _ _ _ hak])
            clear HC1
            go_wp2_with (at_builtin; refine wpList_app1 _ rfl (.tmp 46) (.tmp 50) _ rfl E2 _ _ _ rfl HO2.out 1 1 (wenc (k, n)) rfl (by decide) rfl (wenc_one _) (by omega) hbs ?_; intro g1 c w7 ho7 hg7 hf7; have HB7 := Lib.hid (below_app HB2.out hbs HO2.out (Nat.le_refl _) hg7); have HO7 := Lib.hid ho7; have HNy := Lib.hid (HCall.out w7 HB7.out); clear ho7 hg7 hf7)
            refine HNy.out.mono ?_
            rintro e w8 ⟨rfl, hB8⟩
            have HB8 := Lib.hid (HB7.out.trans (hB8.mono HB7.out.size))
            have HO8 := Lib.hid (owns_stays HO7.out hB8)
            clear hB8 HNy
            go_wp2_with fail
            go_roundw
            case rel => exact ⟨n, (o ++ [(f, a)]) ++ [(k, n)], hnl, by rw [List.length_append, HOL.out]; show q + 1 + 1 ≤ n; omega, rfl, HNb.out.2, HB8.out, by
                          have ho := HO8.out
                          rw [List.length_append, HOL.out, wflat_snoc]; exact ho, HC2.out⟩
            case measure => simp [intOf] <;> omega
      | false =>
        rw [hin] at HIn
        have HC2 := Lib.hid (show refW s.length (nxt (tabOf R) s) (insR R s) L (nxt (tabOf R) s k) = wrdsR R s by rw [← HC.out, refW_out hlt hn1 hin])
        generalize nxt (tabOf R) s k = n at HCall hn1 HNb HC2
        have hnl := HNb.out.1
        obtain ⟨pa, pc, rfl⟩ := slice_of_owns hO
        have HO := Lib.hid hO
        clear hin HC hbk HBg hb hC hO hB
        go_wp2_with fail
        refine HIn.out.mono ?_
        rintro e w1 ⟨rfl, hB1⟩
        have HB1 := Lib.hid (HB.out.trans (hB1.mono HB.out.size))
        have HO1 := Lib.hid (owns_stays HO.out hB1)
        have HNx := Lib.hid (HCall.out w1 HB1.out)
        clear hB1 HIn HB HO HRr HSr
        go_wp2_with fail
        refine HNx.out.mono ?_
        rintro e w2 ⟨rfl, hB2⟩
        have HB2 := Lib.hid (HB1.out.trans (hB2.mono HB1.out.size))
        have HO2 := Lib.hid (owns_stays HO1.out hB2)
        clear hB2 HNx HB1 HO1
        go_wp2_with fail
        go_roundw
        case rel => exact ⟨n, L, hnl, by omega, rfl, HNb.out.2, HB2.out, HO2.out, HC2.out⟩
        case measure => simp [intOf] <;> omega
    · have hke : k = s.length := by omega
      have HF := Lib.hid (show L = wrdsR R s by rw [← HC.out, refW_end hlt])
      obtain ⟨pa, pc, rfl⟩ := slice_of_owns hO
      have HO := Lib.hid hO
      clear hO hB hC hb
      subst hke
      clear hlt hk
      go_wp2_with fail
      go_ret
      exact ⟨_, rfl, HB.out, by rw [← HF.out]; exact rd_of_owns HO.out⟩
end
end Go.Proofs.Ytpgeccgfkcjcoaa
