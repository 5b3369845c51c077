/- Joined texts: TokI TokJ. -/
import Derived.Test.YthlpelfogplomaaZfac
import Derived.Test.YthlpelfogplomaaZeab
/- word.Split: its walk. -/
namespace Go.Proofs.Ythlpelfogplomaa
open Go.RowKit

theorem ETk : ElemT Try.prog 37 44 3 40 := elemT_of (by kernel_rfl) (z := .agg #[.int .i64 0, .int .i64 0, .slice none 0 0]) (by kernel_rfl) rfl (by decide) (by decide)
theorem tkE_one (t : Int × Int × Value) (h : t.2.2.oneCell' = true) : ∀ u ∈ tkE t, u.oneCell' = true := by
  intro u hu
  simp only [tkE, List.mem_cons, List.not_mem_nil, or_false] at hu
  rcases hu with rfl | rfl | rfl
  · rfl
  · rfl
  · exact h
section
variable {n : Nat} {out : List Tk} {r : Int} {s : List Int} {k m : Nat} {x : Int} {a : List Int}
theorem spl_blk (hx : s[k]? = some x) (h : blkR x = true) : splS s.length out (s.drop k) = splS s.length out (s.drop (k + 1)) := by
  rw [drop_head hx, spl_blank h]
theorem spl_no (hx : s[k]? = some x) (h : blkR x = false) (ht : tok [] (s.drop k) = none) : splS s.length out (s.drop k) = .error k := by
  have hk := (List.getElem?_eq_some_iff.1 hx).1
  rw [drop_head hx] at ht ⊢
  rw [spl_none h ht, List.length_drop]
  congr 1
  omega
theorem spl_yes (hx : s[k]? = some x) (h : blkR x = false) (hm : m ≤ s.length) (ht : tok [] (s.drop k) = some (a, s.drop m)) : splS s.length out (s.drop k) = splS s.length (out ++ [(k, m, a)]) (s.drop m) := by
  have hk := (List.getElem?_eq_some_iff.1 hx).1
  rw [drop_head hx] at ht ⊢
  rw [spl_some h ht, List.length_drop, List.length_drop, show s.length - (s.length - (k + 1) + 1) = k by omega, show s.length - (s.length - m) = m by omega]
theorem tok_on (hx : s[k]? = some x) (h : blkR x = false) (hm : m ≤ s.length) (ht : tok [] (s.drop k) = some (a, s.drop m)) : k < m := by
  have hk := (List.getElem?_eq_some_iff.1 hx).1
  rw [drop_head hx] at ht
  have := tok_less h ht
  rw [List.length_drop, List.length_drop] at this
  omega
end
/-- the tokens, a row behind which nothing else lies in T's cells but those -/
theorem TksIn.dN {T : TypeId} {w : World} {base : Nat} {v : Value} {L : List Tk} (h : TksIn T w base v L) (m : Nat) : TksIn T (w.drewN m) base v L := h
section
variable {w : World} {sv : Value} {s : List Int}
set_option maxRecDepth 100000 in
set_option maxHeartbeats 8000000 in
theorem wsplit_any (hs : RunesIn w sv s) (hl : s.length ≤ 100000) : Calls Try.prog 17 #[sv] w (SplPost 44 s w) := by
  obtain ⟨sl, cap, rfl, hcap, hmax, _⟩ := runes_cells hs
  unfold maxLen at hmax
  have HS := Lib.hid hs
  clear hs
  go_enter Try.func17, Try.ntmps17
  go_wp2_with fail
  have HB0 := Lib.hid (below1 w (.cells #[.slice sl s.length cap, .int .i64 0] 102))
  have HC0 := Lib.hid (show Cw (w.alloc (.cells #[.slice sl s.length cap, .int .i64 0] 102)) w.heap.size (.slice sl s.length cap) s 0 from ⟨heap_alloc_new w _, Rd.below HS.out HB0.out (Nat.le_refl _)⟩)
  generalize w.alloc (.cells #[.slice sl s.length cap, .int .i64 0] 102) = w5 at HB0 HC0 ⊢
  obtain ⟨c, hc⟩ : ∃ c, w.heap.size = c := ⟨_, rfl⟩
  have HH := Lib.hid hc
  rw [hc] at HB0 HC0 ⊢
  clear hc
  go_loopw [6] (fun ov wr => ∃ (k : Nat) (L : List Tk), k ≤ s.length ∧ Cw wr c (.slice sl s.length cap) s k ∧ Below c w wr ∧ TksIn 44 wr (c + 1) ov L ∧ L.length ≤ k ∧ splS s.length L (s.drop k) = splS s.length [] s) (fun _ wr => s.length - atOf wr c)
  case atStart => exact ⟨0, [], Nat.zero_le _, HC0.out, HB0.out, TksIn.nil _ _ _, Nat.zero_le _, rfl⟩
  case round =>
    obtain ⟨k, L, hk, hC, hB, hL, hlL, hE⟩ := hrel
    have HL := Lib.hid hL
    have HE := Lib.hid hE
    have HlL := Lib.hid hlL
    have HAt := Lib.hid hC.at'
    have hcwr := hC.lt
    have HC := Lib.hid hC
    have HB := Lib.hid hB
    obtain ⟨pa, pc, rfl⟩ := hL.shape
    clear hC hB hL hlL hE
    go_wp2_with fail
    go_loopw [] (fun wr2 => ∃ (k2 : Nat), k ≤ k2 ∧ k2 ≤ s.length ∧ Cw wr2 c (.slice sl s.length cap) s k2 ∧ Kept (fun j => j = c) wr wr2 ∧ splS s.length L (s.drop k2) = splS s.length [] s) (fun wr2 => s.length - atOf wr2 c)
    case atStart => exact ⟨k, Nat.le_refl _, hk, HC.out, Kept.refl _ _, HE.out⟩
    case round =>
      rename World => wr2
      obtain ⟨k2, hk1, hk2, hC, hK, hE⟩ := hrel
      have HC2 := Lib.hid hC
      have HK2 := Lib.hid hK
      have HE2 := Lib.hid hE
      have HAt2 := Lib.hid hC.at'
      have hcs := hC.lt
      have x1 : wr2.cell? ⟨c, 1, none⟩ = some (.int .i64 (k2 : Int)) := row_cells (i := 1) hC.b rfl
      have z1 := row_warm hC.b 1
      by_cases hlt : k2 < s.length
      · obtain ⟨x, hx⟩ : ∃ x, s[k2]? = some x := ⟨s[k2], List.getElem?_eq_getElem hlt⟩
        obtain ⟨rb, roff, rcap, hv, hrb, l0⟩ := hC.rune hx
        cases hv
        have HX := Lib.hid hx
        have s0 : (k2 : Int) < (s.length : Int) := by omega
        have s1 : (0 : Int) ≤ (k2 : Int) := by omega
        have s2 : ((k2 : Int) == (s.length : Int)) = false := by simp; omega
        have HBk := Lib.hid (wblank_any x)
        have e1 := IntWalk.i64_in ((k2 : Int) + 1) (by omega)
        clear hC hK hE hx hlt
        go_wp2_with fail
        refine (HBk.out _).mono ?_
        rintro e w' ⟨rfl, rfl⟩
        by_cases hbl : blkR x = true
        · rw [hbl]
          have HN := Lib.hid (show splS s.length L (s.drop (k2 + 1)) = splS s.length [] s by rw [← HE2.out, spl_blk HX.out hbl])
          clear hbl
          go_wp2_with fail
          go_roundw
          case rel => exact ⟨k2 + 1, by omega, by omega, HC2.out.step (k2 + 1), HK2.out.trans (kept_setCell _ _ _ rfl), HN.out⟩
          case measure =>
            show s.length - atOf (wr2.setCell ⟨c, 1, none⟩ (.int .i64 ((k2 + 1 : Nat) : Int))) c < s.length - atOf wr2 c
            rw [(HC2.out.step (k2 + 1)).at', HAt2.out]; omega
        · have hbl : blkR x = false := Bool.eq_false_iff.2 hbl
          have HBl := Lib.hid hbl
          rw [hbl]
          have HTk := Lib.hid (token_any HC2.out (by omega) hl)
          clear hbl HBk
          go_wp2_with fail
          refine HTk.out.mono ?_
          rintro e w4 ⟨m, hm1, hm2, hK4, hC4, t, ua, un, uc, ok, rfl, hR⟩
          have hB4 : Below c w w4 := (HB.out.trans (HK2.out.below (by omega) (fun j hj => Nat.le_of_eq hj.symm))).trans (hK4.below (by omega) (fun j hj => Nat.le_of_eq hj.symm))
          have hs4 := hC4.lt
          have HC4 := Lib.hid hC4
          have HL4 := Lib.hid ((HL.out.keep HK2.out (fun j hj => by omega)).keep hK4 (fun j hj => by omega))
          have HB4 := Lib.hid hB4
          cases ok
          · have HR := Lib.hid (show splS s.length [] s = .error k2 by rw [← HE2.out, spl_no HX.out HBl.out (by rcases hR with ⟨_, _, h, _⟩ | ⟨h, _⟩; cases h; exact h)])
            clear hR hK4 hC4 hB4 x1 z1 l0
            go_wp2_with fail
            go_quiet (fail)
            go_wp2_with fail
            go_ret3
            unfold SplPost
            rw [HR.out, HH.out]
            exact ⟨_, _, _, rfl, below_dN (HB4.out.alloc (by omega) _) _, rfl, rfl, rfl⟩
          · obtain ⟨a, hta, rfl, htv⟩ : ∃ a, tok [] (s.drop k2) = some (a, s.drop m) ∧ t = (m : Int) ∧ w4.ownsRow wr2.heap.size 21 1 (.slice ua un uc) a.length (a.flatMap runeE) := by
              rcases hR with ⟨a, h1, _, h2, h3⟩ | ⟨_, h⟩
              · exact ⟨a, h1, h2, h3⟩
              · cases h
            have hkm := tok_on HX.out HBl.out hm2 hta
            have HN := Lib.hid (show splS s.length (L ++ [(k2, m, a)]) (s.drop m) = splS s.length [] s by rw [← HE2.out, spl_yes HX.out HBl.out hm2 hta])
            obtain ⟨_, _, hv⟩ := slice_of_owns htv
            cases hv
            have hb6 := below1 w4 (.cells #[.int .i64 (k2 : Int), .int .i64 (m : Int), .slice ua a.length uc] 44)
            have HC6 := Lib.hid (HC4.out.keep (Kept.of_below (P := fun j => c < j) hb6))
            have HB6 := Lib.hid (HB4.out.alloc (by omega) (.cells #[.int .i64 (k2 : Int), .int .i64 (m : Int), .slice ua a.length uc] 44))
            have HV6 := Lib.hid (owns_lower (b' := c + 1) (owns_stays htv hb6) (by omega))
            obtain ⟨ts, g1, g2, g3⟩ := HL4.out.later hb6
            have HO6 := Lib.hid g2
            have HG3 := Lib.hid g3
            have hbs6 : c + 1 ≤ (w4.alloc (.cells #[.int .i64 (k2 : Int), .int .i64 (m : Int), .slice ua a.length uc] 44)).heap.size := by simp; omega
            have hbig : (ts.length + 1) * 40 ≤ 140737488355328 := by have := HlL.out; omega
            have hr := heap_alloc_new w4 (.cells #[.int .i64 (k2 : Int), .int .i64 (m : Int), .slice ua a.length uc] 44)
            clear hR hK4 hC4 hB4 x1 z1 l0 hta htv hb6 g2 g3 HL4 HC4 HB4
            go_upto_region 10 with fail
            generalize w4.alloc (.cells #[.int .i64 (k2 : Int), .int .i64 (m : Int), .slice ua a.length uc] 44) = w6 at HC6 HB6 HV6 HO6 HG3 hbs6 hr ⊢
            generalize w4.heap.size = p at hr ⊢
            have q0 : w6.cell? ⟨p, 0, none⟩ = some (.int .i64 (k2 : Int)) := row_cells (i := 0) hr rfl
            have q1 : w6.cell? ⟨p, 1, none⟩ = some (.int .i64 (m : Int)) := row_cells (i := 1) hr rfl
            have q2 : w6.cell? ⟨p, 2, none⟩ = some (.slice ua a.length uc) := row_cells (i := 2) hr rfl
            clear hr
            go_wp2_with (at_builtin; go_loud (refine wpList_app1 (base := c + 1) _ rfl (.tmp 53) (.tmp 55) _ rfl ETk _ _ _ rfl HO6.out 1 1 (tkE ((k2 : Int), (m : Int), .slice ua a.length uc)) rfl (by decide) rfl (tkE_one _ rfl) hbig hbs6 ?_); intro g cp7 w7 ho7 hg7 hf7; have HL7 := Lib.hid (TksIn.push (f := k2) (t := m) g1 HO6.out HG3.out (by decide) HV6.out ho7 hg7); have HKg := Lib.hid (Kept.of_grown (P := fun j => c < j) hg7 (fun b e => (HO6.out.lt b e).1)); have HC7 := Lib.hid (HC6.out.keep HKg.out); have HB7 := Lib.hid (HB6.out.trans (HKg.out.below (by omega) (fun j hj => Nat.le_of_lt hj))); clear ho7 hg7 hf7)
            go_roundw
            case rel => exact ⟨m, L ++ [(k2, m, a)], hm2, HC7.out, HB7.out, by rw [← g1]; exact HL7.out, by rw [List.length_append]; have := HlL.out; simp; omega, HN.out⟩
            case measure => rw [HC7.out.at', HAt.out]; omega
      · have hke : k2 = s.length := by omega
        subst hke
        have s0 : ¬ s.length < s.length := hlt
        have HR := Lib.hid (show splS s.length [] s = .ok L by rw [← hE, List.drop_length]; rfl)
        clear hC hK hE hlt
        go_wp2_with fail
        go_ret3
        unfold SplPost
        rw [HR.out, HH.out]
        exact ⟨_, _, _, rfl, HB.out.trans (HK2.out.below (by omega) (fun j hj => Nat.le_of_eq hj.symm)), rfl, rfl, (HL.out.keep HK2.out (fun j hj => by omega)).lower (by omega)⟩
end
end Go.Proofs.Ythlpelfogplomaa

/- The document's Split: its walk. -/
namespace Go.Proofs.Ythlpelfogplomaa
open Go.RowKit

theorem ERTk : ElemT Try.prog 40 45 3 40 := elemT_of (by kernel_rfl) (z := .agg #[.int .i64 0, .int .i64 0, .slice none 0 0]) (by kernel_rfl) rfl (by decide) (by decide)
/-- what is told of one token, plainly -/
theorem tok_suf : ∀ (n : Nat) (acc s a t : List Int), s.length ≤ n → tok acc s = some (a, t) → ∃ m, t = s.drop m
  | _, acc, [], a, t, _, h => by rw [tok_nil] at h; cases h; exact ⟨0, rfl⟩
  | 0, acc, r :: s, a, t, h, _ => by simp at h
  | n + 1, acc, r :: s, a, t, hn, h => by
    simp only [List.length_cons] at hn
    rw [tok_cons] at h
    split at h
    · cases h; exact ⟨0, rfl⟩
    · split at h
      · cases hq : quoF r acc s with
        | none => rw [hq] at h; cases h
        | some p =>
          obtain ⟨b, u⟩ := p
          rw [hq] at h
          have h1 := quoF_len r s.length acc s b u (Nat.le_refl _) hq
          obtain ⟨m, rfl⟩ := quo_suf r s.length acc s b u (Nat.le_refl _) hq
          obtain ⟨m2, rfl⟩ := tok_suf n b _ a t (by omega) h
          exact ⟨m2 + m + 1, by rw [List.drop_succ_cons, List.drop_drop]; congr 1; omega⟩
      · split at h
        · cases s with
          | nil => cases h
          | cons x s =>
            simp only [List.length_cons] at hn
            obtain ⟨m, rfl⟩ := tok_suf n _ s a t (by omega) h
            exact ⟨m + 2, rfl⟩
        · obtain ⟨m, rfl⟩ := tok_suf n _ s a t (by omega) h
          exact ⟨m + 1, rfl⟩
where
  quo_suf (q : Int) : ∀ (n : Nat) (acc s a t : List Int), s.length ≤ n → quoF q acc s = some (a, t) → ∃ m, t = s.drop m
  | _, acc, [], a, t, _, h => by simp [quoF] at h
  | _, acc, [r], a, t, _, h => by
    unfold quoF at h
    split at h
    · cases h; exact ⟨1, rfl⟩
    · cases h
  | 0, acc, r :: x :: s, a, t, hn, h => by simp at hn
  | n + 1, acc, r :: x :: s, a, t, hn, h => by
    simp only [List.length_cons] at hn
    unfold quoF at h
    split at h
    · cases h; exact ⟨1, rfl⟩
    · split at h
      · obtain ⟨m, rfl⟩ := quo_suf q n _ s a t (by omega) h
        exact ⟨m + 2, rfl⟩
      · obtain ⟨m, rfl⟩ := quo_suf q n _ (x :: s) a t (by simp; omega) h
        exact ⟨m + 1, rfl⟩
section
variable {w : World} {sv : Value} {s : List Int}
theorem tok_post {n : Nat} {e : Ending} {w' : World} (_hn : n ≤ s.length) (h : TokPost s n w e w') : ∃ (f t : Int) (ua : Option Addr) (un uc : Nat) (ok : Bool), e = .returned (.tuple #[.agg #[.int .i64 f, .int .i64 t, .slice ua un uc], .bool ok]) ∧ Below w.heap.size w w' ∧
    ((∃ a m, tok [] (s.drop n) = some (a, s.drop m) ∧ m ≤ s.length ∧ ok = true ∧ f = (n : Int) ∧ t = (m : Int) ∧ w'.ownsRow w.heap.size 21 1 (.slice ua un uc) a.length (a.flatMap runeE)) ∨ (tok [] (s.drop n) = none ∧ ok = false)) := by
  obtain ⟨f, t, ua, un, uc, ok, rfl, hB, hM⟩ := h
  refine ⟨f, t, ua, un, uc, ok, rfl, hB, ?_⟩
  cases hk : tok [] (s.drop n) with
  | none => rw [hk] at hM; exact .inr ⟨rfl, hM⟩
  | some p =>
    obtain ⟨a, r⟩ := p
    rw [hk] at hM
    obtain ⟨h1, h2, h3, h4⟩ := hM
    obtain ⟨m, hm⟩ := tok_suf _ _ _ _ _ (Nat.le_refl _) hk
    rw [List.drop_drop] at hm
    subst hm
    by_cases hle : n + m ≤ s.length
    · exact .inl ⟨a, n + m, rfl, hle, h1, h2, by rw [h3, List.length_drop]; congr 1; omega, h4⟩
    · rw [List.drop_eq_nil_of_le (by omega)] at h3 ⊢
      exact .inl ⟨a, s.length, by rw [List.drop_length], Nat.le_refl _, h1, h2, by rw [h3]; simp, h4⟩
set_option maxRecDepth 100000 in
set_option maxHeartbeats 8000000 in
theorem rsplit_any (hs : RunesIn w sv s) (hl : s.length ≤ 100000) : Calls Try.prog 18 #[sv] w (SplPost 45 s w) := by
  obtain ⟨sl, cap, rfl, hcap, hmax, _⟩ := runes_cells hs
  unfold maxLen at hmax
  have HS := Lib.hid hs
  clear hs
  go_enter Try.func18, Try.ntmps18
  go_wp2_with fail
  go_loopw [5, 6] (fun ov iv wr => ∃ (k : Nat) (L : List Tk), k ≤ s.length ∧ iv = .int .i64 (k : Int) ∧ Below w.heap.size w wr ∧ TksIn 45 wr w.heap.size ov L ∧ L.length ≤ k ∧ splS s.length L (s.drop k) = splS s.length [] s) (fun _ iv _ => s.length - (intOf iv).toNat)
  case atStart => exact ⟨0, [], Nat.zero_le _, rfl, .refl _ _, TksIn.nil _ _ _, Nat.zero_le _, rfl⟩
  case round =>
    obtain ⟨k, L, hk, rfl, hB, hL, hlL, hE⟩ := hrel
    have HL := Lib.hid hL
    have HE := Lib.hid hE
    have HlL := Lib.hid hlL
    have HB := Lib.hid hB
    have hbs := hB.size
    obtain ⟨pa, pc, rfl⟩ := hL.shape
    by_cases hlt : k < s.length
    · obtain ⟨x, hx⟩ : ∃ x, s[k]? = some x := ⟨s[k], List.getElem?_eq_getElem hlt⟩
      obtain ⟨rb, roff, _, hv, _, _, _, _, l0⟩ := rune_cell (HS.out.below hB) hx
      cases hv
      have HX := Lib.hid hx
      have s0 : (k : Int) < (s.length : Int) := by omega
      have s1 : (0 : Int) ≤ (k : Int) := by omega
      have e1 := IntWalk.i64_in ((k : Int) + 1) (by omega)
      have HOn := Lib.hid (rone_any (at' := k) (HS.out.below hB) hl (by omega))
      clear hB hL hlL hE hx hlt
      by_cases h32 : x = 32
      · have HN := Lib.hid (show splS s.length L (s.drop (k + 1)) = splS s.length [] s by rw [← HE.out, spl_blk HX.out (by rw [h32]; decide)])
        subst h32
        go_wp2_with fail
        go_roundw
        case rel => exact ⟨k + 1, L, by omega, by go_num, HB.out, HL.out, by have := HlL.out; omega, HN.out⟩
        case measure => simp [intOf] <;> omega
      have q32 : (x == 32) = false := by simpa using h32
      by_cases h9 : x = 9
      · have HN := Lib.hid (show splS s.length L (s.drop (k + 1)) = splS s.length [] s by rw [← HE.out, spl_blk HX.out (by rw [h9]; decide)])
        subst h9
        clear q32 h32
        go_wp2_with fail
        go_roundw
        case rel => exact ⟨k + 1, L, by omega, by go_num, HB.out, HL.out, by have := HlL.out; omega, HN.out⟩
        case measure => simp [intOf] <;> omega
      have q9 : (x == 9) = false := by simpa using h9
      have HBl := Lib.hid (show blkR x = false by unfold blkR; rw [q32, q9]; rfl)
      clear h32 h9
      go_wp2_with fail
      refine HOn.out.mono ?_
      intro e w4 hp
      obtain ⟨f, t, ua, un, uc, ok, rfl, hB4, hR⟩ := tok_post hk hp
      have HB4 := Lib.hid (HB.out.trans (hB4.mono hbs))
      have HL4 := Lib.hid (HL.out.later hB4)
      have hbs4 := hB4.size
      cases ok
      · have HR := Lib.hid (show splS s.length [] s = .error k by rw [← HE.out, spl_no HX.out HBl.out (by rcases hR with ⟨_, _, _, _, h, _⟩ | ⟨h, _⟩; cases h; exact h)])
        clear hR hB4 l0 hp
        go_wp2_with fail
        go_ret3
        unfold SplPost
        rw [HR.out]
        exact ⟨_, _, _, rfl, HB4.out.alloc (by omega) _, rfl, rfl, rfl⟩
      · obtain ⟨a, m, hta, hm2, rfl, rfl, htv⟩ : ∃ a m, tok [] (s.drop k) = some (a, s.drop m) ∧ m ≤ s.length ∧ f = (k : Int) ∧ t = (m : Int) ∧ w4.ownsRow wr.heap.size 21 1 (.slice ua un uc) a.length (a.flatMap runeE) := by
          rcases hR with ⟨a, m, h1, h2, _, h3, h4, h5⟩ | ⟨_, h⟩
          · exact ⟨a, m, h1, h2, h3, h4, h5⟩
          · cases h
        have hkm := tok_on HX.out HBl.out hm2 hta
        have HN := Lib.hid (show splS s.length (L ++ [(k, m, a)]) (s.drop m) = splS s.length [] s by rw [← HE.out, spl_yes HX.out HBl.out hm2 hta])
        obtain ⟨_, _, hv⟩ := slice_of_owns htv
        cases hv
        have hb6 := below1 w4 (.cells #[.int .i64 (k : Int), .int .i64 (m : Int), .slice ua a.length uc] 45)
        have HB6 := Lib.hid (HB4.out.alloc (by omega) (.cells #[.int .i64 (k : Int), .int .i64 (m : Int), .slice ua a.length uc] 45))
        have HV6 := Lib.hid (owns_lower (b' := w.heap.size) (owns_stays htv hb6) hbs)
        obtain ⟨ts, g1, g2, g3⟩ := HL4.out.later hb6
        have HO6 := Lib.hid g2
        have HG3 := Lib.hid g3
        have hbs6 : w.heap.size ≤ (w4.alloc (.cells #[.int .i64 (k : Int), .int .i64 (m : Int), .slice ua a.length uc] 45)).heap.size := by simp; omega
        have hbig : (ts.length + 1) * 40 ≤ 140737488355328 := by have := HlL.out; omega
        have hr := heap_alloc_new w4 (.cells #[.int .i64 (k : Int), .int .i64 (m : Int), .slice ua a.length uc] 45)
        have hpo : ∀ b, (Value.slice pa L.length pc).ownBlock = some b → b ≠ w4.heap.size := fun b e => by
          obtain ⟨_, _, ho, _⟩ := HL4.out
          have := (ho.lt b e).2
          omega
        clear hR hB4 l0 hp hta htv hb6 g2 g3 HL4 HB4
        go_upto_region 9 with fail
        generalize w4.alloc (.cells #[.int .i64 (k : Int), .int .i64 (m : Int), .slice ua a.length uc] 45) = w6 at HB6 HV6 HO6 HG3 hbs6 hr ⊢
        generalize w4.heap.size = p at hr hbs4 hpo ⊢
        have q0 : w6.cell? ⟨p, 0, none⟩ = some (.int .i64 (k : Int)) := row_cells (i := 0) hr rfl
        have q1 : w6.cell? ⟨p, 1, none⟩ = some (.int .i64 (m : Int)) := row_cells (i := 1) hr rfl
        have q2 : w6.cell? ⟨p, 2, none⟩ = some (.slice ua a.length uc) := row_cells (i := 2) hr rfl
        clear hr
        go_wp2_with (at_builtin; go_loud (refine wpList_app1 (base := w.heap.size) _ rfl (.tmp 36) (.tmp 38) _ rfl ERTk _ _ _ rfl HO6.out 1 1 (tkE ((k : Int), (m : Int), .slice ua a.length uc)) rfl (by decide) rfl (tkE_one _ rfl) hbig hbs6 ?_); intro g cp7 w7 ho7 hg7 hf7; have HL7 := Lib.hid (TksIn.push (f := k) (t := m) g1 HO6.out HG3.out (by decide) HV6.out ho7 hg7); have HB7 := Lib.hid (HB6.out.trans ((Kept.of_grown (P := fun j => w.heap.size ≤ j) hg7 (fun b e => (HO6.out.lt b e).1)).below hbs6 (fun j hj => hj))); have q1 : w7.cell? ⟨p, 1, none⟩ = some (.int .i64 (m : Int)) := hg7.cell q1 (by intro e; exact hpo p e.symm rfl); clear ho7 hg7 hf7)
        go_roundw
        case rel => exact ⟨m, L ++ [(k, m, a)], hm2, rfl, HB7.out, by rw [← g1]; exact HL7.out, by rw [List.length_append]; have := HlL.out; simp; omega, HN.out⟩
        case measure => simp [intOf] <;> omega
    · have hke : k = s.length := by omega
      subst hke
      have s0 : ¬ s.length < s.length := hlt
      have HR := Lib.hid (show splS s.length [] s = .ok L by rw [← hE, List.drop_length]; rfl)
      clear hB hL hE hlt hlL
      go_wp2_with fail
      go_ret3
      unfold SplPost
      rw [HR.out]
      exact ⟨_, _, _, rfl, HB.out, rfl, rfl, HL.out⟩
end
end Go.Proofs.Ythlpelfogplomaa
