/- Joined texts: SegE. -/
import Derived.Test.YtkeainhjghdfcaaGreatSwaz
import Derived.Test.YtkeainhjghdfcaaGreatSway

/- seg: Starts, Next. -/
namespace Go.Proofs.YtkeainhjghdfcaaGreat
open Go.RowKit

/-- the block b holds the state st -/
def stRow (w : World) (b : Nat) (st : St) : Prop := w.heap[b]? = some (.cells #[.bool st.some, .int .i64 st.last, .int .i64 st.pict, .int .i64 st.conj, .bool st.odd] 175 (0, 0))
theorem stRow_set {w : World} {b : Nat} {old : St} (h : stRow w b old) (n : St) : stRow (((((w.setCell ⟨b, 0, none⟩ (.bool n.some)).setCell ⟨b, 1, none⟩ (.int .i64 n.last)).setCell ⟨b, 2, none⟩ (.int .i64 n.pict)).setCell ⟨b, 3, none⟩ (.int .i64 n.conj)).setCell ⟨b, 4, none⟩ (.bool n.odd)) b n := by
  unfold stRow at h ⊢
  exact heap_setCell_same _ _ _ _ _ _ (heap_setCell_same _ _ _ _ _ _ (heap_setCell_same _ _ _ _ _ _ (heap_setCell_same _ _ _ _ _ _ (heap_setCell_same _ _ _ _ _ _ h))))
theorem stRow.kept {w w' : World} {b : Nat} {st : St} (h : stRow w b st) (hb : Below w.heap.size w w') : stRow w' b st := by
  have hl : b < w.heap.size := by
    unfold stRow at h
    exact (Array.getElem?_eq_some_iff.1 h).1
  exact (hb.block b hl).trans h
theorem stRow.lt {w : World} {b : Nat} {st : St} (h : stRow w b st) : b < w.heap.size := (Array.getElem?_eq_some_iff.1 (show w.heap[b]? = _ from h)).1
theorem owns_store {w : World} {base e size n b i : Nat} {v u : Value} {xs : List Value} (h : w.ownsRow base e size v n xs) (hb : b < base) : (w.setCell ⟨b, i, none⟩ u).ownsRow base e size v n xs :=
  h.kept (setCell_grown w ⟨b, i, none⟩ u) (.inr (fun e => by have := (h.lt _ e).1; simp at this; omega))
theorem startsF_step {T : Tab} {st : St} {s : List Int} {k : Nat} {x : Int} (hx : s[k]? = some x) : startsF T st k (s.drop k) = (if cutB T st x then [k] else []) ++ startsF T (nextSt T st x) (k + 1) (s.drop (k + 1)) := by
  rw [drop_of_get hx]
  simp only [startsF]
  split <;> simp
section
variable {R : List Rw} {s : List Int} {w : World} {sv : Value} {tp : Nat}
set_option maxRecDepth 100000 in
set_option maxHeartbeats 8000000 in
theorem starts_any (H : (tabOf R).Ok) (hT : Tb R w tp) (hs : RunesIn w sv s) (ok : RunesOk s) (hl : s.length ≤ 1000000) :
    Calls Tryz.prog 61 #[.pointer (some ⟨tp, 0, none⟩), sv] w (IntsPost w (starts (tabOf R) s)) := by
  have HT := Lib.hid hT
  have HS := Lib.hid hs
  have HOk := Lib.hid ok
  have HSt := Lib.hid (starts_of H s)
  obtain ⟨sl, cap, rfl, hcap, hmax, _⟩ := runes_cells hs
  unfold maxLen at hmax
  have hW := (Below.refl w.heap.size w).alloc (Nat.le_refl _) (.cells #[.bool false, .int .i64 0, .int .i64 0, .int .i64 0, .bool false] 175)
  have hR0 : stRow (w.alloc (.cells #[.bool false, .int .i64 0, .int .i64 0, .int .i64 0, .bool false] 175)) w.heap.size St0 := heap_alloc_new w _
  have HW := Lib.hid hW
  have HR0 := Lib.hid hR0
  clear hT hs ok hW hR0
  go_enter Tryz.func61, Tryz.ntmps61
  go_wp2_with fail
  go_loopw [6, 13] (fun ov iv wr => ∃ (k : Nat) (L : List Nat) (st : St), k ≤ s.length ∧ L.length ≤ k ∧ iv = .int .i64 ((k : Nat) : Int) ∧ Below w.heap.size w wr ∧ wr.ownsRow (w.heap.size + 1) 3 1 ov L.length (L.flatMap nE) ∧ stRow wr w.heap.size st ∧ L ++ startsF (tabOf R) st k (s.drop k) = starts (tabOf R) s) (fun _ iv _ => s.length - (intOf iv).toNat)
  case atStart => exact ⟨0, [], St0, Nat.zero_le _, Nat.le_refl _, rfl, HW.out, World.ownsRow_nil _ _ _ _, HR0.out, HSt.out⟩
  case round =>
    obtain ⟨k, L, st, hk, hLk, rfl, hB, hO, hR, hE⟩ := hrel
    have HB := Lib.hid hB
    have HE := Lib.hid hE
    have HRr := Lib.hid hR
    obtain ⟨pa, pc, rfl⟩ := slice_of_owns hO
    have HO := Lib.hid hO
    clear hB hO hE
    by_cases hlt : k < s.length
    · obtain ⟨x, hx⟩ : ∃ x, s[k]? = some x := ⟨s[k], List.getElem?_eq_getElem hlt⟩
      have HI := Lib.hid (HOk.out.get hx)
      have HD := Lib.hid (startsF_step (T := tabOf R) (st := st) hx)
      obtain ⟨b0, off, cap', hv, _, _, _, _, d0⟩ := rune_cell (HS.out.below HB.out) hx
      cases hv
      obtain ⟨s0, s1, s2, s3, s4⟩ := st
      have c0 : wr.cell? ⟨w.heap.size, 0, none⟩ = some (.bool s0) := row_cells hR rfl
      have c1 : wr.cell? ⟨w.heap.size, 1, none⟩ = some (.int .i64 s1) := row_cells hR rfl
      have c2 : wr.cell? ⟨w.heap.size, 2, none⟩ = some (.int .i64 s2) := row_cells hR rfl
      have c3 : wr.cell? ⟨w.heap.size, 3, none⟩ = some (.int .i64 s3) := row_cells hR rfl
      have c4 : wr.cell? ⟨w.heap.size, 4, none⟩ = some (.bool s4) := row_cells hR rfl
      have HCall := Lib.hid (step_any ⟨s0, s1, s2, s3, s4⟩ x wr (HT.out.below HB.out) HI.out)
      clear hx hR
      go_wp2_with fail
      refine HCall.out.mono ?_
      rintro e w1 ⟨rfl, hB1⟩
      generalize hn : nextSt (tabOf R) ⟨s0, s1, s2, s3, s4⟩ x = n at HD ⊢
      obtain ⟨n0, n1, n2, n3, n4⟩ := n
      unfold stV
      dsimp only
      have HR1 := Lib.hid (HRr.out.kept hB1)
      have HO1 := Lib.hid (owns_stays HO.out hB1)
      have HB1 := Lib.hid (HB.out.trans (hB1.mono HB.out.size))
      have hsb1 := HR1.out.lt
      clear hn hB1 HRr HO HB c0 c1 c2 c3 c4 d0
      cases hc : cutB (tabOf R) ⟨s0, s1, s2, s3, s4⟩ x with
      | true =>
        have HN := Lib.hid (show (L ++ [k]) ++ startsF (tabOf R) ⟨n0, n1, n2, n3, n4⟩ (k + 1) (s.drop (k + 1)) = starts (tabOf R) s by rw [← HE.out, HD.out, hc]; simp)
        clear hc
        have HOa := Lib.hid (World.ownsRow.alloc HO1.out (.cells #[.bool n0, .int .i64 n1, .int .i64 n2, .int .i64 n3, .bool n4] 175))
        have HBa := Lib.hid (HB1.out.alloc HB1.out.size (.cells #[.bool n0, .int .i64 n1, .int .i64 n2, .int .i64 n3, .bool n4] 175))
        have hbl : w.heap.size + 1 ≤ (w1.alloc (.cells #[.bool n0, .int .i64 n1, .int .i64 n2, .int .i64 n3, .bool n4] 175)).heap.size := by simp; omega
        have HNr := Lib.hid (show stRow (w1.alloc (.cells #[.bool n0, .int .i64 n1, .int .i64 n2, .int .i64 n3, .bool n4] 175)) w1.heap.size ⟨n0, n1, n2, n3, n4⟩ from heap_alloc_new w1 _)
        have HSr := Lib.hid (show stRow (w1.alloc (.cells #[.bool n0, .int .i64 n1, .int .i64 n2, .int .i64 n3, .bool n4] 175)) w.heap.size ⟨s0, s1, s2, s3, s4⟩ from (Below.heap_alloc _ _ _ hsb1).trans HR1.out)
        have HSz := Lib.hid (show (w1.alloc (.cells #[.bool n0, .int .i64 n1, .int .i64 n2, .int .i64 n3, .bool n4] 175)).heap.size = w1.heap.size + 1 by simp)
        go_wp2_with (at_builtin; refine wpList_app1 _ rfl (.tmp 26) (.tmp 28) _ rfl EI _ _ _ rfl HOa.out 1 1 (nE k) (by rw [HSz.out]; rfl) (by decide) rfl (nE_one k) (by omega) hbl ?_; intro g cap w7 ho7 hg7 hf7; have HB2 := Lib.hid (below_app HBa.out HBa.out.size HOa.out (by omega) hg7); have hS7 : stRow w7 w.heap.size ⟨s0, s1, s2, s3, s4⟩ := (hg7.block _ (HSr.out.lt) (fun e => by have := (HOa.out.lt _ e.symm).1; omega)).trans HSr.out; have hN7 : stRow w7 w1.heap.size ⟨n0, n1, n2, n3, n4⟩ := (hg7.block _ (HNr.out.lt) (fun e => by have := (HO1.out.lt _ e.symm).2; omega)).trans HNr.out; have HO2 := Lib.hid ho7; have e0 : w7.cell? ⟨w1.heap.size, 0, none⟩ = some (.bool n0) := row_cells hN7 rfl; have e1 : w7.cell? ⟨w1.heap.size, 1, none⟩ = some (.int .i64 n1) := row_cells hN7 rfl; have e2 : w7.cell? ⟨w1.heap.size, 2, none⟩ = some (.int .i64 n2) := row_cells hN7 rfl; have e3 : w7.cell? ⟨w1.heap.size, 3, none⟩ = some (.int .i64 n3) := row_cells hN7 rfl; have e4 : w7.cell? ⟨w1.heap.size, 4, none⟩ = some (.bool n4) := row_cells hN7 rfl; have c0 : w7.cell? ⟨w.heap.size, 0, none⟩ = some (.bool s0) := row_cells hS7 rfl; have c1 : w7.cell? ⟨w.heap.size, 1, none⟩ = some (.int .i64 s1) := row_cells hS7 rfl; have c2 : w7.cell? ⟨w.heap.size, 2, none⟩ = some (.int .i64 s2) := row_cells hS7 rfl; have c3 : w7.cell? ⟨w.heap.size, 3, none⟩ = some (.int .i64 s3) := row_cells hS7 rfl; have c4 : w7.cell? ⟨w.heap.size, 4, none⟩ = some (.bool s4) := row_cells hS7 rfl; have y0 := row_warm hS7 0; have y1 := row_warm hS7 1; have y2 := row_warm hS7 2; have y3 := row_warm hS7 3; have y4 := row_warm hS7 4; have HS7 := Lib.hid hS7; clear ho7 hg7 hf7 hS7 hN7)
        go_wp2_with fail
        go_roundw
        case rel => exact ⟨k + 1, L ++ [k], ⟨n0, n1, n2, n3, n4⟩, by omega, by simp; omega, by go_num, ((((HB2.out.setCell (Nat.le_refl _) _).setCell (Nat.le_refl _) _).setCell (Nat.le_refl _) _).setCell (Nat.le_refl _) _).setCell (Nat.le_refl _) _, by
                      have ho := owns_store (owns_store (owns_store (owns_store (owns_store HO2.out (b := w.heap.size) (i := 0) (u := .bool n0) (by omega)) (b := w.heap.size) (i := 1) (u := .int .i64 n1) (by omega)) (b := w.heap.size) (i := 2) (u := .int .i64 n2) (by omega)) (b := w.heap.size) (i := 3) (u := .int .i64 n3) (by omega)) (b := w.heap.size) (i := 4) (u := .bool n4) (by omega)
                      rw [flat_snoc, List.length_append]; exact ho, stRow_set HS7.out ⟨n0, n1, n2, n3, n4⟩, HN.out⟩
        case measure => simp [intOf] <;> omega
      | false =>
        have HN := Lib.hid (show L ++ startsF (tabOf R) ⟨n0, n1, n2, n3, n4⟩ (k + 1) (s.drop (k + 1)) = starts (tabOf R) s by rw [← HE.out, HD.out, hc]; simp)
        clear hc
        have HO2 := Lib.hid (World.ownsRow.alloc HO1.out (.cells #[.bool n0, .int .i64 n1, .int .i64 n2, .int .i64 n3, .bool n4] 175))
        have HB2 := Lib.hid (HB1.out.alloc HB1.out.size (.cells #[.bool n0, .int .i64 n1, .int .i64 n2, .int .i64 n3, .bool n4] 175))
        have hS7 : stRow (w1.alloc (.cells #[.bool n0, .int .i64 n1, .int .i64 n2, .int .i64 n3, .bool n4] 175)) w.heap.size ⟨s0, s1, s2, s3, s4⟩ := (Below.heap_alloc _ _ _ hsb1).trans HR1.out
        have c0 : (w1.alloc (.cells #[.bool n0, .int .i64 n1, .int .i64 n2, .int .i64 n3, .bool n4] 175)).cell? ⟨w.heap.size, 0, none⟩ = some (.bool s0) := row_cells hS7 rfl
        have c1 : (w1.alloc (.cells #[.bool n0, .int .i64 n1, .int .i64 n2, .int .i64 n3, .bool n4] 175)).cell? ⟨w.heap.size, 1, none⟩ = some (.int .i64 s1) := row_cells hS7 rfl
        have c2 : (w1.alloc (.cells #[.bool n0, .int .i64 n1, .int .i64 n2, .int .i64 n3, .bool n4] 175)).cell? ⟨w.heap.size, 2, none⟩ = some (.int .i64 s2) := row_cells hS7 rfl
        have c3 : (w1.alloc (.cells #[.bool n0, .int .i64 n1, .int .i64 n2, .int .i64 n3, .bool n4] 175)).cell? ⟨w.heap.size, 3, none⟩ = some (.int .i64 s3) := row_cells hS7 rfl
        have c4 : (w1.alloc (.cells #[.bool n0, .int .i64 n1, .int .i64 n2, .int .i64 n3, .bool n4] 175)).cell? ⟨w.heap.size, 4, none⟩ = some (.bool s4) := row_cells hS7 rfl
        have y0 := row_warm hS7 0
        have y1 := row_warm hS7 1
        have y2 := row_warm hS7 2
        have y3 := row_warm hS7 3
        have y4 := row_warm hS7 4
        have hN7 : stRow (w1.alloc (.cells #[.bool n0, .int .i64 n1, .int .i64 n2, .int .i64 n3, .bool n4] 175)) w1.heap.size ⟨n0, n1, n2, n3, n4⟩ := heap_alloc_new w1 _
        have e0 : (w1.alloc (.cells #[.bool n0, .int .i64 n1, .int .i64 n2, .int .i64 n3, .bool n4] 175)).cell? ⟨w1.heap.size, 0, none⟩ = some (.bool n0) := row_cells hN7 rfl
        have e1 : (w1.alloc (.cells #[.bool n0, .int .i64 n1, .int .i64 n2, .int .i64 n3, .bool n4] 175)).cell? ⟨w1.heap.size, 1, none⟩ = some (.int .i64 n1) := row_cells hN7 rfl
        have e2 : (w1.alloc (.cells #[.bool n0, .int .i64 n1, .int .i64 n2, .int .i64 n3, .bool n4] 175)).cell? ⟨w1.heap.size, 2, none⟩ = some (.int .i64 n2) := row_cells hN7 rfl
        have e3 : (w1.alloc (.cells #[.bool n0, .int .i64 n1, .int .i64 n2, .int .i64 n3, .bool n4] 175)).cell? ⟨w1.heap.size, 3, none⟩ = some (.int .i64 n3) := row_cells hN7 rfl
        have e4 : (w1.alloc (.cells #[.bool n0, .int .i64 n1, .int .i64 n2, .int .i64 n3, .bool n4] 175)).cell? ⟨w1.heap.size, 4, none⟩ = some (.bool n4) := row_cells hN7 rfl
        go_upto_region 9 with fail
        generalize (w1.alloc (.cells #[.bool n0, .int .i64 n1, .int .i64 n2, .int .i64 n3, .bool n4] 175)) = w7 at HO2 HB2 hS7 e0 e1 e2 e3 e4 c0 c1 c2 c3 c4 y0 y1 y2 y3 y4 ⊢
        have HS7 := Lib.hid hS7
        clear hS7 hN7
        go_wp2_with fail
        go_roundw
        case rel => exact ⟨k + 1, L, ⟨n0, n1, n2, n3, n4⟩, by omega, by omega, by go_num, ((((HB2.out.setCell (Nat.le_refl _) _).setCell (Nat.le_refl _) _).setCell (Nat.le_refl _) _).setCell (Nat.le_refl _) _).setCell (Nat.le_refl _) _,
                      owns_store (owns_store (owns_store (owns_store (owns_store HO2.out (by omega)) (by omega)) (by omega)) (by omega)) (by omega), stRow_set HS7.out ⟨n0, n1, n2, n3, n4⟩, HN.out⟩
        case measure => simp [intOf] <;> omega
    · have hke : k = s.length := by omega
      subst hke
      have HF := Lib.hid (show L = starts (tabOf R) s by rw [← HE.out, List.drop_length]; simp [startsF])
      clear hlt hk
      go_wp2_with fail
      go_ret
      exact ⟨_, rfl, HB.out, by rw [← HF.out]; exact ints_of_owns HO.out⟩
end
end Go.Proofs.YtkeainhjghdfcaaGreat
