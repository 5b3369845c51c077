/- Joined texts: SegE SegF SegH SegG SegI. -/
import Derived.Deep.RegionHeld3
import Derived.Test.YtkeainhjghdfcaaGreatZbab
import Derived.Test.YtkeainhjghdfcaaGreatZbaa
import Derived.Test.YtkeainhjghdfcaaGreatZaba
import Derived.Test.YtkeainhjghdfcaaGreatZaaa
/- seg: Starts, Next. -/
namespace Go.Proofs.YtkeainhjghdfcaaGreat
open Go.RowKit

/-- the block b holds the state st -/
def stRow (w : World) (b : Nat) (st : St) : Prop := w.heap[b]? = some (.cells #[.bool st.some, .int .i64 st.last, .int .i64 st.pict, .int .i64 st.conj, .bool st.odd] 175 (0, 0))
theorem stRow_set {w : World} {b : Nat} {old : St} (h : stRow w b old) (n : St) : stRow (((((w.setCell ⟨b, 0, none⟩ (.bool n.some)).setCell ⟨b, 1, none⟩ (.int .i64 n.last)).setCell ⟨b, 2, none⟩ (.int .i64 n.pict)).setCell ⟨b, 3, none⟩ (.int .i64 n.conj)).setCell ⟨b, 4, none⟩ (.bool n.odd)) b n := by
  unfold stRow at h ⊢
  exact heap_setCell_same _ _ _ _ _ _ (heap_setCell_same _ _ _ _ _ _ (heap_setCell_same _ _ _ _ _ _ (heap_setCell_same _ _ _ _ _ _ (heap_setCell_same _ _ _ _ _ _ h))))
theorem stRow.kept {w w' : World} {b : Nat} {st : St} (h : stRow w b st) (hb : Below w.heap.size w w') : stRow w' b st := by
  have hl : b < w.heap.size := by
    unfold stRow at h
    exact (Array.getElem?_eq_some_iff.1 h).1
  exact (hb.block b hl).trans h
theorem stRow.lt {w : World} {b : Nat} {st : St} (h : stRow w b st) : b < w.heap.size := (Array.getElem?_eq_some_iff.1 (show w.heap[b]? = _ from h)).1
theorem owns_store {w : World} {base e size n b i : Nat} {v u : Value} {xs : List Value} (h : w.ownsRow base e size v n xs) (hb : b < base) : (w.setCell ⟨b, i, none⟩ u).ownsRow base e size v n xs :=
  h.kept (setCell_grown w ⟨b, i, none⟩ u) (.inr (fun e => by have := (h.lt _ e).1; simp at this; omega))
theorem startsF_step {T : Tab} {st : St} {s : List Int} {k : Nat} {x : Int} (hx : s[k]? = some x) : startsF T st k (s.drop k) = (if cutB T st x then [k] else []) ++ startsF T (nextSt T st x) (k + 1) (s.drop (k + 1)) := by
  rw [drop_of_get hx]
  simp only [startsF]
  split <;> simp
section
variable {R : List Rw} {s : List Int} {w : World} {sv : Value} {tp : Nat}
set_option maxRecDepth 100000 in
set_option maxHeartbeats 8000000 in
theorem starts_any (H : (tabOf R).Ok) (hT : Tb R w tp) (hs : RunesIn w sv s) (ok : RunesOk s) (hl : s.length ≤ 1000000) :
    Calls Tryz.prog 61 #[.pointer (some ⟨tp, 0, none⟩), sv] w (IntsPost w (starts (tabOf R) s)) := by
  have HT := Lib.hid hT
  have HS := Lib.hid hs
  have HOk := Lib.hid ok
  have HSt := Lib.hid (starts_of H s)
  obtain ⟨sl, cap, rfl, hcap, hmax, _⟩ := runes_cells hs
  unfold maxLen at hmax
  have hW := (Below.refl w.heap.size w).alloc (Nat.le_refl _) (.cells #[.bool false, .int .i64 0, .int .i64 0, .int .i64 0, .bool false] 175)
  have hR0 : stRow (w.alloc (.cells #[.bool false, .int .i64 0, .int .i64 0, .int .i64 0, .bool false] 175)) w.heap.size St0 := heap_alloc_new w _
  have HW := Lib.hid hW
  have HR0 := Lib.hid hR0
  clear hT hs ok hW hR0
  go_enter Tryz.func61, Tryz.ntmps61
  go_wp2_with fail
  go_loopw [6, 13] (fun ov iv wr => ∃ (k : Nat) (L : List Nat) (st : St), k ≤ s.length ∧ L.length ≤ k ∧ iv = .int .i64 ((k : Nat) : Int) ∧ Below w.heap.size w wr ∧ wr.ownsRow (w.heap.size + 1) 3 1 ov L.length (L.flatMap nE) ∧ stRow wr w.heap.size st ∧ L ++ startsF (tabOf R) st k (s.drop k) = starts (tabOf R) s) (fun _ iv _ => s.length - (intOf iv).toNat)
  case atStart => exact ⟨0, [], St0, Nat.zero_le _, Nat.le_refl _, rfl, HW.out, World.ownsRow_nil _ _ _ _, HR0.out, HSt.out⟩
  case round =>
    obtain ⟨k, L, st, hk, hLk, rfl, hB, hO, hR, hE⟩ := hrel
    have HB := Lib.hid hB
    have HE := Lib.hid hE
    have HRr := Lib.hid hR
    obtain ⟨pa, pc, rfl⟩ := slice_of_owns hO
    have HO := Lib.hid hO
    clear hB hO hE
    by_cases hlt : k < s.length
    · obtain ⟨x, hx⟩ : ∃ x, s[k]? = some x := ⟨s[k], List.getElem?_eq_getElem hlt⟩
      have HI := Lib.hid (HOk.out.get hx)
      have HD := Lib.hid (startsF_step (T := tabOf R) (st := st) hx)
      obtain ⟨b0, off, cap', hv, _, _, _, _, d0⟩ := rune_cell (HS.out.below HB.out) hx
      cases hv
      obtain ⟨s0, s1, s2, s3, s4⟩ := st
      have c0 : wr.cell? ⟨w.heap.size, 0, none⟩ = some (.bool s0) := row_cells hR rfl
      have c1 : wr.cell? ⟨w.heap.size, 1, none⟩ = some (.int .i64 s1) := row_cells hR rfl
      have c2 : wr.cell? ⟨w.heap.size, 2, none⟩ = some (.int .i64 s2) := row_cells hR rfl
      have c3 : wr.cell? ⟨w.heap.size, 3, none⟩ = some (.int .i64 s3) := row_cells hR rfl
      have c4 : wr.cell? ⟨w.heap.size, 4, none⟩ = some (.bool s4) := row_cells hR rfl
      have HCall := Lib.hid (step_any ⟨s0, s1, s2, s3, s4⟩ x wr (HT.out.below HB.out) HI.out)
      clear hx hR
      go_wp2_with fail
      refine HCall.out.mono ?_
      rintro e w1 ⟨rfl, hB1⟩
      generalize hn : nextSt (tabOf R) ⟨s0, s1, s2, s3, s4⟩ x = n at HD ⊢
      obtain ⟨n0, n1, n2, n3, n4⟩ := n
      unfold stV
      dsimp only
      have HR1 := Lib.hid (HRr.out.kept hB1)
      have HO1 := Lib.hid (owns_stays HO.out hB1)
      have HB1 := Lib.hid (HB.out.trans (hB1.mono HB.out.size))
      have hsb1 := HR1.out.lt
      clear hn hB1 HRr HO HB c0 c1 c2 c3 c4 d0
      cases hc : cutB (tabOf R) ⟨s0, s1, s2, s3, s4⟩ x with
      | true =>
        have HN := Lib.hid (show (L ++ [k]) ++ startsF (tabOf R) ⟨n0, n1, n2, n3, n4⟩ (k + 1) (s.drop (k + 1)) = starts (tabOf R) s by rw [← HE.out, HD.out, hc]; simp)
        clear hc
        have HOa := Lib.hid (World.ownsRow.alloc HO1.out (.cells #[.bool n0, .int .i64 n1, .int .i64 n2, .int .i64 n3, .bool n4] 175))
        have HBa := Lib.hid (HB1.out.alloc HB1.out.size (.cells #[.bool n0, .int .i64 n1, .int .i64 n2, .int .i64 n3, .bool n4] 175))
        have hbl : w.heap.size + 1 ≤ (w1.alloc (.cells #[.bool n0, .int .i64 n1, .int .i64 n2, .int .i64 n3, .bool n4] 175)).heap.size := by simp; omega
        have HNr := Lib.hid (show stRow (w1.alloc (.cells #[.bool n0, .int .i64 n1, .int .i64 n2, .int .i64 n3, .bool n4] 175)) w1.heap.size ⟨n0, n1, n2, n3, n4⟩ from heap_alloc_new w1 _)
        have HSr := Lib.hid (show stRow (w1.alloc (.cells #[.bool n0, .int .i64 n1, .int .i64 n2, .int .i64 n3, .bool n4] 175)) w.heap.size ⟨s0, s1, s2, s3, s4⟩ from (Below.heap_alloc _ _ _ hsb1).trans HR1.out)
        have HSz := Lib.hid (show (w1.alloc (.cells #[.bool n0, .int .i64 n1, .int .i64 n2, .int .i64 n3, .bool n4] 175)).heap.size = w1.heap.size + 1 by simp)
        go_wp2_with (at_builtin; refine wpList_app1 _ rfl (.tmp 26) (.tmp 28) _ rfl EI _ _ _ rfl HOa.out 1 1 (nE k) (by rw [HSz.out]; rfl) (by decide) rfl (nE_one k) (by omega) hbl ?_; intro g cap w7 ho7 hg7 hf7; have HB2 := Lib.hid (below_app HBa.out HBa.out.size HOa.out (by omega) hg7); have hS7 : stRow w7 w.heap.size ⟨s0, s1, s2, s3, s4⟩ := (hg7.block _ (HSr.out.lt) (fun e => by have := (HOa.out.lt _ e.symm).1; omega)).trans HSr.out; have hN7 : stRow w7 w1.heap.size ⟨n0, n1, n2, n3, n4⟩ := (hg7.block _ (HNr.out.lt) (fun e => by have := (HO1.out.lt _ e.symm).2; omega)).trans HNr.out; have HO2 := Lib.hid ho7; have e0 : w7.cell? ⟨w1.heap.size, 0, none⟩ = some (.bool n0) := row_cells hN7 rfl; have e1 : w7.cell? ⟨w1.heap.size, 1, none⟩ = some (.int .i64 n1) := row_cells hN7 rfl; have e2 : w7.cell? ⟨w1.heap.size, 2, none⟩ = some (.int .i64 n2) := row_cells hN7 rfl; have e3 : w7.cell? ⟨w1.heap.size, 3, none⟩ = some (.int .i64 n3) := row_cells hN7 rfl; have e4 : w7.cell? ⟨w1.heap.size, 4, none⟩ = some (.bool n4) := row_cells hN7 rfl; have c0 : w7.cell? ⟨w.heap.size, 0, none⟩ = some (.bool s0) := row_cells hS7 rfl; have c1 : w7.cell? ⟨w.heap.size, 1, none⟩ = some (.int .i64 s1) := row_cells hS7 rfl; have c2 : w7.cell? ⟨w.heap.size, 2, none⟩ = some (.int .i64 s2) := row_cells hS7 rfl; have c3 : w7.cell? ⟨w.heap.size, 3, none⟩ = some (.int .i64 s3) := row_cells hS7 rfl; have c4 : w7.cell? ⟨w.heap.size, 4, none⟩ = some (.bool s4) := row_cells hS7 rfl; have y0 := row_warm hS7 0; have y1 := row_warm hS7 1; have y2 := row_warm hS7 2; have y3 := row_warm hS7 3; have y4 := row_warm hS7 4; have HS7 := Lib.hid hS7; clear ho7 hg7 hf7 hS7 hN7)
        go_wp2_with fail
        go_roundw
        case rel => exact ⟨k + 1, L ++ [k], ⟨n0, n1, n2, n3, n4⟩, by omega, by simp; omega, by go_num, ((((HB2.out.setCell (Nat.le_refl _) _).setCell (Nat.le_refl _) _).setCell (Nat.le_refl _) _).setCell (Nat.le_refl _) _).setCell (Nat.le_refl _) _, by
                      have ho := owns_store (owns_store (owns_store (owns_store (owns_store HO2.out (b := w.heap.size) (i := 0) (u := .bool n0) (by omega)) (b := w.heap.size) (i := 1) (u := .int .i64 n1) (by omega)) (b := w.heap.size) (i := 2) (u := .int .i64 n2) (by omega)) (b := w.heap.size) (i := 3) (u := .int .i64 n3) (by omega)) (b := w.heap.size) (i := 4) (u := .bool n4) (by omega)
                      rw [flat_snoc, List.length_append]; exact ho, stRow_set HS7.out ⟨n0, n1, n2, n3, n4⟩, HN.out⟩
        case measure => simp [intOf] <;> omega
      | false =>
        have HN := Lib.hid (show L ++ startsF (tabOf R) ⟨n0, n1, n2, n3, n4⟩ (k + 1) (s.drop (k + 1)) = starts (tabOf R) s by rw [← HE.out, HD.out, hc]; simp)
        clear hc
        have HO2 := Lib.hid (World.ownsRow.alloc HO1.out (.cells #[.bool n0, .int .i64 n1, .int .i64 n2, .int .i64 n3, .bool n4] 175))
        have HB2 := Lib.hid (HB1.out.alloc HB1.out.size (.cells #[.bool n0, .int .i64 n1, .int .i64 n2, .int .i64 n3, .bool n4] 175))
        have hS7 : stRow (w1.alloc (.cells #[.bool n0, .int .i64 n1, .int .i64 n2, .int .i64 n3, .bool n4] 175)) w.heap.size ⟨s0, s1, s2, s3, s4⟩ := (Below.heap_alloc _ _ _ hsb1).trans HR1.out
        have c0 : (w1.alloc (.cells #[.bool n0, .int .i64 n1, .int .i64 n2, .int .i64 n3, .bool n4] 175)).cell? ⟨w.heap.size, 0, none⟩ = some (.bool s0) := row_cells hS7 rfl
        have c1 : (w1.alloc (.cells #[.bool n0, .int .i64 n1, .int .i64 n2, .int .i64 n3, .bool n4] 175)).cell? ⟨w.heap.size, 1, none⟩ = some (.int .i64 s1) := row_cells hS7 rfl
        have c2 : (w1.alloc (.cells #[.bool n0, .int .i64 n1, .int .i64 n2, .int .i64 n3, .bool n4] 175)).cell? ⟨w.heap.size, 2, none⟩ = some (.int .i64 s2) := row_cells hS7 rfl
        have c3 : (w1.alloc (.cells #[.bool n0, .int .i64 n1, .int .i64 n2, .int .i64 n3, .bool n4] 175)).cell? ⟨w.heap.size, 3, none⟩ = some (.int .i64 s3) := row_cells hS7 rfl
        have c4 : (w1.alloc (.cells #[.bool n0, .int .i64 n1, .int .i64 n2, .int .i64 n3, .bool n4] 175)).cell? ⟨w.heap.size, 4, none⟩ = some (.bool s4) := row_cells hS7 rfl
        have y0 := row_warm hS7 0
        have y1 := row_warm hS7 1
        have y2 := row_warm hS7 2
        have y3 := row_warm hS7 3
        have y4 := row_warm hS7 4
        have hN7 : stRow (w1.alloc (.cells #[.bool n0, .int .i64 n1, .int .i64 n2, .int .i64 n3, .bool n4] 175)) w1.heap.size ⟨n0, n1, n2, n3, n4⟩ := heap_alloc_new w1 _
        have e0 : (w1.alloc (.cells #[.bool n0, .int .i64 n1, .int .i64 n2, .int .i64 n3, .bool n4] 175)).cell? ⟨w1.heap.size, 0, none⟩ = some (.bool n0) := row_cells hN7 rfl
        have e1 : (w1.alloc (.cells #[.bool n0, .int .i64 n1, .int .i64 n2, .int .i64 n3, .bool n4] 175)).cell? ⟨w1.heap.size, 1, none⟩ = some (.int .i64 n1) := row_cells hN7 rfl
        have e2 : (w1.alloc (.cells #[.bool n0, .int .i64 n1, .int .i64 n2, .int .i64 n3, .bool n4] 175)).cell? ⟨w1.heap.size, 2, none⟩ = some (.int .i64 n2) := row_cells hN7 rfl
        have e3 : (w1.alloc (.cells #[.bool n0, .int .i64 n1, .int .i64 n2, .int .i64 n3, .bool n4] 175)).cell? ⟨w1.heap.size, 3, none⟩ = some (.int .i64 n3) := row_cells hN7 rfl
        have e4 : (w1.alloc (.cells #[.bool n0, .int .i64 n1, .int .i64 n2, .int .i64 n3, .bool n4] 175)).cell? ⟨w1.heap.size, 4, none⟩ = some (.bool n4) := row_cells hN7 rfl
        go_upto_region 9 with fail
        generalize (w1.alloc (.cells #[.bool n0, .int .i64 n1, .int .i64 n2, .int .i64 n3, .bool n4] 175)) = w7 at HO2 HB2 hS7 e0 e1 e2 e3 e4 c0 c1 c2 c3 c4 y0 y1 y2 y3 y4 ⊢
        have HS7 := Lib.hid hS7
        clear hS7 hN7
        go_wp2_with fail
        go_roundw
        case rel => exact ⟨k + 1, L, ⟨n0, n1, n2, n3, n4⟩, by omega, by omega, by go_num, ((((HB2.out.setCell (Nat.le_refl _) _).setCell (Nat.le_refl _) _).setCell (Nat.le_refl _) _).setCell (Nat.le_refl _) _).setCell (Nat.le_refl _) _,
                      owns_store (owns_store (owns_store (owns_store (owns_store HO2.out (by omega)) (by omega)) (by omega)) (by omega)) (by omega), stRow_set HS7.out ⟨n0, n1, n2, n3, n4⟩, HN.out⟩
        case measure => simp [intOf] <;> omega
    · have hke : k = s.length := by omega
      subst hke
      have HF := Lib.hid (show L = starts (tabOf R) s by rw [← HE.out, List.drop_length]; simp [startsF])
      clear hlt hk
      go_wp2_with fail
      go_ret
      exact ⟨_, rfl, HB.out, by rw [← HF.out]; exact ints_of_owns HO.out⟩
end
end Go.Proofs.YtkeainhjghdfcaaGreat

/- Few; chapter 10's examples; SegStarts: its walk. -/
namespace Go.Proofs.YtkeainhjghdfcaaGreat
open Go.RowKit

theorem runes_sub {w : World} {b off cap : Nat} {l : List Int} (h : RunesIn w (.slice (some ⟨b, off, none⟩) l.length cap) l) {i j : Nat} (hij : i ≤ j) (hj : j ≤ l.length) (hb : b < w.heap.size) : RunesIn w (.slice (some ⟨b, off + i, none⟩) (j - i) (cap - i)) ((l.take j).drop i) := by
  obtain ⟨a', cap', hv, h1, h2, h3, h4⟩ := h
  cases hv
  have hl : ((l.take j).drop i).length = j - i := by rw [List.length_drop, List.length_take]; omega
  refine ⟨some ⟨b, off + i, none⟩, cap - i, by rw [hl], by omega, by omega, by rw [flat_len runeE_len], fun hn => ⟨b, off + i, rfl, hb, fun k u hu => ?_⟩⟩
  obtain ⟨b', off', e, _, hq⟩ := h4 (by omega)
  cases e
  obtain ⟨q, x, hx, m, hm, rfl, hu'⟩ := flat_index runeE_len ((l.take j).drop i) k u hu
  have hx' : l[i + q]? = some x := by
    rw [List.getElem?_drop, List.getElem?_take] at hx
    split at hx
    · exact hx
    · cases hx
  have := hq ((i + q) * 1 + m) u (flat_get runeE_len l (i + q) x m u hx' hu')
  rw [show off + i + (q * 1 + m) = off + ((i + q) * 1 + m) by omega]
  exact this
theorem runes_take {w : World} {a : Option Addr} {cap : Nat} {l : List Int} (h : RunesIn w (.slice a l.length cap) l) {k : Nat} (hk : k ≤ l.length) : RunesIn w (.slice a k cap) (l.take k) := by
  obtain ⟨a', cap', hv, h1, h2, h3, h4⟩ := h
  cases hv
  have hl : (l.take k).length = k := by rw [List.length_take]; omega
  refine ⟨a, cap, by rw [hl], by omega, h2, by rw [flat_len runeE_len], fun hn => ?_⟩
  obtain ⟨b, off, e, hb, hq⟩ := h4 (by omega)
  refine ⟨b, off, e, hb, fun j u hu => hq j u ?_⟩
  obtain ⟨i, x, hx, m, hm, rfl, hu'⟩ := flat_index runeE_len (l.take k) j u hu
  have hx' : l[i]? = some x := by
    rw [List.getElem?_take] at hx
    split at hx
    · exact hx
    · cases hx
  exact flat_get runeE_len l i x m u hx' hu'
theorem RunesOk.take {l : List Int} (h : RunesOk l) (k : Nat) : RunesOk (l.take k) := fun x hx => h x (List.mem_of_mem_take hx)
theorem RunesOk.drop {l : List Int} (h : RunesOk l) (k : Nat) : RunesOk (l.drop k) := fun x hx => h x (List.mem_of_mem_drop hx)
set_option maxRecDepth 100000 in
theorem few_any {w : World} {v : Value} {l : List Int} (h : RunesIn w v l) (n : Nat) : Calls Tryz.prog 16 #[v, .int .i64 (n : Nat)] w fun e w' => (∃ u, e = .returned u ∧ RunesIn w u (l.take n)) ∧ w = w' := by
  obtain ⟨sl, cap, rfl, hcap, hmax, hcells⟩ := runes_cells h
  unfold maxLen at hmax
  by_cases hn : n < l.length
  · have q0 : (l.length : Int) > (n : Int) := by omega
    have q1 : (0 : Int) ≤ (n : Int) := by omega
    have q2 : (n : Int) ≤ (cap : Int) := by omega
    have HU := Lib.hid (runes_take h (k := n) (by omega))
    obtain ⟨b, off, rfl, _, _⟩ := hcells (by omega)
    clear h hcells
    go_enter Tryz.func16, Tryz.ntmps16
    go_wp2_with fail
    go_ret
    exact ⟨⟨_, rfl, HU.out⟩, rfl⟩
  · have q0 : decide ((l.length : Int) > (n : Int)) = false := by rw [decide_eq_false_iff_not]; omega
    have HU := Lib.hid (show RunesIn w (.slice sl l.length cap) (l.take n) by rw [List.take_of_length_le (by omega)]; exact h)
    clear h hcells
    go_enter Tryz.func16, Tryz.ntmps16
    go_wp2_with fail
    go_ret
    exact ⟨⟨_, rfl, HU.out⟩, rfl⟩
theorem below1 (w : World) (o : Obj) : Below w.heap.size w (w.alloc o) := (Below.refl _ w).alloc (Nat.le_refl _) o
end Go.Proofs.YtkeainhjghdfcaaGreat

/- seg.Next. -/
namespace Go.Proofs.YtkeainhjghdfcaaGreat
open Go.RowKit

theorem runLen_step {T : Tab} {st : St} {s : List Int} {k : Nat} {x : Int} (hx : s[k]? = some x) : runLen T st (s.drop k) = if cutB T st x then 0 else runLen T (nextSt T st x) (s.drop (k + 1)) + 1 := by
  rw [drop_of_get hx]; rfl
theorem set5_other {w : World} {b : Nat} {u0 u1 u2 u3 u4 v : Value} {a : Addr} (h : w.cell? a = some v) (hne : b ≠ a.block) : (((((w.setCell ⟨b, 0, none⟩ u0).setCell ⟨b, 1, none⟩ u1).setCell ⟨b, 2, none⟩ u2).setCell ⟨b, 3, none⟩ u3).setCell ⟨b, 4, none⟩ u4).cell? a = some v := by
  rw [World.cell?_setCell_far _ _ _ _ hne, World.cell?_setCell_far _ _ _ _ hne, World.cell?_setCell_far _ _ _ _ hne, World.cell?_setCell_far _ _ _ _ hne, World.cell?_setCell_far _ _ _ _ hne]; exact h
theorem stRow_far {w : World} {b c : Nat} {u0 u1 u2 u3 u4 : Value} {st : St} (h : stRow w c st) (hne : c ≠ b) : stRow (((((w.setCell ⟨b, 0, none⟩ u0).setCell ⟨b, 1, none⟩ u1).setCell ⟨b, 2, none⟩ u2).setCell ⟨b, 3, none⟩ u3).setCell ⟨b, 4, none⟩ u4) c st := by
  unfold stRow at h ⊢
  rw [Below.heap_setCell _ _ _ _ hne, Below.heap_setCell _ _ _ _ hne, Below.heap_setCell _ _ _ _ hne, Below.heap_setCell _ _ _ _ hne, Below.heap_setCell _ _ _ _ hne]; exact h
theorem below_set5 {B : Nat} {w w' : World} {b : Nat} {u0 u1 u2 u3 u4 : Value} (h : Below B w w') (hb : B ≤ b) : Below B w (((((w'.setCell ⟨b, 0, none⟩ u0).setCell ⟨b, 1, none⟩ u1).setCell ⟨b, 2, none⟩ u2).setCell ⟨b, 3, none⟩ u3).setCell ⟨b, 4, none⟩ u4) :=
  ((((h.setCell hb _).setCell hb _).setCell hb _).setCell hb _).setCell hb _
section
variable {R : List Rw} {s : List Int} {w : World} {sv : Value} {tp : Nat}
set_option maxRecDepth 100000 in
set_option maxHeartbeats 8000000 in
theorem next_any (i : Nat) (hT : Tb R w tp) (hs : RunesIn w sv s) (ok : RunesOk s) (hi : i < s.length) (_ : s.length ≤ 1000000) :
    Calls Tryz.prog 149 #[.pointer (some ⟨tp, 0, none⟩), sv, .int .i64 (i : Nat)] w fun e w' => e = .returned (.int .i64 ((i + nx (tabOf R) (s.drop i) : Nat) : Int)) ∧ Below w.heap.size w w' := by
  have HT := Lib.hid hT
  have HS := Lib.hid hs
  have HOk := Lib.hid ok
  obtain ⟨x, hx⟩ : ∃ x, s[i]? = some x := ⟨s[i], List.getElem?_eq_getElem hi⟩
  have HI := Lib.hid (ok.get hx)
  have HNx := Lib.hid (show nx (tabOf R) (s.drop i) = runLen (tabOf R) (nextSt (tabOf R) St0 x) (s.drop (i + 1)) + 1 by rw [drop_of_get hx]; rfl)
  obtain ⟨b0, off, cap, hv, hmax, hcap, _, _, d0⟩ := rune_cell hs hx
  subst hv
  unfold maxLen at hmax
  have q0 : decide ((i : Int) < 0) = false := by rw [decide_eq_false_iff_not]; omega
  have q1 : decide ((i : Int) ≥ (s.length : Int)) = false := by rw [decide_eq_false_iff_not]; omega
  have q1n : ¬ s.length ≤ i := by omega
  have q1d : decide (s.length ≤ i) = false := decide_eq_false q1n
  have q2 : (0 : Int) ≤ (i : Int) := by omega
  have q3 : (i : Int) < (s.length : Int) := by omega
  have q4 := IntWalk.i64_in ((i : Int) + 1) (by omega)
  have HCall := Lib.hid (step_any St0 x w hT HI.out)
  clear hT hs ok hx
  go_enter Tryz.func149, Tryz.ntmps149
  go_wp2_with fail
  refine HCall.out.mono ?_
  rintro e w1 ⟨rfl, hB1⟩
  generalize hst : nextSt (tabOf R) St0 x = st at HNx ⊢
  obtain ⟨n0, n1, n2, n3, n4⟩ := st
  unfold stV
  dsimp only
  have HB1 := Lib.hid hB1
  clear hst hB1 d0
  go_upto_region 4 with fail
  have HRw := Lib.hid (show stRow (w1.alloc (.cells #[.bool n0, .int .i64 n1, .int .i64 n2, .int .i64 n3, .bool n4] 175)) w1.heap.size ⟨n0, n1, n2, n3, n4⟩ from heap_alloc_new w1 _)
  have HB2 := Lib.hid (below_new HB1.out (.cells #[.bool n0, .int .i64 n1, .int .i64 n2, .int .i64 n3, .bool n4] 175))
  have hsb : w.heap.size ≤ w1.heap.size := HB1.out.size
  clear HB1
  generalize w1.alloc (.cells #[.bool n0, .int .i64 n1, .int .i64 n2, .int .i64 n3, .bool n4] 175) = W at HRw HB2 ⊢
  generalize w1.heap.size = sb at HRw hsb ⊢
  clear q0 q1
  go_wp2_with fail
  go_loopw [2] (fun iv wr => ∃ (k : Nat) (st : St), i + 1 ≤ k ∧ k ≤ s.length ∧ iv = .int .i64 ((k : Nat) : Int) ∧ Below w.heap.size w wr ∧ stRow wr sb st ∧ k + runLen (tabOf R) st (s.drop k) = i + nx (tabOf R) (s.drop i)) (fun iv _ => s.length - (intOf iv).toNat)
  case atStart => exact ⟨i + 1, _, Nat.le_refl _, hi, by go_num, HB2.out, HRw.out, by rw [HNx.out]; omega⟩
  case round =>
    obtain ⟨k, st, hik, hk, rfl, hB, hR, hE⟩ := hrel
    have HB := Lib.hid hB
    have HE := Lib.hid hE
    have HRr := Lib.hid hR
    clear hB hE
    by_cases hlt : k < s.length
    · obtain ⟨x, hx⟩ : ∃ x, s[k]? = some x := ⟨s[k], List.getElem?_eq_getElem hlt⟩
      have HI := Lib.hid (HOk.out.get hx)
      have HD := Lib.hid (runLen_step (T := tabOf R) (st := st) hx)
      obtain ⟨b0', off', cap', hv, _, _, _, _, d0⟩ := rune_cell (HS.out.below HB.out) hx
      cases hv
      obtain ⟨s0, s1, s2, s3, s4⟩ := st
      have c0 : wr.cell? ⟨sb, 0, none⟩ = some (.bool s0) := row_cells hR rfl
      have c1 : wr.cell? ⟨sb, 1, none⟩ = some (.int .i64 s1) := row_cells hR rfl
      have c2 : wr.cell? ⟨sb, 2, none⟩ = some (.int .i64 s2) := row_cells hR rfl
      have c3 : wr.cell? ⟨sb, 3, none⟩ = some (.int .i64 s3) := row_cells hR rfl
      have c4 : wr.cell? ⟨sb, 4, none⟩ = some (.bool s4) := row_cells hR rfl
      have HBz := Lib.hid (HB.out.alloc HB.out.size (.cells #[.bool false, .int .i64 0, .int .i64 0, .int .i64 0, .bool false] 175))
      have HCall := Lib.hid (step_any ⟨s0, s1, s2, s3, s4⟩ x (wr.alloc (.cells #[.bool false, .int .i64 0, .int .i64 0, .int .i64 0, .bool false] 175)).drew ((HT.out.below HBz.out).below (below_dN (.refl _ _) 1)) HI.out)
      have HCallA := Lib.hid (step_any ⟨s0, s1, s2, s3, s4⟩ x wr.drew ((HT.out.below HB.out).below (below_dN (.refl _ _) 1)) HI.out)
      have hsl := HRr.out.lt
      have hdl : b0 < wr.heap.size := World.block_lt_of_cell? wr _ d0
      have r1 : (0 : Int) ≤ (k : Int) := by omega
      have r2 : (k : Int) < (s.length : Int) := by omega
      have r3 := IntWalk.i64_in ((k : Int) + 1) (by omega)
      have g0 : (wr.alloc (.cells #[.bool false, .int .i64 0, .int .i64 0, .int .i64 0, .bool false] 175)).drew.cell? ⟨sb, 0, none⟩ = some (.bool s0) := (World.cell?_of_block (Below.heap_alloc _ _ _ hsl)).trans c0
      have g1 : (wr.alloc (.cells #[.bool false, .int .i64 0, .int .i64 0, .int .i64 0, .bool false] 175)).drew.cell? ⟨sb, 1, none⟩ = some (.int .i64 s1) := (World.cell?_of_block (Below.heap_alloc _ _ _ hsl)).trans c1
      have g2 : (wr.alloc (.cells #[.bool false, .int .i64 0, .int .i64 0, .int .i64 0, .bool false] 175)).drew.cell? ⟨sb, 2, none⟩ = some (.int .i64 s2) := (World.cell?_of_block (Below.heap_alloc _ _ _ hsl)).trans c2
      have g3 : (wr.alloc (.cells #[.bool false, .int .i64 0, .int .i64 0, .int .i64 0, .bool false] 175)).drew.cell? ⟨sb, 3, none⟩ = some (.int .i64 s3) := (World.cell?_of_block (Below.heap_alloc _ _ _ hsl)).trans c3
      have g4 : (wr.alloc (.cells #[.bool false, .int .i64 0, .int .i64 0, .int .i64 0, .bool false] 175)).drew.cell? ⟨sb, 4, none⟩ = some (.bool s4) := (World.cell?_of_block (Below.heap_alloc _ _ _ hsl)).trans c4
      have g5 : (wr.alloc (.cells #[.bool false, .int .i64 0, .int .i64 0, .int .i64 0, .bool false] 175)).drew.cell? ⟨b0, off + k, none⟩ = some (.int .i32 x) := (World.cell?_of_block (Below.heap_alloc _ _ _ hdl)).trans d0
      have HG := Lib.hid (show stRow (wr.alloc (.cells #[.bool false, .int .i64 0, .int .i64 0, .int .i64 0, .bool false] 175)).drew sb ⟨s0, s1, s2, s3, s4⟩ from (Below.heap_alloc _ _ _ hsl).trans HRr.out)
      have HZ := Lib.hid (show stRow (wr.alloc (.cells #[.bool false, .int .i64 0, .int .i64 0, .int .i64 0, .bool false] 175)).drew wr.heap.size ⟨false, 0, 0, 0, false⟩ from heap_alloc_new wr _)
      have hne1 : wr.heap.size ≠ sb := by omega
      have hne2 : wr.heap.size ≠ b0 := by omega
      clear hx hR
      unfold stV at HCall HCallA
      dsimp only at HCall HCallA
      generalize hn : nextSt (tabOf R) ⟨s0, s1, s2, s3, s4⟩ x = n at HD HCall HCallA
      obtain ⟨m0, m1, m2, m3, m4⟩ := n
      generalize hc : cutB (tabOf R) ⟨s0, s1, s2, s3, s4⟩ x = cu at HD HCall HCallA
      clear hn hc
      go_wp2_with fail
      refine wp_region_held_drew (S := fun w' => w'.cell? ⟨sb, 0, none⟩ = some (.bool s0) ∧ w'.cell? ⟨sb, 1, none⟩ = some (.int .i64 s1) ∧ w'.cell? ⟨sb, 2, none⟩ = some (.int .i64 s2) ∧ w'.cell? ⟨sb, 3, none⟩ = some (.int .i64 s3) ∧ w'.cell? ⟨sb, 4, none⟩ = some (.bool s4) ∧ w'.cell? ⟨b0, off + k, none⟩ = some (.int .i32 x)) (by kernel_rfl) ⟨c0, c1, c2, c3, c4, d0⟩ (fun hHeld => ?_)
      refine hd_take 0 rfl (by kernel_rfl) (by kernel_rfl) (by kernel_rfl) (fun _ _ _ h => h) (by rfl) (by intro w hSw; (try dsimp only at hSw); go_split_ands; go_simp; first | done | with_reducible rfl) hHeld ?_
      simp only [Act.put, List.setIfInBounds_toArray, List.set_cons_zero, List.set_cons_succ]
      refine hd_take 1 rfl (by kernel_rfl) (by kernel_rfl) (by kernel_rfl) (fun _ _ _ h => h) (by rfl) (by intro w hSw; (try dsimp only at hSw); go_split_ands; go_simp; first | done | with_reducible rfl) hHeld ?_
      simp only [Act.put, List.setIfInBounds_toArray, List.set_cons_zero, List.set_cons_succ]
      refine hd_take 2 rfl (by kernel_rfl) (by kernel_rfl) (by kernel_rfl) (fun _ _ _ h => h) (by rfl) (by intro w hSw; (try dsimp only at hSw); go_split_ands; go_simp; first | done | with_reducible rfl) hHeld ?_
      simp only [Act.put, List.setIfInBounds_toArray, List.set_cons_zero, List.set_cons_succ]
      refine hd_take 3 rfl (by kernel_rfl) (by kernel_rfl) (by kernel_rfl) (fun _ _ _ h => h) (by rfl) (by intro w hSw; (try dsimp only at hSw); go_split_ands; go_simp; first | done | with_reducible rfl) hHeld ?_
      simp only [Act.put, List.setIfInBounds_toArray, List.set_cons_zero, List.set_cons_succ]
      refine hd_take 4 rfl (by kernel_rfl) (by kernel_rfl) (by kernel_rfl) (fun _ _ _ h => h) (by rfl) (by intro w hSw; (try dsimp only at hSw); go_split_ands; go_simp; first | done | with_reducible rfl) hHeld ?_
      simp only [Act.put, List.setIfInBounds_toArray, List.set_cons_zero, List.set_cons_succ]
      refine hd_take 5 rfl (by kernel_rfl) (by kernel_rfl) (by kernel_rfl) (fun _ _ _ h => h) (by rfl) (by intro w hSw; (try dsimp only at hSw); go_split_ands; go_simp; first | done | with_reducible rfl) hHeld ?_
      simp only [Act.put, List.setIfInBounds_toArray, List.set_cons_zero, List.set_cons_succ]
      refine hd_two 6 10 (by kernel_rfl) rfl rfl (fun K hK => ?_) (fun K hK => ?_)
      case' refine_1 =>
        go_simp
        go_at_call 102
        refine HCallA.out.mono ?_
        rintro e w5 ⟨rfl, hB5⟩
        have p0 := cell_later hB5 (show wr.drew.cell? _ = _ from c0)
        have p1 := cell_later hB5 (show wr.drew.cell? _ = _ from c1)
        have p2 := cell_later hB5 (show wr.drew.cell? _ = _ from c2)
        have p3 := cell_later hB5 (show wr.drew.cell? _ = _ from c3)
        have p4 := cell_later hB5 (show wr.drew.cell? _ = _ from c4)
        have p5 := cell_later hB5 (show wr.drew.cell? _ = _ from d0)
        have hs5 : wr.heap.size ≤ w5.heap.size := hB5.size
        have HB5 := Lib.hid ((below_dN HB.out 1).trans (hB5.mono (below_dN HB.out 1).size))
        have HR5 := Lib.hid (stRow.kept (show stRow wr.drew sb _ from HRr.out) hB5)
        clear hB5
        go_wp2_with fail
        refine hK.out _ _ ⟨p0, p1, p2, p3, p4, p5⟩ (fun hHeld => ?_)
        clear hK K
        try simp only [Act.put, List.setIfInBounds_toArray, List.set_cons_zero, List.set_cons_succ]
        refine hd_take 7 rfl (by kernel_rfl) (by kernel_rfl) (by kernel_rfl) (fun _ _ _ h => h) (by rfl) (by intro w hSw; (try dsimp only at hSw); go_split_ands; go_simp; first | done | with_reducible rfl) hHeld ?_
        simp only [Act.put, List.setIfInBounds_toArray, List.set_cons_zero, List.set_cons_succ]
        refine hd_take 8 rfl (by kernel_rfl) (by kernel_rfl) (by kernel_rfl) (fun _ _ _ h => h) (by rfl) (by intro w hSw; (try dsimp only at hSw); go_split_ands; go_simp; first | done | with_reducible rfl) hHeld ?_
        simp only [Act.put, List.setIfInBounds_toArray, List.set_cons_zero, List.set_cons_succ]
        refine hd_take 9 rfl (by kernel_rfl) (by kernel_rfl) (by kernel_rfl) (fun _ _ _ h => h) (by rfl) (by intro w hSw; (try dsimp only at hSw); go_split_ands; go_simp; first | done | with_reducible rfl) hHeld ?_
        simp only [Act.put, List.setIfInBounds_toArray, List.set_cons_zero, List.set_cons_succ]
        refine hd_step 10 (by kernel_rfl) rfl (fun K hK => ?_)
        go_simp
        have v0 := (World.cell?_of_block (Below.heap_alloc w5 (.cells #[.bool false, .int .i64 0, .int .i64 0, .int .i64 0, .bool false] 175) _ (Nat.lt_of_lt_of_le hsl hs5))).trans p0
        have v1 := (World.cell?_of_block (Below.heap_alloc w5 (.cells #[.bool false, .int .i64 0, .int .i64 0, .int .i64 0, .bool false] 175) _ (Nat.lt_of_lt_of_le hsl hs5))).trans p1
        have v2 := (World.cell?_of_block (Below.heap_alloc w5 (.cells #[.bool false, .int .i64 0, .int .i64 0, .int .i64 0, .bool false] 175) _ (Nat.lt_of_lt_of_le hsl hs5))).trans p2
        have v3 := (World.cell?_of_block (Below.heap_alloc w5 (.cells #[.bool false, .int .i64 0, .int .i64 0, .int .i64 0, .bool false] 175) _ (Nat.lt_of_lt_of_le hsl hs5))).trans p3
        have v4 := (World.cell?_of_block (Below.heap_alloc w5 (.cells #[.bool false, .int .i64 0, .int .i64 0, .int .i64 0, .bool false] 175) _ (Nat.lt_of_lt_of_le hsl hs5))).trans p4
        have v5 := (World.cell?_of_block (Below.heap_alloc w5 (.cells #[.bool false, .int .i64 0, .int .i64 0, .int .i64 0, .bool false] 175) _ (Nat.lt_of_lt_of_le hdl hs5))).trans p5
        refine hK.out _ _ ⟨v0, v1, v2, v3, v4, v5⟩ (fun hHeld => ?_)
        clear hK K
        try simp only [Act.put, List.setIfInBounds_toArray, List.set_cons_zero, List.set_cons_succ]
        have hz : stRow (w5.alloc (.cells #[.bool false, .int .i64 0, .int .i64 0, .int .i64 0, .bool false] 175)) w5.heap.size ⟨false, 0, 0, 0, false⟩ := heap_alloc_new w5 _
        have z0 : (w5.alloc (.cells #[.bool false, .int .i64 0, .int .i64 0, .int .i64 0, .bool false] 175)).cell? ⟨w5.heap.size, 0, none⟩ = some (.bool false) := row_cells hz rfl
        have z1 : (w5.alloc (.cells #[.bool false, .int .i64 0, .int .i64 0, .int .i64 0, .bool false] 175)).cell? ⟨w5.heap.size, 1, none⟩ = some (.int .i64 0) := row_cells hz rfl
        have z2 : (w5.alloc (.cells #[.bool false, .int .i64 0, .int .i64 0, .int .i64 0, .bool false] 175)).cell? ⟨w5.heap.size, 2, none⟩ = some (.int .i64 0) := row_cells hz rfl
        have z3 : (w5.alloc (.cells #[.bool false, .int .i64 0, .int .i64 0, .int .i64 0, .bool false] 175)).cell? ⟨w5.heap.size, 3, none⟩ = some (.int .i64 0) := row_cells hz rfl
        have z4 : (w5.alloc (.cells #[.bool false, .int .i64 0, .int .i64 0, .int .i64 0, .bool false] 175)).cell? ⟨w5.heap.size, 4, none⟩ = some (.bool false) := row_cells hz rfl
        have y0 := row_warm hz 0
        have y1 := row_warm hz 1
        have y2 := row_warm hz 2
        have y3 := row_warm hz 3
        have y4 := row_warm hz 4
        refine hd_step 11 (by kernel_rfl) rfl (fun K hK => ?_)
        go_simp
        refine hK.out _ _ ⟨(World.cell?_of_block (Below.heap_alloc w5 _ _ (Nat.lt_of_lt_of_le hsl hs5))).trans p0, (World.cell?_of_block (Below.heap_alloc w5 _ _ (Nat.lt_of_lt_of_le hsl hs5))).trans p1, (World.cell?_of_block (Below.heap_alloc w5 _ _ (Nat.lt_of_lt_of_le hsl hs5))).trans p2, (World.cell?_of_block (Below.heap_alloc w5 _ _ (Nat.lt_of_lt_of_le hsl hs5))).trans p3, (World.cell?_of_block (Below.heap_alloc w5 _ _ (Nat.lt_of_lt_of_le hsl hs5))).trans p4, (World.cell?_of_block (Below.heap_alloc w5 _ _ (Nat.lt_of_lt_of_le hdl hs5))).trans p5⟩ (fun hHeld => ?_)
        clear hK K
        try simp only [Act.put, List.setIfInBounds_toArray, List.set_cons_zero, List.set_cons_succ]
        refine hd_step 12 (by kernel_rfl) rfl (fun K hK => ?_)
        go_simp
        refine hK.out _ _ ⟨(World.cell?_of_block (Below.heap_alloc w5 _ _ (Nat.lt_of_lt_of_le hsl hs5))).trans p0, (World.cell?_of_block (Below.heap_alloc w5 _ _ (Nat.lt_of_lt_of_le hsl hs5))).trans p1, (World.cell?_of_block (Below.heap_alloc w5 _ _ (Nat.lt_of_lt_of_le hsl hs5))).trans p2, (World.cell?_of_block (Below.heap_alloc w5 _ _ (Nat.lt_of_lt_of_le hsl hs5))).trans p3, (World.cell?_of_block (Below.heap_alloc w5 _ _ (Nat.lt_of_lt_of_le hsl hs5))).trans p4, (World.cell?_of_block (Below.heap_alloc w5 _ _ (Nat.lt_of_lt_of_le hdl hs5))).trans p5⟩ (fun hHeld => ?_)
        clear hK K
        try simp only [Act.put, List.setIfInBounds_toArray, List.set_cons_zero, List.set_cons_succ]
        refine wpAnyH_done (by kernel_rfl) ?_ _
        have hNf : stRow (w5.alloc (.cells #[.bool m0, .int .i64 m1, .int .i64 m2, .int .i64 m3, .bool m4] 175)) w5.heap.size ⟨m0, m1, m2, m3, m4⟩ := heap_alloc_new w5 _
        have hSf : stRow (w5.alloc (.cells #[.bool m0, .int .i64 m1, .int .i64 m2, .int .i64 m3, .bool m4] 175)) sb ⟨s0, s1, s2, s3, s4⟩ := (Below.heap_alloc _ _ _ (Nat.lt_of_lt_of_le hsl hs5)).trans HR5.out
        have hBf := HB5.out.alloc HB5.out.size (.cells #[.bool m0, .int .i64 m1, .int .i64 m2, .int .i64 m3, .bool m4] 175)
        clear hz z0 z1 z2 z3 z4 y0 y1 y2 y3 y4 v0 v1 v2 v3 v4 v5 HB5 HR5 hHeld p0 p1 p2 p3 p4 p5 hs5
        generalize w5.alloc (.cells #[.bool m0, .int .i64 m1, .int .i64 m2, .int .i64 m3, .bool m4] 175) = wf at hNf hSf hBf ⊢
        generalize w5.heap.size = nb at hNf ⊢
      case' refine_2 =>
        go_simp
        refine hK.out _ _ ⟨g0, g1, g2, g3, g4, g5⟩ (fun hHeld => ?_)
        clear hK K
        try simp only [Act.put, List.setIfInBounds_toArray, List.set_cons_zero, List.set_cons_succ]
        refine hd_step 6 (by kernel_rfl) rfl (fun K hK => ?_)
        go_simp
        go_at_call 102
        refine HCall.out.mono ?_
        rintro e w5 ⟨rfl, hB5⟩
        have p0 := cell_later hB5 g0
        have p1 := cell_later hB5 g1
        have p2 := cell_later hB5 g2
        have p3 := cell_later hB5 g3
        have p4 := cell_later hB5 g4
        have p5 := cell_later hB5 g5
        have hz := HZ.out.kept hB5
        have z0 : w5.cell? ⟨wr.heap.size, 0, none⟩ = some (.bool false) := row_cells hz rfl
        have z1 : w5.cell? ⟨wr.heap.size, 1, none⟩ = some (.int .i64 0) := row_cells hz rfl
        have z2 : w5.cell? ⟨wr.heap.size, 2, none⟩ = some (.int .i64 0) := row_cells hz rfl
        have z3 : w5.cell? ⟨wr.heap.size, 3, none⟩ = some (.int .i64 0) := row_cells hz rfl
        have z4 : w5.cell? ⟨wr.heap.size, 4, none⟩ = some (.bool false) := row_cells hz rfl
        have y0 := row_warm hz 0
        have y1 := row_warm hz 1
        have y2 := row_warm hz 2
        have y3 := row_warm hz 3
        have y4 := row_warm hz 4
        have HZ5 := Lib.hid hz
        have HB5 := Lib.hid ((below_dN HBz.out 1).trans (hB5.mono (below_dN HBz.out 1).size))
        have HR5 := Lib.hid (HG.out.kept hB5)
        clear hz hB5
        go_wp2_with fail
        refine hK.out _ _ ⟨p0, p1, p2, p3, p4, p5⟩ (fun hHeld => ?_)
        clear hK K
        try simp only [Act.put, List.setIfInBounds_toArray, List.set_cons_zero, List.set_cons_succ]
        refine hd_take 7 rfl (by kernel_rfl) (by kernel_rfl) (by kernel_rfl) (fun _ _ _ h => h) (by rfl) (by intro w hSw; (try dsimp only at hSw); go_split_ands; go_simp; first | done | with_reducible rfl) hHeld ?_
        simp only [Act.put, List.setIfInBounds_toArray, List.set_cons_zero, List.set_cons_succ]
        refine hd_take 8 rfl (by kernel_rfl) (by kernel_rfl) (by kernel_rfl) (fun _ _ _ h => h) (by rfl) (by intro w hSw; (try dsimp only at hSw); go_split_ands; go_simp; first | done | with_reducible rfl) hHeld ?_
        simp only [Act.put, List.setIfInBounds_toArray, List.set_cons_zero, List.set_cons_succ]
        refine hd_take 9 rfl (by kernel_rfl) (by kernel_rfl) (by kernel_rfl) (fun _ _ _ h => h) (by rfl) (by intro w hSw; (try dsimp only at hSw); go_split_ands; go_simp; first | done | with_reducible rfl) hHeld ?_
        simp only [Act.put, List.setIfInBounds_toArray, List.set_cons_zero, List.set_cons_succ]
        refine hd_step 11 (by kernel_rfl) rfl (fun K hK => ?_)
        go_simp
        refine hK.out _ _ ⟨set5_other p0 hne1, set5_other p1 hne1, set5_other p2 hne1, set5_other p3 hne1, set5_other p4 hne1, set5_other p5 hne2⟩ (fun hHeld => ?_)
        clear hK K
        try simp only [Act.put, List.setIfInBounds_toArray, List.set_cons_zero, List.set_cons_succ]
        refine hd_step 12 (by kernel_rfl) rfl (fun K hK => ?_)
        go_simp
        refine hK.out _ _ ⟨set5_other p0 hne1, set5_other p1 hne1, set5_other p2 hne1, set5_other p3 hne1, set5_other p4 hne1, set5_other p5 hne2⟩ (fun hHeld => ?_)
        clear hK K
        try simp only [Act.put, List.setIfInBounds_toArray, List.set_cons_zero, List.set_cons_succ]
        refine wpAnyH_done (by kernel_rfl) ?_ _
        have hNf : stRow (((((w5.setCell ⟨wr.heap.size, 0, none⟩ (.bool m0)).setCell ⟨wr.heap.size, 1, none⟩ (.int .i64 m1)).setCell ⟨wr.heap.size, 2, none⟩ (.int .i64 m2)).setCell ⟨wr.heap.size, 3, none⟩ (.int .i64 m3)).setCell ⟨wr.heap.size, 4, none⟩ (.bool m4)) wr.heap.size ⟨m0, m1, m2, m3, m4⟩ := stRow_set HZ5.out ⟨m0, m1, m2, m3, m4⟩
        have hSf : stRow (((((w5.setCell ⟨wr.heap.size, 0, none⟩ (.bool m0)).setCell ⟨wr.heap.size, 1, none⟩ (.int .i64 m1)).setCell ⟨wr.heap.size, 2, none⟩ (.int .i64 m2)).setCell ⟨wr.heap.size, 3, none⟩ (.int .i64 m3)).setCell ⟨wr.heap.size, 4, none⟩ (.bool m4)) sb ⟨s0, s1, s2, s3, s4⟩ := stRow_far HR5.out (fun e => hne1 e.symm)
        have hBf : Below w.heap.size w (((((w5.setCell ⟨wr.heap.size, 0, none⟩ (.bool m0)).setCell ⟨wr.heap.size, 1, none⟩ (.int .i64 m1)).setCell ⟨wr.heap.size, 2, none⟩ (.int .i64 m2)).setCell ⟨wr.heap.size, 3, none⟩ (.int .i64 m3)).setCell ⟨wr.heap.size, 4, none⟩ (.bool m4)) := below_set5 HB5.out HB.out.size
        clear z0 z1 z2 z3 z4 y0 y1 y2 y3 y4 HB5 HR5 HZ5 hHeld p0 p1 p2 p3 p4 p5
        generalize (((((w5.setCell ⟨wr.heap.size, 0, none⟩ (.bool m0)).setCell ⟨wr.heap.size, 1, none⟩ (.int .i64 m1)).setCell ⟨wr.heap.size, 2, none⟩ (.int .i64 m2)).setCell ⟨wr.heap.size, 3, none⟩ (.int .i64 m3)).setCell ⟨wr.heap.size, 4, none⟩ (.bool m4)) = wf at hNf hSf hBf ⊢
        generalize wr.heap.size = nb at hNf ⊢
      all_goals
        have HNf := Lib.hid hNf
        have HSf := Lib.hid hSf
        have HBf := Lib.hid hBf
        clear c0 c1 c2 c3 c4 d0 g0 g1 g2 g3 g4 g5 HG HZ hne1 hne2 HCall HCallA HBz hsl hdl
        cases cu with
        | true =>
          have HV := Lib.hid (show i + nx (tabOf R) (s.drop i) = k by rw [← HE.out, HD.out, if_pos rfl]; rfl)
          clear hNf hSf hBf
          go_wp2_with fail
          go_ret
          exact ⟨ret_i (by have := HV.out; omega), HBf.out⟩
        | false =>
          have HV := Lib.hid (show k + 1 + runLen (tabOf R) ⟨m0, m1, m2, m3, m4⟩ (s.drop (k + 1)) = i + nx (tabOf R) (s.drop i) by rw [← HE.out, HD.out, if_neg Bool.false_ne_true]; omega)
          have e0 : wf.cell? ⟨nb, 0, none⟩ = some (.bool m0) := row_cells hNf rfl
          have e1 : wf.cell? ⟨nb, 1, none⟩ = some (.int .i64 m1) := row_cells hNf rfl
          have e2 : wf.cell? ⟨nb, 2, none⟩ = some (.int .i64 m2) := row_cells hNf rfl
          have e3 : wf.cell? ⟨nb, 3, none⟩ = some (.int .i64 m3) := row_cells hNf rfl
          have e4 : wf.cell? ⟨nb, 4, none⟩ = some (.bool m4) := row_cells hNf rfl
          have c0 : wf.cell? ⟨sb, 0, none⟩ = some (.bool s0) := row_cells hSf rfl
          have c1 : wf.cell? ⟨sb, 1, none⟩ = some (.int .i64 s1) := row_cells hSf rfl
          have c2 : wf.cell? ⟨sb, 2, none⟩ = some (.int .i64 s2) := row_cells hSf rfl
          have c3 : wf.cell? ⟨sb, 3, none⟩ = some (.int .i64 s3) := row_cells hSf rfl
          have c4 : wf.cell? ⟨sb, 4, none⟩ = some (.bool s4) := row_cells hSf rfl
          have y0 := row_warm hSf 0
          have y1 := row_warm hSf 1
          have y2 := row_warm hSf 2
          have y3 := row_warm hSf 3
          have y4 := row_warm hSf 4
          clear hNf hSf hBf
          go_wp2_with fail
          go_roundw
          case rel => exact ⟨k + 1, ⟨m0, m1, m2, m3, m4⟩, by omega, by omega, by go_num, below_set5 HBf.out hsb, stRow_set HSf.out ⟨m0, m1, m2, m3, m4⟩, HV.out⟩
          case measure => simp [intOf] <;> omega
    · have hke : k = s.length := by omega
      subst hke
      have HV := Lib.hid (show i + nx (tabOf R) (s.drop i) = s.length by rw [← HE.out, List.drop_length]; rfl)
      clear hlt hk hR
      go_wp2_with fail
      go_ret
      exact ⟨ret_i (by have := HV.out; omega), HB.out⟩
end
end Go.Proofs.YtkeainhjghdfcaaGreat

/- SegSuffix: its law, plainly, and its walk. -/
namespace Go.Proofs.YtkeainhjghdfcaaGreat
open Go.RowKit

theorem startsB_split (T : Tab) (l : List Int) (q : Nat) (hq : q ≤ l.length) : ∀ (n i : Nat), q - i = n → i ≤ q → ∃ X, startsB T (l.take i).reverse i (l.drop i) = X ++ startsB T (l.take q).reverse q (l.drop q) ∧ ∀ x ∈ X, x < q := by
  intro n
  induction n with
  | zero =>
    intro i h1 h2
    have : i = q := by omega
    subst this
    exact ⟨[], rfl, fun x hx => by cases hx⟩
  | succ n ih =>
    intro i h1 h2
    obtain ⟨X, hX, hlt⟩ := ih (i + 1) (by omega) (by omega)
    refine ⟨(if begAt T l i then [i] else []) ++ X, by rw [startsB_step (by omega), hX, List.append_assoc], fun x hx => ?_⟩
    rcases List.mem_append.1 hx with hx | hx
    · split at hx
      · have : x = i := by simpa using hx
        omega
      · cases hx
    · exact hlt x hx
theorem starts_suffix {T : Tab} (H : T.Ok) {l : List Int} {k q : Nat} (hk : (starts T l)[k]? = some q) : (starts T (l.drop q)).map (· + q) = (starts T l).drop k := by
  have hb : begAt T l q = true := (starts_mem T l q).1 (List.mem_of_getElem? hk)
  have hql := begAt_lt hb
  obtain ⟨X, hX, hlt⟩ := startsB_split T l q (by omega) _ 0 rfl (Nat.zero_le _)
  have hX' : starts T l = X ++ startsB T (l.take q).reverse q (l.drop q) := hX
  have hstep := startsB_step (T := T) hql
  rw [hb] at hstep
  have hkX : k = X.length := by
    have hs := starts_sorted T l
    rw [List.pairwise_iff_getElem] at hs
    obtain ⟨hk1, hk2⟩ := List.getElem?_eq_some_iff.1 hk
    have hx2 : (starts T l)[X.length]? = some q := by rw [hX', List.getElem?_append_right (Nat.le_refl _), Nat.sub_self, hstep]; rfl
    obtain ⟨hx3, hx4⟩ := List.getElem?_eq_some_iff.1 hx2
    rcases Nat.lt_trichotomy k X.length with h | h | h
    · have := hs k X.length hk1 hx3 h; omega
    · exact h
    · have := hs X.length k hx3 hk1 h; omega
  have hd : (starts T l).drop k = startsB T (l.take q).reverse q (l.drop q) := by rw [hX', hkX, List.drop_left]
  rw [hd, ← starts_of H, ← startsF_shift, Nat.zero_add, ← startsF_B H]
  obtain ⟨r, hr⟩ : ∃ r, l[q]? = some r := ⟨_, List.getElem?_eq_getElem hql⟩
  have hbr : begB T (l.take q).reverse r = true := by unfold begAt at hb; rw [hr] at hb; exact hb
  rw [drop_of_get hr]
  simp only [startsF]
  rw [cut_beg H, hbr, cut_fresh H _ r hbr]
  simp [cutB, St0]
end Go.Proofs.YtkeainhjghdfcaaGreat

/- SegNext: its walk. -/
namespace Go.Proofs.YtkeainhjghdfcaaGreat
open Go.RowKit

section
variable {R : List Rw} {s : List Int} {w : World} {sv : Value} {tp : Nat}
set_option maxRecDepth 100000 in
theorem next_out (i : Int) (hs : RunesIn w sv s) (h : i < 0 ∨ (s.length : Int) ≤ i) :
    Calls Tryz.prog 149 #[.pointer (some ⟨tp, 0, none⟩), sv, .int .i64 i] w fun e w' => e = .returned (.int .i64 (s.length : Nat)) ∧ Below w.heap.size w w' := by
  obtain ⟨sl, cap, rfl, hcap, hmax, _⟩ := runes_cells hs
  unfold maxLen at hmax
  clear hs
  by_cases h0 : i < 0
  · clear h
    go_enter Tryz.func149, Tryz.ntmps149
    go_wp2_with fail
    go_ret
    exact ⟨rfl, .refl _ _⟩
  · have h1 : (s.length : Int) ≤ i := by omega
    have h2 : i ≥ (s.length : Int) := h1
    have q0 : decide (i < 0) = false := decide_eq_false h0
    clear h h0
    go_enter Tryz.func149, Tryz.ntmps149
    go_wp2_with fail
    go_ret
    exact ⟨rfl, .refl _ _⟩
end
end Go.Proofs.YtkeainhjghdfcaaGreat
