/- Joined texts: TokH. -/
import Derived.Test.YthlpelfogplomaaZfab
import Derived.Test.YthlpelfogplomaaZfaa
/- word: a cutter takes a token: its walk. (Printed by gen_token.py.) -/
namespace Go.Proofs.Ythlpelfogplomaa
open Go.RowKit

section
variable {r x : Int} {acc s a t : List Int}
theorem tok_one (acc s : List Int) : tok acc s = oneS 0 acc s := by unfold oneS; rw [if_pos rfl]
theorem tok_blank (h : blkR r = true) : tok acc (r :: s) = some (acc, r :: s) := by rw [tok_one, one_blank h]
theorem tok_quo_some (hb : blkR r = false) (h : quoR r = true) (hF : quoF r acc s = some (a, t)) : tok acc (r :: s) = tok a t := by
  rw [tok_cons, if_neg (by simp [hb]), if_pos h, hF]
theorem tok_quo_none (hb : blkR r = false) (h : quoR r = true) (hF : quoF r acc s = none) : tok acc (r :: s) = none := by
  rw [tok_cons, if_neg (by simp [hb]), if_pos h, hF]
theorem tok_esc : tok acc (92 :: x :: s) = tok (acc ++ [x]) s := by rw [tok_one, tok_one, one_esc]
theorem tok_esc0 : tok acc [92] = none := by rw [tok_one, one_esc0]
theorem tok_plain (hb : blkR r = false) (h : quoR r = false) (h9 : r ≠ 92) : tok acc (r :: s) = tok (acc ++ [r]) s := by rw [tok_one, tok_one, one_plain hb h h9]
end
section
variable {T : TypeId} {w wr w' : World} {h c k : Nat} {f t : Int} {tv sv : Value} {acc s : List Int}
theorem TW.dN (H : TW T wr h f t tv acc) (n : Nat) : TW T (wr.drewN n) h f t tv acc := ⟨H.hs, H.r, H.tk, H.own⟩
/-- behind a change of the cutter alone -/
theorem TW.at' (H : TW T wr h f t tv acc) (hc : c < h) (u : Value) : TW T (wr.setCell ⟨c, 1, none⟩ u) h f t tv acc :=
  have K := kept_setCell (P := fun j => j = c) wr ⟨c, 1, none⟩ u rfl
  have hs := H.hs
  ⟨Nat.le_trans hs K.size, (K.block h (by omega) (by omega)).trans H.r, (K.block (h + 1) (by omega) (by omega)).trans H.tk, owns_keptP H.own K (fun j hj => by omega)⟩
/-- behind what was quoted -/
theorem TW.call {tv' : Value} {a : List Int} (H : TW T wr h f t tv acc) (K : Kept (fun j => j = c ∨ h + 2 ≤ j) wr w') (hc : c < h) (hO : w'.ownsRow (h + 2) 21 1 tv' a.length (a.flatMap runeE)) : TW T (w'.setCell ⟨h + 1, 2, none⟩ tv') h f t tv' a := by
  have hs := H.hs
  have hs' : h + 2 ≤ w'.heap.size := Nat.le_trans hs K.size
  have h1 := (K.block (h + 1) (by omega) (by omega)).trans H.tk
  have h0 := (K.block h (by omega) (by omega)).trans H.r
  have hg := setCell_grown w' ⟨h + 1, 2, none⟩ tv'
  exact ⟨Nat.le_trans hs' hg.size, (hg.block h (by omega) (by intro e; simp at e)).trans h0, heap_setCell_same _ _ _ _ _ _ h1, owns_store hO (by omega)⟩
theorem TW.fin (H : TW T wr h f t tv acc) (HC : Cw wr c sv s k) (hc : c < h) (HK : Kept (fun j => j = c ∨ h ≤ j) w wr) (hw : w.heap.size = h) (n a b d : Value) :
    Kept (fun j => j = c) w ((((wr.setCell ⟨h + 1, 1, none⟩ n).setCell ⟨h, 0, none⟩ a).setCell ⟨h, 1, none⟩ b).setCell ⟨h, 2, none⟩ d) ∧ Cw ((((wr.setCell ⟨h + 1, 1, none⟩ n).setCell ⟨h, 0, none⟩ a).setCell ⟨h, 1, none⟩ b).setCell ⟨h, 2, none⟩ d) c sv s k ∧
      ((((wr.setCell ⟨h + 1, 1, none⟩ n).setCell ⟨h, 0, none⟩ a).setCell ⟨h, 1, none⟩ b).setCell ⟨h, 2, none⟩ d).ownsRow h 21 1 tv acc.length (acc.flatMap runeE) := by
  have k1 : ∀ (W : World) (j i : Nat) (u : Value), h ≤ j → Kept (fun j => c < j) W (W.setCell ⟨j, i, none⟩ u) := fun W j i u hj => kept_setCell _ _ _ (show c < j by omega)
  have k2 : ∀ (W : World) (j i : Nat) (u : Value), h ≤ j → Kept (fun j => j = c ∨ h ≤ j) W (W.setCell ⟨j, i, none⟩ u) := fun W j i u hj => kept_setCell _ _ _ (.inr hj)
  have K4 := (((HK.trans (k2 wr (h + 1) 1 n (by omega))).trans (k2 _ h 0 a (Nat.le_refl _))).trans (k2 _ h 1 b (Nat.le_refl _))).trans (k2 _ h 2 d (Nat.le_refl _))
  refine ⟨⟨K4.os, K4.tape, K4.output, K4.size, fun j hj hn => K4.block j hj (by rintro (e | e); exact hn e; omega)⟩, ?_, ?_⟩
  · exact (((HC.keep (k1 wr (h + 1) 1 n (by omega))).keep (k1 _ h 0 a (Nat.le_refl _))).keep (k1 _ h 1 b (Nat.le_refl _))).keep (k1 _ h 2 d (Nat.le_refl _))
  · exact owns_lower (owns_store (owns_store (owns_store (owns_store H.own (by omega)) (by omega)) (by omega)) (by omega)) (by omega)
end
section
variable {w : World} {c : Nat} {sv : Value} {s : List Int}
set_option maxRecDepth 100000 in
set_option maxHeartbeats 16000000 in
theorem token_any {n : Nat} (hC : Cw w c sv s n) (hn : n ≤ s.length) (hl : s.length ≤ 100000) :
    Calls Try.prog 54 #[.pointer (some ⟨c, 0, none⟩)] w fun e w' => ∃ m, n ≤ m ∧ m ≤ s.length ∧ Kept (fun j => j = c) w w' ∧ Cw w' c sv s m ∧ ∃ (t : Int) (ua : Option Addr) (un uc : Nat) (ok : Bool), e = .returned (.tuple #[.agg #[.int .i64 (n : Int), .int .i64 t, .slice ua un uc], .bool ok]) ∧
      ((∃ a, tok [] (s.drop n) = some (a, s.drop m) ∧ ok = true ∧ t = (m : Int) ∧ w'.ownsRow w.heap.size 21 1 (.slice ua un uc) a.length (a.flatMap runeE)) ∨ (tok [] (s.drop n) = none ∧ ok = false)) := by
  obtain ⟨sa, scap, rfl, _, hmax, hxx⟩ := hC.t
  unfold maxLen at hmax
  have HC0 := Lib.hid hC
  have x1 : w.cell? ⟨c, 1, none⟩ = some (.int .i64 (n : Int)) := row_cells (i := 1) hC.b rfl
  have hcw := hC.lt
  clear hC hxx
  go_enter Try.func54, Try.ntmps54
  go_wp2_with fail
  have HB0 := TW.startB w 44 (n : Int)
  have HC1 := Lib.hid (HC0.out.keep (Kept.of_below (P := fun j => c < j) HB0))
  have HK0 := Lib.hid (Kept.of_below (P := fun j => j = c ∨ w.heap.size ≤ j) HB0)
  have HW0 := Lib.hid (TW.start w 44 (n : Int))
  generalize ((w.alloc (.cells #[.int .i64 0, .int .i64 0, .slice none 0 0] 44)).alloc (.cells #[.int .i64 (n : Int), .int .i64 0, .slice none 0 0] 44)) = w5 at HB0 HC1 HK0 HW0 ⊢
  obtain ⟨h, hh⟩ : ∃ h, w.heap.size = h := ⟨_, rfl⟩
  have HH := Lib.hid hh
  rw [hh] at HK0 HW0 hcw ⊢
  clear hh HB0 x1 HC0
  go_loopw [5] (fun okv wr => ∃ (k : Nat) (ok : Bool) (tv : Value) (acc : List Int), n ≤ k ∧ k ≤ s.length ∧ okv = .bool ok ∧ Cw wr c (.slice sa s.length scap) s k ∧ TW 44 wr h (n : Int) 0 tv acc ∧ Kept (fun j => j = c ∨ h ≤ j) w wr ∧ acc.length ≤ k ∧ ((ok = true ∧ tok acc (s.drop k) = tok [] (s.drop n)) ∨ (ok = false ∧ tok [] (s.drop n) = none))) (fun _ wr => s.length - atOf wr c)
  case atStart => exact ⟨n, true, _, [], Nat.le_refl _, hn, rfl, HC1.out, HW0.out, HK0.out, Nat.zero_le _, .inl ⟨rfl, rfl⟩⟩
  case round =>
    obtain ⟨k, ok, tv, acc, hnk, hk, rfl, hC, hW, hK, hal, hE⟩ := hrel
    have HC := Lib.hid hC
    have HW := Lib.hid hW
    have HK := Lib.hid hK
    have HAl := Lib.hid hal
    have HAt := Lib.hid hC.at'
    have hw2 := hW.hs
    obtain ⟨ta, tc, rfl⟩ := slice_of_owns hW.own
    cases ok
    · have HE := Lib.hid (show tok [] (s.drop n) = none by rcases hE with ⟨h, _⟩ | ⟨_, h⟩; cases h; exact h)
      have x0 : wr.cell? ⟨c, 0, none⟩ = some (.slice sa s.length scap) := row_cells (i := 0) hC.b rfl
      have x1 : wr.cell? ⟨c, 1, none⟩ = some (.int .i64 (k : Int)) := row_cells (i := 1) hC.b rfl
      have z1 := row_warm hC.b 1
      have y0 : wr.cell? ⟨h + 1, 0, none⟩ = some (.int .i64 (n : Int)) := row_cells (i := 0) hW.tk rfl
      have y1 : wr.cell? ⟨h + 1, 1, none⟩ = some (.int .i64 0) := row_cells (i := 1) hW.tk rfl
      have y2 : wr.cell? ⟨h + 1, 2, none⟩ = some (.slice ta acc.length tc) := row_cells (i := 2) hW.tk rfl
      have v1 := row_warm hW.tk 1
      have v2 := row_warm hW.tk 2
      have u0 : wr.cell? ⟨h, 0, none⟩ = some (.int .i64 0) := row_cells (i := 0) hW.r rfl
      have u1 : wr.cell? ⟨h, 1, none⟩ = some (.int .i64 0) := row_cells (i := 1) hW.r rfl
      have u2 : wr.cell? ⟨h, 2, none⟩ = some (.slice none 0 0) := row_cells (i := 2) hW.r rfl
      have t0 := row_warm hW.r 0
      have t1 := row_warm hW.r 1
      have t2 := row_warm hW.r 2
      clear hC hW hK hal hE
      go_wp2_with fail
      go_quiet (fail)
      rename Nat => q3
      have HC3 := Lib.hid (HC.out.dN q3)
      have HW3 := Lib.hid (HW.out.dN q3)
      have HK3 := Lib.hid (HK.out.dN q3)
      clear x0 x1 z1 y0 y1 y2 v1 v2 u0 u1 u2 t0 t1 t2 HC HW HK
      generalize wr.drewN q3 = w3 at HC3 HW3 HK3 ⊢
      have x0 : w3.cell? ⟨c, 0, none⟩ = some (.slice sa s.length scap) := row_cells (i := 0) HC3.out.b rfl
      have x1 : w3.cell? ⟨c, 1, none⟩ = some (.int .i64 (k : Int)) := row_cells (i := 1) HC3.out.b rfl
      have z1 := row_warm HC3.out.b 1
      have y0 : w3.cell? ⟨h + 1, 0, none⟩ = some (.int .i64 (n : Int)) := row_cells (i := 0) HW3.out.tk rfl
      have y1 : w3.cell? ⟨h + 1, 1, none⟩ = some (.int .i64 0) := row_cells (i := 1) HW3.out.tk rfl
      have y2 : w3.cell? ⟨h + 1, 2, none⟩ = some (.slice ta acc.length tc) := row_cells (i := 2) HW3.out.tk rfl
      have v1 := row_warm HW3.out.tk 1
      have v2 := row_warm HW3.out.tk 2
      have u0 : w3.cell? ⟨h, 0, none⟩ = some (.int .i64 0) := row_cells (i := 0) HW3.out.r rfl
      have u1 : w3.cell? ⟨h, 1, none⟩ = some (.int .i64 0) := row_cells (i := 1) HW3.out.r rfl
      have u2 : w3.cell? ⟨h, 2, none⟩ = some (.slice none 0 0) := row_cells (i := 2) HW3.out.r rfl
      have t0 := row_warm HW3.out.r 0
      have t1 := row_warm HW3.out.r 1
      have t2 := row_warm HW3.out.r 2
      go_wp2_with fail
      refine ret_cell_tmp (x := .bool false) (ad := ⟨h, 0, none⟩) rfl rfl rfl (run_loadVar_mid _ _ 0 _ [.int .i64 (n : Int), .int .i64 (k : Int), .slice ta acc.length tc] _ (range3 (by go_simp) (by go_simp) (by go_simp)) Try.underlying44 rfl (by kernel_rfl)) rfl ?_
      obtain ⟨f1, f2, f3⟩ := HW3.out.fin HC3.out hcw HK3.out HH.out (.int .i64 (k : Int)) (.int .i64 (n : Int)) (.int .i64 (k : Int)) (.slice ta acc.length tc)
      exact ⟨k, hnk, hk, f1, f2, _, _, _, _, _, rfl, .inr ⟨HE.out, rfl⟩⟩
    have hE : tok acc (s.drop k) = tok [] (s.drop n) := by rcases hE with ⟨_, h⟩ | ⟨h, _⟩; exact h; cases h
    by_cases hlt : k < s.length
    rotate_left
    · have hke : k = s.length := by omega
      subst hke
      have HE := Lib.hid (show tok [] (s.drop n) = some (acc, s.drop s.length) by rw [← hE, List.drop_eq_nil_of_le (by omega), tok_nil])
      have s0 : ¬ s.length < s.length := hlt
      have x0 : wr.cell? ⟨c, 0, none⟩ = some (.slice sa s.length scap) := row_cells (i := 0) hC.b rfl
      have x1 : wr.cell? ⟨c, 1, none⟩ = some (.int .i64 (s.length : Int)) := row_cells (i := 1) hC.b rfl
      have z1 := row_warm hC.b 1
      have y0 : wr.cell? ⟨h + 1, 0, none⟩ = some (.int .i64 (n : Int)) := row_cells (i := 0) hW.tk rfl
      have y1 : wr.cell? ⟨h + 1, 1, none⟩ = some (.int .i64 0) := row_cells (i := 1) hW.tk rfl
      have y2 : wr.cell? ⟨h + 1, 2, none⟩ = some (.slice ta acc.length tc) := row_cells (i := 2) hW.tk rfl
      have v1 := row_warm hW.tk 1
      have v2 := row_warm hW.tk 2
      have u0 : wr.cell? ⟨h, 0, none⟩ = some (.int .i64 0) := row_cells (i := 0) hW.r rfl
      have u1 : wr.cell? ⟨h, 1, none⟩ = some (.int .i64 0) := row_cells (i := 1) hW.r rfl
      have u2 : wr.cell? ⟨h, 2, none⟩ = some (.slice none 0 0) := row_cells (i := 2) hW.r rfl
      have t0 := row_warm hW.r 0
      have t1 := row_warm hW.r 1
      have t2 := row_warm hW.r 2
      clear hC hW hK hal hE hlt
      go_wp2_with fail
      go_quiet (fail)
      rename Nat => q3
      have HC3 := Lib.hid (HC.out.dN q3)
      have HW3 := Lib.hid (HW.out.dN q3)
      have HK3 := Lib.hid (HK.out.dN q3)
      clear x0 x1 z1 y0 y1 y2 v1 v2 u0 u1 u2 t0 t1 t2 HC HW HK
      generalize wr.drewN q3 = w3 at HC3 HW3 HK3 ⊢
      have x0 : w3.cell? ⟨c, 0, none⟩ = some (.slice sa s.length scap) := row_cells (i := 0) HC3.out.b rfl
      have x1 : w3.cell? ⟨c, 1, none⟩ = some (.int .i64 (s.length : Int)) := row_cells (i := 1) HC3.out.b rfl
      have z1 := row_warm HC3.out.b 1
      have y0 : w3.cell? ⟨h + 1, 0, none⟩ = some (.int .i64 (n : Int)) := row_cells (i := 0) HW3.out.tk rfl
      have y1 : w3.cell? ⟨h + 1, 1, none⟩ = some (.int .i64 0) := row_cells (i := 1) HW3.out.tk rfl
      have y2 : w3.cell? ⟨h + 1, 2, none⟩ = some (.slice ta acc.length tc) := row_cells (i := 2) HW3.out.tk rfl
      have v1 := row_warm HW3.out.tk 1
      have v2 := row_warm HW3.out.tk 2
      have u0 : w3.cell? ⟨h, 0, none⟩ = some (.int .i64 0) := row_cells (i := 0) HW3.out.r rfl
      have u1 : w3.cell? ⟨h, 1, none⟩ = some (.int .i64 0) := row_cells (i := 1) HW3.out.r rfl
      have u2 : w3.cell? ⟨h, 2, none⟩ = some (.slice none 0 0) := row_cells (i := 2) HW3.out.r rfl
      have t0 := row_warm HW3.out.r 0
      have t1 := row_warm HW3.out.r 1
      have t2 := row_warm HW3.out.r 2
      go_wp2_with fail
      refine ret_cell_tmp (x := .bool true) (ad := ⟨h, 0, none⟩) rfl rfl rfl (run_loadVar_mid _ _ 0 _ [.int .i64 (n : Int), .int .i64 (s.length : Int), .slice ta acc.length tc] _ (range3 (by go_simp) (by go_simp) (by go_simp)) Try.underlying44 rfl (by kernel_rfl)) rfl ?_
      obtain ⟨f1, f2, f3⟩ := HW3.out.fin HC3.out hcw HK3.out HH.out (.int .i64 (s.length : Int)) (.int .i64 (n : Int)) (.int .i64 (s.length : Int)) (.slice ta acc.length tc)
      exact ⟨s.length, hnk, hk, f1, f2, _, _, _, _, _, rfl, .inl ⟨acc, HE.out, rfl, rfl, by rw [HH.out]; exact f3⟩⟩
    obtain ⟨x, hx⟩ : ∃ x, s[k]? = some x := ⟨s[k], List.getElem?_eq_getElem hlt⟩
    obtain ⟨rb, roff, rcap, hv, hrb, l0⟩ := hC.rune hx
    cases hv
    have hdr := drop_head hx
    have HDr := Lib.hid hdr
    have HX := Lib.hid hx
    have s0 : (k : Int) < (s.length : Int) := by omega
    have s1 : (0 : Int) ≤ (k : Int) := by omega
    by_cases hbl : blkR x = true
    · have HE := Lib.hid (show tok [] (s.drop n) = some (acc, s.drop k) by rw [← hE, hdr, tok_blank hbl])
      have HBk := Lib.hid (show ∀ w, Calls Try.prog 53 #[.int .i32 x] w fun e w' => e = .returned (.bool true) ∧ w' = w from fun w => (wblank_any x w).mono fun e w' hh => ⟨by rw [hh.1, hbl], hh.2.symm⟩)
      have x0 : wr.cell? ⟨c, 0, none⟩ = some (.slice (some ⟨rb, roff, none⟩) s.length scap) := row_cells (i := 0) hC.b rfl
      have x1 : wr.cell? ⟨c, 1, none⟩ = some (.int .i64 (k : Int)) := row_cells (i := 1) hC.b rfl
      have z1 := row_warm hC.b 1
      have y0 : wr.cell? ⟨h + 1, 0, none⟩ = some (.int .i64 (n : Int)) := row_cells (i := 0) hW.tk rfl
      have y1 : wr.cell? ⟨h + 1, 1, none⟩ = some (.int .i64 0) := row_cells (i := 1) hW.tk rfl
      have y2 : wr.cell? ⟨h + 1, 2, none⟩ = some (.slice ta acc.length tc) := row_cells (i := 2) hW.tk rfl
      have v1 := row_warm hW.tk 1
      have v2 := row_warm hW.tk 2
      have u0 : wr.cell? ⟨h, 0, none⟩ = some (.int .i64 0) := row_cells (i := 0) hW.r rfl
      have u1 : wr.cell? ⟨h, 1, none⟩ = some (.int .i64 0) := row_cells (i := 1) hW.r rfl
      have u2 : wr.cell? ⟨h, 2, none⟩ = some (.slice none 0 0) := row_cells (i := 2) hW.r rfl
      have t0 := row_warm hW.r 0
      have t1 := row_warm hW.r 1
      have t2 := row_warm hW.r 2
      clear hC hW hK hal hE hlt hx hdr hbl
      go_wp2_with fail
      go_quiet ((go_at_call 53; exact Calls.quiet_of_same (HBk.out _)))
      rename Nat => q3
      have HC3 := Lib.hid (HC.out.dN q3)
      have HW3 := Lib.hid (HW.out.dN q3)
      have HK3 := Lib.hid (HK.out.dN q3)
      clear x0 x1 z1 y0 y1 y2 v1 v2 u0 u1 u2 t0 t1 t2 HC HW HK
      generalize wr.drewN q3 = w3 at HC3 HW3 HK3 ⊢
      have x0 : w3.cell? ⟨c, 0, none⟩ = some (.slice (some ⟨rb, roff, none⟩) s.length scap) := row_cells (i := 0) HC3.out.b rfl
      have x1 : w3.cell? ⟨c, 1, none⟩ = some (.int .i64 (k : Int)) := row_cells (i := 1) HC3.out.b rfl
      have z1 := row_warm HC3.out.b 1
      have y0 : w3.cell? ⟨h + 1, 0, none⟩ = some (.int .i64 (n : Int)) := row_cells (i := 0) HW3.out.tk rfl
      have y1 : w3.cell? ⟨h + 1, 1, none⟩ = some (.int .i64 0) := row_cells (i := 1) HW3.out.tk rfl
      have y2 : w3.cell? ⟨h + 1, 2, none⟩ = some (.slice ta acc.length tc) := row_cells (i := 2) HW3.out.tk rfl
      have v1 := row_warm HW3.out.tk 1
      have v2 := row_warm HW3.out.tk 2
      have u0 : w3.cell? ⟨h, 0, none⟩ = some (.int .i64 0) := row_cells (i := 0) HW3.out.r rfl
      have u1 : w3.cell? ⟨h, 1, none⟩ = some (.int .i64 0) := row_cells (i := 1) HW3.out.r rfl
      have u2 : w3.cell? ⟨h, 2, none⟩ = some (.slice none 0 0) := row_cells (i := 2) HW3.out.r rfl
      have t0 := row_warm HW3.out.r 0
      have t1 := row_warm HW3.out.r 1
      have t2 := row_warm HW3.out.r 2
      go_wp2_with fail
      refine ret_cell_tmp (x := .bool true) (ad := ⟨h, 0, none⟩) rfl rfl rfl (run_loadVar_mid _ _ 0 _ [.int .i64 (n : Int), .int .i64 (k : Int), .slice ta acc.length tc] _ (range3 (by go_simp) (by go_simp) (by go_simp)) Try.underlying44 rfl (by kernel_rfl)) rfl ?_
      obtain ⟨f1, f2, f3⟩ := HW3.out.fin HC3.out hcw HK3.out HH.out (.int .i64 (k : Int)) (.int .i64 (n : Int)) (.int .i64 (k : Int)) (.slice ta acc.length tc)
      exact ⟨k, hnk, hk, f1, f2, _, _, _, _, _, rfl, .inl ⟨acc, HE.out, rfl, rfl, by rw [HH.out]; exact f3⟩⟩
    have hbl : blkR x = false := Bool.eq_false_iff.2 hbl
    have HBk := Lib.hid (show ∀ w, Calls Try.prog 53 #[.int .i32 x] w fun e w' => e = .returned (.bool false) ∧ w' = w from fun w => (wblank_any x w).mono fun e w' hh => ⟨by rw [hh.1, hbl], hh.2.symm⟩)
    rw [hdr] at hE
    have HE := Lib.hid hE
    have HBl := Lib.hid hbl
    have e1 := IntWalk.i64_in ((k : Int) + 1) (by omega)
    have hbig : (acc.length + 1) * 4 ≤ 140737488355328 := by omega
    have x0 : wr.cell? ⟨c, 0, none⟩ = some (.slice (some ⟨rb, roff, none⟩) s.length scap) := row_cells (i := 0) hC.b rfl
    have x1 : wr.cell? ⟨c, 1, none⟩ = some (.int .i64 (k : Int)) := row_cells (i := 1) hC.b rfl
    have z1 := row_warm hC.b 1
    have y0 : wr.cell? ⟨h + 1, 0, none⟩ = some (.int .i64 (n : Int)) := row_cells (i := 0) hW.tk rfl
    have y1 : wr.cell? ⟨h + 1, 1, none⟩ = some (.int .i64 0) := row_cells (i := 1) hW.tk rfl
    have y2 : wr.cell? ⟨h + 1, 2, none⟩ = some (.slice ta acc.length tc) := row_cells (i := 2) hW.tk rfl
    have v1 := row_warm hW.tk 1
    have v2 := row_warm hW.tk 2
    have u0 : wr.cell? ⟨h, 0, none⟩ = some (.int .i64 0) := row_cells (i := 0) hW.r rfl
    have u1 : wr.cell? ⟨h, 1, none⟩ = some (.int .i64 0) := row_cells (i := 1) hW.r rfl
    have u2 : wr.cell? ⟨h, 2, none⟩ = some (.slice none 0 0) := row_cells (i := 2) hW.r rfl
    have t0 := row_warm hW.r 0
    have t1 := row_warm hW.r 1
    have t2 := row_warm hW.r 2
    clear hC hW hK hal hE hx hdr hbl
    go_wp2_with fail
    go_quiet ((go_at_call 53; exact Calls.quiet_of_same (HBk.out _)))
    rename Nat => q1
    go_wp2_with fail
    go_quiet (fail)
    rename Nat => q2
    go_upto_region 6 with fail
    have HC2 := Lib.hid (show Cw ((wr.drewN (q1 + q2)).setCell ⟨c, 1, none⟩ (.int .i64 ((k : Int) + 1))) c (.slice (some ⟨rb, roff, none⟩) s.length scap) s (k + 1) from (HC.out.dN _).step (k + 1))
    have HK2 := Lib.hid ((HK.out.dN (q1 + q2)).trans (kept_setCell (P := fun j => j = c ∨ h ≤ j) (wr.drewN (q1 + q2)) ⟨c, 1, none⟩ (.int .i64 ((k : Int) + 1)) (.inl rfl)))
    have HW2 := Lib.hid ((HW.out.dN (q1 + q2)).at' hcw (.int .i64 ((k : Int) + 1)))
    clear x0 x1 z1 y0 y1 y2 v1 v2 u0 u1 u2 t0 t1 t2 l0 HC HK HW
    generalize (wr.drewN (q1 + q2)).setCell ⟨c, 1, none⟩ (.int .i64 ((k : Int) + 1)) = w2 at HC2 HK2 HW2 ⊢
    have hbs2 := HW2.out.hs
    have x0 : w2.cell? ⟨c, 0, none⟩ = some (.slice (some ⟨rb, roff, none⟩) s.length scap) := row_cells (i := 0) HC2.out.b rfl
    have x1 : w2.cell? ⟨c, 1, none⟩ = some (.int .i64 ((k : Int) + 1)) := row_cells (i := 1) HC2.out.b rfl
    have z1 := row_warm HC2.out.b 1
    have y0 : w2.cell? ⟨h + 1, 0, none⟩ = some (.int .i64 (n : Int)) := row_cells (i := 0) HW2.out.tk rfl
    have y1 : w2.cell? ⟨h + 1, 1, none⟩ = some (.int .i64 0) := row_cells (i := 1) HW2.out.tk rfl
    have y2 : w2.cell? ⟨h + 1, 2, none⟩ = some (.slice ta acc.length tc) := row_cells (i := 2) HW2.out.tk rfl
    have v1 := row_warm HW2.out.tk 1
    have v2 := row_warm HW2.out.tk 2
    have u0 : w2.cell? ⟨h, 0, none⟩ = some (.int .i64 0) := row_cells (i := 0) HW2.out.r rfl
    have u1 : w2.cell? ⟨h, 1, none⟩ = some (.int .i64 0) := row_cells (i := 1) HW2.out.r rfl
    have u2 : w2.cell? ⟨h, 2, none⟩ = some (.slice none 0 0) := row_cells (i := 2) HW2.out.r rfl
    have t0 := row_warm HW2.out.r 0
    have t1 := row_warm HW2.out.r 1
    have t2 := row_warm HW2.out.r 2
    by_cases h39 : x = 39
    · subst h39
      have HQ := Lib.hid (quoted_any (q := 39) HC2.out (by decide) (by omega) hl (by have := HAl.out; omega) HW2.out.own (by omega) hbs2)
      go_wp2_with fail
      refine HQ.out.mono ?_
      rintro e w4 ⟨m, hm1, hm2, hK4, hC4, hR⟩
      have HK4 := Lib.hid hK4
      have HC4 := Lib.hid hC4
      have q0 : w4.heap[h + 1]? = some (.cells #[.int .i64 (n : Int), .int .i64 0, .slice ta acc.length tc] 44 (0, 0)) := (hK4.block (h + 1) (by omega) (by omega)).trans HW2.out.tk
      have HKt := Lib.hid (HK2.out.trans (hK4.mono (by rintro j (e | e); exact .inl e; exact .inr (by omega))))
      have q2 : w4.cell? ⟨h + 1, 2, none⟩ = some (.slice ta acc.length tc) := row_cells (i := 2) q0 rfl
      have p2 := row_warm q0 2
      clear x0 x1 z1 y0 y1 y2 v1 v2 u0 u1 u2 t0 t1 t2 HQ q0 hK4 hC4 HBk
      rcases hR with ⟨tv', a', hF, rfl, hO, hal'⟩ | ⟨hF, rfl⟩
      · obtain ⟨tb, tcp, rfl⟩ := slice_of_owns hO
        have HO := Lib.hid hO
        have HN := Lib.hid (show tok a' (s.drop m) = tok [] (s.drop n) by rw [← HE.out, tok_quo_some HBl.out (by decide) hF])
        clear hO hF
        have HW5 := Lib.hid (HW2.out.call (tv' := .slice tb a'.length tcp) (a := a') HK4.out hcw HO.out)
        clear HW2 HC2 HK2
        go_wp2_with fail
        go_roundw
        case rel => exact ⟨m, _, _, a', by omega, hm2, rfl, HC4.out.keep (kept_setCell _ _ _ (by show c < h + 1; omega)), HW5.out, HKt.out.trans (kept_setCell _ _ _ (.inr (by show h ≤ h + 1; omega))), hal', .inl ⟨rfl, HN.out⟩⟩
        case measure => rw [(HC4.out.keep (kept_setCell _ _ _ (by show c < h + 1; omega))).at', HAt.out]; omega
      · have HN := Lib.hid (show tok [] (s.drop n) = none by rw [← HE.out, tok_quo_none HBl.out (by decide) hF])
        clear hF
        have HW5 := Lib.hid (HW2.out.call (tv' := .slice none 0 0) (a := []) HK4.out hcw (World.ownsRow_nil _ _ _ _))
        clear HW2 HC2 HK2
        go_wp2_with fail
        go_roundw
        case rel => exact ⟨m, _, _, [], by omega, hm2, rfl, HC4.out.keep (kept_setCell _ _ _ (by show c < h + 1; omega)), HW5.out, HKt.out.trans (kept_setCell _ _ _ (.inr (by show h ≤ h + 1; omega))), Nat.zero_le _, .inr ⟨rfl, HN.out⟩⟩
        case measure => rw [(HC4.out.keep (kept_setCell _ _ _ (by show c < h + 1; omega))).at', HAt.out]; omega
    have q39 : (x == 39) = false := by simpa using h39
    by_cases h34 : x = 34
    · subst h34
      have HQ := Lib.hid (quoted_any (q := 34) HC2.out (by decide) (by omega) hl (by have := HAl.out; omega) HW2.out.own (by omega) hbs2)
      go_wp2_with fail
      refine HQ.out.mono ?_
      rintro e w4 ⟨m, hm1, hm2, hK4, hC4, hR⟩
      have HK4 := Lib.hid hK4
      have HC4 := Lib.hid hC4
      have q0 : w4.heap[h + 1]? = some (.cells #[.int .i64 (n : Int), .int .i64 0, .slice ta acc.length tc] 44 (0, 0)) := (hK4.block (h + 1) (by omega) (by omega)).trans HW2.out.tk
      have HKt := Lib.hid (HK2.out.trans (hK4.mono (by rintro j (e | e); exact .inl e; exact .inr (by omega))))
      have q2 : w4.cell? ⟨h + 1, 2, none⟩ = some (.slice ta acc.length tc) := row_cells (i := 2) q0 rfl
      have p2 := row_warm q0 2
      clear x0 x1 z1 y0 y1 y2 v1 v2 u0 u1 u2 t0 t1 t2 HQ q0 hK4 hC4 HBk
      rcases hR with ⟨tv', a', hF, rfl, hO, hal'⟩ | ⟨hF, rfl⟩
      · obtain ⟨tb, tcp, rfl⟩ := slice_of_owns hO
        have HO := Lib.hid hO
        have HN := Lib.hid (show tok a' (s.drop m) = tok [] (s.drop n) by rw [← HE.out, tok_quo_some HBl.out (by decide) hF])
        clear hO hF
        have HW5 := Lib.hid (HW2.out.call (tv' := .slice tb a'.length tcp) (a := a') HK4.out hcw HO.out)
        clear HW2 HC2 HK2
        go_wp2_with fail
        go_roundw
        case rel => exact ⟨m, _, _, a', by omega, hm2, rfl, HC4.out.keep (kept_setCell _ _ _ (by show c < h + 1; omega)), HW5.out, HKt.out.trans (kept_setCell _ _ _ (.inr (by show h ≤ h + 1; omega))), hal', .inl ⟨rfl, HN.out⟩⟩
        case measure => rw [(HC4.out.keep (kept_setCell _ _ _ (by show c < h + 1; omega))).at', HAt.out]; omega
      · have HN := Lib.hid (show tok [] (s.drop n) = none by rw [← HE.out, tok_quo_none HBl.out (by decide) hF])
        clear hF
        have HW5 := Lib.hid (HW2.out.call (tv' := .slice none 0 0) (a := []) HK4.out hcw (World.ownsRow_nil _ _ _ _))
        clear HW2 HC2 HK2
        go_wp2_with fail
        go_roundw
        case rel => exact ⟨m, _, _, [], by omega, hm2, rfl, HC4.out.keep (kept_setCell _ _ _ (by show c < h + 1; omega)), HW5.out, HKt.out.trans (kept_setCell _ _ _ (.inr (by show h ≤ h + 1; omega))), Nat.zero_le _, .inr ⟨rfl, HN.out⟩⟩
        case measure => rw [(HC4.out.keep (kept_setCell _ _ _ (by show c < h + 1; omega))).at', HAt.out]; omega
    have q34 : (x == 34) = false := by simpa using h34
    by_cases h92 : x = 92
    · subst h92
      clear q39 q34 h39 h34
      by_cases hm : k + 1 < s.length
      · obtain ⟨y, hy⟩ : ∃ y, s[k + 1]? = some y := ⟨s[k + 1], List.getElem?_eq_getElem hm⟩
        obtain ⟨_, _, _, hv, _, l1⟩ := HC2.out.rune hy
        cases hv
        have hd2 := drop_head hy
        have r1 : (k : Int) + 1 < (s.length : Int) := by omega
        have r2 : (0 : Int) ≤ (k : Int) + 1 := by omega
        have r3 : ((k : Int) + 1).toNat = k + 1 := by omega
        have HN := Lib.hid (show tok (acc ++ [y]) (s.drop (k + 2)) = tok [] (s.drop n) by rw [← HE.out, hd2, tok_esc])
        have HY := Lib.hid hy
        have e2 := IntWalk.i64_in ((k : Int) + 1 + 1) (by omega)
        clear hy hd2
        go_wp2_with fail
        go_quiet (fail)
        rename Nat => q3
        have HC3 := Lib.hid (HC2.out.dN q3)
        have HK3 := Lib.hid (HK2.out.dN q3)
        have HW3 := Lib.hid (HW2.out.dN q3)
        go_upto_region 14 with fail
        have l1' : (w2.drewN q3).cell? ⟨rb, roff + (k + 1), none⟩ = some (.int .i32 y) := l1
        clear x0 x1 z1 y0 y1 y2 v1 v2 u0 u1 u2 t0 t1 t2 l1 hbs2 HC2 HK2 HW2 HBk
        generalize w2.drewN q3 = w3 at HC3 HK3 HW3 l1' ⊢
        have hbs3 := HW3.out.hs
        have x0 : w3.cell? ⟨c, 0, none⟩ = some (.slice (some ⟨rb, roff, none⟩) s.length scap) := row_cells (i := 0) HC3.out.b rfl
        have x1 : w3.cell? ⟨c, 1, none⟩ = some (.int .i64 ((k : Int) + 1)) := row_cells (i := 1) HC3.out.b rfl
        have z1 := row_warm HC3.out.b 1
        have y0 : w3.cell? ⟨h + 1, 0, none⟩ = some (.int .i64 (n : Int)) := row_cells (i := 0) HW3.out.tk rfl
        have y1 : w3.cell? ⟨h + 1, 1, none⟩ = some (.int .i64 0) := row_cells (i := 1) HW3.out.tk rfl
        have y2 : w3.cell? ⟨h + 1, 2, none⟩ = some (.slice ta acc.length tc) := row_cells (i := 2) HW3.out.tk rfl
        have v1 := row_warm HW3.out.tk 1
        have v2 := row_warm HW3.out.tk 2
        have u0 : w3.cell? ⟨h, 0, none⟩ = some (.int .i64 0) := row_cells (i := 0) HW3.out.r rfl
        have u1 : w3.cell? ⟨h, 1, none⟩ = some (.int .i64 0) := row_cells (i := 1) HW3.out.r rfl
        have u2 : w3.cell? ⟨h, 2, none⟩ = some (.slice none 0 0) := row_cells (i := 2) HW3.out.r rfl
        have t0 := row_warm HW3.out.r 0
        have t1 := row_warm HW3.out.r 1
        have t2 := row_warm HW3.out.r 2
        have hrbs : rb < w3.heap.size := World.block_lt_of_cell? w3 _ l1'
        have hcs : c < w3.heap.size := World.block_lt_of_cell? w3 _ x0
        have hhs : h + 1 < w3.heap.size := World.block_lt_of_cell? w3 _ y2
        refine wp_region_held_drew (S := fun w' => w'.cell? ⟨c, 0, none⟩ = some (.slice (some ⟨rb, roff, none⟩) s.length scap) ∧ w'.cell? ⟨c, 1, none⟩ = some (.int .i64 ((k : Int) + 1)) ∧ w'.cell? ⟨rb, roff + (k + 1), none⟩ = some (.int .i32 y)) (by kernel_rfl) ⟨x0, x1, l1'⟩ (fun hHeld => ?_)
        refine hd_take 0 rfl (by kernel_rfl) (by kernel_rfl) (by kernel_rfl) (fun _ _ _ h => h) (by rfl) (by intro w hSw; (try dsimp only at hSw); obtain ⟨o0, o1, o2⟩ := hSw; go_simp; first | done | with_reducible rfl) hHeld ?_
        try simp only [Act.put, List.setIfInBounds_toArray, List.set_cons_zero, List.set_cons_succ]
        refine hd_take 2 rfl (by kernel_rfl) (by kernel_rfl) (by kernel_rfl) (fun _ _ _ h => h) (by rfl) (by intro w hSw; (try dsimp only at hSw); obtain ⟨o0, o1, o2⟩ := hSw; go_simp; first | done | with_reducible rfl) hHeld ?_
        try simp only [Act.put, List.setIfInBounds_toArray, List.set_cons_zero, List.set_cons_succ]
        refine hd_take 3 rfl (by kernel_rfl) (by kernel_rfl) (by kernel_rfl) (fun _ _ _ h => h) (by rfl) (by intro w hSw; (try dsimp only at hSw); obtain ⟨o0, o1, o2⟩ := hSw; go_simp; first | done | with_reducible rfl) hHeld ?_
        try simp only [Act.put, List.setIfInBounds_toArray, List.set_cons_zero, List.set_cons_succ]
        refine hd_take 4 rfl (by kernel_rfl) (by kernel_rfl) (by kernel_rfl) (fun _ _ _ h => h) (by rfl) (by intro w hSw; (try dsimp only at hSw); obtain ⟨o0, o1, o2⟩ := hSw; go_simp; first | done | with_reducible rfl) hHeld ?_
        try simp only [Act.put, List.setIfInBounds_toArray, List.set_cons_zero, List.set_cons_succ]
        refine hd_take 5 rfl (by kernel_rfl) (by kernel_rfl) (by kernel_rfl) (fun _ _ _ h => h) (by rfl) (by intro w hSw; (try dsimp only at hSw); obtain ⟨o0, o1, o2⟩ := hSw; go_simp; first | done | with_reducible rfl) hHeld ?_
        try simp only [Act.put, List.setIfInBounds_toArray, List.set_cons_zero, List.set_cons_succ]
        refine hd_take 6 rfl (by kernel_rfl) (by kernel_rfl) (by kernel_rfl) (fun _ _ _ h => h) (by rfl) (by intro w hSw; (try dsimp only at hSw); obtain ⟨o0, o1, o2⟩ := hSw; go_simp; first | done | with_reducible rfl) hHeld ?_
        try simp only [Act.put, List.setIfInBounds_toArray, List.set_cons_zero, List.set_cons_succ]
        refine hd_take 7 rfl (by kernel_rfl) (by kernel_rfl) (by kernel_rfl) (fun _ _ _ h => h) (by rfl) (by intro w hSw; (try dsimp only at hSw); obtain ⟨o0, o1, o2⟩ := hSw; go_simp; first | done | with_reducible rfl) hHeld ?_
        try simp only [Act.put, List.setIfInBounds_toArray, List.set_cons_zero, List.set_cons_succ]
        refine hd_take 8 rfl (by kernel_rfl) (by kernel_rfl) (by kernel_rfl) (fun _ _ _ h => h) (by rfl) (by intro w hSw; (try dsimp only at hSw); obtain ⟨o0, o1, o2⟩ := hSw; go_simp; first | done | with_reducible rfl) hHeld ?_
        try simp only [Act.put, List.setIfInBounds_toArray, List.set_cons_zero, List.set_cons_succ]
        refine hd_take 9 rfl (by kernel_rfl) (by kernel_rfl) (by kernel_rfl) (fun _ _ _ h => h) (by rfl) (by intro w hSw; (try dsimp only at hSw); obtain ⟨o0, o1, o2⟩ := hSw; go_simp; first | done | with_reducible rfl) hHeld ?_
        try simp only [Act.put, List.setIfInBounds_toArray, List.set_cons_zero, List.set_cons_succ]
        refine hd_take 10 rfl (by kernel_rfl) (by kernel_rfl) (by kernel_rfl) (fun _ _ _ h => h) (by rfl) (by intro w hSw; (try dsimp only at hSw); obtain ⟨o0, o1, o2⟩ := hSw; go_simp; first | done | with_reducible rfl) hHeld ?_
        try simp only [Act.put, List.setIfInBounds_toArray, List.set_cons_zero, List.set_cons_succ]
        refine hd_take 11 rfl (by kernel_rfl) (by kernel_rfl) (by kernel_rfl) (fun _ _ _ h => h) (by rfl) (by intro w hSw; (try dsimp only at hSw); obtain ⟨o0, o1, o2⟩ := hSw; go_simp; first | done | with_reducible rfl) hHeld ?_
        try simp only [Act.put, List.setIfInBounds_toArray, List.set_cons_zero, List.set_cons_succ]
        refine hd_two 1 12 (by kernel_rfl) rfl rfl (fun K hK => ?_) (fun K hK => ?_)
        case' refine_1 =>
          go_simp
          refine hK.out _ _ ⟨x0, x1, l1'⟩ (fun hHeld => ?_)
          clear hK K
          try simp only [Act.put, List.setIfInBounds_toArray, List.set_cons_zero, List.set_cons_succ]
          refine hd_step 12 (by kernel_rfl) rfl (fun K hK => ?_)
          go_simp
          refine hK.out _ _ ⟨(World.cell?_of_block (Below.heap_alloc w3.drew _ _ hcs)).trans x0, (World.cell?_of_block (Below.heap_alloc w3.drew _ _ hcs)).trans x1, (World.cell?_of_block (Below.heap_alloc w3.drew _ _ hrbs)).trans l1'⟩ (fun hHeld => ?_)
          clear hK K
          try simp only [Act.put, List.setIfInBounds_toArray, List.set_cons_zero, List.set_cons_succ]
        case' refine_2 =>
          go_simp
          refine hK.out _ _ ⟨(World.cell?_of_block (Below.heap_alloc w3.drew _ _ hcs)).trans x0, (World.cell?_of_block (Below.heap_alloc w3.drew _ _ hcs)).trans x1, (World.cell?_of_block (Below.heap_alloc w3.drew _ _ hrbs)).trans l1'⟩ (fun hHeld => ?_)
          clear hK K
          try simp only [Act.put, List.setIfInBounds_toArray, List.set_cons_zero, List.set_cons_succ]
          have y2' : (w3.alloc (.cells #[.int .i32 y] 21)).drew.cell? ⟨h + 1, 2, none⟩ = some (.slice ta acc.length tc) := (World.cell?_of_block (Below.heap_alloc w3 _ _ hhs)).trans y2
          refine hd_step 1 (by kernel_rfl) rfl (fun K hK => ?_)
          go_simp
          refine hK.out _ _ ⟨(World.cell?_of_block (Below.heap_alloc w3.drew _ _ hcs)).trans x0, (World.cell?_of_block (Below.heap_alloc w3.drew _ _ hcs)).trans x1, (World.cell?_of_block (Below.heap_alloc w3.drew _ _ hrbs)).trans l1'⟩ (fun hHeld => ?_)
          clear hK K y2'
          try simp only [Act.put, List.setIfInBounds_toArray, List.set_cons_zero, List.set_cons_succ]
        all_goals
          refine hd_step 13 (by kernel_rfl) rfl (fun K hK => ?_)
          rw [if_pos (by rfl)]
          show Oper.wp Try.prog _ _ (w3.drew.alloc (.cells #[.int .i32 y] 21)) _ _
          refine oper_app1 (base := h + 2) w3.drew (.tmp 89) (.tmp 100) _ (by rfl) ER (.slice ta acc.length tc) acc.length (acc.flatMap runeE) (by rfl) (show w3.drew.ownsRow (h + 2) 21 1 (.slice ta acc.length tc) acc.length (acc.flatMap runeE) from HW3.out.own) 1 1 (runeE y) (by rfl) (by decide) rfl (by intro u hu; simp [runeE] at hu; subst hu; rfl) hbig hbs3 ?_
          intro g cp7 w7 ho7 hg7 hf7
          have hg7' : w3.grownBy w7 (Value.slice ta acc.length tc).ownBlock := ⟨hg7.os, hg7.tape, hg7.output, hg7.size, hg7.block⟩
          have HKg := Lib.hid (Kept.of_grown (P := fun j => h + 2 ≤ j) hg7' (fun b e => (HW3.out.own.lt b e).1))
          have HC7 := Lib.hid (HC3.out.keep (HKg.out.mono (fun j hj => by show c < j; omega)))
          have HK7 := Lib.hid (HK3.out.trans (HKg.out.mono (fun j hj => .inr (by omega))))
          have HW7 := Lib.hid (HW3.out.push ho7 hg7')
          have x7 := row_cells (i := 2) (HW3.out.tk7 hg7') rfl
          have z7 := row_warm (HW3.out.tk7 hg7') 2
          clear ho7 hg7 hg7' hf7 hHeld x0 x1 z1 y0 y1 y2 v1 v2 u0 u1 u2 t0 t1 t2 l1'
          have x0 : w7.cell? ⟨c, 0, none⟩ = some (.slice (some ⟨rb, roff, none⟩) s.length scap) := row_cells (i := 0) HC7.out.b rfl
          have x1 : w7.cell? ⟨c, 1, none⟩ = some (.int .i64 ((k : Int) + 1)) := row_cells (i := 1) HC7.out.b rfl
          have z1 := row_warm HC7.out.b 1
          obtain ⟨_, _, _, hv, _, l1⟩ := HC7.out.rune HY.out
          cases hv
          refine hK.out _ _ ⟨x0, x1, l1⟩ (fun hHeld => ?_)
          clear hK K
          try simp only [Act.put, List.setIfInBounds_toArray, List.set_cons_zero, List.set_cons_succ]
          refine hd_take 14 rfl (by kernel_rfl) (by kernel_rfl) (by kernel_rfl) (fun _ _ _ h => h) (by rfl) (by intro w hSw; (try dsimp only at hSw); obtain ⟨o0, o1, o2⟩ := hSw; go_simp; first | done | with_reducible rfl) hHeld ?_
          try simp only [Act.put, List.setIfInBounds_toArray, List.set_cons_zero, List.set_cons_succ]
          have HC8 := Lib.hid (HC7.out.keep (kept_setCell w7 ⟨h + 1, 2, none⟩ (.slice (some ⟨g, 0, none⟩) (acc.length + 1) cp7) (show c < h + 1 by omega)))
          have HK8 := Lib.hid (HK7.out.trans (kept_setCell w7 ⟨h + 1, 2, none⟩ (.slice (some ⟨g, 0, none⟩) (acc.length + 1) cp7) (.inr (show h ≤ h + 1 by omega))))
          obtain ⟨_, _, _, hv, _, l8⟩ := HC8.out.rune HY.out
          cases hv
          refine hd_step 15 (by kernel_rfl) rfl (fun K hK => ?_)
          go_simp
          refine hK.out _ _ ⟨row_cells (i := 0) HC8.out.b rfl, row_cells (i := 1) HC8.out.b rfl, l8⟩ (fun hHeld => ?_)
          clear hK K
          try simp only [Act.put, List.setIfInBounds_toArray, List.set_cons_zero, List.set_cons_succ]
          refine wpAnyH_done (by kernel_rfl) ?_ _
          clear hHeld x0 x1 z1 l1 l8 x7 z7 HC7 HK7 HC3 HK3 HW3
          generalize w7.setCell ⟨h + 1, 2, none⟩ (.slice (some ⟨g, 0, none⟩) (acc.length + 1) cp7) = w8 at HW7 HC8 HK8 ⊢
          have x0 : w8.cell? ⟨c, 0, none⟩ = some (.slice (some ⟨rb, roff, none⟩) s.length scap) := row_cells (i := 0) HC8.out.b rfl
          have x1 : w8.cell? ⟨c, 1, none⟩ = some (.int .i64 ((k : Int) + 1)) := row_cells (i := 1) HC8.out.b rfl
          have z1 := row_warm HC8.out.b 1
          go_wp2_with fail
          go_roundw
          case rel => exact ⟨k + 2, _, _, acc ++ [y], by omega, by omega, rfl, HC8.out.step (k + 2), HW7.out.at' hcw _, HK8.out.trans (kept_setCell _ _ _ (.inl rfl)), by rw [List.length_append]; have := HAl.out; simp; omega, .inl ⟨rfl, HN.out⟩⟩
          case measure =>
            show s.length - atOf (w8.setCell ⟨c, 1, none⟩ (.int .i64 ((k + 2 : Nat) : Int))) c < s.length - atOf wr c
            rw [(HC8.out.step (k + 2)).at', HAt.out]; omega
      · have r1 : decide ((k : Int) + 1 < (s.length : Int)) = false := decide_eq_false (by omega)
        have HN := Lib.hid (show tok [] (s.drop n) = none by rw [← HE.out, List.drop_eq_nil_of_le (by omega), tok_esc0])
        go_wp2_with fail
        go_quiet (fail)
        rename Nat => q3
        go_wp2_with fail
        go_roundw
        case rel => exact ⟨k + 1, _, _, acc, by omega, by omega, rfl, HC2.out.dN _, HW2.out.dN _, HK2.out.dN _, by have := HAl.out; omega, .inr ⟨rfl, HN.out⟩⟩
        case measure => rw [(HC2.out.dN _).at', HAt.out]; omega
    have q92 : (x == 92) = false := by simpa using h92
    have hqu : quoR x = false := by unfold quoR; rw [q39, q34]; rfl
    have HN := Lib.hid (show tok (acc ++ [x]) (s.drop (k + 1)) = tok [] (s.drop n) by rw [← HE.out, tok_plain HBl.out hqu h92])
    clear hqu h39 h34 h92
    go_wp2_with (at_builtin; go_loud (refine wpList_app1 (base := h + 2) _ rfl (.tmp 58) (.tmp 60) _ rfl ER _ _ _ rfl HW2.out.own 1 1 (runeE x) rfl (by decide) rfl (by intro u hu; simp [runeE] at hu; subst hu; rfl) hbig hbs2 ?_); intro g cp7 w7 ho7 hg7 hf7; have HKg := Lib.hid (Kept.of_grown (P := fun j => h + 2 ≤ j) hg7 (fun b e => (HW2.out.own.lt b e).1)); have HW7 := Lib.hid (HW2.out.push ho7 hg7); have x7 := row_cells (i := 2) (HW2.out.tk7 hg7) rfl; have z7 := row_warm (HW2.out.tk7 hg7) 2; clear ho7 hg7 hf7)
    go_roundw
    case rel => exact ⟨k + 1, _, _, acc ++ [x], by omega, by omega, rfl, (HC2.out.keep (HKg.out.mono (fun j hj => by show c < j; omega))).keep (kept_setCell _ _ _ (by show c < h + 1; omega)), HW7.out, (HK2.out.trans (HKg.out.mono (fun j hj => .inr (by omega)))).trans (kept_setCell _ _ _ (.inr (by show h ≤ h + 1; omega))), by rw [List.length_append]; have := HAl.out; simp; omega, .inl ⟨rfl, HN.out⟩⟩
    case measure => rw [((HC2.out.keep (HKg.out.mono (fun j hj => by show c < j; omega))).keep (kept_setCell _ _ _ (by show c < h + 1; omega))).at', HAt.out]; omega
end
end Go.Proofs.Ythlpelfogplomaa
