/- law27.Same: the program's grid against the document's. -/
import Derived.Test.YtokenlecnbploaaGridQ
namespace Go.Proofs.Ytokenlecnbploaa
open Go.RowKit

theorem below_dN {B : Nat} {a w : World} (h : Below B a w) (n : Nat) : Below B a (w.drewN n) := ⟨h.os, h.tape, h.output, h.size, h.block⟩

set_option maxRecDepth 100000 in
set_option maxHeartbeats 1000000 in
theorem same27_yes (gb lb m cap B ob ocap : Nat) (rb rc : Nat → Nat) (G : List (List Gl)) (w : World) (hG : GridG w gb lb m cap G) (hH : RefAt w B ob rb rc m G) (hn : 0 < G.length) (hm : 0 < m) :
    Calls Try.prog 36 #[.pointer (some ⟨gb, 0, none⟩), .slice (some ⟨ob, 0, none⟩) G.length ocap] w fun e w' => e = .returned (.bool true) ∧ Below w.heap.size w w' := by
  have c0 := hG.grid.c0
  have c1 := hG.grid.c1
  have o0 := hH.outer 0 hn
  have hrow := fun (w' : World) (hB : Below w.heap.size w w') (r : Nat) (hr : r < G.length) => row_some gb lb m cap r G _ w' (hG.kept hn hm (P := fun _ => False) (.of_below hB) id id) (get_rowAt hr) hm
  have hsize := fun (w' : World) (hB : Below w.heap.size w w') => size_some gb G.length m w' (cell_later hB c0) (cell_later hB c1)
  have hout := fun (w' : World) (hB : Below w.heap.size w w') (r : Nat) (hr : r < G.length) => cell_later hB (hH.outer r hr)
  have hcell := fun (w' : World) (hB : Below w.heap.size w w') (r c : Nat) (hr : r < G.length) (hc : c < m) =>
    (hH.kept hn (P := fun _ => False) (.of_below hB) id fun _ _ => id).row (get_rowAt hr)
  have hlen := fun (r : Nat) (hr : r < G.length) => hG.shape _ (List.mem_of_getElem? (get_rowAt hr))
  have hsm := hG.small
  have hms := hG.m_small hn
  have hfew := hH.few
  have n0 : (0 : Int) < (G.length : Int) := by omega
  have HR := Lib.hid hrow
  have HS := Lib.hid hsize
  have HO := Lib.hid hout
  have HC := Lib.hid hcell
  have HL := Lib.hid hlen
  clear hrow hsize hout hcell hlen hG hH c0 c1
  go_enter Try.func36, Try.ntmps36
  go_wp2_with fail
  refine (HS.out w (.refl _ _)).mono ?_
  rintro e w1 ⟨rfl, hB1⟩
  have o1 := cell_later hB1 o0
  go_wp2
  go_loopw [7, 8, 9] (fun i _ _ wr => ∃ r : Nat, r ≤ G.length ∧ i = .int .i64 ((r : Nat) : Int) ∧ Below w.heap.size w wr) (fun i _ _ _ => G.length - (intOf i).toNat)
  case atStart => exact ⟨0, Nat.zero_le _, rfl, hB1⟩
  case round =>
    obtain ⟨r, hr, rfl, hB⟩ := hrel
    clear hB1 o1 o0
    by_cases hrn : r < G.length
    · go_wp2_with fail
      refine (HR.out wr hB r hrn).mono ?_
      rintro e w3 ⟨g, gc, rfl, hown, hB3⟩
      have hB03 := below_trans' hB hB3
      have hcg := hown.cells (g := g) rfl
      have hgl := (hown.lt g rfl).2
      have hgc : m ≤ gc := by
        rcases hown.2 with ⟨hv, _⟩ | ⟨g', cap', cur, hv, _, _, h4, _⟩
        · cases hv
        · cases hv; exact h4
      obtain ⟨_, _, _, ho3, hR3, _, hrl, _⟩ := HC.out w3 hB03 r 0 hrn hm
      have hx : ∀ c, c < m → w3.cell? ⟨g, c * 2, none⟩ = some (.string (cellAt (rowAt G r) c).1) ∧ w3.cell? ⟨g, c * 2 + 1, none⟩ = some (.int .i64 (cellAt (rowAt G r) c).2) ∧
          w3.cell? ⟨rb r, c * 2, none⟩ = some (.string (cellAt (rowAt G r) c).1) ∧ w3.cell? ⟨rb r, c * 2 + 1, none⟩ = some (.int .i64 (cellAt (rowAt G r) c).2) := by
        intro c hc
        have hg := get_cellAt (l := rowAt G r) (c := c) (by rw [HL.out r hrn]; exact hc)
        refine ⟨?_, ?_, hR3.text hg, hR3.width hg⟩
        · have := hcg _ _ (flat_get genc_len _ c _ 0 _ hg rfl)
          rw [addr_add] at this; exact this
        · have := hcg _ _ (flat_get genc_len _ c _ 1 _ hg rfl)
          rw [addr_add] at this; exact this
      have HX := Lib.hid hx
      have HO3 := Lib.hid ho3
      have HB03 := Lib.hid hB03
      have hBs := hB.size
      clear hx ho3 hR3 hown hcg hB hB3 hB03
      obtain ⟨wo, rfl⟩ : ∃ wo : World, wo = wr := ⟨_, rfl⟩
      go_wp2
      go_loopw [9] (fun i wj => ∃ c : Nat, c ≤ m ∧ i = .int .i64 ((c : Nat) : Int) ∧ Below w3.heap.size w3 wj) (fun i _ => m - (intOf i).toNat)
      case atStart => exact ⟨0, Nat.zero_le _, rfl, .refl _ _⟩
      case round =>
        obtain ⟨c, hc, rfl, hBc⟩ := hrel
        by_cases hcm : c < m
        · obtain ⟨x0, x1, x2, x3⟩ := HX.out c hcm
          have a0 := cell_later hBc x0
          have a1 := cell_later hBc x1
          have a2 := cell_later hBc x2
          have a3 := cell_later hBc x3
          have a4 := cell_later hBc HO3.out
          generalize cellAt (rowAt G r) c = x at a0 a1 a2 a3
          obtain ⟨t, d⟩ := x
          dsimp only at a0 a1 a2 a3
          have HBc := Lib.hid hBc
          clear x0 x1 x2 x3 hBc
          have q1 : (0 : Int) ≤ (c : Int) := by omega
          have q2 : (c : Int) < (m : Int) := by omega
          have q3 : (0 : Int) ≤ (r : Int) := by omega
          have q4 : (r : Int) < (G.length : Int) := by omega
          go_wp2
          go_quiet (fail)
          go_wp2
          go_roundw
          case rel => exact ⟨c + 1, by omega, by go_num, below_dN HBc.out _⟩
          case measure => simp [intOf]; omega
        · have hcm' : c = m := by omega
          subst hcm'
          go_wp2
          go_roundw
          case rel => exact ⟨r + 1, by omega, by go_num, below_trans' HB03.out hBc⟩
          case measure => simp [intOf]; omega
    · have hrn' : r = G.length := by omega
      subst hrn'
      go_wp2
      go_ret
      exact ⟨rfl, hB⟩

set_option maxRecDepth 100000 in
set_option maxHeartbeats 1000000 in
theorem same27_nil (w : World) :
    Calls Try.prog 36 #[.pointer none, .slice none 0 0] w fun e w' => e = .returned (.bool true) ∧ Below w.heap.size w w' := by
  go_enter Try.func36, Try.ntmps36
  go_wp2_with fail
  refine (size_nil w).mono ?_
  rintro e w1 ⟨rfl, rfl⟩
  go_wp2
  go_loopw [7, 8, 9] (fun i _ _ wr => i = .int .i64 0 ∧ wr = w) (fun _ _ _ _ => 0)
  case atStart => exact ⟨rfl, rfl⟩
  case round =>
    obtain ⟨rfl, rfl⟩ := hrel
    go_wp2
    go_ret
    exact ⟨rfl, .refl _ _⟩

set_option maxRecDepth 100000 in
set_option maxHeartbeats 1000000 in
theorem does_nil_put (k r c d : Int) (t : ByteArray) (w : World) (hk : k = 0 ∨ k = 1 ∨ k = 2) :
    Calls Try.prog 30 #[.pointer none, .slice none 0 0, .agg #[.int .i64 k, .int .i64 r, .int .i64 c, .string t, .int .i64 d]] w fun e w' => e = .returned (.bool true) ∧ Below w.heap.size w w' := by
  rcases hk with rfl | rfl | rfl
  all_goals
    go_enter Try.func30, Try.ntmps30
    go_wp2_with fail
    go_region_held3 (fun w' => w'.cell? ⟨w.heap.size, 1, none⟩ = some (.int .i64 r) ∧ w'.cell? ⟨w.heap.size, 2, none⟩ = some (.int .i64 c) ∧ w'.cell? ⟨w.heap.size, 3, none⟩ = some (.string t) ∧ w'.cell? ⟨w.heap.size, 4, none⟩ = some (.int .i64 d))
      (first | exact ⟨q1, q2, q3, q4⟩ | exact ⟨p1, p2, p3, p4⟩ | go_keep | fail)
      (first
        | (go_at_call 45; refine (put_nil r c d t (World.drew _)).mono ?_; rintro e w1 ⟨rfl, hB1⟩; have hC1 := below_trans' (((Below.refl _ w).alloc (Nat.le_refl _) _).drew) hB1; have p1 := cell_later hB1 (a := ⟨w.heap.size, 1, none⟩) (v := .int .i64 r) (by go_simp); have p2 := cell_later hB1 (a := ⟨w.heap.size, 2, none⟩) (v := .int .i64 c) (by go_simp); have p3 := cell_later hB1 (a := ⟨w.heap.size, 3, none⟩) (v := .string t) (by go_simp); have p4 := cell_later hB1 (a := ⟨w.heap.size, 4, none⟩) (v := .int .i64 d) (by go_simp))
        | (go_at_call 50; refine (refPut_nil r c d t w1).mono ?_; rintro e w2 ⟨rfl, hB2⟩; have hC2 := below_trans' hC1 hB2; have q1 := cell_later hB2 p1; have q2 := cell_later hB2 p2; have q3 := cell_later hB2 p3; have q4 := cell_later hB2 p4)
        | (go_at_call 50; refine (refPut_nil r c d t (World.drew _)).mono ?_; rintro e w1 ⟨rfl, hB1⟩; have hC1 := below_trans' (((Below.refl _ w).alloc (Nat.le_refl _) _).drew) hB1; have p1 := cell_later hB1 (a := ⟨w.heap.size, 1, none⟩) (v := .int .i64 r) (by go_simp); have p2 := cell_later hB1 (a := ⟨w.heap.size, 2, none⟩) (v := .int .i64 c) (by go_simp); have p3 := cell_later hB1 (a := ⟨w.heap.size, 3, none⟩) (v := .string t) (by go_simp); have p4 := cell_later hB1 (a := ⟨w.heap.size, 4, none⟩) (v := .int .i64 d) (by go_simp))
        | (go_at_call 45; refine (put_nil r c d t w1).mono ?_; rintro e w2 ⟨rfl, hB2⟩; have hC2 := below_trans' hC1 hB2; have q1 := cell_later hB2 p1; have q2 := cell_later hB2 p2; have q3 := cell_later hB2 p3; have q4 := cell_later hB2 p4)
        | fail)
    all_goals
      go_wp2
      go_ret
      exact ⟨rfl, hC2⟩

set_option maxRecDepth 100000 in
set_option maxHeartbeats 1000000 in
theorem does_nil_rest (k r c d : Int) (t : ByteArray) (w : World) (k0 : k ≠ 0) (k1 : k ≠ 1) (k2 : k ≠ 2) :
    Calls Try.prog 30 #[.pointer none, .slice none 0 0, .agg #[.int .i64 k, .int .i64 r, .int .i64 c, .string t, .int .i64 d]] w fun e w' => e = .returned (.bool true) ∧ Below w.heap.size w w' := by
  by_cases k3 : k = 3
  · subst k3
    go_enter Try.func30, Try.ntmps30
    go_wp2_with fail
    refine (erase_nil r c _).mono ?_
    rintro e w1 ⟨rfl, rfl⟩
    go_wp2_with fail
    refine (refErase_nil r c _).mono ?_
    rintro e w1 ⟨rfl, rfl⟩
    go_wp2
    go_ret
    exact ⟨rfl, (Below.refl _ _).alloc (Nat.le_refl _) _⟩
  · go_enter Try.func30, Try.ntmps30
    go_wp2_with fail
    refine (clear_nil _).mono ?_
    rintro e w1 ⟨rfl, rfl⟩
    go_wp2
    go_loop [7] (fun i => i = .int .i64 0) (fun _ => 0)
    case atStart => rfl
    case round =>
      subst hrel
      go_wp2
      go_ret
      exact ⟨rfl, (Below.refl _ _).alloc (Nat.le_refl _) _⟩

theorem does_nil (d : Dd) (w : World) :
    Calls Try.prog 30 #[.pointer none, .slice none 0 0, .agg #[.int .i64 d.k, .int .i64 d.r, .int .i64 d.c, .string d.x.1, .int .i64 d.x.2]] w fun e w' => e = .returned (.bool true) ∧ Below w.heap.size w w' := by
  by_cases h : d.k = 0 ∨ d.k = 1 ∨ d.k = 2
  · exact does_nil_put _ _ _ _ _ w h
  · exact does_nil_rest _ _ _ _ _ w (by omega) (by omega) (by omega)
end Go.Proofs.Ytokenlecnbploaa
