/- The document's grid: Put. -/
import Derived.Test.YtokenlecnbploaaRefB
namespace Go.Proofs.Ytokenlecnbploaa
open Go.RowKit

theorem refIn_yes' (B ob m cap : Nat) (rb rc : Nat → Nat) (G : List (List Gl)) (r c : Int) (w : World) (hG : RefAt w B ob rb rc m G) (h1 : 0 ≤ r) (h2 : r < G.length) (h3 : 0 ≤ c) (h4 : c < m) :
    Calls Try.prog 58 #[.slice (some ⟨ob, 0, none⟩) G.length cap, .int .i64 r, .int .i64 c] w fun e w' => e = .returned (.bool true) ∧ w = w' :=
  refIn_yes ob G.length m cap (rb r.toNat) (rc r.toNat) r c w h1 h2 h3 h4 (hG.outer _ (by omega))
theorem refIn_no' (B ob m cap : Nat) (rb rc : Nat → Nat) (G : List (List Gl)) (r c : Int) (w : World) (hG : RefAt w B ob rb rc m G) (h : ¬ (0 ≤ r ∧ r < G.length ∧ 0 ≤ c ∧ c < m)) :
    Calls Try.prog 58 #[.slice (some ⟨ob, 0, none⟩) G.length cap, .int .i64 r, .int .i64 c] w fun e w' => e = .returned (.bool false) ∧ w = w' :=
  refIn_no ob G.length m cap rb rc r c w hG.outer h

theorem grown_drew {w w' : World} {r : Option Nat} (h : w.grownBy w' r) : w.grownBy w'.drew r := ⟨h.os, h.tape, h.output, h.size, h.block⟩

set_option maxRecDepth 100000 in
set_option maxHeartbeats 1000000 in
theorem refPut_no (B ob m cap : Nat) (rb rc : Nat → Nat) (G : List (List Gl)) (r c d : Int) (t : ByteArray) (w : World) (hob : ob < w.heap.size) (hG : RefAt w B ob rb rc m G) (h : ¬ roomy G.length m r c d) :
    Calls Try.prog 50 #[.slice (some ⟨ob, 0, none⟩) G.length cap, .int .i64 r, .int .i64 c, .agg #[.string t, .int .i64 d]] w fun e w' => e = .returned (.bool false) ∧ Below w.heap.size w w' := by
  have hsm := hG.small
  have hGx : RefAt (w.alloc (.cells #[.string t, .int .i64 d] 56)) B ob rb rc m G := hG.same (Below.heap_alloc _ _ _ hob) fun r hr => Below.heap_alloc _ _ _ (hG.row (List.getElem?_eq_getElem hr)).2.2.2.2.2.2.1
  generalize hn : G.length = n at *
  unfold roomy at h
  by_cases h1 : 0 ≤ r ∧ r < n ∧ 0 ≤ c ∧ c < m
  · have h2 : (d ≠ 1 ∧ d ≠ 2) ∨ (d = 2 ∧ c + 1 = m) := by omega
    rcases h2 with ⟨h2, h3⟩ | ⟨h2, h3⟩
    · go_enter Try.func50, Try.ntmps50
      go_wp2_with fail
      subst hn
      refine (refIn_yes' B ob m cap rb rc G _ _ _ hGx h1.1 h1.2.1 h1.2.2.1 h1.2.2.2).mono ?_
      rintro e w' ⟨rfl, rfl⟩
      go_wp2
      go_ret
      exact ⟨rfl, (Below.refl _ _).alloc (Nat.le_refl _) _⟩
    · subst h2
      obtain ⟨q1, q2, q3, q4⟩ := h1
      go_enter Try.func50, Try.ntmps50
      go_wp2_with fail
      subst hn
      refine (refIn_yes' B ob m cap rb rc G _ _ _ hGx q1 q2 q3 q4).mono ?_
      rintro e w' ⟨rfl, rfl⟩
      go_wp2_with fail
      refine (refIn_no' B ob m cap rb rc G _ _ _ hGx (by omega)).mono ?_
      rintro e w' ⟨rfl, rfl⟩
      go_wp2
      go_ret
      exact ⟨rfl, (Below.refl _ _).alloc (Nat.le_refl _) _⟩
  · go_enter Try.func50, Try.ntmps50
    go_wp2_with fail
    subst hn
    refine (refIn_no' B ob m cap rb rc G _ _ _ hGx h1).mono ?_
    rintro e w' ⟨rfl, rfl⟩
    go_wp2
    go_ret
    exact ⟨rfl, (Below.refl _ _).alloc (Nat.le_refl _) _⟩

set_option maxRecDepth 100000 in
set_option maxHeartbeats 1000000 in
theorem refPut_nil (r c d : Int) (t : ByteArray) (w : World) :
    Calls Try.prog 50 #[.slice none 0 0, .int .i64 r, .int .i64 c, .agg #[.string t, .int .i64 d]] w fun e w' => e = .returned (.bool false) ∧ Below w.heap.size w w' := by
  go_enter Try.func50, Try.ntmps50
  go_wp2_with fail
  refine (refIn_out _ 0 0 r c _ (by omega)).mono ?_
  rintro e w' ⟨rfl, rfl⟩
  go_wp2
  go_ret
  exact ⟨rfl, (Below.refl _ _).alloc (Nat.le_refl _) _⟩

set_option maxRecDepth 100000 in
set_option maxHeartbeats 1000000 in
theorem refPut_one (B ob m cap : Nat) (rb rc : Nat → Nat) (G : List (List Gl)) (r c : Nat) (l : List Gl) (x : Gl) (w : World) (hG : RefAt w B ob rb rc m G) (hr : G[r]? = some l) (hc : c < m) (hx : x.2 = 1) :
    Calls Try.prog 50 #[.slice (some ⟨ob, 0, none⟩) G.length cap, .int .i64 r, .int .i64 c, .agg #[.string x.1, .int .i64 x.2]] w fun e w' => e = .returned (.bool true) ∧ w.grownBy w' (some (rb r)) ∧ RefAt w' B ob rb rc m (G.set r (putRow l c x)) := by
  obtain ⟨hl, hw, hrl, ho, hR, hne, hlb, hob⟩ := hG.row hr
  obtain ⟨t, d⟩ := x
  dsimp only at hx ⊢
  subst hx
  have hput : putRow l c (t, 1) = (looseRow l c).set c (t, 1) := by unfold putRow; rw [if_neg (show ¬ (1 : Int) = 2 by decide)]
  have HP := Lib.hid hput
  have hwp : wfRow (putRow l c (t, 1)) := wf_put hw (by omega) (.inl rfl)
  have hsm := hG.small
  have hfew := hG.few
  have hGx : RefAt (w.alloc (.cells #[.string t, .int .i64 1] 56)) B ob rb rc m G := hG.same (Below.heap_alloc _ _ _ hob) fun r hr => Below.heap_alloc _ _ _ (hG.row (List.getElem?_eq_getElem hr)).2.2.2.2.2.2.1
  have HG := Lib.hid hG
  clear hput hG
  go_enter Try.func50, Try.ntmps50
  go_wp2_with fail
  refine (refIn_yes' B ob m cap rb rc G _ _ _ hGx (by omega) (by omega) (by omega) (by omega)).mono ?_
  rintro e w' ⟨rfl, rfl⟩
  have hr0 : (0 : Int) ≤ (r : Int) := by omega
  have hr1 : (r : Int) < (G.length : Int) := by omega
  have hc0 : (0 : Int) ≤ (c : Int) := by omega
  have hc1 : (c : Int) < (m : Int) := by omega
  go_wp2_with fail
  refine (rloose_any (rb r) m (rc r) c l _ (hR.same (Below.heap_alloc _ _ _ hlb)) hl hw hc hsm).mono ?_
  rintro e w2 ⟨rfl, hg2, hR2⟩
  have ho2 : w2.cell? ⟨ob, r, none⟩ = some (.slice (some ⟨rb r, 0, none⟩) m (rc r)) := grown_cell hg2 (by go_simp) (by exact fun e => hne e.symm)
  have x0 : w2.cell? ⟨w.heap.size, 0, none⟩ = some (.string t) := grown_cell hg2 (by go_simp) (by show w.heap.size ≠ rb r; omega)
  have x1 : w2.cell? ⟨w.heap.size, 1, none⟩ = some (.int .i64 1) := grown_cell hg2 (by go_simp) (by show w.heap.size ≠ rb r; omega)
  have hgw : w.grownBy w2 (some (rb r)) := ⟨hg2.os, hg2.tape, hg2.output, Nat.le_trans (by simp) hg2.size, fun j hj hn => (hg2.block j (by simp; omega) hn).trans (Below.heap_alloc _ _ _ hj)⟩
  obtain ⟨s0, s1, v0, v1, hlb2⟩ := hR2.facts (k := c) (by rw [looseRow_len]; omega)
  have hnx : ¬ w.heap.size = rb r := by omega
  have hnx' : ¬ rb r = w.heap.size := by omega
  have hnx2 : ¬ ob = rb r := fun e => hne e.symm
  have hnx3 : ¬ rb r = ob := hne
  clear hg2 hGx
  go_wp2
  go_region_held3 (fun w' => w'.cell? ⟨ob, r, none⟩ = some (.slice (some ⟨rb r, 0, none⟩) m (rc r)) ∧ w'.cell? ⟨w.heap.size, 0, none⟩ = some (.string t) ∧ w'.cell? ⟨w.heap.size, 1, none⟩ = some (.int .i64 1)) (go_keep) (first | fail)
  go_wp2
  go_ret
  have hp := hR2.put0 (k := c) (by rw [looseRow_len]; omega) (t, 1)
  have hg3 : w.grownBy _ (some (rb r)) := grown_trans hgw hp.2
  have hg4 := grown_drew hg3
  refine ⟨rfl, hg4, HG.out.set hrl hg4 ?_ (by rw [putRow_len]; exact hl) hwp⟩
  rw [HP.out]
  exact hp.1.same rfl

set_option maxRecDepth 100000 in
set_option maxHeartbeats 1000000 in
theorem refPut_two (B ob m cap : Nat) (rb rc : Nat → Nat) (G : List (List Gl)) (r c : Nat) (l : List Gl) (x : Gl) (w : World) (hG : RefAt w B ob rb rc m G) (hr : G[r]? = some l) (hcw : c + 1 < m) (hx : x.2 = 2) :
    Calls Try.prog 50 #[.slice (some ⟨ob, 0, none⟩) G.length cap, .int .i64 r, .int .i64 c, .agg #[.string x.1, .int .i64 x.2]] w fun e w' => e = .returned (.bool true) ∧ w.grownBy w' (some (rb r)) ∧ RefAt w' B ob rb rc m (G.set r (putRow l c x)) := by
  have hc : c < m := by omega
  obtain ⟨hl, hw, hrl, ho, hR, hne, hlb, hob⟩ := hG.row hr
  obtain ⟨t, d⟩ := x
  dsimp only at hx ⊢
  subst hx
  have hput : putRow l c (t, 2) = ((looseRow (looseRow l c) (c + 1)).set (c + 1) zeroC).set c (t, 2) := by unfold putRow; rw [if_pos rfl]
  have HP := Lib.hid hput
  have hwp : wfRow (putRow l c (t, 2)) := wf_put hw (by omega) (.inr ⟨rfl, by omega⟩)
  have hsm := hG.small
  have hfew := hG.few
  have hGx : RefAt (w.alloc (.cells #[.string t, .int .i64 2] 56)) B ob rb rc m G := hG.same (Below.heap_alloc _ _ _ hob) fun r hr => Below.heap_alloc _ _ _ (hG.row (List.getElem?_eq_getElem hr)).2.2.2.2.2.2.1
  have HG := Lib.hid hG
  clear hput hG
  go_enter Try.func50, Try.ntmps50
  go_wp2_with fail
  refine (refIn_yes' B ob m cap rb rc G _ _ _ hGx (by omega) (by omega) (by omega) (by omega)).mono ?_
  rintro e w' ⟨rfl, rfl⟩
  go_wp2_with fail
  refine (refIn_yes' B ob m cap rb rc G _ _ _ hGx (by omega) (by omega) (by omega) (by omega)).mono ?_
  rintro e w' ⟨rfl, rfl⟩
  have hr0 : (0 : Int) ≤ (r : Int) := by omega
  have hr1 : (r : Int) < (G.length : Int) := by omega
  have hc0 : (0 : Int) ≤ (c : Int) := by omega
  have hc1 : (c : Int) < (m : Int) := by omega
  go_wp2_with fail
  refine (rloose_any (rb r) m (rc r) c l _ (hR.same (Below.heap_alloc _ _ _ hlb)) hl hw hc hsm).mono ?_
  rintro e w2 ⟨rfl, hg2, hR2⟩
  have ho2 : w2.cell? ⟨ob, r, none⟩ = some (.slice (some ⟨rb r, 0, none⟩) m (rc r)) := grown_cell hg2 (by go_simp) (by exact fun e => hne e.symm)
  have x0 : w2.cell? ⟨w.heap.size, 0, none⟩ = some (.string t) := grown_cell hg2 (by go_simp) (by show w.heap.size ≠ rb r; omega)
  have x1 : w2.cell? ⟨w.heap.size, 1, none⟩ = some (.int .i64 2) := grown_cell hg2 (by go_simp) (by show w.heap.size ≠ rb r; omega)
  have hgw : w.grownBy w2 (some (rb r)) := ⟨hg2.os, hg2.tape, hg2.output, Nat.le_trans (by simp) hg2.size, fun j hj hn => (hg2.block j (by simp; omega) hn).trans (Below.heap_alloc _ _ _ hj)⟩
  have hnx : ¬ w.heap.size = rb r := by omega
  have hnx' : ¬ rb r = w.heap.size := by omega
  have hnx2 : ¬ ob = rb r := fun e => hne e.symm
  have hnx3 : ¬ rb r = ob := hne
  clear hg2 hGx
  have hlb2 := hR2.lt (k := c) (by rw [looseRow_len]; omega)
  have hwl := wf_loose hw (k := c) (by omega)
  have hj0 : (0 : Int) ≤ (c : Int) + 1 := by omega
  have hj1 : (c : Int) + 1 < (m : Int) := by omega
  have hj3 : ((c : Int) + 1).toNat = c + 1 := by omega
  have e1 := IntWalk.i64_in ((c : Int) + 1) (by omega)
  go_wp2_with fail
  refine (rloose_any (rb r) m (rc r) (c + 1) (looseRow l c) _ hR2 (by rw [looseRow_len]; exact hl) hwl hcw hsm).mono ?_
  rintro e w3 ⟨rfl, hg3, hR3⟩
  have ho3 : w3.cell? ⟨ob, r, none⟩ = some (.slice (some ⟨rb r, 0, none⟩) m (rc r)) := grown_cell hg3 ho2 (by exact fun e => hne e.symm)
  have y0 : w3.cell? ⟨w.heap.size, 0, none⟩ = some (.string t) := grown_cell hg3 x0 (by show w.heap.size ≠ rb r; omega)
  have y1 : w3.cell? ⟨w.heap.size, 1, none⟩ = some (.int .i64 2) := grown_cell hg3 x1 (by show w.heap.size ≠ rb r; omega)
  have hgw3 := grown_trans hgw hg3
  obtain ⟨s0, s1, v0, v1, hlb3⟩ := hR3.facts (k := c + 1) (by rw [looseRow_len, looseRow_len]; omega)
  clear ho2 x0 x1 hg3
  go_wp2
  have h4 := hR3.put0 (k := c + 1) (by rw [looseRow_len, looseRow_len]; omega) zeroC
  dsimp only [zeroC] at h4
  generalize (w3.setCell ⟨rb r, (c + 1) * 2, none⟩ (Value.string ⟨#[]⟩)).setCell ⟨rb r, (c + 1) * 2 + 1, none⟩ (Value.int .i64 0) = W4 at h4 ⊢
  obtain ⟨hR4, g4⟩ := h4
  have hR4' : RowAt W4 (rb r) ((looseRow (looseRow l c) (c + 1)).set (c + 1) zeroC) := hR4
  have ho2 : W4.cell? ⟨ob, r, none⟩ = some (.slice (some ⟨rb r, 0, none⟩) m (rc r)) := grown_cell g4 ho3 (by exact fun e => hne e.symm)
  have x0 : W4.cell? ⟨w.heap.size, 0, none⟩ = some (.string t) := grown_cell g4 y0 (by show w.heap.size ≠ rb r; omega)
  have x1 : W4.cell? ⟨w.heap.size, 1, none⟩ = some (.int .i64 2) := grown_cell g4 y1 (by show w.heap.size ≠ rb r; omega)
  have hgw4 := grown_trans hgw3 g4
  have hcl : c < ((looseRow (looseRow l c) (c + 1)).set (c + 1) zeroC).length := by rw [List.length_set, looseRow_len, looseRow_len]; omega
  clear s0 s1 v0 v1 ho3 y0 y1 hR4 g4
  obtain ⟨s0, s1, v0, v1, hlb4⟩ := hR4'.facts hcl
  go_region_held3 (fun w' => w'.cell? ⟨ob, r, none⟩ = some (.slice (some ⟨rb r, 0, none⟩) m (rc r)) ∧ w'.cell? ⟨w.heap.size, 0, none⟩ = some (.string t) ∧ w'.cell? ⟨w.heap.size, 1, none⟩ = some (.int .i64 2)) (go_keep) (first | fail)
  go_wp2
  go_ret
  have hp := hR4'.put0 hcl (t, 2)
  have hg5 : w.grownBy _ (some (rb r)) := grown_drew (grown_trans hgw4 hp.2)
  refine ⟨rfl, hg5, HG.out.set hrl hg5 ?_ (by rw [putRow_len]; exact hl) hwp⟩
  rw [HP.out]
  exact hp.1.same rfl
end Go.Proofs.Ytokenlecnbploaa
