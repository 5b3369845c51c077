/- grid.Put. -/
import Derived.Test.YtokenlecnbploaaGridB
namespace Go.Proofs.Ytokenlecnbploaa
open Go.RowKit

theorem grown_cell {w w' : World} {r : Nat} {a : Addr} {v : Value} (h : w.grownBy w' (some r)) (hc : w.cell? a = some v) (hne : a.block ≠ r) : w'.cell? a = some v := h.cell hc (by simpa using hne)

/-- loose's contract, its index as the walk has it -/
theorem loose_Gi (gb lb m cap r c q : Nat) (G : List (List Gl)) (l : List Gl) (w : World) (hG : GridG w gb lb m cap G) (hr : G[r]? = some l) (hc : c < m) (hq : q = r * m) :
    Calls Try.prog 56 #[.pointer (some ⟨gb, 0, none⟩), .int .i64 ((q : Int) + (c : Int))] w fun e w' => e = .returned (.tuple #[]) ∧ w.grownBy w' (some lb) ∧ GridG w' gb lb m cap (G.set r (looseRow l c)) := by
  have h := loose_G gb lb m cap r c G l w hG hr hc
  rw [← hq, Int.natCast_add] at h
  exact h

theorem loose_Gj (gb lb m cap r c q : Nat) (G : List (List Gl)) (l : List Gl) (w : World) (hG : GridG w gb lb m cap G) (hr : G[r]? = some l) (hc : c + 1 < m) (hq : q = r * m) :
    Calls Try.prog 56 #[.pointer (some ⟨gb, 0, none⟩), .int .i64 ((q : Int) + (c : Int) + 1)] w fun e w' => e = .returned (.tuple #[]) ∧ w.grownBy w' (some lb) ∧ GridG w' gb lb m cap (G.set r (looseRow l (c + 1))) := by
  have h := loose_Gi gb lb m cap r (c + 1) q G l w hG hr hc hq
  rw [Int.natCast_add, ← Int.add_assoc] at h
  exact h

set_option maxRecDepth 100000 in
set_option maxHeartbeats 1000000 in
theorem put_one (gb lb m cap r c : Nat) (G : List (List Gl)) (l : List Gl) (x : Gl) (w : World) (hG : GridG w gb lb m cap G) (hr : G[r]? = some l) (hc : c < m) (hx : x.2 = 1) :
    Calls Try.prog 45 #[.pointer (some ⟨gb, 0, none⟩), .int .i64 r, .int .i64 c, .agg #[.string x.1, .int .i64 x.2]] w fun e w' => e = .returned (.bool true) ∧ w.grownBy w' (some lb) ∧ GridG w' gb lb m cap (G.set r (putRow l c x)) := by
  obtain ⟨hl, hw, hrl⟩ := hG.row hr
  obtain ⟨t, d⟩ := x
  dsimp only at hx ⊢
  subst hx
  obtain ⟨q, hq⟩ : ∃ q, q = r * m := ⟨_, rfl⟩
  have hqi : (r : Int) * (m : Int) = (q : Int) := by rw [hq, Int.natCast_mul]
  have hix := (hG.index hr hc).1
  have hsm := hG.small
  have hln := hG.grid.len
  rw [← hq] at hix
  have hgl := hG.grid.glt
  have hll := hG.grid.llt hix
  have c0 := hG.grid.c0
  have c1 := hG.grid.c1
  have hne : ¬ gb = lb := hG.grid.ne
  have hne' : ¬ lb = gb := fun e => hG.grid.ne e.symm
  have hput : putRow l c (t, 1) = (looseRow l c).set c (t, 1) := by unfold putRow; rw [if_neg (show ¬ (1 : Int) = 2 by decide)]
  have HP := Lib.hid hput
  have hGs := hG.shape
  have hGw := hG.wf
  have hwp : wfRow (putRow l c (t, 1)) := wf_put hw (by omega) (.inl rfl)
  have HQ := Lib.hid hq
  clear hq hput
  go_enter Try.func45, Try.ntmps45
  go_wp2_with (first | (go_at_call 52; refine (in_yes gb G.length m _ _ _ (by go_simp) (by go_simp) (by omega) (by omega) (by omega) (by omega)).mono ?_; rintro e w' ⟨rfl, rfl⟩))
  have hGx : GridG (w.alloc (.cells #[.string t, .int .i64 1] 36)) gb lb m cap G := hG.grown (Below.heap_alloc _ _ _ hgl) (Below.heap_alloc _ _ _ hll)
  refine (loose_Gi gb lb m cap r c q G l _ hGx hr hc HQ.out).mono ?_
  rintro e w2 ⟨rfl, hg2, hG2⟩
  have x0 : w2.cell? ⟨w.heap.size, 0, none⟩ = some (.string t) := grown_cell hg2 (by go_simp) (by show w.heap.size ≠ lb; omega)
  have x1 : w2.cell? ⟨w.heap.size, 1, none⟩ = some (.int .i64 1) := grown_cell hg2 (by go_simp) (by show w.heap.size ≠ lb; omega)
  have hgw : w.grownBy w2 (some lb) := ⟨hg2.os, hg2.tape, hg2.output, Nat.le_trans (by simp) hg2.size, fun j hj hn => (hg2.block j (by simp; omega) hn).trans (Below.heap_alloc _ _ _ hj)⟩
  have hr2 : (G.set r (looseRow l c))[r]? = some (looseRow l c) := List.getElem?_set_self hrl
  have hix2 := (hG2.index hr2 hc).1
  rw [← HQ.out] at hix2
  obtain ⟨d2, s0, s1, v0, v1, hlb2, hgb2⟩ := hG2.grid.facts hix2
  rw [List.length_set] at d2
  have hk1 : (q : Int) + (c : Int) < ((G.length * m : Nat) : Int) := by omega
  have hk0 : (0 : Int) ≤ (q : Int) + (c : Int) := by omega
  have hk2 : (q : Int) + (c : Int) < (G.length : Int) * (m : Int) := by rw [← Int.natCast_mul]; exact hk1
  have hk3 : ((q : Int) + (c : Int)).toNat = q + c := by omega
  have hnx : ¬ w.heap.size = lb := by omega
  have hnx' : ¬ lb = w.heap.size := by omega
  clear hG hGx hg2 hw hix hqi c0 c1
  go_wp2
  go_region_held3 (fun w' => w'.cell? ⟨gb, 2, none⟩ = some (.slice (some ⟨lb, 0, none⟩) (G.length * m) cap) ∧ w'.cell? ⟨w.heap.size, 0, none⟩ = some (.string t) ∧ w'.cell? ⟨w.heap.size, 1, none⟩ = some (.int .i64 1)) (go_keep) (first | fail)
  go_wp2
  go_ret
  have hp := hG2.grid.put0 hix2 (t, 1)
  refine ⟨rfl, grown_trans hgw hp.2, ?_⟩
  rw [HP.out]
  have hsh : ∀ k ∈ G.set r (looseRow l c), k.length = m := set_shape hGs (by rw [looseRow_len]; exact hl)
  have h3 := hp.1
  rw [HQ.out, flat_set hsh _ hr2 hc, List.set_set, List.length_set] at h3
  rw [HQ.out]
  exact ⟨by rw [List.length_set]; exact h3, set_shape hGs (by rw [List.length_set, looseRow_len]; exact hl), set_wf hGw (by rw [← HP.out]; exact hwp), by rw [List.length_set]; exact hsm⟩
set_option maxRecDepth 100000 in
set_option maxHeartbeats 1000000 in
theorem put_two (gb lb m cap r c : Nat) (G : List (List Gl)) (l : List Gl) (x : Gl) (w : World) (hG : GridG w gb lb m cap G) (hr : G[r]? = some l) (hc0 : c + 1 < m) (hx : x.2 = 2) :
    Calls Try.prog 45 #[.pointer (some ⟨gb, 0, none⟩), .int .i64 r, .int .i64 c, .agg #[.string x.1, .int .i64 x.2]] w fun e w' => e = .returned (.bool true) ∧ w.grownBy w' (some lb) ∧ GridG w' gb lb m cap (G.set r (putRow l c x)) := by
  have hc : c < m := by omega
  obtain ⟨hl, hw, hrl⟩ := hG.row hr
  obtain ⟨t, d⟩ := x
  dsimp only at hx ⊢
  subst hx
  obtain ⟨q, hq⟩ : ∃ q, q = r * m := ⟨_, rfl⟩
  have hqi : (r : Int) * (m : Int) = (q : Int) := by rw [hq, Int.natCast_mul]
  have hix := (hG.index hr hc).1
  have hsm := hG.small
  have hln := hG.grid.len
  rw [← hq] at hix
  have hgl := hG.grid.glt
  have hll := hG.grid.llt hix
  have c0 := hG.grid.c0
  have c1 := hG.grid.c1
  have hne : ¬ gb = lb := hG.grid.ne
  have hne' : ¬ lb = gb := fun e => hG.grid.ne e.symm
  have hput : putRow l c (t, 2) = ((looseRow (looseRow l c) (c + 1)).set (c + 1) zeroC).set c (t, 2) := by unfold putRow; rw [if_pos rfl]
  have HP := Lib.hid hput
  have hGs := hG.shape
  have hGw := hG.wf
  have hwp : wfRow (putRow l c (t, 2)) := wf_put hw (by omega) (.inr ⟨rfl, by omega⟩)
  have HQ := Lib.hid hq
  clear hq hput
  go_enter Try.func45, Try.ntmps45
  go_wp2_with (first | (go_at_call 52; refine (in_yes gb G.length m _ _ _ (by go_simp) (by go_simp) (by omega) (by omega) (by omega) (by omega)).mono ?_; rintro e w' ⟨rfl, rfl⟩))
  have hGx : GridG (w.alloc (.cells #[.string t, .int .i64 2] 36)) gb lb m cap G := hG.grown (Below.heap_alloc _ _ _ hgl) (Below.heap_alloc _ _ _ hll)
  refine (loose_Gi gb lb m cap r c q G l _ hGx hr hc HQ.out).mono ?_
  rintro e w2 ⟨rfl, hg2, hG2⟩
  have x0 : w2.cell? ⟨w.heap.size, 0, none⟩ = some (.string t) := grown_cell hg2 (by go_simp) (by show w.heap.size ≠ lb; omega)
  have x1 : w2.cell? ⟨w.heap.size, 1, none⟩ = some (.int .i64 2) := grown_cell hg2 (by go_simp) (by show w.heap.size ≠ lb; omega)
  have hgw : w.grownBy w2 (some lb) := ⟨hg2.os, hg2.tape, hg2.output, Nat.le_trans (by simp) hg2.size, fun j hj hn => (hg2.block j (by simp; omega) hn).trans (Below.heap_alloc _ _ _ hj)⟩
  have hr2 : (G.set r (looseRow l c))[r]? = some (looseRow l c) := List.getElem?_set_self hrl
  have hix2 := (hG2.index hr2 hc).1
  rw [← HQ.out] at hix2
  have hqc : (q : Int) + (c : Int) + 1 ≤ 1073741824 := by omega
  clear hix hqi
  have hlb2 := hG2.grid.llt hix2
  have hgb2 := hG2.grid.glt
  go_wp2_with fail
  refine (loose_Gj gb lb m cap r c q _ _ _ hG2 hr2 hc0 HQ.out).mono ?_
  rintro e w3 ⟨rfl, hg3, hG3⟩
  rw [List.set_set] at hG3
  have y0 : w3.cell? ⟨w.heap.size, 0, none⟩ = some (.string t) := grown_cell hg3 x0 (by show w.heap.size ≠ lb; omega)
  have y1 : w3.cell? ⟨w.heap.size, 1, none⟩ = some (.int .i64 2) := grown_cell hg3 x1 (by show w.heap.size ≠ lb; omega)
  have hg23 := grown_trans hgw hg3
  have hr3 : (G.set r (looseRow (looseRow l c) (c + 1)))[r]? = some (looseRow (looseRow l c) (c + 1)) := List.getElem?_set_self hrl
  have hix3 := (hG3.index hr3 hc).1
  have hix4 := (hG3.index hr3 hc0).1
  rw [← HQ.out] at hix3 hix4
  obtain ⟨d2, s0, s1, v0, v1, hlb3, hgb3⟩ := hG3.grid.facts hix3
  obtain ⟨_, p0, p1, z0, z1, _, _⟩ := hG3.grid.facts hix4
  rw [List.length_set] at d2
  have hln3 := hG3.grid.len
  rw [List.length_set] at hln3
  have hk1 : (q : Int) + (c : Int) < ((G.length * m : Nat) : Int) := by omega
  have hk0 : (0 : Int) ≤ (q : Int) + (c : Int) := by omega
  have hk2 : (q : Int) + (c : Int) < (G.length : Int) * (m : Int) := by rw [← Int.natCast_mul]; exact hk1
  have hk3 : ((q : Int) + (c : Int)).toNat = q + c := by omega
  have hj1 : (q : Int) + (c : Int) + 1 < ((G.length * m : Nat) : Int) := by omega
  have hj0 : (0 : Int) ≤ (q : Int) + (c : Int) + 1 := by omega
  have hj2 : (q : Int) + (c : Int) + 1 < (G.length : Int) * (m : Int) := by rw [← Int.natCast_mul]; exact hj1
  have hj3 : ((q : Int) + (c : Int) + 1).toNat = q + (c + 1) := by omega
  have hnx : ¬ w.heap.size = lb := by omega
  have hnx' : ¬ lb = w.heap.size := by omega
  clear hG hGx hg2 hw c0 c1 x0 x1
  go_wp2
  have h4 := hG3.grid.set hix4 zeroC
  have g4 := (hG3.grid.put0 hix4 zeroC).2
  dsimp only [zeroC] at h4 g4
  have g4' : w3.grownBy ((w3.setCell ⟨lb, (q + (c + 1)) * 2, none⟩ (Value.string ⟨#[]⟩)).setCell ⟨lb, (q + (c + 1)) * 2 + 1, none⟩ (Value.int .i64 0)) (some lb) := ⟨g4.os, g4.tape, g4.output, g4.size, g4.block⟩
  clear g4 s0 s1 v0 v1 p0 p1 z0 z1 d2
  generalize ((w3.setCell ⟨lb, (q + (c + 1)) * 2, none⟩ (Value.string ⟨#[]⟩)).setCell ⟨lb, (q + (c + 1)) * 2 + 1, none⟩ (Value.int .i64 0)) = W4 at h4 g4' ⊢
  have x0 : W4.cell? ⟨w.heap.size, 0, none⟩ = some (.string t) := grown_cell g4' y0 (by show w.heap.size ≠ lb; omega)
  have x1 : W4.cell? ⟨w.heap.size, 1, none⟩ = some (.int .i64 2) := grown_cell g4' y1 (by show w.heap.size ≠ lb; omega)
  have hix5 : q + c < ((G.set r (looseRow (looseRow l c) (c + 1))).flatten.set (q + (c + 1)) (⟨#[]⟩, 0)).length := by rw [List.length_set]; exact hix3
  obtain ⟨d2, s0, s1, v0, v1, hlb4, hgb4⟩ := h4.facts hix5
  rw [List.length_set] at d2
  clear y0 y1
  go_region_held3 (fun w' => w'.cell? ⟨gb, 2, none⟩ = some (.slice (some ⟨lb, 0, none⟩) (G.length * m) cap) ∧ w'.cell? ⟨w.heap.size, 0, none⟩ = some (.string t) ∧ w'.cell? ⟨w.heap.size, 1, none⟩ = some (.int .i64 2)) (go_keep) (first | fail)
  go_wp2
  go_ret
  have hp := h4.put0 hix5 (t, 2)
  refine ⟨rfl, grown_trans hg23 (grown_trans g4' hp.2), ?_⟩
  rw [HP.out]
  have hsh : ∀ k ∈ G.set r (looseRow (looseRow l c) (c + 1)), k.length = m := set_shape hGs (by rw [looseRow_len, looseRow_len]; exact hl)
  have h3 := hp.1
  have hsh2 : ∀ k ∈ (G.set r (looseRow (looseRow l c) (c + 1))).set r ((looseRow (looseRow l c) (c + 1)).set (c + 1) (⟨#[]⟩, 0)), k.length = m := set_shape hsh (by rw [List.length_set, looseRow_len, looseRow_len]; exact hl)
  have hr4 : ((G.set r (looseRow (looseRow l c) (c + 1))).set r ((looseRow (looseRow l c) (c + 1)).set (c + 1) (⟨#[]⟩, 0)))[r]? = some ((looseRow (looseRow l c) (c + 1)).set (c + 1) (⟨#[]⟩, 0)) := List.getElem?_set_self (by rw [List.length_set]; exact hrl)
  rw [HQ.out, flat_set hsh _ hr3 hc0, flat_set hsh2 _ hr4 hc, List.set_set, List.set_set, List.length_set] at h3
  rw [HQ.out]
  exact ⟨by rw [List.length_set]; exact h3, set_shape hGs (by rw [List.length_set, List.length_set, looseRow_len, looseRow_len]; exact hl), set_wf hGw (by rw [← HP.out]; exact hwp), by rw [List.length_set]; exact hsm⟩
end Go.Proofs.Ytokenlecnbploaa
