/- Joined texts: TrieG. -/
import Derived.Test.YtkeainhjghdfcaaGreatCwad
import Derived.Test.YtkeainhjghdfcaaGreatCwaj
import Derived.Test.YtkeainhjghdfcaaGreatCwab
import Derived.Test.YtkeainhjghdfcaaGreatCwaa

/- trie.find at flags. -/
namespace Go.Proofs.YtkeainhjghdfcaaGreat
open Go.RowKit

theorem range4 {w : World} {b : Nat} {u0 u1 u2 u3 : Value} (h0 : w.cell? ⟨b, 0, none⟩ = some u0) (h1 : w.cell? ⟨b, 1, none⟩ = some u1) (h2 : w.cell? ⟨b, 2, none⟩ = some u2) (h3 : w.cell? ⟨b, 3, none⟩ = some u3) : w.rangeAt b 0 [u0, u1, u2, u3] := fun j x hx => by
  match j with
  | 0 => simp at hx; subst hx; exact h0
  | 1 => simp at hx; subst hx; exact h1
  | 2 => simp at hx; subst hx; exact h2
  | 3 => simp at hx; subst hx; exact h3
  | j + 4 => simp at hx

theorem cell_drew1 (X : World) (a : Addr) : X.drew.cell? a = X.cell? a := rfl
theorem range4o {w : World} {b o : Nat} {u0 u1 u2 u3 : Value} (h0 : w.cell? ⟨b, o, none⟩ = some u0) (h1 : w.cell? ⟨b, o + 1, none⟩ = some u1) (h2 : w.cell? ⟨b, o + 2, none⟩ = some u2) (h3 : w.cell? ⟨b, o + 3, none⟩ = some u3) : w.rangeAt b o [u0, u1, u2, u3] := fun j x hx => by
  match j with
  | 0 => simp at hx; subst hx; exact h0
  | 1 => simp at hx; subst hx; exact h1
  | 2 => simp at hx; subst hx; exact h2
  | 3 => simp at hx; subst hx; exact h3
  | j + 4 => simp at hx
theorem four_keep {W : World} {b : Nat} {u0 u1 u2 u3 v : Value} {a : Addr} (ha : ¬ b = a.block) (h : W.cell? a = some v) : ((((W.setCell ⟨b, 0, none⟩ u0).setCell ⟨b, 1, none⟩ u1).setCell ⟨b, 2, none⟩ u2).setCell ⟨b, 3, none⟩ u3).cell? a = some v := by
  rw [World.cell?_setCell_other _ _ _ _ (fun e => ha (congrArg Addr.block e)), World.cell?_setCell_other _ _ _ _ (fun e => ha (congrArg Addr.block e)), World.cell?_setCell_other _ _ _ _ (fun e => ha (congrArg Addr.block e)), World.cell?_setCell_other _ _ _ _ (fun e => ha (congrArg Addr.block e))]
  exact h
theorem four_keepD {W : World} {b : Nat} {u0 u1 u2 u3 v : Value} {a : Addr} (ha : ¬ b = a.block) (h : W.cell? a = some v) : ((((W.setCell ⟨b, 0, none⟩ u0).setCell ⟨b, 1, none⟩ u1).setCell ⟨b, 2, none⟩ u2).setCell ⟨b, 3, none⟩ u3).drew.cell? a = some v := (cell_drew1 _ _).trans (four_keep ha h)
theorem four_block {W : World} {b c : Nat} {u0 u1 u2 u3 : Value} (ha : ¬ b = c) : ((((W.setCell ⟨b, 0, none⟩ u0).setCell ⟨b, 1, none⟩ u1).setCell ⟨b, 2, none⟩ u2).setCell ⟨b, 3, none⟩ u3).drew.heap[c]? = W.heap[c]? :=
  (Below.heap_setCell _ _ _ _ (fun e => ha e.symm)).trans ((Below.heap_setCell _ _ _ _ (fun e => ha e.symm)).trans ((Below.heap_setCell _ _ _ _ (fun e => ha e.symm)).trans (Below.heap_setCell _ _ _ _ (fun e => ha e.symm))))
theorem below_drew1 {B : Nat} {a w : World} (h : Below B a w) : Below B a w.drew := ⟨h.os, h.tape, h.output, h.size, h.block⟩
set_option maxRecDepth 100000 in
set_option maxHeartbeats 2000000 in
theorem find_flags (v : Value) (l : List (Pc Flg)) (z1 z2 z3 z4 : Bool) (i last0 : Int) (w : World) (hR : Rs w.heap.size w pfenc 6 v l) (hi : 0 ≤ i) (hb : ∀ p ∈ l, p.f ≤ 4611686018427387904) :
    Calls Tryz.prog 164 #[v, .agg #[.bool z1, .bool z2, .bool z3, .bool z4], .int .i64 i, .int .i64 last0] w fun e w' => e = .returned (.tuple #[aggF (fndP (⟨z1, z2, z3, z4⟩ : Flg) i l last0).1, .int .i64 (fndP (⟨z1, z2, z3, z4⟩ : Flg) i l last0).2]) ∧ Below w.heap.size w w' := by
  obtain ⟨a, cap, rfl, hcap, hmax, _, hcells⟩ := hR
  unfold maxLen at hmax
  have HC := Lib.hid hcells
  have HBd := Lib.hid hb
  clear hcells hb
  obtain ⟨zz, hzz⟩ : ∃ zz : Flg, zz = ⟨z1, z2, z3, z4⟩ := ⟨_, rfl⟩
  have HZ := Lib.hid hzz
  rw [← hzz]
  clear hzz
  go_enter Tryz.func164, Tryz.ntmps164
  go_wp2
  have z0' : ((w.alloc (.cells #[.bool z1, .bool z2, .bool z3, .bool z4] 194)).alloc (.cells #[.bool false, .bool false, .bool false, .bool false] 194)).cell? ⟨w.heap.size, 0, none⟩ = some (.bool z1) := by go_simp
  have z1' : ((w.alloc (.cells #[.bool z1, .bool z2, .bool z3, .bool z4] 194)).alloc (.cells #[.bool false, .bool false, .bool false, .bool false] 194)).cell? ⟨w.heap.size, 1, none⟩ = some (.bool z2) := by go_simp
  have z2' : ((w.alloc (.cells #[.bool z1, .bool z2, .bool z3, .bool z4] 194)).alloc (.cells #[.bool false, .bool false, .bool false, .bool false] 194)).cell? ⟨w.heap.size, 2, none⟩ = some (.bool z3) := by go_simp
  have z3' : ((w.alloc (.cells #[.bool z1, .bool z2, .bool z3, .bool z4] 194)).alloc (.cells #[.bool false, .bool false, .bool false, .bool false] 194)).cell? ⟨w.heap.size, 3, none⟩ = some (.bool z4) := by go_simp
  have r0 : ((w.alloc (.cells #[.bool z1, .bool z2, .bool z3, .bool z4] 194)).alloc (.cells #[.bool false, .bool false, .bool false, .bool false] 194)).heap[w.heap.size + 1]? = some (.cells #[.bool false, .bool false, .bool false, .bool false] 194 (0, 0)) := by
    have := heap_alloc_new (w.alloc (.cells #[.bool z1, .bool z2, .bool z3, .bool z4] 194)) (.cells #[.bool false, .bool false, .bool false, .bool false] 194)
    rwa [show (w.alloc (.cells #[.bool z1, .bool z2, .bool z3, .bool z4] 194)).heap.size = w.heap.size + 1 by simp] at this
  have hW := ((Below.refl w.heap.size w).alloc (Nat.le_refl _) (.cells #[.bool z1, .bool z2, .bool z3, .bool z4] 194)).alloc (by simp) (.cells #[.bool false, .bool false, .bool false, .bool false] 194)
  have hWs : ((w.alloc (.cells #[.bool z1, .bool z2, .bool z3, .bool z4] 194)).alloc (.cells #[.bool false, .bool false, .bool false, .bool false] 194)).heap.size = w.heap.size + 2 := by simp
  generalize (w.alloc (.cells #[.bool z1, .bool z2, .bool z3, .bool z4] 194)).alloc (.cells #[.bool false, .bool false, .bool false, .bool false] 194) = W at z0' z1' z2' z3' r0 hW hWs ⊢
  have Z0 := Lib.hid z0'
  have Z1 := Lib.hid z1'
  have Z2 := Lib.hid z2'
  have Z3 := Lib.hid z3'
  have R0 := Lib.hid r0
  have HW := Lib.hid hW
  clear z0' z1' z2' z3' r0 hW
  go_loopw [3, 11, 14, 18, 35] (fun lv _ iv _ _ wr => ∃ (k : Nat) (last : Int), k ≤ l.length ∧ iv = .int .i64 ((k : Nat) : Int) ∧ lv = .int .i64 last ∧ Below W.heap.size W wr ∧ fndP zz i (l.drop k) last = fndP zz i l last0) (fun _ _ iv _ _ _ => l.length - (intOf iv).toNat)
  case atStart => exact ⟨0, last0, Nat.zero_le _, rfl, rfl, .refl _ _, rfl⟩
  case round =>
    obtain ⟨k, last, hk, rfl, rfl, hB, hE⟩ := hrel
    have HB := Lib.hid hB
    have HE := Lib.hid hE
    have hbs := hB.size
    have c0 : wr.cell? ⟨w.heap.size, 0, none⟩ = some (.bool z1) := cell_later hB Z0.out
    have c1 : wr.cell? ⟨w.heap.size, 1, none⟩ = some (.bool z2) := cell_later hB Z1.out
    have c2 : wr.cell? ⟨w.heap.size, 2, none⟩ = some (.bool z3) := cell_later hB Z2.out
    have c3 : wr.cell? ⟨w.heap.size, 3, none⟩ = some (.bool z4) := cell_later hB Z3.out
    have rr : wr.heap[w.heap.size + 1]? = some (.cells #[.bool false, .bool false, .bool false, .bool false] 194 (0, 0)) := (hB.block _ (by omega)).trans R0.out
    have e0 : wr.cell? ⟨w.heap.size + 1, 0, none⟩ = some (.bool false) := by rw [cell_of_row _ _ 0 _ _ _ rr]; rfl
    have e1 : wr.cell? ⟨w.heap.size + 1, 1, none⟩ = some (.bool false) := by rw [cell_of_row _ _ 1 _ _ _ rr]; rfl
    have e2 : wr.cell? ⟨w.heap.size + 1, 2, none⟩ = some (.bool false) := by rw [cell_of_row _ _ 2 _ _ _ rr]; rfl
    have e3 : wr.cell? ⟨w.heap.size + 1, 3, none⟩ = some (.bool false) := by rw [cell_of_row _ _ 3 _ _ _ rr]; rfl
    have g0 : wr.frozen? ⟨w.heap.size + 1, 0, none⟩ = false := by unfold World.frozen?; rw [rr]; simp
    have g1 : wr.frozen? ⟨w.heap.size + 1, 1, none⟩ = false := by unfold World.frozen?; rw [rr]; simp
    have g2 : wr.frozen? ⟨w.heap.size + 1, 2, none⟩ = false := by unfold World.frozen?; rw [rr]; simp
    have g3 : wr.frozen? ⟨w.heap.size + 1, 3, none⟩ = false := by unfold World.frozen?; rw [rr]; simp
    clear hB hE rr
    by_cases hlt : k < l.length
    · obtain ⟨p, hp⟩ : ∃ p, l[k]? = some p := ⟨l[k], List.getElem?_eq_getElem hlt⟩
      obtain ⟨b, off, rfl, hbl, hcq⟩ := HC.out (by omega)
      have hbW := below_trans' HW.out HB.out
      have d0 : wr.cell? ⟨b, off + k * 6, none⟩ = some (.int .i64 p.f) := cell_later hbW (flat_cell pfenc_len hcq hp 0 rfl)
      have d1 : wr.cell? ⟨b, off + k * 6 + 1, none⟩ = some (.int .i64 p.t) := cell_later hbW (flat_cell pfenc_len hcq hp 1 rfl)
      have d2 : wr.cell? ⟨b, off + k * 6 + 2, none⟩ = some (.bool p.v.pict) := cell_later hbW (flat_cell pfenc_len hcq hp 2 rfl)
      have d3 : wr.cell? ⟨b, off + k * 6 + 3, none⟩ = some (.bool p.v.wide) := cell_later hbW (flat_cell pfenc_len hcq hp 3 rfl)
      have d4 : wr.cell? ⟨b, off + k * 6 + 4, none⟩ = some (.bool p.v.letter) := cell_later hbW (flat_cell pfenc_len hcq hp 4 rfl)
      have d5 : wr.cell? ⟨b, off + k * 6 + 5, none⟩ = some (.bool p.v.out) := cell_later hbW (flat_cell pfenc_len hcq hp 5 rfl)
      have hpb := HBd.out p (List.mem_of_getElem? hp)
      have HD := Lib.hid (fndP_drop (z := zz) (i := i) (last := last) hp)
      clear hcq hp hbW
      by_cases h1 : p.f ≤ i
      · by_cases h2 : i ≤ p.t
        · have HR := Lib.hid (show fndP zz i l last0 = (p.v, min p.t last) by rw [← HE.out, HD.out, if_pos ⟨h1, h2⟩])
          go_wp2
          have s1 : (wr.alloc (.cells #[.int .i64 p.f, .int .i64 p.t, .bool p.v.pict, .bool p.v.wide, .bool p.v.letter, .bool p.v.out] 196)).cell? ⟨wr.heap.size, 1, none⟩ = some (.int .i64 p.t) := by go_simp
          have s2 : (wr.alloc (.cells #[.int .i64 p.f, .int .i64 p.t, .bool p.v.pict, .bool p.v.wide, .bool p.v.letter, .bool p.v.out] 196)).cell? ⟨wr.heap.size, 2, none⟩ = some (.bool p.v.pict) := by go_simp
          have s3 : (wr.alloc (.cells #[.int .i64 p.f, .int .i64 p.t, .bool p.v.pict, .bool p.v.wide, .bool p.v.letter, .bool p.v.out] 196)).cell? ⟨wr.heap.size, 3, none⟩ = some (.bool p.v.wide) := by go_simp
          have s4 : (wr.alloc (.cells #[.int .i64 p.f, .int .i64 p.t, .bool p.v.pict, .bool p.v.wide, .bool p.v.letter, .bool p.v.out] 196)).cell? ⟨wr.heap.size, 4, none⟩ = some (.bool p.v.letter) := by go_simp
          have s5 : (wr.alloc (.cells #[.int .i64 p.f, .int .i64 p.t, .bool p.v.pict, .bool p.v.wide, .bool p.v.letter, .bool p.v.out] 196)).cell? ⟨wr.heap.size, 5, none⟩ = some (.bool p.v.out) := by go_simp
          have hlr : w.heap.size + 1 < wr.heap.size := World.block_lt_of_cell? wr _ e0
          have t0 : (wr.alloc (.cells #[.int .i64 p.f, .int .i64 p.t, .bool p.v.pict, .bool p.v.wide, .bool p.v.letter, .bool p.v.out] 196)).cell? ⟨w.heap.size + 1, 0, none⟩ = some (.bool false) := (World.cell?_of_block (Below.heap_alloc _ _ _ hlr)).trans e0
          have t1 : (wr.alloc (.cells #[.int .i64 p.f, .int .i64 p.t, .bool p.v.pict, .bool p.v.wide, .bool p.v.letter, .bool p.v.out] 196)).cell? ⟨w.heap.size + 1, 1, none⟩ = some (.bool false) := (World.cell?_of_block (Below.heap_alloc _ _ _ hlr)).trans e1
          have t2 : (wr.alloc (.cells #[.int .i64 p.f, .int .i64 p.t, .bool p.v.pict, .bool p.v.wide, .bool p.v.letter, .bool p.v.out] 196)).cell? ⟨w.heap.size + 1, 2, none⟩ = some (.bool false) := (World.cell?_of_block (Below.heap_alloc _ _ _ hlr)).trans e2
          have t3 : (wr.alloc (.cells #[.int .i64 p.f, .int .i64 p.t, .bool p.v.pict, .bool p.v.wide, .bool p.v.letter, .bool p.v.out] 196)).cell? ⟨w.heap.size + 1, 3, none⟩ = some (.bool false) := (World.cell?_of_block (Below.heap_alloc _ _ _ hlr)).trans e3
          have y0 : (wr.alloc (.cells #[.int .i64 p.f, .int .i64 p.t, .bool p.v.pict, .bool p.v.wide, .bool p.v.letter, .bool p.v.out] 196)).frozen? ⟨w.heap.size + 1, 0, none⟩ = false := (World.frozen?_of_block (a := ⟨w.heap.size + 1, 0, none⟩) (Below.heap_alloc _ _ _ hlr)).trans g0
          have y1 : (wr.alloc (.cells #[.int .i64 p.f, .int .i64 p.t, .bool p.v.pict, .bool p.v.wide, .bool p.v.letter, .bool p.v.out] 196)).frozen? ⟨w.heap.size + 1, 1, none⟩ = false := (World.frozen?_of_block (a := ⟨w.heap.size + 1, 1, none⟩) (Below.heap_alloc _ _ _ hlr)).trans g1
          have y2 : (wr.alloc (.cells #[.int .i64 p.f, .int .i64 p.t, .bool p.v.pict, .bool p.v.wide, .bool p.v.letter, .bool p.v.out] 196)).frozen? ⟨w.heap.size + 1, 2, none⟩ = false := (World.frozen?_of_block (a := ⟨w.heap.size + 1, 2, none⟩) (Below.heap_alloc _ _ _ hlr)).trans g2
          have y3 : (wr.alloc (.cells #[.int .i64 p.f, .int .i64 p.t, .bool p.v.pict, .bool p.v.wide, .bool p.v.letter, .bool p.v.out] 196)).frozen? ⟨w.heap.size + 1, 3, none⟩ = false := (World.frozen?_of_block (a := ⟨w.heap.size + 1, 3, none⟩) (Below.heap_alloc _ _ _ hlr)).trans g3
          have HB3 := Lib.hid (below_trans' HW.out (below_trans' HB.out ((Below.refl wr.heap.size wr).alloc (Nat.le_refl _) (.cells #[.int .i64 p.f, .int .i64 p.t, .bool p.v.pict, .bool p.v.wide, .bool p.v.letter, .bool p.v.out] 196))))
          have hne : ¬ w.heap.size + 1 = wr.heap.size := by omega
          clear d0 d1 d2 d3 d4 d5 e0 e1 e2 e3 g0 g1 g2 g3 c0 c1 c2 c3 h1 h2
          generalize wr.alloc (.cells #[.int .i64 p.f, .int .i64 p.t, .bool p.v.pict, .bool p.v.wide, .bool p.v.letter, .bool p.v.out] 196) = W2 at s1 s2 s3 s4 s5 t0 t1 t2 t3 y0 y1 y2 y3 HB3 ⊢
          have hra : W2.rangeAt wr.heap.size 2 [.bool p.v.pict, .bool p.v.wide, .bool p.v.letter, .bool p.v.out] := range4o s2 s3 s4 s5
          have hin : (Tryz.prog.info? 194).map (·.size) = some ((#[.bool p.v.pict, .bool p.v.wide, .bool p.v.letter, .bool p.v.out] : Array Value).toList).length := by kernel_rfl
          refine wp_region_held_drew (S := fun w' => w'.cell? ⟨wr.heap.size, 1, none⟩ = some (.int .i64 p.t) ∧ w'.rangeAt wr.heap.size 2 [.bool p.v.pict, .bool p.v.wide, .bool p.v.letter, .bool p.v.out]) (by kernel_rfl) ⟨s1, hra⟩ (fun hHeld => ?_)
          refine hd_take 0 rfl (by kernel_rfl) (by kernel_rfl) (by kernel_rfl) (fun _ _ _ h => h) (by rfl) (by intro w hSw; (try dsimp only at hSw); go_split_ands; go_simp; first | done | with_reducible rfl) hHeld ?_
          simp only [Act.put, List.setIfInBounds_toArray, List.set_cons_zero, List.set_cons_succ]
          refine hd_long 1 rfl (by kernel_rfl) (by kernel_rfl) (by kernel_rfl) _ _ rfl wr.heap.size 2 rfl #[.bool p.v.pict, .bool p.v.wide, .bool p.v.letter, .bool p.v.out] _ (fun w' h => h.2) (fun _ _ _ h => h) (by rfl) Tryz.underlying194 rfl hin hHeld ?_
          try simp only [Act.put, List.setIfInBounds_toArray, List.set_cons_zero, List.set_cons_succ]
          refine hd_take 2 rfl (by kernel_rfl) (by kernel_rfl) (by kernel_rfl) (fun _ _ _ h => h) (by rfl) (by intro w hSw; (try dsimp only at hSw); go_split_ands; go_simp; first | done | with_reducible rfl) hHeld ?_
          simp only [Act.put, List.setIfInBounds_toArray, List.set_cons_zero, List.set_cons_succ]
          refine hd_take 3 rfl (by kernel_rfl) (by kernel_rfl) (by kernel_rfl) (fun _ _ _ h => h) (by rfl) (by intro w hSw; (try dsimp only at hSw); go_split_ands; go_simp; first | done | with_reducible rfl) hHeld ?_
          simp only [Act.put, List.setIfInBounds_toArray, List.set_cons_zero, List.set_cons_succ]
          refine hd_take 4 rfl (by kernel_rfl) (by kernel_rfl) (by kernel_rfl) (fun _ _ _ h => h) (by rfl) (by intro w hSw; (try dsimp only at hSw); go_split_ands; go_simp; first | done | with_reducible rfl) hHeld ?_
          simp only [Act.put, List.setIfInBounds_toArray, List.set_cons_zero, List.set_cons_succ]
          refine hd_take 5 rfl (by kernel_rfl) (by kernel_rfl) (by kernel_rfl) (fun _ _ _ h => h) (by rfl) (by intro w hSw; (try dsimp only at hSw); go_split_ands; go_simp; first | done | with_reducible rfl) hHeld ?_
          simp only [Act.put, List.setIfInBounds_toArray, List.set_cons_zero, List.set_cons_succ]
          refine hd_step 6 (by kernel_rfl) rfl (fun K hK => ?_)
          go_simp
          refine hK.out _ _ ⟨four_keepD hne s1, range_keep hra (four_block hne)⟩ (fun hHeld => ?_)
          clear hK K
          try simp only [Act.put, List.setIfInBounds_toArray, List.set_cons_zero, List.set_cons_succ]
          refine hd_step 7 (by kernel_rfl) rfl (fun K hK => ?_)
          go_simp
          refine hK.out _ _ ⟨four_keepD hne s1, range_keep hra (four_block hne)⟩ (fun hHeld => ?_)
          clear hK K
          try simp only [Act.put, List.setIfInBounds_toArray, List.set_cons_zero, List.set_cons_succ]
          refine wpAnyH_done (by kernel_rfl) ?_ _
          go_wp2_with fail
          refine ret_cell_tmp (x := .int .i64 (min p.t last)) (ad := ⟨w.heap.size + 1, 0, none⟩) rfl rfl rfl (run_loadVar_mid _ _ 0 _ [.bool p.v.pict, .bool p.v.wide, .bool p.v.letter, .bool p.v.out] _ (range4 (by go_simp) (by go_simp) (by go_simp) (by go_simp)) Tryz.underlying194 rfl (by kernel_rfl)) rfl ⟨by rw [HR.out]; rfl, below_drew1 ((((HB3.out.setCell (by simp) _).setCell (by simp) _).setCell (by simp) _).setCell (by simp) _)⟩
        · have HN := Lib.hid (show fndP zz i (l.drop (k + 1)) last = fndP zz i l last0 by rw [← HE.out, HD.out, if_neg (fun h => h2 h.2), if_neg (fun h => by omega)])
          go_wp2
          go_roundw
          case rel => exact ⟨k + 1, last, by omega, by go_num, rfl, HB.out.alloc hbs _, HN.out⟩
          case measure => simp [intOf]; omega
      · by_cases h2 : p.f ≤ last
        · have HN := Lib.hid (show fndP zz i (l.drop (k + 1)) (p.f - 1) = fndP zz i l last0 by rw [← HE.out, HD.out, if_neg (fun h => h1 h.1), if_pos ⟨by omega, h2⟩])
          have q1 := IntWalk.i64_in (p.f - 1) (by omega)
          have h3 : i < p.f := by omega
          clear h1
          go_wp2
          go_roundw
          case rel => exact ⟨k + 1, p.f - 1, by omega, by go_num, rfl, HB.out.alloc hbs _, HN.out⟩
          case measure => simp [intOf]; omega
        · have HN := Lib.hid (show fndP zz i (l.drop (k + 1)) last = fndP zz i l last0 by rw [← HE.out, HD.out, if_neg (fun h => h1 h.1), if_neg (fun h => h2 h.2)])
          have h3 : i < p.f := by omega
          clear h1
          go_wp2
          go_roundw
          case rel => exact ⟨k + 1, last, by omega, by go_num, rfl, HB.out.alloc hbs _, HN.out⟩
          case measure => simp [intOf]; omega
    · have HR := Lib.hid (show fndP zz i l last0 = (zz, last) by rw [← HE.out, List.drop_of_length_le (by omega)]; rfl)
      have HB3 := Lib.hid (below_trans' HW.out HB.out)
      go_wp2_with fail
      all_goals refine ret_cell_tmp (x := .int .i64 last) (ad := ⟨w.heap.size + 1, 0, none⟩) rfl rfl rfl (run_loadVar_mid _ _ 0 _ [.bool z1, .bool z2, .bool z3, .bool z4] _ (range4 (by go_simp) (by go_simp) (by go_simp) (by go_simp)) Tryz.underlying194 rfl (by kernel_rfl)) rfl ⟨by rw [HR.out, HZ.out]; rfl, ((((HB3.out.setCell (by simp) _).setCell (by simp) _).setCell (by simp) _).setCell (by simp) _)⟩
end Go.Proofs.YtkeainhjghdfcaaGreat
