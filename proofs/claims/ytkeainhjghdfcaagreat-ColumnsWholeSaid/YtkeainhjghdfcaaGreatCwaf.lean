/- Joined texts: TrieC. -/
import Derived.Test.YtkeainhjghdfcaaGreatCwae
import Derived.Test.YtkeainhjghdfcaaGreatCwab

/- trie.maker.plain at numbers. -/
namespace Go.Proofs.YtkeainhjghdfcaaGreat
open Go.RowKit

theorem zero128 : Tryz.zeroCells266 = ((List.replicate 128 (0 : Int)).flatMap ienc1).toArray := by
  refine (Array.toList_inj.1 ?_)
  kernel_rfl
/-- a row of numbers being filled -/
def RowAt (w : World) (g t : Nat) (okv : Int → Prop) (L : List Int) : Prop := w.heap[g]? = some (.cells (L.flatMap ienc1).toArray t (0, 0)) ∧ okL okv L
theorem RowAt.put {w : World} {g t : Nat} {okv : Int → Prop} {L : List Int} (h : RowAt w g t okv L) {i : Nat} (x : Int) (hi : i < 128) (hx : okv x) : RowAt (w.setCell ⟨g, i, none⟩ (.int .i64 x)) g t okv (L.set i x) := by
  refine ⟨?_, by rw [List.length_set]; exact h.2.1, fun y hy => ?_⟩
  · have := row_put ienc1_len h.1 i x (by rw [h.2.1]; exact hi)
    rw [Nat.mul_one] at this
    exact this
  · rcases List.mem_or_eq_of_mem_set hy with hy | hy
    · exact h.2.2 y hy
    · rw [hy]; exact hx

theorem RowAt.at {w : World} {g t : Nat} {okv : Int → Prop} {L : List Int} (h : RowAt w g t okv L) {i : Nat} (hi : i < 128) : ∃ y : Int, w.cell? ⟨g, i, none⟩ = some (.int .i64 y) := by
  refine ⟨L[i]'(by rw [h.2.1]; exact hi), ?_⟩
  rw [cell_of_row w g i _ t (0, 0) h.1]
  have e : L.flatMap ienc1 = L.map fun n : Int => Value.int .i64 n := by rw [List.map_eq_flatMap]; rfl
  have q : L[i]? = some (L[i]'(by rw [h.2.1]; exact hi)) := List.getElem?_eq_getElem _
  generalize L[i]'(by rw [h.2.1]; exact hi) = y at q ⊢
  rw [List.getElem?_toArray, e, List.getElem?_map, q]
  rfl
theorem RowAt.free {w : World} {g t : Nat} {okv : Int → Prop} {L : List Int} (h : RowAt w g t okv L) (i : Nat) : w.frozen? ⟨g, i, none⟩ = false := by
  unfold World.frozen?; rw [h.1]; simp
theorem upon_run {P : Program} {o : Oper} {a : Act} {w w' : World} {K : Act → World → Prop} {Q : Exit → Act → World → Prop} {s : Sem Value} {v : Value} (hr : s.run P w = .ok v w') (h : Oper.upon P o a K Q (Result.ok (Next.value v) w')) :
    Oper.upon P o a K Q ((s.run P w).andThen fun a w' => Result.ok (Next.value a) w') := by rw [hr]; exact h
theorem upon_do {P : Program} {o : Oper} {a : Act} {w w' : World} {K : Act → World → Prop} {Q : Exit → Act → World → Prop} {s : Sem Unit} (hr : s.run P w = .ok () w') (h : Oper.upon P o a K Q (Result.ok Next.skip w')) :
    Oper.upon P o a K Q ((s.run P w).andThen fun _ w' => Result.ok Next.skip w') := by rw [hr]; exact h
set_option maxRecDepth 100000 in
set_option maxHeartbeats 1000000 in
theorem plain_int (B0 B tb mb kb eb : Nat) (v1 v2 : Value) (ks : List Nat) (bl : List (List Int)) (x : Int) (w : World) (hM : MkI w B0 B tb mb kb eb v1 v2 ks bl) (hx : wfI x) (hbl : bl.length ≤ 100000) (hB : B ≤ w.heap.size) :
    Calls Tryz.prog 160 #[.pointer (some ⟨mb, 0, none⟩), .int .i64 x] w (PlacePost w B0 B tb mb kb eb v1 v2 ks bl (List.replicate 128 x)) := by
  have hm2 := hM.b.m2
  obtain ⟨f, hf, hfc⟩ := hM.ev
  have HM := Lib.hid hM
  have HF := Lib.hid hf
  have HFC := Lib.hid hfc
  have HX := Lib.hid hx
  clear hM hf hfc hx
  go_enter Tryz.func160, Tryz.ntmps160
  go_wp2
  have hl := run_look keyV_int (w := w) HF.out Tryz.underlying261 (Tryz.zeroValue3 w) true x HX.out
  unfold intV at hl
  refine upon_run hl ?_
  clear hl
  cases hk : f x with
  | some k =>
    unfold natV
    go_wp2
    go_ret
    exact ⟨k, v2, bl, rfl, HM.out, HFC.out x k hk, fun _ _ h => h, by omega, .inl rfl, .refl _ _⟩
  | none =>
    go_wp2
    have hrow0 : RowAt (w.alloc (.cells Tryz.zeroCells266 266)) w.heap.size 266 wfI (List.replicate 128 0) := ⟨by rw [← zero128]; exact heap_alloc_new w _, by rw [List.length_replicate], fun y hy => by rw [(List.mem_replicate.1 hy).2]; rfl⟩
    have HR0 := Lib.hid hrow0
    have HB0 := Lib.hid ((Below.refl w.heap.size w).alloc (Nat.le_refl _) (.cells Tryz.zeroCells266 266))
    clear hrow0
    generalize w.alloc (.cells Tryz.zeroCells266 266) = W at HR0 HB0 ⊢
    go_loopw [8, 20, 21, 22, 23, 24, 25, 26] (fun _ iv _ _ _ _ _ _ wr => ∃ (k : Nat) (L : List Int), k ≤ 128 ∧ iv = .int .i64 ((k : Nat) : Int) ∧ RowAt wr w.heap.size 266 wfI L ∧ L.take k = List.replicate k x ∧ Below w.heap.size w wr) (fun _ iv _ _ _ _ _ _ _ => 128 - (intOf iv).toNat)
    case atStart => exact ⟨0, _, by omega, rfl, HR0.out, by simp, HB0.out⟩
    case round =>
      obtain ⟨k, L, hk2, rfl, hR, hT, hB2⟩ := hrel
      by_cases hlt : k < 128
      · have HR := Lib.hid hR
        have HT := Lib.hid hT
        have HB := Lib.hid hB2
        obtain ⟨y, hc0⟩ := hR.at hlt
        have hf0 := hR.free k
        have hLl := hR.2.1
        clear hR hT hB2
        go_wp2
        go_roundw
        case rel => exact ⟨k + 1, L.set k x, by omega, by go_num, HR.out.put x hlt HX.out, by rw [take_put (by omega), HT.out, List.replicate_succ'], HB.out.setCell (Nat.le_refl _) _⟩
        case measure => simp [intOf]; omega
      · have hke : k = 128 := by omega
        subst hke
        have hLe : L = List.replicate 128 x := by rw [← hT, List.take_of_length_le (by rw [hR.2.1]; exact Nat.le_refl _)]
        subst hLe
        go_wp2
        refine wp_load_row _ _ rfl w.heap.size rfl _ _ _ _ hR.1 Tryz.underlying266 rfl (by rw [arrK_size hR.2.1]; kernel_rfl) ?_
        have hMw := HM.out.below hB2
        have hcall := place_int B0 B tb mb kb eb v1 v2 ks bl (List.replicate 128 x) wr hMw hR.2 hbl (Nat.le_trans hB hB2.size)
        unfold arrK at hcall
        have HMw := Lib.hid hMw
        have HB2 := Lib.hid hB2
        have HCALL := Lib.hid hcall
        have hbw := hB2.size
        clear hcall hMw hR hT hB2
        generalize (List.flatMap ienc1 (List.replicate 128 x)).toArray = cs at HCALL ⊢
        go_wp2_with fail
        refine HCALL.out.mono ?_
        rintro e w2 ⟨k, v2', bl', rfl, hM2, hk2, hold, hlen, hown, hkp⟩
        have hm2 := hM2.b.m2
        obtain ⟨f2, hf2, hfc2⟩ := hM2.ev
        obtain ⟨w3, hr3, hf3, hg3⟩ := run_put keyV_int (w := w2) hf2 Tryz.underlying261 x k HX.out
        have hgr : w2.grownBy w3 (some eb) := ⟨hg3.os, hg3.tape, hg3.output, hg3.size, hg3.block⟩
        have hb3 := hM2.b.grown hgr (fun e => hM2.b.nbt.2.2.1 (by injection e)) (fun e => hM2.b.nbt.2.2.2.2.1 (by injection e)) (hM2.b.far1 hM2.b.be.2) (hM2.b.far2 hM2.b.be.2)
        have hk3 := hM2.kn.grown hgr (fun e => hM2.b.nbt.2.2.2.2.2 (by injection e))
        have he3 := Even.put hfc2 x k hk2 hf3
        have hkp3 : Kept (Mine w tb kb eb v2) w w3 := Kept.trans (.of_below HB2.out) (Kept.trans (hkp.mono fun j h => h.imp id (Or.imp id (Or.imp id (Or.imp id (fun h => Nat.le_trans hbw h))))) (.of_grown hgr (fun b e => .inr (.inr (.inl (by injection e with e; exact e.symm))))))
        have hown3 : v2'.ownBlock = v2.ownBlock ∨ ∃ g, v2'.ownBlock = some g ∧ w.heap.size ≤ g := hown.imp id (fun ⟨g, h1, h2⟩ => ⟨g, h1, Nat.le_trans hbw h2⟩)
        have HE := Lib.hid (show PlacePost w B0 B tb mb kb eb v1 v2 ks bl (List.replicate 128 x) (.returned (.int .i64 k)) w3 from ⟨k, v2', bl', rfl, ⟨hb3, hk3, he3⟩, hk2, hold, hlen, hown3, hkp3⟩)
        have HR3 := Lib.hid hr3
        clear hr3 hf3 hgr hb3 hk3 he3 hkp3 hown3 hM2 hf2 hfc2 hkp hown hold hlen
        unfold natV intV at HR3
        go_wp2
        refine upon_do HR3.out ?_
        go_wp2
        go_ret
        exact HE.out
end Go.Proofs.YtkeainhjghdfcaaGreat
