/- law27.does: erase and clear; all deeds. -/
import Derived.Test.YtokenlecnbploaaGridJ
namespace Go.Proofs.Ytokenlecnbploaa
open Go.RowKit

/-- What a deed leaves. -/
structure Done (w w' : World) (gb lb m cap B ob m' : Nat) (rb rc : Nat → Nat) (n' : Nat) (G H : List (List Gl)) : Prop where
  kept : Kept (fun j => j = lb ∨ Rows n' rb j) w w'
  grid : GridG w' gb lb m cap G
  ref : RefAt w' B ob rb rc m' H

theorem not_rows {gb lb ob n : Nat} {rb : Nat → Nat} (ha : Apart gb lb ob n rb) : ¬ Rows n rb gb ∧ ¬ Rows n rb lb :=
  ⟨by rintro ⟨i, hi, e⟩; exact ha.r1 i hi e.symm, by rintro ⟨i, hi, e⟩; exact ha.r2 i hi e.symm⟩


set_option maxRecDepth 100000 in
set_option maxHeartbeats 1000000 in
theorem does_erase (gb lb m cap B ob m' ocap : Nat) (rb rc : Nat → Nat) (G H : List (List Gl)) (r c d : Int) (t : ByteArray) (w : World) (hG : GridG w gb lb m cap G) (hH : RefAt w B ob rb rc m' H) (hn : 0 < G.length) (hm : 0 < m) (hn' : 0 < H.length)
    (ha : Apart gb lb ob H.length rb) :
    Calls Try.prog 30 #[.pointer (some ⟨gb, 0, none⟩), .slice (some ⟨ob, 0, none⟩) H.length ocap, .agg #[.int .i64 3, .int .i64 r, .int .i64 c, .string t, .int .i64 d]] w fun e w' =>
      e = .returned (.bool true) ∧ Done w w' gb lb m cap B ob m' rb rc H.length (eraseG G m r c) (eraseG H m' r c) := by
  have hll := hG.llt hn hm
  have hrw : ∀ i, i < H.length → rb i < w.heap.size := fun i hi => (hH.row (get_rowAt hi)).2.2.2.2.2.2.1
  have hnb : ∀ j, j = lb ∨ Rows H.length rb j → j ≠ w.heap.size := by
    rintro j (rfl | ⟨i, hi, rfl⟩)
    · omega
    · have := hrw i hi; omega
  have hdo : (∀ W : World, W = w.alloc (.cells #[.int .i64 3, .int .i64 r, .int .i64 c, .string t, .int .i64 d] 58) →
      W.cell? ⟨w.heap.size, 1, none⟩ = some (.int .i64 r) ∧ W.cell? ⟨w.heap.size, 2, none⟩ = some (.int .i64 c) ∧
      Kept (fun j => j = lb ∨ Rows H.length rb j) w W ∧ GridG W gb lb m cap G ∧ RefAt W B ob rb rc m' H) := by
    rintro W rfl
    exact ⟨by go_simp, by go_simp, .of_below ((Below.refl _ _).alloc (Nat.le_refl _) _), hG.kept hn hm (P := fun _ => False) (.of_below ((Below.refl _ _).alloc (Nat.le_refl _) _)) id id,
      hH.kept hn' (P := fun _ => False) (.of_below ((Below.refl _ _).alloc (Nat.le_refl _) _)) id fun _ _ => id⟩
  have HD := Lib.hid hdo
  have HA := Lib.hid ha
  have HB := Lib.hid hnb
  clear hG hH hrw ha hnb hdo
  go_enter Try.func30, Try.ntmps30
  go_wp2_with fail
  have hdo := HD.out _ rfl
  generalize w.alloc (.cells #[.int .i64 3, .int .i64 r, .int .i64 c, .string t, .int .i64 d] 58) = W at hdo ⊢
  obtain ⟨b1, b2, hK, hGW, hHW⟩ := hdo
  refine (erase_any gb lb m cap G r c W hGW).mono ?_
  rintro e w1 ⟨rfl, hg1, hG1⟩
  have kp := Kept.of_grown (P := fun j => j = lb ∨ Rows H.length rb j) hg1 (Or.inl rfl)
  have p1 := kp.cell b1 (fun h => HB.out _ h rfl)
  have p2 := kp.cell b2 (fun h => HB.out _ h rfl)
  have hH1 := hHW.grown hg1 HA.out.g2.symm (fun i hi => (HA.out.r2 i hi).symm) hn'
  clear b1 b2
  go_wp2_with fail
  refine (refErase_any B ob m' ocap rb rc H r c w1 hH1).mono ?_
  rintro e w2 ⟨rfl, hg2, hH2⟩
  have hnr := not_rows HA.out
  have hG2 := hG1.kept (by rw [eraseG_len]; exact hn) hm hg2 hnr.1 hnr.2
  have kq := Kept.mono (Q := fun j => j = lb ∨ Rows H.length rb j) hg2 (fun j h => Or.inr h)
  clear p1 p2 hnr
  go_wp2
  go_ret
  exact ⟨rfl, (hK.trans kp).trans kq, hG2, hH2⟩

def cleared (H : List (List Gl)) (m k : Nat) : List (List Gl) := List.replicate k (List.replicate m blankC) ++ H.drop k
theorem cleared_len (H : List (List Gl)) (m k : Nat) (h : k ≤ H.length) : (cleared H m k).length = H.length := by unfold cleared; simp; omega
theorem cleared_all (H : List (List Gl)) (m : Nat) : cleared H m H.length = clearG H m := by unfold cleared clearG; simp
theorem cleared_row (H : List (List Gl)) (m k : Nat) : rowAt (cleared H m k) k = rowAt H k := by
  unfold rowAt cleared
  rw [List.getD_eq_getElem?_getD, List.getD_eq_getElem?_getD, List.getElem?_append_right (by simp), List.length_replicate, Nat.sub_self, List.getElem?_drop]; simp
theorem cleared_succ (H : List (List Gl)) (m k : Nat) (hk : k < H.length) : (cleared H m k).set k (List.replicate m blankC) = cleared H m (k + 1) := by
  unfold cleared
  rw [List.set_append_right _ _ (by simp), List.length_replicate, Nat.sub_self, List.replicate_succ', List.append_assoc, List.drop_eq_getElem_cons hk]
  rfl
theorem cleared_step {w : World} {B ob m : Nat} {rb rc : Nat → Nat} {H : List (List Gl)} {k : Nat} (h : RefAt w B ob rb rc m (cleared H m k)) (hk : k < H.length) : eraseG (cleared H m k) m k 0 = cleared H m (k + 1) := by
  have hl := cleared_len H m k (by omega)
  have hrow := h.row (get_rowAt (G := cleared H m k) (r := k) (by omega))
  have hm := h.pos
  unfold eraseG
  rw [if_pos ⟨by omega, by omega, by omega, by omega⟩]
  simp only [Int.toNat_natCast, Int.toNat_zero, Nat.sub_zero]
  have e := erase_all hrow.2.1
  rw [hrow.1] at e
  rw [e, cleared_succ H m k hk]

set_option maxRecDepth 100000 in
set_option maxHeartbeats 1000000 in
theorem does_clear (gb lb m cap B ob m' ocap : Nat) (rb rc : Nat → Nat) (G H : List (List Gl)) (k r c d : Int) (t : ByteArray) (w : World) (hG : GridG w gb lb m cap G) (hH : RefAt w B ob rb rc m' H) (hn : 0 < G.length) (hm : 0 < m) (hn' : 0 < H.length)
    (ha : Apart gb lb ob H.length rb) (k0 : k ≠ 0) (k1 : k ≠ 1) (k2 : k ≠ 2) (k3 : k ≠ 3) :
    Calls Try.prog 30 #[.pointer (some ⟨gb, 0, none⟩), .slice (some ⟨ob, 0, none⟩) H.length ocap, .agg #[.int .i64 k, .int .i64 r, .int .i64 c, .string t, .int .i64 d]] w fun e w' =>
      e = .returned (.bool true) ∧ Done w w' gb lb m cap B ob m' rb rc H.length (clearG G m) (clearG H m') := by
  have hfew := hH.few
  have hnr := not_rows ha
  have hdo : (∀ W : World, W = w.alloc (.cells #[.int .i64 k, .int .i64 r, .int .i64 c, .string t, .int .i64 d] 58) →
      Kept (fun j => j = lb ∨ Rows H.length rb j) w W ∧ GridG W gb lb m cap G ∧ RefAt W B ob rb rc m' H) := by
    rintro W rfl
    exact ⟨.of_below ((Below.refl _ _).alloc (Nat.le_refl _) _), hG.kept hn hm (P := fun _ => False) (.of_below ((Below.refl _ _).alloc (Nat.le_refl _) _)) id id,
      hH.kept hn' (P := fun _ => False) (.of_below ((Below.refl _ _).alloc (Nat.le_refl _) _)) id fun _ _ => id⟩
  have HD := Lib.hid hdo
  have HA := Lib.hid ha
  have HN := Lib.hid hnr
  clear hG hH ha hdo hnr
  go_enter Try.func30, Try.ntmps30
  go_wp2_with fail
  have hdo := HD.out _ rfl
  generalize w.alloc (.cells #[.int .i64 k, .int .i64 r, .int .i64 c, .string t, .int .i64 d] 58) = W at hdo ⊢
  obtain ⟨hK, hGW, hHW⟩ := hdo
  refine (clear_some gb lb m cap G W hGW).mono ?_
  rintro e w1 ⟨rfl, hg1, hG1⟩
  have kp := Kept.of_grown (P := fun j => j = lb ∨ Rows H.length rb j) hg1 (Or.inl rfl)
  have hH1 := hHW.grown hg1 HA.out.g2.symm (fun i hi => (HA.out.r2 i hi).symm) hn'
  have hG1' : GridG w1 gb lb m cap (clearG G m) := hG1
  have HL := Lib.hid (cleared_len H m')
  have HC := Lib.hid (cleared_all H m')
  have hn1 : 0 < (clearG G m).length := by rw [clearG_len]; exact hn
  clear hG1 hGW hHW hg1
  go_wp2
  go_loopw [7] (fun i wr => ∃ q : Nat, q ≤ H.length ∧ i = .int .i64 ((q : Nat) : Int) ∧ Kept (Rows H.length rb) w1 wr ∧ RefAt wr B ob rb rc m' (cleared H m' q)) (fun i _ => H.length - (intOf i).toNat)
  case atStart => exact ⟨0, Nat.zero_le _, rfl, .refl _ _, by simpa [cleared] using hH1⟩
  case round =>
    obtain ⟨q, hq, rfl, hk, hR⟩ := hrel
    by_cases hlt : q < H.length
    · have hcall := refErase_any B ob m' ocap rb rc (cleared H m' q) q 0 wr hR
      rw [cleared_step hR hlt, HL.out q (by omega)] at hcall
      have HX := Lib.hid hcall
      clear hcall hR hH1
      go_wp2_with fail
      refine HX.out.mono ?_
      rintro e w2 ⟨rfl, hg2, hH2⟩
      have HY := Lib.hid hH2
      clear hH2
      go_wp2
      refine ⟨⟨q + 1, by omega, by go_num, hk.trans hg2, HY.out⟩, by simp [intOf]; omega⟩
    · have hqn : q = H.length := by omega
      subst hqn
      rw [HC.out] at hR
      have HY := Lib.hid hR
      clear hR hH1
      go_wp2
      go_ret
      exact ⟨rfl, (hK.trans kp).trans (hk.mono fun j h => Or.inr h), hG1'.kept hn1 hm hk HN.out.1 HN.out.2, HY.out⟩
end Go.Proofs.Ytokenlecnbploaa
