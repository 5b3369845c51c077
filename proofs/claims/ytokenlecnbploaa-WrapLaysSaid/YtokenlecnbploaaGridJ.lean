/- law27.does. -/
import Derived.Test.YtokenlecnbploaaGridI
namespace Go.Proofs.Ytokenlecnbploaa
open Go.RowKit

structure Dd where
  k : Int
  r : Int
  c : Int
  x : Gl
def putty (d : Dd) : Prop := d.k = 0 ∨ d.k = 1 ∨ d.k = 2
instance (d : Dd) : Decidable (putty d) := by unfold putty; infer_instance
def doG (G : List (List Gl)) (m : Nat) (d : Dd) : List (List Gl) :=
  if putty d then putG G m d.r d.c d.x else if d.k = 3 then eraseG G m d.r d.c else clearG G m
def doB (n m n' m' : Nat) (d : Dd) : Bool := if putty d then decide (roomy n m d.r d.c d.x.2) == decide (roomy n' m' d.r d.c d.x.2) else true
def ddv (d : Dd) : Value := .agg #[.int .i64 d.k, .int .i64 d.r, .int .i64 d.c, .agg #[.string d.x.1, .int .i64 d.x.2]]

/-- the two grids' blocks lie apart -/
structure Apart (gb lb ob n : Nat) (rb : Nat → Nat) : Prop where
  g1 : ob ≠ gb
  g2 : ob ≠ lb
  r1 : ∀ i, i < n → rb i ≠ gb
  r2 : ∀ i, i < n → rb i ≠ lb

set_option maxRecDepth 100000 in
set_option maxHeartbeats 1000000 in
theorem does_put (gb lb m cap B ob m' ocap : Nat) (rb rc : Nat → Nat) (G H : List (List Gl)) (k r c d : Int) (t : ByteArray) (w : World) (hG : GridG w gb lb m cap G) (hH : RefAt w B ob rb rc m' H) (hn : 0 < G.length) (hm : 0 < m) (hn' : 0 < H.length)
    (ha : Apart gb lb ob H.length rb) (hk : k = 0 ∨ k = 1 ∨ k = 2) :
    Calls Try.prog 30 #[.pointer (some ⟨gb, 0, none⟩), .slice (some ⟨ob, 0, none⟩) H.length ocap, .agg #[.int .i64 k, .int .i64 r, .int .i64 c, .string t, .int .i64 d]] w fun e w' =>
      e = .returned (.bool (decide (roomy G.length m r c d) == decide (roomy H.length m' r c d))) ∧ Kept (fun j => j = lb ∨ Rows H.length rb j) w w' ∧ GridG w' gb lb m cap (putG G m r c (t, d)) ∧ RefAt w' B ob rb rc m' (putG H m' r c (t, d)) := by
  have hgl := hG.grid.glt
  have hll := hG.llt hn hm
  have hob : ob < w.heap.size := World.block_lt_of_cell? w _ (hH.outer 0 hn')
  have hrw : ∀ i, i < H.length → rb i < w.heap.size := fun i hi => (hH.row (get_rowAt hi)).2.2.2.2.2.2.1
  have hK0 : ∀ o, Kept (fun j => j = lb ∨ Rows H.length rb j) w (w.alloc o) := fun o => .of_below ((Below.refl _ _).alloc (Nat.le_refl _) _)
  have hGx : ∀ o, GridG (w.alloc o) gb lb m cap G := fun o => hG.kept hn hm (P := fun _ => False) (.of_below ((Below.refl _ _).alloc (Nat.le_refl _) o)) id id
  have hHx : ∀ o, RefAt (w.alloc o) B ob rb rc m' H := fun o => hH.kept hn' (P := fun _ => False) (.of_below ((Below.refl _ _).alloc (Nat.le_refl _) o)) id fun _ _ => id
  have hnb : ∀ j, j = lb ∨ Rows H.length rb j → j ≠ w.heap.size := by
    rintro j (rfl | ⟨i, hi, rfl⟩)
    · omega
    · have := hrw i hi; omega
  have hGg : ¬ Rows H.length rb gb := by rintro ⟨i, hi, e⟩; exact ha.r1 i hi e.symm
  have hGl : ¬ Rows H.length rb lb := by rintro ⟨i, hi, e⟩; exact ha.r2 i hi e.symm
  have HA := Lib.hid ha
  have HB := Lib.hid hnb
  have HR := Lib.hid hH.not_rows
  clear hG hH hrw ha hnb
  have hdo : ∀ (k : Int), (∀ W : World, W = w.alloc (.cells #[.int .i64 k, .int .i64 r, .int .i64 c, .string t, .int .i64 d] 58) →
      W.cell? ⟨w.heap.size, 1, none⟩ = some (.int .i64 r) ∧ W.cell? ⟨w.heap.size, 2, none⟩ = some (.int .i64 c) ∧ W.cell? ⟨w.heap.size, 3, none⟩ = some (.string t) ∧ W.cell? ⟨w.heap.size, 4, none⟩ = some (.int .i64 d) ∧
      Kept (fun j => j = lb ∨ Rows H.length rb j) w W ∧ GridG W gb lb m cap G ∧ RefAt W B ob rb rc m' H ∧ w.heap.size < W.heap.size) := by
    rintro k W rfl
    exact ⟨by go_simp, by go_simp, by go_simp, by go_simp, hK0 _, hGx _, hHx _, by simp⟩
  have HD := Lib.hid hdo
  clear hGx hHx hK0 hdo
  have HRg := Lib.hid hGg
  have HRl := Lib.hid hGl
  clear hGg hGl
  rcases hk with rfl | rfl | rfl
  · go_enter Try.func30, Try.ntmps30
    go_wp2_with fail
    have hdo := HD.out (0 : Int) _ rfl
    generalize w.alloc (.cells #[.int .i64 (0 : Int), .int .i64 r, .int .i64 c, .string t, .int .i64 d] 58) = W at hdo ⊢
    obtain ⟨b1, b2, b3, b4, hK, hGW0, hHW0, hsz⟩ := hdo
    have hGW : GridG W.drew gb lb m cap G := hGW0.grown rfl rfl
    have hHW : RefAt W.drew B ob rb rc m' H := hHW0.same rfl (fun _ _ => rfl)
    clear hGW0 hHW0
    go_region_held3 (fun w' => w'.cell? ⟨w.heap.size, 1, none⟩ = some (.int .i64 r) ∧ w'.cell? ⟨w.heap.size, 2, none⟩ = some (.int .i64 c) ∧ w'.cell? ⟨w.heap.size, 3, none⟩ = some (.string t) ∧ w'.cell? ⟨w.heap.size, 4, none⟩ = some (.int .i64 d))
      (first | exact ⟨b1, b2, b3, b4⟩ | exact ⟨p1, p2, p3, p4⟩ | exact ⟨q1, q2, q3, q4⟩ | fail)
      (first
        | (go_at_call 45; refine (put_any gb lb m cap G r c (t, d) W.drew hGW hn hm).mono ?_; rintro e w1 ⟨rfl, hg1, hG1⟩; have kp := Kept.of_grown (P := fun j => j = lb ∨ Rows H.length rb j) hg1 (Or.inl rfl); have p1 := kp.cell b1 (fun h => HB.out _ h rfl); have p2 := kp.cell b2 (fun h => HB.out _ h rfl); have p3 := kp.cell b3 (fun h => HB.out _ h rfl); have p4 := kp.cell b4 (fun h => HB.out _ h rfl); have hH1 := hHW.grown hg1 HA.out.g2.symm (fun i hi => (HA.out.r2 i hi).symm) hn')
        | (go_at_call 50; refine (refPut_any B ob m' ocap rb rc H r c (t, d) w1 hH1 hn').mono ?_; rintro e w2 ⟨rfl, hg2, hH2⟩; have kq := Kept.mono (Q := fun j => j = lb ∨ Rows H.length rb j) hg2 (fun j h => Or.inr h); have q1 := kq.cell p1 (fun h => HB.out _ h rfl); have q2 := kq.cell p2 (fun h => HB.out _ h rfl); have q3 := kq.cell p3 (fun h => HB.out _ h rfl); have q4 := kq.cell p4 (fun h => HB.out _ h rfl); have hG2 := hG1.kept (by rw [putG_len]; exact hn) hm hg2 (fun h => HRg.out h) (fun h => HRl.out h))
        | (go_at_call 50; refine (refPut_any B ob m' ocap rb rc H r c (t, d) W.drew hHW hn').mono ?_; rintro e w1 ⟨rfl, hg1, hH1⟩; have kp := Kept.mono (Q := fun j => j = lb ∨ Rows H.length rb j) hg1 (fun j h => Or.inr h); have p1 := kp.cell b1 (fun h => HB.out _ h rfl); have p2 := kp.cell b2 (fun h => HB.out _ h rfl); have p3 := kp.cell b3 (fun h => HB.out _ h rfl); have p4 := kp.cell b4 (fun h => HB.out _ h rfl); have hG1 := hGW.kept hn hm hg1 (fun h => HRg.out h) (fun h => HRl.out h))
        | (go_at_call 45; refine (put_any gb lb m cap G r c (t, d) w1 hG1 hn hm).mono ?_; rintro e w2 ⟨rfl, hg2, hG2⟩; have kq := Kept.of_grown (P := fun j => j = lb ∨ Rows H.length rb j) hg2 (Or.inl rfl); have q1 := kq.cell p1 (fun h => HB.out _ h rfl); have q2 := kq.cell p2 (fun h => HB.out _ h rfl); have q3 := kq.cell p3 (fun h => HB.out _ h rfl); have q4 := kq.cell p4 (fun h => HB.out _ h rfl); have hH2 := hH1.grown hg2 HA.out.g2.symm (fun i hi => (HA.out.r2 i (by rw [← putG_len H m' r c (t, d)]; exact hi)).symm) (by rw [putG_len]; exact hn'))
        | fail)
    all_goals
      go_wp2
      go_ret
      exact ⟨rfl, (hK.trans ⟨kp.os, kp.tape, kp.output, kp.size, kp.block⟩).trans ⟨kq.os, kq.tape, kq.output, kq.size, kq.block⟩, hG2.grown rfl rfl, hH2.same rfl (fun _ _ => rfl)⟩
  · go_enter Try.func30, Try.ntmps30
    go_wp2_with fail
    have hdo := HD.out (1 : Int) _ rfl
    generalize w.alloc (.cells #[.int .i64 (1 : Int), .int .i64 r, .int .i64 c, .string t, .int .i64 d] 58) = W at hdo ⊢
    obtain ⟨b1, b2, b3, b4, hK, hGW0, hHW0, hsz⟩ := hdo
    have hGW : GridG W.drew gb lb m cap G := hGW0.grown rfl rfl
    have hHW : RefAt W.drew B ob rb rc m' H := hHW0.same rfl (fun _ _ => rfl)
    clear hGW0 hHW0
    go_region_held3 (fun w' => w'.cell? ⟨w.heap.size, 1, none⟩ = some (.int .i64 r) ∧ w'.cell? ⟨w.heap.size, 2, none⟩ = some (.int .i64 c) ∧ w'.cell? ⟨w.heap.size, 3, none⟩ = some (.string t) ∧ w'.cell? ⟨w.heap.size, 4, none⟩ = some (.int .i64 d))
      (first | exact ⟨b1, b2, b3, b4⟩ | exact ⟨p1, p2, p3, p4⟩ | exact ⟨q1, q2, q3, q4⟩ | fail)
      (first
        | (go_at_call 45; refine (put_any gb lb m cap G r c (t, d) W.drew hGW hn hm).mono ?_; rintro e w1 ⟨rfl, hg1, hG1⟩; have kp := Kept.of_grown (P := fun j => j = lb ∨ Rows H.length rb j) hg1 (Or.inl rfl); have p1 := kp.cell b1 (fun h => HB.out _ h rfl); have p2 := kp.cell b2 (fun h => HB.out _ h rfl); have p3 := kp.cell b3 (fun h => HB.out _ h rfl); have p4 := kp.cell b4 (fun h => HB.out _ h rfl); have hH1 := hHW.grown hg1 HA.out.g2.symm (fun i hi => (HA.out.r2 i hi).symm) hn')
        | (go_at_call 50; refine (refPut_any B ob m' ocap rb rc H r c (t, d) w1 hH1 hn').mono ?_; rintro e w2 ⟨rfl, hg2, hH2⟩; have kq := Kept.mono (Q := fun j => j = lb ∨ Rows H.length rb j) hg2 (fun j h => Or.inr h); have q1 := kq.cell p1 (fun h => HB.out _ h rfl); have q2 := kq.cell p2 (fun h => HB.out _ h rfl); have q3 := kq.cell p3 (fun h => HB.out _ h rfl); have q4 := kq.cell p4 (fun h => HB.out _ h rfl); have hG2 := hG1.kept (by rw [putG_len]; exact hn) hm hg2 (fun h => HRg.out h) (fun h => HRl.out h))
        | (go_at_call 50; refine (refPut_any B ob m' ocap rb rc H r c (t, d) W.drew hHW hn').mono ?_; rintro e w1 ⟨rfl, hg1, hH1⟩; have kp := Kept.mono (Q := fun j => j = lb ∨ Rows H.length rb j) hg1 (fun j h => Or.inr h); have p1 := kp.cell b1 (fun h => HB.out _ h rfl); have p2 := kp.cell b2 (fun h => HB.out _ h rfl); have p3 := kp.cell b3 (fun h => HB.out _ h rfl); have p4 := kp.cell b4 (fun h => HB.out _ h rfl); have hG1 := hGW.kept hn hm hg1 (fun h => HRg.out h) (fun h => HRl.out h))
        | (go_at_call 45; refine (put_any gb lb m cap G r c (t, d) w1 hG1 hn hm).mono ?_; rintro e w2 ⟨rfl, hg2, hG2⟩; have kq := Kept.of_grown (P := fun j => j = lb ∨ Rows H.length rb j) hg2 (Or.inl rfl); have q1 := kq.cell p1 (fun h => HB.out _ h rfl); have q2 := kq.cell p2 (fun h => HB.out _ h rfl); have q3 := kq.cell p3 (fun h => HB.out _ h rfl); have q4 := kq.cell p4 (fun h => HB.out _ h rfl); have hH2 := hH1.grown hg2 HA.out.g2.symm (fun i hi => (HA.out.r2 i (by rw [← putG_len H m' r c (t, d)]; exact hi)).symm) (by rw [putG_len]; exact hn'))
        | fail)
    all_goals
      go_wp2
      go_ret
      exact ⟨rfl, (hK.trans ⟨kp.os, kp.tape, kp.output, kp.size, kp.block⟩).trans ⟨kq.os, kq.tape, kq.output, kq.size, kq.block⟩, hG2.grown rfl rfl, hH2.same rfl (fun _ _ => rfl)⟩
  · go_enter Try.func30, Try.ntmps30
    go_wp2_with fail
    have hdo := HD.out (2 : Int) _ rfl
    generalize w.alloc (.cells #[.int .i64 (2 : Int), .int .i64 r, .int .i64 c, .string t, .int .i64 d] 58) = W at hdo ⊢
    obtain ⟨b1, b2, b3, b4, hK, hGW0, hHW0, hsz⟩ := hdo
    have hGW : GridG W.drew gb lb m cap G := hGW0.grown rfl rfl
    have hHW : RefAt W.drew B ob rb rc m' H := hHW0.same rfl (fun _ _ => rfl)
    clear hGW0 hHW0
    go_region_held3 (fun w' => w'.cell? ⟨w.heap.size, 1, none⟩ = some (.int .i64 r) ∧ w'.cell? ⟨w.heap.size, 2, none⟩ = some (.int .i64 c) ∧ w'.cell? ⟨w.heap.size, 3, none⟩ = some (.string t) ∧ w'.cell? ⟨w.heap.size, 4, none⟩ = some (.int .i64 d))
      (first | exact ⟨b1, b2, b3, b4⟩ | exact ⟨p1, p2, p3, p4⟩ | exact ⟨q1, q2, q3, q4⟩ | fail)
      (first
        | (go_at_call 45; refine (put_any gb lb m cap G r c (t, d) W.drew hGW hn hm).mono ?_; rintro e w1 ⟨rfl, hg1, hG1⟩; have kp := Kept.of_grown (P := fun j => j = lb ∨ Rows H.length rb j) hg1 (Or.inl rfl); have p1 := kp.cell b1 (fun h => HB.out _ h rfl); have p2 := kp.cell b2 (fun h => HB.out _ h rfl); have p3 := kp.cell b3 (fun h => HB.out _ h rfl); have p4 := kp.cell b4 (fun h => HB.out _ h rfl); have hH1 := hHW.grown hg1 HA.out.g2.symm (fun i hi => (HA.out.r2 i hi).symm) hn')
        | (go_at_call 50; refine (refPut_any B ob m' ocap rb rc H r c (t, d) w1 hH1 hn').mono ?_; rintro e w2 ⟨rfl, hg2, hH2⟩; have kq := Kept.mono (Q := fun j => j = lb ∨ Rows H.length rb j) hg2 (fun j h => Or.inr h); have q1 := kq.cell p1 (fun h => HB.out _ h rfl); have q2 := kq.cell p2 (fun h => HB.out _ h rfl); have q3 := kq.cell p3 (fun h => HB.out _ h rfl); have q4 := kq.cell p4 (fun h => HB.out _ h rfl); have hG2 := hG1.kept (by rw [putG_len]; exact hn) hm hg2 (fun h => HRg.out h) (fun h => HRl.out h))
        | (go_at_call 50; refine (refPut_any B ob m' ocap rb rc H r c (t, d) W.drew hHW hn').mono ?_; rintro e w1 ⟨rfl, hg1, hH1⟩; have kp := Kept.mono (Q := fun j => j = lb ∨ Rows H.length rb j) hg1 (fun j h => Or.inr h); have p1 := kp.cell b1 (fun h => HB.out _ h rfl); have p2 := kp.cell b2 (fun h => HB.out _ h rfl); have p3 := kp.cell b3 (fun h => HB.out _ h rfl); have p4 := kp.cell b4 (fun h => HB.out _ h rfl); have hG1 := hGW.kept hn hm hg1 (fun h => HRg.out h) (fun h => HRl.out h))
        | (go_at_call 45; refine (put_any gb lb m cap G r c (t, d) w1 hG1 hn hm).mono ?_; rintro e w2 ⟨rfl, hg2, hG2⟩; have kq := Kept.of_grown (P := fun j => j = lb ∨ Rows H.length rb j) hg2 (Or.inl rfl); have q1 := kq.cell p1 (fun h => HB.out _ h rfl); have q2 := kq.cell p2 (fun h => HB.out _ h rfl); have q3 := kq.cell p3 (fun h => HB.out _ h rfl); have q4 := kq.cell p4 (fun h => HB.out _ h rfl); have hH2 := hH1.grown hg2 HA.out.g2.symm (fun i hi => (HA.out.r2 i (by rw [← putG_len H m' r c (t, d)]; exact hi)).symm) (by rw [putG_len]; exact hn'))
        | fail)
    all_goals
      go_wp2
      go_ret
      exact ⟨rfl, (hK.trans ⟨kp.os, kp.tape, kp.output, kp.size, kp.block⟩).trans ⟨kq.os, kq.tape, kq.output, kq.size, kq.block⟩, hG2.grown rfl rfl, hH2.same rfl (fun _ _ => rfl)⟩
end Go.Proofs.Ytokenlecnbploaa
