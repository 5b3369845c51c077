/- Deeds in both grids: the contracts in one form each. -/
import Derived.Test.YtokenlecnbploaaRefE
namespace Go.Proofs.Ytokenlecnbploaa
open Go.RowKit

instance (n m : Nat) (r c d : Int) : Decidable (roomy n m r c d) := by unfold roomy; infer_instance

def rowAt (G : List (List Gl)) (r : Nat) : List Gl := G.getD r []
theorem get_rowAt {G : List (List Gl)} {r : Nat} (h : r < G.length) : G[r]? = some (rowAt G r) := by unfold rowAt; rw [List.getD_eq_getElem?_getD, List.getElem?_eq_getElem h]; rfl

def putG (G : List (List Gl)) (m : Nat) (r c : Int) (x : Gl) : List (List Gl) := if roomy G.length m r c x.2 then G.set r.toNat (putRow (rowAt G r.toNat) c.toNat x) else G
def eraseG (G : List (List Gl)) (m : Nat) (r c : Int) : List (List Gl) := if 0 ≤ r ∧ r < G.length ∧ 0 ≤ c ∧ c < m then G.set r.toNat (eraseRow (rowAt G r.toNat) c.toNat (m - c.toNat)) else G
def clearG (G : List (List Gl)) (m : Nat) : List (List Gl) := List.replicate G.length (List.replicate m blankC)
theorem putG_len (G : List (List Gl)) (m : Nat) (r c : Int) (x : Gl) : (putG G m r c x).length = G.length := by unfold putG; split <;> simp
theorem eraseG_len (G : List (List Gl)) (m : Nat) (r c : Int) : (eraseG G m r c).length = G.length := by unfold eraseG; split <;> simp
theorem clearG_len (G : List (List Gl)) (m : Nat) : (clearG G m).length = G.length := by unfold clearG; simp

/-- Only the blocks of P may have changed. -/
structure Kept (P : Nat → Prop) (w w' : World) : Prop where
  os : w'.os = w.os
  tape : w'.tape = w.tape
  output : w'.output = w.output
  size : w.heap.size ≤ w'.heap.size
  block : ∀ j, j < w.heap.size → ¬ P j → w'.heap[j]? = w.heap[j]?

theorem Kept.of_grown {P : Nat → Prop} {w w' : World} {b : Nat} (h : w.grownBy w' (some b)) (hb : P b) : Kept P w w' :=
  ⟨h.os, h.tape, h.output, h.size, fun j hj hn => h.block j hj (by intro e; injection e with e; exact hn (e ▸ hb))⟩
theorem Kept.of_below {P : Nat → Prop} {w w' : World} (h : Below w.heap.size w w') : Kept P w w' := ⟨h.os, h.tape, h.output, h.size, fun j hj _ => h.block j hj⟩
theorem Kept.trans {P : Nat → Prop} {w w1 w2 : World} (h : Kept P w w1) (k : Kept P w1 w2) : Kept P w w2 :=
  ⟨k.os.trans h.os, k.tape.trans h.tape, k.output.trans h.output, Nat.le_trans h.size k.size, fun j hj hn => (k.block j (Nat.lt_of_lt_of_le hj h.size) hn).trans (h.block j hj hn)⟩
theorem Kept.mono {P Q : Nat → Prop} {w w' : World} (h : Kept P w w') (hq : ∀ j, P j → Q j) : Kept Q w w' := ⟨h.os, h.tape, h.output, h.size, fun j hj hn => h.block j hj fun hp => hn (hq j hp)⟩
theorem Kept.below {P : Nat → Prop} {B : Nat} {w w' : World} (h : Kept P w w') (hB : B ≤ w.heap.size) (hP : ∀ j, P j → B ≤ j) : Below B w w' :=
  ⟨h.os, h.tape, h.output, h.size, fun j hj => h.block j (by omega) fun hp => by have := hP j hp; omega⟩
theorem Kept.refl (P : Nat → Prop) (w : World) : Kept P w w := ⟨rfl, rfl, rfl, Nat.le_refl _, fun _ _ _ => rfl⟩
theorem Kept.cell {P : Nat → Prop} {w w' : World} {a : Addr} {v : Value} (h : Kept P w w') (hc : w.cell? a = some v) (hn : ¬ P a.block) : w'.cell? a = some v :=
  (World.cell?_of_block (h.block _ (World.block_lt_of_cell? w _ hc) hn)).trans hc

theorem GridG.llt {w : World} {gb lb m cap : Nat} {G : List (List Gl)} (h : GridG w gb lb m cap G) (hn : 0 < G.length) (hm : 0 < m) : lb < w.heap.size :=
  h.grid.llt (h.index (get_rowAt hn) hm).1
theorem GridG.kept {w w' : World} {gb lb m cap : Nat} {G : List (List Gl)} (h : GridG w gb lb m cap G) (hn : 0 < G.length) (hm : 0 < m) {P : Nat → Prop} (hk : Kept P w w') (h1 : ¬ P gb) (h2 : ¬ P lb) : GridG w' gb lb m cap G :=
  h.grown (hk.block _ h.grid.glt h1) (hk.block _ (h.llt hn hm) h2)
theorem RefAt.kept {w w' : World} {B ob m : Nat} {rb rc : Nat → Nat} {G : List (List Gl)} (h : RefAt w B ob rb rc m G) (hn : 0 < G.length) {P : Nat → Prop} (hk : Kept P w w') (h1 : ¬ P ob) (h2 : ∀ i, i < G.length → ¬ P (rb i)) : RefAt w' B ob rb rc m G := by
  have hob : ob < w.heap.size := World.block_lt_of_cell? w _ (h.outer 0 hn)
  exact h.same (hk.block _ hob h1) fun i hi => hk.block _ (h.row (get_rowAt hi)).2.2.2.2.2.2.1 (h2 i hi)
theorem grownBy_of_below {w w' : World} {r : Option Nat} (h : Below w.heap.size w w') : w.grownBy w' r := ⟨h.os, h.tape, h.output, h.size, fun j hj _ => h.block j hj⟩

/-- blocks of rows -/
def Rows (n : Nat) (rb : Nat → Nat) (j : Nat) : Prop := ∃ i, i < n ∧ j = rb i
theorem RefAt.not_rows {w : World} {B ob m : Nat} {rb rc : Nat → Nat} {G : List (List Gl)} (h : RefAt w B ob rb rc m G) : ¬ Rows G.length rb ob := by
  rintro ⟨i, hi, e⟩; exact h.ne i hi e.symm

theorem GridG.m_small {w : World} {gb lb m cap : Nat} {G : List (List Gl)} (h : GridG w gb lb m cap G) (hn : 0 < G.length) : m ≤ 1073741824 :=
  Nat.le_trans (Nat.le_mul_of_pos_left _ hn) h.small

theorem put_any (gb lb m cap : Nat) (G : List (List Gl)) (r c : Int) (x : Gl) (w : World) (hG : GridG w gb lb m cap G) (hn : 0 < G.length) (hm : 0 < m) :
    Calls Try.prog 45 #[.pointer (some ⟨gb, 0, none⟩), .int .i64 r, .int .i64 c, .agg #[.string x.1, .int .i64 x.2]] w fun e w' => e = .returned (.bool (decide (roomy G.length m r c x.2))) ∧ w.grownBy w' (some lb) ∧ GridG w' gb lb m cap (putG G m r c x) := by
  by_cases h : roomy G.length m r c x.2
  · have h0 := h
    unfold roomy at h
    obtain ⟨h1, h2, h3, h4, h5⟩ := h
    have er : ((r.toNat : Nat) : Int) = r := by omega
    have ec : ((c.toNat : Nat) : Int) = c := by omega
    have hget := get_rowAt (G := G) (r := r.toNat) (by omega)
    have hp : putG G m r c x = G.set r.toNat (putRow (rowAt G r.toNat) c.toNat x) := by unfold putG; rw [if_pos h0]
    rw [hp, decide_eq_true h0]
    rcases h5 with h5 | ⟨h5, h6⟩
    · have := put_one gb lb m cap r.toNat c.toNat G _ x w hG hget (by omega) h5
      rw [er, ec] at this
      exact this
    · have := put_two gb lb m cap r.toNat c.toNat G _ x w hG hget (by omega) h5
      rw [er, ec] at this
      exact this
  · have hp : putG G m r c x = G := by unfold putG; rw [if_neg h]
    rw [hp, decide_eq_false h]
    refine (put_no gb G.length m r c x.2 x.1 w hG.grid.c0 hG.grid.c1 (hG.m_small hn) h).mono ?_
    rintro e w' ⟨rfl, hB⟩
    exact ⟨rfl, grownBy_of_below hB, hG.kept hn hm (P := fun _ => False) (.of_below hB) id id⟩

theorem refPut_any (B ob m cap : Nat) (rb rc : Nat → Nat) (G : List (List Gl)) (r c : Int) (x : Gl) (w : World) (hG : RefAt w B ob rb rc m G) (hn : 0 < G.length) :
    Calls Try.prog 50 #[.slice (some ⟨ob, 0, none⟩) G.length cap, .int .i64 r, .int .i64 c, .agg #[.string x.1, .int .i64 x.2]] w fun e w' => e = .returned (.bool (decide (roomy G.length m r c x.2))) ∧ Kept (Rows G.length rb) w w' ∧ RefAt w' B ob rb rc m (putG G m r c x) := by
  by_cases h : roomy G.length m r c x.2
  · have h0 := h
    unfold roomy at h
    obtain ⟨h1, h2, h3, h4, h5⟩ := h
    have er : ((r.toNat : Nat) : Int) = r := by omega
    have ec : ((c.toNat : Nat) : Int) = c := by omega
    have hget := get_rowAt (G := G) (r := r.toNat) (by omega)
    have hp : putG G m r c x = G.set r.toNat (putRow (rowAt G r.toNat) c.toNat x) := by unfold putG; rw [if_pos h0]
    rw [hp, decide_eq_true h0]
    rcases h5 with h5 | ⟨h5, h6⟩
    · have := refPut_one B ob m cap rb rc G r.toNat c.toNat _ x w hG hget (by omega) h5
      rw [er, ec] at this
      refine this.mono ?_
      rintro e w' ⟨rfl, hg, hR⟩
      exact ⟨rfl, .of_grown hg ⟨r.toNat, by omega, rfl⟩, hR⟩
    · have := refPut_two B ob m cap rb rc G r.toNat c.toNat _ x w hG hget (by omega) h5
      rw [er, ec] at this
      refine this.mono ?_
      rintro e w' ⟨rfl, hg, hR⟩
      exact ⟨rfl, .of_grown hg ⟨r.toNat, by omega, rfl⟩, hR⟩
  · have hp : putG G m r c x = G := by unfold putG; rw [if_neg h]
    rw [hp, decide_eq_false h]
    have hob : ob < w.heap.size := World.block_lt_of_cell? w _ (hG.outer 0 hn)
    refine (refPut_no B ob m cap rb rc G r c x.2 x.1 w hob hG h).mono ?_
    rintro e w' ⟨rfl, hB⟩
    exact ⟨rfl, .of_below hB, hG.kept hn (P := fun _ => False) (.of_below hB) id fun _ _ => id⟩

theorem erase_any (gb lb m cap : Nat) (G : List (List Gl)) (r c : Int) (w : World) (hG : GridG w gb lb m cap G) :
    Calls Try.prog 42 #[.pointer (some ⟨gb, 0, none⟩), .int .i64 r, .int .i64 c] w fun e w' => e = .returned (.tuple #[]) ∧ w.grownBy w' (some lb) ∧ GridG w' gb lb m cap (eraseG G m r c) := by
  by_cases h : 0 ≤ r ∧ r < G.length ∧ 0 ≤ c ∧ c < m
  · have hp : eraseG G m r c = G.set r.toNat (eraseRow (rowAt G r.toNat) c.toNat (m - c.toNat)) := by unfold eraseG; rw [if_pos h]
    rw [hp]
    have er : ((r.toNat : Nat) : Int) = r := by omega
    have ec : ((c.toNat : Nat) : Int) = c := by omega
    have := erase_some gb lb m cap r.toNat c.toNat G _ w hG (get_rowAt (by omega)) (by omega)
    rw [er, ec] at this
    exact this
  · have hp : eraseG G m r c = G := by unfold eraseG; rw [if_neg h]
    rw [hp]
    refine (erase_none gb G.length m r c w hG.grid.c0 hG.grid.c1 h).mono ?_
    rintro e w' ⟨rfl, rfl⟩
    exact ⟨rfl, grown_refl _ _, hG⟩

theorem refErase_any (B ob m cap : Nat) (rb rc : Nat → Nat) (G : List (List Gl)) (r c : Int) (w : World) (hG : RefAt w B ob rb rc m G) :
    Calls Try.prog 51 #[.slice (some ⟨ob, 0, none⟩) G.length cap, .int .i64 r, .int .i64 c] w fun e w' => e = .returned (.tuple #[]) ∧ Kept (Rows G.length rb) w w' ∧ RefAt w' B ob rb rc m (eraseG G m r c) := by
  by_cases h : 0 ≤ r ∧ r < G.length ∧ 0 ≤ c ∧ c < m
  · have hp : eraseG G m r c = G.set r.toNat (eraseRow (rowAt G r.toNat) c.toNat (m - c.toNat)) := by unfold eraseG; rw [if_pos h]
    rw [hp]
    have er : ((r.toNat : Nat) : Int) = r := by omega
    have ec : ((c.toNat : Nat) : Int) = c := by omega
    have := refErase_some B ob m cap rb rc G r.toNat c.toNat _ w hG (get_rowAt (by omega)) (by omega)
    rw [er, ec] at this
    refine this.mono ?_
    rintro e w' ⟨rfl, hg, hR⟩
    exact ⟨rfl, .of_grown hg ⟨r.toNat, by omega, rfl⟩, hR⟩
  · have hp : eraseG G m r c = G := by unfold eraseG; rw [if_neg h]
    rw [hp]
    refine (refErase_none B ob m cap rb rc G r c w hG h).mono ?_
    rintro e w' ⟨rfl, rfl⟩
    exact ⟨rfl, .refl _ _, hG⟩
end Go.Proofs.Ytokenlecnbploaa
