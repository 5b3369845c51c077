/- Where glyphs stand: the plain function, and the iterator that tells it. -/
import Derived.Test.YtokenlecnbploaaRows
import Derived.Test.YtokenlecnbploaaBase
import Derived.Test.YtokenlecnbploaaRangeT
import Derived.Test.YtokenlecnbploaaWrapA
import Derived.Shelf.RegionOpen
import Derived.OwnWalkIn
import Derived.TacticsInMore
import Derived.LoopNIn
import Derived.LoopIn
namespace Go.Proofs.Ytokenlecnbploaa
open Go.RowKit Go.Shelf
attribute [local go_sem] Oper.semAt_some

def place (cols : Int) (s : Int × Int) (wd : Int) : Int × Int := if cols < s.2 + wd then (s.1 + 1, 0) else s
def wdAt (l : List Gl) (k : Nat) : Int := (l.getD k (default, 0)).2
def stAt (cols : Int) (l : List Gl) : Nat → Int × Int
  | 0 => (0, 0)
  | k + 1 => ((place cols (stAt cols l k) (wdAt l k)).1, (place cols (stAt cols l k) (wdAt l k)).2 + wdAt l k)
def itemAt (cols : Int) (l : List Gl) (k : Nat) : Int × Int :=
  if k < l.length then place cols (stAt cols l k) (wdAt l k) else if cols ≤ (stAt cols l k).2 then ((stAt cols l k).1 + 1, 0) else stAt cols l k
def items (cols : Int) (l : List Gl) : List (Nat × (Int × Int)) := (List.range (l.length + 1)).map fun k => (k, itemAt cols l k)
def ienc (x : Nat × (Int × Int)) : Array Value := #[.int .i64 x.1, .agg #[.int .i64 x.2.1, .int .i64 x.2.2]]
def thin (l : List Gl) : Prop := ∀ g ∈ l, 1 ≤ g.2 ∧ g.2 ≤ 2

theorem wdAt_of {l : List Gl} {k : Nat} {g : Gl} (h : l[k]? = some g) : wdAt l k = g.2 := by unfold wdAt; simp [List.getD, h]
theorem stAt_bd (cols : Int) (hc : 2 ≤ cols) (l : List Gl) (ht : thin l) : ∀ k, k ≤ l.length → 0 ≤ (stAt cols l k).1 ∧ (stAt cols l k).1 ≤ k ∧ 0 ≤ (stAt cols l k).2 ∧ (stAt cols l k).2 ≤ 2 * k ∧ (stAt cols l k).2 ≤ cols := by
  intro k
  induction k with
  | zero => intro _; simp [stAt]; omega
  | succ k ih =>
    intro hk
    obtain ⟨h1, h2, h3, h4, h5⟩ := ih (by omega)
    have hg : l[k]? = some l[k] := List.getElem?_eq_getElem (by omega)
    have hw := ht l[k] (List.getElem_mem _)
    rw [← wdAt_of hg] at hw
    simp only [stAt, place]
    split <;> (refine ⟨?_, ?_, ?_, ?_, ?_⟩ <;> omega)

def itPre (b1 b2 b off cap : Nat) (a : Option Addr) (cols : Int) (l : List Gl) (W : World) : Prop :=
  W.cell? ⟨b1, 0, none⟩ = some (.slice a l.length cap) ∧ W.cell? ⟨b2, 0, none⟩ = some (.int .i64 cols) ∧ (0 < l.length → a = some ⟨b, off, none⟩) ∧
    ∀ j u, (l.flatMap genc)[j]? = some u → W.cell? ⟨b, off + j, none⟩ = some u

set_option maxRecDepth 100000 in
set_option maxHeartbeats 1000000 in
theorem spots1_in (n : Nat) (hn : 1 ≤ n) (b1 b2 b off cap : Nat) (a : Option Addr) (cols : Int) (l : List Gl) (hcap : l.length ≤ 1073741824) (hc2 : 2 ≤ cols) (hcm : cols ≤ 9223372036854775807) (ht : thin l) :
    SeqT Fence.wide n Try.prog 57 #[.pointer (some ⟨b1, 0, none⟩), .pointer (some ⟨b2, 0, none⟩)] ienc (items cols l) (itPre b1 b2 b off cap a cols l) := by
  intro lr J W hJP hJD hY h0
  refine callsIn_of_wp Try.func57 rfl trivial ?_ rfl
  simp only [Try.ntmps57, List.size_toArray, List.length_cons, List.length_nil, Nat.reduceAdd, Nat.reduceSub, Array.replicate_succ, Array.replicate_zero, List.push_toArray, List.append_toArray, List.nil_append, List.cons_append]
  obtain ⟨⟨p1, p2, p3, p4⟩, _⟩ := hJP 0 W h0
  have hb1 : b1 < W.heap.size := World.block_lt_of_cell? W _ p1
  have hJ0 := Lib.hid h0
  have hp4 := Lib.hid p4
  have hp3 := Lib.hid p3
  clear h0 p4 p3
  gi_wp2
  gi_loopw [9] (fun i wr => ∃ k : Nat, k ≤ l.length ∧ i = .int .i64 k ∧ J k wr ∧ W.heap.size < wr.heap.size ∧ wr.cell? ⟨W.heap.size, 0, none⟩ = some (.int .i64 (stAt cols l k).1) ∧ wr.cell? ⟨W.heap.size, 1, none⟩ = some (.int .i64 (stAt cols l k).2) ∧ wr.frozen? ⟨W.heap.size, 0, none⟩ = false ∧ wr.frozen? ⟨W.heap.size, 1, none⟩ = false)
    (fun i _ => l.length - (intOf i).toNat)
  case atStart =>
    exact ⟨0, Nat.zero_le _, rfl, hJD _ _ _ hJ0.out ((Below.refl _ _).alloc (Nat.le_refl _) _), by simp, (cell_two_new W _ _ _) 0 _ rfl, (cell_two_new W _ _ _) 1 _ rfl, by go_simp, by go_simp⟩
  case round =>
    obtain ⟨k, hk, rfl, hJk, hsw, hs0, hs1, hf0, hf1⟩ := hrel
    obtain ⟨q1, q2, q3, q4, q5⟩ := stAt_bd cols hc2 l ht k hk
    obtain ⟨⟨p1, p2, p3, p4⟩, hsz⟩ := hJP k wr hJk
    have hJk' := Lib.hid hJk
    have hst : stAt cols l (k + 1) = ((place cols (stAt cols l k) (wdAt l k)).1, (place cols (stAt cols l k) (wdAt l k)).2 + wdAt l k) := rfl
    have hb2w : b2 < wr.heap.size := World.block_lt_of_cell? wr _ p2
    have hb1w : b1 < wr.heap.size := World.block_lt_of_cell? wr _ p1
    by_cases hlt : k < l.length
    · obtain ⟨g, hg⟩ : ∃ g, l[k]? = some g := ⟨l[k], by simp [hlt]⟩
      have ha := p3 (by omega)
      subst ha
      have hd1 : wr.cell? ⟨b, off + k * 2, none⟩ = some (.string g.1) := flat_cell genc_len p4 hg 0 rfl
      have hd2 : wr.cell? ⟨b, off + k * 2 + 1, none⟩ = some (.int .i64 g.2) := flat_cell genc_len p4 hg 1 rfl
      have hit : (items cols l)[k]? = some (k, place cols (stAt cols l k) (wdAt l k)) := by
        unfold items itemAt
        rw [List.getElem?_map, List.getElem?_range (by omega)]
        simp [hlt]
      rw [wdAt_of hg] at hst hit
      have hY1 := fun W1 => hY k _ W1 hit
      clear hit hY
      generalize stAt cols l k = s at *
      obtain ⟨r, c⟩ := s
      dsimp only at *
      obtain ⟨w1, w2⟩ := ht g (List.mem_of_getElem? hg)
      have HST := Lib.hid hst
      clear hg hJk p3 p4 hst
      by_cases hcmp : cols < c + g.2
      · have hpl : place cols (r, c) g.2 = (r + 1, 0) := if_pos hcmp
        rw [hpl] at hY1
        rw [hpl] at HST
        clear hpl
        obtain ⟨W1, hW1⟩ : ∃ W1, W1 = ((wr.setCell ⟨W.heap.size, 0, none⟩ (.int .i64 (r + 1))).setCell ⟨W.heap.size, 1, none⟩ (.int .i64 0)).alloc (.cells #[.string g.1, .int .i64 g.2] 36) := ⟨_, rfl⟩
        have hJ1 : J k W1 := by
          rw [hW1]
          exact hJD _ _ _ hJk'.out ((((Below.refl _ wr).setCell (p := ⟨W.heap.size, 0, none⟩) (Nat.le_refl _) _).setCell (p := ⟨W.heap.size, 1, none⟩) (Nat.le_refl _) _).alloc (by simp; omega) _)
        have a0 : W1.cell? ⟨W.heap.size, 0, none⟩ = some (.int .i64 (r + 1)) := by rw [hW1]; go_simp
        have a1 : W1.cell? ⟨W.heap.size, 1, none⟩ = some (.int .i64 0) := by rw [hW1]; go_simp
        have a2 : W1.frozen? ⟨W.heap.size, 0, none⟩ = false := by rw [hW1]; go_simp
        have a3 : W1.frozen? ⟨W.heap.size, 1, none⟩ = false := by rw [hW1]; go_simp
        have a4 : W1.cell? ⟨wr.heap.size, 1, none⟩ = some (.int .i64 g.2) := by rw [hW1]; go_simp
        have a5 : W.heap.size < W1.heap.size := by rw [hW1]; simp; omega
        obtain ⟨fn, tmps, assign, body, hy, hR⟩ := hY1 W1 hJ1
        simp only [ienc] at hy
        have A0 := Lib.hid a0
        have A1 := Lib.hid a1
        have A2 := Lib.hid a2
        have A3 := Lib.hid a3
        have A4 := Lib.hid a4
        clear a0 a1 a2 a3 a4 hJ1 hY1
        subst hW1
        gi_wp2
        refine hR.mono ?_
        clear hy hR
        rintro e W' ⟨rfl, hJ', hKF⟩
        have c0 := hKF.cell (a := ⟨W.heap.size, 0, none⟩) (Nat.le_refl _) A0.out
        have c1 := hKF.cell (a := ⟨W.heap.size, 1, none⟩) (Nat.le_refl _) A1.out
        have c2 := (hKF.frozen (a := ⟨W.heap.size, 0, none⟩) (Nat.le_refl _) A0.out).trans A2.out
        have c3 := (hKF.frozen (a := ⟨W.heap.size, 1, none⟩) (Nat.le_refl _) A1.out).trans A3.out
        have c4 := hKF.cell (a := ⟨wr.heap.size, 1, none⟩) hsz A4.out
        have c5 : W.heap.size < W'.heap.size := Nat.lt_of_lt_of_le a5 hKF.1
        have HJ' := Lib.hid hJ'
        clear hJ' hKF A0 A1 A2 A3 A4 a5
        gi_wp2
        go_roundw
        case rel =>
          refine ⟨k + 1, by omega, by go_num, hJD _ _ _ HJ'.out ((Below.refl _ _).setCell (p := ⟨W.heap.size, 1, none⟩) (Nat.le_refl _) _), by simpa using c5, ?_⟩
          rw [HST.out]
          exact ⟨by go_simp, by go_simp, by go_simp, by go_simp⟩
        case measure => simp [intOf]; omega
      · have hpl : place cols (r, c) g.2 = (r, c) := if_neg hcmp
        rw [hpl] at hY1
        rw [hpl] at HST
        clear hpl
        obtain ⟨W1, hW1⟩ : ∃ W1, W1 = wr.alloc (.cells #[.string g.1, .int .i64 g.2] 36) := ⟨_, rfl⟩
        have hJ1 : J k W1 := by
          rw [hW1]
          exact hJD _ _ _ hJk'.out ((Below.refl _ wr).alloc (by omega) _)
        have a0 : W1.cell? ⟨W.heap.size, 0, none⟩ = some (.int .i64 r) := by rw [hW1]; go_simp
        have a1 : W1.cell? ⟨W.heap.size, 1, none⟩ = some (.int .i64 c) := by rw [hW1]; go_simp
        have a2 : W1.frozen? ⟨W.heap.size, 0, none⟩ = false := by rw [hW1]; go_simp
        have a3 : W1.frozen? ⟨W.heap.size, 1, none⟩ = false := by rw [hW1]; go_simp
        have a4 : W1.cell? ⟨wr.heap.size, 1, none⟩ = some (.int .i64 g.2) := by rw [hW1]; go_simp
        have a5 : W.heap.size < W1.heap.size := by rw [hW1]; simp; omega
        obtain ⟨fn, tmps, assign, body, hy, hR⟩ := hY1 W1 hJ1
        simp only [ienc] at hy
        have A0 := Lib.hid a0
        have A1 := Lib.hid a1
        have A2 := Lib.hid a2
        have A3 := Lib.hid a3
        have A4 := Lib.hid a4
        clear a0 a1 a2 a3 a4 hJ1 hY1
        subst hW1
        gi_wp2
        refine hR.mono ?_
        clear hy hR
        rintro e W' ⟨rfl, hJ', hKF⟩
        have c0 := hKF.cell (a := ⟨W.heap.size, 0, none⟩) (Nat.le_refl _) A0.out
        have c1 := hKF.cell (a := ⟨W.heap.size, 1, none⟩) (Nat.le_refl _) A1.out
        have c2 := (hKF.frozen (a := ⟨W.heap.size, 0, none⟩) (Nat.le_refl _) A0.out).trans A2.out
        have c3 := (hKF.frozen (a := ⟨W.heap.size, 1, none⟩) (Nat.le_refl _) A1.out).trans A3.out
        have c4 := hKF.cell (a := ⟨wr.heap.size, 1, none⟩) hsz A4.out
        have c5 : W.heap.size < W'.heap.size := Nat.lt_of_lt_of_le a5 hKF.1
        have HJ' := Lib.hid hJ'
        clear hJ' hKF A0 A1 A2 A3 A4 a5
        gi_wp2
        go_roundw
        case rel =>
          refine ⟨k + 1, by omega, by go_num, hJD _ _ _ HJ'.out ((Below.refl _ _).setCell (p := ⟨W.heap.size, 1, none⟩) (Nat.le_refl _) _), by simpa using c5, ?_⟩
          rw [HST.out]
          exact ⟨by go_simp, by go_simp, by go_simp, by go_simp⟩
        case measure => simp [intOf]; omega
    · have hkl : k = l.length := by omega
      subst hkl
      have hlen := Lib.hid (show (items cols l).length = l.length + 1 by unfold items; simp)
      have hit : (items cols l)[l.length]? = some (l.length, itemAt cols l l.length) := by
        unfold items
        rw [List.getElem?_map, List.getElem?_range (by omega)]; rfl
      have hif : itemAt cols l l.length = if cols ≤ (stAt cols l l.length).2 then ((stAt cols l l.length).1 + 1, 0) else stAt cols l l.length := if_neg (by omega)
      rw [hif] at hit
      clear hst hif hp3 hp4 hJ0 p3 p4
      generalize stAt cols l l.length = s at *
      obtain ⟨r, c⟩ := s
      dsimp only at *
      by_cases hcmp : cols ≤ c
      · rw [if_pos hcmp] at hit
        obtain ⟨fn, tmps, assign, body, hy, hR⟩ := hY _ _ ((wr.setCell ⟨W.heap.size, 0, none⟩ (.int .i64 (r + 1))).setCell ⟨W.heap.size, 1, none⟩ (.int .i64 0)) hit (hJD _ _ _ hJk'.out (((Below.refl _ wr).setCell (p := ⟨W.heap.size, 0, none⟩) (Nat.le_refl _) _).setCell (p := ⟨W.heap.size, 1, none⟩) (Nat.le_refl _) _))
        simp only [ienc] at hy
        clear hY hit hJk hJP
        gi_wp2
        refine hR.mono ?_
        clear hy hR
        rintro e W' ⟨rfl, hJ', hKF⟩
        have HJ' := Lib.hid hJ'
        clear hJ' hKF
        gi_wp2
        go_end0
        exact ⟨⟨_, rfl⟩, by rw [hlen.out]; exact HJ'.out⟩
      · rw [if_neg hcmp] at hit
        obtain ⟨fn, tmps, assign, body, hy, hR⟩ := hY _ _ wr hit hJk
        simp only [ienc] at hy
        clear hY hit hJk hJP
        gi_wp2
        refine hR.mono ?_
        clear hy hR
        rintro e W' ⟨rfl, hJ', hKF⟩
        have HJ' := Lib.hid hJ'
        clear hJ' hKF
        gi_wp2
        go_end0
        exact ⟨⟨_, rfl⟩, by rw [hlen.out]; exact HJ'.out⟩
end Go.Proofs.Ytokenlecnbploaa
