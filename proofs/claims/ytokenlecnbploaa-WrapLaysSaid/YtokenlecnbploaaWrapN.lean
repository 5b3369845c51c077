/- The law WrapApart: the walk. -/
import Derived.Test.YtokenlecnbploaaWrapL
import Derived.IntWalk
namespace Go.Proofs.Ytokenlecnbploaa
open Go.RowKit Go.ChangeShapes

theorem apart (cols : Int) (hc : 2 ≤ cols) (l : List Gl) (ht : thin l) (k : Nat) (g : Gl) (hg : l[k]? = some g) :
    (itemAt cols l k).2 + g.2 ≤ cols ∧ 0 ≤ (itemAt cols l k).2 ∧ 0 ≤ (itemAt cols l k).1 ∧ (itemAt cols l k).1 ≤ k + 1 ∧
      (itemAt cols l (k + 1) = ((itemAt cols l k).1, (itemAt cols l k).2 + g.2) ∨ itemAt cols l (k + 1) = ((itemAt cols l k).1 + 1, 0) ∧ cols - 1 ≤ (itemAt cols l k).2 + g.2) := by
  have hk := (List.getElem?_eq_some_iff.1 hg).1
  obtain ⟨w1, w2⟩ := ht g (List.mem_of_getElem? hg)
  obtain ⟨q1, q2, q3, q4, q5⟩ := stAt_bd cols hc l ht k (by omega)
  have hit : itemAt cols l k = place cols (stAt cols l k) g.2 := by rw [← wdAt_of hg]; exact if_pos hk
  have hst : stAt cols l (k + 1) = ((itemAt cols l k).1, (itemAt cols l k).2 + g.2) := by rw [hit, ← wdAt_of hg]; rfl
  have hb : (itemAt cols l k).2 + g.2 ≤ cols ∧ 0 ≤ (itemAt cols l k).2 ∧ 0 ≤ (itemAt cols l k).1 ∧ (itemAt cols l k).1 ≤ k + 1 := by
    rw [hit]; unfold place; split <;> (refine ⟨?_, ?_, ?_, ?_⟩ <;> omega)
  refine ⟨hb.1, hb.2.1, hb.2.2.1, hb.2.2.2, ?_⟩
  generalize itemAt cols l k = p at *
  unfold itemAt
  rw [hst]
  split
  · rename_i h1
    have hg2 : l[k + 1]? = some l[k + 1] := List.getElem?_eq_getElem h1
    obtain ⟨v1, v2⟩ := ht l[k + 1] (List.getElem_mem _)
    rw [wdAt_of hg2]
    unfold place
    dsimp only
    split
    · exact .inr ⟨rfl, by omega⟩
    · exact .inl rfl
  · dsimp only
    split
    · exact .inr ⟨rfl, by omega⟩
    · exact .inl rfl

theorem itemAt0 (cols : Int) (hc : 2 ≤ cols) (l : List Gl) (ht : thin l) : itemAt cols l 0 = (0, 0) := by
  unfold itemAt
  split
  · rename_i h
    have hg : l[0]? = some l[0] := List.getElem?_eq_getElem h
    obtain ⟨w1, w2⟩ := ht l[0] (List.getElem_mem _)
    rw [wdAt_of hg]
    unfold place stAt
    rw [if_neg (by dsimp only; omega)]
  · unfold stAt
    rw [if_neg (by dsimp only; omega)]

theorem getElem?_spots {cols : Int} {l : List Gl} (hc : 2 ≤ cols) {k : Nat} (hk : k ≤ l.length) : (spotsL cols l)[k]? = some (itemAt cols l k) := by
  unfold spotsL
  rw [if_neg (by omega), List.getElem?_map, List.getElem?_range (by omega)]
  rfl

set_option maxRecDepth 100000 in
set_option maxHeartbeats 1000000 in
theorem wrapApart_any (v : Value) (l : List Gl) (cols : Int) (w : World) (hR : Rs w.heap.size w genc 2 v l) :
    Calls Try.prog 4 #[v, .int .i64 cols] w fun e w' => e = .returned (.bool true) ∧ Below w.heap.size w w' := by
  have hlen : (fewl l).length ≤ 100 := by rw [fewl_length]; omega
  have hthin := fewl_thin l
  have hbit := and15 cols
  go_enter Try.func4, Try.ntmps4
  go_wp2_with fail
  refine (few_any v l w hR).mono ?_
  rintro e w1 ⟨va, vb, rfl, hB1, ha, hb⟩
  go_wp2_with fail
  clear hbit
  obtain ⟨C, hC⟩ : ∃ C, C = 2 + cols % 16 := ⟨_, rfl⟩
  rw [← hC]
  have hC1 : 2 ≤ C := by omega
  have hC2 : C ≤ 17 := by omega
  clear hC
  refine (place_any va (fewl l) C w1 (rd_of_owns ha) (by omega) (by omega) hthin).mono ?_
  rintro e w2 ⟨vs, rfl, hB2, hs, _⟩
  have haR := (rd_of_owns ha).below hB2 (Nat.le_refl _)
  have hsR := rd_of_owns hs
  have hB : Below w.heap.size w w2 := below_trans' hB1 hB2
  have hsl : (spotsL C (fewl l)).length = (fewl l).length + 1 := by rw [spotsL_len, if_neg (by omega)]
  have hap := apart C hC1 (fewl l) hthin
  have hget := fun k hk => getElem?_spots (cols := C) (l := fewl l) hC1 (k := k) hk
  have hi0 := itemAt0 C hC1 (fewl l) hthin
  clear ha hb hs hB1 hB2
  generalize fewl l = L at *
  generalize spotsL C L = sp at *
  generalize itemAt C L = it at *
  obtain ⟨sa, scap, rfl, hsc1, hsc2, _, hsc⟩ := hsR
  rw [hsl] at *
  obtain ⟨aa, acap, rfl, hac1, hac2, _, hac⟩ := haR
  unfold maxLen at hsc2 hac2
  obtain ⟨b, off, rfl, hbl, hcc⟩ := hsc (by omega)
  have d0 : w2.cell? ⟨b, off, none⟩ = some (.int .i64 (it 0).1) := by simpa using flat_cell senc_len hcc (hget 0 (by omega)) 0 rfl
  have d1 : w2.cell? ⟨b, off + 1, none⟩ = some (.int .i64 (it 0).2) := by simpa using flat_cell senc_len hcc (hget 0 (by omega)) 1 rfl
  rw [hi0] at d0 d1
  clear hi0 hsc hsl
  have hg2 := fun k hk j u => @flat_cell _ senc 2 senc_len w2 sp b off hcc k _ (hget k hk) j u
  clear hget hcc
  go_wp2_with fail
  go_loopw [8] (fun i wr => ∃ k : Nat, k ≤ L.length ∧ i = .int .i64 k ∧ Below w2.heap.size w2 wr) (fun i _ => L.length - (intOf i).toNat)
  case atStart => exact ⟨0, Nat.zero_le _, rfl, Below.refl _ _⟩
  case round =>
    obtain ⟨k, hk, rfl, hBr⟩ := hrel
    clear d0 d1
    by_cases hlt : k < L.length
    · obtain ⟨g, hg⟩ : ∃ g, L[k]? = some g := ⟨L[k], by simp [hlt]⟩
      obtain ⟨b', off', rfl, hbl', hcc'⟩ := hac (by omega)
      obtain ⟨a1, a2, a3, a5, a4⟩ := hap k g hg
      obtain ⟨w1', w2'⟩ := hthin g (List.mem_of_getElem? hg)
      have d1 : wr.cell? ⟨b, off + k * 2, none⟩ = some (.int .i64 (it k).1) := cell_later hBr (hg2 k (by omega) 0 _ rfl)
      have d2 : wr.cell? ⟨b, off + k * 2 + 1, none⟩ = some (.int .i64 (it k).2) := cell_later hBr (hg2 k (by omega) 1 _ rfl)
      have d3 : wr.cell? ⟨b, off + (k + 1) * 2, none⟩ = some (.int .i64 (it (k + 1)).1) := cell_later hBr (hg2 (k + 1) (by omega) 0 _ rfl)
      have d4 : wr.cell? ⟨b, off + (k + 1) * 2 + 1, none⟩ = some (.int .i64 (it (k + 1)).2) := cell_later hBr (hg2 (k + 1) (by omega) 1 _ rfl)
      have d5 : wr.cell? ⟨b', off' + k * 2 + 1, none⟩ = some (.int .i64 g.2) := cell_later hBr (flat_cell genc_len hcc' hg 1 rfl)
      have hkl : (k : Int) < L.length := by omega
      clear hac hap hg2 hg hcc'
      rcases a4 with a4 | ⟨a4, a6⟩
      · rw [a4] at d3 d4
        generalize it k = q at *
        obtain ⟨r, c⟩ := q
        dsimp only at *
        clear a4
        have hk1 : 0 ≤ (k : Int) + 1 := by omega
        have hk2 : (k : Int) + 1 < L.length + 1 := by omega
        have hk3 : ((k : Int) + 1).toNat = k + 1 := by omega
        have e1 := IntWalk.i64_in (c + g.2) (by omega)
        have e2 := IntWalk.i64_in ((k : Int) + 1) (by omega)
        have hne : ¬ C < c + g.2 := by omega
        go_wp2
        go_quiet (fail)
        go_wp2
        go_quiet (fail)
        go_wp2
        refine ⟨⟨k + 1, by omega, by go_num, below_drewN hBr _⟩, by simp [intOf]; omega⟩
      · rw [a4] at d3 d4
        generalize it k = q at *
        obtain ⟨r, c⟩ := q
        dsimp only at *
        clear a4
        have hk1 : 0 ≤ (k : Int) + 1 := by omega
        have hk2 : (k : Int) + 1 < L.length + 1 := by omega
        have hk3 : ((k : Int) + 1).toNat = k + 1 := by omega
        have e1 := IntWalk.i64_in (c + g.2) (by omega)
        have e2 := IntWalk.i64_in ((k : Int) + 1) (by omega)
        have e3 := IntWalk.i64_in (r + 1) (by omega)
        have e4 := IntWalk.i64_in (C - 1) (by omega)
        have hne : ¬ C < c + g.2 := by omega
        have hnr : (r + 1 == r) = false := by simp; omega
        have hlt2 : decide (c + g.2 < C - 1) = false := by simp; omega
        have hlt3 : ¬ (c + g.2 < C - 1) := by omega
        go_wp2
        go_quiet (fail)
        go_wp2
        go_quiet (fail)
        go_wp2
        go_quiet (fail)
        go_wp2
        refine ⟨⟨k + 1, by omega, by go_num, below_drewN hBr _⟩, by simp [intOf]; omega⟩
    · clear hac hg2 hap
      go_wp2_with (go_at_call 17; refine (awake28_any _).mono ?_; rintro e w' ⟨rfl, hB4⟩)
      go_ret
      exact ⟨rfl, below_trans' (below_trans' hB hBr) hB4⟩
end Go.Proofs.Ytokenlecnbploaa
