/- columns.plan: widths laid into so many rows. -/
import Derived.Test.YtokenlecnbploaaColB
import Derived.Test.YtokenlecnbploaaColP
namespace Go.Proofs.Ytokenlecnbploaa
open Go.RowKit

/-- The two variables of plan: the result's, and p, whose rows are known. -/
structure PlanF (w : World) (rows : Nat) (wr : World) : Prop where
  below : Below w.heap.size w wr
  size : w.heap.size + 2 ≤ wr.heap.size
  r0 : wr.cell? ⟨w.heap.size, 0, none⟩ = some (.int .i64 0)
  r1 : wr.cell? ⟨w.heap.size, 1, none⟩ = some (.slice none 0 0)
  f0 : wr.frozen? ⟨w.heap.size, 0, none⟩ = false
  f1 : wr.frozen? ⟨w.heap.size, 1, none⟩ = false
  p0 : wr.cell? ⟨w.heap.size + 1, 0, none⟩ = some (.int .i64 rows)
  g0 : wr.frozen? ⟨w.heap.size + 1, 0, none⟩ = false
  g1 : wr.frozen? ⟨w.heap.size + 1, 1, none⟩ = false

theorem PlanF.stays {w wr w1 : World} {rows : Nat} (h : PlanF w rows wr) (hb : Below (w.heap.size + 2) wr w1) : PlanF w rows w1 :=
  ⟨h.below.trans (hb.mono (by omega)), Nat.le_trans h.size hb.size, (hb.cell (p := ⟨w.heap.size, 0, none⟩) (by show w.heap.size < _; omega)).trans h.r0, (hb.cell (p := ⟨w.heap.size, 1, none⟩) (by show w.heap.size < _; omega)).trans h.r1,
    (hb.frozen (p := ⟨w.heap.size, 0, none⟩) (by show w.heap.size < _; omega)).trans h.f0, (hb.frozen (p := ⟨w.heap.size, 1, none⟩) (by show w.heap.size < _; omega)).trans h.f1,
    (hb.cell (p := ⟨w.heap.size + 1, 0, none⟩) (by show w.heap.size + 1 < _; omega)).trans h.p0,
    (hb.frozen (p := ⟨w.heap.size + 1, 0, none⟩) (by show w.heap.size + 1 < _; omega)).trans h.g0, (hb.frozen (p := ⟨w.heap.size + 1, 1, none⟩) (by show w.heap.size + 1 < _; omega)).trans h.g1⟩

theorem PlanF.setP {w wr : World} {rows : Nat} (h : PlanF w rows wr) (u : Value) : PlanF w rows (wr.setCell ⟨w.heap.size + 1, 1, none⟩ u) :=
  ⟨h.below.setCell (p := ⟨w.heap.size + 1, 1, none⟩) (by show w.heap.size ≤ w.heap.size + 1; omega) u, by simpa using h.size, (World.cell?_setCell_other _ _ _ _ (by simp)).trans h.r0, (World.cell?_setCell_other _ _ _ _ (by simp)).trans h.r1,
    (World.frozen?_setCell _ _ _ _).trans h.f0, (World.frozen?_setCell _ _ _ _).trans h.f1, (World.cell?_setCell_other _ _ _ _ (by simp)).trans h.p0, (World.frozen?_setCell _ _ _ _).trans h.g0, (World.frozen?_setCell _ _ _ _).trans h.g1⟩

theorem set_ints (zs : List Int) (k : Nat) (z : Int) : (ints zs).set k (.int .i64 z) = ints (zs.set k z) := by unfold ints; rw [List.map_set]

def PlanI (w : World) (rows : Nat) (zs : List Int) (k : Nat) (wr : World) : Prop :=
  PlanF w rows wr ∧ ∃ a cap, wr.cell? ⟨w.heap.size + 1, 1, none⟩ = some (.slice a (planL (zs.take k) rows).length cap) ∧
    wr.ownsRow (w.heap.size + 2) 3 1 (.slice a (planL (zs.take k) rows).length cap) (planL (zs.take k) rows).length (ints (planL (zs.take k) rows))

theorem planI_mk {w W : World} {rows : Nat} {zs M : List Int} {k : Nat} {gb n cap : Nat} (hF : PlanF w rows W) (hc : W.cell? ⟨w.heap.size + 1, 1, none⟩ = some (.slice (some ⟨gb, 0, none⟩) n cap))
    (hn : n = M.length) (ho : W.ownsRow (w.heap.size + 2) 3 1 (.slice (some ⟨gb, 0, none⟩) n cap) n (ints M)) (hM : planL (zs.take k) rows = M) : PlanI w rows zs k W := by
  subst hn
  subst hM
  exact ⟨hF, _, _, hc, ho⟩

/-- p's slice is written, then one of its cells. -/
theorem planI_two {w w1 : World} {rows : Nat} {zs L M : List Int} {k : Nat} {gb n cap q : Nat} {z : Int} {xs : List Value} (hF : PlanF w rows w1) (hsome : (w1.cell? ⟨w.heap.size + 1, 1, none⟩).isSome = true)
    (ho : w1.ownsRow (w.heap.size + 2) 3 1 (.slice (some ⟨gb, 0, none⟩) n cap) n xs) (hn : n = M.length) (hxs : xs = ints L) (hL : L.set q z = M) (hM : planL (zs.take k) rows = M) :
    PlanI w rows zs k ((w1.setCell ⟨w.heap.size + 1, 1, none⟩ (.slice (some ⟨gb, 0, none⟩) n cap)).setCell ⟨gb, q, none⟩ (.int .i64 z)) := by
  have hgb := ho.lt gb rfl
  have ho2 := (ownsRow_setCell_below ho (a := ⟨w.heap.size + 1, 1, none⟩) (by show w.heap.size + 1 < _; omega) (.slice (some ⟨gb, 0, none⟩) n cap)).stored q (.int .i64 z)
  refine planI_mk (M := M) (gb := gb) (cap := cap) ((hF.setP _).stays ((Below.refl _ _).setCell (p := ⟨gb, q, none⟩) hgb.1 _)) ?_ hn ?_ hM
  · rw [World.cell?_setCell_other _ _ _ _ (by intro e; injection e with e1; omega)]
    exact World.cell?_setCell_same' _ _ _ hsome
  · rw [← hL, ← set_ints, ← hxs]
    exact ho2.1

theorem planI_one {w w1 : World} {rows : Nat} {zs M : List Int} {k : Nat} {gb n cap : Nat} {xs : List Value} (hF : PlanF w rows w1) (hsome : (w1.cell? ⟨w.heap.size + 1, 1, none⟩).isSome = true)
    (ho : w1.ownsRow (w.heap.size + 2) 3 1 (.slice (some ⟨gb, 0, none⟩) n cap) n xs) (hn : n = M.length) (hxs : xs = ints M) (hM : planL (zs.take k) rows = M) :
    PlanI w rows zs k (w1.setCell ⟨w.heap.size + 1, 1, none⟩ (.slice (some ⟨gb, 0, none⟩) n cap)) := by
  have ho2 := ownsRow_setCell_below ho (a := ⟨w.heap.size + 1, 1, none⟩) (by show w.heap.size + 1 < _; omega) (.slice (some ⟨gb, 0, none⟩) n cap)
  exact planI_mk (M := M) (hF.setP _) (World.cell?_setCell_same' _ _ _ hsome) hn (by rw [← hxs]; exact ho2) hM

set_option maxRecDepth 100000 in
set_option maxHeartbeats 1000000 in
theorem plan_any (v : Value) (zs : List Int) (rows : Nat) (w : World) (hR : Ri w.heap.size w v zs) (hlen : zs.length ≤ 1048576) (hr : 0 < rows) (hr2 : rows ≤ 1048576) (hz : ∀ z ∈ zs, 0 ≤ z) :
    Calls Try.prog 48 #[v, .int .i64 rows] w fun e w' => ∃ vw, e = .returned (.agg #[.int .i64 rows, vw]) ∧ Below w.heap.size w w' ∧ w'.ownsRow w.heap.size 3 1 vw (planL zs rows).length (ints (planL zs rows)) := by
  obtain ⟨a, cap, rfl, hcap, hmax, hxl, hcells⟩ := hR
  unfold maxLen at hmax
  clear hxl
  go_enter Try.func48, Try.ntmps48
  go_wp2
  go_loopw [13] (fun i wr => ∃ k : Nat, k ≤ zs.length ∧ i = .int .i64 k ∧ PlanI w rows zs k wr) (fun i _ => zs.length - (intOf i).toNat)
  case atStart =>
    refine ⟨0, Nat.zero_le _, rfl, ⟨((Below.refl _ w).alloc (Nat.le_refl _) _).alloc (by simp) _, by simp, by go_simp, by go_simp, by go_simp, by go_simp, by go_simp, by go_simp, by go_simp⟩, ?_⟩
    have h0 : planL (zs.take 0) rows = [] := by
      unfold planL
      have : (([] : List Int).length + rows - 1) / rows = 0 := Nat.div_eq_of_lt (by simp; omega)
      simp only [List.take_zero, this, List.range_zero, List.map_nil]
    rw [h0]
    exact ⟨none, 0, by go_simp, World.ownsRow_nil _ _ _ _⟩
  case round =>
    obtain ⟨k, hk, rfl, hF, ap, capp, p1, ho⟩ := hrel
    obtain ⟨q, hq⟩ : ∃ q, q = k / rows := ⟨_, rfl⟩
    have hqk : q ≤ k := by rw [hq]; exact Nat.div_le_self _ _
    have hqi : (k : Int) / (rows : Int) = (q : Int) := by rw [hq]; rfl
    by_cases hlt : k < zs.length
    · obtain ⟨z, hzk⟩ : ∃ z, zs[k]? = some z := ⟨zs[k], by simp [hlt]⟩
      obtain ⟨b, off, rfl, hbl, hc⟩ := hcells (by omega)
      have hd : wr.cell? ⟨b, off + k, none⟩ = some (.int .i64 z) := cell_later hF.below (hc _ _ (ints_get hzk))
      have hz0 := hz z (List.mem_of_getElem? hzk)
      have hts := take_snoc' hzk
      have htl : (zs.take k).length = k := by simp; omega
      have hsz := hF.size
      by_cases hm : k % rows = 0
      · have hnew := planL_new (zs.take k) z rows hr (by rw [htl]; exact hm)
        rw [htl, ← hts, ← hq] at hnew
        obtain ⟨hn1, hn2⟩ := hnew
        have hmb : ((k : Int) % (rows : Int) == 0) = true := by simp; omega
        rw [hn2] at p1 ho
        obtain ⟨L, hL⟩ : ∃ L, L = planL (zs.take k) rows := ⟨_, rfl⟩
        rw [← hL] at ho hn1 hn2
        have HN := Lib.hid hn1
        have HL := Lib.hid hn2
        clear hn1 hn2 hL hc hcells hzk hz hts htl hm hq
        by_cases hcmp : 0 < z
        all_goals
          obtain ⟨g0, g1⟩ := (⟨hF.g0, hF.g1⟩ : _ ∧ _)
          go_wp2_with (at_builtin; refine wpList_app1 _ rfl (.tmp 23) _ _ rfl Ei _ _ _ rfl ho _ _ [.int .i64 0] rfl (by decide) rfl (one_int _) (by omega) hsz ?_; intro gb cap1 w1 ho1 hg1 hf1; have hb1 := below_app (Below.refl _ wr) hsz ho (Nat.le_refl _) hg1; have hF1 := hF.stays hb1; obtain ⟨g2, g3, p2, p3⟩ := (⟨hF1.g0, hF1.g1, (hb1.cell (p := ⟨w.heap.size + 1, 1, none⟩) (by show w.heap.size + 1 < _; omega)).trans p1, hF1.p0⟩ : _ ∧ _ ∧ _ ∧ _); have hlt1 := ho1.lt gb rfl; have c1 : w1.cell? ⟨gb, q, none⟩ = some (.int .i64 0) := (ho1.cellAt q (by omega)).trans (by rw [List.getElem?_append_right (by rw [ints_len, HL.out]; exact Nat.le_refl _)]; simp [ints_len, HL.out]); have c2 := ho1.frozenAt q; have hne : ¬ gb = w.heap.size + 1 := by omega)
        · refine ⟨⟨k + 1, by omega, by go_num, planI_two (L := L ++ [0]) hF1 (by rw [p2]; rfl) ho1 (by simp [HL.out]) (by rw [ints_snoc]) ?_ HN.out⟩, by simp [intOf]; omega⟩
          rw [List.set_append_right _ _ (by rw [HL.out]; exact Nat.le_refl _), HL.out, Nat.sub_self]
          simp; omega
        · refine ⟨⟨k + 1, by omega, by go_num, planI_one hF1 (by rw [p2]; rfl) ho1 (by simp [HL.out]) ?_ HN.out⟩, by simp [intOf]; omega⟩
          have : max 0 z = 0 := by omega
          rw [this, ints_snoc]
      · have hold := planL_old (zs.take k) z rows hr (by rw [htl]; exact hm)
        rw [htl, ← hts, ← hq] at hold
        obtain ⟨x, hx1, hx2⟩ := hold
        have hmb : ((k : Int) % (rows : Int) == 0) = false := by simp; omega
        generalize planL (zs.take k) rows = L at *
        have hql := (List.getElem?_eq_some_iff.1 hx1).1
        obtain ⟨gb, cap1, hv, hgb⟩ := ownBlock_of_owns ho (by omega)
        rw [hv] at p1 ho
        have c1 : wr.cell? ⟨gb, q, none⟩ = some (.int .i64 x) := (ho.cellAt q (by omega)).trans (ints_get hx1)
        have c2 := ho.frozenAt q
        have hlt1 := ho.lt gb rfl
        have hne : ¬ gb = w.heap.size + 1 := by omega
        have HN := Lib.hid hx2
        have HX := Lib.hid hx1
        clear hx1 hx2 hv hc hcells hzk hz hts htl hm hq
        by_cases hcmp : x < z
        · have HM := Lib.hid (show max x z = z by omega)
          obtain ⟨g0, g1⟩ := (⟨hF.g0, hF.g1⟩ : _ ∧ _)
          go_wp2
          refine ⟨⟨k + 1, by omega, by go_num, planI_mk (M := L.set q (max x z)) (gb := gb) (n := L.length) (cap := cap1) (hF.stays ((Below.refl _ _).setCell (p := ⟨gb, q, none⟩) hlt1.1 _)) ?_ (by simp) ?_ HN.out⟩, by simp [intOf]; omega⟩
          · rw [World.cell?_setCell_other _ _ _ _ (by intro e; injection e with e1; omega)]; exact p1
          · rw [HM.out, ← set_ints]
            exact (ho.stored q _).1
        · have HM := Lib.hid (show max x z = x by omega)
          obtain ⟨g0, g1⟩ := (⟨hF.g0, hF.g1⟩ : _ ∧ _)
          go_wp2
          refine ⟨⟨k + 1, by omega, by go_num, planI_mk (M := L.set q (max x z)) (gb := gb) (n := L.length) (cap := cap1) hF p1 (by simp) ?_ HN.out⟩, by simp [intOf]; omega⟩
          rw [HM.out]
          have : L.set q x = L := by
            refine List.ext_getElem? fun j => ?_
            by_cases hj : q = j
            · subst hj; rw [List.getElem?_set_self hql, HX.out]
            · rw [List.getElem?_set_ne hj]
          rw [this]
          exact ho
    · have hkl : k = zs.length := by omega
      subst hkl
      rw [List.take_length] at p1 ho
      clear hcells hq hqi
      obtain ⟨g0, g1, r0, r1, f0, f1, p0⟩ := (⟨hF.g0, hF.g1, hF.r0, hF.r1, hF.f0, hF.f1, hF.p0⟩ : _ ∧ _ ∧ _ ∧ _ ∧ _ ∧ _ ∧ _)
      obtain ⟨L, hL⟩ : ∃ L, L = planL zs rows := ⟨_, rfl⟩
      rw [← hL] at p1 ho
      have HL := Lib.hid hL
      have HO := Lib.hid ho
      clear ho hL
      go_wp2
      refine bodyPost_ret (v := .agg #[.int .i64 rows, .slice ap L.length capp]) (by simp [results, Try.results48, go_sem, r0, r1]) rfl ⟨_, rfl, (hF.below.setCell (p := ⟨w.heap.size, 0, none⟩) (Nat.le_refl _) _).setCell (p := ⟨w.heap.size, 1, none⟩) (Nat.le_refl _) _, ?_⟩
      have o1 := ownsRow_setCell_below HO.out (a := ⟨w.heap.size, 0, none⟩) (show w.heap.size < w.heap.size + 2 by omega) (.int .i64 rows)
      have o2 := ownsRow_setCell_below o1 (a := ⟨w.heap.size, 1, none⟩) (show w.heap.size < w.heap.size + 2 by omega) (.slice ap L.length capp)
      rw [← HL.out]
      exact owns_mono (base := w.heap.size + 2) o2 (show w.heap.size ≤ w.heap.size + 2 by omega)
end Go.Proofs.Ytokenlecnbploaa
