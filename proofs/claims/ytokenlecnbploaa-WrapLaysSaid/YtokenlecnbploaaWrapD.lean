/- The document's Place, the example, both Tops. -/
import Derived.Test.YtokenlecnbploaaWrapC
namespace Go.Proofs.Ytokenlecnbploaa
open Go.RowKit

theorem Ers : ElemT Try.prog 28 32 2 16 := elemT_of (by kernel_rfl) (z := .agg #[.int .i64 0, .int .i64 0]) (by kernel_rfl) rfl (by decide) (by decide)
theorem range_snoc_map {α β : Type} (f : Nat → α) (enc : α → List β) (k : Nat) : ((List.range (k + 1)).map f).flatMap enc = ((List.range k).map f).flatMap enc ++ enc (f k) := by rw [List.range_succ]; simp

set_option maxRecDepth 100000 in
set_option maxHeartbeats 1000000 in
theorem refPlace_big (v : Value) (l : List Gl) (cols : Int) (w : World) (hR : Rs w.heap.size w genc 2 v l) (hlen : l.length ≤ 1073741824) (hc : 2 ≤ cols) (hcm : cols ≤ 9223372036854775807) (ht : thin l) :
    Calls Try.prog 16 #[v, .int .i64 cols] w fun e w' => ∃ vs, e = .returned vs ∧ Below w.heap.size w w' ∧ w'.ownsRow w.heap.size 32 2 vs (l.length + 1) (((List.range (l.length + 1)).map (itemAt cols l)).flatMap senc) := by
  obtain ⟨a, cap, rfl, hcap, hmax, hxl, hcells⟩ := hR
  unfold maxLen at hmax
  go_enter Try.func16, Try.ntmps16
  go_wp2
  go_loopw [5, 6, 7, 8] (fun vs r c i wr => ∃ k : Nat, k ≤ l.length ∧ i = .int .i64 k ∧ Below w.heap.size w wr ∧ r = .int .i64 (stAt cols l k).1 ∧ c = .int .i64 (stAt cols l k).2 ∧ wr.ownsRow w.heap.size 32 2 vs k (((List.range k).map (itemAt cols l)).flatMap senc)) (fun _ _ _ i _ => l.length - (intOf i).toNat)
  case atStart => exact ⟨0, Nat.zero_le _, rfl, Below.refl _ _, rfl, rfl, World.ownsRow_nil _ _ _ _⟩
  case round =>
    obtain ⟨k, hk, rfl, hB, rfl, rfl, ho⟩ := hrel
    have hBs := hB.size
    obtain ⟨q1, q2, q3, q4, q5⟩ := stAt_bd cols hc l ht k hk
    by_cases hlt : k < l.length
    · obtain ⟨g, hg⟩ : ∃ g, l[k]? = some g := ⟨l[k], by simp [hlt]⟩
      obtain ⟨b, off, rfl, hbl, hcc⟩ := hcells (by omega)
      obtain ⟨w1, w2⟩ := ht g (List.mem_of_getElem? hg)
      have H2 := Lib.hid (flat_cell genc_len hcc hg 1 rfl)
      have hd2 : wr.cell? ⟨b, off + k * 2 + 1, none⟩ = some (.int .i64 g.2) := cell_later hB H2.out
      have hst : stAt cols l (k + 1) = ((place cols (stAt cols l k) (wdAt l k)).1, (place cols (stAt cols l k) (wdAt l k)).2 + wdAt l k) := rfl
      have hit : itemAt cols l k = place cols (stAt cols l k) (wdAt l k) := if_pos hlt
      have hsn := range_snoc_map (itemAt cols l) senc k
      rw [hit] at hsn
      rw [wdAt_of hg] at hst hsn
      generalize stAt cols l k = s at *
      obtain ⟨r, c⟩ := s
      dsimp only at *
      clear hcells hxl hg hcc hit ht
      by_cases hcmp : cols < c + g.2
      all_goals
        first
          | (have hpl : place cols (r, c) g.2 = (r + 1, 0) := if_pos hcmp; rw [hpl] at hst hsn; clear hpl; have hcm2 : cols - c < g.2 := by omega)
          | (have hpl : place cols (r, c) g.2 = (r, c) := if_neg hcmp; rw [hpl] at hst hsn; clear hpl; have hcm2 : ¬ cols - c < g.2 := by omega)
        have HST := Lib.hid hst
        have HSN := Lib.hid hsn
        clear hst hsn hcmp
        first
          | go_wp2_with (at_builtin; refine wpList_app1 _ rfl (.tmp 28) _ _ rfl Ers _ _ _ rfl ho _ _ (senc (r + 1, 0)) rfl (by decide) rfl (senc_one _) (by omega) hB.size ?_; intro g1 cap1 w1 ho1 hg1 hf1; have hB1 := below_app hB hBs ho (Nat.le_refl _) hg1; have hd2' : w1.cell? ⟨b, off + k * 2 + 1, none⟩ = some (.int .i64 g.2) := cell_later hB1 H2.out)
            go_roundw
            case rel =>
              refine ⟨k + 1, by omega, by go_num, hB1, ?_, ?_, ?_⟩
              · rw [HST.out]
              · rw [HST.out]; simp
              · rw [HSN.out]; exact ho1
            case measure => simp [intOf]; omega
          | go_wp2_with (at_builtin; refine wpList_app1 _ rfl (.tmp 28) _ _ rfl Ers _ _ _ rfl ho _ _ (senc (r, c)) rfl (by decide) rfl (senc_one _) (by omega) hB.size ?_; intro g1 cap1 w1 ho1 hg1 hf1; have hB1 := below_app hB hBs ho (Nat.le_refl _) hg1; have hd2' : w1.cell? ⟨b, off + k * 2 + 1, none⟩ = some (.int .i64 g.2) := cell_later hB1 H2.out)
            go_roundw
            case rel =>
              refine ⟨k + 1, by omega, by go_num, hB1, ?_, ?_, ?_⟩
              · rw [HST.out]
              · rw [HST.out]
              · rw [HSN.out]; exact ho1
            case measure => simp [intOf]; omega
    · have hkl : k = l.length := by omega
      subst hkl
      have hsn := range_snoc_map (itemAt cols l) senc l.length
      have hit : itemAt cols l l.length = if cols ≤ (stAt cols l l.length).2 then ((stAt cols l l.length).1 + 1, 0) else stAt cols l l.length := if_neg (by omega)
      rw [hit] at hsn
      clear hcells hxl hit ht
      generalize stAt cols l l.length = s at *
      obtain ⟨r, c⟩ := s
      dsimp only at *
      by_cases hcmp : cols ≤ c
      · rw [if_pos hcmp] at hsn
        have HSN := Lib.hid hsn
        clear hsn
        go_wp2_with (at_builtin; refine wpList_app1 _ rfl (.tmp 46) _ _ rfl Ers _ _ _ rfl ho _ _ (senc (r + 1, 0)) rfl (by decide) rfl (senc_one _) (by omega) hB.size ?_; intro g1 cap1 w1 ho1 hg1 hf1; have hB1 := below_app hB hBs ho (Nat.le_refl _) hg1)
        go_ret
        have hfin := ho1
        rw [← HSN.out] at hfin
        first | exact ⟨_, rfl, hB1, hfin⟩ | exact ⟨_, rfl, hB1, by rw [range_snoc_map] at hfin; exact hfin⟩
      · rw [if_neg hcmp] at hsn
        have HSN := Lib.hid hsn
        clear hsn
        go_wp2_with (at_builtin; refine wpList_app1 _ rfl (.tmp 46) _ _ rfl Ers _ _ _ rfl ho _ _ (senc (r, c)) rfl (by decide) rfl (senc_one _) (by omega) hB.size ?_; intro g1 cap1 w1 ho1 hg1 hf1; have hB1 := below_app hB hBs ho (Nat.le_refl _) hg1)
        go_ret
        have hfin := ho1
        rw [← HSN.out] at hfin
        first | exact ⟨_, rfl, hB1, hfin⟩ | exact ⟨_, rfl, hB1, by rw [range_snoc_map] at hfin; exact hfin⟩

set_option maxRecDepth 100000 in
set_option maxHeartbeats 400000 in
theorem refPlace_small (v : Value) (a : Option Addr) (n cap : Nat) (cols : Int) (w : World) (hv : v = .slice a n cap) (hc : cols < 2) :
    Calls Try.prog 16 #[v, .int .i64 cols] w fun e w' => e = .returned (.slice none 0 0) ∧ w = w' := by
  subst hv
  go_enter Try.func16, Try.ntmps16
  go_wp2
  go_ret
  exact ⟨rfl, rfl⟩

theorem refPlace_any (v : Value) (l : List Gl) (cols : Int) (w : World) (hR : Rs w.heap.size w genc 2 v l) (hlen : l.length ≤ 1073741824) (hcm : cols ≤ 9223372036854775807) (ht : thin l) :
    Calls Try.prog 16 #[v, .int .i64 cols] w fun e w' => ∃ vs, e = .returned vs ∧ Below w.heap.size w w' ∧ w'.ownsRow w.heap.size 32 2 vs (spotsL cols l).length ((spotsL cols l).flatMap senc) := by
  by_cases hc : cols < 2
  · obtain ⟨a, cap, rfl, _⟩ := id hR
    refine (refPlace_small _ a _ cap cols w rfl hc).mono ?_
    rintro e w' ⟨rfl, rfl⟩
    refine ⟨_, rfl, Below.refl _ _, ?_⟩
    have : spotsL cols l = [] := if_pos hc
    rw [this]
    exact World.ownsRow_nil _ _ _ _
  · refine (refPlace_big v l cols w hR hlen (by omega) hcm ht).mono ?_
    rintro e w' ⟨vs, rfl, hb, ho⟩
    have hs : spotsL cols l = (List.range (l.length + 1)).map (itemAt cols l) := if_neg hc
    exact ⟨vs, rfl, hb, by rw [hs]; simpa using ho⟩

def topN (all rows row : Int) : Int := max (min (row - rows / 2) (all - rows)) 0
set_option maxHeartbeats 400000 in
theorem top_any (all rows row : Int) (w : World) (h1 : 1 ≤ all) (h2 : all ≤ 4611686018427387904) (h3 : 1 ≤ rows) (h4 : rows ≤ 1073741824) (h5 : 0 ≤ row) (h6 : row < all) :
    Calls Try.prog 18 #[.int .i64 all, .int .i64 rows, .int .i64 row] w fun e w' => e = .returned (.int .i64 (topN all rows row)) ∧ w = w' := by
  go_enter Try.func18, Try.ntmps18
  go_wp2
  all_goals
    go_ret
    exact ⟨ret_int (by unfold topN; omega), rfl⟩

set_option maxHeartbeats 400000 in
theorem refTop_any (all rows row : Int) (w : World) (h1 : 1 ≤ all) (h2 : all ≤ 4611686018427387904) (h3 : 1 ≤ rows) (h4 : rows ≤ 1073741824) (h5 : 0 ≤ row) (h6 : row < all) :
    Calls Try.prog 19 #[.int .i64 all, .int .i64 rows, .int .i64 row] w fun e w' => e = .returned (.int .i64 (topN all rows row)) ∧ w = w' := by
  go_enter Try.func19, Try.ntmps19
  go_wp2
  all_goals
    go_ret
    exact ⟨ret_int (by unfold topN; omega), rfl⟩
end Go.Proofs.Ytokenlecnbploaa
