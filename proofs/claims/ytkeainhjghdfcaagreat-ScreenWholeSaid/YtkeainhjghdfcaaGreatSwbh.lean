/- Joined texts: GlyJ GlyK GlyL LineO GlyN UnitP CurA ScrA ScrB CatS ScrF ScrC LineQ ScrD BlkG. -/
import Derived.Deep.QuietTactic
import Derived.BigQuiet
import Derived.Laws.StructEq
import Derived.Laws.Concat
import Derived.Test.YtkeainhjghdfcaaGreatSwbg
import Derived.Test.YtkeainhjghdfcaaGreatSwbd
import Derived.Test.YtkeainhjghdfcaaGreatSwbe
import Derived.Test.YtkeainhjghdfcaaGreatSwaa
import Derived.Test.YtkeainhjghdfcaaGreatSwae
import Derived.Test.YtkeainhjghdfcaaGreatSwab
import Derived.Test.YtkeainhjghdfcaaGreatSwac

/- Are two lists of glyphs the same? Chapter 13's facts. -/
namespace Go.Proofs.YtkeainhjghdfcaaGreat
open Go.RowKit

theorem gly_cells {w : World} {v : Value} {l : List Gy} (h : GlyIn w v l) {k : Nat} {x : Gy} (hx : l[k]? = some x) : ∃ b off cap, v = .slice (some ⟨b, off, none⟩) l.length cap ∧ l.length ≤ cap ∧ cap ≤ maxLen ∧ b < w.heap.size ∧ w.cell? ⟨b, off + k * 2, none⟩ = some (.string x.1) ∧ w.cell? ⟨b, off + k * 2 + 1, none⟩ = some (.int .i64 x.2) := by
  obtain ⟨a, cap, rfl, h1, h2, _, h4⟩ := h
  have hk := (List.getElem?_eq_some_iff.1 hx).1
  obtain ⟨b, off, rfl, hb, hc⟩ := h4 (by omega)
  refine ⟨b, off, cap, rfl, h1, h2, hb, ?_, ?_⟩
  · have := hc (k * 2 + 0) _ (flat_get gyE_len l k x 0 (.string x.1) hx rfl)
    simpa using this
  · exact hc (k * 2 + 1) _ (flat_get gyE_len l k x 1 (.int .i64 x.2) hx rfl)
theorem gly_shape {w : World} {v : Value} {l : List Gy} (h : GlyIn w v l) : ∃ a cap, v = .slice a l.length cap ∧ l.length ≤ cap ∧ cap ≤ maxLen := by
  obtain ⟨a, cap, hv, h1, h2, _⟩ := h
  exact ⟨a, cap, hv, h1, h2⟩
end Go.Proofs.YtkeainhjghdfcaaGreat

/- glyph.Line. -/
namespace Go.Proofs.YtkeainhjghdfcaaGreat
open Go.RowKit

/-- rows of two types lie apart -/
theorem sep_types {w : World} {b1 b2 e1 e2 s1 s2 n1 n2 : Nat} {v u : Value} {xs ys : List Value} (h : w.ownsRow b1 e1 s1 v n1 xs) (k : w.ownsRow b2 e2 s2 u n2 ys) (he : e1 ≠ e2) : Sep v u := by
  rcases h.2 with ⟨rfl, _⟩ | ⟨g, cap, cur, rfl, _, hg, _⟩
  · exact .inl rfl
  · rcases k.2 with ⟨rfl, _⟩ | ⟨g', cap', cur', rfl, _, hg', _⟩
    · exact .inr (by simp [Value.ownBlock])
    · refine .inr fun e => he ?_
      have e' : g = g' := by simpa [Value.ownBlock] using e
      subst e'
      rw [hg] at hg'
      cases hg'
      rfl
theorem owns_kept_types {w w' : World} {b1 b2 e1 e2 s1 s2 n1 n2 : Nat} {v u : Value} {xs ys : List Value} (h : w.ownsRow b1 e1 s1 v n1 xs) (k : w.ownsRow b2 e2 s2 u n2 ys) (he : e1 ≠ e2) (hg : w.grownBy w' v.ownBlock) : w'.ownsRow b2 e2 s2 u n2 ys :=
  k.kept hg (by rcases (sep_types h k he).symm with h | h; exact .inl h; exact .inr h)
def atsL (R : List Rw) (LL : List (List Int)) (k : Nat) : List Nat := (List.range k).map (aheadG R LL)
theorem atsL_succ (R : List Rw) (LL : List (List Int)) (k : Nat) : atsL R LL (k + 1) = atsL R LL k ++ [aheadG R LL k] := by
  unfold atsL; rw [List.range_succ, List.map_append]; rfl
theorem atsL_len (R : List Rw) (LL : List (List Int)) (k : Nat) : (atsL R LL k).length = k := by simp [atsL]
theorem atsL_get {R : List Rw} {LL : List (List Int)} {n k : Nat} (h : k < n) : (atsL R LL n)[k]? = some (aheadG R LL k) := by
  unfold atsL; rw [List.getElem?_map, List.getElem?_range h]; rfl
theorem lineG_le (R : List Rw) : ∀ LL : List (List Int), (lineG R LL).length ≤ 2 * LL.flatten.length
  | [] => by simp [lineG]
  | c :: LL => by
    have h1 := lineG_le R LL
    have h2 := glOf_le R c
    have e : lineG R (c :: LL) = glOf R c ++ lineG R LL := rfl
    rw [e, List.length_append, List.flatten_cons, List.length_append]
    omega
theorem clus_flat (T : Tab) : ∀ (n : Nat) (s : List Int), s.length ≤ n → (clus T s).flatten = s
  | 0, s, h => by
    have : s = [] := List.eq_nil_of_length_eq_zero (by omega)
    subst this; rfl
  | n + 1, s, h => by
    by_cases hs : s = []
    · subst hs; rfl
    · have hp := nx_pos T hs
      rw [clus_step T hs, List.flatten_cons, clus_flat T n _ (by rw [List.length_drop]; have := List.length_pos_iff.2 hs; omega), List.take_append_drop]
theorem clus_ne (T : Tab) : ∀ (n : Nat) (s : List Int), s.length ≤ n → ∀ c ∈ clus T s, c ≠ [] ∧ c.length ≤ s.length
  | 0, s, h => by
    have : s = [] := List.eq_nil_of_length_eq_zero (by omega)
    subst this; intro c hc; simp [clus_nil] at hc
  | n + 1, s, h => by
    by_cases hs : s = []
    · subst hs; intro c hc; simp [clus_nil] at hc
    · have hp := nx_pos T hs
      have hl := List.length_pos_iff.2 hs
      rw [clus_step T hs]
      intro c hc
      rcases List.mem_cons.1 hc with rfl | hc
      · refine ⟨fun e => ?_, by rw [List.length_take]; omega⟩
        have h1 : (s.take (nx T s)).length = 0 := by rw [e]; rfl
        rw [List.length_take] at h1
        omega
      · have := clus_ne T n (s.drop (nx T s)) (by rw [List.length_drop]; omega) c hc
        exact ⟨this.1, by have h2 := this.2; rw [List.length_drop] at h2; omega⟩
theorem clus_mem (T : Tab) : ∀ (n : Nat) (s : List Int), s.length ≤ n → ∀ c ∈ clus T s, ∀ x ∈ c, x ∈ s := by
  intro n s h c hc x hx
  rw [← clus_flat T n s h]
  exact List.mem_flatten.2 ⟨c, hc, hx⟩
theorem lineG_take_le (R : List Rw) (s : List Int) (k : Nat) : (lineG R ((clus (tabOf R) s).take k)).length ≤ 2 * s.length := by
  have h := lineG_le R (clus (tabOf R) s)
  rw [clus_flat (tabOf R) s.length s (Nat.le_refl _)] at h
  have : lineG R (clus (tabOf R) s) = lineG R ((clus (tabOf R) s).take k) ++ lineG R ((clus (tabOf R) s).drop k) := by
    unfold lineG; rw [← List.flatMap_append, List.take_append_drop]
  rw [this, List.length_append] at h
  omega
section
variable {R : List Rw} {s : List Int} {w : World} {v sv : Value} {tp : Nat}
set_option maxRecDepth 100000 in
set_option maxHeartbeats 2000000 in
theorem line_any (hT : Tb R w tp) (hs : RunesIn w sv s) (ok : RunesOk s) (hl : s.length ≤ 900000) :
    Calls Tryz.prog 59 #[.pointer (some ⟨tp, 0, none⟩), sv] w fun e w' => ∃ u a, e = .returned (.tuple #[u, a]) ∧ Below w.heap.size w w' ∧ GlyIn w' u (lineG R (clus (tabOf R) s)) ∧ IntsIn w' a (atsL R (clus (tabOf R) s) ((clus (tabOf R) s).length + 1)) := by
  have HT := Lib.hid hT
  have HS := Lib.hid hs
  have HOk := Lib.hid ok
  have HCl := Lib.hid (fun (W : World) (h1 : Tb R W tp) (h2 : RunesIn W sv s) => clusters_any h1 h2 ok (by omega))
  have HNe := Lib.hid (clus_ne (tabOf R) s.length s (Nat.le_refl _))
  have HMem := Lib.hid (clus_mem (tabOf R) s.length s (Nat.le_refl _))
  have HTk := Lib.hid (lineG_take_le R s)
  have hLl : (clus (tabOf R) s).length ≤ s.length := clusN_len (tabOf R) s.length s
  generalize clus (tabOf R) s = LL at HCl HNe HMem HTk hLl ⊢
  obtain ⟨sl, cap, rfl, hcap, hmax, _⟩ := runes_cells hs
  unfold maxLen at hmax
  clear hT hs ok
  go_enter Tryz.func59, Tryz.ntmps59
  go_wp2_with fail
  refine (HCl.out w HT.out HS.out).mono ?_
  rintro e w1 ⟨tu, rfl, hB1, hX1⟩
  have HB1 := Lib.hid hB1
  have HX := Lib.hid hX1
  have HT1 := Lib.hid (HT.out.below hB1)
  obtain ⟨ta, tcap, rfl, ht1, ht2⟩ := texts_shape hX1
  unfold maxLen at ht2
  clear hB1 hX1 HCl HT HS
  go_wp2_with fail
  go_loopw [6, 7, 14] (fun ov av iv wr => ∃ (k : Nat) (G : List Gy) (A : List Nat), k ≤ LL.length ∧ iv = .int .i64 ((k : Nat) : Int) ∧ Below w1.heap.size w1 wr ∧ wr.ownsRow w1.heap.size 97 2 ov G.length (G.flatMap gyE) ∧ wr.ownsRow w1.heap.size 3 1 av A.length (A.flatMap nE) ∧ G = lineG R (LL.take k) ∧ A = atsL R LL k) (fun _ _ iv _ => LL.length - (intOf iv).toNat)
  case atStart => exact ⟨0, [], [], Nat.zero_le _, rfl, .refl _ _, World.ownsRow_nil _ _ _ _, World.ownsRow_nil _ _ _ _, rfl, rfl⟩
  case round =>
    obtain ⟨k, G, A, hk, rfl, hB, hO, hA, hG, hAt⟩ := hrel
    have HB := Lib.hid hB
    have HG := Lib.hid hG
    have HAt := Lib.hid hAt
    have hAl : A.length = k := by rw [hAt, atsL_len]
    have hGl : G.length ≤ 2 * s.length := by rw [hG]; exact HTk.out k
    obtain ⟨pa, pc, rfl⟩ := slice_of_owns hO
    obtain ⟨qa, qc, rfl⟩ := slice_of_owns hA
    have HO := Lib.hid hO
    have HA := Lib.hid hA
    have hbs := HB.out.size
    clear hB hO hA hG hAt
    by_cases hlt : k < LL.length
    · obtain ⟨c, hc⟩ : ∃ c, LL[k]? = some c := ⟨LL[k], List.getElem?_eq_getElem hlt⟩
      have hcm := List.mem_of_getElem? hc
      have HC := Lib.hid hc
      have hcl := (HNe.out c hcm).2
      have HOkc := Lib.hid (show RunesOk c from fun x hx => HOk.out x (HMem.out c hcm x hx))
      obtain ⟨b, off, cp, cu, hv, _, _, _, _, d00, hcu⟩ := texts_cell HX.out hc
      cases hv
      have d0 := cell_later HB.out d00
      have HCu := Lib.hid hcu
      have hbig : (A.length + 1) * 8 ≤ 140737488355328 := by omega
      have hgl2 := glOf_le R c
      have hbig2 : (G.length + (glOf R c).length) * 24 ≤ 140737488355328 := by omega
      obtain ⟨ca, ccap, rfl, _, _, _⟩ := runes_cells hcu
      clear hc hcm hcu d00
      go_wp2_with (at_builtin; go_loud (refine wpList_app1 _ rfl (.tmp 18) (.tmp 21) _ rfl EI _ _ _ rfl HA.out 1 1 (nE G.length) rfl (by decide) rfl (nE_one _) hbig hbs ?_); intro g cp7 w7 ho7 hg7 hf7; have HB7 := Lib.hid (below_app HB.out hbs HA.out (Nat.le_refl _) hg7); have HA7 := Lib.hid ho7; have HO7 := Lib.hid (owns_kept_types HA.out HO.out (by decide) hg7); clear ho7 hg7 hf7)
      refine (gof_any (HT1.out.below HB7.out) (HCu.out.below HB7.out) HOkc.out (by omega)).mono ?_
      rintro e w8 ⟨u8, rfl, hB8, hI8⟩
      have HB8 := Lib.hid (HB7.out.trans (hB8.mono HB7.out.size))
      have HA8 := Lib.hid (owns_stays HA7.out hB8)
      have HO8 := Lib.hid (owns_stays HO7.out hB8)
      have HI8 := Lib.hid hI8
      have hbs8 := HB8.out.size
      have HGn := Lib.hid (show G ++ glOf R c = lineG R (LL.take (k + 1)) by rw [List.take_add_one, HC.out, HG.out]; exact (lineG_snoc R (LL.take k) c).symm)
      have HAn := Lib.hid (show A ++ [G.length] = atsL R LL (k + 1) by rw [atsL_succ, HAt.out, HG.out]; rfl)
      clear hB8 hI8 HA7 HO7 HB7 HA HO HB d0
      go_wp2_with (at_builtin; go_loud (refine wpList_app_rd _ rfl (.tmp 23) (.tmp 26) _ rfl EG _ _ _ rfl HO8.out _ _ _ rfl HI8.out (gyE_ones _) hbig2 hbs8 ?_); intro v9 w9 ho9 hg9; have HB9 := Lib.hid (below_app HB8.out hbs8 HO8.out (Nat.le_refl _) hg9); have HA9 := Lib.hid (owns_kept_types HO8.out HA8.out (by decide) hg9); have HO9 := Lib.hid ho9; clear ho9 hg9)
      go_roundw
      case rel => exact ⟨k + 1, G ++ glOf R c, A ++ [G.length], by omega, by go_num, HB9.out, by rw [List.length_append, List.flatMap_append]; exact HO9.out, by rw [List.length_append, flat_snoc]; have h := HA9.out; rw [hAl] at h ⊢; exact h, HGn.out, HAn.out⟩
      case measure => simp [intOf] <;> omega
    · have hke : k = LL.length := by omega
      subst hke
      rw [List.take_length] at HG
      have hbig : (A.length + 1) * 8 ≤ 140737488355328 := by omega
      have HAn := Lib.hid (show A ++ [G.length] = atsL R LL (LL.length + 1) by rw [atsL_succ, HAt.out, aheadG_end, HG.out])
      clear hlt hk
      go_wp2_with (at_builtin; go_loud (refine wpList_app1 _ rfl (.tmp 30) (.tmp 33) _ rfl EI _ _ _ rfl HA.out 1 1 (nE G.length) rfl (by decide) rfl (nE_one _) hbig hbs ?_); intro g cp7 w7 ho7 hg7 hf7; have HB7 := Lib.hid (below_app HB.out hbs HA.out (Nat.le_refl _) hg7); have HA7 := Lib.hid ho7; have HO7 := Lib.hid (owns_kept_types HA.out HO.out (by decide) hg7); clear ho7 hg7 hf7)
      go_ret2
      exact ⟨_, _, rfl, below_trans' HB1.out HB7.out, by rw [← HG.out]; exact gly_of_owns HO7.out, by
        rw [← HAn.out]
        exact ints_of_owns (base := w1.heap.size) (e := 3) (by rw [List.length_append, flat_snoc]; have h := HA7.out; rw [hAl] at h ⊢; exact h)⟩
end
end Go.Proofs.YtkeainhjghdfcaaGreat

/- glyph.Line: who owns what it tells. -/
namespace Go.Proofs.YtkeainhjghdfcaaGreat
open Go.RowKit

section
variable {R : List Rw} {s : List Int} {w : World} {v sv : Value} {tp : Nat}
set_option maxRecDepth 100000 in
set_option maxHeartbeats 2000000 in
theorem line_own (hT : Tb R w tp) (hs : RunesIn w sv s) (ok : RunesOk s) (hl : s.length ≤ 900000) :
    Calls Tryz.prog 59 #[.pointer (some ⟨tp, 0, none⟩), sv] w fun e w' => ∃ u a, e = .returned (.tuple #[u, a]) ∧ Below w.heap.size w w' ∧ w'.ownsRow w.heap.size 97 2 u (lineG R (clus (tabOf R) s)).length ((lineG R (clus (tabOf R) s)).flatMap gyE) ∧ w'.ownsRow w.heap.size 3 1 a (atsL R (clus (tabOf R) s) ((clus (tabOf R) s).length + 1)).length ((atsL R (clus (tabOf R) s) ((clus (tabOf R) s).length + 1)).flatMap nE) := by
  have HT := Lib.hid hT
  have HS := Lib.hid hs
  have HOk := Lib.hid ok
  have HCl := Lib.hid (fun (W : World) (h1 : Tb R W tp) (h2 : RunesIn W sv s) => clusters_any h1 h2 ok (by omega))
  have HNe := Lib.hid (clus_ne (tabOf R) s.length s (Nat.le_refl _))
  have HMem := Lib.hid (clus_mem (tabOf R) s.length s (Nat.le_refl _))
  have HTk := Lib.hid (lineG_take_le R s)
  have hLl : (clus (tabOf R) s).length ≤ s.length := clusN_len (tabOf R) s.length s
  generalize clus (tabOf R) s = LL at HCl HNe HMem HTk hLl ⊢
  obtain ⟨sl, cap, rfl, hcap, hmax, _⟩ := runes_cells hs
  unfold maxLen at hmax
  clear hT hs ok
  go_enter Tryz.func59, Tryz.ntmps59
  go_wp2_with fail
  refine (HCl.out w HT.out HS.out).mono ?_
  rintro e w1 ⟨tu, rfl, hB1, hX1⟩
  have HB1 := Lib.hid hB1
  have HX := Lib.hid hX1
  have HT1 := Lib.hid (HT.out.below hB1)
  obtain ⟨ta, tcap, rfl, ht1, ht2⟩ := texts_shape hX1
  unfold maxLen at ht2
  clear hB1 hX1 HCl HT HS
  go_wp2_with fail
  go_loopw [6, 7, 14] (fun ov av iv wr => ∃ (k : Nat) (G : List Gy) (A : List Nat), k ≤ LL.length ∧ iv = .int .i64 ((k : Nat) : Int) ∧ Below w1.heap.size w1 wr ∧ wr.ownsRow w1.heap.size 97 2 ov G.length (G.flatMap gyE) ∧ wr.ownsRow w1.heap.size 3 1 av A.length (A.flatMap nE) ∧ G = lineG R (LL.take k) ∧ A = atsL R LL k) (fun _ _ iv _ => LL.length - (intOf iv).toNat)
  case atStart => exact ⟨0, [], [], Nat.zero_le _, rfl, .refl _ _, World.ownsRow_nil _ _ _ _, World.ownsRow_nil _ _ _ _, rfl, rfl⟩
  case round =>
    obtain ⟨k, G, A, hk, rfl, hB, hO, hA, hG, hAt⟩ := hrel
    have HB := Lib.hid hB
    have HG := Lib.hid hG
    have HAt := Lib.hid hAt
    have hAl : A.length = k := by rw [hAt, atsL_len]
    have hGl : G.length ≤ 2 * s.length := by rw [hG]; exact HTk.out k
    obtain ⟨pa, pc, rfl⟩ := slice_of_owns hO
    obtain ⟨qa, qc, rfl⟩ := slice_of_owns hA
    have HO := Lib.hid hO
    have HA := Lib.hid hA
    have hbs := HB.out.size
    clear hB hO hA hG hAt
    by_cases hlt : k < LL.length
    · obtain ⟨c, hc⟩ : ∃ c, LL[k]? = some c := ⟨LL[k], List.getElem?_eq_getElem hlt⟩
      have hcm := List.mem_of_getElem? hc
      have HC := Lib.hid hc
      have hcl := (HNe.out c hcm).2
      have HOkc := Lib.hid (show RunesOk c from fun x hx => HOk.out x (HMem.out c hcm x hx))
      obtain ⟨b, off, cp, cu, hv, _, _, _, _, d00, hcu⟩ := texts_cell HX.out hc
      cases hv
      have d0 := cell_later HB.out d00
      have HCu := Lib.hid hcu
      have hbig : (A.length + 1) * 8 ≤ 140737488355328 := by omega
      have hgl2 := glOf_le R c
      have hbig2 : (G.length + (glOf R c).length) * 24 ≤ 140737488355328 := by omega
      obtain ⟨ca, ccap, rfl, _, _, _⟩ := runes_cells hcu
      clear hc hcm hcu d00
      go_wp2_with (at_builtin; go_loud (refine wpList_app1 _ rfl (.tmp 18) (.tmp 21) _ rfl EI _ _ _ rfl HA.out 1 1 (nE G.length) rfl (by decide) rfl (nE_one _) hbig hbs ?_); intro g cp7 w7 ho7 hg7 hf7; have HB7 := Lib.hid (below_app HB.out hbs HA.out (Nat.le_refl _) hg7); have HA7 := Lib.hid ho7; have HO7 := Lib.hid (owns_kept_types HA.out HO.out (by decide) hg7); clear ho7 hg7 hf7)
      refine (gof_any (HT1.out.below HB7.out) (HCu.out.below HB7.out) HOkc.out (by omega)).mono ?_
      rintro e w8 ⟨u8, rfl, hB8, hI8⟩
      have HB8 := Lib.hid (HB7.out.trans (hB8.mono HB7.out.size))
      have HA8 := Lib.hid (owns_stays HA7.out hB8)
      have HO8 := Lib.hid (owns_stays HO7.out hB8)
      have HI8 := Lib.hid hI8
      have hbs8 := HB8.out.size
      have HGn := Lib.hid (show G ++ glOf R c = lineG R (LL.take (k + 1)) by rw [List.take_add_one, HC.out, HG.out]; exact (lineG_snoc R (LL.take k) c).symm)
      have HAn := Lib.hid (show A ++ [G.length] = atsL R LL (k + 1) by rw [atsL_succ, HAt.out, HG.out]; rfl)
      clear hB8 hI8 HA7 HO7 HB7 HA HO HB d0
      go_wp2_with (at_builtin; go_loud (refine wpList_app_rd _ rfl (.tmp 23) (.tmp 26) _ rfl EG _ _ _ rfl HO8.out _ _ _ rfl HI8.out (gyE_ones _) hbig2 hbs8 ?_); intro v9 w9 ho9 hg9; have HB9 := Lib.hid (below_app HB8.out hbs8 HO8.out (Nat.le_refl _) hg9); have HA9 := Lib.hid (owns_kept_types HO8.out HA8.out (by decide) hg9); have HO9 := Lib.hid ho9; clear ho9 hg9)
      go_roundw
      case rel => exact ⟨k + 1, G ++ glOf R c, A ++ [G.length], by omega, by go_num, HB9.out, by rw [List.length_append, List.flatMap_append]; exact HO9.out, by rw [List.length_append, flat_snoc]; have h := HA9.out; rw [hAl] at h ⊢; exact h, HGn.out, HAn.out⟩
      case measure => simp [intOf] <;> omega
    · have hke : k = LL.length := by omega
      subst hke
      rw [List.take_length] at HG
      have hbig : (A.length + 1) * 8 ≤ 140737488355328 := by omega
      have HAn := Lib.hid (show A ++ [G.length] = atsL R LL (LL.length + 1) by rw [atsL_succ, HAt.out, aheadG_end, HG.out])
      clear hlt hk
      go_wp2_with (at_builtin; go_loud (refine wpList_app1 _ rfl (.tmp 30) (.tmp 33) _ rfl EI _ _ _ rfl HA.out 1 1 (nE G.length) rfl (by decide) rfl (nE_one _) hbig hbs ?_); intro g cp7 w7 ho7 hg7 hf7; have HB7 := Lib.hid (below_app HB.out hbs HA.out (Nat.le_refl _) hg7); have HA7 := Lib.hid ho7; have HO7 := Lib.hid (owns_kept_types HA.out HO.out (by decide) hg7); clear ho7 hg7 hf7)
      go_ret2
      exact ⟨_, _, rfl, below_trans' HB1.out HB7.out, by rw [← HG.out]; exact owns_lower HO7.out HB1.out.size, by
        rw [← HAn.out]
        exact owns_lower (by rw [List.length_append, flat_snoc]; have h := HA7.out; rw [hAl] at h ⊢; exact h) HB1.out.size⟩
end
end Go.Proofs.YtkeainhjghdfcaaGreat

/- The document's Line; a line's columns and bytes. -/
namespace Go.Proofs.YtkeainhjghdfcaaGreat
open Go.RowKit

/-- a glyphs' bytes, and columns, all together -/
def szG (L : List Gy) : Nat := (L.map (fun g => g.1.size)).sum
theorem szG_app (a b : List Gy) : szG (a ++ b) = szG a + szG b := by unfold szG; rw [List.map_append, List.sum_append]
theorem szG_one (g : Gy) : szG [g] = g.1.size := by simp [szG]
theorem take_snoc {L : List Gy} {k : Nat} {x : Gy} (h : L[k]? = some x) : L.take (k + 1) = L.take k ++ [x] := by rw [List.take_add_one, h]; rfl
theorem szG_take (L : List Gy) (k : Nat) : szG (L.take k) ≤ szG L := by
  have : szG L = szG (L.take k) + szG (L.drop k) := by rw [← szG_app, List.take_append_drop]
  omega
section
variable {R : List Rw} {s : List Int} {w : World} {v sv : Value} {tp : Nat}
set_option maxRecDepth 100000 in
set_option maxHeartbeats 2000000 in
theorem rline_any (H : (tabOf R).Ok) (hR : RowsIn w v R) (hs : RunesIn w sv s) (ok : RunesOk s) (hl : s.length ≤ 900000) :
    Calls Tryz.prog 30 #[v, sv] w fun e w' => ∃ u a, e = .returned (.tuple #[u, a]) ∧ Below w.heap.size w w' ∧ GlyIn w' u (lineG R (clus (tabOf R) s)) ∧ IntsIn w' a (atsL R (clus (tabOf R) s) ((clus (tabOf R) s).length + 1)) := by
  have HR := Lib.hid hR
  have HS := Lib.hid hs
  have HOk := Lib.hid ok
  have HCl := Lib.hid (fun (W : World) (h1 : RowsIn W v R) (h2 : RunesIn W sv s) => rclusters_any H h1 h2 ok (by omega))
  have HNe := Lib.hid (clus_ne (tabOf R) s.length s (Nat.le_refl _))
  have HMem := Lib.hid (clus_mem (tabOf R) s.length s (Nat.le_refl _))
  have HTk := Lib.hid (lineG_take_le R s)
  have hLl : (clus (tabOf R) s).length ≤ s.length := clusN_len (tabOf R) s.length s
  generalize clus (tabOf R) s = LL at HCl HNe HMem HTk hLl ⊢
  obtain ⟨sl, cap, rfl, hcap, hmax, _⟩ := runes_cells hs
  unfold maxLen at hmax
  clear hR hs ok H
  go_enter Tryz.func30, Tryz.ntmps30
  go_wp2_with fail
  refine (HCl.out w HR.out HS.out).mono ?_
  rintro e w1 ⟨tu, rfl, hB1, hX1⟩
  have HB1 := Lib.hid hB1
  have HX := Lib.hid hX1
  have HR1 := Lib.hid (HR.out.below hB1)
  obtain ⟨ta, tcap, rfl, ht1, ht2⟩ := texts_shape hX1
  unfold maxLen at ht2
  clear hB1 hX1 HCl HR HS
  go_wp2_with fail
  go_loopw [6, 7, 9] (fun ov av iv wr => ∃ (k : Nat) (G : List Gy) (A : List Nat), k ≤ LL.length ∧ iv = .int .i64 ((k : Nat) : Int) ∧ Below w1.heap.size w1 wr ∧ wr.ownsRow w1.heap.size 81 2 ov G.length (G.flatMap gyE) ∧ wr.ownsRow w1.heap.size 3 1 av A.length (A.flatMap nE) ∧ G = lineG R (LL.take k) ∧ A = atsL R LL k) (fun _ _ iv _ => LL.length - (intOf iv).toNat)
  case atStart => exact ⟨0, [], [], Nat.zero_le _, rfl, .refl _ _, World.ownsRow_nil _ _ _ _, World.ownsRow_nil _ _ _ _, rfl, rfl⟩
  case round =>
    obtain ⟨k, G, A, hk, rfl, hB, hO, hA, hG, hAt⟩ := hrel
    have HB := Lib.hid hB
    have HG := Lib.hid hG
    have HAt := Lib.hid hAt
    have hAl : A.length = k := by rw [hAt, atsL_len]
    have hGl : G.length ≤ 2 * s.length := by rw [hG]; exact HTk.out k
    obtain ⟨pa, pc, rfl⟩ := slice_of_owns hO
    obtain ⟨qa, qc, rfl⟩ := slice_of_owns hA
    have HO := Lib.hid hO
    have HA := Lib.hid hA
    have hbs := HB.out.size
    clear hB hO hA hG hAt
    by_cases hlt : k < LL.length
    · obtain ⟨c, hc⟩ : ∃ c, LL[k]? = some c := ⟨LL[k], List.getElem?_eq_getElem hlt⟩
      have hcm := List.mem_of_getElem? hc
      have HC := Lib.hid hc
      have hcl := (HNe.out c hcm).2
      have HOkc := Lib.hid (show RunesOk c from fun x hx => HOk.out x (HMem.out c hcm x hx))
      obtain ⟨b, off, cp, cu, hv, _, _, _, _, d00, hcu⟩ := texts_cell HX.out hc
      cases hv
      have HD0 := Lib.hid d00
      have HCu := Lib.hid hcu
      have hbig : (A.length + 1) * 8 ≤ 140737488355328 := by omega
      have hgl2 := glOf_le R c
      have hbig2 : (G.length + (glOf R c).length) * 24 ≤ 140737488355328 := by omega
      obtain ⟨ca, ccap, rfl, _, _, _⟩ := runes_cells hcu
      have r0 : (k : Int) < (LL.length : Int) := by omega
      have r1 : (0 : Int) ≤ (k : Int) := by omega
      have e1 := IntWalk.i64_in ((k : Int) + 1) (by omega)
      clear hc hcm hcu d00
      go_wp2_with (at_builtin; go_loud (refine wpList_app1 _ rfl (.tmp 19) (.tmp 22) _ rfl EI _ _ _ rfl HA.out 1 1 (nE G.length) rfl (by decide) rfl (nE_one _) hbig hbs ?_); intro g cp7 w7 ho7 hg7 hf7; have HB7 := Lib.hid (below_app HB.out hbs HA.out (Nat.le_refl _) hg7); have HA7 := Lib.hid ho7; have HO7 := Lib.hid (owns_kept_types HA.out HO.out (by decide) hg7); have d0 := cell_later HB7.out HD0.out; clear ho7 hg7 hf7)
      refine (rgof_any (HR1.out.below HB7.out) (HCu.out.below HB7.out) HOkc.out (by omega)).mono ?_
      rintro e w8 ⟨u8, rfl, hB8, hI8⟩
      have HB8 := Lib.hid (HB7.out.trans (hB8.mono HB7.out.size))
      have HA8 := Lib.hid (owns_stays HA7.out hB8)
      have HO8 := Lib.hid (owns_stays HO7.out hB8)
      have HI8 := Lib.hid hI8
      have hbs8 := HB8.out.size
      have HGn := Lib.hid (show G ++ glOf R c = lineG R (LL.take (k + 1)) by rw [List.take_add_one, HC.out, HG.out]; exact (lineG_snoc R (LL.take k) c).symm)
      have HAn := Lib.hid (show A ++ [G.length] = atsL R LL (k + 1) by rw [atsL_succ, HAt.out, HG.out]; rfl)
      clear hB8 hI8 HA7 HO7 HB7 HA HO HB d0
      go_wp2_with (at_builtin; go_loud (refine wpList_app_rd _ rfl (.tmp 24) (.tmp 30) _ rfl ERG _ _ _ rfl HO8.out _ _ _ rfl HI8.out (gyE_ones _) hbig2 hbs8 ?_); intro v9 w9 ho9 hg9; have HB9 := Lib.hid (below_app HB8.out hbs8 HO8.out (Nat.le_refl _) hg9); have HA9 := Lib.hid (owns_kept_types HO8.out HA8.out (by decide) hg9); have HO9 := Lib.hid ho9; clear ho9 hg9)
      go_roundw
      case rel => exact ⟨k + 1, G ++ glOf R c, A ++ [G.length], by omega, by go_num, HB9.out, by rw [List.length_append, List.flatMap_append]; exact HO9.out, by rw [List.length_append, flat_snoc]; have h := HA9.out; rw [hAl] at h ⊢; exact h, HGn.out, HAn.out⟩
      case measure => simp [intOf] <;> omega
    · have hke : k = LL.length := by omega
      subst hke
      rw [List.take_length] at HG
      have hbig : (A.length + 1) * 8 ≤ 140737488355328 := by omega
      have HAn := Lib.hid (show A ++ [G.length] = atsL R LL (LL.length + 1) by rw [atsL_succ, HAt.out, aheadG_end, HG.out])
      have r0 : decide ((LL.length : Int) < (LL.length : Int)) = false := by simp
      clear hlt hk
      go_wp2_with (at_builtin; go_loud (refine wpList_app1 _ rfl (.tmp 33) (.tmp 36) _ rfl EI _ _ _ rfl HA.out 1 1 (nE G.length) rfl (by decide) rfl (nE_one _) hbig hbs ?_); intro g cp7 w7 ho7 hg7 hf7; have HB7 := Lib.hid (below_app HB.out hbs HA.out (Nat.le_refl _) hg7); have HA7 := Lib.hid ho7; have HO7 := Lib.hid (owns_kept_types HA.out HO.out (by decide) hg7); clear ho7 hg7 hf7)
      go_ret2
      exact ⟨_, _, rfl, below_trans' HB1.out HB7.out, by rw [← HG.out]; exact rgly_of_owns HO7.out, by
        rw [← HAn.out]
        exact ints_of_owns (base := w1.heap.size) (e := 3) (by rw [List.length_append, flat_snoc]; have h := HA7.out; rw [hAl] at h ⊢; exact h)⟩
end
end Go.Proofs.YtkeainhjghdfcaaGreat

/- Units: plain law of places. No program is named here. -/
namespace Go.Proofs.YtkeainhjghdfcaaGreat

section
variable {T : Tab} {s : List Int}
theorem starts_zero (T : Tab) {s : List Int} (hs : s ≠ []) : (starts T s)[0]? = some 0 := by
  have h0 := (starts_mem T s 0).2 (begAt_zero T hs)
  obtain ⟨i, hi⟩ := List.mem_iff_getElem?.1 h0
  rcases Nat.eq_zero_or_pos i with rfl | hp
  · exact hi
  · have hl := (List.getElem?_eq_some_iff.1 hi).1
    have hS := starts_sorted T s
    rw [List.pairwise_iff_getElem] at hS
    obtain ⟨a1, a2⟩ := List.getElem?_eq_some_iff.1 hi
    have := hS 0 i (by omega) a1 hp
    omega
/-- the clusters behind a boundary are the rest of all clusters -/
theorem clus_at (H : T.Ok) : ∀ (m a : Nat), (starts T s)[m]? = some a → clus T (s.drop a) = (clus T s).drop m
  | 0, a, h => by
    have hs : s ≠ [] := fun e => by subst e; rw [starts_nil] at h; simp at h
    rw [starts_zero T hs] at h
    cases h
    rfl
  | m + 1, a, h => by
    have hl := (List.getElem?_eq_some_iff.1 h).1
    obtain ⟨b, hb⟩ : ∃ b, (starts T s)[m]? = some b := ⟨_, List.getElem?_eq_getElem (by omega)⟩
    have h1 := (start_next H hb).1 hl
    rw [h] at h1
    have hba : a = b + nx T (s.drop b) := Option.some.inj h1
    have ih := clus_at H m b hb
    have hbl := begAt_lt ((starts_mem T s b).1 (List.mem_of_getElem? hb))
    have hne : s.drop b ≠ [] := fun e => by have := congrArg List.length e; rw [List.length_drop] at this; simp at this; omega
    rw [clus_step T hne] at ih
    have : (clus T s).drop (m + 1) = ((clus T s).drop m).drop 1 := by rw [List.drop_drop]
    rw [this, ← ih, hba, ← List.drop_drop]
    rfl
theorem starts_clus (H : T.Ok) : (starts T s).length = (clus T s).length := by
  by_cases hs : s = []
  · subst hs; rw [starts_nil]; rfl
  · have h0 := starts_zero T hs
    have hl : 0 < (starts T s).length := (List.getElem?_eq_some_iff.1 h0).1
    obtain ⟨a, ha⟩ : ∃ a, (starts T s)[(starts T s).length - 1]? = some a := ⟨_, List.getElem?_eq_getElem (by omega)⟩
    have h1 := clus_at H _ a ha
    have h2 := (start_next H ha).2 (by omega)
    have hbl := begAt_lt ((starts_mem T s a).1 (List.mem_of_getElem? ha))
    have hne : s.drop a ≠ [] := fun e => by have := congrArg List.length e; rw [List.length_drop] at this; simp at this; omega
    rw [clus_step T hne, List.drop_drop] at h1
    have h3 : a + nx T (s.drop a) = s.length := h2
    rw [h3, List.drop_length, clus_nil] at h1
    have h4 := congrArg List.length h1
    rw [List.length_drop] at h4
    simp at h4
    omega
end
end Go.Proofs.YtkeainhjghdfcaaGreat

/- Where the cursor stands among glyphs. No program is named here. -/
namespace Go.Proofs.YtkeainhjghdfcaaGreat
open Go.RowKit

/-- the glyphs ahead of the first cluster, of those from n on, that is not ahead of the cursor -/
def kAt (R : List Rw) (s : List Int) (c : Int) (n : Nat) : Nat := aheadG R (clus (tabOf R) s) (max n (ahd (starts (tabOf R) s) c))
theorem kAt_zero {R : List Rw} {s : List Int} {c : Int} : kAt R s c 0 = aheadG R (clus (tabOf R) s) (ahd (starts (tabOf R) s) c) := by unfold kAt; rw [Nat.zero_max]
end Go.Proofs.YtkeainhjghdfcaaGreat

/- screen: the glyphs of a view: the walk of (View).glyphs. -/
namespace Go.Proofs.YtkeainhjghdfcaaGreat
open Go.RowKit

/-- the glyphs of parts -/
def partsG (R : List Rw) (P : List (List Int)) : List Gy := P.flatMap fun p => lineG R (clus (tabOf R) p)
/-- the glyphs of a view -/
def viewG (R : List Rw) (P : List (List Int)) (s : List Int) : List Gy := partsG R P ++ lineG R (clus (tabOf R) s)
/-- those ahead of the cursor -/
def curK (R : List Rw) (P : List (List Int)) (s : List Int) (c : Int) : Nat := (partsG R P).length + kAt R s c 0
theorem partsG_snoc (R : List Rw) (P : List (List Int)) {k : Nat} {p : List Int} (h : P[k]? = some p) : partsG R (P.take (k + 1)) = partsG R (P.take k) ++ lineG R (clus (tabOf R) p) := by
  unfold partsG
  rw [List.take_add_one, h, List.flatMap_append]
  simp
theorem line_le (R : List Rw) (s : List Int) : (lineG R (clus (tabOf R) s)).length ≤ 2 * s.length := by
  have := lineG_take_le R s (clus (tabOf R) s).length
  rwa [List.take_length] at this
theorem partsG_le (R : List Rw) : ∀ {P : List (List Int)} {m : Nat}, (∀ p ∈ P, p.length ≤ m) → (partsG R P).length ≤ P.length * (2 * m)
  | [], _, _ => by simp [partsG]
  | p :: P, m, h => by
    have h1 := partsG_le R (P := P) fun q hq => h q (List.mem_cons_of_mem _ hq)
    have h2 := line_le R p
    have h3 := h p List.mem_cons_self
    unfold partsG at h1 ⊢
    rw [List.flatMap_cons, List.length_append, List.length_cons, Nat.add_one_mul]
    omega
theorem partsG_take_le (R : List Rw) {P : List (List Int)} {m : Nat} (h : ∀ p ∈ P, p.length ≤ m) (k : Nat) : (partsG R (P.take k)).length ≤ P.length * (2 * m) := by
  refine Nat.le_trans (partsG_le R fun p hp => h p (List.mem_of_mem_take hp)) ?_
  rw [List.length_take]
  exact Nat.mul_le_mul_right _ (Nat.min_le_right _ _)
/-- the line's own glyphs up to the cursor are of the line -/
theorem kAt_le {R : List Rw} (_H : (tabOf R).Ok) {s : List Int} {c : Int} : kAt R s c 0 ≤ (lineG R (clus (tabOf R) s)).length := by
  rw [kAt_zero]
  have e1 : (lineG R ((clus (tabOf R) s).take (ahd (starts (tabOf R) s) c) ++ (clus (tabOf R) s).drop (ahd (starts (tabOf R) s) c))).length = (lineG R (clus (tabOf R) s)).length := by rw [List.take_append_drop]
  unfold lineG at e1
  rw [List.flatMap_append, List.length_append] at e1
  unfold aheadG lineG
  omega
theorem line_thin (R : List Rw) (s : List Int) : ∀ g ∈ lineG R (clus (tabOf R) s), 1 ≤ g.2 ∧ g.2 ≤ 2 := by
  intro g hg
  have := (lineG_ok R g hg).1
  omega
theorem view_thin (R : List Rw) (P : List (List Int)) (s : List Int) : ∀ g ∈ viewG R P s, 1 ≤ g.2 ∧ g.2 ≤ 2 := by
  intro g hg
  rcases List.mem_append.1 hg with h | h
  · obtain ⟨p, _, hp⟩ := List.mem_flatMap.1 h
    exact line_thin R p g hp
  · exact line_thin R s g h
section
variable {R : List Rw} {P : List (List Int)} {s : List Int} {w : World} {pv sv : Value} {tp : Nat}
set_option maxRecDepth 100000 in
set_option maxHeartbeats 8000000 in
theorem vglyphs_any (H : (tabOf R).Ok) (hT : Tb R w tp) (hP : TextsIn w pv P) (hPo : ∀ p ∈ P, RunesOk p ∧ p.length ≤ 20) (hPl : P.length ≤ 4) (hs : RunesIn w sv s) (ok : RunesOk s) (hl : s.length ≤ 100) (c : Int) :
    Calls Tryz.prog 74 #[.agg #[pv, sv, .int .i64 c], .pointer (some ⟨tp, 0, none⟩)] w fun e w' => ∃ u, e = .returned (.tuple #[u, .int .i64 ((curK R P s c : Nat) : Int)]) ∧ Below w.heap.size w w' ∧ GlyIn w' u (viewG R P s) := by
  have HOk := Lib.hid ok
  have HPo := Lib.hid hPo
  have hpt := fun k => partsG_take_le R (m := 20) (fun p hp => (hPo p hp).2) (P := P) k
  have hpl : ∀ k, (partsG R (P.take k)).length ≤ 160 := fun k => Nat.le_trans (hpt k) (by omega)
  have HPl := Lib.hid hpl
  have hll := line_le R s
  have HSt := Lib.hid (fun (W : World) (h1 : Tb R W tp) (h2 : RunesIn W sv s) => starts_any H h1 h2 ok (by omega))
  have HSo := Lib.hid (starts_sorted (tabOf R) s)
  have hsl : (starts (tabOf R) s).length ≤ 1000000 := by rw [starts_clus H]; have : (clus (tabOf R) s).length ≤ s.length := clusN_len (tabOf R) s.length s; omega
  have hki : ahd (starts (tabOf R) s) c ≤ (clus (tabOf R) s).length := by rw [← starts_clus H]; exact ahd_le _ _
  have HAg := Lib.hid (atsL_get (R := R) (LL := clus (tabOf R) s) (n := (clus (tabOf R) s).length + 1) (k := ahd (starts (tabOf R) s) c) (by omega))
  have HCu := Lib.hid (show (curK R P s c : Int) = ((partsG R P).length : Int) + ((aheadG R (clus (tabOf R) s) (ahd (starts (tabOf R) s) c) : Nat) : Int) by unfold curK; rw [kAt_zero]; omega)
  have hcb := kAt_le H (s := s) (c := c)
  rw [kAt_zero] at hcb
  obtain ⟨sl, scap, rfl, _, _, _⟩ := runes_cells hs
  obtain ⟨pa, pcap, rfl, hp1, hp2⟩ := texts_shape hP
  unfold maxLen at hp2
  have hb1 := below1 w (.cells #[.slice pa P.length pcap, .slice sl s.length scap, .int .i64 c] 61)
  have hn1 := heap_alloc_new w (.cells #[.slice pa P.length pcap, .slice sl s.length scap, .int .i64 c] 61)
  have HB1 := Lib.hid hb1
  have HN1 := Lib.hid hn1
  have HT1 := Lib.hid (hT.below hb1)
  have HP1 := Lib.hid (hP.below hb1)
  have HS1 := Lib.hid (hs.below hb1)
  have hz1 : (w.alloc (.cells #[.slice pa P.length pcap, .slice sl s.length scap, .int .i64 c] 61)).heap.size = w.heap.size + 1 := by simp
  have hb0 : w.heap.size < w.heap.size + 1 := by omega
  clear hT hP hs ok hPo hpt hpl hb1 hn1
  go_enter Tryz.func74, Tryz.ntmps74
  go_upto_region 2 with fail
  generalize w.alloc (.cells #[.slice pa P.length pcap, .slice sl s.length scap, .int .i64 c] 61) = w1 at HB1 HN1 HT1 HP1 HS1 hz1 ⊢
  have y0 := row_cells (i := 0) HN1.out rfl
  go_wp2_with fail
  go_loopw [6, 18] (fun lv iv wr => ∃ (k : Nat) (G : List Gy), k ≤ P.length ∧ iv = .int .i64 ((k : Nat) : Int) ∧ Below w1.heap.size w1 wr ∧ wr.ownsRow w1.heap.size 97 2 lv G.length (G.flatMap gyE) ∧ G = partsG R (P.take k)) (fun _ iv _ => P.length - (intOf iv).toNat)
  case atStart => exact ⟨0, [], Nat.zero_le _, rfl, .refl _ _, World.ownsRow_nil _ _ _ _, rfl⟩
  case round =>
    obtain ⟨k, G, hk, rfl, hB, hO, hG⟩ := hrel
    have HB := Lib.hid hB
    have HG := Lib.hid hG
    have HO := Lib.hid hO
    have hGl : G.length ≤ 160 := by rw [hG]; exact HPl.out k
    have hbs := hB.size
    obtain ⟨oa, oc, rfl⟩ := slice_of_owns hO
    clear hB hO hG
    by_cases hlt : k < P.length
    · obtain ⟨p, hp⟩ : ∃ p, P[k]? = some p := ⟨P[k], List.getElem?_eq_getElem hlt⟩
      have hpm := List.mem_of_getElem? hp
      have hpq := HPo.out p hpm
      have HOp := Lib.hid hpq.1
      have hpn := hpq.2
      have hpll := line_le R p
      have HGn := Lib.hid (show G ++ lineG R (clus (tabOf R) p) = partsG R (P.take (k + 1)) by rw [partsG_snoc R P hp, HG.out])
      obtain ⟨b, off, cp, cu, hv, _, _, _, _, d00, hcu⟩ := texts_cell HP1.out hp
      cases hv
      have d0 := cell_later HB.out d00
      have HPu := Lib.hid hcu
      have hbig : (G.length + (lineG R (clus (tabOf R) p)).length) * 24 ≤ 140737488355328 := by omega
      clear hp hpm hpq d00 hcu hpll
      go_wp2_with fail
      refine (line_any (HT1.out.below HB.out) (HPu.out.below HB.out) HOp.out (by omega)).mono ?_
      rintro e w8 ⟨u8, a8, rfl, hB8, hI8, _⟩
      have HB8 := Lib.hid (HB.out.trans (hB8.mono HB.out.size))
      have HO8 := Lib.hid (owns_stays HO.out hB8)
      have HI8 := Lib.hid hI8
      have hbs8 := HB8.out.size
      clear hB8 hI8 HO HB d0
      go_wp2_with (at_builtin; go_loud (refine wpList_app_rd _ rfl (.tmp 28) (.tmp 29) _ rfl EG _ _ _ rfl HO8.out _ _ _ rfl HI8.out (gyE_ones _) hbig hbs8 ?_); intro v9 w9 ho9 hg9; have HB9 := Lib.hid (below_app HB8.out hbs8 HO8.out (Nat.le_refl _) hg9); have HO9 := Lib.hid ho9; clear ho9 hg9)
      go_roundw
      case rel => exact ⟨k + 1, G ++ lineG R (clus (tabOf R) p), by omega, by go_num, HB9.out, by rw [List.length_append, List.flatMap_append]; exact HO9.out, HGn.out⟩
      case measure => simp [intOf] <;> omega
    · have hke : k = P.length := by omega
      subst hke
      rw [List.take_length] at HG
      have HGp := HG
      have hvb := row_len HN1.out
      have y1 := cell_later HB.out (row_cells (i := 1) HN1.out rfl)
      clear hlt hk
      go_wp2_with fail
      refine (line_own (HT1.out.below HB.out) (HS1.out.below HB.out) HOk.out (by omega)).mono ?_
      rintro e w2 ⟨u2, a2, rfl, hB2, hU2, hA2⟩
      have HB2 := Lib.hid (HB.out.trans (hB2.mono HB.out.size))
      have HO2 := Lib.hid (owns_stays HO.out hB2)
      have HU2 := Lib.hid (show GlyIn w2 u2 (lineG R (clus (tabOf R) s)) from gly_of_owns hU2)
      have HA2 := Lib.hid (owns_lower hA2 hbs)
      have hA2l : (atsL R (clus (tabOf R) s) ((clus (tabOf R) s).length + 1)).length = (clus (tabOf R) s).length + 1 := atsL_len R _ _
      obtain ⟨ag, acap, rfl, hag1, hag2⟩ := ownBlock_of_owns hA2 (by rw [hA2l]; omega)
      clear hB2 hU2 hA2 HB HO y1 hA2l
      have y1 := cell_later HB2.out (row_cells (i := 1) HN1.out rfl)
      have y2 := cell_later HB2.out (row_cells (i := 2) HN1.out rfl)
      go_upto_region 9 with fail
      go_region_held3 (fun w' => w'.cell? ⟨w.heap.size, 1, none⟩ = some (.slice sl s.length scap) ∧ w'.cell? ⟨w.heap.size, 2, none⟩ = some (.int .i64 c))
        (first | exact ⟨x1, x2⟩ | exact ⟨y1, y2⟩ | go_keep)
        (first | (go_at_call 61; refine (HSt.out _ (HT1.out.below (below_dN HB2.out 1)) (HS1.out.below (below_dN HB2.out 1))).mono ?_; rintro e w3 ⟨su, rfl, hB3, hS3⟩; have x1 := cell_later hB3 (show w2.drew.cell? _ = _ from y1); have x2 := cell_later hB3 (show w2.drew.cell? _ = _ from y2); have hk3 : Below w2.heap.size w2 w3 := (below_dN (.refl _ _) 1).trans hB3; have HB3 := Lib.hid (HB2.out.trans (hk3.mono HB2.out.size)); have HK3 := Lib.hid hk3; clear hk3; have HS3 := Lib.hid hS3; clear hB3 hS3) | (go_at_call 60; refine (bsi_any su _ c w3 HS3.out HSo.out hsl).mono ?_; rintro e w4 ⟨rfl, hB4, _⟩; have x1 := cell_later hB4 x1; have x2 := cell_later hB4 x2; have HB4 := Lib.hid (HB3.out.trans (hB4.mono HB3.out.size)); have HK4 := Lib.hid (HK3.out.trans (hB4.mono HK3.out.size)); clear hB4))
      have HO4 := Lib.hid (owns_stays HO2.out HK4.out)
      have HU4 := Lib.hid (HU2.out.below HK4.out)
      have HA4 := Lib.hid (owns_stays HA2.out HK4.out)
      obtain ⟨_, _, _, hv, _, _, hak, _, z0⟩ := int_cell (ints_of_owns HA4.out) HAg.out
      cases hv
      rw [Nat.zero_add] at z0
      have hgs : ∃ ga gc, u2 = .slice ga (lineG R (clus (tabOf R) s)).length gc := by obtain ⟨ga, gc, h, _⟩ := gly_shape HU4.out; exact ⟨ga, gc, h⟩
      obtain ⟨ga, gc, rfl⟩ := hgs
      generalize ahd (starts (tabOf R) s) c = ki at HAg hki hcb HCu hak z0 ⊢
      generalize hav : aheadG R (clus (tabOf R) s) ki = av at HAg hcb HCu z0
      have k0 : (ki : Int) < ((atsL R (clus (tabOf R) s) ((clus (tabOf R) s).length + 1)).length : Int) := by omega
      have k1 : (0 : Int) ≤ (ki : Int) := by omega
      have e5 := IntWalk.i64_in ((G.length : Int) + (av : Int)) (by omega)
      have hbs4 := HB4.out.size
      have hbig : (G.length + (lineG R (clus (tabOf R) s)).length) * 24 ≤ 140737488355328 := by omega
      have hcq : ((curK R P s c : Nat) : Int) = (G.length : Int) + (av : Int) := by rw [HCu.out, HGp.out]
      have HCq := Lib.hid hcq
      clear hcq hav hki hcb HCu HO2 HU2 HA2 HB2 HB3 HK3 HK4 HS3 HSt HSo x1 x2 y1 y2 HT1 HP1 HPo HPl
      go_upto_region 10 with fail
      refine wp_region_held_drew (S := fun w' => w'.cell? ⟨ag, ki, none⟩ = some (.int .i64 (av : Int))) (by kernel_rfl) z0 (fun hHeld => ?_)
      refine hd_take 0 rfl (by kernel_rfl) (by kernel_rfl) (by kernel_rfl) (fun _ _ _ h => h) (by rfl) (by intro w hSw; (try dsimp only at hSw); go_simp; first | done | with_reducible rfl) hHeld ?_
      try simp only [Act.put, List.setIfInBounds_toArray, List.set_cons_zero, List.set_cons_succ]
      refine hd_take 1 rfl (by kernel_rfl) (by kernel_rfl) (by kernel_rfl) (fun _ _ _ h => h) (by rfl) (by intro w hSw; (try dsimp only at hSw); go_simp; first | done | with_reducible rfl) hHeld ?_
      try simp only [Act.put, List.setIfInBounds_toArray, List.set_cons_zero, List.set_cons_succ]
      refine hd_take 3 rfl (by kernel_rfl) (by kernel_rfl) (by kernel_rfl) (fun _ _ _ h => h) (by rfl) (by intro w hSw; (try dsimp only at hSw); go_simp; first | done | with_reducible rfl) hHeld ?_
      try simp only [Act.put, List.setIfInBounds_toArray, List.set_cons_zero, List.set_cons_succ]
      refine hd_take 4 rfl (by kernel_rfl) (by kernel_rfl) (by kernel_rfl) (fun _ _ _ h => h) (by rfl) (by intro w hSw; (try dsimp only at hSw); go_simp; first | done | with_reducible rfl) hHeld ?_
      try simp only [Act.put, List.setIfInBounds_toArray, List.set_cons_zero, List.set_cons_succ]
      refine hd_take 5 rfl (by kernel_rfl) (by kernel_rfl) (by kernel_rfl) (fun _ _ _ h => h) (by rfl) (by intro w hSw; (try dsimp only at hSw); go_simp; first | done | with_reducible rfl) hHeld ?_
      try simp only [Act.put, List.setIfInBounds_toArray, List.set_cons_zero, List.set_cons_succ]
      refine hd_take 6 rfl (by kernel_rfl) (by kernel_rfl) (by kernel_rfl) (fun _ _ _ h => h) (by rfl) (by intro w hSw; (try dsimp only at hSw); go_simp; first | done | with_reducible rfl) hHeld ?_
      try simp only [Act.put, List.setIfInBounds_toArray, List.set_cons_zero, List.set_cons_succ]
      refine hd_take 7 rfl (by kernel_rfl) (by kernel_rfl) (by kernel_rfl) (fun _ _ _ h => h) (by rfl) (by intro w hSw; (try dsimp only at hSw); go_simp; first | done | with_reducible rfl) hHeld ?_
      try simp only [Act.put, List.setIfInBounds_toArray, List.set_cons_zero, List.set_cons_succ]
      refine hd_take 8 rfl (by kernel_rfl) (by kernel_rfl) (by kernel_rfl) (fun _ _ _ h => h) (by rfl) (by intro w hSw; (try dsimp only at hSw); go_simp; first | done | with_reducible rfl) hHeld ?_
      try simp only [Act.put, List.setIfInBounds_toArray, List.set_cons_zero, List.set_cons_succ]
      refine hd_take 9 rfl (by kernel_rfl) (by kernel_rfl) (by kernel_rfl) (fun _ _ _ h => h) (by rfl) (by intro w hSw; (try dsimp only at hSw); go_simp; first | done | with_reducible rfl) hHeld ?_
      try simp only [Act.put, List.setIfInBounds_toArray, List.set_cons_zero, List.set_cons_succ]
      refine hd_step 2 (by kernel_rfl) rfl (fun K hK => ?_)
      rw [if_pos (by rfl)]
      refine oper_app_rd (base := w1.heap.size) w4.drew (.tmp 49) (.tmp 50) _ (by rfl) EG (.slice oa G.length oc) G.length (G.flatMap gyE) (by rfl) (show w4.drew.ownsRow w1.heap.size 97 2 (.slice oa G.length oc) G.length (G.flatMap gyE) from HO4.out) (.slice ga (lineG R (clus (tabOf R) s)).length gc) _ _ (by rfl) (HU4.out.below (below_dN (.refl _ _) 1)) (gyE_ones _) hbig hbs4 ?_
      intro v9 w9 ho9 hg9
      have HB9 := Lib.hid (below_app (below_dN HB4.out 1) hbs4 (show w4.drew.ownsRow w1.heap.size 97 2 (.slice oa G.length oc) G.length (G.flatMap gyE) from HO4.out) (Nat.le_refl _) hg9)
      have HO9 := Lib.hid ho9
      have ha9 := owns_kept_types (show w4.drew.ownsRow w1.heap.size 97 2 (.slice oa G.length oc) G.length (G.flatMap gyE) from HO4.out) (show w4.drew.ownsRow w1.heap.size 3 1 _ _ _ from HA4.out) (by decide) hg9
      obtain ⟨_, _, _, hv, _, _, _, _, z9⟩ := int_cell (ints_of_owns ha9) HAg.out
      cases hv
      rw [Nat.zero_add] at z9
      clear ho9 hg9 ha9
      refine hK.out _ _ z9 (fun hHeld => ?_)
      clear hK K
      try simp only [Act.put, List.setIfInBounds_toArray, List.set_cons_zero, List.set_cons_succ]
      refine hd_take 10 rfl (by kernel_rfl) (by kernel_rfl) (by kernel_rfl) (fun _ _ _ h => h) (by rfl) (by intro w hSw; (try dsimp only at hSw); go_simp; first | done | with_reducible rfl) hHeld ?_
      try simp only [Act.put, List.setIfInBounds_toArray, List.set_cons_zero, List.set_cons_succ]
      refine hd_take 11 rfl (by kernel_rfl) (by kernel_rfl) (by kernel_rfl) (fun _ _ _ h => h) (by rfl) (by intro w hSw; (try dsimp only at hSw); go_simp; first | done | with_reducible rfl) hHeld ?_
      try simp only [Act.put, List.setIfInBounds_toArray, List.set_cons_zero, List.set_cons_succ]
      refine wpAnyH_done (by kernel_rfl) ?_ _
      clear hHeld z0 z9 HO4 HU4 HA4
      go_wp2_with fail
      go_ret2
      exact ⟨v9, by rw [HCq.out]; rfl, below_trans' HB1.out HB9.out, by unfold viewG; rw [← HGp.out]; exact gly_of_owns (by rw [List.length_append, List.flatMap_append]; exact HO9.out)⟩
end
end Go.Proofs.YtkeainhjghdfcaaGreat

/- screen.Of: its walk. -/
namespace Go.Proofs.YtkeainhjghdfcaaGreat
open Go.RowKit

theorem eql_nil_spots (w : World) (a : Option Addr) (n c : Nat) : Sem.run Tryz.prog (binOp .eql 137 (.slice a n c) (.slice none 0 0)) w = .ok (.bool a.isNone) w := by
  have h : ∀ d : Nat, Sem.run Tryz.prog (Op.equalIn (d + 1) 137 (.slice a n c) (.slice none 0 0)) w = .ok a.isNone w := fun d => by
    cases a <;> simp [Op.equalIn, run_underlying Tryz.underlying137]
  simp only [binOp]
  simp [Op.equal, Op.maxDepth, h 9999]
theorem range3s {w : World} {b : Nat} {u v x : Value} (h0 : w.cell? ⟨b, 0, none⟩ = some u) (h1 : w.cell? ⟨b, 1, none⟩ = some v) (h2 : w.cell? ⟨b, 2, none⟩ = some x) : w.rangeAt b 0 [u, v, x] := fun j y hy => by
  match j, hy with
  | 0, hy => cases hy; exact h0
  | 1, hy => cases hy; exact h1
  | 2, hy => cases hy; exact h2
/-- three stores into one block -/
theorem kept_three {w : World} {q : Nat} {u v x : Value} : Kept (fun j => j = q) w (((w.setCell ⟨q, 0, none⟩ u).setCell ⟨q, 1, none⟩ v).setCell ⟨q, 2, none⟩ x) :=
  ((kept_setCell (P := fun j => j = q) w ⟨q, 0, none⟩ u rfl).trans (kept_setCell _ ⟨q, 1, none⟩ v rfl)).trans (kept_setCell _ ⟨q, 2, none⟩ x rfl)
/-- the cells of spots -/
theorem spot_cells {w : World} {base sg n cap : Nat} {e : TypeId} {cols : Int} {L : List Gl} (hc : 2 ≤ cols) (hs : w.ownsRow base e 2 (.slice (some ⟨sg, 0, none⟩) n cap) n ((spotsL cols L).flatMap senc)) {k : Nat} (hk : k ≤ L.length) :
    w.cell? ⟨sg, k * 2, none⟩ = some (.int .i64 (itemAt cols L k).1) ∧ w.cell? ⟨sg, k * 2 + 1, none⟩ = some (.int .i64 (itemAt cols L k).2) := by
  have h2 := getElem?_spots (cols := cols) (l := L) hc hk
  have e0 := hs.cells (g := sg) rfl _ _ (flat_get senc_len _ k _ 0 _ h2 rfl)
  have e1 := hs.cells (g := sg) rfl _ _ (flat_get senc_len _ k _ 1 _ h2 rfl)
  rw [addr_add] at e0 e1
  exact ⟨e0, e1⟩
set_option maxHeartbeats 400000 in
theorem top_some (all rows row : Int) (w : World) : Calls Tryz.prog 76 #[.int .i64 all, .int .i64 rows, .int .i64 row] w fun e w' => ∃ t, e = .returned (.int .i64 t) ∧ w = w' := by
  go_enter Tryz.func76, Tryz.ntmps76
  go_wp2
  all_goals
    go_ret
    exact ⟨_, rfl, rfl⟩
section
variable {R : List Rw} {P : List (List Int)} {s : List Int} {w : World} {pv sv : Value} {tp : Nat}
/-- the entry: the view is boxed, a screen is made -/
theorem view_le (R : List Rw) {P : List (List Int)} {s : List Int} (hPo : ∀ p ∈ P, RunesOk p ∧ p.length ≤ 20) (hPl : P.length ≤ 4) (hl : s.length ≤ 100) : (viewG R P s).length ≤ 360 := by
  have h1 := partsG_le R (m := 20) fun p hp => (hPo p hp).2
  have h2 := line_le R s
  unfold viewG
  rw [List.length_append]
  omega
theorem curK_le (H : (tabOf R).Ok) {c : Int} : curK R P s c ≤ (viewG R P s).length := by
  have h := kAt_le H (s := s) (c := c)
  unfold curK viewG
  rw [List.length_append]
  omega
set_option maxRecDepth 100000 in
set_option maxHeartbeats 8000000 in
theorem sof_yes (H : (tabOf R).Ok) (hT : Tb R w tp) (hP : TextsIn w pv P) (hPo : ∀ p ∈ P, RunesOk p ∧ p.length ≤ 20) (hPl : P.length ≤ 4) (hs : RunesIn w sv s) (ok : RunesOk s) (hl : s.length ≤ 100) (c : Int) {n m : Nat} (h1 : 1 ≤ n) (h2 : n ≤ 500) (h3 : 2 ≤ m) (h4 : m ≤ 1000) :
    Calls Tryz.prog 22 #[.pointer (some ⟨tp, 0, none⟩), .agg #[pv, sv, .int .i64 c], .int .i64 (n : Int), .int .i64 (m : Int)] w fun e w' => ∃ gb lb, e = .returned (.agg #[.pointer (some ⟨gb, 0, none⟩), .int .i64 ((itemAt m (viewG R P s) (curK R P s c)).1 - scTop (viewG R P s) n m (curK R P s c)), .int .i64 (itemAt m (viewG R P s) (curK R P s c)).2]) ∧
      Below w.heap.size w w' ∧ w.heap.size ≤ gb ∧ w.heap.size ≤ lb ∧ GridG w' gb lb m (n * m) (scG (viewG R P s) n m (curK R P s c)) := by
  have hV := fun (W : World) (hb : Below w.heap.size w W) => vglyphs_any H (hT.below hb) (hP.below hb) hPo hPl (hs.below hb) ok hl c
  have HV := Lib.hid hV
  have hLl := view_le R hPo hPl hl
  have hkl := curK_le H (P := P) (s := s) (c := c)
  have hth := view_thin R P s
  generalize curK R P s c = k at HV hkl ⊢
  generalize viewG R P s = L at HV hLl hkl hth ⊢
  have hbd := sc_bd (L := L) (n := n) (m := m) (k := k) h1 h3 hth hkl
  have HTh := Lib.hid hth
  obtain ⟨sl, scap, rfl, _, _, _⟩ := runes_cells hs
  obtain ⟨pa, pcap, rfl, _, _⟩ := texts_shape hP
  obtain ⟨top, htop⟩ : ∃ t, t = scTop L n m k := ⟨_, rfl⟩
  have HTop := Lib.hid htop
  have HG0 := Lib.hid (show scG L n m k = layG m top m L (List.replicate n (List.replicate m blankC)) L.length by rw [htop]; rfl)
  rw [← htop] at hbd ⊢
  obtain ⟨b1, b2, b3, b4, b5, b6, b7, b8⟩ := hbd
  have hba := below1 w (.cells #[.slice pa P.length pcap, .slice sl s.length scap, .int .i64 c] 61)
  have hna := heap_alloc_new w (.cells #[.slice pa P.length pcap, .slice sl s.length scap, .int .i64 c] 61)
  have hbb := below1 (w.alloc (.cells #[.slice pa P.length pcap, .slice sl s.length scap, .int .i64 c] 61)) (.cells #[.pointer none, .int .i64 0, .int .i64 0] 59)
  have hnb := heap_alloc_new (w.alloc (.cells #[.slice pa P.length pcap, .slice sl s.length scap, .int .i64 c] 61)) (.cells #[.pointer none, .int .i64 0, .int .i64 0] 59)
  have hza : (w.alloc (.cells #[.slice pa P.length pcap, .slice sl s.length scap, .int .i64 c] 61)).heap.size = w.heap.size + 1 := by simp
  have hzb : ((w.alloc (.cells #[.slice pa P.length pcap, .slice sl s.length scap, .int .i64 c] 61)).alloc (.cells #[.pointer none, .int .i64 0, .int .i64 0] 59)).heap.size = w.heap.size + 2 := by simp
  rw [hza] at hbb hnb
  have hB1 := hba.trans (hbb.mono (by omega))
  have HB1 := Lib.hid hB1
  have HNV := Lib.hid ((hbb.block _ (by omega)).trans hna)
  have HNR := Lib.hid hnb
  clear hT hP hs ok hPo hV htop hba hbb hna hnb hB1 hza
  go_enter Tryz.func22, Tryz.ntmps22
  go_upto_region 1 with fail
  generalize (w.alloc (.cells #[.slice pa P.length pcap, .slice sl s.length scap, .int .i64 c] 61)).alloc (.cells #[.pointer none, .int .i64 0, .int .i64 0] 59) = w1 at HB1 HNV HNR hzb ⊢
  have v0 := row_cells (i := 0) HNV.out rfl
  have v1 := row_cells (i := 1) HNV.out rfl
  have v2 := row_cells (i := 2) HNV.out rfl
  go_wp2_with fail
  refine (HV.out w1 HB1.out).mono ?_
  rintro e w2 ⟨u, rfl, hB2, hU2⟩
  obtain ⟨ua, uc, rfl, _, _⟩ := gly_shape hU2
  have HB2 := Lib.hid (HB1.out.trans (hB2.mono (by omega)))
  have HR2 := Lib.hid ((hB2.block _ (row_len HNR.out)).trans HNR.out)
  have HU2 := Lib.hid (show Rs w2.heap.size w2 genc 2 (.slice ua L.length uc) L from hU2)
  have hs2 := hB2.size
  clear hB2 hU2 HB1 HNR HNV v0 v1 v2 HV
  go_wp2_with fail
  refine (place_any _ L m w2 HU2.out (by omega) (by omega) HTh.out).mono ?_
  rintro e w3 ⟨vs, rfl, hB3, hs, _⟩
  have hsl : (spotsL m L).length = L.length + 1 := by rw [spotsL_len, if_neg (by omega)]
  obtain ⟨sg, sc, rfl, hsg, hsg2⟩ := ownBlock_of_owns hs (by omega)
  obtain ⟨z0, _⟩ := spot_cells (by omega) hs (Nat.le_refl L.length)
  obtain ⟨z1, z2⟩ := spot_cells (by omega) hs hkl
  rw [hsl]
  have HB3 := Lib.hid (HB2.out.trans (hB3.mono (by omega)))
  have HR3 := Lib.hid ((hB3.block _ (row_len HR2.out)).trans HR2.out)
  have HU3 := Lib.hid ((Rd.below HU2.out hB3 (Nat.le_refl _)).mono hB3.size)
  have hs3 := hB3.size
  clear hB3 hs hsl HB2 HR2 HU2
  generalize hE : itemAt m L L.length = eI at z0 b2 b3
  generalize hK : itemAt m L k = kI at z1 z2 b1 b2 b5 b6 b7 b8 ⊢
  obtain ⟨er, ec⟩ := eI
  obtain ⟨kr, kc⟩ := kI
  dsimp only at z0 z1 z2 b1 b2 b3 b5 b6 b7 b8 ⊢
  have HTp := Lib.hid (show topN (er + 1) n kr = top by rw [HTop.out]; unfold scTop; rw [hE, hK])
  have hnil : Sem.run Tryz.prog (binOp .eql 137 (.slice (some ⟨sg, 0, none⟩) (L.length + 1) sc) (.slice none 0 0)) w3 = .ok (.bool false) w3 := eql_nil_spots _ _ _ _
  have q1 : (L.length : Int) < ((L.length + 1 : Nat) : Int) := by omega
  have q2 : (L.length : Int) < (L.length : Int) + 1 := by omega
  have q3 : (0 : Int) ≤ (L.length : Int) := by omega
  have q4 : (k : Int) < ((L.length + 1 : Nat) : Int) := by omega
  have q5 : (k : Int) < (L.length : Int) + 1 := by omega
  have q6 : (0 : Int) ≤ (k : Int) := by omega
  have e1 := IntWalk.i64_in (er + 1) (by omega)
  have hb4 := below1 w3 (.cells #[.int .i64 kr, .int .i64 kc] 57)
  have hn4 := heap_alloc_new w3 (.cells #[.int .i64 kr, .int .i64 kc] 57)
  have hz4 : (w3.alloc (.cells #[.int .i64 kr, .int .i64 kc] 57)).heap.size = w3.heap.size + 1 := by simp
  have HB4 := Lib.hid (HB3.out.trans (hb4.mono (by omega)))
  have HR4 := Lib.hid ((hb4.block _ (row_len HR3.out)).trans HR3.out)
  have HU4 := Lib.hid ((Rd.below HU3.out hb4 (Nat.le_refl _)).mono hb4.size)
  have HKe := Lib.hid hK
  clear hb4 hE hK HTop HB3 HR3 HU3
  go_upto_region 7 with fail
  clear z0 z1 z2 q1 q2 q3 q4 q5 q6
  generalize w3.alloc (.cells #[.int .i64 kr, .int .i64 kc] 57) = w4 at HB4 HR4 HU4 hn4 hz4 ⊢
  generalize w3.heap.size = ab at hn4 hz4 hs3 ⊢
  have y0 := row_cells (i := 0) hn4 rfl
  go_wp2_with fail
  refine (top_any (er + 1) n kr w4 (by omega) (by omega) (by omega) (by omega) (by omega) (by omega)).mono ?_
  rintro e w5 ⟨rfl, rfl⟩
  rw [HTp.out]
  go_wp2_with fail
  refine (lay_some n m top _ L w4 HU4.out (by omega) HTh.out h1 h2 h3 h4 (by omega) (by omega)).mono ?_
  rintro e w6 ⟨gb, lb, rfl, hgb, hlb, hB6, hG6⟩
  have y0 := cell_later hB6 (row_cells (i := 0) hn4 rfl)
  have y1 := cell_later hB6 (row_cells (i := 1) hn4 rfl)
  have hr6 := (hB6.block _ (row_len HR4.out)).trans HR4.out
  have r0 := row_cells (i := 0) hr6 rfl
  have r1 := row_cells (i := 1) hr6 rfl
  have r2 := row_cells (i := 2) hr6 rfl
  have rw0 := row_warm hr6 0
  have rw1 := row_warm hr6 1
  have rw2 := row_warm hr6 2
  have hql := row_len HR4.out
  have HB6 := Lib.hid (HB4.out.trans (hB6.mono (by omega)))
  rw [← HG0.out] at hG6
  have HG6 := Lib.hid hG6
  have e7 := IntWalk.i64_in (kr - top) (by omega)
  clear hB6 hG6 hr6 hn4 HB4 HR4 HU4 HTp
  go_wp2_with fail
  refine ret_cell1 (ad := ⟨w.heap.size + 1, 0, none⟩) rfl rfl (run_loadVar_mid _ _ 0 _ [.pointer (some ⟨gb, 0, none⟩), .int .i64 (kr - top), .int .i64 kc] _ (range3s (by go_simp) (by go_simp) (by go_simp)) Tryz.underlying59 rfl (by kernel_rfl)) rfl ?_
  exact ⟨gb, lb, by rw [HKe.out], ((HB6.out.setCell (by show w.heap.size ≤ w.heap.size + 1; omega) _).setCell (by show w.heap.size ≤ w.heap.size + 1; omega) _).setCell (by show w.heap.size ≤ w.heap.size + 1; omega) _, by omega, by omega, HG6.out.kept (by rw [scG_len]; omega) (by omega) kept_three (by omega) (by omega)⟩
end
end Go.Proofs.YtkeainhjghdfcaaGreat

/- Texts of glyphs: their sizes, their parts. No program is named here. -/
namespace Go.Proofs.YtkeainhjghdfcaaGreat
open Go.RowKit

theorem catG_size : ∀ (G : List Gy) (b0 : ByteArray), (catG b0 G).size = b0.size + szG G
  | [], b0 => by simp [catG, szG]
  | g :: G, b0 => by
    have := catG_size G (b0 ++ g.1)
    show (catG (b0 ++ g.1) G).size = _
    rw [this, ByteArray.size_append]
    simp [szG]; omega
theorem catG_split (G : List Gy) (b0 : ByteArray) (k : Nat) : catG b0 G = catG (catG b0 (G.take k)) (G.drop k) := by
  conv => lhs; rw [← List.take_append_drop k G]
  unfold catG; rw [List.foldl_append]
theorem catG_pre : ∀ (G : List Gy) (b0 : ByteArray), ∃ t, catG b0 G = b0 ++ t
  | [], b0 => ⟨⟨#[]⟩, by show b0 = _; apply ByteArray.ext; simp⟩
  | g :: G, b0 => by
    obtain ⟨t, ht⟩ := catG_pre G (b0 ++ g.1)
    exact ⟨g.1 ++ t, by show catG (b0 ++ g.1) G = _; rw [ht, ByteArray.append_assoc]⟩
/-- a text up to the end of a part ahead is that part -/
theorem catG_cut (G : List Gy) (k : Nat) : (catG ⟨#[]⟩ G).extract 0 (catG ⟨#[]⟩ (G.take k)).size = catG ⟨#[]⟩ (G.take k) := by
  rw [catG_split G ⟨#[]⟩ k]
  obtain ⟨t, ht⟩ := catG_pre (G.drop k) (catG ⟨#[]⟩ (G.take k))
  rw [ht]
  exact ByteArray.extract_append_eq_left rfl
theorem catG_take_le (G : List Gy) (k : Nat) : (catG ⟨#[]⟩ (G.take k)).size ≤ (catG ⟨#[]⟩ G).size := by
  rw [catG_size, catG_size]
  have := szG_take G k
  omega
end Go.Proofs.YtkeainhjghdfcaaGreat

/- (Screen).Text: its walk. -/
namespace Go.Proofs.YtkeainhjghdfcaaGreat
open Go.RowKit

/-- does a cell show anything? -/
def shown (x : Gl) : Bool := !(decide (x = blankC)) && !(decide (x.1 = ⟨#[]⟩))
/-- how many cells a row has without those at its end that show nothing -/
def keepN (l : List Gl) : Nat → Nat
  | 0 => 0
  | k + 1 => if shown (l.getD k zeroC) then k + 1 else keepN l k
/-- a row's text -/
def txtC (l : List Gl) : ByteArray := catG ⟨#[]⟩ (l.take (keepN l l.length))
set_option maxRecDepth 100000 in
set_option maxHeartbeats 8000000 in
theorem stext_any {w : World} {gb lb m cap : Nat} {G : List (List Gl)} {r c : Int} (hG : GridG w gb lb m cap G) (hn : 0 < G.length) (hm : 0 < m) (hm2 : m ≤ 1000) (hgl : G.length ≤ 1000) (hsz : ∀ l ∈ G, szG l ≤ 1000000000) :
    Calls Tryz.prog 26 #[.agg #[.pointer (some ⟨gb, 0, none⟩), .int .i64 r, .int .i64 c]] w fun e w' => ∃ u, e = .returned u ∧ Below w.heap.size w w' ∧ w'.ownsRow w.heap.size 9 1 u G.length ((G.map txtC).flatMap strE) := by
  have hgs := hG.grid.glt
  have hls := hG.llt hn hm
  have HGw := Lib.hid (fun (W : World) (hb : Below w.heap.size w W) => hG.kept hn hm (P := fun _ => False) (.of_below hb) id id)
  have HSz := Lib.hid hsz
  have HSh := Lib.hid hG.shape
  have hb1 := below1 w (.cells #[.pointer (some ⟨gb, 0, none⟩), .int .i64 r, .int .i64 c] 59)
  have hn1 := heap_alloc_new w (.cells #[.pointer (some ⟨gb, 0, none⟩), .int .i64 r, .int .i64 c] 59)
  have hz1 : (w.alloc (.cells #[.pointer (some ⟨gb, 0, none⟩), .int .i64 r, .int .i64 c] 59)).heap.size = w.heap.size + 1 := by simp
  have HB1 := Lib.hid hb1
  have HN1 := Lib.hid hn1
  clear hb1 hn1 hG hsz
  go_enter Tryz.func26, Tryz.ntmps26
  go_upto_region 1 with fail
  generalize w.alloc (.cells #[.pointer (some ⟨gb, 0, none⟩), .int .i64 r, .int .i64 c] 59) = w1 at HB1 HN1 hz1 ⊢
  have y0 := row_cells (i := 0) HN1.out rfl
  go_wp2_with fail
  refine (size_some gb G.length m w1 (HGw.out w1 HB1.out).grid.c0 (HGw.out w1 HB1.out).grid.c1).mono ?_
  rintro e w2 ⟨rfl, hB2⟩
  have HB2 := Lib.hid hB2
  clear y0 hB2
  go_wp2_with fail
  go_loopw [5, 18] (fun ov iv wr => ∃ k : Nat, k ≤ G.length ∧ iv = .int .i64 ((k : Nat) : Int) ∧ Below w1.heap.size w1 wr ∧ wr.ownsRow w1.heap.size 9 1 ov k (((G.take k).map txtC).flatMap strE)) (fun _ iv _ => G.length - (intOf iv).toNat)
  case atStart => exact ⟨0, Nat.zero_le _, rfl, HB2.out, World.ownsRow_nil _ _ _ _⟩
  case round =>
    obtain ⟨k, hk, rfl, hB, hO⟩ := hrel
    have HB := Lib.hid hB
    have HO := Lib.hid hO
    have hbs := hB.size
    obtain ⟨oa, oc, rfl⟩ := slice_of_owns hO
    have y0 := cell_later hB (row_cells (i := 0) HN1.out rfl)
    clear hB hO
    by_cases hlt : k < G.length
    · obtain ⟨l, hl⟩ : ∃ l, G[k]? = some l := ⟨G[k], List.getElem?_eq_getElem hlt⟩
      have hlm := HSh.out l (List.mem_of_getElem? hl)
      have hls2 := HSz.out l (List.mem_of_getElem? hl)
      have HTn := Lib.hid (show ((G.take (k + 1)).map txtC).flatMap strE = ((G.take k).map txtC).flatMap strE ++ strE (txtC l) by rw [List.take_add_one, hl, List.map_append, List.flatMap_append]; simp)
      have HGk := Lib.hid (HGw.out wr (HB1.out.trans (HB.out.mono (by omega))))
      have HL := Lib.hid hl
      subst hlm
      clear hl
      go_wp2_with fail
      refine (row_some gb lb l.length cap k G l wr HGk.out HL.out hm).mono ?_
      rintro e w3 ⟨g, gc, rfl, hO3, hB3⟩
      have HG3 := Lib.hid (show GlyIn w3 (.slice (some ⟨g, 0, none⟩) l.length gc) l from rd_of_owns hO3)
      have HB3 := Lib.hid (HB.out.trans (hB3.mono hbs))
      have HO3 := Lib.hid (owns_stays HO.out hB3)
      have hbs3 := HB3.out.size
      clear hO3 hB3 HB HO y0 HGk
      go_wp2_with fail
      go_loopw [7, 8, 26] (fun tv ev jv wj => ∃ j : Nat, j ≤ l.length ∧ jv = .int .i64 ((j : Nat) : Int) ∧ tv = .string (catG ⟨#[]⟩ (l.take j)) ∧ ev = .int .i64 (((catG ⟨#[]⟩ (l.take (keepN l j))).size : Nat) : Int) ∧ Below w3.heap.size w3 wj) (fun _ _ jv _ => l.length - (intOf jv).toNat)
      case atStart => exact ⟨0, Nat.zero_le _, rfl, rfl, rfl, .refl _ _⟩
      case round =>
        rename World => wj
        obtain ⟨j, hj, rfl, rfl, rfl, hBj⟩ := hrel
        have HBj := Lib.hid hBj
        by_cases hjl : j < l.length
        · obtain ⟨x, hx⟩ : ∃ x, l[j]? = some x := ⟨l[j], List.getElem?_eq_getElem hjl⟩
          obtain ⟨_, _, _, hv, _, _, _, d0, d1⟩ := gly_cells (HG3.out.below hBj) hx
          cases hv
          rw [Nat.zero_add] at d0 d1
          have hcs := catG_size (l.take j) ⟨#[]⟩
          have hst := szG_take l (j + 1)
          have hsx : szG (l.take (j + 1)) = szG (l.take j) + x.1.size := by rw [take_snoc hx, szG_app, szG_one]
          have HCn := Lib.hid (show catG ⟨#[]⟩ (l.take (j + 1)) = catG ⟨#[]⟩ (l.take j) ++ x.1 by rw [take_snoc hx, catG_snoc])
          have hkn : keepN l (j + 1) = if shown x then j + 1 else keepN l j := by
            show (if shown (l.getD j zeroC) then j + 1 else keepN l j) = _
            rw [List.getD_eq_getElem?_getD, hx]; rfl
          have HKn := Lib.hid hkn
          have hq := fun W => neq_gcell x blankC W
          obtain ⟨t, d⟩ := x
          dsimp only at d0 d1 hsx HCn
          have hz0 : (⟨#[]⟩ : ByteArray).size = 0 := rfl
          have cc := run_string_add_sum (P := Tryz.prog) (wj.alloc (.cells #[.string t, .int .i64 d] 48)) (catG ⟨#[]⟩ (l.take j)) t (by omega)
          clear hx hkn hBj hcs hst hsx
          have hnW := heap_alloc_new wj (.cells #[.string t, .int .i64 d] 48)
          have HBW := Lib.hid (HBj.out.trans ((below1 wj (.cells #[.string t, .int .i64 d] 48)).mono HBj.out.size))
          have HBj2 := HBj
          go_upto_region 11 with fail
          generalize wj.alloc (.cells #[.string t, .int .i64 d] 48) = W at hnW HBW ⊢
          generalize wj.heap.size = cb at hnW ⊢
          have x0 := row_cells (i := 0) hnW rfl
          have x1 := row_cells (i := 1) hnW rfl
          have HBl := Lib.hid (fun (q : Nat) => blank_any (W.drewN q))
          have hnb := fun (q : Nat) => below1 (W.drewN q) (.cells #[.string ⟨#[32]⟩, .int .i64 1] 48)
          have xb0 : ((W.drewN 1).alloc (.cells #[.string ⟨#[32]⟩, .int .i64 1] 48)).cell? ⟨cb, 0, none⟩ = some (.string t) := cell_later (hnb 1) (show (W.drewN 1).cell? _ = _ from x0)
          have xb1 : ((W.drewN 1).alloc (.cells #[.string ⟨#[32]⟩, .int .i64 1] 48)).cell? ⟨cb, 1, none⟩ = some (.int .i64 d) := cell_later (hnb 1) (show (W.drewN 1).cell? _ = _ from x1)
          have HBb := Lib.hid (show Below w3.heap.size w3 ((W.drewN 1).alloc (.cells #[.string ⟨#[32]⟩, .int .i64 1] 48)) from (below_dN HBW.out 1).alloc (by have := HBW.out.size; exact this) _)
          clear hnb hnW d0 d1 cc
          by_cases hb : ((t, d) : Gl) = blankC
          · have hqf : ∀ W, Sem.run Tryz.prog (binOp .neq 48 (.agg #[.string t, .int .i64 d]) (.agg #[.string ⟨#[32]⟩, .int .i64 1])) W = .ok (.bool false) W := fun W => by rw [show (Value.agg #[.string ⟨#[32]⟩, .int .i64 1]) = .agg #[.string blankC.1, .int .i64 blankC.2] from rfl, hq W, decide_eq_true hb]; rfl
            have HKe := Lib.hid (show keepN l (j + 1) = keepN l j by rw [HKn.out, if_neg (by unfold shown; rw [decide_eq_true hb]; simp)])
            clear hq hb
            refine wp_region_held_drew (S := fun w' => w'.cell? ⟨cb, 0, none⟩ = some (.string t) ∧ w'.cell? ⟨cb, 1, none⟩ = some (.int .i64 d)) (by kernel_rfl) ⟨x0, x1⟩ (fun hHeld => ?_)
            refine hd_take 0 rfl (by kernel_rfl) (by kernel_rfl) (by kernel_rfl) (fun _ _ _ h => h) (by rfl) (by intro w hSw; (try dsimp only at hSw); obtain ⟨hs1, hs2⟩ := hSw; go_simp; first | done | with_reducible rfl) hHeld ?_
            try simp only [Act.put, List.setIfInBounds_toArray, List.set_cons_zero, List.set_cons_succ]
            refine hd_step 1 (by kernel_rfl) rfl (fun K hK => ?_)
            go_simp
            go_at_call 33
            refine (HBl.out 1).mono ?_
            rintro e w7 ⟨rfl, rfl⟩
            go_wp2_with fail
            refine hK.out _ _ ⟨xb0, xb1⟩ (fun hHeld => ?_)
            clear hK K
            try simp only [Act.put, List.setIfInBounds_toArray, List.set_cons_zero, List.set_cons_succ]
            refine hd_take 2 rfl (by kernel_rfl) (by kernel_rfl) (by kernel_rfl) (fun _ _ _ h => h) (by rfl) (by intro w hSw; (try dsimp only at hSw); obtain ⟨hs1, hs2⟩ := hSw; go_simp; first | done | with_reducible rfl) hHeld ?_
            try simp only [Act.put, List.setIfInBounds_toArray, List.set_cons_zero, List.set_cons_succ]
            refine hd_take 3 rfl (by kernel_rfl) (by kernel_rfl) (by kernel_rfl) (fun _ _ _ h => h) (by rfl) (by intro w hSw; (try dsimp only at hSw); obtain ⟨hs1, hs2⟩ := hSw; go_simp; first | done | with_reducible rfl) hHeld ?_
            try simp only [Act.put, List.setIfInBounds_toArray, List.set_cons_zero, List.set_cons_succ]
            refine hd_skip 4 rfl (by kernel_rfl) (by kernel_rfl) (by kernel_rfl) (fun _ _ _ h => h) (by rfl) hHeld ?_
            try simp only [Act.put, List.setIfInBounds_toArray, List.set_cons_zero, List.set_cons_succ]
            refine hd_skip 5 rfl (by kernel_rfl) (by kernel_rfl) (by kernel_rfl) (fun _ _ _ h => h) (by rfl) hHeld ?_
            try simp only [Act.put, List.setIfInBounds_toArray, List.set_cons_zero, List.set_cons_succ]
            refine hd_skip 6 rfl (by kernel_rfl) (by kernel_rfl) (by kernel_rfl) (fun _ _ _ h => h) (by rfl) hHeld ?_
            try simp only [Act.put, List.setIfInBounds_toArray, List.set_cons_zero, List.set_cons_succ]
            refine hd_take 7 rfl (by kernel_rfl) (by kernel_rfl) (by kernel_rfl) (fun _ _ _ h => h) (by rfl) (by intro w hSw; (try dsimp only at hSw); obtain ⟨hs1, hs2⟩ := hSw; go_simp; first | done | with_reducible rfl) hHeld ?_
            try simp only [Act.put, List.setIfInBounds_toArray, List.set_cons_zero, List.set_cons_succ]
            refine wpAnyH_done (by kernel_rfl) ?_ _
            clear hHeld x0 x1 xb0 xb1 HBW HBj
            go_wp2_with fail
            go_roundw
            case rel => exact ⟨j + 1, by omega, by go_num, by rw [HCn.out], by rw [HKe.out], HBb.out⟩
            case measure => simp [intOf] <;> omega
          · have hqf : ∀ W, Sem.run Tryz.prog (binOp .neq 48 (.agg #[.string t, .int .i64 d]) (.agg #[.string ⟨#[32]⟩, .int .i64 1])) W = .ok (.bool true) W := fun W => by rw [show (Value.agg #[.string ⟨#[32]⟩, .int .i64 1]) = .agg #[.string blankC.1, .int .i64 blankC.2] from rfl, hq W, decide_eq_false hb]; rfl
            by_cases hte : t = ⟨#[]⟩
            · have HKe := Lib.hid (show keepN l (j + 1) = keepN l j by rw [HKn.out, if_neg (by unfold shown; rw [decide_eq_true hte]; simp)])
              have hte1 : t.toList.isEmpty = true := by rw [hte, empty_toList]; rfl
              clear hte
              clear hq hb
              refine wp_region_held_drew (S := fun w' => w'.cell? ⟨cb, 0, none⟩ = some (.string t) ∧ w'.cell? ⟨cb, 1, none⟩ = some (.int .i64 d)) (by kernel_rfl) ⟨x0, x1⟩ (fun hHeld => ?_)
              refine hd_take 0 rfl (by kernel_rfl) (by kernel_rfl) (by kernel_rfl) (fun _ _ _ h => h) (by rfl) (by intro w hSw; (try dsimp only at hSw); obtain ⟨hs1, hs2⟩ := hSw; go_simp; first | done | with_reducible rfl) hHeld ?_
              try simp only [Act.put, List.setIfInBounds_toArray, List.set_cons_zero, List.set_cons_succ]
              refine hd_step 1 (by kernel_rfl) rfl (fun K hK => ?_)
              go_simp
              go_at_call 33
              refine (HBl.out 1).mono ?_
              rintro e w7 ⟨rfl, rfl⟩
              go_wp2_with fail
              refine hK.out _ _ ⟨xb0, xb1⟩ (fun hHeld => ?_)
              clear hK K
              try simp only [Act.put, List.setIfInBounds_toArray, List.set_cons_zero, List.set_cons_succ]
              refine hd_take 2 rfl (by kernel_rfl) (by kernel_rfl) (by kernel_rfl) (fun _ _ _ h => h) (by rfl) (by intro w hSw; (try dsimp only at hSw); obtain ⟨hs1, hs2⟩ := hSw; go_simp; first | done | with_reducible rfl) hHeld ?_
              try simp only [Act.put, List.setIfInBounds_toArray, List.set_cons_zero, List.set_cons_succ]
              refine hd_take 3 rfl (by kernel_rfl) (by kernel_rfl) (by kernel_rfl) (fun _ _ _ h => h) (by rfl) (by intro w hSw; (try dsimp only at hSw); obtain ⟨hs1, hs2⟩ := hSw; go_simp; first | done | with_reducible rfl) hHeld ?_
              try simp only [Act.put, List.setIfInBounds_toArray, List.set_cons_zero, List.set_cons_succ]
              refine hd_take 4 rfl (by kernel_rfl) (by kernel_rfl) (by kernel_rfl) (fun _ _ _ h => h) (by rfl) (by intro w hSw; (try dsimp only at hSw); obtain ⟨hs1, hs2⟩ := hSw; go_simp; first | done | with_reducible rfl) hHeld ?_
              try simp only [Act.put, List.setIfInBounds_toArray, List.set_cons_zero, List.set_cons_succ]
              refine hd_take 5 rfl (by kernel_rfl) (by kernel_rfl) (by kernel_rfl) (fun _ _ _ h => h) (by rfl) (by intro w hSw; (try dsimp only at hSw); obtain ⟨hs1, hs2⟩ := hSw; go_simp; first | done | with_reducible rfl) hHeld ?_
              try simp only [Act.put, List.setIfInBounds_toArray, List.set_cons_zero, List.set_cons_succ]
              refine hd_take 6 rfl (by kernel_rfl) (by kernel_rfl) (by kernel_rfl) (fun _ _ _ h => h) (by rfl) (by intro w hSw; (try dsimp only at hSw); obtain ⟨hs1, hs2⟩ := hSw; go_simp; first | done | with_reducible rfl) hHeld ?_
              try simp only [Act.put, List.setIfInBounds_toArray, List.set_cons_zero, List.set_cons_succ]
              refine hd_take 7 rfl (by kernel_rfl) (by kernel_rfl) (by kernel_rfl) (fun _ _ _ h => h) (by rfl) (by intro w hSw; (try dsimp only at hSw); obtain ⟨hs1, hs2⟩ := hSw; go_simp; first | done | with_reducible rfl) hHeld ?_
              try simp only [Act.put, List.setIfInBounds_toArray, List.set_cons_zero, List.set_cons_succ]
              refine wpAnyH_done (by kernel_rfl) ?_ _
              clear hHeld x0 x1 xb0 xb1 HBW HBj
              go_wp2_with fail
              go_roundw
              case rel => exact ⟨j + 1, by omega, by go_num, by rw [HCn.out], by rw [HKe.out], HBb.out⟩
              case measure => simp [intOf] <;> omega
            · have HKe := Lib.hid (show catG ⟨#[]⟩ (l.take (keepN l (j + 1))) = catG ⟨#[]⟩ (l.take j) ++ t by rw [HKn.out, if_pos (by unfold shown; rw [decide_eq_false hb, decide_eq_false hte]; rfl), HCn.out])
              have hte1 : t.toList.isEmpty = false := by
                rcases hb2 : t.toList.isEmpty with _ | _
                · rfl
                · exfalso
                  exact hte (toList_inj (by rw [List.isEmpty_iff.1 hb2, empty_toList]))
              clear hq hb
              refine wp_region_held_drew (S := fun w' => w'.cell? ⟨cb, 0, none⟩ = some (.string t) ∧ w'.cell? ⟨cb, 1, none⟩ = some (.int .i64 d)) (by kernel_rfl) ⟨x0, x1⟩ (fun hHeld => ?_)
              refine hd_take 0 rfl (by kernel_rfl) (by kernel_rfl) (by kernel_rfl) (fun _ _ _ h => h) (by rfl) (by intro w hSw; (try dsimp only at hSw); obtain ⟨hs1, hs2⟩ := hSw; go_simp; first | done | with_reducible rfl) hHeld ?_
              try simp only [Act.put, List.setIfInBounds_toArray, List.set_cons_zero, List.set_cons_succ]
              refine hd_step 1 (by kernel_rfl) rfl (fun K hK => ?_)
              go_simp
              go_at_call 33
              refine (HBl.out 1).mono ?_
              rintro e w7 ⟨rfl, rfl⟩
              go_wp2_with fail
              refine hK.out _ _ ⟨xb0, xb1⟩ (fun hHeld => ?_)
              clear hK K
              try simp only [Act.put, List.setIfInBounds_toArray, List.set_cons_zero, List.set_cons_succ]
              refine hd_take 2 rfl (by kernel_rfl) (by kernel_rfl) (by kernel_rfl) (fun _ _ _ h => h) (by rfl) (by intro w hSw; (try dsimp only at hSw); obtain ⟨hs1, hs2⟩ := hSw; go_simp; first | done | with_reducible rfl) hHeld ?_
              try simp only [Act.put, List.setIfInBounds_toArray, List.set_cons_zero, List.set_cons_succ]
              refine hd_take 3 rfl (by kernel_rfl) (by kernel_rfl) (by kernel_rfl) (fun _ _ _ h => h) (by rfl) (by intro w hSw; (try dsimp only at hSw); obtain ⟨hs1, hs2⟩ := hSw; go_simp; first | done | with_reducible rfl) hHeld ?_
              try simp only [Act.put, List.setIfInBounds_toArray, List.set_cons_zero, List.set_cons_succ]
              refine hd_take 4 rfl (by kernel_rfl) (by kernel_rfl) (by kernel_rfl) (fun _ _ _ h => h) (by rfl) (by intro w hSw; (try dsimp only at hSw); obtain ⟨hs1, hs2⟩ := hSw; go_simp; first | done | with_reducible rfl) hHeld ?_
              try simp only [Act.put, List.setIfInBounds_toArray, List.set_cons_zero, List.set_cons_succ]
              refine hd_take 5 rfl (by kernel_rfl) (by kernel_rfl) (by kernel_rfl) (fun _ _ _ h => h) (by rfl) (by intro w hSw; (try dsimp only at hSw); obtain ⟨hs1, hs2⟩ := hSw; go_simp; first | done | with_reducible rfl) hHeld ?_
              try simp only [Act.put, List.setIfInBounds_toArray, List.set_cons_zero, List.set_cons_succ]
              refine hd_take 6 rfl (by kernel_rfl) (by kernel_rfl) (by kernel_rfl) (fun _ _ _ h => h) (by rfl) (by intro w hSw; (try dsimp only at hSw); obtain ⟨hs1, hs2⟩ := hSw; go_simp; first | done | with_reducible rfl) hHeld ?_
              try simp only [Act.put, List.setIfInBounds_toArray, List.set_cons_zero, List.set_cons_succ]
              refine hd_take 7 rfl (by kernel_rfl) (by kernel_rfl) (by kernel_rfl) (fun _ _ _ h => h) (by rfl) (by intro w hSw; (try dsimp only at hSw); obtain ⟨hs1, hs2⟩ := hSw; go_simp; first | done | with_reducible rfl) hHeld ?_
              try simp only [Act.put, List.setIfInBounds_toArray, List.set_cons_zero, List.set_cons_succ]
              refine wpAnyH_done (by kernel_rfl) ?_ _
              clear hHeld x0 x1 xb0 xb1 HBW HBj
              go_wp2_with fail
              go_roundw
              case rel => exact ⟨j + 1, by omega, by go_num, by rw [HCn.out], by rw [HKe.out, ByteArray.size_append, Int.natCast_add], HBb.out⟩
              case measure => simp [intOf] <;> omega
        · have hje : j = l.length := by omega
          subst hje
          rw [List.take_length]
          have hcut : (catG ⟨#[]⟩ l).extract 0 (catG ⟨#[]⟩ (l.take (keepN l l.length))).size = txtC l := catG_cut l _
          have hle := catG_take_le l (keepN l l.length)
          have hsz := catG_size l ⟨#[]⟩
          have hz0 : (⟨#[]⟩ : ByteArray).size = 0 := rfl
          obtain ⟨en, hen⟩ : ∃ en, en = (catG ⟨#[]⟩ (l.take (keepN l l.length))).size := ⟨_, rfl⟩
          rw [← hen] at hcut hle ⊢
          obtain ⟨ls, hls⟩ : ∃ ls, ls = catG ⟨#[]⟩ l := ⟨_, rfl⟩
          rw [← hls] at hcut hle hsz ⊢
          have q0 : (0 : Int) ≤ (en : Int) := by omega
          have q1 : (en : Int) ≤ (ls.size : Int) := by omega
          have q2 : ((en : Nat) : Int).toNat = en := by omega
          have HO4 := Lib.hid (owns_stays HO3.out HBj.out)
          have HBq := Lib.hid (HB3.out.trans (HBj.out.mono hbs3))
          have hbig : (k + 1) * 16 ≤ 140737488355328 := by omega
          have hbs4 := HBq.out.size
          have e1 := IntWalk.i64_in ((k : Int) + 1) (by omega)
          have hsl : ∀ W, (Instr.slice 9 (.string ls) none (some (.int .i64 (en : Int))) none).run Tryz.prog W = .ok (.string (txtC l)) W := fun W => by
            rw [run_slice_string_h W 9 ls Tryz.underlying9 .i64 (en : Int) q0 q1, q2, hcut]
          clear hen hls hsz hle hBj hjl hj HO3 HB3 hcut
          go_wp2_with (at_builtin; go_loud (refine wpList_app1 _ rfl (.tmp 45) (.tmp 49) _ rfl EStr _ _ _ rfl HO4.out 1 1 (strE (txtC l)) rfl (by decide) rfl (strE_one _) hbig hbs4 ?_); intro g9 cp9 w9 ho9 hg9 hf9; have HB9 := Lib.hid (below_app HBq.out hbs4 HO4.out (Nat.le_refl _) hg9); have HO9 := Lib.hid ho9; clear ho9 hg9 hf9)
          go_roundw
          case rel => exact ⟨k + 1, by omega, by go_num, HB9.out, by rw [HTn.out]; exact HO9.out⟩
          case measure => simp [intOf] <;> omega
    · have hke : k = G.length := by omega
      subst hke
      rw [List.take_length] at HO
      clear hlt hk
      go_wp2_with fail
      go_ret
      exact ⟨_, rfl, below_trans' HB1.out HB.out, owns_lower HO.out (by omega)⟩
end Go.Proofs.YtkeainhjghdfcaaGreat

/- screen.Of, where there is no grid. -/
namespace Go.Proofs.YtkeainhjghdfcaaGreat
open Go.RowKit

section
variable {R : List Rw} {P : List (List Int)} {s : List Int} {w : World} {pv sv : Value} {tp : Nat}
set_option maxRecDepth 100000 in
set_option maxHeartbeats 8000000 in
theorem sof_none (H : (tabOf R).Ok) (hT : Tb R w tp) (hP : TextsIn w pv P) (hPo : ∀ p ∈ P, RunesOk p ∧ p.length ≤ 20) (hPl : P.length ≤ 4) (hs : RunesIn w sv s) (ok : RunesOk s) (hl : s.length ≤ 100) (c : Int) {rows cols : Int} (hno : rows < 1 ∨ 500 < rows ∨ cols < 2 ∨ 1000 < cols) (hcm : cols ≤ 9223372036854775807) :
    Calls Tryz.prog 22 #[.pointer (some ⟨tp, 0, none⟩), .agg #[pv, sv, .int .i64 c], .int .i64 rows, .int .i64 cols] w fun e w' => e = .returned (.agg #[.pointer none, .int .i64 0, .int .i64 0]) ∧ Below w.heap.size w w' := by
  have hV := fun (W : World) (hb : Below w.heap.size w W) => vglyphs_any H (hT.below hb) (hP.below hb) hPo hPl (hs.below hb) ok hl c
  have HV := Lib.hid hV
  have hLl := view_le R hPo hPl hl
  have hkl := curK_le H (P := P) (s := s) (c := c)
  have hth := view_thin R P s
  generalize curK R P s c = k at HV hkl
  generalize viewG R P s = L at HV hLl hkl hth
  have HTh := Lib.hid hth
  obtain ⟨sl, scap, rfl, _, _, _⟩ := runes_cells hs
  obtain ⟨pa, pcap, rfl, _, _⟩ := texts_shape hP
  have hba := below1 w (.cells #[.slice pa P.length pcap, .slice sl s.length scap, .int .i64 c] 61)
  have hna := heap_alloc_new w (.cells #[.slice pa P.length pcap, .slice sl s.length scap, .int .i64 c] 61)
  have hbb := below1 (w.alloc (.cells #[.slice pa P.length pcap, .slice sl s.length scap, .int .i64 c] 61)) (.cells #[.pointer none, .int .i64 0, .int .i64 0] 59)
  have hnb := heap_alloc_new (w.alloc (.cells #[.slice pa P.length pcap, .slice sl s.length scap, .int .i64 c] 61)) (.cells #[.pointer none, .int .i64 0, .int .i64 0] 59)
  have hza : (w.alloc (.cells #[.slice pa P.length pcap, .slice sl s.length scap, .int .i64 c] 61)).heap.size = w.heap.size + 1 := by simp
  have hzb : ((w.alloc (.cells #[.slice pa P.length pcap, .slice sl s.length scap, .int .i64 c] 61)).alloc (.cells #[.pointer none, .int .i64 0, .int .i64 0] 59)).heap.size = w.heap.size + 2 := by simp
  rw [hza] at hbb hnb
  have hB1 := hba.trans (hbb.mono (by omega))
  have HB1 := Lib.hid hB1
  have HNV := Lib.hid ((hbb.block _ (by omega)).trans hna)
  have HNR := Lib.hid hnb
  clear hT hP hs ok hPo hV hba hbb hna hnb hB1 hza
  go_enter Tryz.func22, Tryz.ntmps22
  go_upto_region 1 with fail
  generalize (w.alloc (.cells #[.slice pa P.length pcap, .slice sl s.length scap, .int .i64 c] 61)).alloc (.cells #[.pointer none, .int .i64 0, .int .i64 0] 59) = w1 at HB1 HNV HNR hzb ⊢
  have v0 := row_cells (i := 0) HNV.out rfl
  have v1 := row_cells (i := 1) HNV.out rfl
  have v2 := row_cells (i := 2) HNV.out rfl
  go_wp2_with fail
  refine (HV.out w1 HB1.out).mono ?_
  rintro e w2 ⟨u, rfl, hB2, hU2⟩
  obtain ⟨ua, uc, rfl, _, _⟩ := gly_shape hU2
  have HB2 := Lib.hid (HB1.out.trans (hB2.mono (by omega)))
  have HR2 := Lib.hid ((hB2.block _ (row_len HNR.out)).trans HNR.out)
  have HU2 := Lib.hid (show Rs w2.heap.size w2 genc 2 (.slice ua L.length uc) L from hU2)
  have hs2 := hB2.size
  clear hB2 hU2 HB1 HNR HNV v0 v1 v2 HV
  go_wp2_with fail
  refine (place_any _ L cols w2 HU2.out (by omega) hcm HTh.out).mono ?_
  rintro e w3 ⟨vs, rfl, hB3, hs, hiff⟩
  by_cases hc2 : cols < 2
  · obtain rfl := hiff.2 hc2
    have hr3 := (hB3.block _ (row_len HR2.out)).trans HR2.out
    have r0 := row_cells (i := 0) hr3 rfl
    have r1 := row_cells (i := 1) hr3 rfl
    have r2 := row_cells (i := 2) hr3 rfl
    have rw0 := row_warm hr3 0
    have rw1 := row_warm hr3 1
    have rw2 := row_warm hr3 2
    have hnil : Sem.run Tryz.prog (binOp .eql 137 (.slice none 0 0) (.slice none 0 0)) w3 = .ok (.bool true) w3 := eql_nil_spots _ _ _ _
    have HB3 := Lib.hid (HB2.out.trans (hB3.mono (by omega)))
    clear hr3 hs hiff hB3 HR2 HU2
    go_wp2_with fail
    refine ret_cell1 (ad := ⟨w.heap.size + 1, 0, none⟩) rfl rfl (run_loadVar_mid _ _ 0 _ [.pointer none, .int .i64 0, .int .i64 0] _ (range3s (by go_simp) (by go_simp) (by go_simp)) Tryz.underlying59 rfl (by kernel_rfl)) rfl ?_
    exact ⟨rfl, ((HB3.out.setCell (by show w.heap.size ≤ w.heap.size + 1; omega) _).setCell (by show w.heap.size ≤ w.heap.size + 1; omega) _).setCell (by show w.heap.size ≤ w.heap.size + 1; omega) _⟩
  have hsl : (spotsL cols L).length = L.length + 1 := by rw [spotsL_len, if_neg (by omega)]
  obtain ⟨sg, sc, rfl, hsg, hsg2⟩ := ownBlock_of_owns hs (by omega)
  obtain ⟨z0, _⟩ := spot_cells (by omega) hs (Nat.le_refl L.length)
  obtain ⟨z1, z2⟩ := spot_cells (by omega) hs hkl
  rw [hsl]
  have HB3 := Lib.hid (HB2.out.trans (hB3.mono (by omega)))
  have HR3 := Lib.hid ((hB3.block _ (row_len HR2.out)).trans HR2.out)
  have HU3 := Lib.hid ((Rd.below HU2.out hB3 (Nat.le_refl _)).mono hB3.size)
  have hs3 := hB3.size
  clear hB3 hs hsl HB2 HR2 HU2
  generalize hE : itemAt cols L L.length = eI at z0
  generalize hK : itemAt cols L k = kI at z1 z2
  obtain ⟨er, ec⟩ := eI
  obtain ⟨kr, kc⟩ := kI
  dsimp only at z0 z1 z2
  have b3 := itemAt_bd cols (by omega) L HTh.out L.length (Nat.le_refl _)
  rw [hE] at b3
  dsimp only at b3
  have hnil : Sem.run Tryz.prog (binOp .eql 137 (.slice (some ⟨sg, 0, none⟩) (L.length + 1) sc) (.slice none 0 0)) w3 = .ok (.bool false) w3 := eql_nil_spots _ _ _ _
  have q1 : (L.length : Int) < ((L.length + 1 : Nat) : Int) := by omega
  have q2 : (L.length : Int) < (L.length : Int) + 1 := by omega
  have q3 : (0 : Int) ≤ (L.length : Int) := by omega
  have q4 : (k : Int) < ((L.length + 1 : Nat) : Int) := by omega
  have q5 : (k : Int) < (L.length : Int) + 1 := by omega
  have q6 : (0 : Int) ≤ (k : Int) := by omega
  have e1 := IntWalk.i64_in (er + 1) (by omega)
  have hb4 := below1 w3 (.cells #[.int .i64 kr, .int .i64 kc] 57)
  have hn4 := heap_alloc_new w3 (.cells #[.int .i64 kr, .int .i64 kc] 57)
  have hz4 : (w3.alloc (.cells #[.int .i64 kr, .int .i64 kc] 57)).heap.size = w3.heap.size + 1 := by simp
  have HB4 := Lib.hid (HB3.out.trans (hb4.mono (by omega)))
  have HR4 := Lib.hid ((hb4.block _ (row_len HR3.out)).trans HR3.out)
  have HU4 := Lib.hid ((Rd.below HU3.out hb4 (Nat.le_refl _)).mono hb4.size)
  clear hb4 hE hK HB3 HR3 HU3
  go_upto_region 7 with fail
  clear z0 z1 z2 q1 q2 q3 q4 q5 q6
  generalize w3.alloc (.cells #[.int .i64 kr, .int .i64 kc] 57) = w4 at HB4 HR4 HU4 hn4 hz4 ⊢
  generalize w3.heap.size = ab at hn4 hz4 hs3 ⊢
  have y0 := row_cells (i := 0) hn4 rfl
  go_wp2_with fail
  refine (top_some (er + 1) rows kr w4).mono ?_
  rintro e w5 ⟨top, rfl, rfl⟩
  go_wp2_with fail
  refine (lay_none _ rows cols top w4 hno).mono ?_
  rintro e w6 ⟨rfl, rfl⟩
  have hr6 := HR4.out
  have r0 := row_cells (i := 0) hr6 rfl
  have r1 := row_cells (i := 1) hr6 rfl
  have r2 := row_cells (i := 2) hr6 rfl
  have rw0 := row_warm hr6 0
  have rw1 := row_warm hr6 1
  have rw2 := row_warm hr6 2
  have hql := row_len HR4.out
  clear hr6 hn4 HR4 HU4
  go_wp2_with fail
  refine ret_cell1 (ad := ⟨w.heap.size + 1, 0, none⟩) rfl rfl (run_loadVar_mid _ _ 0 _ [.pointer none, .int .i64 0, .int .i64 0] _ (range3s (by go_simp) (by go_simp) (by go_simp)) Tryz.underlying59 rfl (by kernel_rfl)) rfl ?_
  exact ⟨rfl, ((HB4.out.setCell (by show w.heap.size ≤ w.heap.size + 1; omega) _).setCell (by show w.heap.size ≤ w.heap.size + 1; omega) _).setCell (by show w.heap.size ≤ w.heap.size + 1; omega) _⟩
end
end Go.Proofs.YtkeainhjghdfcaaGreat

/- A glyph whose text is a blank has one column; facts of the given rows. -/
namespace Go.Proofs.YtkeainhjghdfcaaGreat
open Go.RowKit

theorem nums_blank {xs : List Int} (h : ∀ x ∈ xs, 0 ≤ x ∧ x ≤ 255) (e : strOfNums xs = ⟨#[32]⟩) : xs = [32] := by
  have h1 : (strOfNums xs).data.toList = [32] := by rw [e]
  rw [strOfNums_data] at h1
  match xs, h, h1 with
  | [], _, h1 => cases h1
  | [x], h, h1 =>
    have h2 := h x List.mem_cons_self
    have h3 : UInt8.ofNat x.toNat = 32 := by simpa using h1
    have h4 : (UInt8.ofNat x.toNat).toNat = 32 := by rw [h3]; rfl
    rw [UInt8.toNat_ofNat'] at h4
    congr 1
    omega
  | x :: y :: xs, _, h1 => simp at h1
theorem putN_ne (r : Int) : 1 ≤ (putN r).length := by
  unfold putN
  split
  · exact Nat.le_refl _
  · split
    · simp
    · split <;> simp
theorem putN_blank {r : Int} (h : putN r = [32]) : r = 32 := by
  have hf : fixR r = 32 := by
    unfold putN at h
    split at h
    · simpa using h
    · split at h
      · simp at h
      · split at h <;> simp at h
  unfold fixR at hf
  split at hf
  · exact hf
  · omega
theorem encN_blank {l : List Int} (h : encN l = [32]) : l = [32] := by
  match l with
  | [] => cases h
  | r :: t =>
    have h1 : putN r ++ encN t = [32] := h
    have h2 := putN_ne r
    have h3 : (putN r).length + (encN t).length = 1 := by rw [← List.length_append, h1]; rfl
    have h4 : encN t = [] := List.eq_nil_of_length_eq_zero (by omega)
    rw [h4, List.append_nil] at h1
    rw [putN_blank h1]
    match t with
    | [] => rfl
    | a :: t =>
      have h5 : putN a ++ encN t = [] := h4
      have h6 := putN_ne a
      have h7 : (putN a).length = 0 := by rw [(List.append_eq_nil_iff.1 h5).1]; rfl
      omega
theorem blank_one {R : List Rw} (hw : wideB R 32 = false) {LL : List (List Int)} {g : Gy} (hg : g ∈ lineG R LL) (ht : g.1 = ⟨#[32]⟩) : g.2 = 1 := by
  unfold lineG at hg
  obtain ⟨c, _, hc⟩ := List.mem_flatMap.1 hg
  unfold glOf at hc
  split at hc
  · cases hc
  · split at hc
    · obtain ⟨r, _, hr⟩ := List.mem_flatMap.1 hc
      unfold caretG at hr
      split at hr
      · simp only [List.mem_cons, List.not_mem_nil, or_false] at hr
        rcases hr with rfl | rfl <;> rfl
      · split at hr
        · simp only [List.mem_cons, List.not_mem_nil, or_false] at hr
          rcases hr with rfl | rfl <;> rfl
        · simp only [List.mem_cons, List.not_mem_nil, or_false] at hr
          rw [hr]
    · simp only [List.mem_cons, List.not_mem_nil, or_false] at hc
      subst hc
      have h1 : strOfNums (encN (lean R c)) = ⟨#[32]⟩ := ht
      have h2 := encN_blank (nums_blank (encN_rng _) h1)
      show ((widN R (lean R c) : Nat) : Int) = 1
      rw [h2]
      unfold widN hitsF hitsF hitB
      rw [hw]
      simp
/-- does a glyph show anything? -/
def inky (g : Gy) : Bool := !decide (g.1 = ⟨#[32]⟩)
theorem view_live {R : List Rw} (hw : wideB R 32 = false) {P : List (List Int)} {s : List Int} : ∀ g ∈ viewG R P s, live g = inky g := by
  intro g hg
  have h1 := view_thin R P s g hg
  have h2 : g.1 = ⟨#[32]⟩ → g.2 = 1 := by
    unfold viewG partsG at hg
    rcases List.mem_append.1 hg with h | h
    · obtain ⟨p, _, hp⟩ := List.mem_flatMap.1 h
      exact blank_one hw hp
    · exact blank_one hw h
  unfold live inky
  have h3 : decide (0 < g.2) = true := decide_eq_true (by omega)
  rw [h3, Bool.and_true]
  congr 1
  rw [decide_eq_decide]
  constructor
  · intro e; rw [e]; rfl
  · intro e
    obtain ⟨a, b⟩ := g
    have := h2 e
    dsimp only at this e
    rw [this, e]; rfl
theorem count_live {R : List Rw} (hw : wideB R 32 = false) {P : List (List Int)} {s : List Int} : (viewG R P s).countP live = (viewG R P s).countP inky :=
  List.countP_congr fun g hg => by rw [view_live hw g hg]
theorem cntG_snoc {G : List (List Gl)} {r : Nat} {l : List Gl} (h : G[r]? = some l) : cntG (G.take (r + 1)) = cntG (G.take r) + l.countP live := by
  unfold cntG
  rw [List.take_add_one, h, List.map_append, List.sum_append]
  simp
theorem cntG_le {G : List (List Gl)} {m : Nat} (h : ∀ l ∈ G, l.length = m) : cntG G ≤ G.length * m := by
  induction G with
  | nil => exact Nat.zero_le _
  | cons l G ih =>
    have h1 := ih fun x hx => h x (List.mem_cons_of_mem _ hx)
    have h2 : l.countP live ≤ l.length := List.countP_le_length
    rw [h l List.mem_cons_self] at h2
    have e : cntG (l :: G) = l.countP live + cntG G := by unfold cntG; simp
    rw [e, List.length_cons, Nat.succ_mul]
    omega
theorem count_snoc {p : Gy → Bool} {L : List Gy} {k : Nat} {g : Gy} (h : L[k]? = some g) : (L.take (k + 1)).countP p = (L.take k).countP p + if p g then 1 else 0 := by
  rw [List.take_add_one, h, List.countP_append]
  simp [List.countP_cons]
set_option maxRecDepth 100000 in
theorem flatRows_any : ∃ R : List Rw, RFacts R ∧ wideB R 32 = false ∧ ∀ w, Calls Tryz.prog 17 #[] w (LitPost R w) :=
  ⟨((((((((rowsFn Tryz.f51) ++ rowsFn Tryz.f52) ++ rowsFn Tryz.f53) ++ rowsFn Tryz.f54) ++ rowsFn Tryz.f55) ++ rowsFn Tryz.f56) ++ rowsFn Tryz.f57) ++ rowsFn Tryz.f58), rfacts_of (by kernel_rfl) (by kernel_rfl) (by kernel_rfl) (by kernel_rfl) (by kernel_rfl) (by kernel_rfl), (show wideB _ 32 = false by kernel_rfl), fun w => apiRows_of _ _ _ _ _ _ _ _ (of_decide_eq_true (by kernel_rfl)) (of_decide_eq_true (by kernel_rfl)) (of_decide_eq_true (by kernel_rfl)) (of_decide_eq_true (by kernel_rfl)) (of_decide_eq_true (by kernel_rfl)) (of_decide_eq_true (by kernel_rfl)) (of_decide_eq_true (by kernel_rfl)) (of_decide_eq_true (by kernel_rfl)) classes_any pairs_any outs_any breaks_any picts_any conjs_any wides_any letters_any w⟩
end Go.Proofs.YtkeainhjghdfcaaGreat
