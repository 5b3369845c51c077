/- Joined texts: GlyJ GlyK GlyL GlyN CatS RepP LayP Rep ColW LineO. -/
import Derived.Deep.QuietTactic
import Derived.BigQuiet
import Derived.Laws.StructEq
import Derived.Lib.Repeat
import Derived.Shelf.Strings.Repeat
import Derived.Test.YtkeainhjghdfcaaGreatClbf
import Derived.Test.YtkeainhjghdfcaaGreatClbc
import Derived.Test.YtkeainhjghdfcaaGreatClbd
import Derived.Test.YtkeainhjghdfcaaGreatClaa
import Derived.Test.YtkeainhjghdfcaaGreatClab

/- Are two lists of glyphs the same? Chapter 13's facts. -/
namespace Go.Proofs.YtkeainhjghdfcaaGreat
open Go.RowKit

theorem gly_cells {w : World} {v : Value} {l : List Gy} (h : GlyIn w v l) {k : Nat} {x : Gy} (hx : l[k]? = some x) : ∃ b off cap, v = .slice (some ⟨b, off, none⟩) l.length cap ∧ l.length ≤ cap ∧ cap ≤ maxLen ∧ b < w.heap.size ∧ w.cell? ⟨b, off + k * 2, none⟩ = some (.string x.1) ∧ w.cell? ⟨b, off + k * 2 + 1, none⟩ = some (.int .i64 x.2) := by
  obtain ⟨a, cap, rfl, h1, h2, _, h4⟩ := h
  have hk := (List.getElem?_eq_some_iff.1 hx).1
  obtain ⟨b, off, rfl, hb, hc⟩ := h4 (by omega)
  refine ⟨b, off, cap, rfl, h1, h2, hb, ?_, ?_⟩
  · have := hc (k * 2 + 0) _ (flat_get gyE_len l k x 0 (.string x.1) hx rfl)
    simpa using this
  · exact hc (k * 2 + 1) _ (flat_get gyE_len l k x 1 (.int .i64 x.2) hx rfl)
theorem gly_shape {w : World} {v : Value} {l : List Gy} (h : GlyIn w v l) : ∃ a cap, v = .slice a l.length cap ∧ l.length ≤ cap ∧ cap ≤ maxLen := by
  obtain ⟨a, cap, hv, h1, h2, _⟩ := h
  exact ⟨a, cap, hv, h1, h2⟩
end Go.Proofs.YtkeainhjghdfcaaGreat

/- glyph.Line. -/
namespace Go.Proofs.YtkeainhjghdfcaaGreat
open Go.RowKit

/-- rows of two types lie apart -/
theorem sep_types {w : World} {b1 b2 e1 e2 s1 s2 n1 n2 : Nat} {v u : Value} {xs ys : List Value} (h : w.ownsRow b1 e1 s1 v n1 xs) (k : w.ownsRow b2 e2 s2 u n2 ys) (he : e1 ≠ e2) : Sep v u := by
  rcases h.2 with ⟨rfl, _⟩ | ⟨g, cap, cur, rfl, _, hg, _⟩
  · exact .inl rfl
  · rcases k.2 with ⟨rfl, _⟩ | ⟨g', cap', cur', rfl, _, hg', _⟩
    · exact .inr (by simp [Value.ownBlock])
    · refine .inr fun e => he ?_
      have e' : g = g' := by simpa [Value.ownBlock] using e
      subst e'
      rw [hg] at hg'
      cases hg'
      rfl
theorem owns_kept_types {w w' : World} {b1 b2 e1 e2 s1 s2 n1 n2 : Nat} {v u : Value} {xs ys : List Value} (h : w.ownsRow b1 e1 s1 v n1 xs) (k : w.ownsRow b2 e2 s2 u n2 ys) (he : e1 ≠ e2) (hg : w.grownBy w' v.ownBlock) : w'.ownsRow b2 e2 s2 u n2 ys :=
  k.kept hg (by rcases (sep_types h k he).symm with h | h; exact .inl h; exact .inr h)
def atsL (R : List Rw) (LL : List (List Int)) (k : Nat) : List Nat := (List.range k).map (aheadG R LL)
theorem atsL_succ (R : List Rw) (LL : List (List Int)) (k : Nat) : atsL R LL (k + 1) = atsL R LL k ++ [aheadG R LL k] := by
  unfold atsL; rw [List.range_succ, List.map_append]; rfl
theorem atsL_len (R : List Rw) (LL : List (List Int)) (k : Nat) : (atsL R LL k).length = k := by simp [atsL]
theorem lineG_le (R : List Rw) : ∀ LL : List (List Int), (lineG R LL).length ≤ 2 * LL.flatten.length
  | [] => by simp [lineG]
  | c :: LL => by
    have h1 := lineG_le R LL
    have h2 := glOf_le R c
    have e : lineG R (c :: LL) = glOf R c ++ lineG R LL := rfl
    rw [e, List.length_append, List.flatten_cons, List.length_append]
    omega
theorem clus_flat (T : Tab) : ∀ (n : Nat) (s : List Int), s.length ≤ n → (clus T s).flatten = s
  | 0, s, h => by
    have : s = [] := List.eq_nil_of_length_eq_zero (by omega)
    subst this; rfl
  | n + 1, s, h => by
    by_cases hs : s = []
    · subst hs; rfl
    · have hp := nx_pos T hs
      rw [clus_step T hs, List.flatten_cons, clus_flat T n _ (by rw [List.length_drop]; have := List.length_pos_iff.2 hs; omega), List.take_append_drop]
theorem clus_ne (T : Tab) : ∀ (n : Nat) (s : List Int), s.length ≤ n → ∀ c ∈ clus T s, c ≠ [] ∧ c.length ≤ s.length
  | 0, s, h => by
    have : s = [] := List.eq_nil_of_length_eq_zero (by omega)
    subst this; intro c hc; simp [clus_nil] at hc
  | n + 1, s, h => by
    by_cases hs : s = []
    · subst hs; intro c hc; simp [clus_nil] at hc
    · have hp := nx_pos T hs
      have hl := List.length_pos_iff.2 hs
      rw [clus_step T hs]
      intro c hc
      rcases List.mem_cons.1 hc with rfl | hc
      · refine ⟨fun e => ?_, by rw [List.length_take]; omega⟩
        have h1 : (s.take (nx T s)).length = 0 := by rw [e]; rfl
        rw [List.length_take] at h1
        omega
      · have := clus_ne T n (s.drop (nx T s)) (by rw [List.length_drop]; omega) c hc
        exact ⟨this.1, by have h2 := this.2; rw [List.length_drop] at h2; omega⟩
theorem clus_mem (T : Tab) : ∀ (n : Nat) (s : List Int), s.length ≤ n → ∀ c ∈ clus T s, ∀ x ∈ c, x ∈ s := by
  intro n s h c hc x hx
  rw [← clus_flat T n s h]
  exact List.mem_flatten.2 ⟨c, hc, hx⟩
theorem lineG_take_le (R : List Rw) (s : List Int) (k : Nat) : (lineG R ((clus (tabOf R) s).take k)).length ≤ 2 * s.length := by
  have h := lineG_le R (clus (tabOf R) s)
  rw [clus_flat (tabOf R) s.length s (Nat.le_refl _)] at h
  have : lineG R (clus (tabOf R) s) = lineG R ((clus (tabOf R) s).take k) ++ lineG R ((clus (tabOf R) s).drop k) := by
    unfold lineG; rw [← List.flatMap_append, List.take_append_drop]
  rw [this, List.length_append] at h
  omega
section
variable {R : List Rw} {s : List Int} {w : World} {v sv : Value} {tp : Nat}
set_option maxRecDepth 100000 in
set_option maxHeartbeats 2000000 in
theorem line_any (hT : Tb R w tp) (hs : RunesIn w sv s) (ok : RunesOk s) (hl : s.length ≤ 900000) :
    Calls Tryz.prog 59 #[.pointer (some ⟨tp, 0, none⟩), sv] w fun e w' => ∃ u a, e = .returned (.tuple #[u, a]) ∧ Below w.heap.size w w' ∧ GlyIn w' u (lineG R (clus (tabOf R) s)) ∧ IntsIn w' a (atsL R (clus (tabOf R) s) ((clus (tabOf R) s).length + 1)) := by
  have HT := Lib.hid hT
  have HS := Lib.hid hs
  have HOk := Lib.hid ok
  have HCl := Lib.hid (fun (W : World) (h1 : Tb R W tp) (h2 : RunesIn W sv s) => clusters_any h1 h2 ok (by omega))
  have HNe := Lib.hid (clus_ne (tabOf R) s.length s (Nat.le_refl _))
  have HMem := Lib.hid (clus_mem (tabOf R) s.length s (Nat.le_refl _))
  have HTk := Lib.hid (lineG_take_le R s)
  have hLl : (clus (tabOf R) s).length ≤ s.length := clusN_len (tabOf R) s.length s
  generalize clus (tabOf R) s = LL at HCl HNe HMem HTk hLl ⊢
  obtain ⟨sl, cap, rfl, hcap, hmax, _⟩ := runes_cells hs
  unfold maxLen at hmax
  clear hT hs ok
  go_enter Tryz.func59, Tryz.ntmps59
  go_wp2_with fail
  refine (HCl.out w HT.out HS.out).mono ?_
  rintro e w1 ⟨tu, rfl, hB1, hX1⟩
  have HB1 := Lib.hid hB1
  have HX := Lib.hid hX1
  have HT1 := Lib.hid (HT.out.below hB1)
  obtain ⟨ta, tcap, rfl, ht1, ht2⟩ := texts_shape hX1
  unfold maxLen at ht2
  clear hB1 hX1 HCl HT HS
  go_wp2_with fail
  go_loopw [6, 7, 14] (fun ov av iv wr => ∃ (k : Nat) (G : List Gy) (A : List Nat), k ≤ LL.length ∧ iv = .int .i64 ((k : Nat) : Int) ∧ Below w1.heap.size w1 wr ∧ wr.ownsRow w1.heap.size 97 2 ov G.length (G.flatMap gyE) ∧ wr.ownsRow w1.heap.size 3 1 av A.length (A.flatMap nE) ∧ G = lineG R (LL.take k) ∧ A = atsL R LL k) (fun _ _ iv _ => LL.length - (intOf iv).toNat)
  case atStart => exact ⟨0, [], [], Nat.zero_le _, rfl, .refl _ _, World.ownsRow_nil _ _ _ _, World.ownsRow_nil _ _ _ _, rfl, rfl⟩
  case round =>
    obtain ⟨k, G, A, hk, rfl, hB, hO, hA, hG, hAt⟩ := hrel
    have HB := Lib.hid hB
    have HG := Lib.hid hG
    have HAt := Lib.hid hAt
    have hAl : A.length = k := by rw [hAt, atsL_len]
    have hGl : G.length ≤ 2 * s.length := by rw [hG]; exact HTk.out k
    obtain ⟨pa, pc, rfl⟩ := slice_of_owns hO
    obtain ⟨qa, qc, rfl⟩ := slice_of_owns hA
    have HO := Lib.hid hO
    have HA := Lib.hid hA
    have hbs := HB.out.size
    clear hB hO hA hG hAt
    by_cases hlt : k < LL.length
    · obtain ⟨c, hc⟩ : ∃ c, LL[k]? = some c := ⟨LL[k], List.getElem?_eq_getElem hlt⟩
      have hcm := List.mem_of_getElem? hc
      have HC := Lib.hid hc
      have hcl := (HNe.out c hcm).2
      have HOkc := Lib.hid (show RunesOk c from fun x hx => HOk.out x (HMem.out c hcm x hx))
      obtain ⟨b, off, cp, cu, hv, _, _, _, _, d00, hcu⟩ := texts_cell HX.out hc
      cases hv
      have d0 := cell_later HB.out d00
      have HCu := Lib.hid hcu
      have hbig : (A.length + 1) * 8 ≤ 140737488355328 := by omega
      have hgl2 := glOf_le R c
      have hbig2 : (G.length + (glOf R c).length) * 24 ≤ 140737488355328 := by omega
      obtain ⟨ca, ccap, rfl, _, _, _⟩ := runes_cells hcu
      clear hc hcm hcu d00
      go_wp2_with (at_builtin; go_loud (refine wpList_app1 _ rfl (.tmp 18) (.tmp 21) _ rfl EI _ _ _ rfl HA.out 1 1 (nE G.length) rfl (by decide) rfl (nE_one _) hbig hbs ?_); intro g cp7 w7 ho7 hg7 hf7; have HB7 := Lib.hid (below_app HB.out hbs HA.out (Nat.le_refl _) hg7); have HA7 := Lib.hid ho7; have HO7 := Lib.hid (owns_kept_types HA.out HO.out (by decide) hg7); clear ho7 hg7 hf7)
      refine (gof_any (HT1.out.below HB7.out) (HCu.out.below HB7.out) HOkc.out (by omega)).mono ?_
      rintro e w8 ⟨u8, rfl, hB8, hI8⟩
      have HB8 := Lib.hid (HB7.out.trans (hB8.mono HB7.out.size))
      have HA8 := Lib.hid (owns_stays HA7.out hB8)
      have HO8 := Lib.hid (owns_stays HO7.out hB8)
      have HI8 := Lib.hid hI8
      have hbs8 := HB8.out.size
      have HGn := Lib.hid (show G ++ glOf R c = lineG R (LL.take (k + 1)) by rw [List.take_add_one, HC.out, HG.out]; exact (lineG_snoc R (LL.take k) c).symm)
      have HAn := Lib.hid (show A ++ [G.length] = atsL R LL (k + 1) by rw [atsL_succ, HAt.out, HG.out]; rfl)
      clear hB8 hI8 HA7 HO7 HB7 HA HO HB d0
      go_wp2_with (at_builtin; go_loud (refine wpList_app_rd _ rfl (.tmp 23) (.tmp 26) _ rfl EG _ _ _ rfl HO8.out _ _ _ rfl HI8.out (gyE_ones _) hbig2 hbs8 ?_); intro v9 w9 ho9 hg9; have HB9 := Lib.hid (below_app HB8.out hbs8 HO8.out (Nat.le_refl _) hg9); have HA9 := Lib.hid (owns_kept_types HO8.out HA8.out (by decide) hg9); have HO9 := Lib.hid ho9; clear ho9 hg9)
      go_roundw
      case rel => exact ⟨k + 1, G ++ glOf R c, A ++ [G.length], by omega, by go_num, HB9.out, by rw [List.length_append, List.flatMap_append]; exact HO9.out, by rw [List.length_append, flat_snoc]; have h := HA9.out; rw [hAl] at h ⊢; exact h, HGn.out, HAn.out⟩
      case measure => simp [intOf] <;> omega
    · have hke : k = LL.length := by omega
      subst hke
      rw [List.take_length] at HG
      have hbig : (A.length + 1) * 8 ≤ 140737488355328 := by omega
      have HAn := Lib.hid (show A ++ [G.length] = atsL R LL (LL.length + 1) by rw [atsL_succ, HAt.out, aheadG_end, HG.out])
      clear hlt hk
      go_wp2_with (at_builtin; go_loud (refine wpList_app1 _ rfl (.tmp 30) (.tmp 33) _ rfl EI _ _ _ rfl HA.out 1 1 (nE G.length) rfl (by decide) rfl (nE_one _) hbig hbs ?_); intro g cp7 w7 ho7 hg7 hf7; have HB7 := Lib.hid (below_app HB.out hbs HA.out (Nat.le_refl _) hg7); have HA7 := Lib.hid ho7; have HO7 := Lib.hid (owns_kept_types HA.out HO.out (by decide) hg7); clear ho7 hg7 hf7)
      go_ret2
      exact ⟨_, _, rfl, below_trans' HB1.out HB7.out, by rw [← HG.out]; exact gly_of_owns HO7.out, by
        rw [← HAn.out]
        exact ints_of_owns (base := w1.heap.size) (e := 3) (by rw [List.length_append, flat_snoc]; have h := HA7.out; rw [hAl] at h ⊢; exact h)⟩
end
end Go.Proofs.YtkeainhjghdfcaaGreat

/- The document's Line; a line's columns and bytes. -/
namespace Go.Proofs.YtkeainhjghdfcaaGreat
open Go.RowKit

/-- a glyphs' bytes, and columns, all together -/
def szG (L : List Gy) : Nat := (L.map (fun g => g.1.size)).sum
def wdG (L : List Gy) : Int := (L.map (fun g => g.2)).sum
theorem szG_app (a b : List Gy) : szG (a ++ b) = szG a + szG b := by unfold szG; rw [List.map_append, List.sum_append]
theorem wdG_app (a b : List Gy) : wdG (a ++ b) = wdG a + wdG b := by unfold wdG; rw [List.map_append, List.sum_append]
theorem szG_one (g : Gy) : szG [g] = g.1.size := by simp [szG]
theorem wdG_one (g : Gy) : wdG [g] = g.2 := by simp [wdG]
theorem take_snoc {L : List Gy} {k : Nat} {x : Gy} (h : L[k]? = some x) : L.take (k + 1) = L.take k ++ [x] := by rw [List.take_add_one, h]; rfl
theorem szG_take (L : List Gy) (k : Nat) : szG (L.take k) ≤ szG L := by
  have : szG L = szG (L.take k) + szG (L.drop k) := by rw [← szG_app, List.take_append_drop]
  omega
theorem caret_sz (r : Int) : szG (caretG r) ≤ 3 := by
  unfold caretG
  split
  · have : (strOfNums [r + 64]).size = 1 := by rw [strOfNums_size]; rfl
    show szG ([(⟨#[94]⟩, 1)] ++ [(strOfNums [r + 64], 1)]) ≤ 3
    rw [szG_app, szG_one, szG_one]
    show 1 + (strOfNums [r + 64]).size ≤ 3
    omega
  · split
    · show szG ([(⟨#[94]⟩, 1)] ++ [(⟨#[63]⟩, 1)]) ≤ 3
      rw [szG_app, szG_one, szG_one]
      show 1 + 1 ≤ 3
      omega
    · rw [szG_one]
      show (put 65533).size ≤ 3
      rw [put_size]
      decide
theorem carets_sz : ∀ c : List Int, szG (c.flatMap caretG) ≤ 3 * c.length
  | [] => by simp [szG]
  | r :: c => by
    have h1 := carets_sz c
    have h2 := caret_sz r
    rw [List.flatMap_cons, szG_app, List.length_cons]
    omega
theorem glOf_sz (R : List Rw) (c : List Int) : szG (glOf R c) ≤ 12 * c.length := by
  unfold glOf
  split
  · rename_i h; subst h; exact Nat.le_refl _
  · rename_i h
    have hl : 1 ≤ c.length := List.length_pos_iff.2 h
    split
    · have := carets_sz c; omega
    · rw [szG_one]
      show (enc (lean R c)).size ≤ _
      rw [enc_size]
      have h1 := encN_len (lean R c)
      have h2 := lean_len R c
      omega
theorem lineG_sz (R : List Rw) : ∀ LL : List (List Int), szG (lineG R LL) ≤ 12 * LL.flatten.length
  | [] => by simp [lineG, szG]
  | c :: LL => by
    have h1 := lineG_sz R LL
    have h2 := glOf_sz R c
    have e : lineG R (c :: LL) = glOf R c ++ lineG R LL := rfl
    rw [e, szG_app, List.flatten_cons, List.length_append]
    omega
theorem wdG_rng {L : List Gy} (h : ∀ g ∈ L, g.2 = 1 ∨ g.2 = 2) : 0 ≤ wdG L ∧ wdG L ≤ 2 * L.length := by
  induction L with
  | nil => simp [wdG]
  | cons g L ih =>
    have h1 := ih (fun x hx => h x (List.mem_cons_of_mem _ hx))
    have h2 := h g List.mem_cons_self
    have e : wdG (g :: L) = g.2 + wdG L := by simp [wdG]
    rw [e, List.length_cons]
    omega
section
variable {R : List Rw} {s : List Int} {w : World} {v sv : Value} {tp : Nat}
set_option maxRecDepth 100000 in
set_option maxHeartbeats 2000000 in
theorem rline_any (H : (tabOf R).Ok) (hR : RowsIn w v R) (hs : RunesIn w sv s) (ok : RunesOk s) (hl : s.length ≤ 900000) :
    Calls Tryz.prog 30 #[v, sv] w fun e w' => ∃ u a, e = .returned (.tuple #[u, a]) ∧ Below w.heap.size w w' ∧ GlyIn w' u (lineG R (clus (tabOf R) s)) ∧ IntsIn w' a (atsL R (clus (tabOf R) s) ((clus (tabOf R) s).length + 1)) := by
  have HR := Lib.hid hR
  have HS := Lib.hid hs
  have HOk := Lib.hid ok
  have HCl := Lib.hid (fun (W : World) (h1 : RowsIn W v R) (h2 : RunesIn W sv s) => rclusters_any H h1 h2 ok (by omega))
  have HNe := Lib.hid (clus_ne (tabOf R) s.length s (Nat.le_refl _))
  have HMem := Lib.hid (clus_mem (tabOf R) s.length s (Nat.le_refl _))
  have HTk := Lib.hid (lineG_take_le R s)
  have hLl : (clus (tabOf R) s).length ≤ s.length := clusN_len (tabOf R) s.length s
  generalize clus (tabOf R) s = LL at HCl HNe HMem HTk hLl ⊢
  obtain ⟨sl, cap, rfl, hcap, hmax, _⟩ := runes_cells hs
  unfold maxLen at hmax
  clear hR hs ok H
  go_enter Tryz.func30, Tryz.ntmps30
  go_wp2_with fail
  refine (HCl.out w HR.out HS.out).mono ?_
  rintro e w1 ⟨tu, rfl, hB1, hX1⟩
  have HB1 := Lib.hid hB1
  have HX := Lib.hid hX1
  have HR1 := Lib.hid (HR.out.below hB1)
  obtain ⟨ta, tcap, rfl, ht1, ht2⟩ := texts_shape hX1
  unfold maxLen at ht2
  clear hB1 hX1 HCl HR HS
  go_wp2_with fail
  go_loopw [6, 7, 9] (fun ov av iv wr => ∃ (k : Nat) (G : List Gy) (A : List Nat), k ≤ LL.length ∧ iv = .int .i64 ((k : Nat) : Int) ∧ Below w1.heap.size w1 wr ∧ wr.ownsRow w1.heap.size 81 2 ov G.length (G.flatMap gyE) ∧ wr.ownsRow w1.heap.size 3 1 av A.length (A.flatMap nE) ∧ G = lineG R (LL.take k) ∧ A = atsL R LL k) (fun _ _ iv _ => LL.length - (intOf iv).toNat)
  case atStart => exact ⟨0, [], [], Nat.zero_le _, rfl, .refl _ _, World.ownsRow_nil _ _ _ _, World.ownsRow_nil _ _ _ _, rfl, rfl⟩
  case round =>
    obtain ⟨k, G, A, hk, rfl, hB, hO, hA, hG, hAt⟩ := hrel
    have HB := Lib.hid hB
    have HG := Lib.hid hG
    have HAt := Lib.hid hAt
    have hAl : A.length = k := by rw [hAt, atsL_len]
    have hGl : G.length ≤ 2 * s.length := by rw [hG]; exact HTk.out k
    obtain ⟨pa, pc, rfl⟩ := slice_of_owns hO
    obtain ⟨qa, qc, rfl⟩ := slice_of_owns hA
    have HO := Lib.hid hO
    have HA := Lib.hid hA
    have hbs := HB.out.size
    clear hB hO hA hG hAt
    by_cases hlt : k < LL.length
    · obtain ⟨c, hc⟩ : ∃ c, LL[k]? = some c := ⟨LL[k], List.getElem?_eq_getElem hlt⟩
      have hcm := List.mem_of_getElem? hc
      have HC := Lib.hid hc
      have hcl := (HNe.out c hcm).2
      have HOkc := Lib.hid (show RunesOk c from fun x hx => HOk.out x (HMem.out c hcm x hx))
      obtain ⟨b, off, cp, cu, hv, _, _, _, _, d00, hcu⟩ := texts_cell HX.out hc
      cases hv
      have HD0 := Lib.hid d00
      have HCu := Lib.hid hcu
      have hbig : (A.length + 1) * 8 ≤ 140737488355328 := by omega
      have hgl2 := glOf_le R c
      have hbig2 : (G.length + (glOf R c).length) * 24 ≤ 140737488355328 := by omega
      obtain ⟨ca, ccap, rfl, _, _, _⟩ := runes_cells hcu
      have r0 : (k : Int) < (LL.length : Int) := by omega
      have r1 : (0 : Int) ≤ (k : Int) := by omega
      have e1 := IntWalk.i64_in ((k : Int) + 1) (by omega)
      clear hc hcm hcu d00
      go_wp2_with (at_builtin; go_loud (refine wpList_app1 _ rfl (.tmp 19) (.tmp 22) _ rfl EI _ _ _ rfl HA.out 1 1 (nE G.length) rfl (by decide) rfl (nE_one _) hbig hbs ?_); intro g cp7 w7 ho7 hg7 hf7; have HB7 := Lib.hid (below_app HB.out hbs HA.out (Nat.le_refl _) hg7); have HA7 := Lib.hid ho7; have HO7 := Lib.hid (owns_kept_types HA.out HO.out (by decide) hg7); have d0 := cell_later HB7.out HD0.out; clear ho7 hg7 hf7)
      refine (rgof_any (HR1.out.below HB7.out) (HCu.out.below HB7.out) HOkc.out (by omega)).mono ?_
      rintro e w8 ⟨u8, rfl, hB8, hI8⟩
      have HB8 := Lib.hid (HB7.out.trans (hB8.mono HB7.out.size))
      have HA8 := Lib.hid (owns_stays HA7.out hB8)
      have HO8 := Lib.hid (owns_stays HO7.out hB8)
      have HI8 := Lib.hid hI8
      have hbs8 := HB8.out.size
      have HGn := Lib.hid (show G ++ glOf R c = lineG R (LL.take (k + 1)) by rw [List.take_add_one, HC.out, HG.out]; exact (lineG_snoc R (LL.take k) c).symm)
      have HAn := Lib.hid (show A ++ [G.length] = atsL R LL (k + 1) by rw [atsL_succ, HAt.out, HG.out]; rfl)
      clear hB8 hI8 HA7 HO7 HB7 HA HO HB d0
      go_wp2_with (at_builtin; go_loud (refine wpList_app_rd _ rfl (.tmp 24) (.tmp 30) _ rfl ERG _ _ _ rfl HO8.out _ _ _ rfl HI8.out (gyE_ones _) hbig2 hbs8 ?_); intro v9 w9 ho9 hg9; have HB9 := Lib.hid (below_app HB8.out hbs8 HO8.out (Nat.le_refl _) hg9); have HA9 := Lib.hid (owns_kept_types HO8.out HA8.out (by decide) hg9); have HO9 := Lib.hid ho9; clear ho9 hg9)
      go_roundw
      case rel => exact ⟨k + 1, G ++ glOf R c, A ++ [G.length], by omega, by go_num, HB9.out, by rw [List.length_append, List.flatMap_append]; exact HO9.out, by rw [List.length_append, flat_snoc]; have h := HA9.out; rw [hAl] at h ⊢; exact h, HGn.out, HAn.out⟩
      case measure => simp [intOf] <;> omega
    · have hke : k = LL.length := by omega
      subst hke
      rw [List.take_length] at HG
      have hbig : (A.length + 1) * 8 ≤ 140737488355328 := by omega
      have HAn := Lib.hid (show A ++ [G.length] = atsL R LL (LL.length + 1) by rw [atsL_succ, HAt.out, aheadG_end, HG.out])
      have r0 : decide ((LL.length : Int) < (LL.length : Int)) = false := by simp
      clear hlt hk
      go_wp2_with (at_builtin; go_loud (refine wpList_app1 _ rfl (.tmp 33) (.tmp 36) _ rfl EI _ _ _ rfl HA.out 1 1 (nE G.length) rfl (by decide) rfl (nE_one _) hbig hbs ?_); intro g cp7 w7 ho7 hg7 hf7; have HB7 := Lib.hid (below_app HB.out hbs HA.out (Nat.le_refl _) hg7); have HA7 := Lib.hid ho7; have HO7 := Lib.hid (owns_kept_types HA.out HO.out (by decide) hg7); clear ho7 hg7 hf7)
      go_ret2
      exact ⟨_, _, rfl, below_trans' HB1.out HB7.out, by rw [← HG.out]; exact rgly_of_owns HO7.out, by
        rw [← HAn.out]
        exact ints_of_owns (base := w1.heap.size) (e := 3) (by rw [List.length_append, flat_snoc]; have h := HA7.out; rw [hAl] at h ⊢; exact h)⟩
end
end Go.Proofs.YtkeainhjghdfcaaGreat

/- Texts of glyphs: their sizes, their parts. No program is named here. -/
namespace Go.Proofs.YtkeainhjghdfcaaGreat
open Go.RowKit

theorem catG_size : ∀ (G : List Gy) (b0 : ByteArray), (catG b0 G).size = b0.size + szG G
  | [], b0 => by simp [catG, szG]
  | g :: G, b0 => by
    have := catG_size G (b0 ++ g.1)
    show (catG (b0 ++ g.1) G).size = _
    rw [this, ByteArray.size_append]
    simp [szG]; omega
end Go.Proofs.YtkeainhjghdfcaaGreat

/- Blanks; a row of glyphs without the blanks at its end; a row's text. No program is named here. -/
namespace Go.Proofs.YtkeainhjghdfcaaGreat
open Go.RowKit

/-- n blanks -/
def repB (n : Nat) : ByteArray := ⟨(Lib.repeatL [32] n).toArray⟩
theorem rep_list (n : Nat) : Lib.repeatL [32] n = List.replicate n 32 := by
  induction n with
  | zero => rfl
  | succ n ih => show [32] ++ Lib.repeatL [32] n = _; rw [ih]; rfl
theorem repB_zero : repB 0 = ⟨#[]⟩ := rfl
theorem ba_ext {a b : ByteArray} (h : a.data.toList = b.data.toList) : a = b := by
  obtain ⟨a⟩ := a
  obtain ⟨b⟩ := b
  congr 1
  exact Array.toList_inj.1 h
theorem ba_app (a b : ByteArray) : (a ++ b).data.toList = a.data.toList ++ b.data.toList := by
  rw [ByteArray.data_append, Array.toList_append]
theorem repB_succ (n : Nat) : repB n ++ ⟨#[32]⟩ = repB (n + 1) := by
  apply ba_ext
  rw [ba_app]
  show Lib.repeatL [32] n ++ [32] = Lib.repeatL [32] (n + 1)
  rw [rep_list, rep_list, List.replicate_succ']
theorem repB_size (n : Nat) : (repB n).size = n := by
  show (repB n).data.size = n
  unfold repB
  dsimp only
  rw [List.size_toArray, rep_list, List.length_replicate]
end Go.Proofs.YtkeainhjghdfcaaGreat

/- Words laid into columns: a row's text, word by word. No program is named here. -/
namespace Go.Proofs.YtkeainhjghdfcaaGreat
open Go.RowKit

theorem maxL_ge : ∀ {zs : List Int} {z : Int}, z ∈ zs → z ≤ maxL zs := by
  have key : ∀ (zs : List Int) (a : Int), a ≤ zs.foldl max a ∧ ∀ z ∈ zs, z ≤ zs.foldl max a := by
    intro zs
    induction zs with
    | nil => intro a; exact ⟨Int.le_refl _, fun z h => by cases h⟩
    | cons x zs ih =>
      intro a
      obtain ⟨h1, h2⟩ := ih (max a x)
      refine ⟨by show a ≤ zs.foldl max (max a x); omega, fun z hz => ?_⟩
      show z ≤ zs.foldl max (max a x)
      rcases List.mem_cons.1 hz with rfl | hz
      · omega
      · exact h2 z hz
  exact fun {zs z} h => (key zs 0).2 z h
section
variable (W : List Int) (TX : List ByteArray) (rows : Nat)
/-- the blanks behind word j -/
def gapN (j : Nat) : Nat := ((planL W rows).getD (j / rows) 0 - W.getD j 0 + 2).toNat
/-- word j, and the blanks behind it -/
def pieceT (j : Nat) : ByteArray := TX.getD j ⟨#[]⟩ ++ (if j + rows < W.length then repB (gapN W rows j) else ⟨#[]⟩)
/-- row r with the words ahead of i -/
def rowT (r : Nat) : Nat → ByteArray
  | 0 => ⟨#[]⟩
  | i + 1 => if i % rows = r ∧ i < W.length then rowT r i ++ pieceT W TX rows i else rowT r i
variable {W TX rows}
theorem rowT_hit {r i : Nat} (h : i % rows = r) (hi : i < W.length) : rowT W TX rows r (i + 1) = rowT W TX rows r i ++ pieceT W TX rows i := by
  show (if i % rows = r ∧ i < W.length then _ else _) = _
  rw [if_pos ⟨h, hi⟩]
theorem rowT_miss {r i : Nat} (h : i % rows ≠ r) : rowT W TX rows r (i + 1) = rowT W TX rows r i := by
  show (if i % rows = r ∧ i < W.length then _ else _) = _
  rw [if_neg (fun e => h e.1)]
theorem rowT_out {r i : Nat} (h : W.length ≤ i) : rowT W TX rows r (i + 1) = rowT W TX rows r i := by
  show (if i % rows = r ∧ i < W.length then _ else _) = _
  rw [if_neg (fun e => by omega)]
theorem rowT_flat {r i : Nat} (h : i % rows = r) (hr : r < rows) : ∀ k, k < rows → rowT W TX rows r (i + 1 + k) = rowT W TX rows r (i + 1)
  | 0, _ => rfl
  | k + 1, hk => by
    rw [show i + 1 + (k + 1) = (i + 1 + k) + 1 by omega, rowT_miss, rowT_flat h hr k (by omega)]
    intro e
    have h1 := Nat.mod_add_div i rows
    have h2 := Nat.mod_add_div (i + 1 + k) rows
    rw [h] at h1
    rw [e] at h2
    have h3 : rows * ((i + 1 + k) / rows) = rows * (i / rows) + (k + 1) := by omega
    have h4 : (k + 1) % rows = 0 := by
      have : k + 1 = rows * ((i + 1 + k) / rows - i / rows) := by rw [Nat.mul_sub]; omega
      rw [this]; exact Nat.mul_mod_right _ _
    rw [Nat.mod_eq_of_lt hk] at h4
    omega
theorem rowT_jump {r i : Nat} (h : i % rows = r) (hr : r < rows) (hi : i < W.length) : rowT W TX rows r (i + rows) = rowT W TX rows r i ++ pieceT W TX rows i := by
  have e := rowT_flat (W := W) (TX := TX) h hr (rows - 1) (by omega)
  rw [show i + 1 + (rows - 1) = i + rows by omega] at e
  rw [e, rowT_hit h hi]
theorem rowT_start {r : Nat} (hr : r < rows) : ∀ {i : Nat}, i ≤ r → rowT W TX rows r i = ⟨#[]⟩
  | 0, _ => rfl
  | i + 1, h => by rw [rowT_miss (by rw [Nat.mod_eq_of_lt (by omega)]; omega), rowT_start hr (by omega)]
theorem rowT_end {r : Nat} : ∀ {i : Nat}, W.length ≤ i → rowT W TX rows r i = rowT W TX rows r W.length
  | 0, h => by rw [show W.length = 0 by omega]
  | i + 1, h => by
    by_cases e : i + 1 = W.length
    · rw [e]
    · rw [rowT_out (by omega), rowT_end (by omega)]
/-- a word goes into its column -/
theorem plan_ge {j : Nat} {z : Int} (hr : 0 < rows) (hz : W[j]? = some z) : ∃ m, (planL W rows)[j / rows]? = some m ∧ z ≤ m := by
  have hj := (List.getElem?_eq_some_iff.1 hz).1
  have hc : j / rows < (W.length + rows - 1) / rows := (ceil_iff W.length rows (j / rows) hr).2 (by have := Nat.div_mul_le_self j rows; omega)
  refine ⟨_, planL_get W rows (j / rows) hc, maxL_ge ?_⟩
  have hd := Nat.mod_add_div j rows
  have hm := Nat.mod_lt j hr
  have : (chunk W rows (j / rows))[j % rows]? = some z := by
    unfold chunk
    rw [List.getElem?_take, if_pos hm, List.getElem?_drop, ← hz]
    congr 1
    rw [Nat.mul_comm]
    omega
  exact List.mem_of_getElem? this
theorem piece_size {j C D : Nat} (h1 : ∀ t ∈ TX, t.size ≤ C) (h2 : gapN W rows j ≤ D) : (pieceT W TX rows j).size ≤ C + D := by
  unfold pieceT
  rw [ByteArray.size_append]
  have a : (TX.getD j ⟨#[]⟩).size ≤ C := by
    rw [List.getD_eq_getElem?_getD]
    rcases hx : TX[j]? with _ | t
    · show (0 : Nat) ≤ C; omega
    · exact h1 t (List.mem_of_getElem? hx)
  have b : (if j + rows < W.length then repB (gapN W rows j) else ⟨#[]⟩ : ByteArray).size ≤ D := by
    split
    · rw [repB_size]; exact h2
    · show (0 : Nat) ≤ D; omega
  omega
theorem rowT_size {r C D : Nat} (h1 : ∀ t ∈ TX, t.size ≤ C) (h2 : ∀ j, gapN W rows j ≤ D) : ∀ i, (rowT W TX rows r i).size ≤ i * (C + D)
  | 0 => by show (0 : Nat) ≤ _; omega
  | i + 1 => by
    have ih := rowT_size (r := r) h1 h2 i
    have hp := piece_size (j := i) h1 (h2 i)
    rw [Nat.succ_mul]
    by_cases h : i % rows = r ∧ i < W.length
    · rw [rowT_hit h.1 h.2, ByteArray.size_append]; omega
    · have : rowT W TX rows r (i + 1) = rowT W TX rows r i := by
        show (if i % rows = r ∧ i < W.length then _ else _) = _
        rw [if_neg h]
      rw [this]; omega
theorem gap_le {D : Nat} (h : ∀ z ∈ W, 0 ≤ z ∧ z ≤ (D : Int)) (j : Nat) : gapN W rows j ≤ D + 2 := by
  unfold gapN
  have h1 := planL_bd (B := (D : Int)) (by omega) W rows fun z hz => (h z hz).2
  have a : (planL W rows).getD (j / rows) 0 ≤ (D : Int) := by
    rw [List.getD_eq_getElem?_getD]
    rcases hx : (planL W rows)[j / rows]? with _ | t
    · show (0 : Int) ≤ D; omega
    · exact (h1 t (List.mem_of_getElem? hx)).2
  have b : 0 ≤ W.getD j 0 := by
    rw [List.getD_eq_getElem?_getD]
    rcases hx : W[j]? with _ | t
    · exact Int.le_refl _
    · exact (h t (List.mem_of_getElem? hx)).1
  omega
end
end Go.Proofs.YtkeainhjghdfcaaGreat

/- strings.Repeat, as it lies in this program (laid by the kit); blanks. -/
namespace Go.Proofs.YtkeainhjghdfcaaGreat
open Go.Shelf Go.RowKit Go.Lib

def Tryz.lays105_ren : Go.Shelf.Ren := ⟨fun | 105 => 89 | 212 => 134 | 99 => 135 | 165 => 136 | 166 => 137 | 170 => 138 | 169 => 139 | 263 => 173 | 264 => 174 | 206 => 175 | 240 => 176 | 241 => 177 | 276 => 194 | 277 => 195 | n => n, fun | 9 => 9 | 3 => 3 | 4 => 4 | 20 => 20 | 0 => 0 | 46 => 172 | 109 => 229 | 5 => 5 | 72 => 235 | 76 => 238 | 51 => 287 | 146 => 288 | 53 => 290 | 148 => 291 | 70 => 232 | 37 => 233 | 75 => 237 | 127 => 293 | 164 => 307 | 80 => 240 | n => n, fun | n => n⟩
theorem Tryz.lays105 : Go.Proofs.Lays.n105 Tryz.prog Tryz.lays105_ren := {
  mixed := by kernel_rfl
  f99 := Tryz.func135.trans (congrArg some (by kernel_rfl))
  f105 := Tryz.func89.trans (congrArg some (by kernel_rfl))
  f165 := Tryz.func136.trans (congrArg some (by kernel_rfl))
  f166 := Tryz.func137.trans (congrArg some (by kernel_rfl))
  f169 := Tryz.func139.trans (congrArg some (by kernel_rfl))
  f170 := Tryz.func138.trans (congrArg some (by kernel_rfl))
  f206 := Tryz.func175.trans (congrArg some (by kernel_rfl))
  f212 := Tryz.func134.trans (congrArg some (by kernel_rfl))
  f240 := Tryz.func176.trans (congrArg some (by kernel_rfl))
  f241 := Tryz.func177.trans (congrArg some (by kernel_rfl))
  f263 := Tryz.func173.trans (congrArg some (by kernel_rfl))
  f264 := Tryz.func174.trans (congrArg some (by kernel_rfl))
  f276 := Tryz.func194.trans (congrArg some (by kernel_rfl))
  f277 := Tryz.func195.trans (congrArg some (by kernel_rfl))
  t0 := Tryz.underlying0
  a0 := Tryz.isAgg0
  z0 := Tryz.sizeOf0
  v0 := Tryz.zeroValue0
  t3 := Tryz.underlying3
  a3 := Tryz.isAgg3
  z3 := Tryz.sizeOf3
  v3 := Tryz.zeroValue3
  t4 := Tryz.underlying4
  a4 := Tryz.isAgg4
  z4 := Tryz.sizeOf4
  v4 := Tryz.zeroValue4
  t5 := Tryz.underlying5
  a5 := Tryz.isAgg5
  z5 := Tryz.sizeOf5
  v5 := Tryz.zeroValue5
  t9 := Tryz.underlying9
  a9 := Tryz.isAgg9
  z9 := Tryz.sizeOf9
  v9 := Tryz.zeroValue9
  t20 := Tryz.underlying20
  a20 := Tryz.isAgg20
  z20 := Tryz.sizeOf20
  v20 := Tryz.zeroValue20
  t37 := Tryz.underlying233
  a37 := Tryz.isAgg233
  z37 := Tryz.sizeOf233
  v37 := Tryz.zeroValue233
  t46 := Tryz.underlying172
  a46 := Tryz.isAgg172
  z46 := Tryz.sizeOf172
  v46 := Tryz.zeroValue172
  t51 := Tryz.underlying287
  a51 := Tryz.isAgg287
  z51 := Tryz.sizeOf287
  v51 := Tryz.zeroValue287
  t53 := Tryz.underlying290
  a53 := Tryz.isAgg290
  z53 := Tryz.sizeOf290
  v53 := Tryz.zeroValue290
  t70 := Tryz.underlying232
  a70 := Tryz.isAgg232
  z70 := Tryz.sizeOf232
  v70 := Tryz.zeroValue232
  t72 := Tryz.underlying235
  a72 := Tryz.isAgg235
  z72 := Tryz.sizeOf235
  v72 := Tryz.zeroValue235
  t75 := Tryz.underlying237
  a75 := Tryz.isAgg237
  z75 := Tryz.sizeOf237
  v75 := Tryz.zeroValue237
  t76 := Tryz.underlying238
  a76 := Tryz.isAgg238
  z76 := Tryz.sizeOf238
  v76 := Tryz.zeroValue238
  t109 := Tryz.underlying229
  a109 := Tryz.isAgg229
  z109 := Tryz.sizeOf229
  v109 := Tryz.zeroValue229
  t127 := Tryz.underlying293
  a127 := Tryz.isAgg293
  z127 := Tryz.sizeOf293
  v127 := Tryz.zeroValue293
  t146 := Tryz.underlying288
  a146 := Tryz.isAgg288
  z146 := Tryz.sizeOf288
  v146 := Tryz.zeroValue288
  t148 := Tryz.underlying291
  a148 := Tryz.isAgg291
  z148 := Tryz.sizeOf291
  v148 := Tryz.zeroValue291
  t164 := Tryz.underlying307
  a164 := Tryz.isAgg307
  z164 := Tryz.sizeOf307
  v164 := Tryz.zeroValue307 }
theorem Tryz.Builder_Extra_105 : Builder.Extra Tryz.prog Tryz.lays105_ren := {
  sizeBuilder := by kernel_rfl
  liesBuilder := by kernel_rfl
  t5 := Tryz.underlying5
  a5 := Tryz.isAgg5
  z5 := Tryz.sizeOf5
  v5 := Tryz.zeroValue5
  infoByte := by kernel_rfl
  cellsByte := by kernel_rfl
  sizeByte := by kernel_rfl
  neB5 := by decide }

theorem repeat_any (n : Nat) (w : World) (h : n ≤ 1000000) : Calls Tryz.prog 89 #[.string ⟨#[32]⟩, .int .i64 (n : Int)] w fun e w' => e = .returned (.string (repB n)) ∧ Below w.heap.size w w' :=
  Any.strings_Repeat Tryz.lays105 Tryz.Builder_Extra_105 ⟨#[32]⟩ n w (by omega) (by show 1 * n ≤ _; omega)
end Go.Proofs.YtkeainhjghdfcaaGreat

/- ColumnsWidth: columns.Width, the document's Width, the law's walk. -/
namespace Go.Proofs.YtkeainhjghdfcaaGreat
open Go.RowKit

section
variable {R : List Rw} {s : List Int} {w : World} {v sv : Value} {tp : Nat}
set_option maxRecDepth 100000 in
set_option maxHeartbeats 1000000 in
theorem cwidth_any (hT : Tb R w tp) (hs : RunesIn w sv s) (ok : RunesOk s) (hl : s.length ≤ 900000) :
    Calls Tryz.prog 87 #[.pointer (some ⟨tp, 0, none⟩), sv] w fun e w' => e = .returned (.int .i64 (wdG (lineG R (clus (tabOf R) s)))) ∧ Below w.heap.size w w' := by
  have HLine := Lib.hid (line_any hT hs ok hl)
  have hGl := lineG_take_le R s (clus (tabOf R) s).length
  rw [List.take_length] at hGl
  have HGo := Lib.hid (fun g (h : g ∈ lineG R (clus (tabOf R) s)) => (lineG_ok R g h).1)
  generalize lineG R (clus (tabOf R) s) = G at HLine hGl HGo ⊢
  obtain ⟨sl, cap, rfl, hcap, hmax, _⟩ := runes_cells hs
  clear hT hs ok
  go_enter Tryz.func87, Tryz.ntmps87
  go_wp2_with fail
  refine HLine.out.mono ?_
  rintro e w1 ⟨u, a, rfl, hB1, hG, _⟩
  have HB1 := Lib.hid hB1
  have HG := Lib.hid hG
  obtain ⟨ga, gc, rfl, hg1, hg2⟩ := gly_shape hG
  unfold maxLen at hg2
  clear hB1 hG HLine
  go_wp2_with fail
  go_loopw [5, 18] (fun nv iv wr => ∃ (k : Nat) (m : Int), k ≤ G.length ∧ nv = .int .i64 m ∧ iv = .int .i64 ((k : Nat) : Int) ∧ Below w1.heap.size w1 wr ∧ m = wdG (G.take k)) (fun _ iv _ => G.length - (intOf iv).toNat)
  case atStart => exact ⟨0, 0, Nat.zero_le _, rfl, rfl, .refl _ _, rfl⟩
  case round =>
    obtain ⟨k, m, hk, rfl, rfl, hB, hm⟩ := hrel
    have HB := Lib.hid hB
    have HM := Lib.hid hm
    have hr := wdG_rng (L := G.take k) (fun g hg => HGo.out g (List.mem_of_mem_take hg))
    rw [← hm, List.length_take] at hr
    clear hB hm
    by_cases hlt : k < G.length
    · obtain ⟨x, hx⟩ : ∃ x, G[k]? = some x := ⟨G[k], List.getElem?_eq_getElem hlt⟩
      have hxo := HGo.out x (List.mem_of_getElem? hx)
      have HN := Lib.hid (show wdG (G.take (k + 1)) = wdG (G.take k) + x.2 by rw [take_snoc hx, wdG_app, wdG_one])
      obtain ⟨x1, x2⟩ := x
      have hx2 : x2 = 1 ∨ x2 = 2 := hxo
      obtain ⟨b, off, _, hv, _, _, _, d0, d1⟩ := gly_cells (HG.out.below HB.out) hx
      cases hv
      have e2 := IntWalk.i64_in (m + x2) (by omega)
      have HBn := Lib.hid (HB.out.trans ((below1 wr (.cells #[.string x1, .int .i64 x2] 97)).mono HB.out.size))
      clear hx hxo hr
      go_wp2_with fail
      go_roundw
      case rel => exact ⟨k + 1, m + x2, by omega, rfl, by go_num, HBn.out, by rw [HN.out, HM.out]⟩
      case measure => simp [intOf] <;> omega
    · have hke : k = G.length := by omega
      subst hke
      rw [List.take_length] at HM
      clear hlt hk hr
      go_wp2_with fail
      go_ret
      exact ⟨by rw [← HM.out]; rfl, below_trans' HB1.out HB.out⟩
set_option maxRecDepth 100000 in
set_option maxHeartbeats 1000000 in
theorem rcwidth_any (H : (tabOf R).Ok) (hR : RowsIn w v R) (hs : RunesIn w sv s) (ok : RunesOk s) (hl : s.length ≤ 900000) :
    Calls Tryz.prog 39 #[v, sv] w fun e w' => e = .returned (.tuple #[.int .i64 (wdG (lineG R (clus (tabOf R) s))), .string (catG ⟨#[]⟩ (lineG R (clus (tabOf R) s)))]) ∧ Below w.heap.size w w' := by
  have HLine := Lib.hid (rline_any H hR hs ok hl)
  have hGl := lineG_take_le R s (clus (tabOf R) s).length
  rw [List.take_length] at hGl
  have hsz := lineG_sz R (clus (tabOf R) s)
  rw [clus_flat (tabOf R) s.length s (Nat.le_refl _)] at hsz
  have HGo := Lib.hid (fun g (h : g ∈ lineG R (clus (tabOf R) s)) => (lineG_ok R g h).1)
  generalize lineG R (clus (tabOf R) s) = G at HLine hGl HGo hsz ⊢
  obtain ⟨sl, cap, rfl, hcap, hmax, _⟩ := runes_cells hs
  clear hR hs ok H
  go_enter Tryz.func39, Tryz.ntmps39
  go_wp2_with fail
  refine HLine.out.mono ?_
  rintro e w1 ⟨u, a, rfl, hB1, hG, _⟩
  have HB1 := Lib.hid hB1
  have HG := Lib.hid hG
  obtain ⟨ga, gc, rfl, hg1, hg2⟩ := gly_shape hG
  unfold maxLen at hg2
  clear hB1 hG HLine
  go_wp2_with fail
  go_loopw [6, 7, 10] (fun nv tv iv wr => ∃ (k : Nat) (m : Int), k ≤ G.length ∧ nv = .int .i64 m ∧ tv = .string (catG ⟨#[]⟩ (G.take k)) ∧ iv = .int .i64 ((k : Nat) : Int) ∧ Below w1.heap.size w1 wr ∧ m = wdG (G.take k)) (fun _ _ iv _ => G.length - (intOf iv).toNat)
  case atStart => exact ⟨0, 0, Nat.zero_le _, rfl, rfl, rfl, .refl _ _, rfl⟩
  case round =>
    obtain ⟨k, m, hk, rfl, rfl, rfl, hB, hm⟩ := hrel
    have HB := Lib.hid hB
    have HM := Lib.hid hm
    have hr := wdG_rng (L := G.take k) (fun g hg => HGo.out g (List.mem_of_mem_take hg))
    rw [← hm, List.length_take] at hr
    clear hB hm
    by_cases hlt : k < G.length
    · obtain ⟨x, hx⟩ : ∃ x, G[k]? = some x := ⟨G[k], List.getElem?_eq_getElem hlt⟩
      have hxo := HGo.out x (List.mem_of_getElem? hx)
      have HN := Lib.hid (show wdG (G.take (k + 1)) = wdG (G.take k) + x.2 by rw [take_snoc hx, wdG_app, wdG_one])
      have HNs := Lib.hid (show szG (G.take (k + 1)) = szG (G.take k) + x.1.size by rw [take_snoc hx, szG_app, szG_one])
      have HCn := Lib.hid (show catG ⟨#[]⟩ (G.take (k + 1)) = catG ⟨#[]⟩ (G.take k) ++ x.1 by rw [take_snoc hx, catG_snoc])
      obtain ⟨x1, x2⟩ := x
      have hx2 : x2 = 1 ∨ x2 = 2 := hxo
      obtain ⟨b, off, _, hv, _, _, _, d0, d1⟩ := gly_cells (HG.out.below HB.out) hx
      cases hv
      have e2 := IntWalk.i64_in (m + x2) (by omega)
      have e3 := IntWalk.i64_in ((k : Int) + 1) (by omega)
      have r0 : (k : Int) < (G.length : Int) := by omega
      have r1 : (0 : Int) ≤ (k : Int) := by omega
      have cc := run_string_add_sum (P := Tryz.prog) wr (catG ⟨#[]⟩ (G.take k)) x1 (by
        have hz0 : (⟨#[]⟩ : ByteArray).size = 0 := rfl
        have h1 := szG_take G (k + 1)
        have h2 := HNs.out
        have h3 := catG_size (G.take k) ⟨#[]⟩
        have h4 : szG (G.take (k + 1)) = szG (G.take k) + x1.size := h2
        omega)
      clear hx hxo hr
      go_wp2_with fail
      go_roundw
      case rel => exact ⟨k + 1, m + x2, by omega, rfl, by rw [HCn.out], by go_num, HB.out, by rw [HN.out, HM.out]⟩
      case measure => simp [intOf] <;> omega
    · have hke : k = G.length := by omega
      subst hke
      rw [List.take_length] at HM ⊢
      have r0 : decide ((G.length : Int) < (G.length : Int)) = false := by simp
      clear hlt hk hr
      go_wp2_with fail
      go_ret2
      exact ⟨by rw [← HM.out]; rfl, below_trans' HB1.out HB.out⟩
end
theorem fin45 {w w1 : World} (h1 : Below w.heap.size w w1) : Calls Tryz.prog 38 #[] w1 fun e w' => e = .returned (.bool true) ∧ Below w.heap.size w w' := by
  refine (awake45_any w1).mono ?_
  rintro e w' ⟨rfl, hB⟩
  exact ⟨rfl, below_trans' h1 hB⟩
end Go.Proofs.YtkeainhjghdfcaaGreat

/- glyph.Line: who owns what it tells. -/
namespace Go.Proofs.YtkeainhjghdfcaaGreat
open Go.RowKit

section
variable {R : List Rw} {s : List Int} {w : World} {v sv : Value} {tp : Nat}
set_option maxRecDepth 100000 in
set_option maxHeartbeats 2000000 in
theorem line_own (hT : Tb R w tp) (hs : RunesIn w sv s) (ok : RunesOk s) (hl : s.length ≤ 900000) :
    Calls Tryz.prog 59 #[.pointer (some ⟨tp, 0, none⟩), sv] w fun e w' => ∃ u a, e = .returned (.tuple #[u, a]) ∧ Below w.heap.size w w' ∧ w'.ownsRow w.heap.size 97 2 u (lineG R (clus (tabOf R) s)).length ((lineG R (clus (tabOf R) s)).flatMap gyE) ∧ w'.ownsRow w.heap.size 3 1 a (atsL R (clus (tabOf R) s) ((clus (tabOf R) s).length + 1)).length ((atsL R (clus (tabOf R) s) ((clus (tabOf R) s).length + 1)).flatMap nE) := by
  have HT := Lib.hid hT
  have HS := Lib.hid hs
  have HOk := Lib.hid ok
  have HCl := Lib.hid (fun (W : World) (h1 : Tb R W tp) (h2 : RunesIn W sv s) => clusters_any h1 h2 ok (by omega))
  have HNe := Lib.hid (clus_ne (tabOf R) s.length s (Nat.le_refl _))
  have HMem := Lib.hid (clus_mem (tabOf R) s.length s (Nat.le_refl _))
  have HTk := Lib.hid (lineG_take_le R s)
  have hLl : (clus (tabOf R) s).length ≤ s.length := clusN_len (tabOf R) s.length s
  generalize clus (tabOf R) s = LL at HCl HNe HMem HTk hLl ⊢
  obtain ⟨sl, cap, rfl, hcap, hmax, _⟩ := runes_cells hs
  unfold maxLen at hmax
  clear hT hs ok
  go_enter Tryz.func59, Tryz.ntmps59
  go_wp2_with fail
  refine (HCl.out w HT.out HS.out).mono ?_
  rintro e w1 ⟨tu, rfl, hB1, hX1⟩
  have HB1 := Lib.hid hB1
  have HX := Lib.hid hX1
  have HT1 := Lib.hid (HT.out.below hB1)
  obtain ⟨ta, tcap, rfl, ht1, ht2⟩ := texts_shape hX1
  unfold maxLen at ht2
  clear hB1 hX1 HCl HT HS
  go_wp2_with fail
  go_loopw [6, 7, 14] (fun ov av iv wr => ∃ (k : Nat) (G : List Gy) (A : List Nat), k ≤ LL.length ∧ iv = .int .i64 ((k : Nat) : Int) ∧ Below w1.heap.size w1 wr ∧ wr.ownsRow w1.heap.size 97 2 ov G.length (G.flatMap gyE) ∧ wr.ownsRow w1.heap.size 3 1 av A.length (A.flatMap nE) ∧ G = lineG R (LL.take k) ∧ A = atsL R LL k) (fun _ _ iv _ => LL.length - (intOf iv).toNat)
  case atStart => exact ⟨0, [], [], Nat.zero_le _, rfl, .refl _ _, World.ownsRow_nil _ _ _ _, World.ownsRow_nil _ _ _ _, rfl, rfl⟩
  case round =>
    obtain ⟨k, G, A, hk, rfl, hB, hO, hA, hG, hAt⟩ := hrel
    have HB := Lib.hid hB
    have HG := Lib.hid hG
    have HAt := Lib.hid hAt
    have hAl : A.length = k := by rw [hAt, atsL_len]
    have hGl : G.length ≤ 2 * s.length := by rw [hG]; exact HTk.out k
    obtain ⟨pa, pc, rfl⟩ := slice_of_owns hO
    obtain ⟨qa, qc, rfl⟩ := slice_of_owns hA
    have HO := Lib.hid hO
    have HA := Lib.hid hA
    have hbs := HB.out.size
    clear hB hO hA hG hAt
    by_cases hlt : k < LL.length
    · obtain ⟨c, hc⟩ : ∃ c, LL[k]? = some c := ⟨LL[k], List.getElem?_eq_getElem hlt⟩
      have hcm := List.mem_of_getElem? hc
      have HC := Lib.hid hc
      have hcl := (HNe.out c hcm).2
      have HOkc := Lib.hid (show RunesOk c from fun x hx => HOk.out x (HMem.out c hcm x hx))
      obtain ⟨b, off, cp, cu, hv, _, _, _, _, d00, hcu⟩ := texts_cell HX.out hc
      cases hv
      have d0 := cell_later HB.out d00
      have HCu := Lib.hid hcu
      have hbig : (A.length + 1) * 8 ≤ 140737488355328 := by omega
      have hgl2 := glOf_le R c
      have hbig2 : (G.length + (glOf R c).length) * 24 ≤ 140737488355328 := by omega
      obtain ⟨ca, ccap, rfl, _, _, _⟩ := runes_cells hcu
      clear hc hcm hcu d00
      go_wp2_with (at_builtin; go_loud (refine wpList_app1 _ rfl (.tmp 18) (.tmp 21) _ rfl EI _ _ _ rfl HA.out 1 1 (nE G.length) rfl (by decide) rfl (nE_one _) hbig hbs ?_); intro g cp7 w7 ho7 hg7 hf7; have HB7 := Lib.hid (below_app HB.out hbs HA.out (Nat.le_refl _) hg7); have HA7 := Lib.hid ho7; have HO7 := Lib.hid (owns_kept_types HA.out HO.out (by decide) hg7); clear ho7 hg7 hf7)
      refine (gof_any (HT1.out.below HB7.out) (HCu.out.below HB7.out) HOkc.out (by omega)).mono ?_
      rintro e w8 ⟨u8, rfl, hB8, hI8⟩
      have HB8 := Lib.hid (HB7.out.trans (hB8.mono HB7.out.size))
      have HA8 := Lib.hid (owns_stays HA7.out hB8)
      have HO8 := Lib.hid (owns_stays HO7.out hB8)
      have HI8 := Lib.hid hI8
      have hbs8 := HB8.out.size
      have HGn := Lib.hid (show G ++ glOf R c = lineG R (LL.take (k + 1)) by rw [List.take_add_one, HC.out, HG.out]; exact (lineG_snoc R (LL.take k) c).symm)
      have HAn := Lib.hid (show A ++ [G.length] = atsL R LL (k + 1) by rw [atsL_succ, HAt.out, HG.out]; rfl)
      clear hB8 hI8 HA7 HO7 HB7 HA HO HB d0
      go_wp2_with (at_builtin; go_loud (refine wpList_app_rd _ rfl (.tmp 23) (.tmp 26) _ rfl EG _ _ _ rfl HO8.out _ _ _ rfl HI8.out (gyE_ones _) hbig2 hbs8 ?_); intro v9 w9 ho9 hg9; have HB9 := Lib.hid (below_app HB8.out hbs8 HO8.out (Nat.le_refl _) hg9); have HA9 := Lib.hid (owns_kept_types HO8.out HA8.out (by decide) hg9); have HO9 := Lib.hid ho9; clear ho9 hg9)
      go_roundw
      case rel => exact ⟨k + 1, G ++ glOf R c, A ++ [G.length], by omega, by go_num, HB9.out, by rw [List.length_append, List.flatMap_append]; exact HO9.out, by rw [List.length_append, flat_snoc]; have h := HA9.out; rw [hAl] at h ⊢; exact h, HGn.out, HAn.out⟩
      case measure => simp [intOf] <;> omega
    · have hke : k = LL.length := by omega
      subst hke
      rw [List.take_length] at HG
      have hbig : (A.length + 1) * 8 ≤ 140737488355328 := by omega
      have HAn := Lib.hid (show A ++ [G.length] = atsL R LL (LL.length + 1) by rw [atsL_succ, HAt.out, aheadG_end, HG.out])
      clear hlt hk
      go_wp2_with (at_builtin; go_loud (refine wpList_app1 _ rfl (.tmp 30) (.tmp 33) _ rfl EI _ _ _ rfl HA.out 1 1 (nE G.length) rfl (by decide) rfl (nE_one _) hbig hbs ?_); intro g cp7 w7 ho7 hg7 hf7; have HB7 := Lib.hid (below_app HB.out hbs HA.out (Nat.le_refl _) hg7); have HA7 := Lib.hid ho7; have HO7 := Lib.hid (owns_kept_types HA.out HO.out (by decide) hg7); clear ho7 hg7 hf7)
      go_ret2
      exact ⟨_, _, rfl, below_trans' HB1.out HB7.out, by rw [← HG.out]; exact owns_lower HO7.out HB1.out.size, by
        rw [← HAn.out]
        exact owns_lower (by rw [List.length_append, flat_snoc]; have h := HA7.out; rw [hAl] at h ⊢; exact h) HB1.out.size⟩
end
end Go.Proofs.YtkeainhjghdfcaaGreat
