/- Joined texts: GlyJ GlyK GlyL GlyN FlowP FlowA FlowB FlowC FlowD UnitP UnitQ UnitR FlowQ FlowE CatS RepP FltP Rep FlowI FlowJ FlowK FlowF. -/
import Derived.Deep.QuietTactic
import Derived.BigQuiet
import Derived.Laws.StructEq
import Derived.Lib.Repeat
import Derived.Shelf.Strings.Repeat
import Derived.Test.YtkeainhjghdfcaaGreatFtbf
import Derived.Test.YtkeainhjghdfcaaGreatFtbc
import Derived.Test.YtkeainhjghdfcaaGreatFtbd
import Derived.Test.YtkeainhjghdfcaaGreatFtbe
import Derived.Test.YtkeainhjghdfcaaGreatFtab
import Derived.Test.YtkeainhjghdfcaaGreatFtaa
import Derived.Test.YtkeainhjghdfcaaGreatFtad

/- Are two lists of glyphs the same? Chapter 13's facts. -/
namespace Go.Proofs.YtkeainhjghdfcaaGreat
open Go.RowKit

theorem gly_cells {w : World} {v : Value} {l : List Gy} (h : GlyIn w v l) {k : Nat} {x : Gy} (hx : l[k]? = some x) : ∃ b off cap, v = .slice (some ⟨b, off, none⟩) l.length cap ∧ l.length ≤ cap ∧ cap ≤ maxLen ∧ b < w.heap.size ∧ w.cell? ⟨b, off + k * 2, none⟩ = some (.string x.1) ∧ w.cell? ⟨b, off + k * 2 + 1, none⟩ = some (.int .i64 x.2) := by
  obtain ⟨a, cap, rfl, h1, h2, _, h4⟩ := h
  have hk := (List.getElem?_eq_some_iff.1 hx).1
  obtain ⟨b, off, rfl, hb, hc⟩ := h4 (by omega)
  refine ⟨b, off, cap, rfl, h1, h2, hb, ?_, ?_⟩
  · have := hc (k * 2 + 0) _ (flat_get gyE_len l k x 0 (.string x.1) hx rfl)
    simpa using this
  · exact hc (k * 2 + 1) _ (flat_get gyE_len l k x 1 (.int .i64 x.2) hx rfl)
theorem gly_shape {w : World} {v : Value} {l : List Gy} (h : GlyIn w v l) : ∃ a cap, v = .slice a l.length cap ∧ l.length ≤ cap ∧ cap ≤ maxLen := by
  obtain ⟨a, cap, hv, h1, h2, _⟩ := h
  exact ⟨a, cap, hv, h1, h2⟩
end Go.Proofs.YtkeainhjghdfcaaGreat

/- Chapter 13's example; GlyphShows' walk. -/
namespace Go.Proofs.YtkeainhjghdfcaaGreat
open Go.RowKit

theorem toList_inj' {a b : ByteArray} (h : a.toList = b.toList) : a = b := by
  rw [ByteArray.toList_eq, ByteArray.toList_eq] at h
  obtain ⟨⟨x⟩⟩ := a
  obtain ⟨⟨y⟩⟩ := b
  simp at h
  rw [h]
end Go.Proofs.YtkeainhjghdfcaaGreat

/- glyph.Line. -/
namespace Go.Proofs.YtkeainhjghdfcaaGreat
open Go.RowKit

/-- rows of two types lie apart -/
theorem sep_types {w : World} {b1 b2 e1 e2 s1 s2 n1 n2 : Nat} {v u : Value} {xs ys : List Value} (h : w.ownsRow b1 e1 s1 v n1 xs) (k : w.ownsRow b2 e2 s2 u n2 ys) (he : e1 ≠ e2) : Sep v u := by
  rcases h.2 with ⟨rfl, _⟩ | ⟨g, cap, cur, rfl, _, hg, _⟩
  · exact .inl rfl
  · rcases k.2 with ⟨rfl, _⟩ | ⟨g', cap', cur', rfl, _, hg', _⟩
    · exact .inr (by simp [Value.ownBlock])
    · refine .inr fun e => he ?_
      have e' : g = g' := by simpa [Value.ownBlock] using e
      subst e'
      rw [hg] at hg'
      cases hg'
      rfl
theorem owns_kept_types {w w' : World} {b1 b2 e1 e2 s1 s2 n1 n2 : Nat} {v u : Value} {xs ys : List Value} (h : w.ownsRow b1 e1 s1 v n1 xs) (k : w.ownsRow b2 e2 s2 u n2 ys) (he : e1 ≠ e2) (hg : w.grownBy w' v.ownBlock) : w'.ownsRow b2 e2 s2 u n2 ys :=
  k.kept hg (by rcases (sep_types h k he).symm with h | h; exact .inl h; exact .inr h)
def atsL (R : List Rw) (LL : List (List Int)) (k : Nat) : List Nat := (List.range k).map (aheadG R LL)
theorem atsL_succ (R : List Rw) (LL : List (List Int)) (k : Nat) : atsL R LL (k + 1) = atsL R LL k ++ [aheadG R LL k] := by
  unfold atsL; rw [List.range_succ, List.map_append]; rfl
theorem atsL_len (R : List Rw) (LL : List (List Int)) (k : Nat) : (atsL R LL k).length = k := by simp [atsL]
theorem lineG_le (R : List Rw) : ∀ LL : List (List Int), (lineG R LL).length ≤ 2 * LL.flatten.length
  | [] => by simp [lineG]
  | c :: LL => by
    have h1 := lineG_le R LL
    have h2 := glOf_le R c
    have e : lineG R (c :: LL) = glOf R c ++ lineG R LL := rfl
    rw [e, List.length_append, List.flatten_cons, List.length_append]
    omega
theorem clus_flat (T : Tab) : ∀ (n : Nat) (s : List Int), s.length ≤ n → (clus T s).flatten = s
  | 0, s, h => by
    have : s = [] := List.eq_nil_of_length_eq_zero (by omega)
    subst this; rfl
  | n + 1, s, h => by
    by_cases hs : s = []
    · subst hs; rfl
    · have hp := nx_pos T hs
      rw [clus_step T hs, List.flatten_cons, clus_flat T n _ (by rw [List.length_drop]; have := List.length_pos_iff.2 hs; omega), List.take_append_drop]
theorem clus_ne (T : Tab) : ∀ (n : Nat) (s : List Int), s.length ≤ n → ∀ c ∈ clus T s, c ≠ [] ∧ c.length ≤ s.length
  | 0, s, h => by
    have : s = [] := List.eq_nil_of_length_eq_zero (by omega)
    subst this; intro c hc; simp [clus_nil] at hc
  | n + 1, s, h => by
    by_cases hs : s = []
    · subst hs; intro c hc; simp [clus_nil] at hc
    · have hp := nx_pos T hs
      have hl := List.length_pos_iff.2 hs
      rw [clus_step T hs]
      intro c hc
      rcases List.mem_cons.1 hc with rfl | hc
      · refine ⟨fun e => ?_, by rw [List.length_take]; omega⟩
        have h1 : (s.take (nx T s)).length = 0 := by rw [e]; rfl
        rw [List.length_take] at h1
        omega
      · have := clus_ne T n (s.drop (nx T s)) (by rw [List.length_drop]; omega) c hc
        exact ⟨this.1, by have h2 := this.2; rw [List.length_drop] at h2; omega⟩
theorem clus_mem (T : Tab) : ∀ (n : Nat) (s : List Int), s.length ≤ n → ∀ c ∈ clus T s, ∀ x ∈ c, x ∈ s := by
  intro n s h c hc x hx
  rw [← clus_flat T n s h]
  exact List.mem_flatten.2 ⟨c, hc, hx⟩
theorem lineG_take_le (R : List Rw) (s : List Int) (k : Nat) : (lineG R ((clus (tabOf R) s).take k)).length ≤ 2 * s.length := by
  have h := lineG_le R (clus (tabOf R) s)
  rw [clus_flat (tabOf R) s.length s (Nat.le_refl _)] at h
  have : lineG R (clus (tabOf R) s) = lineG R ((clus (tabOf R) s).take k) ++ lineG R ((clus (tabOf R) s).drop k) := by
    unfold lineG; rw [← List.flatMap_append, List.take_append_drop]
  rw [this, List.length_append] at h
  omega
section
variable {R : List Rw} {s : List Int} {w : World} {v sv : Value} {tp : Nat}
set_option maxRecDepth 100000 in
set_option maxHeartbeats 2000000 in
theorem line_any (hT : Tb R w tp) (hs : RunesIn w sv s) (ok : RunesOk s) (hl : s.length ≤ 900000) :
    Calls Tryz.prog 59 #[.pointer (some ⟨tp, 0, none⟩), sv] w fun e w' => ∃ u a, e = .returned (.tuple #[u, a]) ∧ Below w.heap.size w w' ∧ GlyIn w' u (lineG R (clus (tabOf R) s)) ∧ IntsIn w' a (atsL R (clus (tabOf R) s) ((clus (tabOf R) s).length + 1)) := by
  have HT := Lib.hid hT
  have HS := Lib.hid hs
  have HOk := Lib.hid ok
  have HCl := Lib.hid (fun (W : World) (h1 : Tb R W tp) (h2 : RunesIn W sv s) => clusters_any h1 h2 ok (by omega))
  have HNe := Lib.hid (clus_ne (tabOf R) s.length s (Nat.le_refl _))
  have HMem := Lib.hid (clus_mem (tabOf R) s.length s (Nat.le_refl _))
  have HTk := Lib.hid (lineG_take_le R s)
  have hLl : (clus (tabOf R) s).length ≤ s.length := clusN_len (tabOf R) s.length s
  generalize clus (tabOf R) s = LL at HCl HNe HMem HTk hLl ⊢
  obtain ⟨sl, cap, rfl, hcap, hmax, _⟩ := runes_cells hs
  unfold maxLen at hmax
  clear hT hs ok
  go_enter Tryz.func59, Tryz.ntmps59
  go_wp2_with fail
  refine (HCl.out w HT.out HS.out).mono ?_
  rintro e w1 ⟨tu, rfl, hB1, hX1⟩
  have HB1 := Lib.hid hB1
  have HX := Lib.hid hX1
  have HT1 := Lib.hid (HT.out.below hB1)
  obtain ⟨ta, tcap, rfl, ht1, ht2⟩ := texts_shape hX1
  unfold maxLen at ht2
  clear hB1 hX1 HCl HT HS
  go_wp2_with fail
  go_loopw [6, 7, 14] (fun ov av iv wr => ∃ (k : Nat) (G : List Gy) (A : List Nat), k ≤ LL.length ∧ iv = .int .i64 ((k : Nat) : Int) ∧ Below w1.heap.size w1 wr ∧ wr.ownsRow w1.heap.size 97 2 ov G.length (G.flatMap gyE) ∧ wr.ownsRow w1.heap.size 3 1 av A.length (A.flatMap nE) ∧ G = lineG R (LL.take k) ∧ A = atsL R LL k) (fun _ _ iv _ => LL.length - (intOf iv).toNat)
  case atStart => exact ⟨0, [], [], Nat.zero_le _, rfl, .refl _ _, World.ownsRow_nil _ _ _ _, World.ownsRow_nil _ _ _ _, rfl, rfl⟩
  case round =>
    obtain ⟨k, G, A, hk, rfl, hB, hO, hA, hG, hAt⟩ := hrel
    have HB := Lib.hid hB
    have HG := Lib.hid hG
    have HAt := Lib.hid hAt
    have hAl : A.length = k := by rw [hAt, atsL_len]
    have hGl : G.length ≤ 2 * s.length := by rw [hG]; exact HTk.out k
    obtain ⟨pa, pc, rfl⟩ := slice_of_owns hO
    obtain ⟨qa, qc, rfl⟩ := slice_of_owns hA
    have HO := Lib.hid hO
    have HA := Lib.hid hA
    have hbs := HB.out.size
    clear hB hO hA hG hAt
    by_cases hlt : k < LL.length
    · obtain ⟨c, hc⟩ : ∃ c, LL[k]? = some c := ⟨LL[k], List.getElem?_eq_getElem hlt⟩
      have hcm := List.mem_of_getElem? hc
      have HC := Lib.hid hc
      have hcl := (HNe.out c hcm).2
      have HOkc := Lib.hid (show RunesOk c from fun x hx => HOk.out x (HMem.out c hcm x hx))
      obtain ⟨b, off, cp, cu, hv, _, _, _, _, d00, hcu⟩ := texts_cell HX.out hc
      cases hv
      have d0 := cell_later HB.out d00
      have HCu := Lib.hid hcu
      have hbig : (A.length + 1) * 8 ≤ 140737488355328 := by omega
      have hgl2 := glOf_le R c
      have hbig2 : (G.length + (glOf R c).length) * 24 ≤ 140737488355328 := by omega
      obtain ⟨ca, ccap, rfl, _, _, _⟩ := runes_cells hcu
      clear hc hcm hcu d00
      go_wp2_with (at_builtin; go_loud (refine wpList_app1 _ rfl (.tmp 18) (.tmp 21) _ rfl EI _ _ _ rfl HA.out 1 1 (nE G.length) rfl (by decide) rfl (nE_one _) hbig hbs ?_); intro g cp7 w7 ho7 hg7 hf7; have HB7 := Lib.hid (below_app HB.out hbs HA.out (Nat.le_refl _) hg7); have HA7 := Lib.hid ho7; have HO7 := Lib.hid (owns_kept_types HA.out HO.out (by decide) hg7); clear ho7 hg7 hf7)
      refine (gof_any (HT1.out.below HB7.out) (HCu.out.below HB7.out) HOkc.out (by omega)).mono ?_
      rintro e w8 ⟨u8, rfl, hB8, hI8⟩
      have HB8 := Lib.hid (HB7.out.trans (hB8.mono HB7.out.size))
      have HA8 := Lib.hid (owns_stays HA7.out hB8)
      have HO8 := Lib.hid (owns_stays HO7.out hB8)
      have HI8 := Lib.hid hI8
      have hbs8 := HB8.out.size
      have HGn := Lib.hid (show G ++ glOf R c = lineG R (LL.take (k + 1)) by rw [List.take_add_one, HC.out, HG.out]; exact (lineG_snoc R (LL.take k) c).symm)
      have HAn := Lib.hid (show A ++ [G.length] = atsL R LL (k + 1) by rw [atsL_succ, HAt.out, HG.out]; rfl)
      clear hB8 hI8 HA7 HO7 HB7 HA HO HB d0
      go_wp2_with (at_builtin; go_loud (refine wpList_app_rd _ rfl (.tmp 23) (.tmp 26) _ rfl EG _ _ _ rfl HO8.out _ _ _ rfl HI8.out (gyE_ones _) hbig2 hbs8 ?_); intro v9 w9 ho9 hg9; have HB9 := Lib.hid (below_app HB8.out hbs8 HO8.out (Nat.le_refl _) hg9); have HA9 := Lib.hid (owns_kept_types HO8.out HA8.out (by decide) hg9); have HO9 := Lib.hid ho9; clear ho9 hg9)
      go_roundw
      case rel => exact ⟨k + 1, G ++ glOf R c, A ++ [G.length], by omega, by go_num, HB9.out, by rw [List.length_append, List.flatMap_append]; exact HO9.out, by rw [List.length_append, flat_snoc]; have h := HA9.out; rw [hAl] at h ⊢; exact h, HGn.out, HAn.out⟩
      case measure => simp [intOf] <;> omega
    · have hke : k = LL.length := by omega
      subst hke
      rw [List.take_length] at HG
      have hbig : (A.length + 1) * 8 ≤ 140737488355328 := by omega
      have HAn := Lib.hid (show A ++ [G.length] = atsL R LL (LL.length + 1) by rw [atsL_succ, HAt.out, aheadG_end, HG.out])
      clear hlt hk
      go_wp2_with (at_builtin; go_loud (refine wpList_app1 _ rfl (.tmp 30) (.tmp 33) _ rfl EI _ _ _ rfl HA.out 1 1 (nE G.length) rfl (by decide) rfl (nE_one _) hbig hbs ?_); intro g cp7 w7 ho7 hg7 hf7; have HB7 := Lib.hid (below_app HB.out hbs HA.out (Nat.le_refl _) hg7); have HA7 := Lib.hid ho7; have HO7 := Lib.hid (owns_kept_types HA.out HO.out (by decide) hg7); clear ho7 hg7 hf7)
      go_ret2
      exact ⟨_, _, rfl, below_trans' HB1.out HB7.out, by rw [← HG.out]; exact gly_of_owns HO7.out, by
        rw [← HAn.out]
        exact ints_of_owns (base := w1.heap.size) (e := 3) (by rw [List.length_append, flat_snoc]; have h := HA7.out; rw [hAl] at h ⊢; exact h)⟩
end
end Go.Proofs.YtkeainhjghdfcaaGreat

/- The document's Line; a line's columns and bytes. -/
namespace Go.Proofs.YtkeainhjghdfcaaGreat
open Go.RowKit

/-- a glyphs' bytes, and columns, all together -/
def szG (L : List Gy) : Nat := (L.map (fun g => g.1.size)).sum
def wdG (L : List Gy) : Int := (L.map (fun g => g.2)).sum
theorem szG_app (a b : List Gy) : szG (a ++ b) = szG a + szG b := by unfold szG; rw [List.map_append, List.sum_append]
theorem wdG_app (a b : List Gy) : wdG (a ++ b) = wdG a + wdG b := by unfold wdG; rw [List.map_append, List.sum_append]
theorem szG_one (g : Gy) : szG [g] = g.1.size := by simp [szG]
theorem wdG_one (g : Gy) : wdG [g] = g.2 := by simp [wdG]
theorem take_snoc {L : List Gy} {k : Nat} {x : Gy} (h : L[k]? = some x) : L.take (k + 1) = L.take k ++ [x] := by rw [List.take_add_one, h]; rfl
theorem szG_take (L : List Gy) (k : Nat) : szG (L.take k) ≤ szG L := by
  have : szG L = szG (L.take k) + szG (L.drop k) := by rw [← szG_app, List.take_append_drop]
  omega
theorem caret_sz (r : Int) : szG (caretG r) ≤ 3 := by
  unfold caretG
  split
  · have : (strOfNums [r + 64]).size = 1 := by rw [strOfNums_size]; rfl
    show szG ([(⟨#[94]⟩, 1)] ++ [(strOfNums [r + 64], 1)]) ≤ 3
    rw [szG_app, szG_one, szG_one]
    show 1 + (strOfNums [r + 64]).size ≤ 3
    omega
  · split
    · show szG ([(⟨#[94]⟩, 1)] ++ [(⟨#[63]⟩, 1)]) ≤ 3
      rw [szG_app, szG_one, szG_one]
      show 1 + 1 ≤ 3
      omega
    · rw [szG_one]
      show (put 65533).size ≤ 3
      rw [put_size]
      decide
theorem carets_sz : ∀ c : List Int, szG (c.flatMap caretG) ≤ 3 * c.length
  | [] => by simp [szG]
  | r :: c => by
    have h1 := carets_sz c
    have h2 := caret_sz r
    rw [List.flatMap_cons, szG_app, List.length_cons]
    omega
theorem glOf_sz (R : List Rw) (c : List Int) : szG (glOf R c) ≤ 12 * c.length := by
  unfold glOf
  split
  · rename_i h; subst h; exact Nat.le_refl _
  · rename_i h
    have hl : 1 ≤ c.length := List.length_pos_iff.2 h
    split
    · have := carets_sz c; omega
    · rw [szG_one]
      show (enc (lean R c)).size ≤ _
      rw [enc_size]
      have h1 := encN_len (lean R c)
      have h2 := lean_len R c
      omega
theorem lineG_sz (R : List Rw) : ∀ LL : List (List Int), szG (lineG R LL) ≤ 12 * LL.flatten.length
  | [] => by simp [lineG, szG]
  | c :: LL => by
    have h1 := lineG_sz R LL
    have h2 := glOf_sz R c
    have e : lineG R (c :: LL) = glOf R c ++ lineG R LL := rfl
    rw [e, szG_app, List.flatten_cons, List.length_append]
    omega
theorem wdG_rng {L : List Gy} (h : ∀ g ∈ L, g.2 = 1 ∨ g.2 = 2) : 0 ≤ wdG L ∧ wdG L ≤ 2 * L.length := by
  induction L with
  | nil => simp [wdG]
  | cons g L ih =>
    have h1 := ih (fun x hx => h x (List.mem_cons_of_mem _ hx))
    have h2 := h g List.mem_cons_self
    have e : wdG (g :: L) = g.2 + wdG L := by simp [wdG]
    rw [e, List.length_cons]
    omega
section
variable {R : List Rw} {s : List Int} {w : World} {v sv : Value} {tp : Nat}
set_option maxRecDepth 100000 in
set_option maxHeartbeats 2000000 in
theorem rline_any (H : (tabOf R).Ok) (hR : RowsIn w v R) (hs : RunesIn w sv s) (ok : RunesOk s) (hl : s.length ≤ 900000) :
    Calls Tryz.prog 30 #[v, sv] w fun e w' => ∃ u a, e = .returned (.tuple #[u, a]) ∧ Below w.heap.size w w' ∧ GlyIn w' u (lineG R (clus (tabOf R) s)) ∧ IntsIn w' a (atsL R (clus (tabOf R) s) ((clus (tabOf R) s).length + 1)) := by
  have HR := Lib.hid hR
  have HS := Lib.hid hs
  have HOk := Lib.hid ok
  have HCl := Lib.hid (fun (W : World) (h1 : RowsIn W v R) (h2 : RunesIn W sv s) => rclusters_any H h1 h2 ok (by omega))
  have HNe := Lib.hid (clus_ne (tabOf R) s.length s (Nat.le_refl _))
  have HMem := Lib.hid (clus_mem (tabOf R) s.length s (Nat.le_refl _))
  have HTk := Lib.hid (lineG_take_le R s)
  have hLl : (clus (tabOf R) s).length ≤ s.length := clusN_len (tabOf R) s.length s
  generalize clus (tabOf R) s = LL at HCl HNe HMem HTk hLl ⊢
  obtain ⟨sl, cap, rfl, hcap, hmax, _⟩ := runes_cells hs
  unfold maxLen at hmax
  clear hR hs ok H
  go_enter Tryz.func30, Tryz.ntmps30
  go_wp2_with fail
  refine (HCl.out w HR.out HS.out).mono ?_
  rintro e w1 ⟨tu, rfl, hB1, hX1⟩
  have HB1 := Lib.hid hB1
  have HX := Lib.hid hX1
  have HR1 := Lib.hid (HR.out.below hB1)
  obtain ⟨ta, tcap, rfl, ht1, ht2⟩ := texts_shape hX1
  unfold maxLen at ht2
  clear hB1 hX1 HCl HR HS
  go_wp2_with fail
  go_loopw [6, 7, 9] (fun ov av iv wr => ∃ (k : Nat) (G : List Gy) (A : List Nat), k ≤ LL.length ∧ iv = .int .i64 ((k : Nat) : Int) ∧ Below w1.heap.size w1 wr ∧ wr.ownsRow w1.heap.size 81 2 ov G.length (G.flatMap gyE) ∧ wr.ownsRow w1.heap.size 3 1 av A.length (A.flatMap nE) ∧ G = lineG R (LL.take k) ∧ A = atsL R LL k) (fun _ _ iv _ => LL.length - (intOf iv).toNat)
  case atStart => exact ⟨0, [], [], Nat.zero_le _, rfl, .refl _ _, World.ownsRow_nil _ _ _ _, World.ownsRow_nil _ _ _ _, rfl, rfl⟩
  case round =>
    obtain ⟨k, G, A, hk, rfl, hB, hO, hA, hG, hAt⟩ := hrel
    have HB := Lib.hid hB
    have HG := Lib.hid hG
    have HAt := Lib.hid hAt
    have hAl : A.length = k := by rw [hAt, atsL_len]
    have hGl : G.length ≤ 2 * s.length := by rw [hG]; exact HTk.out k
    obtain ⟨pa, pc, rfl⟩ := slice_of_owns hO
    obtain ⟨qa, qc, rfl⟩ := slice_of_owns hA
    have HO := Lib.hid hO
    have HA := Lib.hid hA
    have hbs := HB.out.size
    clear hB hO hA hG hAt
    by_cases hlt : k < LL.length
    · obtain ⟨c, hc⟩ : ∃ c, LL[k]? = some c := ⟨LL[k], List.getElem?_eq_getElem hlt⟩
      have hcm := List.mem_of_getElem? hc
      have HC := Lib.hid hc
      have hcl := (HNe.out c hcm).2
      have HOkc := Lib.hid (show RunesOk c from fun x hx => HOk.out x (HMem.out c hcm x hx))
      obtain ⟨b, off, cp, cu, hv, _, _, _, _, d00, hcu⟩ := texts_cell HX.out hc
      cases hv
      have HD0 := Lib.hid d00
      have HCu := Lib.hid hcu
      have hbig : (A.length + 1) * 8 ≤ 140737488355328 := by omega
      have hgl2 := glOf_le R c
      have hbig2 : (G.length + (glOf R c).length) * 24 ≤ 140737488355328 := by omega
      obtain ⟨ca, ccap, rfl, _, _, _⟩ := runes_cells hcu
      have r0 : (k : Int) < (LL.length : Int) := by omega
      have r1 : (0 : Int) ≤ (k : Int) := by omega
      have e1 := IntWalk.i64_in ((k : Int) + 1) (by omega)
      clear hc hcm hcu d00
      go_wp2_with (at_builtin; go_loud (refine wpList_app1 _ rfl (.tmp 19) (.tmp 22) _ rfl EI _ _ _ rfl HA.out 1 1 (nE G.length) rfl (by decide) rfl (nE_one _) hbig hbs ?_); intro g cp7 w7 ho7 hg7 hf7; have HB7 := Lib.hid (below_app HB.out hbs HA.out (Nat.le_refl _) hg7); have HA7 := Lib.hid ho7; have HO7 := Lib.hid (owns_kept_types HA.out HO.out (by decide) hg7); have d0 := cell_later HB7.out HD0.out; clear ho7 hg7 hf7)
      refine (rgof_any (HR1.out.below HB7.out) (HCu.out.below HB7.out) HOkc.out (by omega)).mono ?_
      rintro e w8 ⟨u8, rfl, hB8, hI8⟩
      have HB8 := Lib.hid (HB7.out.trans (hB8.mono HB7.out.size))
      have HA8 := Lib.hid (owns_stays HA7.out hB8)
      have HO8 := Lib.hid (owns_stays HO7.out hB8)
      have HI8 := Lib.hid hI8
      have hbs8 := HB8.out.size
      have HGn := Lib.hid (show G ++ glOf R c = lineG R (LL.take (k + 1)) by rw [List.take_add_one, HC.out, HG.out]; exact (lineG_snoc R (LL.take k) c).symm)
      have HAn := Lib.hid (show A ++ [G.length] = atsL R LL (k + 1) by rw [atsL_succ, HAt.out, HG.out]; rfl)
      clear hB8 hI8 HA7 HO7 HB7 HA HO HB d0
      go_wp2_with (at_builtin; go_loud (refine wpList_app_rd _ rfl (.tmp 24) (.tmp 30) _ rfl ERG _ _ _ rfl HO8.out _ _ _ rfl HI8.out (gyE_ones _) hbig2 hbs8 ?_); intro v9 w9 ho9 hg9; have HB9 := Lib.hid (below_app HB8.out hbs8 HO8.out (Nat.le_refl _) hg9); have HA9 := Lib.hid (owns_kept_types HO8.out HA8.out (by decide) hg9); have HO9 := Lib.hid ho9; clear ho9 hg9)
      go_roundw
      case rel => exact ⟨k + 1, G ++ glOf R c, A ++ [G.length], by omega, by go_num, HB9.out, by rw [List.length_append, List.flatMap_append]; exact HO9.out, by rw [List.length_append, flat_snoc]; have h := HA9.out; rw [hAl] at h ⊢; exact h, HGn.out, HAn.out⟩
      case measure => simp [intOf] <;> omega
    · have hke : k = LL.length := by omega
      subst hke
      rw [List.take_length] at HG
      have hbig : (A.length + 1) * 8 ≤ 140737488355328 := by omega
      have HAn := Lib.hid (show A ++ [G.length] = atsL R LL (LL.length + 1) by rw [atsL_succ, HAt.out, aheadG_end, HG.out])
      have r0 : decide ((LL.length : Int) < (LL.length : Int)) = false := by simp
      clear hlt hk
      go_wp2_with (at_builtin; go_loud (refine wpList_app1 _ rfl (.tmp 33) (.tmp 36) _ rfl EI _ _ _ rfl HA.out 1 1 (nE G.length) rfl (by decide) rfl (nE_one _) hbig hbs ?_); intro g cp7 w7 ho7 hg7 hf7; have HB7 := Lib.hid (below_app HB.out hbs HA.out (Nat.le_refl _) hg7); have HA7 := Lib.hid ho7; have HO7 := Lib.hid (owns_kept_types HA.out HO.out (by decide) hg7); clear ho7 hg7 hf7)
      go_ret2
      exact ⟨_, _, rfl, below_trans' HB1.out HB7.out, by rw [← HG.out]; exact rgly_of_owns HO7.out, by
        rw [← HAn.out]
        exact ints_of_owns (base := w1.heap.size) (e := 3) (by rw [List.length_append, flat_snoc]; have h := HA7.out; rw [hAl] at h ⊢; exact h)⟩
end
end Go.Proofs.YtkeainhjghdfcaaGreat

/- Flow: plain law of rows that are broken between words. No program is named here. -/
namespace Go.Proofs.YtkeainhjghdfcaaGreat

/-- a cluster's columns -/
def wC (R : List Rw) (c : List Int) : Int := wdG (glOf R c)
/-- is a cluster a blank? -/
def blkC (c : List Int) : Bool := decide (c = [32])
def sumW (R : List Rw) (LL : List (List Int)) : Int := wdG (lineG R LL)
/-- columns without the blanks at the end -/
def shW (R : List Rw) : List (List Int) → Int
  | [] => 0
  | c :: LL => if (c :: LL).all blkC then 0 else wC R c + shW R LL
section
variable {R : List Rw}
theorem wC_nonneg (c : List Int) : 0 ≤ wC R c := by
  have := (wdG_rng (L := lineG R [c]) (fun g hg => (lineG_ok R g hg).1)).1
  have e : lineG R [c] = glOf R c := by simp [lineG]
  rw [e] at this
  exact this
theorem sumW_nil : sumW R [] = 0 := rfl
theorem sumW_app (A B : List (List Int)) : sumW R (A ++ B) = sumW R A + sumW R B := by
  unfold sumW lineG
  rw [List.flatMap_append, wdG_app]
theorem sumW_one (c : List Int) : sumW R [c] = wC R c := by unfold sumW lineG wC; simp
theorem sumW_cons (c : List Int) (A : List (List Int)) : sumW R (c :: A) = wC R c + sumW R A := by
  rw [show c :: A = [c] ++ A from rfl, sumW_app, sumW_one]
theorem sumW_nonneg : ∀ A : List (List Int), 0 ≤ sumW R A
  | [] => by rw [sumW_nil]; exact Int.le_refl _
  | c :: A => by
    have h1 := wC_nonneg (R := R) c
    have h2 := sumW_nonneg A
    rw [sumW_cons]; omega
theorem shW_all : ∀ {A : List (List Int)}, A.all blkC = true → shW R A = 0
  | [], _ => rfl
  | c :: A, h => by unfold shW; rw [if_pos h]
theorem shW_blanks : ∀ (A : List (List Int)) {B : List (List Int)}, B.all blkC = true → shW R (A ++ B) = shW R A
  | [], B, h => shW_all h
  | c :: A, B, h => by
    have ih := shW_blanks A h
    rw [List.cons_append]
    unfold shW
    have e : (c :: (A ++ B)).all blkC = (c :: A).all blkC := by rw [← List.cons_append, List.all_append, h, Bool.and_true]
    rw [e, ih]
theorem shW_snoc : ∀ (A : List (List Int)) {c : List Int}, blkC c = false → shW R (A ++ [c]) = sumW R (A ++ [c])
  | [], c, h => by
    show shW R [c] = sumW R [c]
    unfold shW
    rw [if_neg (by simp [h]), sumW_one]
    show wC R c + 0 = _
    omega
  | a :: A, c, h => by
    have ih := shW_snoc A h
    rw [List.cons_append]
    unfold shW
    rw [if_neg (by simp [h]), ih, sumW_cons]
theorem shW_step (A : List (List Int)) (c : List Int) : shW R (A ++ [c]) = if blkC c = true then shW R A else sumW R (A ++ [c]) := by
  by_cases h : blkC c = true
  · rw [if_pos h, shW_blanks A (by simp [h])]
  · rw [if_neg h, shW_snoc A (by simpa using h)]
theorem shW_le : ∀ A : List (List Int), 0 ≤ shW R A ∧ shW R A ≤ sumW R A
  | [] => ⟨Int.le_refl _, Int.le_refl _⟩
  | c :: A => by
    have h1 := wC_nonneg (R := R) c
    have h2 := shW_le A
    have h3 := sumW_nonneg (R := R) A
    unfold shW
    rw [sumW_cons]
    split <;> omega
theorem shW_up (A : List (List Int)) (c : List Int) : shW R A ≤ shW R (A ++ [c]) := by
  have h1 := shW_le (R := R) A
  have h2 := wC_nonneg (R := R) c
  rw [shW_step, sumW_app, sumW_one]
  split <;> omega
theorem shW_mono (LL : List (List Int)) : ∀ {i j : Nat}, i ≤ j → j ≤ LL.length → shW R (LL.take i) ≤ shW R (LL.take j) := by
  intro i j hij
  induction hij with
  | refl => intro _; exact Int.le_refl _
  | step _ ih =>
    intro hj
    rename_i m _
    obtain ⟨c, hc⟩ : ∃ c, LL[m]? = some c := ⟨_, List.getElem?_eq_getElem (by omega)⟩
    have h1 := ih (by omega)
    have h2 := shW_up (R := R) (LL.take m) c
    have e : LL.take (m + 1) = LL.take m ++ [c] := by rw [List.take_add_one, hc]; rfl
    show shW R (LL.take i) ≤ shW R (LL.take (m + 1))
    rw [e]
    omega
/-- the blanks at the end left out: what is left of so many -/
theorem shW_trim (LL : List (List Int)) {m : Nat} (hb : (LL.drop m).all blkC = true) (hm : m = 0 ∨ ∃ c, LL[m - 1]? = some c ∧ blkC c = false) : shW R LL = sumW R (LL.take m) := by
  have h1 := shW_blanks (R := R) (LL.take m) hb
  rw [List.take_append_drop] at h1
  rw [h1]
  rcases hm with rfl | ⟨c, hc, hc2⟩
  · rfl
  · have hml := (List.getElem?_eq_some_iff.1 hc).1
    cases m with
    | zero => exact rfl
    | succ m =>
      rw [Nat.add_sub_cancel] at hc
      have e : LL.take (m + 1) = LL.take m ++ [c] := by rw [List.take_add_one, hc]; rfl
      rw [e, shW_snoc _ hc2]
end
/-- the greatest number that is not 0, not above n and says yes -/
def lastN (p : Nat → Bool) : Nat → Option Nat
  | 0 => none
  | n + 1 => if p (n + 1) then some (n + 1) else lastN p n
theorem lastN_some {p : Nat → Bool} : ∀ {n e : Nat}, lastN p n = some e → 1 ≤ e ∧ e ≤ n ∧ p e = true ∧ ∀ j, e < j → j ≤ n → p j = false
  | 0, e, h => by simp [lastN] at h
  | n + 1, e, h => by
    unfold lastN at h
    by_cases hp : p (n + 1) = true
    · rw [if_pos hp] at h; cases h
      exact ⟨by omega, Nat.le_refl _, hp, fun j a b => by omega⟩
    · rw [if_neg hp] at h
      obtain ⟨h1, h2, h3, h4⟩ := lastN_some h
      refine ⟨h1, by omega, h3, fun j a b => ?_⟩
      rcases Nat.eq_or_lt_of_le b with rfl | hl
      · simpa using hp
      · exact h4 j a (by omega)
theorem lastN_none {p : Nat → Bool} : ∀ {n : Nat}, lastN p n = none → ∀ j, 1 ≤ j → j ≤ n → p j = false
  | 0, _, j, a, b => by omega
  | n + 1, h, j, a, b => by
    unfold lastN at h
    by_cases hp : p (n + 1) = true
    · rw [if_pos hp] at h; cases h
    · rw [if_neg hp] at h
      rcases Nat.eq_or_lt_of_le b with rfl | hl
      · simpa using hp
      · exact lastN_none h j a (by omega)
theorem lastN_is {p : Nat → Bool} {n e : Nat} (h1 : 1 ≤ e) (h2 : e ≤ n) (h3 : p e = true) (h4 : ∀ j, e < j → j ≤ n → p j = false) : lastN p n = some e := by
  cases h : lastN p n with
  | none => rw [lastN_none h e h1 h2] at h3; cases h3
  | some e' =>
    obtain ⟨a1, a2, a3, a4⟩ := lastN_some h
    rcases Nat.lt_trichotomy e e' with hl | rfl | hl
    · rw [h4 e' hl a2] at a3; cases a3
    · rfl
    · rw [a4 e hl h2] at h3; cases h3
theorem lastN_no {p : Nat → Bool} : ∀ {n : Nat}, (∀ j, 1 ≤ j → j ≤ n → p j = false) → lastN p n = none
  | 0, _ => rfl
  | n + 1, h => by
    unfold lastN
    rw [if_neg (by rw [h (n + 1) (by omega) (Nat.le_refl _)]; decide)]
    exact lastN_no fun j a b => h j a (by omega)
section
variable (R : List Rw) (LL : List (List Int)) (cols : Int)
def fitN (n : Nat) : Bool := decide (shW R (LL.take n) ≤ cols)
/-- may a row end there? behind blanks, ahead of what is none; at the end -/
def brkN (n : Nat) : Bool := decide (n = LL.length) || (match LL[n - 1]?, LL[n]? with | some a, some b => blkC a && !blkC b | _, _ => false)
/-- how many clusters the first row has -/
def endN : Nat := match lastN (fun n => brkN LL n && fitN R LL cols n) LL.length with
  | some n => n
  | none => match lastN (fitN R LL cols) LL.length with
    | some n => n
    | none => 1
end
section
variable {R : List Rw} {LL : List (List Int)} {cols : Int}
theorem fitN_down {i j : Nat} (hij : i ≤ j) (hj : j ≤ LL.length) (h : fitN R LL cols j = true) : fitN R LL cols i = true := by
  unfold fitN at h ⊢
  rw [decide_eq_true_eq] at h ⊢
  have := shW_mono (R := R) LL hij hj
  omega
theorem endN_rng (h : LL ≠ []) : 1 ≤ endN R LL cols ∧ endN R LL cols ≤ LL.length := by
  have hl : 0 < LL.length := List.length_pos_iff.2 h
  unfold endN
  cases h1 : lastN (fun n => brkN LL n && fitN R LL cols n) LL.length with
  | some n => obtain ⟨a, b, _⟩ := lastN_some h1; exact ⟨a, b⟩
  | none =>
    cases h2 : lastN (fitN R LL cols) LL.length with
    | some n => obtain ⟨a, b, _⟩ := lastN_some h2; exact ⟨a, b⟩
    | none => exact ⟨Nat.le_refl _, hl⟩
/-- a row that does not fit has one cluster -/
theorem endN_fit (_ : LL ≠ []) : fitN R LL cols (endN R LL cols) = true ∨ endN R LL cols = 1 := by
  unfold endN
  cases h1 : lastN (fun n => brkN LL n && fitN R LL cols n) LL.length with
  | some n =>
    obtain ⟨_, _, c, _⟩ := lastN_some h1
    rw [Bool.and_eq_true] at c
    exact .inl c.2
  | none =>
    cases h2 : lastN (fitN R LL cols) LL.length with
    | some n => obtain ⟨_, _, c, _⟩ := lastN_some h2; exact .inl c
    | none => exact .inr rfl
/-- what the program finds on its way up: m is the last that fits, b the last of these that a row may end at (0: none) -/
theorem endN_up {m b : Nat} (hm : m ≤ LL.length) (hf : ∀ j, 1 ≤ j → j ≤ m → fitN R LL cols j = true) (hn : m = LL.length ∨ fitN R LL cols (m + 1) = false)
    (hb : b ≤ m) (hb1 : b = 0 ∨ brkN LL b = true) (hb2 : ∀ j, b < j → j ≤ m → brkN LL j = false) : endN R LL cols = if 0 < b then b else if 0 < m then m else 1 := by
  have hno : ∀ j, m < j → j ≤ LL.length → fitN R LL cols j = false := by
    intro j h1 h2
    rcases hn with h | h
    · omega
    · rcases hc : fitN R LL cols j with _ | _
      · rfl
      · rw [fitN_down (i := m + 1) (by omega) h2 hc] at h; cases h
  by_cases h0 : 0 < b
  · rw [if_pos h0]
    unfold endN
    rw [lastN_is (p := fun n => brkN LL n && fitN R LL cols n) (n := LL.length) (e := b) h0 (by omega) (by
      show (brkN LL b && fitN R LL cols b) = true
      rw [hf b h0 hb, hb1.resolve_left (by omega)]; rfl) (fun j a c => by
      show (brkN LL j && fitN R LL cols j) = false
      rcases Nat.lt_or_ge m j with hl | hl
      · rw [hno j hl c, Bool.and_false]
      · rw [hb2 j a hl, Bool.false_and])]
  · rw [if_neg h0]
    unfold endN
    rw [lastN_no (p := fun n => brkN LL n && fitN R LL cols n) (n := LL.length) (fun j a c => by
      show (brkN LL j && fitN R LL cols j) = false
      rcases Nat.lt_or_ge m j with hl | hl
      · rw [hno j hl c, Bool.and_false]
      · rw [hb2 j (by omega) hl, Bool.false_and])]
    by_cases h1 : 0 < m
    · rw [if_pos h1]
      show (match lastN (fitN R LL cols) LL.length with | some n => n | none => 1) = m
      rw [lastN_is h1 hm (hf m h1 (Nat.le_refl _)) hno]
    · rw [if_neg h1]
      show (match lastN (fitN R LL cols) LL.length with | some n => n | none => 1) = 1
      rw [lastN_no (fun j a c => hno j (by omega) c)]
end
/-- a row: from, up to, columns -/
abbrev Rw3 := Int × Int × Int
def szL (LL : List (List Int)) : Nat := (LL.map List.length).sum
/-- the rows of clusters, from a place on -/
def rowsL (R : List Rw) (cols : Int) : Nat → List (List Int) → Nat → List Rw3
  | 0, _, _ => []
  | _ + 1, [], _ => []
  | f + 1, c :: LL, at' => ((at' : Int), ((at' + szL ((c :: LL).take (endN R (c :: LL) cols)) : Nat) : Int), shW R ((c :: LL).take (endN R (c :: LL) cols))) :: rowsL R cols f ((c :: LL).drop (endN R (c :: LL) cols)) (at' + szL ((c :: LL).take (endN R (c :: LL) cols)))
def rowsFl (R : List Rw) (cols : Int) (LL : List (List Int)) (at' : Nat) : List Rw3 := rowsL R cols LL.length LL at'
theorem rowsL_fuel (R : List Rw) (cols : Int) : ∀ (f g : Nat) (LL : List (List Int)) (at' : Nat), LL.length ≤ f → LL.length ≤ g → rowsL R cols f LL at' = rowsL R cols g LL at'
  | 0, 0, _, _, _, _ => rfl
  | 0, g + 1, LL, at', h, _ => by
    have : LL = [] := List.eq_nil_of_length_eq_zero (by omega)
    subst this; rfl
  | f + 1, 0, LL, at', _, h => by
    have : LL = [] := List.eq_nil_of_length_eq_zero (by omega)
    subst this; rfl
  | f + 1, g + 1, [], at', _, _ => rfl
  | f + 1, g + 1, c :: LL, at', h1, h2 => by
    have hr := endN_rng (R := R) (cols := cols) (LL := c :: LL) (by simp)
    have hl : ((c :: LL).drop (endN R (c :: LL) cols)).length ≤ LL.length := by rw [List.length_drop]; simp only [List.length_cons] at hr ⊢; omega
    simp only [List.length_cons] at h1 h2
    unfold rowsL
    rw [rowsL_fuel R cols f g _ _ (by omega) (by omega)]
theorem rowsFl_nil (R : List Rw) (cols : Int) (at' : Nat) : rowsFl R cols [] at' = [] := rfl
theorem rowsFl_step (R : List Rw) (cols : Int) {LL : List (List Int)} (h : LL ≠ []) (at' : Nat) : rowsFl R cols LL at' = ((at' : Int), ((at' + szL (LL.take (endN R LL cols)) : Nat) : Int), shW R (LL.take (endN R LL cols))) :: rowsFl R cols (LL.drop (endN R LL cols)) (at' + szL (LL.take (endN R LL cols))) := by
  cases LL with
  | nil => exact absurd rfl h
  | cons c LL =>
    have hr := endN_rng (R := R) (cols := cols) (LL := c :: LL) (by simp)
    unfold rowsFl
    rw [List.length_cons]
    show rowsL R cols (LL.length + 1) (c :: LL) at' = _
    conv => lhs; unfold rowsL
    rw [rowsL_fuel R cols LL.length _ _ _ (by rw [List.length_drop]; simp only [List.length_cons] at hr ⊢; omega) (Nat.le_refl _)]
end Go.Proofs.YtkeainhjghdfcaaGreat

/- flow: pieces in a world; shown. -/
namespace Go.Proofs.YtkeainhjghdfcaaGreat
open Go.RowKit

/-- a piece: where it begins, its columns, whether it is a blank -/
abbrev Pc3 := Int × Int × Bool
def pcE (p : Pc3) : List Value := [.int .i64 p.1, .int .i64 p.2.1, .bool p.2.2]
theorem pcE_len (p : Pc3) : (pcE p).length = 3 := rfl
theorem pcE_one (p : Pc3) : ∀ u ∈ pcE p, u.oneCell' = true := by intro u hu; simp [pcE] at hu; rcases hu with rfl | rfl | rfl <;> rfl
abbrev PcsIn (w : World) (v : Value) (X : List Pc3) : Prop := Rs w.heap.size w pcE 3 v X
theorem PcsIn.below {w w' : World} {v : Value} {X : List Pc3} (h : PcsIn w v X) (hb : Below w.heap.size w w') : PcsIn w' v X := (Rd.below h hb (Nat.le_refl _)).mono hb.size
theorem pcs_shape {w : World} {v : Value} {X : List Pc3} (h : PcsIn w v X) : ∃ a cap, v = .slice a X.length cap ∧ X.length ≤ cap ∧ cap ≤ maxLen := by
  obtain ⟨a, cap, rfl, h1, h2, _⟩ := h
  exact ⟨a, cap, rfl, h1, h2⟩
theorem pcs_cells {w : World} {v : Value} {X : List Pc3} (h : PcsIn w v X) {k : Nat} {x : Pc3} (hx : X[k]? = some x) : ∃ b off cap, v = .slice (some ⟨b, off, none⟩) X.length cap ∧ cap ≤ maxLen ∧ X.length ≤ cap ∧ k < X.length ∧ b < w.heap.size ∧
    w.cell? ⟨b, off + k * 3, none⟩ = some (.int .i64 x.1) ∧ w.cell? ⟨b, off + k * 3 + 1, none⟩ = some (.int .i64 x.2.1) ∧ w.cell? ⟨b, off + k * 3 + 2, none⟩ = some (.bool x.2.2) := by
  obtain ⟨a, cap, rfl, hcap, hmax, _, hcells⟩ := h
  have hk := (List.getElem?_eq_some_iff.1 hx).1
  obtain ⟨b, off, rfl, hbl, hcq⟩ := hcells (by omega)
  exact ⟨b, off, cap, rfl, hmax, hcap, hk, hbl, flat_cell pcE_len hcq hx 0 rfl, flat_cell pcE_len hcq hx 1 rfl, flat_cell pcE_len hcq hx 2 rfl⟩
/-- a part of a row of pieces -/
theorem pcs_sub {w : World} {b off cap : Nat} {X : List Pc3} (h : PcsIn w (.slice (some ⟨b, off, none⟩) X.length cap) X) {i j : Nat} (hij : i ≤ j) (hj : j ≤ X.length) (hb : b < w.heap.size) : PcsIn w (.slice (some ⟨b, off + i * 3, none⟩) (j - i) (cap - i)) ((X.take j).drop i) := by
  obtain ⟨a', cap', hv, h1, h2, h3, h4⟩ := h
  cases hv
  have hl : ((X.take j).drop i).length = j - i := by rw [List.length_drop, List.length_take]; omega
  refine ⟨some ⟨b, off + i * 3, none⟩, cap - i, by rw [hl], by omega, by omega, by rw [flat_len pcE_len], fun hn => ⟨b, off + i * 3, rfl, hb, fun k u hu => ?_⟩⟩
  obtain ⟨b', off', e, _, hq⟩ := h4 (by omega)
  cases e
  have hk : k < (((X.take j).drop i).flatMap pcE).length := (List.getElem?_eq_some_iff.1 hu).1
  rw [flat_len pcE_len, hl] at hk
  have hx : k / 3 < j - i := by omega
  obtain ⟨x, hx1⟩ : ∃ x, X[i + k / 3]? = some x := ⟨_, List.getElem?_eq_getElem (by omega)⟩
  have hx2 : ((X.take j).drop i)[k / 3]? = some x := by
    rw [List.getElem?_drop, List.getElem?_take, if_pos (by omega)]; exact hx1
  obtain ⟨y, hy⟩ : ∃ y, (pcE x)[k % 3]? = some y := ⟨_, List.getElem?_eq_getElem (by rw [pcE_len]; omega)⟩
  have g1 := flat_get pcE_len _ _ x (k % 3) y hx2 hy
  have e1 : k / 3 * 3 + k % 3 = k := by omega
  rw [e1, hu] at g1
  cases g1
  have g2 := flat_cell pcE_len hq hx1 (k % 3) hy
  have e2 : off + (i + k / 3) * 3 + k % 3 = off + i * 3 + k := by omega
  rw [e2] at g2
  exact g2
/-- pieces that are those of clusters -/
def PcsOf (R : List Rw) (X : List Pc3) (C : List (List Int)) : Prop := X.length = C.length ∧ ∀ (j : Nat) (c : List Int), C[j]? = some c → ∃ a : Int, X[j]? = some (a, wC R c, blkC c)
set_option maxRecDepth 100000 in
set_option maxHeartbeats 2000000 in
theorem shown_any {R : List Rw} {X : List Pc3} {C : List (List Int)} {w : World} {v : Value} (hX : PcsIn w v X) (hC : PcsOf R X C) (hB : ∀ k, sumW R (C.take k) ≤ 1000000000) :
    Calls Tryz.prog 145 #[v] w fun e w' => e = .returned (.int .i64 (shW R C)) ∧ Below w.heap.size w w' := by
  have HX := Lib.hid hX
  have HC := Lib.hid hC.2
  have HBd := Lib.hid hB
  have hlen := hC.1
  obtain ⟨sa, sc, rfl, hcap, hmax⟩ := pcs_shape hX
  unfold maxLen at hmax
  clear hX hC hB
  go_enter Tryz.func145, Tryz.ntmps145
  go_wp2_with fail
  go_loopw [3, 4, 9] (fun nv av iv wr => ∃ (k : Nat) (n a : Int), k ≤ X.length ∧ nv = .int .i64 n ∧ av = .int .i64 a ∧ iv = .int .i64 ((k : Nat) : Int) ∧ Below w.heap.size w wr ∧ n = shW R (C.take k) ∧ a = sumW R (C.take k)) (fun _ _ iv _ => X.length - (intOf iv).toNat)
  case atStart => exact ⟨0, 0, 0, Nat.zero_le _, rfl, rfl, rfl, .refl _ _, rfl, rfl⟩
  case round =>
    obtain ⟨k, n, a, hk, rfl, rfl, rfl, hB, hn, ha⟩ := hrel
    have HN := Lib.hid hn
    have HA := Lib.hid ha
    by_cases hlt : k < X.length
    · obtain ⟨c, hc⟩ : ∃ c, C[k]? = some c := ⟨C[k]'(by omega), List.getElem?_eq_getElem (by omega)⟩
      obtain ⟨f, hx⟩ := HC.out k c hc
      have hT : C.take (k + 1) = C.take k ++ [c] := by rw [List.take_add_one, hc]; rfl
      have h1 := HBd.out (k + 1)
      have h2 := sumW_nonneg (R := R) (C.take k)
      have h3 := wC_nonneg (R := R) c
      have h4 : sumW R (C.take (k + 1)) = a + wC R c := by rw [hT, sumW_app, sumW_one, ha]
      have h5 := shW_step (R := R) (C.take k) c
      rw [← hT, h4, ← hn] at h5
      obtain ⟨b, off, _, hv, _, _, _, _, d0, d1, d2⟩ := pcs_cells (HX.out.below hB) hx
      cases hv
      generalize wC R c = wd at h3 h4 h5 d1
      generalize blkC c = bl at h5 d2
      have HN' := Lib.hid h5
      have HA' := Lib.hid h4
      rw [h4] at h1
      rw [← ha] at h2
      have HB' := Lib.hid (hB.trans ((below1 wr (.cells #[.int .i64 f, .int .i64 wd, .bool bl] 248)).mono hB.size))
      have e1 := IntWalk.i64_in (a + wd) (by omega)
      have e2 := IntWalk.i64_in ((k : Int) + 1) (by omega)
      have s0 : (k : Int) < (X.length : Int) := by omega
      clear hc hx hT hn ha hB h5 h4
      cases bl
      · rw [if_neg (by decide)] at HN'
        go_wp2_with fail
        go_roundw
        case rel => exact ⟨k + 1, a + wd, a + wd, by omega, rfl, rfl, by go_num, HB'.out, HN'.out.symm, HA'.out.symm⟩
        case measure => simp [intOf] <;> omega
      · rw [if_pos rfl] at HN'
        go_wp2_with fail
        go_roundw
        case rel => exact ⟨k + 1, n, a + wd, by omega, rfl, rfl, by go_num, HB'.out, HN'.out.symm, HA'.out.symm⟩
        case measure => simp [intOf] <;> omega
    · have hke : k = X.length := by omega
      subst hke
      have HE := Lib.hid (show n = shW R C by rw [hn, List.take_of_length_le (by omega)])
      have s0 : decide ((X.length : Int) < (X.length : Int)) = false := by simp
      have HB' := Lib.hid hB
      clear hn ha hB hlt
      go_wp2_with fail
      go_ret
      exact ⟨by rw [← HE.out]; rfl, HB'.out⟩
end Go.Proofs.YtkeainhjghdfcaaGreat

/- flow: where a row ends. -/
namespace Go.Proofs.YtkeainhjghdfcaaGreat
open Go.RowKit

/-- the pieces of clusters, and one at the end -/
structure AllOf (R : List Rw) (X : List Pc3) (LL : List (List Int)) : Prop where
  len : X.length = LL.length + 1
  at' : ∀ (j : Nat) (c : List Int), LL[j]? = some c → X[j]? = some (((szL (LL.take j) : Nat) : Int), wC R c, blkC c)
  last : X[LL.length]? = some (((szL LL : Nat) : Int), 0, false)
theorem AllOf.sub {R : List Rw} {X : List Pc3} {LL : List (List Int)} (h : AllOf R X LL) {i j : Nat} (hij : i ≤ j) (hj : j ≤ LL.length) : PcsOf R ((X.take j).drop i) ((LL.drop i).take (j - i)) := by
  have hl := h.len
  refine ⟨by rw [List.length_drop, List.length_take, List.length_take, List.length_drop]; omega, fun q c hc => ?_⟩
  have hq := (List.getElem?_eq_some_iff.1 hc).1
  rw [List.length_take, List.length_drop] at hq
  rw [List.getElem?_take, if_pos (by omega), List.getElem?_drop] at hc
  exact ⟨_, by rw [List.getElem?_drop, List.getElem?_take, if_pos (by omega)]; exact h.at' (i + q) c hc⟩
theorem AllOf.blk {R : List Rw} {X : List Pc3} {LL : List (List Int)} (h : AllOf R X LL) {from' m : Nat} (hm : from' + m < LL.length) (h0 : 1 ≤ m) {a b : Pc3} (ha : X[from' + m - 1]? = some a) (hb : X[from' + m]? = some b) : brkN (LL.drop from') m = (a.2.2 && !b.2.2) := by
  obtain ⟨c, hc⟩ : ∃ c, LL[from' + m - 1]? = some c := ⟨_, List.getElem?_eq_getElem (by omega)⟩
  obtain ⟨d, hd⟩ : ∃ d, LL[from' + m]? = some d := ⟨_, List.getElem?_eq_getElem hm⟩
  rw [h.at' _ c hc] at ha
  rw [h.at' _ d hd] at hb
  cases ha
  cases hb
  unfold brkN
  rw [List.getElem?_drop, List.getElem?_drop, show from' + (m - 1) = from' + m - 1 by omega, hc, hd, List.length_drop]
  have : decide (m = LL.length - from') = false := decide_eq_false (by omega)
  rw [this]
  rfl
theorem brkN_len (LL : List (List Int)) : brkN LL LL.length = true := by unfold brkN; simp
set_option maxRecDepth 100000 in
set_option maxHeartbeats 8000000 in
theorem end_any {R : List Rw} {X : List Pc3} {LL : List (List Int)} {w : World} {v : Value} (cols : Int) (hX : PcsIn w v X) (hA : AllOf R X LL) (hB : ∀ i k, sumW R ((LL.drop i).take k) ≤ 1000000000) (hl : LL.length ≤ 1000000) {q : Nat} (hq : q < LL.length) :
    Calls Tryz.prog 144 #[v, .int .i64 (q : Int), .int .i64 cols] w fun e w' => e = .returned (.int .i64 ((q + endN R (LL.drop q) cols : Nat) : Int)) ∧ Below w.heap.size w w' := by
  have HX := Lib.hid hX
  have HA := Lib.hid hA
  have HBd := Lib.hid hB
  have hlen := hA.len
  have HLen := Lib.hid hlen
  obtain ⟨x0, hx0⟩ : ∃ x, X[0]? = some x := ⟨_, List.getElem?_eq_getElem (by omega)⟩
  obtain ⟨sb, soff, sc, rfl, hmax, hcap, _, hsb, _⟩ := pcs_cells hX hx0
  unfold maxLen at hmax
  obtain ⟨D, hD⟩ : ∃ D, D = LL.drop q := ⟨_, rfl⟩
  have hDl : D.length = LL.length - q := by rw [hD, List.length_drop]
  have HD := Lib.hid hD
  have HE := Lib.hid (fun (m b : Nat) (h1 : m ≤ D.length) (h2 : ∀ j, 1 ≤ j → j ≤ m → fitN R D cols j = true) (h3 : m = D.length ∨ fitN R D cols (m + 1) = false) (h4 : b ≤ m) (h5 : b = 0 ∨ brkN D b = true) (h6 : ∀ j, b < j → j ≤ m → brkN D j = false) => endN_up (R := R) (LL := D) (cols := cols) h1 h2 h3 h4 h5 h6)
  rw [← hD]
  clear hX hA hB hx0 hD
  have e0 := IntWalk.i64_in ((X.length : Int) - 1) (by omega)
  have e1 := IntWalk.i64_in ((q : Int) + 1) (by omega)
  clear hlen
  go_enter Tryz.func144, Tryz.ntmps144
  go_wp2_with fail
  go_loopw [8, 9, 10] (fun wv sv tv wr => ∃ (m b W Sm Tm : Nat), m ≤ D.length ∧ wv = .int .i64 (W : Int) ∧ sv = .int .i64 (Sm : Int) ∧ tv = .int .i64 (Tm : Int) ∧ W = q + b ∧ Sm = q + m ∧ Tm = q + m + 1 ∧ Below w.heap.size w wr ∧ (∀ j, 1 ≤ j → j ≤ m → fitN R D cols j = true) ∧ b ≤ m ∧ (b = 0 ∨ brkN D b = true) ∧ (∀ j, b < j → j ≤ m → brkN D j = false)) (fun _ _ tv _ => LL.length + 1 - (intOf tv).toNat)
  case atStart => exact ⟨0, 0, q, q, q + 1, Nat.zero_le _, rfl, rfl, by go_num, rfl, rfl, rfl, .refl _ _, fun j a b => by omega, Nat.le_refl _, .inl rfl, fun j a b => by omega⟩
  case round =>
    obtain ⟨m, b, W, Sm, Tm, hm, rfl, rfl, rfl, hW, hSm, hTm, hB, hf, hb, hb1, hb2⟩ := hrel
    have HB := Lib.hid hB
    have HFt := Lib.hid hf
    have HB1 := Lib.hid hb1
    have HB2 := Lib.hid hb2
    have HMle := Lib.hid hm
    have HBm := Lib.hid hb
    have HW := Lib.hid hW
    have HSm := Lib.hid hSm
    have HTm := Lib.hid hTm
    have HDl := Lib.hid hDl
    have hlen := HLen.out
    by_cases hlt : m < D.length
    · have hC := HA.out.sub (i := q) (j := Tm) (by omega) (by omega)
      rw [← HD.out, show Tm - q = m + 1 by omega] at hC
      have HSh := Lib.hid (shown_any (R := R) (pcs_sub (HX.out.below hB) (i := q) (j := Tm) (by omega) (by omega) (Nat.lt_of_lt_of_le hsb hB.size)) hC (fun k => by rw [List.take_take, HD.out]; exact HBd.out q _))
      have s0 : (Tm : Int) ≤ (X.length : Int) - 1 := by omega
      have s1 : (0 : Int) ≤ (q : Int) := by omega
      have s2 : (q : Int) ≤ (Tm : Int) := by omega
      have s3 : (Tm : Int) ≤ (sc : Int) := by omega
      have s5 : ((sc : Int) - (q : Int)).toNat = sc - q := by omega
      have s6 : ¬ q = sc := by omega
      have HSw := Lib.hid (show fitN R D cols (m + 1) = decide (shW R (D.take (m + 1)) ≤ cols) from rfl)
      generalize shW R (D.take (m + 1)) = sw at HSh HSw
      have htl : (Tm = LL.length ∧ m + 1 = D.length) ∨ (Tm < LL.length ∧ m + 1 < D.length) := by omega
      have ht1 : 1 ≤ Tm := by omega
      have hml : m + 1 ≤ D.length := by omega
      clear hB hf hb1 hb2 hW hSm hTm hm hb hDl hlt hC hlen
      go_wp2_with fail
      refine HSh.out.mono ?_
      rintro e w2 ⟨rfl, hB2⟩
      have HBx := Lib.hid (below_trans' HB.out hB2)
      clear hB2 HB HSh
      by_cases hfit : sw ≤ cols
      · have g0 : decide (sw > cols) = false := decide_eq_false (by omega)
        have HF1 := Lib.hid (show fitN R D cols (m + 1) = true by rw [HSw.out]; exact decide_eq_true hfit)
        have HFn := Lib.hid (show ∀ j, 1 ≤ j → j ≤ m + 1 → fitN R D cols j = true from fun j h1 h2 => by
          rcases Nat.lt_or_ge m j with h3 | h3
          · have : j = m + 1 := by omega
            subst this; exact HF1.out
          · exact HFt.out j h1 h3)
        have e5 := IntWalk.i64_in ((Tm : Int) + 1) (by omega)
        have e6 := IntWalk.i64_in ((Tm : Int) - 1) (by omega)
        have HMl := Lib.hid hml
        rcases htl with ⟨h1, h2⟩ | ⟨h1, h2⟩
        · have g1 : ((Tm : Int) == (X.length : Int) - 1) = true := by have := HLen.out; simp; omega
          have HBk := Lib.hid (show brkN D (m + 1) = true by rw [h2]; exact brkN_len D)
          clear hfit h1 h2 hml
          go_wp2_with fail
          go_roundw
          case rel => exact ⟨m + 1, m + 1, Tm, Tm, Tm + 1, HMl.out, rfl, rfl, by go_num, by rw [HTm.out]; omega, by rw [HTm.out]; omega, by rw [HTm.out]; omega, HBx.out, HFn.out, Nat.le_refl _, .inr HBk.out, fun j a b => by omega⟩
          case measure => have := HLen.out; simp [intOf] <;> omega
        · have g1 : ((Tm : Int) == (X.length : Int) - 1) = false := by have := HLen.out; rw [beq_eq_false_iff_ne]; omega
          have hlen := HLen.out
          obtain ⟨xa, hxa⟩ : ∃ x, X[Tm - 1]? = some x := ⟨_, List.getElem?_eq_getElem (by omega)⟩
          obtain ⟨xb, hxb⟩ : ∃ x, X[Tm]? = some x := ⟨_, List.getElem?_eq_getElem (by omega)⟩
          have HBk := Lib.hid (show brkN D (m + 1) = (xa.2.2 && !xb.2.2) by
            have hT := HTm.out
            rw [HD.out]
            exact HA.out.blk (from' := q) (m := m + 1) (by omega) (by omega) (by rw [← hxa]; congr 1; omega) (by rw [← hxb]; congr 1; omega))
          obtain ⟨_, _, _, hv, _, _, _, _, _, _, a2⟩ := pcs_cells (HX.out.below HBx.out) hxa
          cases hv
          obtain ⟨_, _, _, hv, _, _, _, _, _, _, b2⟩ := pcs_cells (HX.out.below HBx.out) hxb
          cases hv
          have g2 : (0 : Int) ≤ (Tm : Int) - 1 := by omega
          have g3 : (Tm : Int) - 1 < (X.length : Int) := by omega
          have g4 : ((Tm : Int) - 1).toNat = Tm - 1 := by omega
          have g5 : (Tm : Int) < (X.length : Int) := by omega
          generalize xa.2.2 = ba at HBk a2
          generalize xb.2.2 = bb at HBk b2
          clear hfit h1 h2 hml hxa hxb hlen
          cases ba <;> cases bb
          case true.false =>
            go_wp2_with fail
            go_roundw
            case rel => exact ⟨m + 1, m + 1, Tm, Tm, Tm + 1, HMl.out, rfl, rfl, by go_num, by rw [HTm.out]; omega, by rw [HTm.out]; omega, by rw [HTm.out]; omega, HBx.out, HFn.out, Nat.le_refl _, .inr HBk.out, fun j a b => by omega⟩
            case measure => have := HLen.out; simp [intOf] <;> omega
          all_goals
            go_wp2_with fail
            go_roundw
            case rel => exact ⟨m + 1, b, W, Tm, Tm + 1, HMl.out, rfl, rfl, by go_num, HW.out, by rw [HTm.out]; omega, by rw [HTm.out]; omega, HBx.out, HFn.out, Nat.le_trans HBm.out (Nat.le_succ _), HB1.out, fun j a c => by
              rcases Nat.lt_or_ge m j with h3 | h3
              · have : j = m + 1 := by omega
                subst this; exact HBk.out
              · exact HB2.out j a h3⟩
            case measure => have := HLen.out; simp [intOf] <;> omega
      · have g0 : sw > cols := by omega
        have HNo := Lib.hid (show m = D.length ∨ fitN R D cols (m + 1) = false from .inr (by rw [HSw.out]; exact decide_eq_false hfit))
        clear hfit htl hml
        have HEn := Lib.hid (HE.out m b HMle.out HFt.out HNo.out HBm.out HB1.out HB2.out)
        by_cases hb0 : 0 < b
        · have HV := Lib.hid (show W = q + endN R D cols by rw [HEn.out, if_pos hb0]; exact HW.out)
          have t1 : (W : Int) > (q : Int) := by have := HW.out; omega
          clear hb0
          go_wp2_with fail
          go_ret
          exact ⟨by rw [← HV.out]; rfl, HBx.out⟩
        · have t1 : ¬ q < W := by have := HW.out; omega
          by_cases hm0 : 0 < m
          · have HV := Lib.hid (show Sm = q + endN R D cols by rw [HEn.out, if_neg hb0, if_pos hm0]; exact HSm.out)
            have t2 : (Sm : Int) > (q : Int) := by have := HSm.out; omega
            clear hb0 hm0
            go_wp2_with fail
            go_ret
            exact ⟨by rw [← HV.out]; rfl, HBx.out⟩
          · have HV := Lib.hid (show q + 1 = q + endN R D cols by rw [HEn.out, if_neg hb0, if_neg hm0])
            have t2 : ¬ q < Sm := by have := HSm.out; omega
            clear hb0 hm0
            go_wp2_with fail
            go_ret
            exact ⟨by rw [← HV.out]; rfl, HBx.out⟩
    · have HNo := Lib.hid (show m = D.length ∨ fitN R D cols (m + 1) = false from .inl (by omega))
      have HBx := HB
      have s0 : decide ((Tm : Int) ≤ (X.length : Int) - 1) = false := decide_eq_false (by omega)
      clear hB hf hb1 hb2 hlt hW hSm hTm hm hb hDl hlen
      have HEn := Lib.hid (HE.out m b HMle.out HFt.out HNo.out HBm.out HB1.out HB2.out)
      by_cases hb0 : 0 < b
      · have HV := Lib.hid (show W = q + endN R D cols by rw [HEn.out, if_pos hb0]; exact HW.out)
        have t1 : (W : Int) > (q : Int) := by have := HW.out; omega
        clear hb0
        go_wp2_with fail
        go_ret
        exact ⟨by rw [← HV.out]; rfl, HBx.out⟩
      · have t1 : ¬ q < W := by have := HW.out; omega
        by_cases hm0 : 0 < m
        · have HV := Lib.hid (show Sm = q + endN R D cols by rw [HEn.out, if_neg hb0, if_pos hm0]; exact HSm.out)
          have t2 : (Sm : Int) > (q : Int) := by have := HSm.out; omega
          clear hb0 hm0
          go_wp2_with fail
          go_ret
          exact ⟨by rw [← HV.out]; rfl, HBx.out⟩
        · have HV := Lib.hid (show q + 1 = q + endN R D cols by rw [HEn.out, if_neg hb0, if_neg hm0])
          have t2 : ¬ q < Sm := by have := HSm.out; omega
          clear hb0 hm0
          go_wp2_with fail
          go_ret
          exact ⟨by rw [← HV.out]; rfl, HBx.out⟩
end Go.Proofs.YtkeainhjghdfcaaGreat

/- flow: the pieces of a text. -/
namespace Go.Proofs.YtkeainhjghdfcaaGreat
open Go.RowKit

theorem EPc : ElemT Tryz.prog 244 248 3 24 := elemT_of (by kernel_rfl) (z := .agg #[.int .i64 0, .int .i64 0, .bool false]) (by kernel_rfl) rfl (by decide) (by decide)
theorem gly_apart2 {w : World} {v : Value} {l : List Gy} (h : GlyIn w v l) {b : Nat} {cs : Array Value} {t : TypeId} (hc : w.heap[b]? = some (.cells cs t (0, 0))) (hcs : ∀ (i : Nat) (u : Value), cs[i]? = some u → ∀ s : ByteArray, u ≠ Value.string s) {k : Nat} {x : Gy} (hx : l[k]? = some x) :
    ∃ g off cap, v = .slice (some ⟨g, off, none⟩) l.length cap ∧ g < w.heap.size ∧ g ≠ b ∧ w.cell? ⟨g, off + k * 2, none⟩ = some (.string x.1) ∧ w.cell? ⟨g, off + k * 2 + 1, none⟩ = some (.int .i64 x.2) := by
  obtain ⟨g, off, cap, rfl, _, _, hg, d0, d1⟩ := gly_cells h hx
  refine ⟨g, off, cap, rfl, hg, fun e => ?_, d0, d1⟩
  subst e
  rw [cell_of_row _ _ _ _ _ _ hc] at d0
  exact hcs _ _ (by simpa using d0) _ rfl
theorem no_str (a q : Int) (bl : Bool) : ∀ (i : Nat) (u : Value), (#[Value.int .i64 a, .int .i64 q, .bool bl] : Array Value)[i]? = some u → ∀ s : ByteArray, u ≠ Value.string s := fun j u hu s e => by
  subst e
  match j with
  | 0 => cases Option.some.inj hu
  | 1 => cases Option.some.inj hu
  | 2 => cases Option.some.inj hu
  | j + 3 => simp at hu
theorem szL_snoc (LL : List (List Int)) {k : Nat} {c : List Int} (h : LL[k]? = some c) : szL (LL.take (k + 1)) = szL (LL.take k) + c.length := by
  unfold szL
  rw [List.take_add_one, h, List.map_append, List.sum_append]
  simp
theorem szL_flat (LL : List (List Int)) : szL LL = LL.flatten.length := by
  unfold szL; rw [List.length_flatten]
theorem szL_take_le (LL : List (List Int)) (k : Nat) : szL (LL.take k) ≤ szL LL := by
  have h : szL LL = szL (LL.take k) + szL (LL.drop k) := by
    unfold szL
    rw [← List.sum_append, ← List.map_append, List.take_append_drop]
  omega
section
variable {R : List Rw} {s : List Int} {w : World} {sv : Value} {tp : Nat}
set_option maxRecDepth 100000 in
set_option maxHeartbeats 8000000 in
theorem pieces_any (hT : Tb R w tp) (hs : RunesIn w sv s) (ok : RunesOk s) (hl : s.length ≤ 100000) :
    Calls Tryz.prog 143 #[.pointer (some ⟨tp, 0, none⟩), sv] w fun e w' => ∃ u X, e = .returned u ∧ Below w.heap.size w w' ∧ PcsIn w' u X ∧ AllOf R X (clus (tabOf R) s) := by
  have HT := Lib.hid hT
  have HCl := Lib.hid (clusters_any hT hs ok (by omega))
  have HNe := Lib.hid (clus_ne (tabOf R) s.length s (Nat.le_refl _))
  have HMem := Lib.hid (fun c (h : c ∈ clus (tabOf R) s) (x : Int) (hx : x ∈ c) => ok x (clus_mem (tabOf R) s.length s (Nat.le_refl _) c h x hx))
  have hLl : (clus (tabOf R) s).length ≤ s.length := clusN_len (tabOf R) s.length s
  have hSz : szL (clus (tabOf R) s) = s.length := by rw [szL_flat, clus_flat (tabOf R) s.length s (Nat.le_refl _)]
  have HTk := Lib.hid (szL_take_le (clus (tabOf R) s))
  generalize clus (tabOf R) s = LL at HCl HNe HMem hLl hSz HTk ⊢
  obtain ⟨sl, cap, rfl, hcap, hmax, _⟩ := runes_cells hs
  unfold maxLen at hmax
  clear hT hs ok
  go_enter Tryz.func143, Tryz.ntmps143
  go_wp2_with fail
  refine HCl.out.mono ?_
  rintro e w1 ⟨tu, rfl, hB1, hX1⟩
  have HB1 := Lib.hid hB1
  have HX := Lib.hid hX1
  have HT1 := Lib.hid (HT.out.below hB1)
  obtain ⟨ta, tcap, rfl, ht1, ht2⟩ := texts_shape hX1
  unfold maxLen at ht2
  clear hB1 hX1 HCl HT
  go_wp2_with fail
  go_loopw [5, 6, 16] (fun ov av iv wr => ∃ (k : Nat) (X : List Pc3), k ≤ LL.length ∧ av = .int .i64 ((szL (LL.take k) : Nat) : Int) ∧ iv = .int .i64 ((k : Nat) : Int) ∧ Below w1.heap.size w1 wr ∧ wr.ownsRow w1.heap.size 248 3 ov X.length (X.flatMap pcE) ∧ X.length = k ∧ (∀ (j : Nat) (c : List Int), j < k → LL[j]? = some c → X[j]? = some (((szL (LL.take j) : Nat) : Int), wC R c, blkC c))) (fun _ _ iv _ => LL.length - (intOf iv).toNat)
  case atStart => exact ⟨0, [], Nat.zero_le _, rfl, rfl, .refl _ _, World.ownsRow_nil _ _ _ _, rfl, fun j c h => by omega⟩
  case round =>
    obtain ⟨k, X, hk, rfl, rfl, hB, hO, hXl, hXs⟩ := hrel
    have HB := Lib.hid hB
    have HO := Lib.hid hO
    have HXs := Lib.hid hXs
    have HXl := Lib.hid hXl
    obtain ⟨pa, pc, rfl⟩ := slice_of_owns hO
    have hsz := HTk.out k
    obtain ⟨A, hA⟩ : ∃ A, A = szL (LL.take k) := ⟨_, rfl⟩
    have HA := Lib.hid hA
    rw [← hA] at hsz ⊢
    by_cases hlt : k < LL.length
    · obtain ⟨c, hc⟩ : ∃ c, LL[k]? = some c := ⟨LL[k], List.getElem?_eq_getElem hlt⟩
      have hcm := List.mem_of_getElem? hc
      have HC := Lib.hid hc
      have hcl := HNe.out c hcm
      have hsn := szL_snoc LL hc
      rw [← hA] at hsn
      have hsz2 := HTk.out (k + 1)
      obtain ⟨tb, toff, cp, cu, hv, _, _, _, _, d0, hcu⟩ := texts_cell (HX.out.below hB) hc
      cases hv
      obtain ⟨x, hx⟩ : ∃ x, c[0]? = some x := ⟨c[0]'(List.length_pos_iff.2 hcl.1), List.getElem?_eq_getElem _⟩
      obtain ⟨rb, roff, rcap, hv, _, hrc, hc0, _, l0⟩ := rune_cell hcu hx
      cases hv
      have l0 : wr.cell? ⟨rb, roff, none⟩ = some (.int .i32 x) := by simpa using l0
      have HCu := Lib.hid hcu
      have HSn := Lib.hid hsn
      have s0 : (k : Int) < (LL.length : Int) := by omega
      have s1 : (0 : Int) ≤ (k : Int) := by omega
      have s2 : (0 : Int) < (c.length : Int) := by omega
      have e1 := IntWalk.i64_in ((k : Int) + 1) (by omega)
      have e2 := IntWalk.i64_in ((A : Int) + (c.length : Int)) (by omega)
      have hbl : (c.length = 1 ∧ x = 32 ∧ blkC c = true) ∨ (c.length = 1 ∧ x ≠ 32 ∧ blkC c = false) ∨ (c.length ≠ 1 ∧ blkC c = false) := by
        unfold blkC
        match c, hx, hcl with
        | [y], hx, _ =>
          have : y = x := by simpa using hx
          subst this
          by_cases h : y = 32
          · subst h; exact .inl ⟨rfl, rfl, by decide⟩
          · exact .inr (.inl ⟨rfl, h, by simpa using h⟩)
        | y :: z :: c, _, _ => exact .inr (.inr ⟨by simp, by simp⟩)
      obtain ⟨bl, hb⟩ : ∃ bl, bl = blkC c := ⟨_, rfl⟩
      have HBl := Lib.hid hb
      rw [← hb] at hbl
      have HOkc := Lib.hid (show RunesOk c from HMem.out c hcm)
      clear hB hO hXs hXl hc hcm hcu hsn hA hb hx hlt
      rcases hbl with ⟨h1, h2, h3⟩ | ⟨h1, h2, h3⟩ | ⟨h1, h2⟩
      case' inl =>
        have g1 : ((c.length : Int) == 1) = true := by simp; omega
        subst h2
        subst h3
        clear h1
        clear hc0
        go_upto_region 7 with fail
        have hr := heap_alloc_new wr (.cells #[.int .i64 (A : Int), .int .i64 0, .bool true] 248)
        have hb0 := below1 wr (.cells #[.int .i64 (A : Int), .int .i64 0, .bool true] 248)
        generalize wr.alloc (.cells #[.int .i64 (A : Int), .int .i64 0, .bool true] 248) = w2 at hr hb0 ⊢
        obtain ⟨bl, hbl⟩ : ∃ bl, bl = true := ⟨_, rfl⟩
        rw [← hbl] at hr HBl
        clear hbl g1
      case' inr.inl =>
        have g1 : ((c.length : Int) == 1) = true := by simp; omega
        have g2 : (x == 32) = false := by simpa using h2
        subst h3
        clear h1 h2
        clear hc0
        go_upto_region 7 with fail
        have hr := heap_alloc_new wr (.cells #[.int .i64 (A : Int), .int .i64 0, .bool false] 248)
        have hb0 := below1 wr (.cells #[.int .i64 (A : Int), .int .i64 0, .bool false] 248)
        generalize wr.alloc (.cells #[.int .i64 (A : Int), .int .i64 0, .bool false] 248) = w2 at hr hb0 ⊢
        obtain ⟨bl, hbl⟩ : ∃ bl, bl = false := ⟨_, rfl⟩
        rw [← hbl] at hr HBl
        clear hbl g1
      case' inr.inr =>
        have g1 : ((c.length : Int) == 1) = false := by simp; omega
        subst h2
        clear h1
        clear hc0
        go_upto_region 7 with fail
        have hr := heap_alloc_new wr (.cells #[.int .i64 (A : Int), .int .i64 0, .bool false] 248)
        have hb0 := below1 wr (.cells #[.int .i64 (A : Int), .int .i64 0, .bool false] 248)
        generalize wr.alloc (.cells #[.int .i64 (A : Int), .int .i64 0, .bool false] 248) = w2 at hr hb0 ⊢
        obtain ⟨bl, hbl⟩ : ∃ bl, bl = false := ⟨_, rfl⟩
        rw [← hbl] at hr HBl
        clear hbl g1
      all_goals
        have HO2 := Lib.hid (owns_stays HO.out hb0)
        have HB2 := Lib.hid (HB.out.trans (hb0.mono HB.out.size))
        have HGof := Lib.hid (gof_any (HT1.out.below HB2.out) (HCu.out.below hb0) HOkc.out (by omega))
        have hob : ∀ b, (Value.slice pa X.length pc).ownBlock = some b → b ≠ wr.heap.size := fun b e => by have := (HO.out.lt b e).2; omega
        have HOb := Lib.hid hob
        have HGo := Lib.hid (show ∀ g ∈ glOf R c, g.2 = 1 ∨ g.2 = 2 from fun g hg => (lineG_ok R (LL := [c]) g (by simpa [lineG] using hg)).1)
        have hgl := glOf_le R c
        have HWc := Lib.hid (show wC R c = wdG (glOf R c) from rfl)
        generalize glOf R c = G at HGof HGo hgl HWc
        clear hb0 HCu l0 d0 hob
        go_wp2_with fail
        refine HGof.out.mono ?_
        rintro e w3 ⟨gu, rfl, hB3, hG3⟩
        have HG3 := Lib.hid hG3
        obtain ⟨ga, gc, rfl, hg1, hg2⟩ := gly_shape hG3
        unfold maxLen at hg2
        have HR3 := Lib.hid ((hB3.block _ (row_len hr)).trans hr)
        have HO3 := Lib.hid (owns_stays HO2.out hB3)
        have hpb : wr.heap.size < w3.heap.size := Nat.lt_of_lt_of_le (row_len hr) hB3.size
        have hpb2 := HB.out.size
        have HB3 := Lib.hid (HB2.out.trans (hB3.mono HB2.out.size))
        generalize wr.heap.size = pb at HR3 HOb hpb hpb2 ⊢
        clear hB3 hG3 HGof HO2 HB2 HO HB hr
        go_wp2_with fail
        go_loopw [35] (fun nv wr2 => ∃ (m : Nat) (q : Int), m ≤ G.length ∧ nv = .int .i64 ((m : Nat) : Int) ∧ Below w1.heap.size w1 wr2 ∧ Kept (fun j => j = pb) w3 wr2 ∧ wr2.ownsRow w1.heap.size 248 3 (.slice pa X.length pc) X.length (X.flatMap pcE) ∧ wr2.heap[pb]? = some (.cells #[.int .i64 (A : Int), .int .i64 q, .bool bl] 248 (0, 0)) ∧ q = wdG (G.take m)) (fun nv _ => G.length - (intOf nv).toNat)
        case atStart => exact ⟨0, 0, Nat.zero_le _, rfl, HB3.out, Kept.refl _ _, HO3.out, HR3.out, rfl⟩
        case round =>
          obtain ⟨m, q, hm, rfl, hB, hK, hO, hR, hq⟩ := hrel
          have HBm := Lib.hid hB
          have HKm := Lib.hid hK
          have HOm := Lib.hid hO
          have HQ := Lib.hid hq
          have hwr := wdG_rng (L := G.take m) (fun g hg => HGo.out g (List.mem_of_mem_take hg))
          rw [List.length_take, ← hq] at hwr
          by_cases hlt : m < G.length
          · obtain ⟨y, hy⟩ : ∃ y, G[m]? = some y := ⟨G[m], List.getElem?_eq_getElem hlt⟩
            have hyo := HGo.out y (List.mem_of_getElem? hy)
            have HN := Lib.hid (show wdG (G.take (m + 1)) = wdG (G.take m) + y.2 by rw [take_snoc hy, wdG_app, wdG_one])
            obtain ⟨y1, y2⟩ := y
            have hy2 : y2 = 1 ∨ y2 = 2 := hyo
            obtain ⟨gb, goff, gcap, hv, hgb, hgne, d0, d1⟩ := gly_apart2 HG3.out HR3.out (no_str _ _ _) hy
            cases hv
            have d0 := hK.cell d0 hgne
            have d1 := hK.cell d1 hgne
            have e3 := IntWalk.i64_in (q + y2) (by omega)
            have e4 := IntWalk.i64_in ((m : Int) + 1) (by omega)
            have s5 : (m : Int) < (G.length : Int) := by omega
            have HRm := Lib.hid hR
            clear hB hK hO hR hq hy hyo hwr hlt
            go_upto_region 10 with fail
            have hb := below1 wr (.cells #[.string y1, .int .i64 y2] 97)
            have g1 := row_cells (i := 1) (heap_alloc_new wr (.cells #[.string y1, .int .i64 y2] 97)) rfl
            have HBa := Lib.hid (HBm.out.trans (hb.mono HBm.out.size))
            have HKa := Lib.hid (HKm.out.trans (Kept.of_below hb))
            have HOa := Lib.hid (owns_stays HOm.out hb)
            have hRa := (hb.block _ (row_len HRm.out)).trans HRm.out
            generalize wr.alloc (.cells #[.string y1, .int .i64 y2] 97) = w4 at g1 HBa HKa HOa hRa ⊢
            have n1 := row_cells (i := 1) hRa rfl
            have v1 := row_warm hRa 1
            have HRa := Lib.hid hRa
            clear hb hRa d0 d1 HBm HKm HOm HRm
            go_wp2_with fail
            go_roundw
            case rel => exact ⟨m + 1, q + y2, by omega, by go_num, HBa.out.setCell (by show w1.heap.size ≤ pb; omega) _, HKa.out.trans (kept_setCell _ _ _ rfl), HOa.out.kept (setCell_grown w4 ⟨pb, 1, none⟩ _) (.inr (fun e => HOb.out _ e rfl)), heap_setCell_same _ pb 1 _ _ (Value.int .i64 (q + y2)) HRa.out, by rw [HN.out, HQ.out]⟩
            case measure => simp [intOf] <;> omega
          · have hme : m = G.length := by omega
            subst hme
            rw [List.take_length] at hq
            have HQc := Lib.hid (show q = wC R c by rw [hq, HWc.out])
            have s5 : decide ((G.length : Int) < (G.length : Int)) = false := by simp
            have n0 := row_cells (i := 0) hR rfl
            have n1 := row_cells (i := 1) hR rfl
            have n2 := row_cells (i := 2) hR rfl
            have hbig : (X.length + 1) * 24 ≤ 140737488355328 := by have := HXl.out; omega
            have hbs := hB.size
            clear hB hK hO hR hq hlt hwr
            go_wp2_with (at_builtin; go_loud (refine wpList_app1 _ rfl (.tmp 46) (.tmp 48) _ rfl EPc _ _ _ rfl HOm.out 1 1 (pcE ((A : Int), q, bl)) rfl (by decide) rfl (pcE_one _) hbig hbs ?_); intro g cp7 w7 ho7 hg7 hf7; have HB7 := Lib.hid (below_app HBm.out hbs HOm.out (Nat.le_refl _) hg7); have HO7 := Lib.hid ho7; clear ho7 hg7 hf7)
            go_roundw
            case rel =>
              refine ⟨k + 1, X ++ [((A : Int), q, bl)], by omega, by rw [HSn.out]; go_num, by go_num, HB7.out, by rw [List.length_append, flat_snoc]; exact HO7.out, by rw [List.length_append, HXl.out]; rfl, fun j c' hj hc' => ?_⟩
              rcases Nat.lt_or_ge j k with h | h
              · rw [List.getElem?_append_left (by have := HXl.out; omega)]
                exact HXs.out j c' h hc'
              · have hjk : j = k := by omega
                subst hjk
                rw [HC.out] at hc'
                cases hc'
                rw [List.getElem?_append_right (by have := HXl.out; omega), HXl.out, Nat.sub_self, ← HA.out, ← HQc.out, ← HBl.out]
                rfl
            case measure => simp [intOf] <;> omega
    · have hke : k = LL.length := by omega
      have hbig : (X.length + 1) * 24 ≤ 140737488355328 := by omega
      have hbs := hB.size
      have HAe := Lib.hid (show A = szL LL by rw [hA, hke, List.take_length])
      have HKe := Lib.hid hke
      have s0 : ¬ k < LL.length := hlt
      clear hB hO hXs hXl hlt hA hke
      go_wp2_with (at_builtin; go_loud (refine wpList_app1 _ rfl (.tmp 55) (.tmp 58) _ rfl EPc _ _ _ rfl HO.out 1 1 (pcE ((A : Int), 0, false)) rfl (by decide) rfl (pcE_one _) hbig hbs ?_); intro g cp7 w7 ho7 hg7 hf7; have HB7 := Lib.hid (below_app HB.out hbs HO.out (Nat.le_refl _) hg7); have HO7 := Lib.hid ho7; clear ho7 hg7 hf7)
      go_ret
      have hXk : X.length = LL.length := by rw [HXl.out, HKe.out]
      refine ⟨_, X ++ [((A : Int), 0, false)], rfl, below_trans' HB1.out HB7.out, rd_of_owns (base := w1.heap.size) (e := 248) (by rw [List.length_append, flat_snoc]; exact HO7.out), by rw [List.length_append, hXk]; rfl, fun j c' hc' => ?_, ?_⟩
      · have hj := (List.getElem?_eq_some_iff.1 hc').1
        rw [List.getElem?_append_left (by omega)]
        exact HXs.out j c' (by rw [HKe.out]; exact hj) hc'
      · rw [List.getElem?_append_right (by omega), hXk, Nat.sub_self, HAe.out]
        rfl
end
end Go.Proofs.YtkeainhjghdfcaaGreat

/- flow.Of: its walk. -/
namespace Go.Proofs.YtkeainhjghdfcaaGreat
open Go.RowKit

def r3E (p : Rw3) : List Value := [.int .i64 p.1, .int .i64 p.2.1, .int .i64 p.2.2]
theorem r3E_len (p : Rw3) : (r3E p).length = 3 := rfl
theorem r3E_one (p : Rw3) : ∀ u ∈ r3E p, u.oneCell' = true := by intro u hu; simp [r3E] at hu; rcases hu with rfl | rfl | rfl <;> rfl
abbrev Rw3In (w : World) (v : Value) (L : List Rw3) : Prop := Rs w.heap.size w r3E 3 v L
theorem Rw3In.below {w w' : World} {v : Value} {L : List Rw3} (h : Rw3In w v L) (hb : Below w.heap.size w w') : Rw3In w' v L := (Rd.below h hb (Nat.le_refl _)).mono hb.size
theorem EFr : ElemT Tryz.prog 161 164 3 24 := elemT_of (by kernel_rfl) (z := .agg #[.int .i64 0, .int .i64 0, .int .i64 0]) (by kernel_rfl) rfl (by decide) (by decide)
theorem AllOf.from' {R : List Rw} {X : List Pc3} {LL : List (List Int)} (h : AllOf R X LL) {j : Nat} (hj : j ≤ LL.length) : ∃ (wd : Int) (bl : Bool), X[j]? = some (((szL (LL.take j) : Nat) : Int), wd, bl) := by
  rcases Nat.lt_or_ge j LL.length with hl | hl
  · obtain ⟨c, hc⟩ : ∃ c, LL[j]? = some c := ⟨_, List.getElem?_eq_getElem hl⟩
    exact ⟨_, _, h.at' j c hc⟩
  · have : j = LL.length := by omega
    subst this
    rw [List.take_length]
    exact ⟨_, _, h.last⟩
theorem szL_add (LL : List (List Int)) (k n : Nat) : szL (LL.take (k + n)) = szL (LL.take k) + szL ((LL.drop k).take n) := by
  unfold szL
  rw [List.take_add, List.map_append, List.sum_append]
section
variable {R : List Rw} {s : List Int} {w : World} {sv : Value} {tp : Nat}
set_option maxRecDepth 100000 in
set_option maxHeartbeats 8000000 in
theorem fof_any (cols : Int) (hT : Tb R w tp) (hs : RunesIn w sv s) (ok : RunesOk s) (hl : s.length ≤ 100000) :
    Calls Tryz.prog 96 #[.pointer (some ⟨tp, 0, none⟩), sv, .int .i64 cols] w fun e w' => ∃ u, e = .returned u ∧ Below w.heap.size w w' ∧ Rw3In w' u (rowsFl R cols (clus (tabOf R) s) 0) := by
  have HP := Lib.hid (pieces_any hT hs ok hl)
  have hLl : (clus (tabOf R) s).length ≤ s.length := clusN_len (tabOf R) s.length s
  have HBd := Lib.hid (show ∀ i k, sumW R (((clus (tabOf R) s).drop i).take k) ≤ 1000000000 by
    intro i k
    have h1 := wdG_rng (L := lineG R (((clus (tabOf R) s).drop i).take k)) (fun g hg => (lineG_ok R g hg).1)
    have h2 := lineG_le R (((clus (tabOf R) s).drop i).take k)
    have h3 : (((clus (tabOf R) s).drop i).take k).flatten.length ≤ s.length := by
      have e := clus_flat (tabOf R) s.length s (Nat.le_refl _)
      rw [← szL_flat]
      have h5 := szL_add (clus (tabOf R) s) i k
      have h4 := szL_take_le (clus (tabOf R) s) (i + k)
      have h6 : szL (clus (tabOf R) s) = s.length := by rw [szL_flat, e]
      omega
    show wdG _ ≤ _
    omega)
  have hSz : szL (clus (tabOf R) s) = s.length := by rw [szL_flat, clus_flat (tabOf R) s.length s (Nat.le_refl _)]
  have HTk := Lib.hid (szL_take_le (clus (tabOf R) s))
  generalize clus (tabOf R) s = LL at HP hLl HBd hSz HTk ⊢
  obtain ⟨sl, cap, rfl, hcap, hmax, _⟩ := runes_cells hs
  clear hT hs ok
  go_enter Tryz.func96, Tryz.ntmps96
  go_wp2_with fail
  refine HP.out.mono ?_
  rintro e w1 ⟨pu, X, rfl, hB1, hX1, hA1⟩
  have HB1 := Lib.hid hB1
  have HX := Lib.hid hX1
  have HA := Lib.hid hA1
  have hXl := hA1.len
  have HXl := Lib.hid hXl
  obtain ⟨x0, hx0⟩ : ∃ x, X[0]? = some x := ⟨_, List.getElem?_eq_getElem (by omega)⟩
  obtain ⟨sb, soff, sc, rfl, hm2, hcap2, _, hsb, _⟩ := pcs_cells hX1 hx0
  unfold maxLen at hm2
  clear hB1 hX1 hA1 HP hx0
  have e0 := IntWalk.i64_in ((X.length : Int) - 1) (by omega)
  clear hXl
  go_wp2_with fail
  go_loopw [8, 9] (fun ov av wr => ∃ (k : Nat) (L : List Rw3), k ≤ LL.length ∧ av = .int .i64 ((k : Nat) : Int) ∧ Below w1.heap.size w1 wr ∧ wr.ownsRow w1.heap.size 164 3 ov L.length (L.flatMap r3E) ∧ L.length ≤ k ∧ L ++ rowsFl R cols (LL.drop k) (szL (LL.take k)) = rowsFl R cols LL 0) (fun _ av _ => LL.length - (intOf av).toNat)
  case atStart => exact ⟨0, [], Nat.zero_le _, rfl, .refl _ _, World.ownsRow_nil _ _ _ _, Nat.le_refl _, rfl⟩
  case round =>
    obtain ⟨k, L, hk, rfl, hB, hO, hL, hR⟩ := hrel
    have HB := Lib.hid hB
    have HO := Lib.hid hO
    have HRr := Lib.hid hR
    obtain ⟨pa, pc, rfl⟩ := slice_of_owns hO
    have hXl := HXl.out
    by_cases hlt : k < LL.length
    · have HEnd := Lib.hid (end_any cols (HX.out.below hB) HA.out HBd.out (by omega) hlt)
      have hne : LL.drop k ≠ [] := fun e => by have := congrArg List.length e; rw [List.length_drop] at this; simp at this; omega
      have hrg := endN_rng (R := R) (cols := cols) hne
      have hst := rowsFl_step R cols hne (szL (LL.take k))
      rw [List.length_drop] at hrg
      generalize endN R (LL.drop k) cols = n at HEnd hrg hst
      rw [← szL_add, List.drop_drop] at hst
      have HSt := Lib.hid hst
      have HRg := Lib.hid hrg
      have HLk := Lib.hid hL
      have HLt := Lib.hid hlt
      have s0 : (k : Int) < (X.length : Int) - 1 := by omega
      clear hB hO hR hne hst hXl hrg hL hlt
      go_wp2_with fail
      refine HEnd.out.mono ?_
      rintro e w2 ⟨rfl, hB2⟩
      have HB2 := Lib.hid (HB.out.trans (hB2.mono HB.out.size))
      have HO2 := Lib.hid (owns_stays HO.out hB2)
      clear hB2 HB HO HEnd
      have hrg := HRg.out
      have hlt := HLt.out
      have hXl := HXl.out
      have hL := HLk.out
      obtain ⟨kw, kb, hxk⟩ := HA.out.from' (Nat.le_of_lt hlt)
      obtain ⟨ew, eb, hxe⟩ := HA.out.from' (j := k + n) (by omega)
      obtain ⟨kn, hkn⟩ : ∃ kn, kn = k + n := ⟨_, rfl⟩
      rw [← hkn] at hxe HSt ⊢
      obtain ⟨A, hA'⟩ : ∃ A, A = szL (LL.take k) := ⟨_, rfl⟩
      obtain ⟨A', hA''⟩ : ∃ A, A = szL (LL.take kn) := ⟨_, rfl⟩
      rw [← hA'] at hxk HSt
      rw [← hA''] at hxe HSt
      obtain ⟨_, _, _, hv, _, _, _, _, d0, _, _⟩ := pcs_cells (HX.out.below HB2.out) hxk
      cases hv
      obtain ⟨_, _, _, hv, _, _, _, _, d1, _, _⟩ := pcs_cells (HX.out.below HB2.out) hxe
      cases hv
      have hC := HA.out.sub (i := k) (j := kn) (by omega) (by omega)
      rw [show kn - k = n by omega] at hC
      have HSh := Lib.hid (fun (W : World) (hX : PcsIn W (.slice (some ⟨sb, soff, none⟩) X.length sc) X) => shown_any (R := R) (pcs_sub hX (i := k) (j := kn) (by omega) (by omega) (by obtain ⟨_, _, h1, _, _, _, h4⟩ := hX; cases h1; obtain ⟨_, _, h5, h6, _⟩ := h4 (by omega); cases h5; exact h6)) hC (fun j => by rw [List.take_take]; exact HBd.out k _))
      generalize shW R ((LL.drop k).take n) = sw at HSh HSt
      have s1 : (0 : Int) ≤ (k : Int) := by omega
      have s2 : (k : Int) < (X.length : Int) := by omega
      have s3 : (kn : Int) < (X.length : Int) := by omega
      have s4 : (k : Int) ≤ (kn : Int) := by omega
      have s5 : (kn : Int) ≤ (sc : Int) := by omega
      have s6 : ¬ sc = k := by omega
      have s7 : (0 : Int) ≤ (kn : Int) := by omega
      have hrg1 : k < kn ∧ kn ≤ LL.length := by omega
      have hbig : (L.length + 1) * 24 ≤ 140737488355328 := by omega
      have HA1 := Lib.hid hA'
      have HA2 := Lib.hid hA''
      have HKn := Lib.hid hkn
      have HXk := Lib.hid hxk
      have HXe := Lib.hid hxe
      clear hxk hxe hA' hA'' hkn hC hXl hL hrg hlt
      go_upto_region 6 with fail
      refine wp_region_held_drew (S := fun w' => w'.cell? ⟨sb, soff + k * 3, none⟩ = some (.int .i64 (A : Int)) ∧ w'.cell? ⟨sb, soff + kn * 3, none⟩ = some (.int .i64 (A' : Int))) (by kernel_rfl) ⟨d0, d1⟩ (fun hHeld => ?_)
      refine hd_take 0 rfl (by kernel_rfl) (by kernel_rfl) (by kernel_rfl) (fun _ _ _ h => h) (by rfl) (by intro w hSw; (try dsimp only at hSw); obtain ⟨hs1, hs2⟩ := hSw; go_simp; first | done | with_reducible rfl) hHeld ?_
      try simp only [Act.put, List.setIfInBounds_toArray, List.set_cons_zero, List.set_cons_succ]
      refine hd_take 1 rfl (by kernel_rfl) (by kernel_rfl) (by kernel_rfl) (fun _ _ _ h => h) (by rfl) (by intro w hSw; (try dsimp only at hSw); obtain ⟨hs1, hs2⟩ := hSw; go_simp; first | done | with_reducible rfl) hHeld ?_
      try simp only [Act.put, List.setIfInBounds_toArray, List.set_cons_zero, List.set_cons_succ]
      refine hd_take 2 rfl (by kernel_rfl) (by kernel_rfl) (by kernel_rfl) (fun _ _ _ h => h) (by rfl) (by intro w hSw; (try dsimp only at hSw); obtain ⟨hs1, hs2⟩ := hSw; go_simp; first | done | with_reducible rfl) hHeld ?_
      try simp only [Act.put, List.setIfInBounds_toArray, List.set_cons_zero, List.set_cons_succ]
      refine hd_take 3 rfl (by kernel_rfl) (by kernel_rfl) (by kernel_rfl) (fun _ _ _ h => h) (by rfl) (by intro w hSw; (try dsimp only at hSw); obtain ⟨hs1, hs2⟩ := hSw; go_simp; first | done | with_reducible rfl) hHeld ?_
      try simp only [Act.put, List.setIfInBounds_toArray, List.set_cons_zero, List.set_cons_succ]
      refine hd_take 4 rfl (by kernel_rfl) (by kernel_rfl) (by kernel_rfl) (fun _ _ _ h => h) (by rfl) (by intro w hSw; (try dsimp only at hSw); obtain ⟨hs1, hs2⟩ := hSw; go_simp; first | done | with_reducible rfl) hHeld ?_
      try simp only [Act.put, List.setIfInBounds_toArray, List.set_cons_zero, List.set_cons_succ]
      refine hd_take 5 rfl (by kernel_rfl) (by kernel_rfl) (by kernel_rfl) (fun _ _ _ h => h) (by rfl) (by intro w hSw; (try dsimp only at hSw); obtain ⟨hs1, hs2⟩ := hSw; go_simp; first | done | with_reducible rfl) hHeld ?_
      try simp only [Act.put, List.setIfInBounds_toArray, List.set_cons_zero, List.set_cons_succ]
      refine hd_take 6 rfl (by kernel_rfl) (by kernel_rfl) (by kernel_rfl) (fun _ _ _ h => h) (by rfl) (by intro w hSw; (try dsimp only at hSw); obtain ⟨hs1, hs2⟩ := hSw; go_simp; first | done | with_reducible rfl) hHeld ?_
      try simp only [Act.put, List.setIfInBounds_toArray, List.set_cons_zero, List.set_cons_succ]
      refine hd_take 7 rfl (by kernel_rfl) (by kernel_rfl) (by kernel_rfl) (fun _ _ _ h => h) (by rfl) (by intro w hSw; (try dsimp only at hSw); obtain ⟨hs1, hs2⟩ := hSw; go_simp; first | done | with_reducible rfl) hHeld ?_
      try simp only [Act.put, List.setIfInBounds_toArray, List.set_cons_zero, List.set_cons_succ]
      refine hd_take 8 rfl (by kernel_rfl) (by kernel_rfl) (by kernel_rfl) (fun _ _ _ h => h) (by rfl) (by intro w hSw; (try dsimp only at hSw); obtain ⟨hs1, hs2⟩ := hSw; go_simp; first | done | with_reducible rfl) hHeld ?_
      try simp only [Act.put, List.setIfInBounds_toArray, List.set_cons_zero, List.set_cons_succ]
      refine hd_take 9 rfl (by kernel_rfl) (by kernel_rfl) (by kernel_rfl) (fun _ _ _ h => h) (by rfl) (by intro w hSw; (try dsimp only at hSw); obtain ⟨hs1, hs2⟩ := hSw; go_simp; first | done | with_reducible rfl) hHeld ?_
      try simp only [Act.put, List.setIfInBounds_toArray, List.set_cons_zero, List.set_cons_succ]
      refine hd_take 10 rfl (by kernel_rfl) (by kernel_rfl) (by kernel_rfl) (fun _ _ _ h => h) (by rfl) (by intro w hSw; (try dsimp only at hSw); obtain ⟨hs1, hs2⟩ := hSw; go_simp; first | done | with_reducible rfl) hHeld ?_
      try simp only [Act.put, List.setIfInBounds_toArray, List.set_cons_zero, List.set_cons_succ]
      refine hd_take 11 rfl (by kernel_rfl) (by kernel_rfl) (by kernel_rfl) (fun _ _ _ h => h) (by rfl) (by intro w hSw; (try dsimp only at hSw); obtain ⟨hs1, hs2⟩ := hSw; go_simp; first | done | with_reducible rfl) hHeld ?_
      try simp only [Act.put, List.setIfInBounds_toArray, List.set_cons_zero, List.set_cons_succ]
      refine hd_take 12 rfl (by kernel_rfl) (by kernel_rfl) (by kernel_rfl) (fun _ _ _ h => h) (by rfl) (by intro w hSw; (try dsimp only at hSw); obtain ⟨hs1, hs2⟩ := hSw; go_simp; first | done | with_reducible rfl) hHeld ?_
      try simp only [Act.put, List.setIfInBounds_toArray, List.set_cons_zero, List.set_cons_succ]
      refine hd_take 13 rfl (by kernel_rfl) (by kernel_rfl) (by kernel_rfl) (fun _ _ _ h => h) (by rfl) (by intro w hSw; (try dsimp only at hSw); obtain ⟨hs1, hs2⟩ := hSw; go_simp; first | done | with_reducible rfl) hHeld ?_
      try simp only [Act.put, List.setIfInBounds_toArray, List.set_cons_zero, List.set_cons_succ]
      refine hd_take 14 rfl (by kernel_rfl) (by kernel_rfl) (by kernel_rfl) (fun _ _ _ h => h) (by rfl) (by intro w hSw; (try dsimp only at hSw); obtain ⟨hs1, hs2⟩ := hSw; go_simp; first | done | with_reducible rfl) hHeld ?_
      try simp only [Act.put, List.setIfInBounds_toArray, List.set_cons_zero, List.set_cons_succ]
      refine hd_step 15 (by kernel_rfl) rfl (fun K hK => ?_)
      go_simp
      go_at_call 145
      refine (HSh.out _ (show PcsIn w2.drew _ _ from PcsIn.below HX.out (show Below w1.heap.size w1 w2.drew from below_dN HB2.out 1))).mono ?_
      rintro e w3 ⟨rfl, hB3⟩
      have d03 := cell_later hB3 (show w2.drew.cell? _ = _ from d0)
      have d13 := cell_later hB3 (show w2.drew.cell? _ = _ from d1)
      have HBd2 := Lib.hid (show Below w1.heap.size w1 w2.drew from below_dN HB2.out 1)
      have HB3 := Lib.hid (HBd2.out.trans (hB3.mono HBd2.out.size))
      have HO3 := Lib.hid (owns_stays (show w2.drew.ownsRow w1.heap.size 164 3 (.slice pa L.length pc) L.length (L.flatMap r3E) from HO2.out) hB3)
      clear hB3
      go_wp2_with fail
      refine hK.out _ _ ⟨d03, d13⟩ (fun hHeld => ?_)
      clear hK K
      try simp only [Act.put, List.setIfInBounds_toArray, List.set_cons_zero, List.set_cons_succ]
      refine hd_take 16 rfl (by kernel_rfl) (by kernel_rfl) (by kernel_rfl) (fun _ _ _ h => h) (by rfl) (by intro w hSw; (try dsimp only at hSw); obtain ⟨hs1, hs2⟩ := hSw; go_simp; first | done | with_reducible rfl) hHeld ?_
      try simp only [Act.put, List.setIfInBounds_toArray, List.set_cons_zero, List.set_cons_succ]
      refine hd_step 17 (by kernel_rfl) rfl (fun K hK => ?_)
      go_simp
      have hb4 := below1 w3 (.cells #[.int .i64 (A : Int), .int .i64 (A' : Int), .int .i64 sw] 164)
      refine hK.out _ _ ⟨cell_later hb4 d03, cell_later hb4 d13⟩ (fun hHeld => ?_)
      clear hK K
      try simp only [Act.put, List.setIfInBounds_toArray, List.set_cons_zero, List.set_cons_succ]
      refine hd_step 18 (by kernel_rfl) rfl (fun K hK => ?_)
      rw [if_pos (by rfl)]
      refine oper_app1 w3 (.tmp 23) (.tmp 40) _ rfl EFr _ _ _ rfl HO3.out 1 1 (r3E ((A : Int), (A' : Int), sw)) rfl (by decide) rfl (r3E_one _) hbig HB3.out.size ?_
      intro g cp7 w7 ho7 hg7 hf7
      have HB7 := Lib.hid (below_app HB3.out HB3.out.size HO3.out (Nat.le_refl _) hg7)
      have HO7 := Lib.hid ho7
      clear ho7 hg7 hf7
      obtain ⟨_, _, _, hv, _, _, _, _, d07, _, _⟩ := pcs_cells (PcsIn.below HX.out HB7.out) HXk.out
      cases hv
      obtain ⟨_, _, _, hv, _, _, _, _, d17, _, _⟩ := pcs_cells (PcsIn.below HX.out HB7.out) HXe.out
      cases hv
      refine hK.out _ _ ⟨d07, d17⟩ (fun hHeld => ?_)
      clear hK K
      try simp only [Act.put, List.setIfInBounds_toArray, List.set_cons_zero, List.set_cons_succ]
      refine hd_step 19 (by kernel_rfl) rfl (fun K hK => ?_)
      go_simp
      refine hK.out _ _ ⟨d07, d17⟩ (fun hHeld => ?_)
      clear hK K
      try simp only [Act.put, List.setIfInBounds_toArray, List.set_cons_zero, List.set_cons_succ]
      refine wpAnyH_done (by kernel_rfl) ?_ _
      have HRn := Lib.hid (show (L ++ [((A : Int), (A' : Int), sw)]) ++ rowsFl R cols (LL.drop kn) (szL (LL.take kn)) = rowsFl R cols LL 0 by
        have h1 := HRr.out
        rw [← HA1.out, HSt.out] at h1
        rw [← HA2.out, List.append_assoc]
        exact h1)
      have HLn := Lib.hid (show (L ++ [((A : Int), (A' : Int), sw)]).length ≤ kn by rw [List.length_append]; have := HLk.out; simp; omega)
      clear hHeld d03 d13 d07 d17 hb4 HO3 HB3 HBd2 HSh HRr HSt d0 d1 HB2 HO2
      go_wp2_with fail
      go_roundw
      case rel => exact ⟨kn, L ++ [((A : Int), (A' : Int), sw)], hrg1.2, rfl, HB7.out, by rw [List.length_append, flat_snoc]; exact HO7.out, HLn.out, HRn.out⟩
      case measure => simp [intOf] <;> omega
    · have hke : k = LL.length := by omega
      have HRe := Lib.hid (show L = rowsFl R cols LL 0 by rw [hke, List.drop_length, rowsFl_nil, List.append_nil] at hR; exact hR)
      have s0 : decide ((k : Int) < (X.length : Int) - 1) = false := decide_eq_false (by omega)
      clear hB hO hR hL hlt hke hXl
      go_wp2_with fail
      go_ret
      exact ⟨_, rfl, below_trans' HB1.out HB.out, by rw [← HRe.out]; exact rd_of_owns HO.out⟩
end
end Go.Proofs.YtkeainhjghdfcaaGreat

/- Flow: the rows, one behind the other. No program is named here. -/
namespace Go.Proofs.YtkeainhjghdfcaaGreat

theorem szL_app (A B : List (List Int)) : szL (A ++ B) = szL A + szL B := by unfold szL; rw [List.map_append, List.sum_append]
theorem szL_cut (LL : List (List Int)) (k n : Nat) : szL (LL.take (k + n)) = szL (LL.take k) + szL ((LL.drop k).take n) := by
  rw [List.take_add, szL_app]
/-- rows from cluster k on, each as it should be -/
def ChainR (R : List Rw) (cols : Int) (LL : List (List Int)) : Nat → List Rw3 → Prop
  | k, [] => k = LL.length
  | k, r :: L => ∃ e, k < e ∧ e ≤ LL.length ∧ r = (((szL (LL.take k) : Nat) : Int), ((szL (LL.take e) : Nat) : Int), shW R ((LL.drop k).take (e - k))) ∧ (r.2.2 ≤ cols ∨ e = k + 1) ∧ ChainR R cols LL e L
theorem rowsFl_chain (R : List Rw) (cols : Int) (LL : List (List Int)) : ∀ (f k : Nat), LL.length - k ≤ f → k ≤ LL.length → ChainR R cols LL k (rowsFl R cols (LL.drop k) (szL (LL.take k)))
  | 0, k, hf, hk => by
    rw [List.drop_eq_nil_of_le (by omega), rowsFl_nil]
    show k = LL.length
    omega
  | f + 1, k, hf, hk => by
    rcases Nat.lt_or_ge k LL.length with h | h
    · have hne : LL.drop k ≠ [] := fun e => by have := congrArg List.length e; rw [List.length_drop] at this; simp at this; omega
      have hrg := endN_rng (R := R) (cols := cols) hne
      have hfit := endN_fit (R := R) (cols := cols) hne
      rw [List.length_drop] at hrg
      rw [rowsFl_step R cols hne, ← szL_cut, List.drop_drop]
      refine ⟨k + endN R (LL.drop k) cols, by omega, by omega, by rw [Nat.add_sub_cancel_left], ?_, rowsFl_chain R cols LL f _ (by omega) (by omega)⟩
      rcases hfit with h1 | h1
      · left
        unfold fitN at h1
        rw [decide_eq_true_eq] at h1
        exact h1
      · right; rw [h1]
    · rw [List.drop_eq_nil_of_le (by omega), rowsFl_nil]
      show k = LL.length
      omega
theorem rowsFl_all (R : List Rw) (cols : Int) (LL : List (List Int)) : ChainR R cols LL 0 (rowsFl R cols LL 0) := rowsFl_chain R cols LL LL.length 0 (by omega) (Nat.zero_le _)
section
variable {R : List Rw} {cols : Int} {LL : List (List Int)}
theorem chain_nil {k : Nat} : ChainR R cols LL k [] → k = LL.length := id
theorem szL_lt (hne : ∀ c ∈ LL, c ≠ []) {k e : Nat} (h : k < e) (he : e ≤ LL.length) : szL (LL.take k) < szL (LL.take e) := by
  obtain ⟨c, hc⟩ : ∃ c, LL[k]? = some c := ⟨_, List.getElem?_eq_getElem (by omega)⟩
  have h1 : LL.take (k + 1) = LL.take k ++ [c] := by rw [List.take_add_one, hc]; rfl
  have h2 := szL_cut LL (k + 1) (e - (k + 1))
  rw [show k + 1 + (e - (k + 1)) = e by omega, h1, szL_app] at h2
  have h3 : 0 < c.length := List.length_pos_iff.2 (hne c (List.mem_of_getElem? hc))
  have h4 : szL [c] = c.length := by simp [szL]
  omega
/-- at a row, when all rows ahead of it are passed -/
theorem chain_at {L : List Rw3} : ∀ {i k : Nat} {r : Rw3}, ChainR R cols LL k L → L[i]? = some r → ∃ k', ChainR R cols LL k' (L.drop i) := by
  intro i
  induction L generalizing i with
  | nil => intro k r _ h; simp at h
  | cons x L ih =>
    intro k r hC h
    cases i with
    | zero => exact ⟨k, hC⟩
    | succ i =>
      obtain ⟨e, _, _, _, _, h5⟩ := hC
      exact ih h5 (by simpa using h)
theorem chain_cons {k : Nat} {L : List Rw3} {i : Nat} {r : Rw3} (hC : ChainR R cols LL k (L.drop i)) (hr : L[i]? = some r) : ∃ e, k < e ∧ e ≤ LL.length ∧ r = (((szL (LL.take k) : Nat) : Int), ((szL (LL.take e) : Nat) : Int), shW R ((LL.drop k).take (e - k))) ∧ (r.2.2 ≤ cols ∨ e = k + 1) ∧ ChainR R cols LL e (L.drop (i + 1)) := by
  have hi := (List.getElem?_eq_some_iff.1 hr).1
  have e : L.drop i = r :: L.drop (i + 1) := by
    rw [List.drop_eq_getElem_cons hi, (List.getElem?_eq_some_iff.1 hr).2]
  rw [e] at hC
  exact hC
end
theorem chain_len {R : List Rw} {cols : Int} {LL : List (List Int)} : ∀ {L : List Rw3} {k : Nat}, ChainR R cols LL k L → k + L.length ≤ LL.length
  | [], k, h => by have := chain_nil h; simp; omega
  | r :: L, k, ⟨e, h1, h2, _, _, h5⟩ => by
    have := chain_len h5
    simp only [List.length_cons]
    omega
section
variable {T : Tab}
end
end Go.Proofs.YtkeainhjghdfcaaGreat

/- flow.Find, flow.Widest. -/
namespace Go.Proofs.YtkeainhjghdfcaaGreat
open Go.RowKit

theorem r3_shape {w : World} {v : Value} {L : List Rw3} (h : Rw3In w v L) : ∃ a cap, v = .slice a L.length cap ∧ L.length ≤ cap ∧ cap ≤ maxLen := by
  obtain ⟨a, cap, rfl, h1, h2, _⟩ := h
  exact ⟨a, cap, rfl, h1, h2⟩
theorem r3_cells {w : World} {v : Value} {L : List Rw3} (h : Rw3In w v L) {k : Nat} {x : Rw3} (hx : L[k]? = some x) : ∃ b off cap, v = .slice (some ⟨b, off, none⟩) L.length cap ∧ cap ≤ maxLen ∧ L.length ≤ cap ∧ k < L.length ∧ b < w.heap.size ∧
    w.cell? ⟨b, off + k * 3, none⟩ = some (.int .i64 x.1) ∧ w.cell? ⟨b, off + k * 3 + 1, none⟩ = some (.int .i64 x.2.1) ∧ w.cell? ⟨b, off + k * 3 + 2, none⟩ = some (.int .i64 x.2.2) := by
  obtain ⟨a, cap, rfl, hcap, hmax, _, hcells⟩ := h
  have hk := (List.getElem?_eq_some_iff.1 hx).1
  obtain ⟨b, off, rfl, hbl, hcq⟩ := hcells (by omega)
  exact ⟨b, off, cap, rfl, hmax, hcap, hk, hbl, flat_cell r3E_len hcq hx 0 rfl, flat_cell r3E_len hcq hx 1 rfl, flat_cell r3E_len hcq hx 2 rfl⟩
end Go.Proofs.YtkeainhjghdfcaaGreat

/- Texts of glyphs: their sizes, their parts. No program is named here. -/
namespace Go.Proofs.YtkeainhjghdfcaaGreat
open Go.RowKit

theorem catG_size : ∀ (G : List Gy) (b0 : ByteArray), (catG b0 G).size = b0.size + szG G
  | [], b0 => by simp [catG, szG]
  | g :: G, b0 => by
    have := catG_size G (b0 ++ g.1)
    show (catG (b0 ++ g.1) G).size = _
    rw [this, ByteArray.size_append]
    simp [szG]; omega
end Go.Proofs.YtkeainhjghdfcaaGreat

/- Blanks; a row of glyphs without the blanks at its end; a row's text. No program is named here. -/
namespace Go.Proofs.YtkeainhjghdfcaaGreat
open Go.RowKit

/-- n blanks -/
def repB (n : Nat) : ByteArray := ⟨(Lib.repeatL [32] n).toArray⟩
theorem rep_list (n : Nat) : Lib.repeatL [32] n = List.replicate n 32 := by
  induction n with
  | zero => rfl
  | succ n ih => show [32] ++ Lib.repeatL [32] n = _; rw [ih]; rfl
theorem repB_zero : repB 0 = ⟨#[]⟩ := rfl
theorem ba_ext {a b : ByteArray} (h : a.data.toList = b.data.toList) : a = b := by
  obtain ⟨a⟩ := a
  obtain ⟨b⟩ := b
  congr 1
  exact Array.toList_inj.1 h
theorem ba_app (a b : ByteArray) : (a ++ b).data.toList = a.data.toList ++ b.data.toList := by
  rw [ByteArray.data_append, Array.toList_append]
theorem repB_succ (n : Nat) : repB n ++ ⟨#[32]⟩ = repB (n + 1) := by
  apply ba_ext
  rw [ba_app]
  show Lib.repeatL [32] n ++ [32] = Lib.repeatL [32] (n + 1)
  rw [rep_list, rep_list, List.replicate_succ']
theorem repB_size (n : Nat) : (repB n).size = n := by
  show (repB n).data.size = n
  unfold repB
  dsimp only
  rw [List.size_toArray, rep_list, List.length_replicate]
/-- up to the last glyph that is no blank, of the first k -/
def trimN (G : List Gy) : Nat → Nat
  | 0 => 0
  | k + 1 => if (G.getD k (⟨#[]⟩, 0)).1 = ⟨#[32]⟩ then trimN G k else k + 1
theorem trimN_blank {G : List Gy} {k : Nat} {g : Gy} (h : G[k]? = some g) (hg : g.1 = ⟨#[32]⟩) : trimN G (k + 1) = trimN G k := by
  show (if (G.getD k (⟨#[]⟩, 0)).1 = ⟨#[32]⟩ then trimN G k else k + 1) = _
  rw [List.getD_eq_getElem?_getD, h, if_pos (by simpa using hg)]
theorem trimN_full {G : List Gy} {k : Nat} {g : Gy} (h : G[k]? = some g) (hg : g.1 ≠ ⟨#[32]⟩) : trimN G (k + 1) = k + 1 := by
  show (if (G.getD k (⟨#[]⟩, 0)).1 = ⟨#[32]⟩ then trimN G k else k + 1) = _
  rw [List.getD_eq_getElem?_getD, h, if_neg (by simpa using hg)]
/-- how far a row is moved -/
def roomN (cols side wd : Int) : Nat := (if side = 0 then 0 else if side = 2 then max (cols - wd) 0 / 2 else max (cols - wd) 0).toNat
theorem roomN_le {cols side wd : Int} (h : 0 ≤ wd) (hc : 0 ≤ cols) : (roomN cols side wd : Int) ≤ cols := by
  unfold roomN
  split
  · omega
  · split <;> omega
/-- a row's text -/
def rowTx (cols side wd : Int) (G : List Gy) : ByteArray := catG (repB (roomN cols side wd)) (G.take (trimN G G.length))
end Go.Proofs.YtkeainhjghdfcaaGreat

/- The texts of rows: plain facts. No program is named here. -/
namespace Go.Proofs.YtkeainhjghdfcaaGreat
open Go.RowKit

/-- a row's scalars -/
def subR (s : List Int) (r : Rw3) : List Int := (s.take r.2.1.toNat).drop r.1.toNat
/-- a row's text -/
def flTx (R : List Rw) (cols side : Int) (s : List Int) (r : Rw3) : ByteArray := rowTx cols side r.2.2 (lineG R (clus (tabOf R) (subR s r)))
def textsFl (R : List Rw) (cols side : Int) (s : List Int) : List ByteArray := (rowsFl R cols (clus (tabOf R) s) 0).map (flTx R cols side s)
theorem row_bd {R : List Rw} {cols : Int} {s : List Int} {i : Nat} {r : Rw3} (hr : (rowsFl R cols (clus (tabOf R) s) 0)[i]? = some r) (hl : s.length ≤ 100000) :
    ∃ F T : Nat, r.1 = F ∧ r.2.1 = T ∧ F < T ∧ T ≤ s.length ∧ 0 ≤ r.2.2 ∧ r.2.2 ≤ 1000000000 := by
  obtain ⟨k, hC⟩ := chain_at (rowsFl_all R cols (clus (tabOf R) s)) hr
  obtain ⟨e, h1, h2, h3, h4, h5⟩ := chain_cons hC hr
  have hne := fun c (h : c ∈ clus (tabOf R) s) => (clus_ne (tabOf R) s.length s (Nat.le_refl _) c h).1
  have hlt := szL_lt hne h1 h2
  have hle := szL_take_le (clus (tabOf R) s) e
  have hSz : szL (clus (tabOf R) s) = s.length := by rw [szL_flat, clus_flat (tabOf R) s.length s (Nat.le_refl _)]
  have hsh := shW_le (R := R) (((clus (tabOf R) s).drop k).take (e - k))
  have hw := wdG_rng (L := lineG R (((clus (tabOf R) s).drop k).take (e - k))) (fun g hg => (lineG_ok R g hg).1)
  have h7 := lineG_le R (((clus (tabOf R) s).drop k).take (e - k))
  have h8 : (((clus (tabOf R) s).drop k).take (e - k)).flatten.length ≤ s.length := by
    rw [← szL_flat]
    have h5 := szL_add (clus (tabOf R) s) k (e - k)
    have h4 := szL_take_le (clus (tabOf R) s) (k + (e - k))
    omega
  rw [h3]
  refine ⟨_, _, rfl, rfl, hlt, by omega, hsh.1, Int.le_trans hsh.2 ?_⟩
  show wdG _ ≤ _
  omega
end Go.Proofs.YtkeainhjghdfcaaGreat

/- strings.Repeat, as it lies in this program (laid by the kit); blanks. -/
namespace Go.Proofs.YtkeainhjghdfcaaGreat
open Go.Shelf Go.RowKit Go.Lib

def Tryz.lays105_ren : Go.Shelf.Ren := ⟨fun | 105 => 89 | 212 => 134 | 99 => 135 | 165 => 136 | 166 => 137 | 170 => 138 | 169 => 139 | 263 => 173 | 264 => 174 | 206 => 175 | 240 => 176 | 241 => 177 | 276 => 194 | 277 => 195 | n => n, fun | 9 => 9 | 3 => 3 | 4 => 4 | 20 => 20 | 0 => 0 | 46 => 172 | 109 => 229 | 5 => 5 | 72 => 235 | 76 => 238 | 51 => 287 | 146 => 288 | 53 => 290 | 148 => 291 | 70 => 232 | 37 => 233 | 75 => 237 | 127 => 293 | 164 => 307 | 80 => 240 | n => n, fun | n => n⟩
theorem Tryz.lays105 : Go.Proofs.Lays.n105 Tryz.prog Tryz.lays105_ren := {
  mixed := by kernel_rfl
  f99 := Tryz.func135.trans (congrArg some (by kernel_rfl))
  f105 := Tryz.func89.trans (congrArg some (by kernel_rfl))
  f165 := Tryz.func136.trans (congrArg some (by kernel_rfl))
  f166 := Tryz.func137.trans (congrArg some (by kernel_rfl))
  f169 := Tryz.func139.trans (congrArg some (by kernel_rfl))
  f170 := Tryz.func138.trans (congrArg some (by kernel_rfl))
  f206 := Tryz.func175.trans (congrArg some (by kernel_rfl))
  f212 := Tryz.func134.trans (congrArg some (by kernel_rfl))
  f240 := Tryz.func176.trans (congrArg some (by kernel_rfl))
  f241 := Tryz.func177.trans (congrArg some (by kernel_rfl))
  f263 := Tryz.func173.trans (congrArg some (by kernel_rfl))
  f264 := Tryz.func174.trans (congrArg some (by kernel_rfl))
  f276 := Tryz.func194.trans (congrArg some (by kernel_rfl))
  f277 := Tryz.func195.trans (congrArg some (by kernel_rfl))
  t0 := Tryz.underlying0
  a0 := Tryz.isAgg0
  z0 := Tryz.sizeOf0
  v0 := Tryz.zeroValue0
  t3 := Tryz.underlying3
  a3 := Tryz.isAgg3
  z3 := Tryz.sizeOf3
  v3 := Tryz.zeroValue3
  t4 := Tryz.underlying4
  a4 := Tryz.isAgg4
  z4 := Tryz.sizeOf4
  v4 := Tryz.zeroValue4
  t5 := Tryz.underlying5
  a5 := Tryz.isAgg5
  z5 := Tryz.sizeOf5
  v5 := Tryz.zeroValue5
  t9 := Tryz.underlying9
  a9 := Tryz.isAgg9
  z9 := Tryz.sizeOf9
  v9 := Tryz.zeroValue9
  t20 := Tryz.underlying20
  a20 := Tryz.isAgg20
  z20 := Tryz.sizeOf20
  v20 := Tryz.zeroValue20
  t37 := Tryz.underlying233
  a37 := Tryz.isAgg233
  z37 := Tryz.sizeOf233
  v37 := Tryz.zeroValue233
  t46 := Tryz.underlying172
  a46 := Tryz.isAgg172
  z46 := Tryz.sizeOf172
  v46 := Tryz.zeroValue172
  t51 := Tryz.underlying287
  a51 := Tryz.isAgg287
  z51 := Tryz.sizeOf287
  v51 := Tryz.zeroValue287
  t53 := Tryz.underlying290
  a53 := Tryz.isAgg290
  z53 := Tryz.sizeOf290
  v53 := Tryz.zeroValue290
  t70 := Tryz.underlying232
  a70 := Tryz.isAgg232
  z70 := Tryz.sizeOf232
  v70 := Tryz.zeroValue232
  t72 := Tryz.underlying235
  a72 := Tryz.isAgg235
  z72 := Tryz.sizeOf235
  v72 := Tryz.zeroValue235
  t75 := Tryz.underlying237
  a75 := Tryz.isAgg237
  z75 := Tryz.sizeOf237
  v75 := Tryz.zeroValue237
  t76 := Tryz.underlying238
  a76 := Tryz.isAgg238
  z76 := Tryz.sizeOf238
  v76 := Tryz.zeroValue238
  t109 := Tryz.underlying229
  a109 := Tryz.isAgg229
  z109 := Tryz.sizeOf229
  v109 := Tryz.zeroValue229
  t127 := Tryz.underlying293
  a127 := Tryz.isAgg293
  z127 := Tryz.sizeOf293
  v127 := Tryz.zeroValue293
  t146 := Tryz.underlying288
  a146 := Tryz.isAgg288
  z146 := Tryz.sizeOf288
  v146 := Tryz.zeroValue288
  t148 := Tryz.underlying291
  a148 := Tryz.isAgg291
  z148 := Tryz.sizeOf291
  v148 := Tryz.zeroValue291
  t164 := Tryz.underlying307
  a164 := Tryz.isAgg307
  z164 := Tryz.sizeOf307
  v164 := Tryz.zeroValue307 }
theorem Tryz.Builder_Extra_105 : Builder.Extra Tryz.prog Tryz.lays105_ren := {
  sizeBuilder := by kernel_rfl
  liesBuilder := by kernel_rfl
  t5 := Tryz.underlying5
  a5 := Tryz.isAgg5
  z5 := Tryz.sizeOf5
  v5 := Tryz.zeroValue5
  infoByte := by kernel_rfl
  cellsByte := by kernel_rfl
  sizeByte := by kernel_rfl
  neB5 := by decide }

theorem repeat_any (n : Nat) (w : World) (h : n ≤ 1000000) : Calls Tryz.prog 89 #[.string ⟨#[32]⟩, .int .i64 (n : Int)] w fun e w' => e = .returned (.string (repB n)) ∧ Below w.heap.size w w' :=
  Any.strings_Repeat Tryz.lays105 Tryz.Builder_Extra_105 ⟨#[32]⟩ n w (by omega) (by show 1 * n ≤ _; omega)
end Go.Proofs.YtkeainhjghdfcaaGreat

/- The document's rows: blank, size, Width. -/
namespace Go.Proofs.YtkeainhjghdfcaaGreat
open Go.RowKit

/-- a part of a row of texts -/
theorem texts_sub {w : World} {b off cap : Nat} {LL : List (List Int)} (h : TextsIn w (.slice (some ⟨b, off, none⟩) LL.length cap) LL) {i j : Nat} (hij : i ≤ j) (hj : j ≤ LL.length) : TextsIn w (.slice (some ⟨b, off + i, none⟩) (j - i) (cap - i)) ((LL.take j).drop i) := by
  obtain ⟨vs, ⟨a', cap', hv, h1, h2, h3, h4⟩, h5⟩ := h
  cases hv
  have hl : ((LL.take j).drop i).length = j - i := by rw [List.length_drop, List.length_take]; omega
  have hvl : vs.length = LL.length := by omega
  refine ⟨(vs.take j).drop i, ⟨some ⟨b, off + i, none⟩, cap - i, by rw [hl], by omega, by omega, by rw [List.length_drop, List.length_take]; omega, fun hn => ?_⟩, fun q u l hu hq => ?_⟩
  · obtain ⟨b', off', e, hb, hc⟩ := h4 (by omega)
    cases e
    refine ⟨b, off + i, rfl, hb, fun q u hu => ?_⟩
    rw [List.getElem?_drop, List.getElem?_take] at hu
    split at hu
    · have := hc (i + q) u hu
      rw [Nat.add_assoc]
      exact this
    · cases hu
  · rw [List.getElem?_drop, List.getElem?_take] at hu hq
    split at hu
    · rename_i hlt
      rw [if_pos hlt] at hq
      exact h5 (i + q) u l hu hq
    · cases hu
theorem texts_nil (w : World) (a : Option Addr) (cap : Nat) (hc : cap ≤ maxLen) : TextsIn w (.slice a 0 cap) [] := ⟨[], ⟨a, cap, rfl, Nat.zero_le _, hc, rfl, fun h => by simp at h⟩, fun i u l hu _ => by simp at hu⟩
set_option maxRecDepth 100000 in
theorem fblank_any {c : List Int} {w : World} {v : Value} (h : RunesIn w v c) : Calls Tryz.prog 181 #[v] w fun e w' => e = .returned (.bool (blkC c)) ∧ w = w' := by
  have HH := Lib.hid h
  obtain ⟨sl, cap, rfl, hcap, hmax, _⟩ := runes_cells h
  clear h
  by_cases h1 : c.length = 1
  · obtain ⟨x, hx⟩ : ∃ x, c[0]? = some x := ⟨c[0], List.getElem?_eq_getElem (by omega)⟩
    obtain ⟨b, off, _, hv, _, _, _, _, l0⟩ := rune_cell HH.out hx
    cases hv
    have l0 : w.cell? ⟨b, off, none⟩ = some (.int .i32 x) := by simpa using l0
    have g1 : ((c.length : Int) == 1) = true := by simp; omega
    have s0 : (0 : Int) < (c.length : Int) := by omega
    have hc : c = [x] := by
      match c, h1, hx with
      | [y], _, hx => have : y = x := by simpa using hx
                      rw [this]
    have HV := Lib.hid (show blkC c = (x == 32) by rw [hc]; unfold blkC; by_cases h : x = 32 <;> simp [h])
    clear h1 hx hc
    go_enter Tryz.func181, Tryz.ntmps181
    go_wp2_with fail
    go_ret
    exact ⟨by rw [HV.out]; rfl, rfl⟩
  · have g1 : ((c.length : Int) == 1) = false := by rw [beq_eq_false_iff_ne]; omega
    have HV := Lib.hid (show blkC c = false by
      unfold blkC
      rw [decide_eq_false_iff_not]
      intro e
      rw [e] at h1
      exact h1 rfl)
    clear h1
    go_enter Tryz.func181, Tryz.ntmps181
    go_wp2_with fail
    go_ret
    exact ⟨by rw [HV.out]; rfl, rfl⟩
set_option maxRecDepth 100000 in
set_option maxHeartbeats 1000000 in
theorem fsize_any {LL : List (List Int)} {w : World} {v : Value} (h : TextsIn w v LL) (hz : szL LL ≤ 1000000) (_ : LL.length ≤ 1000000) : Calls Tryz.prog 147 #[v] w fun e w' => e = .returned (.int .i64 ((szL LL : Nat) : Int)) ∧ w = w' := by
  have HX := Lib.hid h
  have HTk := Lib.hid (szL_take_le LL)
  obtain ⟨sa, sc, rfl, hcap, hmax⟩ := texts_shape h
  unfold maxLen at hmax
  clear h
  go_enter Tryz.func147, Tryz.ntmps147
  go_wp2_with fail
  go_loopw [3, 4] (fun nv iv wr => ∃ (k n : Nat), k ≤ LL.length ∧ nv = .int .i64 (n : Int) ∧ iv = .int .i64 ((k : Nat) : Int) ∧ w = wr ∧ n = szL (LL.take k)) (fun _ iv _ => LL.length - (intOf iv).toNat)
  case atStart => exact ⟨0, 0, Nat.zero_le _, rfl, rfl, rfl, rfl⟩
  case round =>
    obtain ⟨k, n, hk, rfl, rfl, rfl, hn⟩ := hrel
    by_cases hlt : k < LL.length
    · obtain ⟨c, hc⟩ : ∃ c, LL[k]? = some c := ⟨LL[k], List.getElem?_eq_getElem hlt⟩
      have hsn := szL_snoc LL hc
      have hle := HTk.out (k + 1)
      rw [← hn] at hsn
      have HS := Lib.hid hsn
      obtain ⟨b, off, cp, cu, hv, _, _, _, _, d0, hcu⟩ := texts_cell HX.out hc
      cases hv
      obtain ⟨ca, ccap, rfl, _, _, hxx⟩ := runes_cells hcu
      clear hxx
      have e1 := IntWalk.i64_in ((n : Int) + (c.length : Int)) (by omega)
      have e2 := IntWalk.i64_in ((k : Int) + 1) (by omega)
      have s0 : (k : Int) < (LL.length : Int) := by omega
      have s1 : (0 : Int) ≤ (k : Int) := by omega
      clear hc hcu hn hsn
      go_wp2_with fail
      go_roundw
      case rel => exact ⟨k + 1, n + c.length, by omega, by go_num, by go_num, trivial, HS.out.symm⟩
      case measure => simp [intOf] <;> omega
    · have hke : k = LL.length := by omega
      subst hke
      rw [List.take_length] at hn
      have HN := Lib.hid hn
      have s0 : decide ((LL.length : Int) < (LL.length : Int)) = false := by simp
      clear hlt hn
      go_wp2_with fail
      go_ret
      exact ⟨by rw [← HN.out]; rfl, rfl⟩
set_option maxRecDepth 100000 in
set_option maxHeartbeats 4000000 in
theorem fwidth_any {R : List Rw} {LL : List (List Int)} {w : World} {v rv : Value} (hR : RowsIn w rv R) (h : TextsIn w v LL) (hok : ∀ c ∈ LL, RunesOk c ∧ c.length ≤ 100000) (hB : ∀ k, sumW R (LL.take k) ≤ 1000000000) (_ : LL.length ≤ 1000000) :
    Calls Tryz.prog 148 #[rv, v] w fun e w' => e = .returned (.int .i64 (shW R LL)) ∧ Below w.heap.size w w' := by
  have HX := Lib.hid h
  have HR := Lib.hid hR
  have HOk := Lib.hid hok
  have HBd := Lib.hid hB
  obtain ⟨sa, sc, rfl, hcap, hmax⟩ := texts_shape h
  unfold maxLen at hmax
  clear h hR hok hB
  go_enter Tryz.func148, Tryz.ntmps148
  go_wp2_with fail
  go_loopw [5] (fun mv wr => ∃ m : Nat, m ≤ LL.length ∧ mv = .int .i64 ((m : Nat) : Int) ∧ w = wr ∧ (LL.drop m).all blkC = true) (fun mv _ => (intOf mv).toNat)
  case atStart => exact ⟨LL.length, Nat.le_refl _, rfl, rfl, by rw [List.drop_length]; rfl⟩
  case round =>
    obtain ⟨m, hm, rfl, rfl, hall⟩ := hrel
    have HAll := Lib.hid hall
    by_cases h0 : 0 < m
    · obtain ⟨c, hc⟩ : ∃ c, LL[m - 1]? = some c := ⟨_, List.getElem?_eq_getElem (by omega)⟩
      obtain ⟨b, off, cp, cu, hv, _, _, _, _, d0, hcu⟩ := texts_cell HX.out hc
      cases hv
      obtain ⟨ca, ccap, rfl, _, _, hxx⟩ := runes_cells hcu
      clear hxx
      have HBk := Lib.hid (fblank_any hcu)
      have HC := Lib.hid hc
      obtain ⟨m1, hm1⟩ : ∃ m1, m1 = m - 1 := ⟨_, rfl⟩
      rw [← hm1] at d0 HC
      have s0 : (m : Int) > 0 := by omega
      have s0n : 0 < m := h0
      have s1 : (m : Int) - 1 = (m1 : Int) := by omega
      have e0 := IntWalk.i64_in ((m : Int) - 1) (by omega)
      have s2 : (0 : Int) ≤ (m1 : Int) := by omega
      have s3 : (m1 : Int) < (LL.length : Int) := by omega
      have HM1 := Lib.hid hm1
      clear hc hcu hall hm1 h0
      go_wp2_with fail
      refine HBk.out.mono ?_
      rintro e w' ⟨rfl, rfl⟩
      by_cases hb : blkC c = true
      · rw [hb]
        have HAl := Lib.hid (show (LL.drop m1).all blkC = true by
          have h1 := List.getElem?_eq_some_iff.1 HC.out
          rw [List.drop_eq_getElem_cons h1.1, List.all_cons, h1.2, hb, Bool.true_and]
          have : m1 + 1 = m := by have := HM1.out; omega
          rw [this]
          exact HAll.out)
        clear hb
        go_wp2_with fail
        go_roundw
        case rel => exact ⟨m1, by omega, by go_num, trivial, HAl.out⟩
        case measure => simp [intOf] <;> omega
      · rw [Bool.eq_false_iff.2 hb]
        have HSh := Lib.hid (show shW R LL = sumW R (LL.take m) from shW_trim LL HAll.out (.inr ⟨c, by rw [← HM1.out]; exact HC.out, by simpa using hb⟩))
        clear hb
        go_wp2_with fail
        go_loopw [6, 7] (fun nv iv wr => ∃ (k : Nat) (n : Int), k ≤ m ∧ nv = .int .i64 n ∧ iv = .int .i64 ((k : Nat) : Int) ∧ Below w.heap.size w wr ∧ n = sumW R (LL.take k)) (fun _ iv _ => m - (intOf iv).toNat)
        case atStart => exact ⟨0, 0, Nat.zero_le _, rfl, rfl, .refl _ _, rfl⟩
        case round =>
          obtain ⟨k, n, hk, rfl, rfl, hB, hn⟩ := hrel
          have HB := Lib.hid hB
          by_cases hlt : k < m
          · obtain ⟨c2, hc2⟩ : ∃ c, LL[k]? = some c := ⟨_, List.getElem?_eq_getElem (by omega)⟩
            have hok := HOk.out c2 (List.mem_of_getElem? hc2)
            have hT : LL.take (k + 1) = LL.take k ++ [c2] := by rw [List.take_add_one, hc2]; rfl
            have HS := Lib.hid (show sumW R (LL.take (k + 1)) = n + wC R c2 by rw [hT, sumW_app, sumW_one, hn])
            have hb1 := HBd.out (k + 1)
            rw [HS.out] at hb1
            have hb0 := sumW_nonneg (R := R) (LL.take k)
            rw [← hn] at hb0
            obtain ⟨_, _, _, cu2, hv, _, _, _, _, d02, hcu2⟩ := texts_cell (HX.out.below hB) hc2
            cases hv
            obtain ⟨ca2, ccap2, rfl, _, _, _⟩ := runes_cells hcu2
            have HGof := Lib.hid (rgof_any (HR.out.below hB) hcu2 hok.1 (by omega))
            have HGo := Lib.hid (show ∀ g ∈ glOf R c2, g.2 = 1 ∨ g.2 = 2 from fun g hg => (lineG_ok R (LL := [c2]) g (by simpa [lineG] using hg)).1)
            have hgl := glOf_le R c2
            have hwc : wC R c2 = wdG (glOf R c2) := rfl
            rw [hwc] at hb1 HS
            generalize glOf R c2 = G at HGof HGo hgl HS hb1
            have HMono := Lib.hid (show ∀ q, wdG (G.take q) ≤ wdG G from fun q => by
              have h1 : wdG G = wdG (G.take q) + wdG (G.drop q) := by rw [← wdG_app, List.take_append_drop]
              have h2 := wdG_rng (L := G.drop q) (fun g hg => HGo.out g (List.mem_of_mem_drop hg))
              omega)
            have s5 : (k : Int) < (m : Int) := by omega
            have s6 : (0 : Int) ≤ (k : Int) := by omega
            have s7 : (k : Int) < (LL.length : Int) := by omega
            have e5 := IntWalk.i64_in ((k : Int) + 1) (by omega)
            have hcl2 := hok.2
            clear hB hn hc2 hok hT hcu2 hwc
            go_wp2_with fail
            refine HGof.out.mono ?_
            rintro e w2 ⟨gu, rfl, hB2, hG2⟩
            have HG2 := Lib.hid hG2
            obtain ⟨ga, gc, rfl, hg1, hg2⟩ := gly_shape hG2
            unfold maxLen at hg2
            have HB2 := Lib.hid (below_trans' HB.out hB2)
            clear hB2 hG2 HGof HB
            go_wp2_with fail
            go_loopw [6, 9] (fun nv qv wr2 => ∃ (q : Nat) (n2 : Int), q ≤ G.length ∧ nv = .int .i64 n2 ∧ qv = .int .i64 ((q : Nat) : Int) ∧ Below w2.heap.size w2 wr2 ∧ n2 = n + wdG (G.take q)) (fun _ qv _ => G.length - (intOf qv).toNat)
            case atStart => exact ⟨0, n, Nat.zero_le _, rfl, rfl, .refl _ _, by simp [wdG]⟩
            case round =>
              obtain ⟨q, n2, hq, rfl, rfl, hBq, hn2⟩ := hrel
              have HBq := Lib.hid hBq
              have hwr := wdG_rng (L := G.take q) (fun g hg => HGo.out g (List.mem_of_mem_take hg))
              by_cases hlq : q < G.length
              · obtain ⟨y, hy⟩ : ∃ y, G[q]? = some y := ⟨G[q], List.getElem?_eq_getElem hlq⟩
                have hyo := HGo.out y (List.mem_of_getElem? hy)
                have hN : wdG (G.take (q + 1)) = wdG (G.take q) + y.2 := by rw [take_snoc hy, wdG_app, wdG_one]
                have hmn := HMono.out (q + 1)
                have HN := Lib.hid (show n2 + y.2 = n + wdG (G.take (q + 1)) by rw [hN, hn2]; omega)
                obtain ⟨y1, y2⟩ := y
                have hy2 : y2 = 1 ∨ y2 = 2 := hyo
                have hN : wdG (G.take (q + 1)) = wdG (G.take q) + y2 := hN
                obtain ⟨gb, goff, _, hv, _, _, _, g0, g1⟩ := gly_cells (HG2.out.below hBq) hy
                cases hv
                have e6 := IntWalk.i64_in (n2 + y2) (by omega)
                have e7 := IntWalk.i64_in ((q : Int) + 1) (by omega)
                have s8 : (q : Int) < (G.length : Int) := by omega
                have s9 : (0 : Int) ≤ (q : Int) := by omega
                clear hBq hn2 hy hyo hN hwr hmn hlq
                go_wp2_with fail
                go_roundw
                case rel => exact ⟨q + 1, n2 + y2, by omega, rfl, by go_num, HBq.out, HN.out⟩
                case measure => simp [intOf] <;> omega
              · have hqe : q = G.length := by omega
                subst hqe
                rw [List.take_length] at hn2
                have HN := Lib.hid (show n2 = sumW R (LL.take (k + 1)) by rw [HS.out]; exact hn2)
                have s8 : decide ((G.length : Int) < (G.length : Int)) = false := by simp
                clear hBq hn2 hwr hlq
                go_wp2_with fail
                go_roundw
                case rel => exact ⟨k + 1, n2, by omega, rfl, by go_num, below_trans' HB2.out HBq.out, HN.out⟩
                case measure => simp [intOf] <;> omega
          · have hke : k = m := by omega
            have HN := Lib.hid (show n = shW R LL by rw [hn, hke, HSh.out])
            have s5 : ¬ k < m := hlt
            clear hB hn hlt hke hk
            go_wp2_with fail
            go_ret
            exact ⟨by rw [← HN.out]; rfl, HB.out⟩
    · have HSh := Lib.hid (show shW R LL = sumW R (LL.take m) from shW_trim LL HAll.out (.inl (by omega)))
      have s0 : decide ((m : Int) > 0) = false := decide_eq_false (by omega)
      have s0n : ¬ 0 < m := h0
      clear hall h0
      go_wp2_with fail
      go_loopw [6, 7] (fun nv iv wr => ∃ (k : Nat) (n : Int), k ≤ m ∧ nv = .int .i64 n ∧ iv = .int .i64 ((k : Nat) : Int) ∧ Below w.heap.size w wr ∧ n = sumW R (LL.take k)) (fun _ iv _ => m - (intOf iv).toNat)
      case atStart => exact ⟨0, 0, Nat.zero_le _, rfl, rfl, .refl _ _, rfl⟩
      case round =>
        obtain ⟨k, n, hk, rfl, rfl, hB, hn⟩ := hrel
        have HB := Lib.hid hB
        by_cases hlt : k < m
        · exact absurd hlt (by omega)
        · have hke : k = m := by omega
          have HN := Lib.hid (show n = shW R LL by rw [hn, hke, HSh.out])
          have s5 : ¬ k < m := hlt
          clear hB hn hlt hke hk
          go_wp2_with fail
          go_ret
          exact ⟨by rw [← HN.out]; rfl, HB.out⟩
end Go.Proofs.YtkeainhjghdfcaaGreat

/- The document's rows: end, Of. -/
namespace Go.Proofs.YtkeainhjghdfcaaGreat
open Go.RowKit

theorem brkN_in {LL : List (List Int)} {n : Nat} {a b : List Int} (hn : n < LL.length) (ha : LL[n - 1]? = some a) (hb : LL[n]? = some b) : brkN LL n = (blkC a && !blkC b) := by
  unfold brkN
  have : decide (n = LL.length) = false := decide_eq_false (by omega)
  rw [this, ha, hb]
  rfl
set_option maxRecDepth 100000 in
set_option maxHeartbeats 8000000 in
theorem fend_any {R : List Rw} {LL : List (List Int)} {w : World} {v rv : Value} (cols : Int) (hR : RowsIn w rv R) (h : TextsIn w v LL) (hok : ∀ c ∈ LL, RunesOk c ∧ c.length ≤ 100000) (hB : ∀ k, sumW R (LL.take k) ≤ 1000000000) (hl : LL.length ≤ 1000000) (h0 : 0 < LL.length) :
    Calls Tryz.prog 146 #[rv, v, .int .i64 cols] w fun e w' => e = .returned (.int .i64 ((endN R LL cols : Nat) : Int)) ∧ Below w.heap.size w w' := by
  have HX := Lib.hid h
  have HR := Lib.hid hR
  obtain ⟨c0, hc0⟩ : ∃ c, LL[0]? = some c := ⟨_, List.getElem?_eq_getElem h0⟩
  obtain ⟨sb, soff, sc, _, rfl, hmax, hcap, _, hsb, _, _⟩ := texts_cell h hc0
  unfold maxLen at hmax
  have HWd := Lib.hid (fun (W : World) (n : Nat) (hn : n ≤ LL.length) (h1 : RowsIn W rv R) (h2 : TextsIn W (.slice (some ⟨sb, soff, none⟩) LL.length sc) LL) => fwidth_any (LL := LL.take n) (v := .slice (some ⟨sb, soff, none⟩) n sc) h1 (by have := texts_sub h2 (i := 0) (j := n) (Nat.zero_le _) hn; simpa using this) (fun c hc => hok c (List.mem_of_mem_take hc)) (fun k => by rw [List.take_take]; exact hB _) (by rw [List.length_take]; omega))
  have HE := Lib.hid (show endN R LL cols = (match lastN (fun n => brkN LL n && fitN R LL cols n) LL.length with | some n => n | none => match lastN (fitN R LL cols) LL.length with | some n => n | none => 1) from rfl)
  generalize endN R LL cols = E at HE ⊢
  clear h hR hok hB hc0
  go_enter Tryz.func146, Tryz.ntmps146
  go_wp2_with fail
  go_loopw [7] (fun nv wr => ∃ n : Nat, n ≤ LL.length ∧ nv = .int .i64 ((n : Nat) : Int) ∧ Below w.heap.size w wr ∧ ∀ j, n < j → j ≤ LL.length → (brkN LL j && fitN R LL cols j) = false) (fun nv _ => (intOf nv).toNat)
  case atStart => exact ⟨LL.length, Nat.le_refl _, rfl, .refl _ _, fun j a b => by omega⟩
  case round =>
    obtain ⟨n, hn, rfl, hB, hno⟩ := hrel
    have HB := Lib.hid hB
    have HNo := Lib.hid hno
    by_cases hp : 0 < n
    · obtain ⟨n1, hn1⟩ : ∃ n1, n1 = n - 1 := ⟨_, rfl⟩
      have HN1 := Lib.hid (show n1 + 1 = n by omega)
      have s0 : (n : Int) > 0 := by omega
      have s0n : 0 < n := hp
      have e0 := IntWalk.i64_in ((n : Int) - 1) (by omega)
      have s1 : (n : Int) - 1 = (n1 : Int) := by omega
      have s2 : (0 : Int) ≤ (n1 : Int) := by omega
      have s3 : (n1 : Int) < (LL.length : Int) := by omega
      have s4 : (0 : Int) ≤ (n : Int) := by omega
      have s5 : (n : Int) ≤ (sc : Int) := by omega
      have hn1l : n1 < LL.length := by omega
      have hcs := hn1
      clear hp hn1
      by_cases hlast : n = LL.length
      · have g1 : ((n : Int) == (LL.length : Int)) = true := by simp; omega
        have HBk := Lib.hid (show brkN LL n = true by rw [hlast]; exact brkN_len LL)
        have HBx := HB
        have HRx := Lib.hid (HR.out.below hB)
        have HXx := Lib.hid (HX.out.below hB)
        clear hlast hB hcs
        go_wp2_with fail
        refine (HWd.out _ n hn HRx.out HXx.out).mono ?_
        rintro e w5 ⟨rfl, hB5⟩
        have HB5 := Lib.hid (below_trans' HBx.out hB5)
        have HFt := Lib.hid (show fitN R LL cols n = decide (shW R (LL.take n) ≤ cols) from rfl)
        generalize shW R (LL.take n) = sw at HFt ⊢
        clear hB5
        by_cases hsw : sw ≤ cols
        · have HV := Lib.hid (show n = E by
            have h1 := lastN_is (p := fun n => brkN LL n && fitN R LL cols n) (n := LL.length) (e := n) (by omega) hn (by show (brkN LL n && fitN R LL cols n) = true; rw [HBk.out, HFt.out, decide_eq_true hsw]; rfl) HNo.out
            have h2 := HE.out
            rw [h1] at h2
            exact h2.symm)
          clear hno
          go_wp2_with fail
          go_ret
          exact ⟨by rw [← HV.out]; rfl, HB5.out⟩
        · have g9 : decide (sw ≤ cols) = false := decide_eq_false hsw
          have HNn := Lib.hid (show ∀ j, n1 < j → j ≤ LL.length → (brkN LL j && fitN R LL cols j) = false from fun j a b => by
            rcases Nat.lt_or_ge n j with h | h
            · exact HNo.out j h b
            · have : j = n := by have := HN1.out; omega
              rw [this, HFt.out, g9, Bool.and_false])
          clear hsw hno
          go_wp2_with fail
          go_roundw
          case rel => exact ⟨n1, by have := HN1.out; omega, by go_num, HB5.out, HNn.out⟩
          case measure => have := HN1.out; simp [intOf] <;> omega
      · have g1 : ((n : Int) == (LL.length : Int)) = false := by rw [beq_eq_false_iff_ne]; omega
        have s6 : (n : Int) < (LL.length : Int) := by omega
        obtain ⟨ca, hca⟩ : ∃ c, LL[n1]? = some c := ⟨_, List.getElem?_eq_getElem hn1l⟩
        obtain ⟨cb, hcb⟩ : ∃ c, LL[n]? = some c := ⟨_, List.getElem?_eq_getElem (by omega)⟩
        have HBb := Lib.hid (brkN_in (n := n) (by omega) (by rw [← hcs]; exact hca) hcb)
        obtain ⟨_, _, _, ua, hv, _, _, _, _, da, hua⟩ := texts_cell (HX.out.below hB) hca
        cases hv
        obtain ⟨_, _, _, ub, hv, _, _, _, _, db, hub⟩ := texts_cell (HX.out.below hB) hcb
        cases hv
        obtain ⟨aa, acap, rfl, _, _, _⟩ := runes_cells hua
        obtain ⟨ba, bcap, rfl, _, _, _⟩ := runes_cells hub
        have HBa := Lib.hid (fblank_any hua)
        have HBbl := Lib.hid (fblank_any hub)
        have HBx := HB
        have HRx := Lib.hid (HR.out.below hB)
        have HXx := Lib.hid (HX.out.below hB)
        generalize blkC ca = xa at HBa HBb
        generalize blkC cb = xb at HBbl HBb
        clear hlast hB hca hcb hua hub hcs
        go_wp2_with fail
        refine HBa.out.mono ?_
        rintro e w' ⟨rfl, rfl⟩
        cases xa
        · have HBk := Lib.hid (show brkN LL n = false by rw [HBb.out]; rfl)
          have HNn := Lib.hid (show ∀ j, n1 < j → j ≤ LL.length → (brkN LL j && fitN R LL cols j) = false from fun j a b => by
            rcases Nat.lt_or_ge n j with h | h
            · exact HNo.out j h b
            · have : j = n := by have := HN1.out; omega
              rw [this, HBk.out, Bool.false_and])
          clear hno
          go_wp2_with fail
          go_roundw
          case rel => exact ⟨n1, by have := HN1.out; omega, by go_num, HBx.out, HNn.out⟩
          case measure => have := HN1.out; simp [intOf] <;> omega
        · go_wp2_with fail
          refine HBbl.out.mono ?_
          rintro e w' ⟨rfl, rfl⟩
          cases xb
          · have HBk := Lib.hid (show brkN LL n = true by rw [HBb.out]; rfl)
            go_wp2_with fail
            refine (HWd.out _ n hn HRx.out HXx.out).mono ?_
            rintro e w5 ⟨rfl, hB5⟩
            have HB5 := Lib.hid (below_trans' HBx.out hB5)
            have HFt := Lib.hid (show fitN R LL cols n = decide (shW R (LL.take n) ≤ cols) from rfl)
            generalize shW R (LL.take n) = sw at HFt ⊢
            clear hB5
            by_cases hsw : sw ≤ cols
            · have HV := Lib.hid (show n = E by
                have h1 := lastN_is (p := fun n => brkN LL n && fitN R LL cols n) (n := LL.length) (e := n) (by omega) hn (by show (brkN LL n && fitN R LL cols n) = true; rw [HBk.out, HFt.out, decide_eq_true hsw]; rfl) HNo.out
                have h2 := HE.out
                rw [h1] at h2
                exact h2.symm)
              clear hno
              go_wp2_with fail
              go_ret
              exact ⟨by rw [← HV.out]; rfl, HB5.out⟩
            · have g9 : decide (sw ≤ cols) = false := decide_eq_false hsw
              have HNn := Lib.hid (show ∀ j, n1 < j → j ≤ LL.length → (brkN LL j && fitN R LL cols j) = false from fun j a b => by
                rcases Nat.lt_or_ge n j with h | h
                · exact HNo.out j h b
                · have : j = n := by have := HN1.out; omega
                  rw [this, HFt.out, g9, Bool.and_false])
              clear hsw hno
              go_wp2_with fail
              go_roundw
              case rel => exact ⟨n1, by have := HN1.out; omega, by go_num, HB5.out, HNn.out⟩
              case measure => have := HN1.out; simp [intOf] <;> omega
          · have HBk := Lib.hid (show brkN LL n = false by rw [HBb.out]; rfl)
            have HNn := Lib.hid (show ∀ j, n1 < j → j ≤ LL.length → (brkN LL j && fitN R LL cols j) = false from fun j a b => by
              rcases Nat.lt_or_ge n j with h | h
              · exact HNo.out j h b
              · have : j = n := by have := HN1.out; omega
                rw [this, HBk.out, Bool.false_and])
            clear hno
            go_wp2_with fail
            go_roundw
            case rel => exact ⟨n1, by have := HN1.out; omega, by go_num, HBx.out, HNn.out⟩
            case measure => have := HN1.out; simp [intOf] <;> omega
    · have s0 : decide ((n : Int) > 0) = false := decide_eq_false (by omega)
      have s0n : ¬ 0 < n := hp
      have HE2 := Lib.hid (show E = (match lastN (fitN R LL cols) LL.length with | some n => n | none => 1) by
        have h1 := lastN_no (p := fun n => brkN LL n && fitN R LL cols n) (n := LL.length) (fun j a b => hno j (by omega) b)
        have h2 := HE.out
        rw [h1] at h2
        exact h2)
      clear hno hp hn
      go_wp2_with fail
      go_loopw [8] (fun nv wr => ∃ n : Nat, n ≤ LL.length ∧ nv = .int .i64 ((n : Nat) : Int) ∧ Below w.heap.size w wr ∧ ∀ j, n < j → j ≤ LL.length → fitN R LL cols j = false) (fun nv _ => (intOf nv).toNat)
      case atStart => exact ⟨LL.length, Nat.le_refl _, rfl, HB.out, fun j a b => by omega⟩
      case round =>
        obtain ⟨n, hn, rfl, hB, hno⟩ := hrel
        have HB := Lib.hid hB
        have HNo := Lib.hid hno
        by_cases hp : 0 < n
        · obtain ⟨n1, hn1⟩ : ∃ n1, n1 = n - 1 := ⟨_, rfl⟩
          have HN1 := Lib.hid (show n1 + 1 = n by omega)
          have s0 : (n : Int) > 0 := by omega
          have s0n : 0 < n := hp
          have e0 := IntWalk.i64_in ((n : Int) - 1) (by omega)
          have s1 : (n : Int) - 1 = (n1 : Int) := by omega
          have s4 : (0 : Int) ≤ (n : Int) := by omega
          have s5 : (n : Int) ≤ (sc : Int) := by omega
          have HRx := Lib.hid (HR.out.below hB)
          have HXx := Lib.hid (HX.out.below hB)
          clear hp hn1 hB hno
          go_wp2_with fail
          refine (HWd.out _ n hn HRx.out HXx.out).mono ?_
          rintro e w5 ⟨rfl, hB5⟩
          have HB5 := Lib.hid (below_trans' HB.out hB5)
          have HFt := Lib.hid (show fitN R LL cols n = decide (shW R (LL.take n) ≤ cols) from rfl)
          generalize shW R (LL.take n) = sw at HFt ⊢
          clear hB5
          by_cases hsw : sw ≤ cols
          · have HV := Lib.hid (show n = E by
              have h1 := lastN_is (p := fitN R LL cols) (n := LL.length) (e := n) (by have := HN1.out; omega) hn (by rw [HFt.out, decide_eq_true hsw]) HNo.out
              have h2 := HE2.out
              rw [h1] at h2
              exact h2.symm)
            go_wp2_with fail
            go_ret
            exact ⟨by rw [← HV.out]; rfl, HB5.out⟩
          · have g9 : decide (sw ≤ cols) = false := decide_eq_false hsw
            have HNn := Lib.hid (show ∀ j, n1 < j → j ≤ LL.length → fitN R LL cols j = false from fun j a b => by
              rcases Nat.lt_or_ge n j with h | h
              · exact HNo.out j h b
              · have : j = n := by have := HN1.out; omega
                rw [this, HFt.out, g9])
            clear hsw
            go_wp2_with fail
            go_roundw
            case rel => exact ⟨n1, by have := HN1.out; omega, by go_num, HB5.out, HNn.out⟩
            case measure => have := HN1.out; simp [intOf] <;> omega
        · have s0 : decide ((n : Int) > 0) = false := decide_eq_false (by omega)
          have s0n : ¬ 0 < n := hp
          have HV := Lib.hid (show E = 1 by
            have h1 := lastN_no (p := fitN R LL cols) (n := LL.length) (fun j a b => hno j (by omega) b)
            have h2 := HE2.out
            rw [h1] at h2
            exact h2)
          clear hno hp hn hB
          go_wp2_with fail
          go_ret
          exact ⟨by rw [HV.out]; rfl, HB.out⟩
end Go.Proofs.YtkeainhjghdfcaaGreat

/- The document's rows: Of. -/
namespace Go.Proofs.YtkeainhjghdfcaaGreat
open Go.RowKit

theorem EFq : ElemT Tryz.prog 165 167 3 24 := elemT_of (by kernel_rfl) (z := .agg #[.int .i64 0, .int .i64 0, .int .i64 0]) (by kernel_rfl) rfl (by decide) (by decide)
theorem texts_from {w : World} {b off cap n : Nat} {D : List (List Int)} (h : TextsIn w (.slice (some ⟨b, off, none⟩) D.length cap) D) (hn : n ≤ D.length) (hc : D.length ≤ cap) (_ : cap ≤ maxLen) : TextsIn w (.slice (if cap = n then some ⟨b, off, none⟩ else some ⟨b, off + n, none⟩) (D.length - n) (cap - n)) (D.drop n) := by
  by_cases he : cap = n
  · rw [if_pos he, List.drop_eq_nil_of_le (by omega), show D.length - n = 0 by omega]
    exact texts_nil w _ _ (by omega)
  · rw [if_neg he]
    have := texts_sub h (i := n) (j := D.length) hn (Nat.le_refl _)
    rw [List.take_length] at this
    exact this
section
variable {R : List Rw} {s : List Int} {w : World} {sv rv : Value}
set_option maxRecDepth 100000 in
set_option maxHeartbeats 8000000 in
theorem frof_any (H : (tabOf R).Ok) (cols : Int) (hR : RowsIn w rv R) (hs : RunesIn w sv s) (ok : RunesOk s) (hl : s.length ≤ 100000) :
    Calls Tryz.prog 97 #[rv, sv, .int .i64 cols] w fun e w' => ∃ u, e = .returned u ∧ Below w.heap.size w w' ∧ Rw3In w' u (rowsFl R cols (clus (tabOf R) s) 0) := by
  have HR := Lib.hid hR
  have HCl := Lib.hid (rclusters_any H hR hs ok (by omega))
  have hLl : (clus (tabOf R) s).length ≤ s.length := clusN_len (tabOf R) s.length s
  have hSz : szL (clus (tabOf R) s) = s.length := by rw [szL_flat, clus_flat (tabOf R) s.length s (Nat.le_refl _)]
  have HOkc := Lib.hid (show ∀ c ∈ clus (tabOf R) s, RunesOk c ∧ c.length ≤ 100000 from fun c hc => ⟨fun x hx => ok x (clus_mem (tabOf R) s.length s (Nat.le_refl _) c hc x hx), Nat.le_trans (clus_ne (tabOf R) s.length s (Nat.le_refl _) c hc).2 hl⟩)
  have HTk := Lib.hid (szL_take_le (clus (tabOf R) s))
  have HBd := Lib.hid (show ∀ i k, sumW R (((clus (tabOf R) s).drop i).take k) ≤ 1000000000 by
    intro i k
    have h1 := wdG_rng (L := lineG R (((clus (tabOf R) s).drop i).take k)) (fun g hg => (lineG_ok R g hg).1)
    have h2 := lineG_le R (((clus (tabOf R) s).drop i).take k)
    have h3 : (((clus (tabOf R) s).drop i).take k).flatten.length ≤ s.length := by
      rw [← szL_flat]
      have h5 := szL_add (clus (tabOf R) s) i k
      have h4 := szL_take_le (clus (tabOf R) s) (i + k)
      omega
    show wdG _ ≤ _
    omega)
  generalize clus (tabOf R) s = LL at HCl hLl hSz HTk HBd HOkc ⊢
  obtain ⟨sl, cap, rfl, hcap, hmax, _⟩ := runes_cells hs
  clear hR hs ok H
  go_enter Tryz.func97, Tryz.ntmps97
  go_wp2_with fail
  refine HCl.out.mono ?_
  rintro e w1 ⟨cu, rfl, hB1, hX1⟩
  have HB1 := Lib.hid hB1
  have HX := Lib.hid hX1
  have HR1 := Lib.hid (HR.out.below hB1)
  clear hB1 hX1 HCl
  go_wp2_with fail
  go_loopw [7, 8, 9] (fun cv ov av wr => ∃ (k A : Nat) (L : List Rw3), k ≤ LL.length ∧ TextsIn w1 cv (LL.drop k) ∧ av = .int .i64 (A : Int) ∧ A = szL (LL.take k) ∧ Below w1.heap.size w1 wr ∧ wr.ownsRow w1.heap.size 167 3 ov L.length (L.flatMap r3E) ∧ L.length ≤ k ∧ L ++ rowsFl R cols (LL.drop k) (szL (LL.take k)) = rowsFl R cols LL 0) (fun cv _ _ _ => match cv with | .slice _ n _ => n | _ => 0)
  case atStart => exact ⟨0, 0, [], Nat.zero_le _, HX.out, rfl, rfl, .refl _ _, World.ownsRow_nil _ _ _ _, Nat.le_refl _, rfl⟩
  case round =>
    obtain ⟨k, A, L, hk, hD, rfl, hA, hB, hO, hL, hR⟩ := hrel
    have HB := Lib.hid hB
    have HO := Lib.hid hO
    have HRr := Lib.hid hR
    have HA := Lib.hid hA
    have HLk := Lib.hid hL
    have HDx := Lib.hid hD
    obtain ⟨pa, pc, rfl⟩ := slice_of_owns hO
    obtain ⟨D, hDe⟩ : ∃ D, D = LL.drop k := ⟨_, rfl⟩
    have hDl : D.length = LL.length - k := by rw [hDe, List.length_drop]
    rw [← hDe] at hD HDx
    obtain ⟨da, dc, rfl, hdc, hdm⟩ := texts_shape hD
    unfold maxLen at hdm
    have HDe := Lib.hid hDe
    by_cases hlt : k < LL.length
    · have hD0 : 0 < D.length := by omega
      obtain ⟨c0, hc0⟩ : ∃ c, D[0]? = some c := ⟨_, List.getElem?_eq_getElem hD0⟩
      obtain ⟨db, doff, _, _, hv, _, _, _, hdb, _, _⟩ := texts_cell hD hc0
      cases hv
      have hOkD : ∀ c ∈ D, RunesOk c ∧ c.length ≤ 100000 := fun c hc => HOkc.out c (by rw [hDe] at hc; exact List.mem_of_mem_drop hc)
      have hBdD : ∀ j, sumW R (D.take j) ≤ 1000000000 := fun j => by rw [hDe]; exact HBd.out k j
      have HEnd := Lib.hid (fend_any cols (HR1.out.below hB) (HDx.out.below hB) hOkD hBdD (by omega) hD0)
      have hrg := endN_rng (R := R) (cols := cols) (LL := D) (by intro e; rw [e] at hD0; simp at hD0)
      have hst := rowsFl_step R cols (LL := D) (by intro e; rw [e] at hD0; simp at hD0) A
      generalize endN R D cols = n at HEnd hrg hst
      have hszn : szL (LL.take (k + n)) = A + szL (D.take n) := by rw [szL_add, ← hDe, hA]
      have hszl := HTk.out (k + n)
      have HSt := Lib.hid hst
      have HSize := Lib.hid (fun (W : World) (h : TextsIn W (.slice (some ⟨db, doff, none⟩) D.length dc) D) => fsize_any (LL := D.take n) (v := .slice (some ⟨db, doff, none⟩) n dc) (w := W) (by have := texts_sub h (i := 0) (j := n) (Nat.zero_le _) hrg.2; simpa using this) (by omega) (by rw [List.length_take]; omega))
      have HWid := Lib.hid (fun (W : World) (h1 : RowsIn W rv R) (h : TextsIn W (.slice (some ⟨db, doff, none⟩) D.length dc) D) => fwidth_any (LL := D.take n) (v := .slice (some ⟨db, doff, none⟩) n dc) (w := W) h1 (by have := texts_sub h (i := 0) (j := n) (Nat.zero_le _) hrg.2; simpa using this) (fun c hc => hOkD c (List.mem_of_mem_take hc)) (fun j => by rw [List.take_take]; exact hBdD _) (by rw [List.length_take]; omega))
      have HZ := Lib.hid (show ∃ z, z = szL (D.take n) from ⟨_, rfl⟩)
      obtain ⟨z, hz⟩ := HZ.out
      clear HZ
      have HZ := Lib.hid hz
      rw [← hz] at hszn HSt
      obtain ⟨kn, hkn⟩ : ∃ kn, kn = k + n := ⟨_, rfl⟩
      have HKn := Lib.hid hkn
      rw [← hkn] at hszn hszl
      have HSzn := Lib.hid hszn
      obtain ⟨sw, hsw⟩ : ∃ sw, sw = shW R (D.take n) := ⟨_, rfl⟩
      rw [← hsw] at HWid HSt
      obtain ⟨ad, had⟩ : ∃ ad : Option Addr, ad = (if dc = n then some ⟨db, doff, none⟩ else some ⟨db, doff + n, none⟩) := ⟨_, rfl⟩
      have HNext := Lib.hid (show TextsIn w1 (.slice ad (D.length - n) (dc - n)) (LL.drop kn) by
        rw [had, hkn, ← List.drop_drop, ← hDe]
        exact texts_from HDx.out hrg.2 hdc (by unfold maxLen; omega))
      have had2 := had.symm
      have s0 : (D.length : Int) > 0 := by omega
      have s0n : 0 < D.length := hD0
      have s1 : (0 : Int) ≤ (n : Int) := by omega
      have s2 : (n : Int) ≤ (dc : Int) := by omega
      have s3 : (n : Int) ≤ (D.length : Int) := by omega
      have e1 := IntWalk.i64_in ((A : Int) + (z : Int)) (by omega)
      have hbig : (L.length + 1) * 24 ≤ 140737488355328 := by omega
      have HDl := Lib.hid hDl
      have HRg := Lib.hid hrg
      have hLt : kn ≤ LL.length ∧ k < kn := by omega
      have hnl := Lib.hid (show n ≤ D.length from hrg.2)
      clear hB hO hR hA hL hD hDe hDl hc0 hOkD hBdD hst hszn hszl hz hkn hsw had hD0 hlt hrg
      go_wp2_with fail
      refine HEnd.out.mono ?_
      rintro e w2 ⟨rfl, hB2⟩
      have HB2 := Lib.hid (HB.out.trans (hB2.mono HB.out.size))
      have HO2 := Lib.hid (owns_stays HO.out hB2)
      have HBd2 := Lib.hid (show Below w1.heap.size w1 w2.drew from below_dN HB2.out 1)
      clear hB2 HB HO HEnd
      go_upto_region 6 with fail
      refine wp_region_held_drew (S := fun _ => True) (by kernel_rfl) trivial (fun hHeld => ?_)
      refine hd_take 0 rfl (by kernel_rfl) (by kernel_rfl) (by kernel_rfl) (fun _ _ _ h => h) (by rfl) (by intro w hSw; go_simp; first | done | with_reducible rfl) hHeld ?_
      try simp only [Act.put, List.setIfInBounds_toArray, List.set_cons_zero, List.set_cons_succ]
      refine hd_take 1 rfl (by kernel_rfl) (by kernel_rfl) (by kernel_rfl) (fun _ _ _ h => h) (by rfl) (by intro w hSw; go_simp; first | done | with_reducible rfl) hHeld ?_
      try simp only [Act.put, List.setIfInBounds_toArray, List.set_cons_zero, List.set_cons_succ]
      refine hd_take 2 rfl (by kernel_rfl) (by kernel_rfl) (by kernel_rfl) (fun _ _ _ h => h) (by rfl) (by intro w hSw; go_simp; first | done | with_reducible rfl) hHeld ?_
      try simp only [Act.put, List.setIfInBounds_toArray, List.set_cons_zero, List.set_cons_succ]
      refine hd_take 3 rfl (by kernel_rfl) (by kernel_rfl) (by kernel_rfl) (fun _ _ _ h => h) (by rfl) (by intro w hSw; go_simp; first | done | with_reducible rfl) hHeld ?_
      try simp only [Act.put, List.setIfInBounds_toArray, List.set_cons_zero, List.set_cons_succ]
      refine hd_take 4 rfl (by kernel_rfl) (by kernel_rfl) (by kernel_rfl) (fun _ _ _ h => h) (by rfl) (by intro w hSw; go_simp; first | done | with_reducible rfl) hHeld ?_
      try simp only [Act.put, List.setIfInBounds_toArray, List.set_cons_zero, List.set_cons_succ]
      refine hd_take 5 rfl (by kernel_rfl) (by kernel_rfl) (by kernel_rfl) (fun _ _ _ h => h) (by rfl) (by intro w hSw; go_simp; first | done | with_reducible rfl) hHeld ?_
      try simp only [Act.put, List.setIfInBounds_toArray, List.set_cons_zero, List.set_cons_succ]
      refine hd_take 8 rfl (by kernel_rfl) (by kernel_rfl) (by kernel_rfl) (fun _ _ _ h => h) (by rfl) (by intro w hSw; go_simp; first | done | with_reducible rfl) hHeld ?_
      try simp only [Act.put, List.setIfInBounds_toArray, List.set_cons_zero, List.set_cons_succ]
      refine hd_take 9 rfl (by kernel_rfl) (by kernel_rfl) (by kernel_rfl) (fun _ _ _ h => h) (by rfl) (by intro w hSw; go_simp; first | done | with_reducible rfl) hHeld ?_
      try simp only [Act.put, List.setIfInBounds_toArray, List.set_cons_zero, List.set_cons_succ]
      refine hd_take 10 rfl (by kernel_rfl) (by kernel_rfl) (by kernel_rfl) (fun _ _ _ h => h) (by rfl) (by intro w hSw; go_simp; first | done | with_reducible rfl) hHeld ?_
      try simp only [Act.put, List.setIfInBounds_toArray, List.set_cons_zero, List.set_cons_succ]
      refine hd_take 11 rfl (by kernel_rfl) (by kernel_rfl) (by kernel_rfl) (fun _ _ _ h => h) (by rfl) (by intro w hSw; go_simp; first | done | with_reducible rfl) hHeld ?_
      try simp only [Act.put, List.setIfInBounds_toArray, List.set_cons_zero, List.set_cons_succ]
      refine hd_step 6 (by kernel_rfl) rfl (fun K hK => ?_)
      go_simp
      go_at_call 147
      refine (HSize.out _ (show TextsIn w2.drew _ _ from TextsIn.below HDx.out HBd2.out)).mono ?_
      rintro e w' ⟨rfl, rfl⟩
      rw [← HZ.out]
      go_wp2_with fail
      refine hK.out _ _ trivial (fun hHeld => ?_)
      clear hK K
      try simp only [Act.put, List.setIfInBounds_toArray, List.set_cons_zero, List.set_cons_succ]
      refine hd_take 7 rfl (by kernel_rfl) (by kernel_rfl) (by kernel_rfl) (fun _ _ _ h => h) (by rfl) (by intro w hSw; go_simp; first | done | with_reducible rfl) hHeld ?_
      try simp only [Act.put, List.setIfInBounds_toArray, List.set_cons_zero, List.set_cons_succ]
      refine hd_step 12 (by kernel_rfl) rfl (fun K hK => ?_)
      go_simp
      go_at_call 148
      refine (HWid.out _ (show RowsIn w2.drew _ _ from RowsIn.below HR1.out HBd2.out) (show TextsIn w2.drew _ _ from TextsIn.below HDx.out HBd2.out)).mono ?_
      rintro e w3 ⟨rfl, hB3⟩
      have HB3 := Lib.hid (HBd2.out.trans (hB3.mono HBd2.out.size))
      have HO3 := Lib.hid (owns_stays (show w2.drew.ownsRow w1.heap.size 167 3 (.slice pa L.length pc) L.length (L.flatMap r3E) from HO2.out) hB3)
      clear hB3
      go_wp2_with fail
      refine hK.out _ _ trivial (fun hHeld => ?_)
      clear hK K
      try simp only [Act.put, List.setIfInBounds_toArray, List.set_cons_zero, List.set_cons_succ]
      refine hd_take 13 rfl (by kernel_rfl) (by kernel_rfl) (by kernel_rfl) (fun _ _ _ h => h) (by rfl) (by intro w hSw; go_simp; first | done | with_reducible rfl) hHeld ?_
      try simp only [Act.put, List.setIfInBounds_toArray, List.set_cons_zero, List.set_cons_succ]
      refine hd_step 14 (by kernel_rfl) rfl (fun K hK => ?_)
      go_simp
      refine hK.out _ _ trivial (fun hHeld => ?_)
      clear hK K
      try simp only [Act.put, List.setIfInBounds_toArray, List.set_cons_zero, List.set_cons_succ]
      refine hd_step 15 (by kernel_rfl) rfl (fun K hK => ?_)
      rw [if_pos (by rfl)]
      refine oper_app1 w3 (.tmp 21) (.tmp 35) _ rfl EFq _ _ _ rfl HO3.out 1 1 (r3E ((A : Int), (A : Int) + (z : Int), sw)) rfl (by decide) rfl (r3E_one _) hbig HB3.out.size ?_
      intro g cp7 w7 ho7 hg7 hf7
      have HB7 := Lib.hid (below_app HB3.out HB3.out.size HO3.out (Nat.le_refl _) hg7)
      have HO7 := Lib.hid ho7
      clear ho7 hg7 hf7
      refine hK.out _ _ trivial (fun hHeld => ?_)
      clear hK K
      try simp only [Act.put, List.setIfInBounds_toArray, List.set_cons_zero, List.set_cons_succ]
      refine hd_step 16 (by kernel_rfl) rfl (fun K hK => ?_)
      go_simp
      refine hK.out _ _ trivial (fun hHeld => ?_)
      clear hK K
      try simp only [Act.put, List.setIfInBounds_toArray, List.set_cons_zero, List.set_cons_succ]
      refine wpAnyH_done (by kernel_rfl) ?_ _
      clear hHeld HO3 HB3 HBd2 HB2 HO2
      go_wp2_with fail
      refine (HSize.out _ (show TextsIn w7 _ _ from TextsIn.below HDx.out HB7.out)).mono ?_
      rintro e w' ⟨rfl, rfl⟩
      rw [← HZ.out]
      have HRn := Lib.hid (show (L ++ [((A : Int), (A : Int) + (z : Int), sw)]) ++ rowsFl R cols (LL.drop kn) (szL (LL.take kn)) = rowsFl R cols LL 0 by
        have h1 := HRr.out
        rw [← HA.out, ← HDe.out, HSt.out] at h1
        rw [HSzn.out, List.append_assoc, HKn.out, ← List.drop_drop, ← HDe.out]
        simpa using h1)
      have HLn := Lib.hid (show (L ++ [((A : Int), (A : Int) + (z : Int), sw)]).length ≤ kn by rw [List.length_append]; have := HLk.out; simp; omega)
      go_wp2_with fail
      go_roundw
      case rel => exact ⟨kn, A + z, L ++ [((A : Int), (A : Int) + (z : Int), sw)], hLt.1, HNext.out, by go_num, HSzn.out.symm, HB7.out, by rw [List.length_append, flat_snoc]; exact HO7.out, HLn.out, HRn.out⟩
      case measure => have := HRg.out.1; simp <;> omega
    · have hke : k = LL.length := by omega
      have HRe := Lib.hid (show L = rowsFl R cols LL 0 by rw [hke, List.drop_length, rowsFl_nil, List.append_nil] at hR; exact hR)
      have s0 : decide ((D.length : Int) > 0) = false := decide_eq_false (by omega)
      have s0n : ¬ 0 < D.length := by omega
      clear hB hO hR hA hL hD hDe hDl hlt hke
      go_wp2_with fail
      go_ret
      exact ⟨_, rfl, below_trans' HB1.out HB.out, by rw [← HRe.out]; exact rd_of_owns HO.out⟩
end
end Go.Proofs.YtkeainhjghdfcaaGreat

/- Flow: chapter 49's example; FlowFinds' walk. -/
namespace Go.Proofs.YtkeainhjghdfcaaGreat
open Go.RowKit

theorem eqin_row3 (t : TypeId) (ht : Tryz.prog.underlying t = some (.struct (Tryz.prog.fieldsOf t))) (hp : Tryz.prog.stoodInHeld t = false) (f0 f1 f2 : Field) (hf : (Tryz.prog.fieldsOf t).toList = [f0, f1, f2]) (n0 : f0.name ≠ "_") (n1 : f1.name ≠ "_") (n2 : f2.name ≠ "_") (y0 : f0.type = 3) (y1 : f1.type = 3) (y2 : f2.type = 3) (o0 : f0.offset = 0) (o1 : f1.offset = 1) (o2 : f2.offset = 2) (a b c d e f : Int) (w : World) :
    (Op.equalIn 10000 t (.agg #[.int .i64 a, .int .i64 b, .int .i64 c]) (.agg #[.int .i64 d, .int .i64 e, .int .i64 f])).run Tryz.prog w = .ok (decide ((a, b, c) = (d, e, f))) w := by
  rw [run_equalIn_agg _ _ _ _ _ ht hp, hf]
  simp only [Op.eqFields, y0, y1, y2, o0, o1, o2]
  simp [go_sem]
  rw [if_neg n0, if_neg n1, if_neg n2]
  by_cases h0 : a = d
  · subst h0
    by_cases h1 : b = e
    · subst h1
      by_cases h2 : c = f
      · subst h2; simp
      · simp [h2]
    · simp [h1]
  · simp [h0]
set_option maxRecDepth 100000 in
theorem eqin_frow (a b c d e f : Int) (w : World) :
    (Op.equalIn 10000 164 (.agg #[.int .i64 a, .int .i64 b, .int .i64 c]) (.agg #[.int .i64 d, .int .i64 e, .int .i64 f])).run Tryz.prog w = .ok (decide ((a, b, c) = (d, e, f))) w :=
  eqin_row3 164 (by kernel_rfl) (by kernel_rfl) _ _ _ rfl (by decide) (by decide) (by decide) rfl rfl rfl rfl rfl rfl _ _ _ _ _ _ w
def flowTx : List Int := [111, 110, 101, 32, 116, 119, 111, 32, 116, 104, 114, 101, 101]
def flowEx (R : List Rw) : Bool := decide (rowsFl R 8 (clus (tabOf R) flowTx) 0 = [(0, 8, 7), (8, 13, 5)])
set_option maxRecDepth 100000 in
theorem flowExRows_any : ∃ R : List Rw, RFacts R ∧ rowsFl R 8 (clus (tabOf R) flowTx) 0 = [(0, 8, 7), (8, 13, 5)] ∧ ∀ w, Calls Tryz.prog 17 #[] w (LitPost R w) :=
  ⟨((((((((rowsFn Tryz.f51) ++ rowsFn Tryz.f52) ++ rowsFn Tryz.f53) ++ rowsFn Tryz.f54) ++ rowsFn Tryz.f55) ++ rowsFn Tryz.f56) ++ rowsFn Tryz.f57) ++ rowsFn Tryz.f58), rfacts_of (by kernel_rfl) (by kernel_rfl) (by kernel_rfl) (by kernel_rfl) (by kernel_rfl) (by kernel_rfl), of_decide_eq_true (show flowEx _ = true by kernel_rfl), fun w => apiRows_of _ _ _ _ _ _ _ _ (of_decide_eq_true (by kernel_rfl)) (of_decide_eq_true (by kernel_rfl)) (of_decide_eq_true (by kernel_rfl)) (of_decide_eq_true (by kernel_rfl)) (of_decide_eq_true (by kernel_rfl)) (of_decide_eq_true (by kernel_rfl)) (of_decide_eq_true (by kernel_rfl)) (of_decide_eq_true (by kernel_rfl)) classes_any pairs_any outs_any breaks_any picts_any conjs_any wides_any letters_any w⟩
set_option maxRecDepth 100000 in
set_option maxHeartbeats 4000000 in
theorem awake49_any (w : World) : Calls Tryz.prog 46 #[] w fun e w' => e = .returned (.bool true) ∧ Below w.heap.size w w' := by
  obtain ⟨R, HFc, HUc, hrows⟩ := flowExRows_any
  have HF := Lib.hid HFc
  have HRows := Lib.hid hrows
  have HU := Lib.hid HUc
  clear HFc hrows HUc
  go_enter Tryz.func46, Tryz.ntmps46
  go_wp2_with fail
  refine (HRows.out w).mono ?_
  rintro e w1 ⟨v, rfl, hB1, hR1⟩
  have HB1 := Lib.hid hB1
  go_wp2_with fail
  refine (build_tb v R w1 hR1 HF.out.ok).mono ?_
  rintro e w2 ⟨tp, rfl, hB2, hT⟩
  have HT2 := Lib.hid (hT.below (below1 w2 (.cells #[.int .i32 111, .int .i32 110, .int .i32 101, .int .i32 32, .int .i32 116, .int .i32 119, .int .i32 111, .int .i32 32, .int .i32 116, .int .i32 104, .int .i32 114, .int .i32 101, .int .i32 101] 21)))
  have HB2 := Lib.hid (below_new (below_trans' HB1.out hB2) (.cells #[.int .i32 111, .int .i32 110, .int .i32 101, .int .i32 32, .int .i32 116, .int .i32 119, .int .i32 111, .int .i32 32, .int .i32 116, .int .i32 104, .int .i32 114, .int .i32 101, .int .i32 101] 21))
  have HL2 := Lib.hid (show RunesIn (w2.alloc (.cells #[.int .i32 111, .int .i32 110, .int .i32 101, .int .i32 32, .int .i32 116, .int .i32 119, .int .i32 111, .int .i32 32, .int .i32 116, .int .i32 104, .int .i32 114, .int .i32 101, .int .i32 101] 21)) (.slice (some ⟨w2.heap.size, 0, none⟩) 13 13) flowTx from rs_lit runeE_len w2 _ _ _ 13 rfl (by decide) rfl)
  have HOk := Lib.hid (show RunesOk flowTx from fun x hx => by simp [flowTx] at hx; unfold I32; omega)
  clear hB1 hR1 hB2 hT HB1
  go_wp2_with fail
  refine (fof_any 8 HT2.out HL2.out HOk.out (by decide)).mono ?_
  rintro e w3 ⟨u, rfl, hB3, hX⟩
  rw [HU.out] at hX
  obtain ⟨b, off, cap, hv, _, hcap, _, _, a0, a1, a2⟩ := r3_cells hX (k := 0) (x := (0, 8, 7)) rfl
  have hv2 : u = .slice (some ⟨b, off, none⟩) 2 cap := hv
  subst hv2
  obtain ⟨_, _, _, hv, _, _, _, _, c0, c1, c2⟩ := r3_cells hX (k := 1) (x := (8, 13, 5)) rfl
  cases hv
  have a0 : w3.cell? ⟨b, off, none⟩ = some (.int .i64 0) := a0
  have a1 : w3.cell? ⟨b, off + 1, none⟩ = some (.int .i64 8) := a1
  have a2 : w3.cell? ⟨b, off + 2, none⟩ = some (.int .i64 7) := a2
  have c0 : w3.cell? ⟨b, off + 3, none⟩ = some (.int .i64 8) := c0
  have c1 : w3.cell? ⟨b, off + 4, none⟩ = some (.int .i64 13) := c1
  have c2 : w3.cell? ⟨b, off + 5, none⟩ = some (.int .i64 5) := c2
  have HB3 := Lib.hid (below_trans' HB2.out hB3)
  have t1 := eqin_frow 0 8 7 0 8 7 w3
  have t2 := eqin_frow 8 13 5 8 13 5 w3
  simp only [decide_true] at t1 t2
  clear hB3 hX hcap
  go_wp2_with fail
  go_ret
  exact ⟨rfl, HB3.out⟩
theorem fin49 {w w1 : World} (h1 : Below w.heap.size w w1) : Calls Tryz.prog 46 #[] w1 fun e w' => e = .returned (.bool true) ∧ Below w.heap.size w w' := by
  refine (awake49_any w1).mono ?_
  rintro e w' ⟨rfl, hB⟩
  exact ⟨rfl, below_trans' h1 hB⟩
end Go.Proofs.YtkeainhjghdfcaaGreat
