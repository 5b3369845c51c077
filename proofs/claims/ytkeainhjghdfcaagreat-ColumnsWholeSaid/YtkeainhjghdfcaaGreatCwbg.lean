/- Joined texts: GlyJ GlyK GlyL GlyN CatS RepP LayP Rep ColW LineO DecA DecB DecC GlyR GlyS GlyT RowR RowS FacR RdcA RdcB RdcC RdcD. -/
import Derived.Deep.QuietTactic
import Derived.BigQuiet
import Derived.Laws.StructEq
import Derived.Lib.Repeat
import Derived.Shelf.Strings.Repeat
import Derived.Lib.ConvBytes
import Derived.Test.YtkeainhjghdfcaaGreatCwbf
import Derived.Test.YtkeainhjghdfcaaGreatCwbc
import Derived.Test.YtkeainhjghdfcaaGreatCwbd
import Derived.Test.YtkeainhjghdfcaaGreatCwaa
import Derived.Test.YtkeainhjghdfcaaGreatCwab
import Derived.Test.YtkeainhjghdfcaaGreatCwad

/- Are two lists of glyphs the same? Chapter 13's facts. -/
namespace Go.Proofs.YtkeainhjghdfcaaGreat
open Go.RowKit

theorem gly_cells {w : World} {v : Value} {l : List Gy} (h : GlyIn w v l) {k : Nat} {x : Gy} (hx : l[k]? = some x) : ∃ b off cap, v = .slice (some ⟨b, off, none⟩) l.length cap ∧ l.length ≤ cap ∧ cap ≤ maxLen ∧ b < w.heap.size ∧ w.cell? ⟨b, off + k * 2, none⟩ = some (.string x.1) ∧ w.cell? ⟨b, off + k * 2 + 1, none⟩ = some (.int .i64 x.2) := by
  obtain ⟨a, cap, rfl, h1, h2, _, h4⟩ := h
  have hk := (List.getElem?_eq_some_iff.1 hx).1
  obtain ⟨b, off, rfl, hb, hc⟩ := h4 (by omega)
  refine ⟨b, off, cap, rfl, h1, h2, hb, ?_, ?_⟩
  · have := hc (k * 2 + 0) _ (flat_get gyE_len l k x 0 (.string x.1) hx rfl)
    simpa using this
  · exact hc (k * 2 + 1) _ (flat_get gyE_len l k x 1 (.int .i64 x.2) hx rfl)
theorem gly_shape {w : World} {v : Value} {l : List Gy} (h : GlyIn w v l) : ∃ a cap, v = .slice a l.length cap ∧ l.length ≤ cap ∧ cap ≤ maxLen := by
  obtain ⟨a, cap, hv, h1, h2, _⟩ := h
  exact ⟨a, cap, hv, h1, h2⟩
end Go.Proofs.YtkeainhjghdfcaaGreat

/- glyph.Line. -/
namespace Go.Proofs.YtkeainhjghdfcaaGreat
open Go.RowKit

/-- rows of two types lie apart -/
theorem sep_types {w : World} {b1 b2 e1 e2 s1 s2 n1 n2 : Nat} {v u : Value} {xs ys : List Value} (h : w.ownsRow b1 e1 s1 v n1 xs) (k : w.ownsRow b2 e2 s2 u n2 ys) (he : e1 ≠ e2) : Sep v u := by
  rcases h.2 with ⟨rfl, _⟩ | ⟨g, cap, cur, rfl, _, hg, _⟩
  · exact .inl rfl
  · rcases k.2 with ⟨rfl, _⟩ | ⟨g', cap', cur', rfl, _, hg', _⟩
    · exact .inr (by simp [Value.ownBlock])
    · refine .inr fun e => he ?_
      have e' : g = g' := by simpa [Value.ownBlock] using e
      subst e'
      rw [hg] at hg'
      cases hg'
      rfl
theorem owns_kept_types {w w' : World} {b1 b2 e1 e2 s1 s2 n1 n2 : Nat} {v u : Value} {xs ys : List Value} (h : w.ownsRow b1 e1 s1 v n1 xs) (k : w.ownsRow b2 e2 s2 u n2 ys) (he : e1 ≠ e2) (hg : w.grownBy w' v.ownBlock) : w'.ownsRow b2 e2 s2 u n2 ys :=
  k.kept hg (by rcases (sep_types h k he).symm with h | h; exact .inl h; exact .inr h)
def atsL (R : List Rw) (LL : List (List Int)) (k : Nat) : List Nat := (List.range k).map (aheadG R LL)
theorem atsL_succ (R : List Rw) (LL : List (List Int)) (k : Nat) : atsL R LL (k + 1) = atsL R LL k ++ [aheadG R LL k] := by
  unfold atsL; rw [List.range_succ, List.map_append]; rfl
theorem atsL_len (R : List Rw) (LL : List (List Int)) (k : Nat) : (atsL R LL k).length = k := by simp [atsL]
theorem lineG_le (R : List Rw) : ∀ LL : List (List Int), (lineG R LL).length ≤ 2 * LL.flatten.length
  | [] => by simp [lineG]
  | c :: LL => by
    have h1 := lineG_le R LL
    have h2 := glOf_le R c
    have e : lineG R (c :: LL) = glOf R c ++ lineG R LL := rfl
    rw [e, List.length_append, List.flatten_cons, List.length_append]
    omega
theorem clus_flat (T : Tab) : ∀ (n : Nat) (s : List Int), s.length ≤ n → (clus T s).flatten = s
  | 0, s, h => by
    have : s = [] := List.eq_nil_of_length_eq_zero (by omega)
    subst this; rfl
  | n + 1, s, h => by
    by_cases hs : s = []
    · subst hs; rfl
    · have hp := nx_pos T hs
      rw [clus_step T hs, List.flatten_cons, clus_flat T n _ (by rw [List.length_drop]; have := List.length_pos_iff.2 hs; omega), List.take_append_drop]
theorem clus_ne (T : Tab) : ∀ (n : Nat) (s : List Int), s.length ≤ n → ∀ c ∈ clus T s, c ≠ [] ∧ c.length ≤ s.length
  | 0, s, h => by
    have : s = [] := List.eq_nil_of_length_eq_zero (by omega)
    subst this; intro c hc; simp [clus_nil] at hc
  | n + 1, s, h => by
    by_cases hs : s = []
    · subst hs; intro c hc; simp [clus_nil] at hc
    · have hp := nx_pos T hs
      have hl := List.length_pos_iff.2 hs
      rw [clus_step T hs]
      intro c hc
      rcases List.mem_cons.1 hc with rfl | hc
      · refine ⟨fun e => ?_, by rw [List.length_take]; omega⟩
        have h1 : (s.take (nx T s)).length = 0 := by rw [e]; rfl
        rw [List.length_take] at h1
        omega
      · have := clus_ne T n (s.drop (nx T s)) (by rw [List.length_drop]; omega) c hc
        exact ⟨this.1, by have h2 := this.2; rw [List.length_drop] at h2; omega⟩
theorem clus_mem (T : Tab) : ∀ (n : Nat) (s : List Int), s.length ≤ n → ∀ c ∈ clus T s, ∀ x ∈ c, x ∈ s := by
  intro n s h c hc x hx
  rw [← clus_flat T n s h]
  exact List.mem_flatten.2 ⟨c, hc, hx⟩
theorem lineG_take_le (R : List Rw) (s : List Int) (k : Nat) : (lineG R ((clus (tabOf R) s).take k)).length ≤ 2 * s.length := by
  have h := lineG_le R (clus (tabOf R) s)
  rw [clus_flat (tabOf R) s.length s (Nat.le_refl _)] at h
  have : lineG R (clus (tabOf R) s) = lineG R ((clus (tabOf R) s).take k) ++ lineG R ((clus (tabOf R) s).drop k) := by
    unfold lineG; rw [← List.flatMap_append, List.take_append_drop]
  rw [this, List.length_append] at h
  omega
section
variable {R : List Rw} {s : List Int} {w : World} {v sv : Value} {tp : Nat}
set_option maxRecDepth 100000 in
set_option maxHeartbeats 2000000 in
theorem line_any (hT : Tb R w tp) (hs : RunesIn w sv s) (ok : RunesOk s) (hl : s.length ≤ 900000) :
    Calls Tryz.prog 59 #[.pointer (some ⟨tp, 0, none⟩), sv] w fun e w' => ∃ u a, e = .returned (.tuple #[u, a]) ∧ Below w.heap.size w w' ∧ GlyIn w' u (lineG R (clus (tabOf R) s)) ∧ IntsIn w' a (atsL R (clus (tabOf R) s) ((clus (tabOf R) s).length + 1)) := by
  have HT := Lib.hid hT
  have HS := Lib.hid hs
  have HOk := Lib.hid ok
  have HCl := Lib.hid (fun (W : World) (h1 : Tb R W tp) (h2 : RunesIn W sv s) => clusters_any h1 h2 ok (by omega))
  have HNe := Lib.hid (clus_ne (tabOf R) s.length s (Nat.le_refl _))
  have HMem := Lib.hid (clus_mem (tabOf R) s.length s (Nat.le_refl _))
  have HTk := Lib.hid (lineG_take_le R s)
  have hLl : (clus (tabOf R) s).length ≤ s.length := clusN_len (tabOf R) s.length s
  generalize clus (tabOf R) s = LL at HCl HNe HMem HTk hLl ⊢
  obtain ⟨sl, cap, rfl, hcap, hmax, _⟩ := runes_cells hs
  unfold maxLen at hmax
  clear hT hs ok
  go_enter Tryz.func59, Tryz.ntmps59
  go_wp2_with fail
  refine (HCl.out w HT.out HS.out).mono ?_
  rintro e w1 ⟨tu, rfl, hB1, hX1⟩
  have HB1 := Lib.hid hB1
  have HX := Lib.hid hX1
  have HT1 := Lib.hid (HT.out.below hB1)
  obtain ⟨ta, tcap, rfl, ht1, ht2⟩ := texts_shape hX1
  unfold maxLen at ht2
  clear hB1 hX1 HCl HT HS
  go_wp2_with fail
  go_loopw [6, 7, 14] (fun ov av iv wr => ∃ (k : Nat) (G : List Gy) (A : List Nat), k ≤ LL.length ∧ iv = .int .i64 ((k : Nat) : Int) ∧ Below w1.heap.size w1 wr ∧ wr.ownsRow w1.heap.size 97 2 ov G.length (G.flatMap gyE) ∧ wr.ownsRow w1.heap.size 3 1 av A.length (A.flatMap nE) ∧ G = lineG R (LL.take k) ∧ A = atsL R LL k) (fun _ _ iv _ => LL.length - (intOf iv).toNat)
  case atStart => exact ⟨0, [], [], Nat.zero_le _, rfl, .refl _ _, World.ownsRow_nil _ _ _ _, World.ownsRow_nil _ _ _ _, rfl, rfl⟩
  case round =>
    obtain ⟨k, G, A, hk, rfl, hB, hO, hA, hG, hAt⟩ := hrel
    have HB := Lib.hid hB
    have HG := Lib.hid hG
    have HAt := Lib.hid hAt
    have hAl : A.length = k := by rw [hAt, atsL_len]
    have hGl : G.length ≤ 2 * s.length := by rw [hG]; exact HTk.out k
    obtain ⟨pa, pc, rfl⟩ := slice_of_owns hO
    obtain ⟨qa, qc, rfl⟩ := slice_of_owns hA
    have HO := Lib.hid hO
    have HA := Lib.hid hA
    have hbs := HB.out.size
    clear hB hO hA hG hAt
    by_cases hlt : k < LL.length
    · obtain ⟨c, hc⟩ : ∃ c, LL[k]? = some c := ⟨LL[k], List.getElem?_eq_getElem hlt⟩
      have hcm := List.mem_of_getElem? hc
      have HC := Lib.hid hc
      have hcl := (HNe.out c hcm).2
      have HOkc := Lib.hid (show RunesOk c from fun x hx => HOk.out x (HMem.out c hcm x hx))
      obtain ⟨b, off, cp, cu, hv, _, _, _, _, d00, hcu⟩ := texts_cell HX.out hc
      cases hv
      have d0 := cell_later HB.out d00
      have HCu := Lib.hid hcu
      have hbig : (A.length + 1) * 8 ≤ 140737488355328 := by omega
      have hgl2 := glOf_le R c
      have hbig2 : (G.length + (glOf R c).length) * 24 ≤ 140737488355328 := by omega
      obtain ⟨ca, ccap, rfl, _, _, _⟩ := runes_cells hcu
      clear hc hcm hcu d00
      go_wp2_with (at_builtin; go_loud (refine wpList_app1 _ rfl (.tmp 18) (.tmp 21) _ rfl EI _ _ _ rfl HA.out 1 1 (nE G.length) rfl (by decide) rfl (nE_one _) hbig hbs ?_); intro g cp7 w7 ho7 hg7 hf7; have HB7 := Lib.hid (below_app HB.out hbs HA.out (Nat.le_refl _) hg7); have HA7 := Lib.hid ho7; have HO7 := Lib.hid (owns_kept_types HA.out HO.out (by decide) hg7); clear ho7 hg7 hf7)
      refine (gof_any (HT1.out.below HB7.out) (HCu.out.below HB7.out) HOkc.out (by omega)).mono ?_
      rintro e w8 ⟨u8, rfl, hB8, hI8⟩
      have HB8 := Lib.hid (HB7.out.trans (hB8.mono HB7.out.size))
      have HA8 := Lib.hid (owns_stays HA7.out hB8)
      have HO8 := Lib.hid (owns_stays HO7.out hB8)
      have HI8 := Lib.hid hI8
      have hbs8 := HB8.out.size
      have HGn := Lib.hid (show G ++ glOf R c = lineG R (LL.take (k + 1)) by rw [List.take_add_one, HC.out, HG.out]; exact (lineG_snoc R (LL.take k) c).symm)
      have HAn := Lib.hid (show A ++ [G.length] = atsL R LL (k + 1) by rw [atsL_succ, HAt.out, HG.out]; rfl)
      clear hB8 hI8 HA7 HO7 HB7 HA HO HB d0
      go_wp2_with (at_builtin; go_loud (refine wpList_app_rd _ rfl (.tmp 23) (.tmp 26) _ rfl EG _ _ _ rfl HO8.out _ _ _ rfl HI8.out (gyE_ones _) hbig2 hbs8 ?_); intro v9 w9 ho9 hg9; have HB9 := Lib.hid (below_app HB8.out hbs8 HO8.out (Nat.le_refl _) hg9); have HA9 := Lib.hid (owns_kept_types HO8.out HA8.out (by decide) hg9); have HO9 := Lib.hid ho9; clear ho9 hg9)
      go_roundw
      case rel => exact ⟨k + 1, G ++ glOf R c, A ++ [G.length], by omega, by go_num, HB9.out, by rw [List.length_append, List.flatMap_append]; exact HO9.out, by rw [List.length_append, flat_snoc]; have h := HA9.out; rw [hAl] at h ⊢; exact h, HGn.out, HAn.out⟩
      case measure => simp [intOf] <;> omega
    · have hke : k = LL.length := by omega
      subst hke
      rw [List.take_length] at HG
      have hbig : (A.length + 1) * 8 ≤ 140737488355328 := by omega
      have HAn := Lib.hid (show A ++ [G.length] = atsL R LL (LL.length + 1) by rw [atsL_succ, HAt.out, aheadG_end, HG.out])
      clear hlt hk
      go_wp2_with (at_builtin; go_loud (refine wpList_app1 _ rfl (.tmp 30) (.tmp 33) _ rfl EI _ _ _ rfl HA.out 1 1 (nE G.length) rfl (by decide) rfl (nE_one _) hbig hbs ?_); intro g cp7 w7 ho7 hg7 hf7; have HB7 := Lib.hid (below_app HB.out hbs HA.out (Nat.le_refl _) hg7); have HA7 := Lib.hid ho7; have HO7 := Lib.hid (owns_kept_types HA.out HO.out (by decide) hg7); clear ho7 hg7 hf7)
      go_ret2
      exact ⟨_, _, rfl, below_trans' HB1.out HB7.out, by rw [← HG.out]; exact gly_of_owns HO7.out, by
        rw [← HAn.out]
        exact ints_of_owns (base := w1.heap.size) (e := 3) (by rw [List.length_append, flat_snoc]; have h := HA7.out; rw [hAl] at h ⊢; exact h)⟩
end
end Go.Proofs.YtkeainhjghdfcaaGreat

/- The document's Line; a line's columns and bytes. -/
namespace Go.Proofs.YtkeainhjghdfcaaGreat
open Go.RowKit

/-- a glyphs' bytes, and columns, all together -/
def szG (L : List Gy) : Nat := (L.map (fun g => g.1.size)).sum
def wdG (L : List Gy) : Int := (L.map (fun g => g.2)).sum
theorem szG_app (a b : List Gy) : szG (a ++ b) = szG a + szG b := by unfold szG; rw [List.map_append, List.sum_append]
theorem wdG_app (a b : List Gy) : wdG (a ++ b) = wdG a + wdG b := by unfold wdG; rw [List.map_append, List.sum_append]
theorem szG_one (g : Gy) : szG [g] = g.1.size := by simp [szG]
theorem wdG_one (g : Gy) : wdG [g] = g.2 := by simp [wdG]
theorem take_snoc {L : List Gy} {k : Nat} {x : Gy} (h : L[k]? = some x) : L.take (k + 1) = L.take k ++ [x] := by rw [List.take_add_one, h]; rfl
theorem szG_take (L : List Gy) (k : Nat) : szG (L.take k) ≤ szG L := by
  have : szG L = szG (L.take k) + szG (L.drop k) := by rw [← szG_app, List.take_append_drop]
  omega
theorem caret_sz (r : Int) : szG (caretG r) ≤ 3 := by
  unfold caretG
  split
  · have : (strOfNums [r + 64]).size = 1 := by rw [strOfNums_size]; rfl
    show szG ([(⟨#[94]⟩, 1)] ++ [(strOfNums [r + 64], 1)]) ≤ 3
    rw [szG_app, szG_one, szG_one]
    show 1 + (strOfNums [r + 64]).size ≤ 3
    omega
  · split
    · show szG ([(⟨#[94]⟩, 1)] ++ [(⟨#[63]⟩, 1)]) ≤ 3
      rw [szG_app, szG_one, szG_one]
      show 1 + 1 ≤ 3
      omega
    · rw [szG_one]
      show (put 65533).size ≤ 3
      rw [put_size]
      decide
theorem carets_sz : ∀ c : List Int, szG (c.flatMap caretG) ≤ 3 * c.length
  | [] => by simp [szG]
  | r :: c => by
    have h1 := carets_sz c
    have h2 := caret_sz r
    rw [List.flatMap_cons, szG_app, List.length_cons]
    omega
theorem glOf_sz (R : List Rw) (c : List Int) : szG (glOf R c) ≤ 12 * c.length := by
  unfold glOf
  split
  · rename_i h; subst h; exact Nat.le_refl _
  · rename_i h
    have hl : 1 ≤ c.length := List.length_pos_iff.2 h
    split
    · have := carets_sz c; omega
    · rw [szG_one]
      show (enc (lean R c)).size ≤ _
      rw [enc_size]
      have h1 := encN_len (lean R c)
      have h2 := lean_len R c
      omega
theorem lineG_sz (R : List Rw) : ∀ LL : List (List Int), szG (lineG R LL) ≤ 12 * LL.flatten.length
  | [] => by simp [lineG, szG]
  | c :: LL => by
    have h1 := lineG_sz R LL
    have h2 := glOf_sz R c
    have e : lineG R (c :: LL) = glOf R c ++ lineG R LL := rfl
    rw [e, szG_app, List.flatten_cons, List.length_append]
    omega
theorem wdG_rng {L : List Gy} (h : ∀ g ∈ L, g.2 = 1 ∨ g.2 = 2) : 0 ≤ wdG L ∧ wdG L ≤ 2 * L.length := by
  induction L with
  | nil => simp [wdG]
  | cons g L ih =>
    have h1 := ih (fun x hx => h x (List.mem_cons_of_mem _ hx))
    have h2 := h g List.mem_cons_self
    have e : wdG (g :: L) = g.2 + wdG L := by simp [wdG]
    rw [e, List.length_cons]
    omega
section
variable {R : List Rw} {s : List Int} {w : World} {v sv : Value} {tp : Nat}
set_option maxRecDepth 100000 in
set_option maxHeartbeats 2000000 in
theorem rline_any (H : (tabOf R).Ok) (hR : RowsIn w v R) (hs : RunesIn w sv s) (ok : RunesOk s) (hl : s.length ≤ 900000) :
    Calls Tryz.prog 30 #[v, sv] w fun e w' => ∃ u a, e = .returned (.tuple #[u, a]) ∧ Below w.heap.size w w' ∧ GlyIn w' u (lineG R (clus (tabOf R) s)) ∧ IntsIn w' a (atsL R (clus (tabOf R) s) ((clus (tabOf R) s).length + 1)) := by
  have HR := Lib.hid hR
  have HS := Lib.hid hs
  have HOk := Lib.hid ok
  have HCl := Lib.hid (fun (W : World) (h1 : RowsIn W v R) (h2 : RunesIn W sv s) => rclusters_any H h1 h2 ok (by omega))
  have HNe := Lib.hid (clus_ne (tabOf R) s.length s (Nat.le_refl _))
  have HMem := Lib.hid (clus_mem (tabOf R) s.length s (Nat.le_refl _))
  have HTk := Lib.hid (lineG_take_le R s)
  have hLl : (clus (tabOf R) s).length ≤ s.length := clusN_len (tabOf R) s.length s
  generalize clus (tabOf R) s = LL at HCl HNe HMem HTk hLl ⊢
  obtain ⟨sl, cap, rfl, hcap, hmax, _⟩ := runes_cells hs
  unfold maxLen at hmax
  clear hR hs ok H
  go_enter Tryz.func30, Tryz.ntmps30
  go_wp2_with fail
  refine (HCl.out w HR.out HS.out).mono ?_
  rintro e w1 ⟨tu, rfl, hB1, hX1⟩
  have HB1 := Lib.hid hB1
  have HX := Lib.hid hX1
  have HR1 := Lib.hid (HR.out.below hB1)
  obtain ⟨ta, tcap, rfl, ht1, ht2⟩ := texts_shape hX1
  unfold maxLen at ht2
  clear hB1 hX1 HCl HR HS
  go_wp2_with fail
  go_loopw [6, 7, 9] (fun ov av iv wr => ∃ (k : Nat) (G : List Gy) (A : List Nat), k ≤ LL.length ∧ iv = .int .i64 ((k : Nat) : Int) ∧ Below w1.heap.size w1 wr ∧ wr.ownsRow w1.heap.size 81 2 ov G.length (G.flatMap gyE) ∧ wr.ownsRow w1.heap.size 3 1 av A.length (A.flatMap nE) ∧ G = lineG R (LL.take k) ∧ A = atsL R LL k) (fun _ _ iv _ => LL.length - (intOf iv).toNat)
  case atStart => exact ⟨0, [], [], Nat.zero_le _, rfl, .refl _ _, World.ownsRow_nil _ _ _ _, World.ownsRow_nil _ _ _ _, rfl, rfl⟩
  case round =>
    obtain ⟨k, G, A, hk, rfl, hB, hO, hA, hG, hAt⟩ := hrel
    have HB := Lib.hid hB
    have HG := Lib.hid hG
    have HAt := Lib.hid hAt
    have hAl : A.length = k := by rw [hAt, atsL_len]
    have hGl : G.length ≤ 2 * s.length := by rw [hG]; exact HTk.out k
    obtain ⟨pa, pc, rfl⟩ := slice_of_owns hO
    obtain ⟨qa, qc, rfl⟩ := slice_of_owns hA
    have HO := Lib.hid hO
    have HA := Lib.hid hA
    have hbs := HB.out.size
    clear hB hO hA hG hAt
    by_cases hlt : k < LL.length
    · obtain ⟨c, hc⟩ : ∃ c, LL[k]? = some c := ⟨LL[k], List.getElem?_eq_getElem hlt⟩
      have hcm := List.mem_of_getElem? hc
      have HC := Lib.hid hc
      have hcl := (HNe.out c hcm).2
      have HOkc := Lib.hid (show RunesOk c from fun x hx => HOk.out x (HMem.out c hcm x hx))
      obtain ⟨b, off, cp, cu, hv, _, _, _, _, d00, hcu⟩ := texts_cell HX.out hc
      cases hv
      have HD0 := Lib.hid d00
      have HCu := Lib.hid hcu
      have hbig : (A.length + 1) * 8 ≤ 140737488355328 := by omega
      have hgl2 := glOf_le R c
      have hbig2 : (G.length + (glOf R c).length) * 24 ≤ 140737488355328 := by omega
      obtain ⟨ca, ccap, rfl, _, _, _⟩ := runes_cells hcu
      have r0 : (k : Int) < (LL.length : Int) := by omega
      have r1 : (0 : Int) ≤ (k : Int) := by omega
      have e1 := IntWalk.i64_in ((k : Int) + 1) (by omega)
      clear hc hcm hcu d00
      go_wp2_with (at_builtin; go_loud (refine wpList_app1 _ rfl (.tmp 19) (.tmp 22) _ rfl EI _ _ _ rfl HA.out 1 1 (nE G.length) rfl (by decide) rfl (nE_one _) hbig hbs ?_); intro g cp7 w7 ho7 hg7 hf7; have HB7 := Lib.hid (below_app HB.out hbs HA.out (Nat.le_refl _) hg7); have HA7 := Lib.hid ho7; have HO7 := Lib.hid (owns_kept_types HA.out HO.out (by decide) hg7); have d0 := cell_later HB7.out HD0.out; clear ho7 hg7 hf7)
      refine (rgof_any (HR1.out.below HB7.out) (HCu.out.below HB7.out) HOkc.out (by omega)).mono ?_
      rintro e w8 ⟨u8, rfl, hB8, hI8⟩
      have HB8 := Lib.hid (HB7.out.trans (hB8.mono HB7.out.size))
      have HA8 := Lib.hid (owns_stays HA7.out hB8)
      have HO8 := Lib.hid (owns_stays HO7.out hB8)
      have HI8 := Lib.hid hI8
      have hbs8 := HB8.out.size
      have HGn := Lib.hid (show G ++ glOf R c = lineG R (LL.take (k + 1)) by rw [List.take_add_one, HC.out, HG.out]; exact (lineG_snoc R (LL.take k) c).symm)
      have HAn := Lib.hid (show A ++ [G.length] = atsL R LL (k + 1) by rw [atsL_succ, HAt.out, HG.out]; rfl)
      clear hB8 hI8 HA7 HO7 HB7 HA HO HB d0
      go_wp2_with (at_builtin; go_loud (refine wpList_app_rd _ rfl (.tmp 24) (.tmp 30) _ rfl ERG _ _ _ rfl HO8.out _ _ _ rfl HI8.out (gyE_ones _) hbig2 hbs8 ?_); intro v9 w9 ho9 hg9; have HB9 := Lib.hid (below_app HB8.out hbs8 HO8.out (Nat.le_refl _) hg9); have HA9 := Lib.hid (owns_kept_types HO8.out HA8.out (by decide) hg9); have HO9 := Lib.hid ho9; clear ho9 hg9)
      go_roundw
      case rel => exact ⟨k + 1, G ++ glOf R c, A ++ [G.length], by omega, by go_num, HB9.out, by rw [List.length_append, List.flatMap_append]; exact HO9.out, by rw [List.length_append, flat_snoc]; have h := HA9.out; rw [hAl] at h ⊢; exact h, HGn.out, HAn.out⟩
      case measure => simp [intOf] <;> omega
    · have hke : k = LL.length := by omega
      subst hke
      rw [List.take_length] at HG
      have hbig : (A.length + 1) * 8 ≤ 140737488355328 := by omega
      have HAn := Lib.hid (show A ++ [G.length] = atsL R LL (LL.length + 1) by rw [atsL_succ, HAt.out, aheadG_end, HG.out])
      have r0 : decide ((LL.length : Int) < (LL.length : Int)) = false := by simp
      clear hlt hk
      go_wp2_with (at_builtin; go_loud (refine wpList_app1 _ rfl (.tmp 33) (.tmp 36) _ rfl EI _ _ _ rfl HA.out 1 1 (nE G.length) rfl (by decide) rfl (nE_one _) hbig hbs ?_); intro g cp7 w7 ho7 hg7 hf7; have HB7 := Lib.hid (below_app HB.out hbs HA.out (Nat.le_refl _) hg7); have HA7 := Lib.hid ho7; have HO7 := Lib.hid (owns_kept_types HA.out HO.out (by decide) hg7); clear ho7 hg7 hf7)
      go_ret2
      exact ⟨_, _, rfl, below_trans' HB1.out HB7.out, by rw [← HG.out]; exact rgly_of_owns HO7.out, by
        rw [← HAn.out]
        exact ints_of_owns (base := w1.heap.size) (e := 3) (by rw [List.length_append, flat_snoc]; have h := HA7.out; rw [hAl] at h ⊢; exact h)⟩
end
end Go.Proofs.YtkeainhjghdfcaaGreat

/- Texts of glyphs: their sizes, their parts. No program is named here. -/
namespace Go.Proofs.YtkeainhjghdfcaaGreat
open Go.RowKit

theorem catG_size : ∀ (G : List Gy) (b0 : ByteArray), (catG b0 G).size = b0.size + szG G
  | [], b0 => by simp [catG, szG]
  | g :: G, b0 => by
    have := catG_size G (b0 ++ g.1)
    show (catG (b0 ++ g.1) G).size = _
    rw [this, ByteArray.size_append]
    simp [szG]; omega
end Go.Proofs.YtkeainhjghdfcaaGreat

/- Blanks; a row of glyphs without the blanks at its end; a row's text. No program is named here. -/
namespace Go.Proofs.YtkeainhjghdfcaaGreat
open Go.RowKit

/-- n blanks -/
def repB (n : Nat) : ByteArray := ⟨(Lib.repeatL [32] n).toArray⟩
theorem rep_list (n : Nat) : Lib.repeatL [32] n = List.replicate n 32 := by
  induction n with
  | zero => rfl
  | succ n ih => show [32] ++ Lib.repeatL [32] n = _; rw [ih]; rfl
theorem repB_zero : repB 0 = ⟨#[]⟩ := rfl
theorem ba_ext {a b : ByteArray} (h : a.data.toList = b.data.toList) : a = b := by
  obtain ⟨a⟩ := a
  obtain ⟨b⟩ := b
  congr 1
  exact Array.toList_inj.1 h
theorem ba_app (a b : ByteArray) : (a ++ b).data.toList = a.data.toList ++ b.data.toList := by
  rw [ByteArray.data_append, Array.toList_append]
theorem repB_succ (n : Nat) : repB n ++ ⟨#[32]⟩ = repB (n + 1) := by
  apply ba_ext
  rw [ba_app]
  show Lib.repeatL [32] n ++ [32] = Lib.repeatL [32] (n + 1)
  rw [rep_list, rep_list, List.replicate_succ']
theorem repB_size (n : Nat) : (repB n).size = n := by
  show (repB n).data.size = n
  unfold repB
  dsimp only
  rw [List.size_toArray, rep_list, List.length_replicate]
end Go.Proofs.YtkeainhjghdfcaaGreat

/- Words laid into columns: a row's text, word by word. No program is named here. -/
namespace Go.Proofs.YtkeainhjghdfcaaGreat
open Go.RowKit

theorem maxL_ge : ∀ {zs : List Int} {z : Int}, z ∈ zs → z ≤ maxL zs := by
  have key : ∀ (zs : List Int) (a : Int), a ≤ zs.foldl max a ∧ ∀ z ∈ zs, z ≤ zs.foldl max a := by
    intro zs
    induction zs with
    | nil => intro a; exact ⟨Int.le_refl _, fun z h => by cases h⟩
    | cons x zs ih =>
      intro a
      obtain ⟨h1, h2⟩ := ih (max a x)
      refine ⟨by show a ≤ zs.foldl max (max a x); omega, fun z hz => ?_⟩
      show z ≤ zs.foldl max (max a x)
      rcases List.mem_cons.1 hz with rfl | hz
      · omega
      · exact h2 z hz
  exact fun {zs z} h => (key zs 0).2 z h
section
variable (W : List Int) (TX : List ByteArray) (rows : Nat)
/-- the blanks behind word j -/
def gapN (j : Nat) : Nat := ((planL W rows).getD (j / rows) 0 - W.getD j 0 + 2).toNat
/-- word j, and the blanks behind it -/
def pieceT (j : Nat) : ByteArray := TX.getD j ⟨#[]⟩ ++ (if j + rows < W.length then repB (gapN W rows j) else ⟨#[]⟩)
/-- row r with the words ahead of i -/
def rowT (r : Nat) : Nat → ByteArray
  | 0 => ⟨#[]⟩
  | i + 1 => if i % rows = r ∧ i < W.length then rowT r i ++ pieceT W TX rows i else rowT r i
variable {W TX rows}
theorem rowT_hit {r i : Nat} (h : i % rows = r) (hi : i < W.length) : rowT W TX rows r (i + 1) = rowT W TX rows r i ++ pieceT W TX rows i := by
  show (if i % rows = r ∧ i < W.length then _ else _) = _
  rw [if_pos ⟨h, hi⟩]
theorem rowT_miss {r i : Nat} (h : i % rows ≠ r) : rowT W TX rows r (i + 1) = rowT W TX rows r i := by
  show (if i % rows = r ∧ i < W.length then _ else _) = _
  rw [if_neg (fun e => h e.1)]
theorem rowT_out {r i : Nat} (h : W.length ≤ i) : rowT W TX rows r (i + 1) = rowT W TX rows r i := by
  show (if i % rows = r ∧ i < W.length then _ else _) = _
  rw [if_neg (fun e => by omega)]
theorem rowT_flat {r i : Nat} (h : i % rows = r) (hr : r < rows) : ∀ k, k < rows → rowT W TX rows r (i + 1 + k) = rowT W TX rows r (i + 1)
  | 0, _ => rfl
  | k + 1, hk => by
    rw [show i + 1 + (k + 1) = (i + 1 + k) + 1 by omega, rowT_miss, rowT_flat h hr k (by omega)]
    intro e
    have h1 := Nat.mod_add_div i rows
    have h2 := Nat.mod_add_div (i + 1 + k) rows
    rw [h] at h1
    rw [e] at h2
    have h3 : rows * ((i + 1 + k) / rows) = rows * (i / rows) + (k + 1) := by omega
    have h4 : (k + 1) % rows = 0 := by
      have : k + 1 = rows * ((i + 1 + k) / rows - i / rows) := by rw [Nat.mul_sub]; omega
      rw [this]; exact Nat.mul_mod_right _ _
    rw [Nat.mod_eq_of_lt hk] at h4
    omega
theorem rowT_jump {r i : Nat} (h : i % rows = r) (hr : r < rows) (hi : i < W.length) : rowT W TX rows r (i + rows) = rowT W TX rows r i ++ pieceT W TX rows i := by
  have e := rowT_flat (W := W) (TX := TX) h hr (rows - 1) (by omega)
  rw [show i + 1 + (rows - 1) = i + rows by omega] at e
  rw [e, rowT_hit h hi]
theorem rowT_start {r : Nat} (hr : r < rows) : ∀ {i : Nat}, i ≤ r → rowT W TX rows r i = ⟨#[]⟩
  | 0, _ => rfl
  | i + 1, h => by rw [rowT_miss (by rw [Nat.mod_eq_of_lt (by omega)]; omega), rowT_start hr (by omega)]
theorem rowT_end {r : Nat} : ∀ {i : Nat}, W.length ≤ i → rowT W TX rows r i = rowT W TX rows r W.length
  | 0, h => by rw [show W.length = 0 by omega]
  | i + 1, h => by
    by_cases e : i + 1 = W.length
    · rw [e]
    · rw [rowT_out (by omega), rowT_end (by omega)]
/-- a word goes into its column -/
theorem plan_ge {j : Nat} {z : Int} (hr : 0 < rows) (hz : W[j]? = some z) : ∃ m, (planL W rows)[j / rows]? = some m ∧ z ≤ m := by
  have hj := (List.getElem?_eq_some_iff.1 hz).1
  have hc : j / rows < (W.length + rows - 1) / rows := (ceil_iff W.length rows (j / rows) hr).2 (by have := Nat.div_mul_le_self j rows; omega)
  refine ⟨_, planL_get W rows (j / rows) hc, maxL_ge ?_⟩
  have hd := Nat.mod_add_div j rows
  have hm := Nat.mod_lt j hr
  have : (chunk W rows (j / rows))[j % rows]? = some z := by
    unfold chunk
    rw [List.getElem?_take, if_pos hm, List.getElem?_drop, ← hz]
    congr 1
    rw [Nat.mul_comm]
    omega
  exact List.mem_of_getElem? this
theorem piece_size {j C D : Nat} (h1 : ∀ t ∈ TX, t.size ≤ C) (h2 : gapN W rows j ≤ D) : (pieceT W TX rows j).size ≤ C + D := by
  unfold pieceT
  rw [ByteArray.size_append]
  have a : (TX.getD j ⟨#[]⟩).size ≤ C := by
    rw [List.getD_eq_getElem?_getD]
    rcases hx : TX[j]? with _ | t
    · show (0 : Nat) ≤ C; omega
    · exact h1 t (List.mem_of_getElem? hx)
  have b : (if j + rows < W.length then repB (gapN W rows j) else ⟨#[]⟩ : ByteArray).size ≤ D := by
    split
    · rw [repB_size]; exact h2
    · show (0 : Nat) ≤ D; omega
  omega
theorem rowT_size {r C D : Nat} (h1 : ∀ t ∈ TX, t.size ≤ C) (h2 : ∀ j, gapN W rows j ≤ D) : ∀ i, (rowT W TX rows r i).size ≤ i * (C + D)
  | 0 => by show (0 : Nat) ≤ _; omega
  | i + 1 => by
    have ih := rowT_size (r := r) h1 h2 i
    have hp := piece_size (j := i) h1 (h2 i)
    rw [Nat.succ_mul]
    by_cases h : i % rows = r ∧ i < W.length
    · rw [rowT_hit h.1 h.2, ByteArray.size_append]; omega
    · have : rowT W TX rows r (i + 1) = rowT W TX rows r i := by
        show (if i % rows = r ∧ i < W.length then _ else _) = _
        rw [if_neg h]
      rw [this]; omega
theorem gap_le {D : Nat} (h : ∀ z ∈ W, 0 ≤ z ∧ z ≤ (D : Int)) (j : Nat) : gapN W rows j ≤ D + 2 := by
  unfold gapN
  have h1 := planL_bd (B := (D : Int)) (by omega) W rows fun z hz => (h z hz).2
  have a : (planL W rows).getD (j / rows) 0 ≤ (D : Int) := by
    rw [List.getD_eq_getElem?_getD]
    rcases hx : (planL W rows)[j / rows]? with _ | t
    · show (0 : Int) ≤ D; omega
    · exact (h1 t (List.mem_of_getElem? hx)).2
  have b : 0 ≤ W.getD j 0 := by
    rw [List.getD_eq_getElem?_getD]
    rcases hx : W[j]? with _ | t
    · exact Int.le_refl _
    · exact (h t (List.mem_of_getElem? hx)).1
  omega
end
end Go.Proofs.YtkeainhjghdfcaaGreat

/- strings.Repeat, as it lies in this program (laid by the kit); blanks. -/
namespace Go.Proofs.YtkeainhjghdfcaaGreat
open Go.Shelf Go.RowKit Go.Lib

def Tryz.lays105_ren : Go.Shelf.Ren := ⟨fun | 105 => 89 | 212 => 134 | 99 => 135 | 165 => 136 | 166 => 137 | 170 => 138 | 169 => 139 | 263 => 173 | 264 => 174 | 206 => 175 | 240 => 176 | 241 => 177 | 276 => 194 | 277 => 195 | n => n, fun | 9 => 9 | 3 => 3 | 4 => 4 | 20 => 20 | 0 => 0 | 46 => 172 | 109 => 229 | 5 => 5 | 72 => 235 | 76 => 238 | 51 => 287 | 146 => 288 | 53 => 290 | 148 => 291 | 70 => 232 | 37 => 233 | 75 => 237 | 127 => 293 | 164 => 307 | 80 => 240 | n => n, fun | n => n⟩
theorem Tryz.lays105 : Go.Proofs.Lays.n105 Tryz.prog Tryz.lays105_ren := {
  mixed := by kernel_rfl
  f99 := Tryz.func135.trans (congrArg some (by kernel_rfl))
  f105 := Tryz.func89.trans (congrArg some (by kernel_rfl))
  f165 := Tryz.func136.trans (congrArg some (by kernel_rfl))
  f166 := Tryz.func137.trans (congrArg some (by kernel_rfl))
  f169 := Tryz.func139.trans (congrArg some (by kernel_rfl))
  f170 := Tryz.func138.trans (congrArg some (by kernel_rfl))
  f206 := Tryz.func175.trans (congrArg some (by kernel_rfl))
  f212 := Tryz.func134.trans (congrArg some (by kernel_rfl))
  f240 := Tryz.func176.trans (congrArg some (by kernel_rfl))
  f241 := Tryz.func177.trans (congrArg some (by kernel_rfl))
  f263 := Tryz.func173.trans (congrArg some (by kernel_rfl))
  f264 := Tryz.func174.trans (congrArg some (by kernel_rfl))
  f276 := Tryz.func194.trans (congrArg some (by kernel_rfl))
  f277 := Tryz.func195.trans (congrArg some (by kernel_rfl))
  t0 := Tryz.underlying0
  a0 := Tryz.isAgg0
  z0 := Tryz.sizeOf0
  v0 := Tryz.zeroValue0
  t3 := Tryz.underlying3
  a3 := Tryz.isAgg3
  z3 := Tryz.sizeOf3
  v3 := Tryz.zeroValue3
  t4 := Tryz.underlying4
  a4 := Tryz.isAgg4
  z4 := Tryz.sizeOf4
  v4 := Tryz.zeroValue4
  t5 := Tryz.underlying5
  a5 := Tryz.isAgg5
  z5 := Tryz.sizeOf5
  v5 := Tryz.zeroValue5
  t9 := Tryz.underlying9
  a9 := Tryz.isAgg9
  z9 := Tryz.sizeOf9
  v9 := Tryz.zeroValue9
  t20 := Tryz.underlying20
  a20 := Tryz.isAgg20
  z20 := Tryz.sizeOf20
  v20 := Tryz.zeroValue20
  t37 := Tryz.underlying233
  a37 := Tryz.isAgg233
  z37 := Tryz.sizeOf233
  v37 := Tryz.zeroValue233
  t46 := Tryz.underlying172
  a46 := Tryz.isAgg172
  z46 := Tryz.sizeOf172
  v46 := Tryz.zeroValue172
  t51 := Tryz.underlying287
  a51 := Tryz.isAgg287
  z51 := Tryz.sizeOf287
  v51 := Tryz.zeroValue287
  t53 := Tryz.underlying290
  a53 := Tryz.isAgg290
  z53 := Tryz.sizeOf290
  v53 := Tryz.zeroValue290
  t70 := Tryz.underlying232
  a70 := Tryz.isAgg232
  z70 := Tryz.sizeOf232
  v70 := Tryz.zeroValue232
  t72 := Tryz.underlying235
  a72 := Tryz.isAgg235
  z72 := Tryz.sizeOf235
  v72 := Tryz.zeroValue235
  t75 := Tryz.underlying237
  a75 := Tryz.isAgg237
  z75 := Tryz.sizeOf237
  v75 := Tryz.zeroValue237
  t76 := Tryz.underlying238
  a76 := Tryz.isAgg238
  z76 := Tryz.sizeOf238
  v76 := Tryz.zeroValue238
  t109 := Tryz.underlying229
  a109 := Tryz.isAgg229
  z109 := Tryz.sizeOf229
  v109 := Tryz.zeroValue229
  t127 := Tryz.underlying293
  a127 := Tryz.isAgg293
  z127 := Tryz.sizeOf293
  v127 := Tryz.zeroValue293
  t146 := Tryz.underlying288
  a146 := Tryz.isAgg288
  z146 := Tryz.sizeOf288
  v146 := Tryz.zeroValue288
  t148 := Tryz.underlying291
  a148 := Tryz.isAgg291
  z148 := Tryz.sizeOf291
  v148 := Tryz.zeroValue291
  t164 := Tryz.underlying307
  a164 := Tryz.isAgg307
  z164 := Tryz.sizeOf307
  v164 := Tryz.zeroValue307 }
theorem Tryz.Builder_Extra_105 : Builder.Extra Tryz.prog Tryz.lays105_ren := {
  sizeBuilder := by kernel_rfl
  liesBuilder := by kernel_rfl
  t5 := Tryz.underlying5
  a5 := Tryz.isAgg5
  z5 := Tryz.sizeOf5
  v5 := Tryz.zeroValue5
  infoByte := by kernel_rfl
  cellsByte := by kernel_rfl
  sizeByte := by kernel_rfl
  neB5 := by decide }

theorem repeat_any (n : Nat) (w : World) (h : n ≤ 1000000) : Calls Tryz.prog 89 #[.string ⟨#[32]⟩, .int .i64 (n : Int)] w fun e w' => e = .returned (.string (repB n)) ∧ Below w.heap.size w w' :=
  Any.strings_Repeat Tryz.lays105 Tryz.Builder_Extra_105 ⟨#[32]⟩ n w (by omega) (by show 1 * n ≤ _; omega)
end Go.Proofs.YtkeainhjghdfcaaGreat

/- ColumnsWidth: columns.Width, the document's Width, the law's walk. -/
namespace Go.Proofs.YtkeainhjghdfcaaGreat
open Go.RowKit

section
variable {R : List Rw} {s : List Int} {w : World} {v sv : Value} {tp : Nat}
set_option maxRecDepth 100000 in
set_option maxHeartbeats 1000000 in
theorem cwidth_any (hT : Tb R w tp) (hs : RunesIn w sv s) (ok : RunesOk s) (hl : s.length ≤ 900000) :
    Calls Tryz.prog 87 #[.pointer (some ⟨tp, 0, none⟩), sv] w fun e w' => e = .returned (.int .i64 (wdG (lineG R (clus (tabOf R) s)))) ∧ Below w.heap.size w w' := by
  have HLine := Lib.hid (line_any hT hs ok hl)
  have hGl := lineG_take_le R s (clus (tabOf R) s).length
  rw [List.take_length] at hGl
  have HGo := Lib.hid (fun g (h : g ∈ lineG R (clus (tabOf R) s)) => (lineG_ok R g h).1)
  generalize lineG R (clus (tabOf R) s) = G at HLine hGl HGo ⊢
  obtain ⟨sl, cap, rfl, hcap, hmax, _⟩ := runes_cells hs
  clear hT hs ok
  go_enter Tryz.func87, Tryz.ntmps87
  go_wp2_with fail
  refine HLine.out.mono ?_
  rintro e w1 ⟨u, a, rfl, hB1, hG, _⟩
  have HB1 := Lib.hid hB1
  have HG := Lib.hid hG
  obtain ⟨ga, gc, rfl, hg1, hg2⟩ := gly_shape hG
  unfold maxLen at hg2
  clear hB1 hG HLine
  go_wp2_with fail
  go_loopw [5, 18] (fun nv iv wr => ∃ (k : Nat) (m : Int), k ≤ G.length ∧ nv = .int .i64 m ∧ iv = .int .i64 ((k : Nat) : Int) ∧ Below w1.heap.size w1 wr ∧ m = wdG (G.take k)) (fun _ iv _ => G.length - (intOf iv).toNat)
  case atStart => exact ⟨0, 0, Nat.zero_le _, rfl, rfl, .refl _ _, rfl⟩
  case round =>
    obtain ⟨k, m, hk, rfl, rfl, hB, hm⟩ := hrel
    have HB := Lib.hid hB
    have HM := Lib.hid hm
    have hr := wdG_rng (L := G.take k) (fun g hg => HGo.out g (List.mem_of_mem_take hg))
    rw [← hm, List.length_take] at hr
    clear hB hm
    by_cases hlt : k < G.length
    · obtain ⟨x, hx⟩ : ∃ x, G[k]? = some x := ⟨G[k], List.getElem?_eq_getElem hlt⟩
      have hxo := HGo.out x (List.mem_of_getElem? hx)
      have HN := Lib.hid (show wdG (G.take (k + 1)) = wdG (G.take k) + x.2 by rw [take_snoc hx, wdG_app, wdG_one])
      obtain ⟨x1, x2⟩ := x
      have hx2 : x2 = 1 ∨ x2 = 2 := hxo
      obtain ⟨b, off, _, hv, _, _, _, d0, d1⟩ := gly_cells (HG.out.below HB.out) hx
      cases hv
      have e2 := IntWalk.i64_in (m + x2) (by omega)
      have HBn := Lib.hid (HB.out.trans ((below1 wr (.cells #[.string x1, .int .i64 x2] 97)).mono HB.out.size))
      clear hx hxo hr
      go_wp2_with fail
      go_roundw
      case rel => exact ⟨k + 1, m + x2, by omega, rfl, by go_num, HBn.out, by rw [HN.out, HM.out]⟩
      case measure => simp [intOf] <;> omega
    · have hke : k = G.length := by omega
      subst hke
      rw [List.take_length] at HM
      clear hlt hk hr
      go_wp2_with fail
      go_ret
      exact ⟨by rw [← HM.out]; rfl, below_trans' HB1.out HB.out⟩
set_option maxRecDepth 100000 in
set_option maxHeartbeats 1000000 in
theorem rcwidth_any (H : (tabOf R).Ok) (hR : RowsIn w v R) (hs : RunesIn w sv s) (ok : RunesOk s) (hl : s.length ≤ 900000) :
    Calls Tryz.prog 39 #[v, sv] w fun e w' => e = .returned (.tuple #[.int .i64 (wdG (lineG R (clus (tabOf R) s))), .string (catG ⟨#[]⟩ (lineG R (clus (tabOf R) s)))]) ∧ Below w.heap.size w w' := by
  have HLine := Lib.hid (rline_any H hR hs ok hl)
  have hGl := lineG_take_le R s (clus (tabOf R) s).length
  rw [List.take_length] at hGl
  have hsz := lineG_sz R (clus (tabOf R) s)
  rw [clus_flat (tabOf R) s.length s (Nat.le_refl _)] at hsz
  have HGo := Lib.hid (fun g (h : g ∈ lineG R (clus (tabOf R) s)) => (lineG_ok R g h).1)
  generalize lineG R (clus (tabOf R) s) = G at HLine hGl HGo hsz ⊢
  obtain ⟨sl, cap, rfl, hcap, hmax, _⟩ := runes_cells hs
  clear hR hs ok H
  go_enter Tryz.func39, Tryz.ntmps39
  go_wp2_with fail
  refine HLine.out.mono ?_
  rintro e w1 ⟨u, a, rfl, hB1, hG, _⟩
  have HB1 := Lib.hid hB1
  have HG := Lib.hid hG
  obtain ⟨ga, gc, rfl, hg1, hg2⟩ := gly_shape hG
  unfold maxLen at hg2
  clear hB1 hG HLine
  go_wp2_with fail
  go_loopw [6, 7, 10] (fun nv tv iv wr => ∃ (k : Nat) (m : Int), k ≤ G.length ∧ nv = .int .i64 m ∧ tv = .string (catG ⟨#[]⟩ (G.take k)) ∧ iv = .int .i64 ((k : Nat) : Int) ∧ Below w1.heap.size w1 wr ∧ m = wdG (G.take k)) (fun _ _ iv _ => G.length - (intOf iv).toNat)
  case atStart => exact ⟨0, 0, Nat.zero_le _, rfl, rfl, rfl, .refl _ _, rfl⟩
  case round =>
    obtain ⟨k, m, hk, rfl, rfl, rfl, hB, hm⟩ := hrel
    have HB := Lib.hid hB
    have HM := Lib.hid hm
    have hr := wdG_rng (L := G.take k) (fun g hg => HGo.out g (List.mem_of_mem_take hg))
    rw [← hm, List.length_take] at hr
    clear hB hm
    by_cases hlt : k < G.length
    · obtain ⟨x, hx⟩ : ∃ x, G[k]? = some x := ⟨G[k], List.getElem?_eq_getElem hlt⟩
      have hxo := HGo.out x (List.mem_of_getElem? hx)
      have HN := Lib.hid (show wdG (G.take (k + 1)) = wdG (G.take k) + x.2 by rw [take_snoc hx, wdG_app, wdG_one])
      have HNs := Lib.hid (show szG (G.take (k + 1)) = szG (G.take k) + x.1.size by rw [take_snoc hx, szG_app, szG_one])
      have HCn := Lib.hid (show catG ⟨#[]⟩ (G.take (k + 1)) = catG ⟨#[]⟩ (G.take k) ++ x.1 by rw [take_snoc hx, catG_snoc])
      obtain ⟨x1, x2⟩ := x
      have hx2 : x2 = 1 ∨ x2 = 2 := hxo
      obtain ⟨b, off, _, hv, _, _, _, d0, d1⟩ := gly_cells (HG.out.below HB.out) hx
      cases hv
      have e2 := IntWalk.i64_in (m + x2) (by omega)
      have e3 := IntWalk.i64_in ((k : Int) + 1) (by omega)
      have r0 : (k : Int) < (G.length : Int) := by omega
      have r1 : (0 : Int) ≤ (k : Int) := by omega
      have cc := run_string_add_sum (P := Tryz.prog) wr (catG ⟨#[]⟩ (G.take k)) x1 (by
        have hz0 : (⟨#[]⟩ : ByteArray).size = 0 := rfl
        have h1 := szG_take G (k + 1)
        have h2 := HNs.out
        have h3 := catG_size (G.take k) ⟨#[]⟩
        have h4 : szG (G.take (k + 1)) = szG (G.take k) + x1.size := h2
        omega)
      clear hx hxo hr
      go_wp2_with fail
      go_roundw
      case rel => exact ⟨k + 1, m + x2, by omega, rfl, by rw [HCn.out], by go_num, HB.out, by rw [HN.out, HM.out]⟩
      case measure => simp [intOf] <;> omega
    · have hke : k = G.length := by omega
      subst hke
      rw [List.take_length] at HM ⊢
      have r0 : decide ((G.length : Int) < (G.length : Int)) = false := by simp
      clear hlt hk hr
      go_wp2_with fail
      go_ret2
      exact ⟨by rw [← HM.out]; rfl, below_trans' HB1.out HB.out⟩
end
theorem fin45 {w w1 : World} (h1 : Below w.heap.size w w1) : Calls Tryz.prog 38 #[] w1 fun e w' => e = .returned (.bool true) ∧ Below w.heap.size w w' := by
  refine (awake45_any w1).mono ?_
  rintro e w' ⟨rfl, hB⟩
  exact ⟨rfl, below_trans' h1 hB⟩
end Go.Proofs.YtkeainhjghdfcaaGreat

/- glyph.Line: who owns what it tells. -/
namespace Go.Proofs.YtkeainhjghdfcaaGreat
open Go.RowKit

section
variable {R : List Rw} {s : List Int} {w : World} {v sv : Value} {tp : Nat}
set_option maxRecDepth 100000 in
set_option maxHeartbeats 2000000 in
theorem line_own (hT : Tb R w tp) (hs : RunesIn w sv s) (ok : RunesOk s) (hl : s.length ≤ 900000) :
    Calls Tryz.prog 59 #[.pointer (some ⟨tp, 0, none⟩), sv] w fun e w' => ∃ u a, e = .returned (.tuple #[u, a]) ∧ Below w.heap.size w w' ∧ w'.ownsRow w.heap.size 97 2 u (lineG R (clus (tabOf R) s)).length ((lineG R (clus (tabOf R) s)).flatMap gyE) ∧ w'.ownsRow w.heap.size 3 1 a (atsL R (clus (tabOf R) s) ((clus (tabOf R) s).length + 1)).length ((atsL R (clus (tabOf R) s) ((clus (tabOf R) s).length + 1)).flatMap nE) := by
  have HT := Lib.hid hT
  have HS := Lib.hid hs
  have HOk := Lib.hid ok
  have HCl := Lib.hid (fun (W : World) (h1 : Tb R W tp) (h2 : RunesIn W sv s) => clusters_any h1 h2 ok (by omega))
  have HNe := Lib.hid (clus_ne (tabOf R) s.length s (Nat.le_refl _))
  have HMem := Lib.hid (clus_mem (tabOf R) s.length s (Nat.le_refl _))
  have HTk := Lib.hid (lineG_take_le R s)
  have hLl : (clus (tabOf R) s).length ≤ s.length := clusN_len (tabOf R) s.length s
  generalize clus (tabOf R) s = LL at HCl HNe HMem HTk hLl ⊢
  obtain ⟨sl, cap, rfl, hcap, hmax, _⟩ := runes_cells hs
  unfold maxLen at hmax
  clear hT hs ok
  go_enter Tryz.func59, Tryz.ntmps59
  go_wp2_with fail
  refine (HCl.out w HT.out HS.out).mono ?_
  rintro e w1 ⟨tu, rfl, hB1, hX1⟩
  have HB1 := Lib.hid hB1
  have HX := Lib.hid hX1
  have HT1 := Lib.hid (HT.out.below hB1)
  obtain ⟨ta, tcap, rfl, ht1, ht2⟩ := texts_shape hX1
  unfold maxLen at ht2
  clear hB1 hX1 HCl HT HS
  go_wp2_with fail
  go_loopw [6, 7, 14] (fun ov av iv wr => ∃ (k : Nat) (G : List Gy) (A : List Nat), k ≤ LL.length ∧ iv = .int .i64 ((k : Nat) : Int) ∧ Below w1.heap.size w1 wr ∧ wr.ownsRow w1.heap.size 97 2 ov G.length (G.flatMap gyE) ∧ wr.ownsRow w1.heap.size 3 1 av A.length (A.flatMap nE) ∧ G = lineG R (LL.take k) ∧ A = atsL R LL k) (fun _ _ iv _ => LL.length - (intOf iv).toNat)
  case atStart => exact ⟨0, [], [], Nat.zero_le _, rfl, .refl _ _, World.ownsRow_nil _ _ _ _, World.ownsRow_nil _ _ _ _, rfl, rfl⟩
  case round =>
    obtain ⟨k, G, A, hk, rfl, hB, hO, hA, hG, hAt⟩ := hrel
    have HB := Lib.hid hB
    have HG := Lib.hid hG
    have HAt := Lib.hid hAt
    have hAl : A.length = k := by rw [hAt, atsL_len]
    have hGl : G.length ≤ 2 * s.length := by rw [hG]; exact HTk.out k
    obtain ⟨pa, pc, rfl⟩ := slice_of_owns hO
    obtain ⟨qa, qc, rfl⟩ := slice_of_owns hA
    have HO := Lib.hid hO
    have HA := Lib.hid hA
    have hbs := HB.out.size
    clear hB hO hA hG hAt
    by_cases hlt : k < LL.length
    · obtain ⟨c, hc⟩ : ∃ c, LL[k]? = some c := ⟨LL[k], List.getElem?_eq_getElem hlt⟩
      have hcm := List.mem_of_getElem? hc
      have HC := Lib.hid hc
      have hcl := (HNe.out c hcm).2
      have HOkc := Lib.hid (show RunesOk c from fun x hx => HOk.out x (HMem.out c hcm x hx))
      obtain ⟨b, off, cp, cu, hv, _, _, _, _, d00, hcu⟩ := texts_cell HX.out hc
      cases hv
      have d0 := cell_later HB.out d00
      have HCu := Lib.hid hcu
      have hbig : (A.length + 1) * 8 ≤ 140737488355328 := by omega
      have hgl2 := glOf_le R c
      have hbig2 : (G.length + (glOf R c).length) * 24 ≤ 140737488355328 := by omega
      obtain ⟨ca, ccap, rfl, _, _, _⟩ := runes_cells hcu
      clear hc hcm hcu d00
      go_wp2_with (at_builtin; go_loud (refine wpList_app1 _ rfl (.tmp 18) (.tmp 21) _ rfl EI _ _ _ rfl HA.out 1 1 (nE G.length) rfl (by decide) rfl (nE_one _) hbig hbs ?_); intro g cp7 w7 ho7 hg7 hf7; have HB7 := Lib.hid (below_app HB.out hbs HA.out (Nat.le_refl _) hg7); have HA7 := Lib.hid ho7; have HO7 := Lib.hid (owns_kept_types HA.out HO.out (by decide) hg7); clear ho7 hg7 hf7)
      refine (gof_any (HT1.out.below HB7.out) (HCu.out.below HB7.out) HOkc.out (by omega)).mono ?_
      rintro e w8 ⟨u8, rfl, hB8, hI8⟩
      have HB8 := Lib.hid (HB7.out.trans (hB8.mono HB7.out.size))
      have HA8 := Lib.hid (owns_stays HA7.out hB8)
      have HO8 := Lib.hid (owns_stays HO7.out hB8)
      have HI8 := Lib.hid hI8
      have hbs8 := HB8.out.size
      have HGn := Lib.hid (show G ++ glOf R c = lineG R (LL.take (k + 1)) by rw [List.take_add_one, HC.out, HG.out]; exact (lineG_snoc R (LL.take k) c).symm)
      have HAn := Lib.hid (show A ++ [G.length] = atsL R LL (k + 1) by rw [atsL_succ, HAt.out, HG.out]; rfl)
      clear hB8 hI8 HA7 HO7 HB7 HA HO HB d0
      go_wp2_with (at_builtin; go_loud (refine wpList_app_rd _ rfl (.tmp 23) (.tmp 26) _ rfl EG _ _ _ rfl HO8.out _ _ _ rfl HI8.out (gyE_ones _) hbig2 hbs8 ?_); intro v9 w9 ho9 hg9; have HB9 := Lib.hid (below_app HB8.out hbs8 HO8.out (Nat.le_refl _) hg9); have HA9 := Lib.hid (owns_kept_types HO8.out HA8.out (by decide) hg9); have HO9 := Lib.hid ho9; clear ho9 hg9)
      go_roundw
      case rel => exact ⟨k + 1, G ++ glOf R c, A ++ [G.length], by omega, by go_num, HB9.out, by rw [List.length_append, List.flatMap_append]; exact HO9.out, by rw [List.length_append, flat_snoc]; have h := HA9.out; rw [hAl] at h ⊢; exact h, HGn.out, HAn.out⟩
      case measure => simp [intOf] <;> omega
    · have hke : k = LL.length := by omega
      subst hke
      rw [List.take_length] at HG
      have hbig : (A.length + 1) * 8 ≤ 140737488355328 := by omega
      have HAn := Lib.hid (show A ++ [G.length] = atsL R LL (LL.length + 1) by rw [atsL_succ, HAt.out, aheadG_end, HG.out])
      clear hlt hk
      go_wp2_with (at_builtin; go_loud (refine wpList_app1 _ rfl (.tmp 30) (.tmp 33) _ rfl EI _ _ _ rfl HA.out 1 1 (nE G.length) rfl (by decide) rfl (nE_one _) hbig hbs ?_); intro g cp7 w7 ho7 hg7 hf7; have HB7 := Lib.hid (below_app HB.out hbs HA.out (Nat.le_refl _) hg7); have HA7 := Lib.hid ho7; have HO7 := Lib.hid (owns_kept_types HA.out HO.out (by decide) hg7); clear ho7 hg7 hf7)
      go_ret2
      exact ⟨_, _, rfl, below_trans' HB1.out HB7.out, by rw [← HG.out]; exact owns_lower HO7.out HB1.out.size, by
        rw [← HAn.out]
        exact owns_lower (by rw [List.length_append, flat_snoc]; have h := HA7.out; rw [hAl] at h ⊢; exact h) HB1.out.size⟩
end
end Go.Proofs.YtkeainhjghdfcaaGreat

/- utf: a decoder takes a byte. -/
namespace Go.Proofs.YtkeainhjghdfcaaGreat
open Go.RowKit

/-- states that a decoder may be in -/
structure DcOk (d : Dc) : Prop where
  nd : 0 ≤ d.nd ∧ d.nd ≤ 3
  hv : 0 ≤ d.hv ∧ d.nd + d.hv ≤ 4
  vl : 0 ≤ d.vl ∧ (d.nd = 3 → d.vl < 8) ∧ (d.nd = 2 → d.vl < 512) ∧ (d.nd = 1 → d.vl < 32768)
theorem dcOk_of {nd hv lo hi vl : Int} (h1 : 0 ≤ nd ∧ nd ≤ 3) (h2 : 0 ≤ hv ∧ nd + hv ≤ 4) (h3 : 0 ≤ vl ∧ (nd = 3 → vl < 8) ∧ (nd = 2 → vl < 512) ∧ (nd = 1 → vl < 32768)) : DcOk ⟨nd, hv, lo, hi, vl⟩ := ⟨h1, h2, h3⟩
theorem dcOk_0 : DcOk Dc0 := dcOk_of (by omega) (by omega) (by omega)
theorem dcOk_first {b : Int} (_h0 : 0 ≤ b) (_h1 : b ≤ 255) : DcOk (fstD b).1 := by
  unfold fstD
  split
  · exact dcOk_0
  · split
    · exact dcOk_0
    · show DcOk (Dc1 b)
      unfold Dc1
      by_cases c1 : b < 224
      · rw [if_pos c1, if_pos c1]
        exact dcOk_of (by omega) (by omega) (by omega)
      · rw [if_neg c1, if_neg c1]
        by_cases c2 : b < 240
        · rw [if_pos c2, if_pos c2]
          exact dcOk_of (by omega) (by omega) (by omega)
        · rw [if_neg c2, if_neg c2]
          exact dcOk_of (by omega) (by omega) (by omega)
theorem dcOk_feed {d : Dc} (hd : DcOk d) {b : Int} (h0 : 0 ≤ b) (h1 : b ≤ 255) : DcOk (fdD d b).1 := by
  unfold fdD
  split
  · exact dcOk_first h0 h1
  · split
    · exact dcOk_first h0 h1
    · split
      · exact dcOk_0
      · obtain ⟨n1, n2⟩ := hd.nd
        obtain ⟨v1, v2⟩ := hd.hv
        obtain ⟨u1, u2, u3, u4⟩ := hd.vl
        refine ⟨⟨?_, ?_⟩, ⟨?_, ?_⟩, ⟨?_, ?_, ?_, ?_⟩⟩
        · show 0 ≤ d.nd - 1; omega
        · show d.nd - 1 ≤ 3; omega
        · show 0 ≤ d.hv + 1; omega
        · show d.nd - 1 + (d.hv + 1) ≤ 4; omega
        · show 0 ≤ d.vl * 64 + b % 64; omega
        · show d.nd - 1 = 3 → _; omega
        · show d.nd - 1 = 2 → d.vl * 64 + b % 64 < 512
          intro h
          have := u2 (by omega)
          omega
        · show d.nd - 1 = 1 → d.vl * 64 + b % 64 < 32768
          intro h
          have := u3 (by omega)
          omega
end Go.Proofs.YtkeainhjghdfcaaGreat

/- utf: End, Decode. (Printed by gen_decode.py.) -/
namespace Go.Proofs.YtkeainhjghdfcaaGreat
open Go.RowKit Go.Lib

/-- a string's bytes as numbers -/
def bytesN (s : ByteArray) : List Int := s.data.toList.map fun b => ((b.toNat : Nat) : Int)
theorem bytesN_len (s : ByteArray) : (bytesN s).length = s.size := by unfold bytesN; rw [List.length_map]; rfl
theorem bytesN_rng (s : ByteArray) : ∀ x ∈ bytesN s, 0 ≤ x ∧ x ≤ 255 := by
  intro x hx
  obtain ⟨b, _, rfl⟩ := List.mem_map.1 hx
  have := b.toNat_lt
  omega
theorem bytesN_get (s : ByteArray) {k : Nat} (hk : k < s.size) : (bytesN s)[k]? = some (((s.data.toList.getD k 0).toNat : Nat) : Int) := by
  have hl : k < s.data.toList.length := hk
  unfold bytesN
  rw [List.getElem?_map, List.getElem?_eq_getElem hl, List.getD_eq_getElem?_getD, List.getElem?_eq_getElem hl]
  rfl
theorem fdD_len (d : Dc) (b : Int) : (fdD d b).2.length ≤ 2 := by
  have h1 : (fstD b).2.length ≤ 1 := by unfold fstD; split <;> (try split) <;> simp
  unfold fdD
  split
  · omega
  · split
    · simp; omega
    · split <;> simp
theorem outD_len : ∀ (l : List Int) (d : Dc), (outD d l).length ≤ 2 * l.length
  | [], _ => by simp [outD]
  | b :: l, d => by
    have h1 := outD_len l (fdD d b).1
    have h2 := fdD_len d b
    show ((fdD d b).2 ++ outD (fdD d b).1 l).length ≤ _
    rw [List.length_append, List.length_cons]
    omega
theorem endD_len (d : Dc) : (endD d).length ≤ 1 := by unfold endD; split <;> simp
theorem decS_len (l : List Int) : (decS Dc0 l).length ≤ 2 * l.length + 1 := by
  have h1 := outD_len l Dc0
  have h2 := endD_len (stD Dc0 l)
  rw [decS_out, List.length_append]
  omega
end Go.Proofs.YtkeainhjghdfcaaGreat

/- Glyphs read again, plainly: a line of glyphs, sent as bytes, is taken for these. No program is named here. -/
namespace Go.Proofs.YtkeainhjghdfcaaGreat
open Go.RowKit

/-- a state behind scalars -/
def stF (T : Tab) : St → List Int → St
  | st, [] => st
  | st, r :: l => stF T (nextSt T st r) l
/-- no cluster begins within -/
def noCut (T : Tab) : St → List Int → Prop
  | _, [] => True
  | st, r :: l => cutB T st r = false ∧ noCut T (nextSt T st r) l
/-- one cluster, from a fresh start -/
def solid (T : Tab) (g : List Int) : Prop := ∃ a l, g = a :: l ∧ noCut T (nextSt T St0 a) l
/-- clusters, one behind the other, behind a state -/
def ChG (T : Tab) : St → List (List Int) → Prop
  | _, [] => True
  | st, g :: L => solid T g ∧ cutB T st (g.headD 0) = true ∧ ChG T (stF T St0 g) L
def lastS (T : Tab) : St → List (List Int) → St
  | st, [] => st
  | _, g :: L => lastS T (stF T St0 g) L
theorem stF_app (T : Tab) : ∀ (a : List Int) (st : St) (b : List Int), stF T st (a ++ b) = stF T (stF T st a) b
  | [], _, _ => rfl
  | x :: a, st, b => stF_app T a (nextSt T st x) b
theorem noCut_app (T : Tab) : ∀ (a : List Int) (st : St) (b : List Int), noCut T st (a ++ b) ↔ noCut T st a ∧ noCut T (stF T st a) b
  | [], _, _ => ⟨fun h => ⟨trivial, h⟩, fun h => h.2⟩
  | x :: a, st, b => by
    have ih := noCut_app T a (nextSt T st x) b
    show (_ ∧ noCut T (nextSt T st x) (a ++ b)) ↔ (_ ∧ noCut T (nextSt T st x) a) ∧ _
    rw [ih, and_assoc]
    rfl
theorem ChG_app (T : Tab) : ∀ (A : List (List Int)) (st : St) (B : List (List Int)), ChG T st (A ++ B) ↔ ChG T st A ∧ ChG T (lastS T st A) B
  | [], _, _ => ⟨fun h => ⟨trivial, h⟩, fun h => h.2⟩
  | g :: A, st, B => by
    have ih := ChG_app T A (stF T St0 g) B
    show (solid T g ∧ _ ∧ ChG T (stF T St0 g) (A ++ B)) ↔ (solid T g ∧ _ ∧ ChG T (stF T St0 g) A) ∧ ChG T (lastS T (stF T St0 g) A) B
    rw [ih]
    exact ⟨fun h => ⟨⟨h.1, h.2.1, h.2.2.1⟩, h.2.2.2⟩, fun h => ⟨h.1.1, h.1.2.1, h.1.2.2, h.2⟩⟩
theorem lastS_app (T : Tab) : ∀ (A : List (List Int)) (st : St) (B : List (List Int)), lastS T st (A ++ B) = lastS T (lastS T st A) B
  | [], _, _ => rfl
  | g :: A, _, B => lastS_app T A (stF T St0 g) B
theorem cut_0 (T : Tab) (r : Int) : cutB T St0 r = true := rfl
theorem ChG.start {T : Tab} {st : St} {L : List (List Int)} (h : ChG T st L) : ChG T St0 L := by
  cases L with
  | nil => trivial
  | cons g L => exact ⟨h.1, cut_0 T _, h.2.2⟩
theorem run_solid (T : Tab) : ∀ (l : List Int) (st : St) (rest : List Int), noCut T st l → (rest = [] ∨ ∃ h t, rest = h :: t ∧ cutB T (stF T st l) h = true) → runLen T st (l ++ rest) = l.length
  | [], st, rest, _, h => by
    rcases h with rfl | ⟨h, t, rfl, hc⟩
    · rfl
    · have hc' : cutB T st h = true := hc
      show (if cutB T st h then 0 else _) = 0
      rw [if_pos hc']
  | x :: l, st, rest, hn, h => by
    show (if cutB T st x then 0 else runLen T (nextSt T st x) (l ++ rest) + 1) = _
    rw [hn.1, if_neg (by decide), run_solid T l (nextSt T st x) rest hn.2 h]
    rfl
theorem solid_ne {T : Tab} {g : List Int} (h : solid T g) : g ≠ [] := by
  obtain ⟨a, l, rfl, _⟩ := h
  simp
/-- clusters, one behind the other, are found again -/
theorem clus_chain (T : Tab) : ∀ (L : List (List Int)), ChG T St0 L → clus T L.flatten = L
  | [], _ => rfl
  | g :: L, h => by
    obtain ⟨⟨a, l, rfl, hn⟩, _, h2⟩ := h
    have hnx : nx T ((a :: l) ++ L.flatten) = (a :: l).length := by
      show runLen T (nextSt T St0 a) (l ++ L.flatten) + 1 = l.length + 1
      rw [run_solid T l _ _ hn ?_]
      cases L with
      | nil => exact .inl rfl
      | cons k L =>
        obtain ⟨⟨b, m, rfl, _⟩, hc, _⟩ := h2
        exact .inr ⟨b, m ++ L.flatten, rfl, hc⟩
    have ih := clus_chain T L h2.start
    rw [List.flatten_cons, clus_step T (by simp), hnx, List.take_left, List.drop_left, ih]
theorem run_cut (T : Tab) : ∀ (l : List Int) (st : St), noCut T st (l.take (runLen T st l)) ∧ (∀ h, l[runLen T st l]? = some h → cutB T (stF T st (l.take (runLen T st l))) h = true)
  | [], st => ⟨trivial, fun h hh => by simp at hh⟩
  | x :: l, st => by
    by_cases hc : cutB T st x = true
    · have e : runLen T st (x :: l) = 0 := by
        show (if cutB T st x then 0 else _) = 0
        rw [if_pos hc]
      rw [e]
      refine ⟨trivial, fun h hh => ?_⟩
      have e : x = h := by simpa using hh
      subst e
      exact hc
    · have e : runLen T st (x :: l) = runLen T (nextSt T st x) l + 1 := by
        show (if cutB T st x then 0 else _) = _
        rw [if_neg hc]
      rw [e, List.take_succ_cons]
      have ih := run_cut T l (nextSt T st x)
      exact ⟨⟨Bool.eq_false_iff.2 hc, ih.1⟩, fun h hh => ih.2 h (by simpa using hh)⟩
/-- a text's clusters are such -/
theorem ch_clus (T : Tab) : ∀ (n : Nat) (s : List Int) (st : St), s.length ≤ n → (∀ h, s[0]? = some h → cutB T st h = true) → ChG T st (clus T s)
  | n, [], _, _, _ => by rw [clus_nil]; trivial
  | 0, a :: l, _, h, _ => by simp at h
  | n + 1, a :: l, st, h, hc => by
    rw [clus_step T (by simp)]
    have hr := run_cut T l (nextSt T St0 a)
    have hnx : nx T (a :: l) = runLen T (nextSt T St0 a) l + 1 := rfl
    rw [hnx, List.take_succ_cons, List.drop_succ_cons]
    refine ⟨⟨a, _, rfl, hr.1⟩, hc a rfl, ch_clus T n _ _ (by rw [List.length_drop]; simp at h; omega) fun k hk => ?_⟩
    rw [List.getElem?_drop, Nat.add_zero] at hk
    exact hr.2 k hk
/-- a scalar with no properties -/
structure dull (T : Tab) (x : Int) : Prop where
  b : T.b x = 0
  p : T.p x = false
  c : T.c x = 0
def StD : St := ⟨true, 0, 0, 0, false⟩
theorem dull_next {T : Tab} {x : Int} (h : dull T x) (st : St) : nextSt T st x = StD := by
  unfold nextSt nextP nextC
  rw [h.b, h.p, h.c, if_neg (by decide), if_neg (by omega), if_neg (by omega), if_neg (by decide), if_neg (by omega), if_neg (by omega)]
  rfl
theorem dull_solid {T : Tab} (x : Int) : solid T [x] := ⟨x, [], rfl, trivial⟩
theorem hang_0 (a : Int) : hangulB a 0 = false := by unfold hangulB; simp
theorem hang_0' (b : Int) : hangulB 0 b = false := by unfold hangulB; simp
theorem dull_cut {T : Tab} {x : Int} (h : dull T x) {st : St} (h7 : st.last ≠ 7) : cutB T st x = true := by
  unfold cutB
  have hs : sticksB st.last 0 = false := by
    unfold sticksB
    split
    · rfl
    · split
      · rfl
      · rw [if_neg (show ¬ ((0 : Int) = 1 ∨ (0 : Int) = 2 ∨ (0 : Int) = 3) by decide), if_neg (show ¬ ((0 : Int) = 4 ∨ (0 : Int) = 5 ∨ (0 : Int) = 8) by decide)]
        first
          | rw [if_neg h7, hang_0]
          | rw [hang_0]
  rw [h.b, h.p, h.c, hs]
  simp
theorem D_cut {T : Tab} {r : Int} (h4 : T.b r ≠ 4) (h5 : T.b r ≠ 5) (h8 : T.b r ≠ 8) : cutB T StD r = true := by
  have hs : sticksB 0 (T.b r) = false := by
    unfold sticksB
    rw [if_neg (by decide), if_neg (by decide)]
    split
    · rfl
    · rw [if_neg (by omega), if_neg (by decide), hang_0']
  unfold cutB StD
  rw [hs]
  simp
theorem dull_stick {T : Tab} {x r : Int} (h : dull T x) (hr : T.b r = 4 ∨ T.b r = 5 ∨ T.b r = 8) : cutB T (nextSt T St0 x) r = false ∧ nextSt T (nextSt T St0 x) r = nextSt T St0 r := by
  rw [dull_next h]
  constructor
  · have hs : sticksB 0 (T.b r) = true := by
      unfold sticksB
      rw [if_neg (by decide), if_neg (by decide), if_neg (by omega), if_pos hr]
    unfold cutB StD
    rw [hs]
    rfl
  · unfold nextSt nextP nextC StD St0
    have h6 : decide (T.b r = 6) = false := decide_eq_false (by omega)
    rw [h6]
/-- the state behind a cluster, and that behind its glyphs -/
def Akin (st st' : St) : Prop := (st' = st ∧ st.last ≠ 7) ∨ st' = StD
theorem Akin.last {st st' : St} (h : Akin st st') : st'.last ≠ 7 := by
  rcases h with ⟨rfl, h⟩ | rfl
  · exact h
  · decide
/-- dull scalars, each alone -/
theorem dulls_chain {T : Tab} : ∀ (L : List (List Int)) (st : St), (∀ g ∈ L, ∃ x, g = [x] ∧ dull T x) → st.last ≠ 7 → ChG T st L ∧ (L ≠ [] → lastS T st L = StD)
  | [], _, _, _ => ⟨trivial, fun h => absurd rfl h⟩
  | g :: L, st, h, h7 => by
    obtain ⟨x, rfl, hx⟩ := h g List.mem_cons_self
    have hs : stF T St0 [x] = StD := dull_next hx St0
    obtain ⟨i1, i2⟩ := dulls_chain L StD (fun k hk => h k (List.mem_cons_of_mem _ hk)) (by decide)
    refine ⟨⟨dull_solid x, dull_cut hx h7, by rw [hs]; exact i1⟩, fun _ => ?_⟩
    show lastS T (stF T St0 [x]) L = StD
    rw [hs]
    cases L with
    | nil => rfl
    | cons k L => exact i2 (by simp)
theorem stF_last (T : Tab) : ∀ (l : List Int) (st : St), l ≠ [] → (stF T st l).last = T.b (l.getLastD 0)
  | [], _, h => absurd rfl h
  | [x], _, _ => rfl
  | x :: y :: l, st, _ => by
    show (stF T (nextSt T st x) (y :: l)).last = _
    rw [stF_last T (y :: l) _ (by simp)]
    simp [List.getLastD]
section
variable (R : List Rw)
/-- what a scalar that controls is shown as -/
def caretS (r : Int) : List (List Int) := if 0 ≤ r ∧ r < 32 then [[94], [r + 64]] else if r = 127 then [[94], [63]] else [[65533]]
/-- the scalars of a cluster's glyphs -/
def sclOf (c : List Int) : List (List Int) := if c = [] then [] else if ctlB ((tabOf R).b (c.headD 0)) then c.flatMap caretS else [lean R c]
/-- scalars that stand for others have no properties -/
structure DullR : Prop where
  d : ∀ x, (x = 94 ∨ x = 63 ∨ x = 65533 ∨ x = 9676 ∨ x = 120 ∨ x = 121 ∨ (64 ≤ x ∧ x < 96)) → dull (tabOf R) x
  w : ∀ x, (x = 94 ∨ x = 63 ∨ x = 65533 ∨ x = 9676 ∨ x = 120 ∨ x = 121 ∨ (64 ≤ x ∧ x < 96)) → wideB R x = false
variable {R}
theorem caret_dull (D : DullR R) (r : Int) : ∀ g ∈ caretS r, ∃ x, g = [x] ∧ dull (tabOf R) x := by
  intro g hg
  unfold caretS at hg
  split at hg
  · rename_i h
    simp only [List.mem_cons, List.not_mem_nil, or_false] at hg
    rcases hg with rfl | rfl
    · exact ⟨_, rfl, D.d _ (.inl rfl)⟩
    · exact ⟨_, rfl, D.d _ (by omega)⟩
  · split at hg
    · simp only [List.mem_cons, List.not_mem_nil, or_false] at hg
      rcases hg with rfl | rfl
      · exact ⟨_, rfl, D.d _ (.inl rfl)⟩
      · exact ⟨_, rfl, D.d _ (.inr (.inl rfl))⟩
    · simp only [List.mem_cons, List.not_mem_nil, or_false] at hg
      subst hg
      exact ⟨_, rfl, D.d _ (by omega)⟩
theorem caretS_ne (r : Int) : caretS r ≠ [] := by
  unfold caretS
  split
  · simp
  · split <;> simp
/-- a cluster that leans on nothing -/
theorem lean_solid (D : DullR R) {c : List Int} (hs : solid (tabOf R) c) (hc : ctlB ((tabOf R).b (c.headD 0)) = false) :
    solid (tabOf R) (lean R c) ∧ Akin (stF (tabOf R) St0 c) (stF (tabOf R) St0 (lean R c)) ∧
    ((lean R c).headD 0 = 9676 ∨ ((lean R c).headD 0 = c.headD 0 ∧ dotB ((tabOf R).b (c.headD 0)) = false)) := by
  have d9 := D.d 9676 (by omega)
  obtain ⟨a, l, rfl, hn⟩ := hs
  -- what stands ahead
  have h1 : ∃ l1, (if dotB ((tabOf R).b ((a :: l).headD 0)) then [9676] else []) ++ (a :: l) = l1 ∧ solid (tabOf R) l1 ∧ stF (tabOf R) St0 l1 = stF (tabOf R) St0 (a :: l) ∧ (l1.headD 0 = 9676 ∨ (l1.headD 0 = a ∧ dotB ((tabOf R).b a) = false)) ∧ l1 ≠ [] := by
    by_cases hd : dotB ((tabOf R).b a) = true
    · have hb : (tabOf R).b a = 4 ∨ (tabOf R).b a = 5 ∨ (tabOf R).b a = 8 := by simpa [dotB, or_assoc] using hd
      obtain ⟨e1, e2⟩ := dull_stick d9 hb
      refine ⟨9676 :: a :: l, by rw [List.headD_cons, if_pos hd]; rfl, ⟨9676, a :: l, rfl, e1, by rw [e2]; exact hn⟩, ?_, .inl rfl, by simp⟩
      show stF (tabOf R) (nextSt (tabOf R) (nextSt (tabOf R) St0 9676) a) l = stF (tabOf R) (nextSt (tabOf R) St0 a) l
      rw [e2]
    · refine ⟨a :: l, by rw [List.headD_cons, if_neg hd]; rfl, ⟨a, l, rfl, hn⟩, rfl, .inr ⟨rfl, Bool.eq_false_iff.2 hd⟩, by simp⟩
  obtain ⟨l1, e1, hs1, hst, hh, hne⟩ := h1
  have hlast := stF_last (tabOf R) (a :: l) St0 (by simp)
  unfold lean
  rw [e1]
  by_cases h7 : (tabOf R).b ((a :: l).getLastD 0) = 7
  · rw [if_pos h7]
    obtain ⟨x, m, rfl, hm⟩ := hs1
    refine ⟨⟨x, m ++ [9676], rfl, (noCut_app _ _ _ _).2 ⟨hm, ?_, trivial⟩⟩, .inr ?_, ?_⟩
    · have hst' : stF (tabOf R) (nextSt (tabOf R) St0 x) m = stF (tabOf R) St0 (a :: l) := hst
      rw [hst']
      have hsm : ∀ (k : List Int) (st : St), st.some = true → (stF (tabOf R) st k).some = true := by
        intro k
        induction k with
        | nil => intro st h; exact h
        | cons y k ih => intro st _; exact ih _ rfl
      have hsome : (stF (tabOf R) St0 (a :: l)).some = true := hsm l _ rfl
      have hs7 : sticksB 7 0 = true := by decide
      unfold cutB
      rw [hlast, h7, d9.b, hs7, hsome]
      rfl
    · rw [List.cons_append, show x :: (m ++ [9676]) = (x :: m) ++ [9676] from rfl, stF_app]
      exact dull_next d9 _
    · exact hh
  · rw [if_neg h7, List.append_nil]
    refine ⟨hs1, .inl ⟨hst, by rw [hlast]; exact h7⟩, hh⟩
/-- glyphs of clusters, one behind the other -/
theorem scl_chain (D : DullR R) : ∀ (L : List (List Int)) (st st' : St), ChG (tabOf R) st L → Akin st st' → ChG (tabOf R) st' (L.flatMap (sclOf R)) ∧ (lastS (tabOf R) st' (L.flatMap (sclOf R))).last ≠ 7
  | [], _, _, _, hA => ⟨trivial, hA.last⟩
  | c :: L, st, st', h, hA => by
    obtain ⟨hs, hcut, hL⟩ := h
    have hne := solid_ne hs
    rw [List.flatMap_cons, ChG_app, lastS_app]
    have key : ChG (tabOf R) st' (sclOf R c) ∧ Akin (stF (tabOf R) St0 c) (lastS (tabOf R) st' (sclOf R c)) := by
      unfold sclOf
      rw [if_neg hne]
      by_cases hc : ctlB ((tabOf R).b (c.headD 0)) = true
      · rw [if_pos hc]
        have h1 := dulls_chain (T := tabOf R) (c.flatMap caretS) st' (fun g hg => by
          obtain ⟨r, _, hr⟩ := List.mem_flatMap.1 hg
          exact caret_dull D r g hr) hA.last
        refine ⟨h1.1, .inr (h1.2 ?_)⟩
        cases c with
        | nil => exact absurd rfl hne
        | cons r c =>
          rw [List.flatMap_cons]
          intro e
          exact caretS_ne r (List.append_eq_nil_iff.1 e).1
      · rw [if_neg hc]
        have hc' : ctlB ((tabOf R).b (c.headD 0)) = false := Bool.eq_false_iff.2 hc
        obtain ⟨h1, h2, h3⟩ := lean_solid D hs hc'
        refine ⟨⟨h1, ?_, trivial⟩, h2⟩
        rcases h3 with h3 | ⟨h3, h4⟩
        · rw [h3]
          exact dull_cut (D.d 9676 (by omega)) hA.last
        · rw [h3]
          rcases hA with ⟨rfl, _⟩ | rfl
          · exact hcut
          · have hb : (tabOf R).b (c.headD 0) ≠ 4 ∧ (tabOf R).b (c.headD 0) ≠ 5 ∧ (tabOf R).b (c.headD 0) ≠ 8 := by
              simp only [dotB, Bool.or_eq_false_iff, decide_eq_false_iff_not] at h4
              exact ⟨h4.1.1, h4.1.2, h4.2⟩
            exact D_cut hb.1 hb.2.1 hb.2.2
    have ih := scl_chain D L _ _ hL key.2
    exact ⟨⟨key.1, ih.1⟩, ih.2⟩
end
end Go.Proofs.YtkeainhjghdfcaaGreat

/- glyph.Read, the document's Right. -/
namespace Go.Proofs.YtkeainhjghdfcaaGreat
open Go.RowKit

theorem fstD_rng {b : Int} (h0 : 0 ≤ b) (h1 : b ≤ 255) : ∀ x ∈ (fstD b).2, 0 ≤ x ∧ x ≤ 2097151 := by
  intro x hx
  unfold fstD at hx
  split at hx
  · simp at hx; omega
  · split at hx
    · simp at hx; omega
    · simp at hx
theorem fdD_rng {d : Dc} (hd : DcOk d) {b : Int} (h0 : 0 ≤ b) (h1 : b ≤ 255) : ∀ x ∈ (fdD d b).2, 0 ≤ x ∧ x ≤ 2097151 := by
  intro x hx
  unfold fdD at hx
  split at hx
  · exact fstD_rng h0 h1 x hx
  · split at hx
    · simp only [List.mem_cons] at hx
      rcases hx with rfl | hx
      · omega
      · exact fstD_rng h0 h1 x hx
    · split at hx
      · rename_i h2
        have := hd.vl
        simp at hx
        omega
      · simp at hx
theorem decS_rng : ∀ (l : List Int) (d : Dc), DcOk d → (∀ x ∈ l, 0 ≤ x ∧ x ≤ 255) → ∀ x ∈ decS d l, 0 ≤ x ∧ x ≤ 2097151
  | [], d, _, _ => by
    intro x hx
    unfold decS endD at hx
    split at hx <;> simp at hx
    omega
  | b :: l, d, hd, hb => by
    intro x hx
    have hb0 := hb b List.mem_cons_self
    rcases List.mem_append.1 (show x ∈ (fdD d b).2 ++ decS (fdD d b).1 l from hx) with h | h
    · exact fdD_rng hd hb0.1 hb0.2 x h
    · exact decS_rng l _ (dcOk_feed hd hb0.1 hb0.2) (fun y hy => hb y (List.mem_cons_of_mem _ hy)) x h
theorem decS_ok (s : ByteArray) : RunesOk (decS Dc0 (bytesN s)) := fun x hx => by
  have := decS_rng (bytesN s) Dc0 dcOk_0 (bytesN_rng s) x hx
  unfold I32
  omega
/-- what a terminal takes scalars for -/
def rdG (R : List Rw) (c : List Int) : Gy := (enc c, ((widN R c : Nat) : Int))
def readG (R : List Rw) (l : List Int) : List Gy := (clus (tabOf R) l).map (rdG R)
section
variable {R : List Rw} {w : World} {tp : Nat}
end
section
variable {w : World} {sv : Value} {s : List Int}
end
end Go.Proofs.YtkeainhjghdfcaaGreat

/- A line of glyphs, sent as bytes, read again; facts of the given rows. -/
namespace Go.Proofs.YtkeainhjghdfcaaGreat
open Go.RowKit

/-- no property at all -/
def dullB (R : List Rw) (x : Int) : Bool := decide (brkR R x = 0) && (!decide (ofA R 5 x = 1) && (decide (conjR R x = 0) && !decide (ofA R 7 x = 1)))
def dullEx (R : List Rw) : Bool := ([94, 63, 65533, 9676, 120, 121] : List Int).all (dullB R) && (List.range 32).all (fun i => dullB R (64 + (i : Int)))
theorem dullR_of {R : List Rw} (h : dullEx R = true) : DullR R := by
  unfold dullEx at h
  rw [Bool.and_eq_true, List.all_eq_true, List.all_eq_true] at h
  have key : ∀ x, (x = 94 ∨ x = 63 ∨ x = 65533 ∨ x = 9676 ∨ x = 120 ∨ x = 121 ∨ (64 ≤ x ∧ x < 96)) → dullB R x = true := by
    intro x hx
    by_cases hr : 64 ≤ x ∧ x < 96
    · have := h.2 (x - 64).toNat (List.mem_range.2 (by omega))
      rwa [show (64 : Int) + ((x - 64).toNat : Nat) = x by omega] at this
    · refine h.1 x ?_
      simp only [List.mem_cons, List.not_mem_nil, or_false]
      omega
  have key2 : ∀ x, dullB R x = true → brkR R x = 0 ∧ ¬ ofA R 5 x = 1 ∧ conjR R x = 0 ∧ ¬ ofA R 7 x = 1 := by
    intro x hx
    simpa only [dullB, Bool.and_eq_true, decide_eq_true_eq, Bool.not_eq_true', decide_eq_false_iff_not] using hx
  exact ⟨fun x hx => ⟨(key2 x (key x hx)).1, decide_eq_false (key2 x (key x hx)).2.1, (key2 x (key x hx)).2.2.1⟩, fun x hx => decide_eq_false (key2 x (key x hx)).2.2.2⟩
/-! bytes of texts -/
theorem bytesN_nums {xs : List Int} (h : ∀ x ∈ xs, 0 ≤ x ∧ x ≤ 255) : bytesN (strOfNums xs) = xs := by
  unfold bytesN
  rw [strOfNums_data, List.map_map]
  have : ∀ x ∈ xs, ((fun b : UInt8 => ((b.toNat : Nat) : Int)) ∘ fun n : Int => UInt8.ofNat n.toNat) x = x := by
    intro x hx
    obtain ⟨h0, h1⟩ := h x hx
    show (((UInt8.ofNat x.toNat).toNat : Nat) : Int) = x
    rw [UInt8.toNat_ofNat']
    omega
  rw [List.map_congr_left this, List.map_id']
theorem bytesN_enc (l : List Int) : bytesN (enc l) = encN l := bytesN_nums (encN_rng l)
theorem bytesN_app (a b : ByteArray) : bytesN (a ++ b) = bytesN a ++ bytesN b := by
  unfold bytesN
  rw [ByteArray.data_append]
  simp
theorem bytesN_cat : ∀ (G : List Gy) (b0 : ByteArray), bytesN (catG b0 G) = bytesN b0 ++ G.flatMap (fun g => bytesN g.1)
  | [], b0 => by show bytesN b0 = _; simp
  | g :: G, b0 => by
    show bytesN (catG (b0 ++ g.1) G) = _
    rw [bytesN_cat G, bytesN_app, List.flatMap_cons, List.append_assoc]
theorem cat_scl (R : List Rw) (L : List (List Int)) : (L.map (rdG R)).flatMap (fun g => bytesN g.1) = encN L.flatten := by
  induction L with
  | nil => rfl
  | cons c L ih =>
    rw [List.map_cons, List.flatMap_cons, ih, List.flatten_cons]
    unfold encN
    rw [List.flatMap_append]
    congr 1
    exact bytesN_enc c
section
variable {R : List Rw}
theorem wid_dull {x : Int} (h : wideB R x = false) : widN R [x] = 1 := by
  unfold widN hitsF hitsF hitB
  rw [h]
  simp
theorem caret_rd (D : DullR R) (r : Int) : caretG r = (caretS r).map (rdG R) := by
  unfold caretG caretS
  split
  · rename_i hr
    have e1 : enc [94] = (⟨#[94]⟩ : ByteArray) := by decide
    have hv : validB (r + 64) = true := validB_iff.2 (.inl ⟨by omega, by omega⟩)
    have e2 : enc [r + 64] = strOfNums [r + 64] := by
      unfold enc encN
      rw [List.flatMap_cons, List.flatMap_nil, List.append_nil]
      unfold putN
      rw [fixR_ok hv, if_pos (by omega)]
    show _ = [rdG R [94], rdG R [r + 64]]
    unfold rdG
    rw [e1, e2, wid_dull (D.w 94 (by omega)), wid_dull (D.w (r + 64) (by omega))]
    rfl
  · split
    · have e1 : enc [94] = (⟨#[94]⟩ : ByteArray) := by decide
      have e2 : enc [63] = (⟨#[63]⟩ : ByteArray) := by decide
      show _ = [rdG R [94], rdG R [63]]
      unfold rdG
      rw [e1, e2, wid_dull (D.w 94 (by omega)), wid_dull (D.w 63 (by omega))]
      rfl
    · have e1 : enc [65533] = put 65533 := by unfold enc put encN; rw [List.flatMap_cons, List.flatMap_nil, List.append_nil]
      show _ = [rdG R [65533]]
      unfold rdG
      rw [e1, wid_dull (D.w 65533 (by omega))]
      rfl
theorem gl_scl (D : DullR R) (c : List Int) : glOf R c = (sclOf R c).map (rdG R) := by
  unfold glOf sclOf
  split
  · rfl
  · split
    · rw [List.map_flatMap]
      congr 1
      funext r
      exact caret_rd D r
    · rfl
theorem line_scl (D : DullR R) (LL : List (List Int)) : lineG R LL = (LL.flatMap (sclOf R)).map (rdG R) := by
  unfold lineG
  rw [List.map_flatMap]
  congr 1
  funext c
  exact gl_scl D c
end
end Go.Proofs.YtkeainhjghdfcaaGreat

/- A row of words, with blanks between, read again: the same glyphs, whatever the scalars. No program is named here. -/
namespace Go.Proofs.YtkeainhjghdfcaaGreat
open Go.RowKit

/-- what is no scalar has no properties -/
structure FixR (R : List Rw) : Prop where
  b : ∀ x, (tabOf R).b (fixR x) = (tabOf R).b x
  p : ∀ x, (tabOf R).p (fixR x) = (tabOf R).p x
  c : ∀ x, (tabOf R).c (fixR x) = (tabOf R).c x
  w : ∀ x, wideB R (fixR x) = wideB R x
theorem putN_fix (x : Int) : putN (fixR x) = putN x := by
  have h : fixR (fixR x) = fixR x := by
    rcases hv : validB x with _ | _
    · rw [fixR_bad hv]; decide
    · rw [fixR_ok hv, fixR_ok hv]
  unfold putN
  rw [h]
theorem encN_fix (l : List Int) : encN (l.map fixR) = encN l := by
  unfold encN
  rw [List.flatMap_map]
  congr 1
  funext x
  exact putN_fix x
theorem enc_fix (l : List Int) : enc (l.map fixR) = enc l := by unfold enc; rw [encN_fix]
theorem fix_valid (x : Int) : validB (fixR x) = true := by
  rcases hv : validB x with _ | _
  · rw [fixR_bad hv]; decide
  · rw [fixR_ok hv]; exact hv
section
variable {R : List Rw}
theorem next_fix (F : FixR R) (st : St) (x : Int) : nextSt (tabOf R) st (fixR x) = nextSt (tabOf R) st x := by
  unfold nextSt nextP nextC
  rw [F.b, F.p, F.c]
theorem cut_fix (F : FixR R) (st : St) (x : Int) : cutB (tabOf R) st (fixR x) = cutB (tabOf R) st x := by
  unfold cutB
  rw [F.b, F.p, F.c]
theorem run_fix (F : FixR R) : ∀ (l : List Int) (st : St), runLen (tabOf R) st (l.map fixR) = runLen (tabOf R) st l
  | [], _ => rfl
  | x :: l, st => by
    show (if cutB (tabOf R) st (fixR x) then 0 else runLen (tabOf R) (nextSt (tabOf R) st (fixR x)) (l.map fixR) + 1) = (if cutB (tabOf R) st x then 0 else runLen (tabOf R) (nextSt (tabOf R) st x) l + 1)
    rw [cut_fix F, next_fix F, run_fix F]
theorem nx_fix (F : FixR R) (l : List Int) : nx (tabOf R) (l.map fixR) = nx (tabOf R) l := by
  match l with
  | [] => rfl
  | x :: l =>
    show runLen (tabOf R) (nextSt (tabOf R) St0 (fixR x)) (l.map fixR) + 1 = runLen (tabOf R) (nextSt (tabOf R) St0 x) l + 1
    rw [next_fix F, run_fix F]
theorem clus_fix (F : FixR R) : ∀ (n : Nat) (l : List Int), l.length ≤ n → clus (tabOf R) (l.map fixR) = (clus (tabOf R) l).map (List.map fixR)
  | 0, l, h => by rw [show l = [] from List.eq_nil_of_length_eq_zero (by omega)]; rfl
  | n + 1, l, h => by
    by_cases hl : l = []
    · subst hl; rfl
    · have hm : l.map fixR ≠ [] := fun e => hl (List.map_eq_nil_iff.1 e)
      have hp := List.length_pos_iff.2 hl
      have hx : 1 ≤ nx (tabOf R) l := by
        match l, hl with
        | x :: l, _ => exact Nat.succ_le_succ (Nat.zero_le _)
      rw [clus_step _ hm, clus_step _ hl, nx_fix F, List.map_cons, List.map_take, ← List.map_drop, clus_fix F n _ (by rw [List.length_drop]; omega)]
theorem hits_fix (F : FixR R) (c0 : Int) : ∀ (l : List Int) (i : Nat), hitsF R (fixR c0) i (l.map fixR) = hitsF R c0 i l
  | [], _ => rfl
  | x :: l, i => by
    show (hitB R (fixR c0) i (fixR x) || hitsF R (fixR c0) (i + 1) (l.map fixR)) = (hitB R c0 i x || hitsF R c0 (i + 1) l)
    rw [hits_fix F]
    congr 1
    have e : decide (fixR x = 65039) = decide (x = 65039) := by
      rcases hv : validB x with _ | _
      · rw [fixR_bad hv]
        have : x ≠ 65039 := fun e => by rw [e] at hv; exact absurd hv (by decide)
        rw [decide_eq_false this]; decide
      · rw [fixR_ok hv]
    unfold hitB
    rw [F.w, F.p, F.b, F.b, e]
theorem wid_fix (F : FixR R) (l : List Int) (h : l ≠ []) : widN R (l.map fixR) = widN R l := by
  match l, h with
  | x :: l, _ =>
    unfold widN
    show (if hitsF R (fixR x) 0 ((x :: l).map fixR) then 2 else 1) = _
    rw [hits_fix F]
    rfl
theorem rdG_fix (F : FixR R) (l : List Int) (h : l ≠ []) : rdG R (l.map fixR) = rdG R l := by
  unfold rdG
  rw [enc_fix, wid_fix F l h]
/-- glyphs that stand in a chain are read again -/
theorem read_chain (F : FixR R) {L : List (List Int)} (h : ChG (tabOf R) St0 L) (hne : ∀ g ∈ L, g ≠ []) : readG R (decS Dc0 (bytesN (catG ⟨#[]⟩ (L.map (rdG R))))) = L.map (rdG R) := by
  rw [bytesN_cat, cat_scl]
  show readG R (decS Dc0 (encN L.flatten)) = _
  rw [← encN_fix, dec_enc _ (fun x hx => by obtain ⟨y, _, rfl⟩ := List.mem_map.1 hx; exact fix_valid y)]
  unfold readG
  rw [clus_fix F _ _ (Nat.le_refl _), clus_chain _ _ h, List.map_map]
  exact List.map_congr_left fun g hg => rdG_fix F g (hne g hg)
end
end Go.Proofs.YtkeainhjghdfcaaGreat

/- A row of words as glyphs: its text, that they are read again, how wide it is. No program is named here. -/
namespace Go.Proofs.YtkeainhjghdfcaaGreat
open Go.RowKit

/-- a blank has no properties -/
structure BlankR (R : List Rw) : Prop where
  d : dull (tabOf R) 32
  w : wideB R 32 = false
/-- a text's glyphs, as scalars -/
def sclW (R : List Rw) (s : List Int) : List (List Int) := (clus (tabOf R) s).flatMap (sclOf R)
theorem rd_blank {R : List Rw} (B : BlankR R) : rdG R [32] = (⟨#[32]⟩, 1) := by
  unfold rdG
  rw [show enc [32] = (⟨#[32]⟩ : ByteArray) by decide, wid_dull B.w]; rfl
theorem catG_app (b0 : ByteArray) (A B : List Gy) : catG b0 (A ++ B) = catG (catG b0 A) B := by unfold catG; rw [List.foldl_append]
theorem catG_from : ∀ (G : List Gy) (b0 : ByteArray), catG b0 G = b0 ++ catG ⟨#[]⟩ G
  | [], b0 => by show b0 = b0 ++ ⟨#[]⟩; apply ba_ext; rw [ba_app]; simp
  | g :: G, b0 => by
    show catG (b0 ++ g.1) G = b0 ++ catG (⟨#[]⟩ ++ g.1) G
    rw [catG_from G (b0 ++ g.1), catG_from G (⟨#[]⟩ ++ g.1), ← ByteArray.append_assoc, ← ByteArray.append_assoc]
    congr 2
    apply ba_ext
    rw [ba_app]
    simp
theorem catG_blanks (b0 : ByteArray) : ∀ n : Nat, catG b0 (List.replicate n ((⟨#[32]⟩ : ByteArray), (1 : Int))) = b0 ++ repB n
  | 0 => by show b0 = _; apply ba_ext; rw [ba_app]; simp [repB_zero]
  | n + 1 => by rw [List.replicate_succ', catG_snoc, catG_blanks b0 n, ByteArray.append_assoc, repB_succ]
theorem wdG_blanks : ∀ n : Nat, wdG (List.replicate n ((⟨#[32]⟩ : ByteArray), (1 : Int))) = n
  | 0 => rfl
  | n + 1 => by rw [List.replicate_succ', wdG_app, wdG_blanks n, wdG_one]; simp
section
variable (R : List Rw) (W : List Int) (LL : List (List Int)) (rows : Nat)
/-- word j and the blanks behind it -/
def pieceS (j : Nat) : List (List Int) := sclW R (LL.getD j []) ++ (if j + rows < W.length then List.replicate (gapN W rows j) [32] else [])
/-- row r with the words ahead of i -/
def rowS (r : Nat) : Nat → List (List Int)
  | 0 => []
  | i + 1 => if i % rows = r ∧ i < W.length then rowS r i ++ pieceS R W LL rows i else rowS r i
variable {R W LL rows}
theorem rowS_hit {r i : Nat} (h : i % rows = r) (hi : i < W.length) : rowS R W LL rows r (i + 1) = rowS R W LL rows r i ++ pieceS R W LL rows i := by
  show (if i % rows = r ∧ i < W.length then _ else _) = _
  rw [if_pos ⟨h, hi⟩]
theorem rowS_miss {r i : Nat} (h : i % rows ≠ r) : rowS R W LL rows r (i + 1) = rowS R W LL rows r i := by
  show (if i % rows = r ∧ i < W.length then _ else _) = _
  rw [if_neg (fun e => h e.1)]
theorem rowS_out {r i : Nat} (h : W.length ≤ i) : rowS R W LL rows r (i + 1) = rowS R W LL rows r i := by
  show (if i % rows = r ∧ i < W.length then _ else _) = _
  rw [if_neg (fun e => by omega)]
theorem rowS_flat {r i : Nat} (h : i % rows = r) (hr : r < rows) : ∀ k, k < rows → rowS R W LL rows r (i + 1 + k) = rowS R W LL rows r (i + 1)
  | 0, _ => rfl
  | k + 1, hk => by
    rw [show i + 1 + (k + 1) = (i + 1 + k) + 1 by omega, rowS_miss, rowS_flat h hr k (by omega)]
    intro e
    have h1 := Nat.mod_add_div i rows
    have h2 := Nat.mod_add_div (i + 1 + k) rows
    rw [h] at h1
    rw [e] at h2
    have h3 : rows * ((i + 1 + k) / rows) = rows * (i / rows) + (k + 1) := by omega
    have h4 : (k + 1) % rows = 0 := by
      have : k + 1 = rows * ((i + 1 + k) / rows - i / rows) := by rw [Nat.mul_sub]; omega
      rw [this]; exact Nat.mul_mod_right _ _
    rw [Nat.mod_eq_of_lt hk] at h4
    omega
theorem rowS_jump {r i : Nat} (h : i % rows = r) (hr : r < rows) (hi : i < W.length) : rowS R W LL rows r (i + rows) = rowS R W LL rows r i ++ pieceS R W LL rows i := by
  have e := rowS_flat (R := R) (W := W) (LL := LL) h hr (rows - 1) (by omega)
  rw [show i + 1 + (rows - 1) = i + rows by omega] at e
  rw [e, rowS_hit h hi]
theorem rowS_start {r : Nat} (hr : r < rows) : ∀ {i : Nat}, i ≤ r → rowS R W LL rows r i = []
  | 0, _ => rfl
  | i + 1, h => by rw [rowS_miss (by rw [Nat.mod_eq_of_lt (by omega)]; omega), rowS_start hr (by omega)]
theorem rowS_end {r : Nat} : ∀ {i : Nat}, W.length ≤ i → rowS R W LL rows r i = rowS R W LL rows r W.length
  | 0, h => by rw [show W.length = 0 by omega]
  | i + 1, h => by
    by_cases e : i + 1 = W.length
    · rw [e]
    · rw [rowS_out (by omega), rowS_end (by omega)]
/-- the columns of the words ahead -/
def aheadW (W : List Int) (rows q : Nat) : Int := sumL ((planL W rows).take q) + 2 * (q : Int)
/-- what is known of a row with a word to come -/
structure RowUp (R : List Rw) (W : List Int) (TX : List ByteArray) (LL : List (List Int)) (rows r q i : Nat) : Prop where
  at_ : i = r + q * rows
  ch : ChG (tabOf R) St0 (rowS R W LL rows r i)
  st : lastS (tabOf R) St0 (rowS R W LL rows r i) = St0 ∨ lastS (tabOf R) St0 (rowS R W LL rows r i) = StD
  wd : wdG ((rowS R W LL rows r i).map (rdG R)) = aheadW W rows q
  tx : catG ⟨#[]⟩ ((rowS R W LL rows r i).map (rdG R)) = rowT W TX rows r i
theorem rowUp_zero {TX : List ByteArray} {r : Nat} (hr : r < rows) : RowUp R W TX LL rows r 0 r := by
  have e := rowS_start (R := R) (W := W) (LL := LL) hr (Nat.le_refl r)
  refine ⟨by omega, by rw [e]; trivial, .inl (by rw [e]; rfl), by rw [e]; rfl, ?_⟩
  rw [e, rowT_start hr (Nat.le_refl _)]; rfl
theorem scl_map (D : DullR R) (s : List Int) : (sclW R s).map (rdG R) = lineG R (clus (tabOf R) s) := (line_scl D _).symm
theorem scl_go (D : DullR R) (s : List Int) {st : St} (h : st = St0 ∨ st = StD) : ChG (tabOf R) st (sclW R s) ∧ (lastS (tabOf R) st (sclW R s)).last ≠ 7 :=
  scl_chain D (clus (tabOf R) s) St0 st (ch_clus (tabOf R) s.length s St0 (Nat.le_refl _) (fun _ _ => rfl)) (by
    rcases h with rfl | rfl
    · exact .inl ⟨rfl, by decide⟩
    · exact .inr rfl)
theorem div_at {r q rows : Nat} (hr : r < rows) : (r + q * rows) / rows = q ∧ (r + q * rows) % rows = r := by
  constructor
  · rw [Nat.add_mul_div_right _ _ (by omega), Nat.div_eq_of_lt hr, Nat.zero_add]
  · rw [Nat.add_mul_mod_self_right, Nat.mod_eq_of_lt hr]
variable {TX : List ByteArray} {r q i : Nat} {s : List Int}
theorem RowUp.step (D : DullR R) (B : BlankR R) (h : RowUp R W TX LL rows r q i) (hr : r < rows) (hs : LL[i]? = some s) (hw : W[i]? = some (wdG (lineG R (clus (tabOf R) s)))) (ht : TX[i]? = some (catG ⟨#[]⟩ (lineG R (clus (tabOf R) s)))) (hnx : i + rows < W.length) :
    RowUp R W TX LL rows r (q + 1) (i + rows) := by
  obtain ⟨ha, hc, hst, hwd, htx⟩ := h
  obtain ⟨d1, d2⟩ := div_at (q := q) hr
  rw [← ha] at d1 d2
  obtain ⟨M, hM, hMw⟩ := plan_ge (rows := rows) (by omega) hw
  have hj := rowS_jump (R := R) (LL := LL) d2 hr (W := W) (by omega)
  have hp : pieceS R W LL rows i = sclW R s ++ List.replicate (gapN W rows i) [32] := by
    unfold pieceS
    rw [List.getD_eq_getElem?_getD, hs, if_pos hnx]; rfl
  have hgap : ((gapN W rows i : Nat) : Int) = M - wdG (lineG R (clus (tabOf R) s)) + 2 := by
    unfold gapN
    rw [List.getD_eq_getElem?_getD, List.getD_eq_getElem?_getD, hM, hw]
    show ((M - wdG (lineG R (clus (tabOf R) s)) + 2).toNat : Int) = _
    omega
  obtain ⟨h1, h2⟩ := scl_go D s hst
  have h3 := dulls_chain (T := tabOf R) (List.replicate (gapN W rows i) [32]) (lastS (tabOf R) (lastS (tabOf R) St0 (rowS R W LL rows r i)) (sclW R s)) (fun g hg => ⟨32, List.eq_of_mem_replicate hg, B.d⟩) h2
  have hne : List.replicate (gapN W rows i) [(32 : Int)] ≠ [] := fun e => by
    have := congrArg List.length e
    rw [List.length_replicate] at this
    simp at this
    omega
  have hmap : (List.replicate (gapN W rows i) [(32 : Int)]).map (rdG R) = List.replicate (gapN W rows i) (⟨#[32]⟩, 1) := by rw [List.map_replicate, rd_blank B]
  refine ⟨by rw [Nat.succ_mul]; omega, ?_, .inr ?_, ?_, ?_⟩
  · rw [hj, hp, ChG_app, ChG_app]
    exact ⟨hc, h1, h3.1⟩
  · rw [hj, hp, lastS_app, lastS_app]
    exact h3.2 hne
  · rw [hj, hp, List.map_append, List.map_append, wdG_app, wdG_app, hwd, scl_map D, hmap, wdG_blanks, hgap]
    rw [d1] at hM
    unfold aheadW
    rw [take_snoc' hM, sumL_snoc]
    omega
  · rw [hj, hp, List.map_append, List.map_append, catG_app, catG_app, htx, scl_map D, hmap, catG_blanks, catG_from, rowT_jump d2 hr (by omega)]
    unfold pieceT
    rw [List.getD_eq_getElem?_getD, ht, if_pos hnx, ByteArray.append_assoc]
    rfl
theorem sumL_mono {zs : List Int} (h : ∀ z ∈ zs, 0 ≤ z) : ∀ {a b : Nat}, a ≤ b → sumL (zs.take a) ≤ sumL (zs.take b)
  | a, 0, hab => by rw [show a = 0 by omega]; exact Int.le_refl _
  | a, b + 1, hab => by
    by_cases e : a = b + 1
    · rw [e]; exact Int.le_refl _
    · have ih := sumL_mono h (a := a) (b := b) (by omega)
      rcases hz : zs[b]? with _ | z
      · have := List.getElem?_eq_none_iff.1 hz
        rw [List.take_of_length_le (by omega : zs.length ≤ b + 1)]
        rw [List.take_of_length_le this] at ih
        exact ih
      · rw [take_snoc' hz, sumL_snoc]
        have := h z (List.mem_of_getElem? hz)
        omega
theorem RowUp.last (D : DullR R) (h : RowUp R W TX LL rows r q i) (hr : r < rows) (h0 : ∀ z ∈ planL W rows, 0 ≤ z) (hs : LL[i]? = some s) (hw : W[i]? = some (wdG (lineG R (clus (tabOf R) s)))) (ht : TX[i]? = some (catG ⟨#[]⟩ (lineG R (clus (tabOf R) s)))) (hnx : ¬ i + rows < W.length) :
    ChG (tabOf R) St0 (rowS R W LL rows r W.length) ∧ catG ⟨#[]⟩ ((rowS R W LL rows r W.length).map (rdG R)) = rowT W TX rows r W.length ∧ wdG ((rowS R W LL rows r W.length).map (rdG R)) ≤ totalL (planL W rows) ∧ rowT W TX rows r W.length = rowT W TX rows r i ++ catG ⟨#[]⟩ (lineG R (clus (tabOf R) s)) := by
  obtain ⟨ha, hc, hst, hwd, htx⟩ := h
  obtain ⟨d1, d2⟩ := div_at (q := q) hr
  rw [← ha] at d1 d2
  have hi := (List.getElem?_eq_some_iff.1 hw).1
  obtain ⟨M, hM, hMw⟩ := plan_ge (rows := rows) (by omega) hw
  have hj := rowS_jump (R := R) (LL := LL) d2 hr (W := W) hi
  have hp : pieceS R W LL rows i = sclW R s := by
    unfold pieceS
    rw [List.getD_eq_getElem?_getD, hs, if_neg hnx, List.append_nil]; rfl
  have hT : rowT W TX rows r W.length = rowT W TX rows r i ++ catG ⟨#[]⟩ (lineG R (clus (tabOf R) s)) := by
    rw [← rowT_end (W := W) (i := i + rows) (by omega), rowT_jump d2 hr hi]
    unfold pieceT
    rw [List.getD_eq_getElem?_getD, ht, if_neg hnx]
    show _ ++ (catG ⟨#[]⟩ (lineG R (clus (tabOf R) s)) ++ ⟨#[]⟩) = _
    congr 1
    apply ba_ext
    rw [ba_app]
    simp
  obtain ⟨h1, h2⟩ := scl_go D s hst
  rw [← rowS_end (i := i + rows) (by omega), hj, hp]
  refine ⟨?_, ?_, ?_, hT⟩
  · rw [ChG_app]; exact ⟨hc, h1⟩
  · rw [List.map_append, catG_app, htx, scl_map D, catG_from, hT]
  · rw [List.map_append, wdG_app, hwd, scl_map D]
    rw [d1] at hM
    have hq := (List.getElem?_eq_some_iff.1 hM).1
    have h5 := sumL_mono h0 (a := q + 1) (b := (planL W rows).length) (by omega)
    rw [take_snoc' hM, sumL_snoc, List.take_length] at h5
    unfold aheadW totalL
    show _ ≤ sumL (planL W rows) + _
    omega
end
end Go.Proofs.YtkeainhjghdfcaaGreat

/- Facts of the given rows: what is no scalar, and a blank, has no properties. -/
namespace Go.Proofs.YtkeainhjghdfcaaGreat
open Go.RowKit

def fixRw (x : Rw) : Bool := (decide (x.k < 4) || decide (7 < x.k)) || (decide (x.t < 55296) || decide (57343 < x.f))
theorem of_fix {R : List Rw} (h : R.all fixRw = true) {k x : Int} (hk : 4 ≤ k ∧ k ≤ 7) (hv : validB x = false) : ofA R k x = 0 := by
  unfold ofA fnd
  by_cases hr : 0 ≤ x ∧ x ≤ 1114111
  · have hs : 55296 ≤ x ∧ x ≤ 57343 := by
      by_cases q : (0 ≤ x ∧ x < 55296) ∨ (57343 < x ∧ x ≤ 1114111)
      · rw [validB_iff.2 q] at hv; cases hv
      · omega
    rw [if_pos hr]
    have hn : R.find? (hasR k x) = none := by
      rw [List.find?_eq_none]
      intro y hy
      have h1 := List.all_eq_true.1 h y hy
      unfold fixRw at h1
      simp only [Bool.or_eq_true, decide_eq_true_eq] at h1
      unfold hasR
      simp only [Bool.and_eq_true, decide_eq_true_eq, not_and]
      omega
    rw [hn]
  · rw [if_neg hr]
theorem fixR_of {R : List Rw} (h : R.all fixRw = true) (D : DullR R) : FixR R := by
  have d := D.d 65533 (by omega)
  have dw := D.w 65533 (by omega)
  have hb : ∀ x, validB x = false → brkR R x = 0 := fun x hv => by
    unfold brkR
    have hg : ¬ (44032 ≤ x ∧ x ≤ 55203) := fun q => by rw [validB_iff.2 (.inl ⟨by omega, by omega⟩)] at hv; cases hv
    rw [if_neg hg]
    exact of_fix h (by omega) hv
  refine ⟨fun x => ?_, fun x => ?_, fun x => ?_, fun x => ?_⟩
  all_goals
    rcases hv : validB x with _ | _
    case' true => rw [fixR_ok hv]
    case' false => rw [fixR_bad hv]
  · rw [d.b]; exact (hb x hv).symm
  · rw [d.p]
    show false = decide (ofA R 5 x = 1)
    rw [of_fix h (by omega) hv]; rfl
  · rw [d.c]
    show 0 = conjR R x
    unfold conjR
    rw [of_fix h (by omega) hv, hb x hv]; rfl
  · rw [dw]
    show false = decide (ofA R 7 x = 1)
    rw [of_fix h (by omega) hv]; rfl
theorem blankR_of {R : List Rw} (h : dullB R 32 = true) : BlankR R := by
  simp only [dullB, Bool.and_eq_true, decide_eq_true_eq, Bool.not_eq_true', decide_eq_false_iff_not] at h
  exact ⟨⟨h.1, decide_eq_false h.2.1, h.2.2.1⟩, decide_eq_false h.2.2.2⟩
set_option maxRecDepth 100000 in
theorem fixRows_any : ∃ R : List Rw, RFacts R ∧ DullR R ∧ FixR R ∧ BlankR R ∧ ∀ w, Calls Tryz.prog 17 #[] w (LitPost R w) :=
  ⟨((((((((rowsFn Tryz.f51) ++ rowsFn Tryz.f52) ++ rowsFn Tryz.f53) ++ rowsFn Tryz.f54) ++ rowsFn Tryz.f55) ++ rowsFn Tryz.f56) ++ rowsFn Tryz.f57) ++ rowsFn Tryz.f58), rfacts_of (by kernel_rfl) (by kernel_rfl) (by kernel_rfl) (by kernel_rfl) (by kernel_rfl) (by kernel_rfl), dullR_of (show dullEx _ = true by kernel_rfl), fixR_of (show List.all _ fixRw = true by kernel_rfl) (dullR_of (show dullEx _ = true by kernel_rfl)), blankR_of (show dullB _ 32 = true by kernel_rfl), fun w => apiRows_of _ _ _ _ _ _ _ _ (of_decide_eq_true (by kernel_rfl)) (of_decide_eq_true (by kernel_rfl)) (of_decide_eq_true (by kernel_rfl)) (of_decide_eq_true (by kernel_rfl)) (of_decide_eq_true (by kernel_rfl)) (of_decide_eq_true (by kernel_rfl)) (of_decide_eq_true (by kernel_rfl)) (of_decide_eq_true (by kernel_rfl)) classes_any pairs_any outs_any breaks_any picts_any conjs_any wides_any letters_any w⟩
end Go.Proofs.YtkeainhjghdfcaaGreat

/- The document's decoding: its parts. (Printed by gen_rdc.py.) -/
namespace Go.Proofs.YtkeainhjghdfcaaGreat
open Go.RowKit

theorem bytesN_extract (s : ByteArray) (i j : Nat) : bytesN (s.extract i j) = ((bytesN s).drop i).take (j - i) := by
  unfold bytesN
  rw [ByteArray.data_extract, Array.toList_extract]
  unfold List.extract
  rw [List.map_take, List.map_drop]
theorem byte_at (s : ByteArray) {i : Nat} (hi : i < s.size) : (((s[i]'hi).toNat : Nat) : Int) = (bytesN s).getD i 0 := by
  rw [List.getD_eq_getElem?_getD, bytesN_get s hi]
  have h2 : i < s.data.toList.length := hi
  rw [List.getD_eq_getElem?_getD, List.getElem?_eq_getElem h2]
  rfl
/-- a string's byte -/
theorem str_ix (s : ByteArray) (i : Nat) (hi : i < s.size) (w : World) : (Instr.index 9 (.string s) (.int .i64 (i : Int))).run Tryz.prog w = .ok (.int .u8 ((bytesN s).getD i 0)) w := by
  rw [run_index_string w 9 s .i64 (i : Int) Tryz.underlying9, dif_pos ⟨by omega, by omega⟩]
  congr 2
  exact byte_at s hi
theorem str_ix0 (s : ByteArray) (hi : 0 < s.size) (w : World) : (Instr.index 9 (.string s) (.int .i64 0)).run Tryz.prog w = .ok (.int .u8 ((bytesN s).getD 0 0)) w := str_ix s 0 hi w
set_option maxRecDepth 100000 in
theorem long_any (b : Int) (w : World) : Calls Tryz.prog 178 #[.int .u8 b] w fun e w' => e = .returned (.int .i64 ((longN b : Nat) : Int)) ∧ w' = w := by
  by_cases c1 : b < 128
  · have HL := Lib.hid (show longN b = 1 by unfold longN; rw [if_pos c1])
    go_enter Tryz.func178, Tryz.ntmps178
    go_wp2_with fail
    go_ret
    exact ⟨by rw [HL.out]; rfl, rfl⟩
  have d1 : decide (b < 128) = false := decide_eq_false c1
  by_cases c2 : b < 224
  · have HL := Lib.hid (show longN b = 2 by unfold longN; rw [if_neg c1, if_pos c2])
    go_enter Tryz.func178, Tryz.ntmps178
    go_wp2_with fail
    go_ret
    exact ⟨by rw [HL.out]; rfl, rfl⟩
  have d2 : decide (b < 224) = false := decide_eq_false c2
  by_cases c3 : b < 240
  · have HL := Lib.hid (show longN b = 3 by unfold longN; rw [if_neg c1, if_neg c2, if_pos c3])
    go_enter Tryz.func178, Tryz.ntmps178
    go_wp2_with fail
    go_ret
    exact ⟨by rw [HL.out]; rfl, rfl⟩
  · have d3 : decide (b < 240) = false := decide_eq_false c3
    have HL := Lib.hid (show longN b = 4 by unfold longN; rw [if_neg c1, if_neg c2, if_neg c3])
    go_enter Tryz.func178, Tryz.ntmps178
    go_wp2_with fail
    go_ret
    exact ⟨by rw [HL.out]; rfl, rfl⟩
set_option maxRecDepth 100000 in
set_option maxHeartbeats 4000000 in
theorem may_any (s : ByteArray) (i : Nat) (hi : i < s.size) (hs : s.size ≤ 1000000) (w : World) : Calls Tryz.prog 179 #[.string s, .int .i64 (i : Int)] w fun e w' => e = .returned (.bool (mayB ((bytesN s).getD 0 0) i ((bytesN s).getD i 0))) ∧ ∃ n, w' = w.drewN n := by
  have ix0 := fun w => str_ix0 s (by omega) w
  have ixi := fun w => str_ix s i hi w
  generalize (bytesN s).getD 0 0 = c at ix0 ⊢
  generalize (bytesN s).getD i 0 = b at ixi ⊢
  have r0 : (i : Int) < (s.size : Int) := by omega
  have r1 : (0 : Int) ≤ (i : Int) := by omega
  have r2 : (0 : Int) < (s.size : Int) := by omega
  by_cases h0 : i = 0
  · subst h0
    have HM := Lib.hid (show mayB c 0 b = (decide (c < 128) || (decide (194 ≤ c) && decide (c ≤ 244))) by unfold mayB; rw [if_pos rfl])
    by_cases c1 : c < 128
    · go_enter Tryz.func179, Tryz.ntmps179
      go_wp2_with fail
      go_quiet (fail)
      go_wp2_with fail
      go_ret
      exact ⟨by rw [HM.out, decide_eq_true c1]; rfl, _, rfl⟩
    · have d1 : decide (c < 128) = false := decide_eq_false c1
      by_cases c2 : c ≥ 194
      · go_enter Tryz.func179, Tryz.ntmps179
        go_wp2_with fail
        go_quiet (fail)
        go_wp2_with fail
        go_ret
        exact ⟨by rw [HM.out, d1, decide_eq_true (show 194 ≤ c from c2)]; rfl, _, rfl⟩
      · have d2 : decide (c ≥ 194) = false := decide_eq_false c2
        go_enter Tryz.func179, Tryz.ntmps179
        go_wp2_with fail
        go_quiet (fail)
        go_wp2_with fail
        go_ret
        exact ⟨by rw [HM.out, d1, decide_eq_false (show ¬ 194 ≤ c by omega)]; rfl, _, rfl⟩
  have n0 : ((i : Int) == 0) = false := by rw [beq_eq_false_iff_ne]; omega
  have key : ∀ (lo hi : Int), (b ≥ lo ∧ b ≤ hi) ∨ (b ≥ lo ∧ ¬ b ≤ hi) ∨ ¬ b ≥ lo := fun lo hi => by omega
  by_cases h1 : i = 1
  · subst h1
    have ix1 : ∀ w, (Instr.index 9 (.string s) (.int .i64 1)).run Tryz.prog w = .ok (.int .u8 b) w := ixi
    have r3 : (1 : Int) < (s.size : Int) := by omega
    by_cases k1 : c = 224
    · subst k1
      have HM := Lib.hid (show mayB 224 1 b = (decide (160 ≤ b) && decide (b ≤ 191)) by unfold mayB; rw [if_neg (by decide), if_pos ⟨rfl, rfl⟩])
      rcases key 160 191 with ⟨b1, b2⟩ | ⟨b1, b2⟩ | b1
      · go_enter Tryz.func179, Tryz.ntmps179
        go_wp2_with fail
        go_quiet (fail)
        go_wp2_with fail
        go_ret
        exact ⟨by rw [HM.out, decide_eq_true (show 160 ≤ b by omega), decide_eq_true b2]; rfl, _, rfl⟩
      · have b2' : decide (b ≤ 191) = false := decide_eq_false b2
        go_enter Tryz.func179, Tryz.ntmps179
        go_wp2_with fail
        go_quiet (fail)
        go_wp2_with fail
        go_ret
        exact ⟨by rw [HM.out, decide_eq_true (show 160 ≤ b by omega), decide_eq_false (show ¬ b ≤ 191 by omega)]; rfl, _, rfl⟩
      · have b1' : decide (b ≥ 160) = false := decide_eq_false b1
        go_enter Tryz.func179, Tryz.ntmps179
        go_wp2_with fail
        go_quiet (fail)
        go_wp2_with fail
        go_ret
        exact ⟨by rw [HM.out, decide_eq_false (show ¬ 160 ≤ b by omega)]; rfl, _, rfl⟩
    have g1 : (c == 224) = false := by simpa using k1
    by_cases k2 : c = 237
    · subst k2
      have HM := Lib.hid (show mayB 237 1 b = (decide (128 ≤ b) && decide (b ≤ 159)) by unfold mayB; rw [if_neg (by decide), if_neg (by decide), if_pos ⟨rfl, rfl⟩])
      rcases key 128 159 with ⟨b1, b2⟩ | ⟨b1, b2⟩ | b1
      · go_enter Tryz.func179, Tryz.ntmps179
        go_wp2_with fail
        go_quiet (fail)
        go_wp2_with fail
        go_ret
        exact ⟨by rw [HM.out, decide_eq_true (show 128 ≤ b by omega), decide_eq_true b2]; rfl, _, rfl⟩
      · have b2' : decide (b ≤ 159) = false := decide_eq_false b2
        go_enter Tryz.func179, Tryz.ntmps179
        go_wp2_with fail
        go_quiet (fail)
        go_wp2_with fail
        go_ret
        exact ⟨by rw [HM.out, decide_eq_true (show 128 ≤ b by omega), decide_eq_false (show ¬ b ≤ 159 by omega)]; rfl, _, rfl⟩
      · have b1' : decide (b ≥ 128) = false := decide_eq_false b1
        go_enter Tryz.func179, Tryz.ntmps179
        go_wp2_with fail
        go_quiet (fail)
        go_wp2_with fail
        go_ret
        exact ⟨by rw [HM.out, decide_eq_false (show ¬ 128 ≤ b by omega)]; rfl, _, rfl⟩
    have g2 : (c == 237) = false := by simpa using k2
    by_cases k3 : c = 240
    · subst k3
      have HM := Lib.hid (show mayB 240 1 b = (decide (144 ≤ b) && decide (b ≤ 191)) by unfold mayB; rw [if_neg (by decide), if_neg (by decide), if_neg (by decide), if_pos ⟨rfl, rfl⟩])
      rcases key 144 191 with ⟨b1, b2⟩ | ⟨b1, b2⟩ | b1
      · go_enter Tryz.func179, Tryz.ntmps179
        go_wp2_with fail
        go_quiet (fail)
        go_wp2_with fail
        go_ret
        exact ⟨by rw [HM.out, decide_eq_true (show 144 ≤ b by omega), decide_eq_true b2]; rfl, _, rfl⟩
      · have b2' : decide (b ≤ 191) = false := decide_eq_false b2
        go_enter Tryz.func179, Tryz.ntmps179
        go_wp2_with fail
        go_quiet (fail)
        go_wp2_with fail
        go_ret
        exact ⟨by rw [HM.out, decide_eq_true (show 144 ≤ b by omega), decide_eq_false (show ¬ b ≤ 191 by omega)]; rfl, _, rfl⟩
      · have b1' : decide (b ≥ 144) = false := decide_eq_false b1
        go_enter Tryz.func179, Tryz.ntmps179
        go_wp2_with fail
        go_quiet (fail)
        go_wp2_with fail
        go_ret
        exact ⟨by rw [HM.out, decide_eq_false (show ¬ 144 ≤ b by omega)]; rfl, _, rfl⟩
    have g3 : (c == 240) = false := by simpa using k3
    by_cases k4 : c = 244
    · subst k4
      have HM := Lib.hid (show mayB 244 1 b = (decide (128 ≤ b) && decide (b ≤ 143)) by unfold mayB; rw [if_neg (by decide), if_neg (by decide), if_neg (by decide), if_neg (by decide), if_pos ⟨rfl, rfl⟩])
      rcases key 128 143 with ⟨b1, b2⟩ | ⟨b1, b2⟩ | b1
      · go_enter Tryz.func179, Tryz.ntmps179
        go_wp2_with fail
        go_quiet (fail)
        go_wp2_with fail
        go_ret
        exact ⟨by rw [HM.out, decide_eq_true (show 128 ≤ b by omega), decide_eq_true b2]; rfl, _, rfl⟩
      · have b2' : decide (b ≤ 143) = false := decide_eq_false b2
        go_enter Tryz.func179, Tryz.ntmps179
        go_wp2_with fail
        go_quiet (fail)
        go_wp2_with fail
        go_ret
        exact ⟨by rw [HM.out, decide_eq_true (show 128 ≤ b by omega), decide_eq_false (show ¬ b ≤ 143 by omega)]; rfl, _, rfl⟩
      · have b1' : decide (b ≥ 128) = false := decide_eq_false b1
        go_enter Tryz.func179, Tryz.ntmps179
        go_wp2_with fail
        go_quiet (fail)
        go_wp2_with fail
        go_ret
        exact ⟨by rw [HM.out, decide_eq_false (show ¬ 128 ≤ b by omega)]; rfl, _, rfl⟩
    · have g4 : (c == 244) = false := by simpa using k4
      have HM := Lib.hid (show mayB c 1 b = (decide (128 ≤ b) && decide (b ≤ 191)) by unfold mayB; rw [if_neg (by decide), if_neg (fun h => k1 h.2), if_neg (fun h => k2 h.2), if_neg (fun h => k3 h.2), if_neg (fun h => k4 h.2)])
      rcases key 128 191 with ⟨b1, b2⟩ | ⟨b1, b2⟩ | b1
      · go_enter Tryz.func179, Tryz.ntmps179
        go_wp2_with fail
        go_quiet (fail)
        go_wp2_with fail
        go_ret
        exact ⟨by rw [HM.out, decide_eq_true (show 128 ≤ b by omega), decide_eq_true b2]; rfl, _, rfl⟩
      · have b2' : decide (b ≤ 191) = false := decide_eq_false b2
        go_enter Tryz.func179, Tryz.ntmps179
        go_wp2_with fail
        go_quiet (fail)
        go_wp2_with fail
        go_ret
        exact ⟨by rw [HM.out, decide_eq_true (show 128 ≤ b by omega), decide_eq_false (show ¬ b ≤ 191 by omega)]; rfl, _, rfl⟩
      · have b1' : decide (b ≥ 128) = false := decide_eq_false b1
        go_enter Tryz.func179, Tryz.ntmps179
        go_wp2_with fail
        go_quiet (fail)
        go_wp2_with fail
        go_ret
        exact ⟨by rw [HM.out, decide_eq_false (show ¬ 128 ≤ b by omega)]; rfl, _, rfl⟩
  · have n1 : ((i : Int) == 1) = false := by rw [beq_eq_false_iff_ne]; omega
    have HM := Lib.hid (show mayB c i b = (decide (128 ≤ b) && decide (b ≤ 191)) by unfold mayB; rw [if_neg h0, if_neg (fun h => h1 h.1), if_neg (fun h => h1 h.1), if_neg (fun h => h1 h.1), if_neg (fun h => h1 h.1)])
    rcases key 128 191 with ⟨b1, b2⟩ | ⟨b1, b2⟩ | b1
    · go_enter Tryz.func179, Tryz.ntmps179
      go_wp2_with fail
      go_quiet (fail)
      go_wp2_with fail
      go_ret
      exact ⟨by rw [HM.out, decide_eq_true (show 128 ≤ b by omega), decide_eq_true b2]; rfl, _, rfl⟩
    · have b2' : decide (b ≤ 191) = false := decide_eq_false b2
      go_enter Tryz.func179, Tryz.ntmps179
      go_wp2_with fail
      go_quiet (fail)
      go_wp2_with fail
      go_ret
      exact ⟨by rw [HM.out, decide_eq_true (show 128 ≤ b by omega), decide_eq_false (show ¬ b ≤ 191 by omega)]; rfl, _, rfl⟩
    · have b1' : decide (b ≥ 128) = false := decide_eq_false b1
      go_enter Tryz.func179, Tryz.ntmps179
      go_wp2_with fail
      go_quiet (fail)
      go_wp2_with fail
      go_ret
      exact ⟨by rw [HM.out, decide_eq_false (show ¬ 128 ≤ b by omega)]; rfl, _, rfl⟩
end Go.Proofs.YtkeainhjghdfcaaGreat

/- The document's decoding: rows, values. -/
namespace Go.Proofs.YtkeainhjghdfcaaGreat
open Go.RowKit

theorem headD_getD (l : List Int) : l.headD 0 = l.getD 0 0 := by cases l <;> rfl
theorem rowGo_step {c : Int} {l : List Int} {i : Nat} {b : Int} (hb : l[i]? = some b) : rowGo c i (l.drop i) = if i < longN c ∧ mayB c i b = true then rowGo c (i + 1) (l.drop (i + 1)) else i := by
  have h1 := List.getElem?_eq_some_iff.1 hb
  rw [List.drop_eq_getElem_cons h1.1, h1.2]
  conv => lhs; unfold rowGo
theorem longN_rng (c : Int) : 1 ≤ longN c ∧ longN c ≤ 4 := by
  unfold longN
  split
  · omega
  · split
    · omega
    · split <;> omega
theorem rowN_eq (l : List Int) : rowN l = rowGo (l.getD 0 0) 0 (l.drop 0) := by unfold rowN; rw [headD_getD, List.drop_zero]
set_option maxRecDepth 100000 in
set_option maxHeartbeats 4000000 in
theorem row_any (s : ByteArray) (h0 : 0 < s.size) (hs : s.size ≤ 1000000) (w : World) : Calls Tryz.prog 140 #[.string s] w fun e w' => e = .returned (.tuple #[.int .i64 ((rowN (bytesN s) : Nat) : Int), .bool (wholeB (bytesN s))]) ∧ ∃ n, w' = w.drewN n := by
  have ix0 := fun w => str_ix0 s h0 w
  have HMay := Lib.hid (fun (i : Nat) (hi : i < s.size) (w : World) => may_any s i hi hs w)
  have HGet := Lib.hid (fun (k : Nat) (hk : k < s.size) => show (bytesN s)[k]? = some ((bytesN s).getD k 0) by
    have h : k < (bytesN s).length := by rw [bytesN_len]; exact hk
    rw [List.getD_eq_getElem?_getD, List.getElem?_eq_getElem h]; rfl)
  have hL := bytesN_len s
  have HRn := Lib.hid (rowN_eq (bytesN s))
  have HWh := Lib.hid (show wholeB (bytesN s) = (decide (0 < rowN (bytesN s)) && decide (rowN (bytesN s) = longN ((bytesN s).getD 0 0))) by unfold wholeB; rw [headD_getD])
  generalize bytesN s = l at ix0 HMay HGet hL HRn HWh ⊢
  generalize l.getD 0 0 = c at ix0 HMay HRn HWh ⊢
  have hlc := longN_rng c
  have HLong := Lib.hid (long_any c)
  generalize hln : longN c = ln at hlc HLong HWh
  have HLn := Lib.hid hln
  have r2 : (0 : Int) < (s.size : Int) := by omega
  clear hln
  go_enter Tryz.func140, Tryz.ntmps140
  go_wp2_with fail
  go_loopw [4] (fun nv wr => ∃ i : Nat, i ≤ s.size ∧ i ≤ ln ∧ nv = .int .i64 (i : Int) ∧ (∃ n, wr = w.drewN n) ∧ rowGo c i (l.drop i) = rowN l) (fun nv _ => s.size - (intOf nv).toNat)
  case atStart => exact ⟨0, Nat.zero_le _, Nat.zero_le _, rfl, ⟨0, rfl⟩, HRn.out.symm⟩
  case round =>
    obtain ⟨i, hi, hil, rfl, ⟨n0, rfl⟩, hE⟩ := hrel
    have HE := Lib.hid hE
    have e1 := IntWalk.i64_in ((i : Int) + 1) (by omega)
    clear hE
    by_cases hlt : i < s.size
    · have s0 : (i : Int) < (s.size : Int) := by omega
      have hst := rowGo_step (c := c) (HGet.out i hlt)
      rw [HE.out, HLn.out] at hst
      have HSt := Lib.hid hst
      clear hst
      by_cases hll : i < ln
      · have s1 : (i : Int) < (ln : Int) := by omega
        have HM := Lib.hid (HMay.out i hlt)
        go_wp2_with fail
        refine (HLong.out _).mono ?_
        rintro e w3 ⟨rfl, rfl⟩
        go_wp2_with fail
        refine (HM.out _).mono ?_
        rintro e w4 ⟨rfl, n1, rfl⟩
        by_cases hm : mayB c i (l.getD i 0) = true
        · rw [hm]
          have HN := Lib.hid (show rowGo c (i + 1) (l.drop (i + 1)) = rowN l by rw [HSt.out, if_pos ⟨hll, hm⟩])
          clear hm hlt hll
          go_wp2_with fail
          go_roundw
          case rel => exact ⟨i + 1, by omega, by omega, by go_num, ⟨_, rfl⟩, HN.out⟩
          case measure => simp [intOf] <;> omega
        · have hm : mayB c i (l.getD i 0) = false := Bool.eq_false_iff.2 hm
          rw [hm]
          have HR := Lib.hid (show rowN l = i by rw [HSt.out, if_neg (fun h => by rw [hm] at h; exact absurd h.2 (by decide))])
          clear hm hlt
          by_cases hi0 : i = 0
          · have HWv := Lib.hid (show wholeB l = false by rw [HWh.out, HR.out, hi0]; rfl)
            have s5 : ¬ 0 < i := by omega
            clear hi0
            go_wp2_with fail
            go_ret2
            exact ⟨by rw [HR.out, HWv.out]; rfl, _, rfl⟩
          · have s5 : 0 < i := by omega
            go_wp2_with fail
            refine (HLong.out _).mono ?_
            rintro e w8 ⟨rfl, rfl⟩
            by_cases hie : i = ln
            · have HWv := Lib.hid (show wholeB l = true by rw [HWh.out, HR.out, decide_eq_true s5, decide_eq_true hie]; rfl)
              have s6 : ((i : Int) == (ln : Int)) = true := by rw [beq_iff_eq]; omega
              clear hie
              go_wp2_with fail
              go_ret2
              exact ⟨by rw [HR.out, HWv.out]; rfl, _, rfl⟩
            · have HWv := Lib.hid (show wholeB l = false by rw [HWh.out, HR.out, decide_eq_true s5, decide_eq_false hie]; rfl)
              have s6 : ((i : Int) == (ln : Int)) = false := by rw [beq_eq_false_iff_ne]; omega
              clear hie
              go_wp2_with fail
              go_ret2
              exact ⟨by rw [HR.out, HWv.out]; rfl, _, rfl⟩
      · have hle : ¬ (i : Int) < (ln : Int) := by omega
        have HR := Lib.hid (show rowN l = i by rw [HSt.out, if_neg (fun h => hll h.1)])
        clear hlt
        go_wp2_with fail
        refine (HLong.out _).mono ?_
        rintro e w3 ⟨rfl, rfl⟩
        by_cases hi0 : i = 0
        · have HWv := Lib.hid (show wholeB l = false by rw [HWh.out, HR.out, hi0]; rfl)
          have s5 : ¬ 0 < i := by omega
          clear hi0
          go_wp2_with fail
          go_ret2
          exact ⟨by rw [HR.out, HWv.out]; rfl, _, rfl⟩
        · have s5 : 0 < i := by omega
          go_wp2_with fail
          refine (HLong.out _).mono ?_
          rintro e w8 ⟨rfl, rfl⟩
          by_cases hie : i = ln
          · have HWv := Lib.hid (show wholeB l = true by rw [HWh.out, HR.out, decide_eq_true s5, decide_eq_true hie]; rfl)
            have s6 : ((i : Int) == (ln : Int)) = true := by rw [beq_iff_eq]; omega
            clear hie
            go_wp2_with fail
            go_ret2
            exact ⟨by rw [HR.out, HWv.out]; rfl, _, rfl⟩
          · have HWv := Lib.hid (show wholeB l = false by rw [HWh.out, HR.out, decide_eq_true s5, decide_eq_false hie]; rfl)
            have s6 : ((i : Int) == (ln : Int)) = false := by rw [beq_eq_false_iff_ne]; omega
            clear hie
            go_wp2_with fail
            go_ret2
            exact ⟨by rw [HR.out, HWv.out]; rfl, _, rfl⟩
    · have s0 : ¬ i < s.size := hlt
      have HR := Lib.hid (show rowN l = i by rw [← HE.out, List.drop_eq_nil_of_le (by omega)]; rfl)
      clear hlt
      by_cases hi0 : i = 0
      · have HWv := Lib.hid (show wholeB l = false by rw [HWh.out, HR.out, hi0]; rfl)
        have s5 : ¬ 0 < i := by omega
        clear hi0
        go_wp2_with fail
        go_ret2
        exact ⟨by rw [HR.out, HWv.out]; rfl, _, rfl⟩
      · have s5 : 0 < i := by omega
        go_wp2_with fail
        refine (HLong.out _).mono ?_
        rintro e w8 ⟨rfl, rfl⟩
        by_cases hie : i = ln
        · have HWv := Lib.hid (show wholeB l = true by rw [HWh.out, HR.out, decide_eq_true s5, decide_eq_true hie]; rfl)
          have s6 : ((i : Int) == (ln : Int)) = true := by rw [beq_iff_eq]; omega
          clear hie
          go_wp2_with fail
          go_ret2
          exact ⟨by rw [HR.out, HWv.out]; rfl, _, rfl⟩
        · have HWv := Lib.hid (show wholeB l = false by rw [HWh.out, HR.out, decide_eq_true s5, decide_eq_false hie]; rfl)
          have s6 : ((i : Int) == (ln : Int)) = false := by rw [beq_eq_false_iff_ne]; omega
          clear hie
          go_wp2_with fail
          go_ret2
          exact ⟨by rw [HR.out, HWv.out]; rfl, _, rfl⟩
end Go.Proofs.YtkeainhjghdfcaaGreat

/- The document's decoding: values, Decode. -/
namespace Go.Proofs.YtkeainhjghdfcaaGreat
open Go.RowKit

def valF (v b : Int) : Int := 64 * v + b - 128
theorem valN_eq {l : List Int} (h : 2 ≤ l.length) : valN l = (l.drop 1).foldl valF (if l.length = 3 then l.getD 0 0 - 224 else if l.length = 4 then l.getD 0 0 - 240 else l.getD 0 0 - 192) := by
  match l, h with
  | c :: b :: l, _ =>
    show (b :: l).foldl (fun v b => 64 * v + b - 128) (if (b :: l).length = 2 then c - 224 else if (b :: l).length = 3 then c - 240 else c - 192) = (b :: l).foldl valF _
    simp only [List.length_cons, List.getD_cons_zero]
    have e1 : (l.length + 1 = 2) = (l.length + 1 + 1 = 3) := by rw [eq_iff_iff]; omega
    have e2 : (l.length + 1 = 3) = (l.length + 1 + 1 = 4) := by rw [eq_iff_iff]; omega
    simp only [e1, e2]
    rfl
theorem valN_one {l : List Int} (h : l.length = 1) : valN l = l.getD 0 0 := by
  match l, h with
  | [c], _ => rfl
theorem fold_snoc {l : List Int} {i : Nat} {b : Int} (v0 : Int) (hi : 1 ≤ i) (h : l[i]? = some b) : ((l.drop 1).take (i + 1 - 1)).foldl valF v0 = valF (((l.drop 1).take (i - 1)).foldl valF v0) b := by
  obtain ⟨j, rfl⟩ : ∃ j, i = j + 1 := ⟨i - 1, by omega⟩
  show ((l.drop 1).take (j + 1)).foldl valF v0 = valF (((l.drop 1).take j).foldl valF v0) b
  rw [List.take_add_one, List.getElem?_drop, show 1 + j = j + 1 by omega, h, List.foldl_append]
  rfl
theorem rowGo_le (c : Int) : ∀ (l : List Int) (i : Nat), rowGo c i l ≤ i + l.length
  | [], i => Nat.le_refl _
  | b :: l, i => by
    unfold rowGo
    split
    · have := rowGo_le c l (i + 1)
      rw [List.length_cons]
      omega
    · omega
theorem rowN_le (l : List Int) : rowN l ≤ l.length := by have := rowGo_le (l.headD 0) l 0; unfold rowN; omega
theorem whole_rng {l : List Int} (h : wholeB l = true) : 1 ≤ rowN l ∧ rowN l ≤ 4 := by
  unfold wholeB at h
  rw [Bool.and_eq_true, decide_eq_true_eq, decide_eq_true_eq] at h
  have := longN_rng (l.headD 0)
  omega
set_option maxRecDepth 100000 in
set_option maxHeartbeats 4000000 in
theorem value_any (s : ByteArray) (h1 : 1 ≤ s.size) (h4 : s.size ≤ 4) (w : World) : Calls Tryz.prog 141 #[.string s] w fun e w' => e = .returned (.int .i32 (valN (bytesN s))) ∧ w' = w := by
  have ix0 := fun w => str_ix0 s (by omega) w
  have HIx := Lib.hid (fun (i : Nat) (hi : i < s.size) (w : World) => str_ix s i hi w)
  have HGet := Lib.hid (fun (k : Nat) (hk : k < s.size) => show (bytesN s)[k]? = some ((bytesN s).getD k 0) by
    have h : k < (bytesN s).length := by rw [bytesN_len]; exact hk
    rw [List.getD_eq_getElem?_getD, List.getElem?_eq_getElem h]; rfl)
  have hL := bytesN_len s
  have HRng := Lib.hid (bytesN_rng s)
  generalize bytesN s = l at ix0 HIx HGet hL HRng ⊢
  have hc := HRng.out _ (List.mem_of_getElem? (HGet.out 0 (by omega)))
  have r2 : (0 : Int) < (s.size : Int) := by omega
  by_cases hs1 : s.size = 1
  · have HV := Lib.hid (valN_one (l := l) (by omega))
    generalize l.getD 0 0 = c at ix0 hc HV ⊢
    have g1 : ((s.size : Int) == 1) = true := by rw [beq_iff_eq]; omega
    have e1 : IntKind.i64.wrap c = c := IntWalk.i64_in c (by omega)
    have e2 : IntKind.i32.wrap c = c := by rw [IntKind.wrap_i32]; omega
    clear hs1
    go_enter Tryz.func141, Tryz.ntmps141
    go_wp2_with fail
    go_ret
    exact ⟨by rw [HV.out]; rfl, rfl⟩
  have HV := Lib.hid (valN_eq (l := l) (by omega))
  obtain ⟨v0, hv0⟩ : ∃ v0, v0 = (if l.length = 3 then l.getD 0 0 - 224 else if l.length = 4 then l.getD 0 0 - 240 else l.getD 0 0 - 192) := ⟨_, rfl⟩
  rw [← hv0] at HV
  have hv0r : -300 ≤ v0 ∧ v0 ≤ 300 := by rw [hv0]; split; · omega
                                         split <;> omega
  have g1 : ((s.size : Int) == 1) = false := by rw [beq_eq_false_iff_ne]; omega
  rw [hL] at hv0
  generalize l.getD 0 0 = c at ix0 hc hv0
  have e1 : IntKind.i64.wrap c = c := IntWalk.i64_in c (by omega)
  have e3 := IntWalk.i64_in (c - 192) (by omega)
  have e4 := IntWalk.i64_in (c - 224) (by omega)
  have e5 := IntWalk.i64_in (c - 240) (by omega)
  have hcase : (((s.size : Int) == 3) = true ∧ ((s.size : Int) == 4) = false ∧ v0 = c - 224) ∨ (((s.size : Int) == 3) = false ∧ ((s.size : Int) == 4) = true ∧ v0 = c - 240) ∨ (((s.size : Int) == 3) = false ∧ ((s.size : Int) == 4) = false ∧ v0 = c - 192) := by
    by_cases q3 : s.size = 3
    · exact .inl ⟨by rw [beq_iff_eq]; omega, by rw [beq_eq_false_iff_ne]; omega, by rw [hv0, if_pos q3]⟩
    · by_cases q4 : s.size = 4
      · exact .inr (.inl ⟨by rw [beq_eq_false_iff_ne]; omega, by rw [beq_iff_eq]; omega, by rw [hv0, if_neg q3, if_pos q4]⟩)
      · exact .inr (.inr ⟨by rw [beq_eq_false_iff_ne]; omega, by rw [beq_eq_false_iff_ne]; omega, by rw [hv0, if_neg q3, if_neg q4]⟩)
  clear hv0 hs1
  rcases hcase with ⟨g3, g4, hv⟩ | ⟨g3, g4, hv⟩ | ⟨g3, g4, hv⟩
  all_goals
    have HV0 := Lib.hid hv
    clear hv
    go_enter Tryz.func141, Tryz.ntmps141
    go_wp2_with fail
    rw [← HV0.out]
    go_loopw [4, 5] (fun vv iv wr => ∃ (i : Nat) (v : Int), 1 ≤ i ∧ i ≤ s.size ∧ iv = .int .i64 (i : Int) ∧ vv = .int .i64 v ∧ wr = w ∧ v = ((l.drop 1).take (i - 1)).foldl valF v0 ∧ ((i = 1 ∧ -300 ≤ v ∧ v ≤ 300) ∨ (i = 2 ∧ -20000 ≤ v ∧ v ≤ 20000) ∨ (i = 3 ∧ -1300000 ≤ v ∧ v ≤ 1300000) ∨ (i = 4 ∧ -84000000 ≤ v ∧ v ≤ 84000000))) (fun _ iv _ => s.size - (intOf iv).toNat)
    case atStart => exact ⟨1, v0, Nat.le_refl _, h1, rfl, rfl, rfl, rfl, .inl ⟨rfl, hv0r⟩⟩
    case round =>
      obtain ⟨i, v, hi1, hi2, rfl, rfl, rfl, hv, hb⟩ := hrel
      have HVv := Lib.hid hv
      clear hv
      by_cases hlt : i < s.size
      · have hg := HGet.out i hlt
        have hbr := HRng.out _ (List.mem_of_getElem? hg)
        have ixi := fun w => HIx.out i hlt w
        have HN := Lib.hid (fold_snoc v0 hi1 hg)
        generalize l.getD i 0 = b at ixi hbr HN
        have s0 : (i : Int) < (s.size : Int) := by omega
        have s1 : (0 : Int) ≤ (i : Int) := by omega
        have f1 := IntWalk.i64_in ((i : Int) + 1) (by omega)
        have f2 := IntWalk.i64_in (64 * v) (by omega)
        have f3 : IntKind.i64.wrap b = b := IntWalk.i64_in b (by omega)
        have f4 := IntWalk.i64_in (64 * v + b) (by omega)
        have f5 := IntWalk.i64_in (64 * v + b - 128) (by omega)
        have hnb : ((i + 1 = 1 ∧ -300 ≤ 64 * v + b - 128 ∧ 64 * v + b - 128 ≤ 300) ∨ (i + 1 = 2 ∧ -20000 ≤ 64 * v + b - 128 ∧ 64 * v + b - 128 ≤ 20000) ∨ (i + 1 = 3 ∧ -1300000 ≤ 64 * v + b - 128 ∧ 64 * v + b - 128 ≤ 1300000) ∨ (i + 1 = 4 ∧ -84000000 ≤ 64 * v + b - 128 ∧ 64 * v + b - 128 ≤ 84000000)) := by omega
        have HNb := Lib.hid hnb
        clear hg hlt hb hnb
        go_wp2_with fail
        go_roundw
        case rel => exact ⟨i + 1, 64 * v + b - 128, by omega, by omega, by go_num, rfl, by first | rfl | trivial, by rw [HN.out, ← HVv.out]; rfl, HNb.out⟩
        case measure => simp [intOf] <;> omega
      · have s0 : ¬ i < s.size := hlt
        have HR := Lib.hid (show valN l = v by rw [HV.out, HVv.out, List.take_of_length_le (by rw [List.length_drop]; omega)])
        have e6 : IntKind.i32.wrap v = v := by rw [IntKind.wrap_i32]; omega
        clear hlt hb
        go_wp2_with fail
        go_ret
        exact ⟨by rw [HR.out]; rfl, rfl⟩
theorem docD_len : ∀ (n : Nat) (l : List Int), l.length ≤ n → (docD l).length ≤ l.length
  | _, [], _ => Nat.le_refl _
  | 0, b :: l, h => by simp at h
  | n + 1, b :: l, h => by
    rw [docD_cons, List.length_cons]
    have hd : ((b :: l).drop (max (rowN (b :: l)) 1)).length ≤ l.length := by rw [List.length_drop, List.length_cons]; omega
    have := docD_len n ((b :: l).drop (max (rowN (b :: l)) 1)) (by simp at h; omega)
    simp only [List.length_cons]
    omega
theorem docD_at {l : List Int} {k : Nat} (hk : k < l.length) : docD (l.drop k) = (if wholeB (l.drop k) = true then valN ((l.drop k).take (rowN (l.drop k))) else 65533) :: docD (l.drop (k + max (rowN (l.drop k)) 1)) := by
  obtain ⟨b, t, ht⟩ : ∃ b t, l.drop k = b :: t := ⟨_, _, List.drop_eq_getElem_cons hk⟩
  have h := docD_cons b t
  rw [← ht, List.drop_drop] at h
  exact h
set_option maxRecDepth 100000 in
set_option maxHeartbeats 4000000 in
theorem rdecode_any (s : ByteArray) (hs : s.size ≤ 500000) (w : World) : Calls Tryz.prog 93 #[.string s] w fun e w' => ∃ u, e = .returned u ∧ Below w.heap.size w w' ∧ RunesIn w' u (decS Dc0 (bytesN s)) := by
  rw [dec_doc (bytesN s).length (bytesN s) (Nat.le_refl _) (bytesN_rng s)]
  have hL := bytesN_len s
  have HEx := Lib.hid (bytesN_extract s)
  have HDl := Lib.hid (docD_len (bytesN s).length (bytesN s) (Nat.le_refl _))
  have HAt := Lib.hid (fun (k : Nat) (hk : k < (bytesN s).length) => docD_at hk)
  generalize bytesN s = l at hL HEx HDl HAt ⊢
  go_enter Tryz.func93, Tryz.ntmps93
  go_wp2_with fail
  go_loopw [3, 4] (fun ov iv wr => ∃ (k : Nat) (o : List Int), k ≤ s.size ∧ iv = .int .i64 (k : Int) ∧ Below w.heap.size w wr ∧ wr.ownsRow w.heap.size 21 1 ov o.length (o.flatMap runeE) ∧ o.length ≤ k ∧ o ++ docD (l.drop k) = docD l) (fun _ iv _ => s.size - (intOf iv).toNat)
  case atStart => exact ⟨0, [], Nat.zero_le _, rfl, .refl _ _, World.ownsRow_nil _ _ _ _, Nat.le_refl _, rfl⟩
  case round =>
    obtain ⟨k, o, hk, rfl, hB, hO, hol, hE⟩ := hrel
    have HB := Lib.hid hB
    have HO := Lib.hid hO
    have HE := Lib.hid hE
    have HOl := Lib.hid hol
    have hbs := hB.size
    obtain ⟨pa, pc, rfl⟩ := slice_of_owns hO
    by_cases hlt : k < s.size
    · have s0 : (k : Int) < (s.size : Int) := by omega
      have s1 : (0 : Int) ≤ (k : Int) := by omega
      have s2 : (k : Int) ≤ (s.size : Int) := by omega
      have hex : bytesN (s.extract k s.size) = l.drop k := by
        rw [HEx.out, List.take_of_length_le (by rw [List.length_drop]; omega)]
      have hsz : (s.extract k s.size).size = s.size - k := by rw [← bytesN_len, hex, List.length_drop, hL]
      have hrow := row_any (s.extract k s.size) (by omega) (by omega)
      rw [hex] at hrow
      have HRow := Lib.hid hrow
      have hdo := HAt.out k (by omega)
      have hle := rowN_le (l.drop k)
      rw [List.length_drop, hL] at hle
      have hex2 : ∀ n, bytesN (s.extract k (k + n)) = (l.drop k).take n := fun n => by rw [HEx.out, show k + n - k = n by omega]
      have hwr := fun h => whole_rng (l := l.drop k) h
      obtain ⟨n, hn⟩ : ∃ n, n = rowN (l.drop k) := ⟨_, rfl⟩
      rw [← hn] at hdo hle hwr HRow
      have hbig : (o.length + 1) * 4 ≤ 140737488355328 := by omega
      have e1 := IntWalk.i64_in ((k : Int) + (n : Int)) (by omega)
      have e2 := IntWalk.i64_in ((k : Int) + 1) (by omega)
      have HDo := Lib.hid hdo
      by_cases hw : wholeB (l.drop k) = true
      · have hwr2 := hwr hw
        have hsz2 : (s.extract k (k + n)).size = n := by rw [← bytesN_len, hex2, List.length_take, List.length_drop, hL]; omega
        have hval := value_any (s.extract k (k + n)) (by omega) (by omega)
        rw [hex2] at hval
        have HN := Lib.hid (show o ++ [valN ((l.drop k).take n)] ++ docD (l.drop (k + n)) = docD l by
          rw [← HE.out, HDo.out, if_pos hw, show max n 1 = n by omega, List.append_assoc]
          rfl)
        generalize valN ((l.drop k).take n) = x at hval HN
        have HVal := Lib.hid hval
        rw [hw] at HRow
        have s3 : (k : Int) ≤ (k : Int) + (n : Int) := by omega
        have s4 : (k : Int) + (n : Int) ≤ (s.size : Int) := by omega
        have s5 : ((k : Int) + (n : Int)).toNat = k + n := by omega
        have s6 : ((n : Int) == 0) = false := by rw [beq_eq_false_iff_ne]; omega
        clear hB hO hE hol hex hsz hrow hdo hex2 hwr hn hw hsz2 hval hlt
        go_wp2_with fail
        refine (HRow.out _).mono ?_
        rintro e w3 ⟨rfl, n3, rfl⟩
        go_wp2_with fail
        refine (HVal.out _).mono ?_
        rintro e w4 ⟨rfl, rfl⟩
        have HO4 := Lib.hid (show (wr.drewN n3).ownsRow w.heap.size 21 1 (.slice pa o.length pc) o.length (o.flatMap runeE) from HO.out)
        have HB4 := Lib.hid (below_dN HB.out n3)
        have hbs4 : w.heap.size ≤ (wr.drewN n3).heap.size := hbs
        generalize wr.drewN n3 = w5 at HO4 HB4 hbs4 ⊢
        go_wp2_with (at_builtin; go_loud (refine wpList_app1 _ rfl (.tmp 19) (.tmp 27) _ rfl ER _ _ _ rfl HO4.out 1 1 (runeE x) rfl (by decide) rfl (by intro u hu; simp [runeE] at hu; subst hu; rfl) hbig hbs4 ?_); intro g cp7 w7 ho7 hg7 hf7; have HB7 := Lib.hid (below_app HB4.out hbs4 HO4.out (Nat.le_refl _) hg7); have HO7 := Lib.hid ho7; clear ho7 hg7 hf7)
        go_roundw
        case rel => exact ⟨k + n, o ++ [x], by omega, by go_num, HB7.out, by rw [List.length_append, flat_snoc]; exact HO7.out, by rw [List.length_append]; have := HOl.out; simp; omega, HN.out⟩
        case measure => simp [intOf] <;> omega
      · have hw : wholeB (l.drop k) = false := Bool.eq_false_iff.2 hw
        have HN := Lib.hid (show o ++ [65533] ++ docD (l.drop (k + max n 1)) = docD l by
          rw [← HE.out, HDo.out, hw, if_neg (by decide), List.append_assoc]
          rfl)
        rw [hw] at HRow
        clear hB hO hE hol hex hsz hrow hdo hex2 hwr hn hw hlt
        go_wp2_with fail
        refine (HRow.out _).mono ?_
        rintro e w3 ⟨rfl, n3, rfl⟩
        have HO4 := Lib.hid (show (wr.drewN n3).ownsRow w.heap.size 21 1 (.slice pa o.length pc) o.length (o.flatMap runeE) from HO.out)
        have HB4 := Lib.hid (below_dN HB.out n3)
        have hbs4 : w.heap.size ≤ (wr.drewN n3).heap.size := hbs
        generalize wr.drewN n3 = w5 at HO4 HB4 hbs4 ⊢
        by_cases hn0 : n = 0
        · have HN2 := Lib.hid (show o ++ [65533] ++ docD (l.drop (k + 1)) = docD l by have := HN.out; rwa [hn0] at this)
          subst hn0
          go_wp2_with (at_builtin; go_loud (refine wpList_app1 _ rfl (.tmp 29) (.tmp 30) _ rfl ER _ _ _ rfl HO4.out 1 1 (runeE 65533) rfl (by decide) rfl (by intro u hu; simp [runeE] at hu; subst hu; rfl) hbig hbs4 ?_); intro g cp7 w7 ho7 hg7 hf7; have HB7 := Lib.hid (below_app HB4.out hbs4 HO4.out (Nat.le_refl _) hg7); have HO7 := Lib.hid ho7; clear ho7 hg7 hf7)
          go_roundw
          case rel => exact ⟨k + 1, o ++ [65533], by omega, by go_num, HB7.out, by rw [List.length_append, flat_snoc]; exact HO7.out, by rw [List.length_append]; have := HOl.out; simp; omega, HN2.out⟩
          case measure => simp [intOf] <;> omega
        · have HN2 := Lib.hid (show o ++ [65533] ++ docD (l.drop (k + n)) = docD l by have := HN.out; rwa [show max n 1 = n by omega] at this)
          have s6 : ((n : Int) == 0) = false := by rw [beq_eq_false_iff_ne]; omega
          have hn1 : 1 ≤ n := by omega
          clear hn0
          go_wp2_with (at_builtin; go_loud (refine wpList_app1 _ rfl (.tmp 29) (.tmp 30) _ rfl ER _ _ _ rfl HO4.out 1 1 (runeE 65533) rfl (by decide) rfl (by intro u hu; simp [runeE] at hu; subst hu; rfl) hbig hbs4 ?_); intro g cp7 w7 ho7 hg7 hf7; have HB7 := Lib.hid (below_app HB4.out hbs4 HO4.out (Nat.le_refl _) hg7); have HO7 := Lib.hid ho7; clear ho7 hg7 hf7)
          go_roundw
          case rel => exact ⟨k + n, o ++ [65533], by omega, by go_num, HB7.out, by rw [List.length_append, flat_snoc]; exact HO7.out, by rw [List.length_append]; have := HOl.out; simp; omega, HN2.out⟩
          case measure => simp [intOf] <;> omega
    · have hke : k = s.size := by omega
      have HRes := Lib.hid (show docD l = o by rw [← hE, List.drop_eq_nil_of_le (by omega), show docD [] = [] from rfl, List.append_nil])
      have s0 : ¬ k < s.size := hlt
      clear hB hO hE hol hlt
      go_wp2_with fail
      go_ret
      exact ⟨_, rfl, HB.out, by rw [HRes.out]; exact rd_of_owns HO.out⟩
end Go.Proofs.YtkeainhjghdfcaaGreat

/- The document's Read: its walk. (Printed by gen_rread.py.) -/
namespace Go.Proofs.YtkeainhjghdfcaaGreat
open Go.RowKit

theorem oper_app1g {P : Program} (w : World) {o : Oper} {act : Act} {K : Act → World → Prop} {Q : Exit → Act → World → Prop} (s x : Operand) (t : TypeId)
    (ho : o.op = .call { callee := .builtin .append, args := #[s, x], argTypes := #[t, t] })
    {base e size bytes : Nat} (E : ElemT P t e size bytes) (v : Value) (n : Nat) (xs : List Value) (hs : act.eval s = v) (hown : w.ownsRow base e size v n xs)
    (m c : Nat) (news : List Value) (hx : act.eval x = .slice (some ⟨w.heap.size, 0, none⟩) m c) (hm : 0 < m) (hl : news.length = m * size) (h1 : ∀ u ∈ news, u.oneCell' = true)
    (hbytes : (n + m) * bytes ≤ 140737488355328) (hbase : base ≤ w.heap.size)
    (h : ∀ g cap w', w'.ownsRow base e size (.slice (some ⟨g, 0, none⟩) (n + m) cap) (n + m) (xs ++ news) → w.grownBy w' v.ownBlock → (v.ownBlock = some g ∨ w.heap.size ≤ g) →
      K (act.put o.dst (.slice (some ⟨g, 0, none⟩) (n + m) cap)) w') : o.wp P act (w.alloc (.cells news.toArray e)) K Q := by
  have hnews : ∀ j u, news[j]? = some u → (w.alloc (.cells news.toArray e)).cell? ((⟨w.heap.size, 0, none⟩ : Addr).add j) = some u := by
    intro j u hu
    have hadd : (⟨w.heap.size, 0, none⟩ : Addr).add j = ⟨w.heap.size, j, none⟩ := by unfold Addr.add; split <;> simp_all
    rw [hadd, cell_of_row _ w.heap.size j news.toArray e (0, 0) (heap_alloc_new w _)]
    simpa using hu
  obtain ⟨g, cap, w', hr, h2, h3, h4⟩ := run_app (P := P) (ty := o.type) (w.alloc (.cells news.toArray e)) E v n xs (hown.alloc _) _ m c news hm hl hnews h1 hbytes (by simp; omega)
  unfold Oper.wp execOp
  simp only [ho, resolve, invoke, builtin, Sem.run_bind, Sem.run_pure, Result.andThen_ok, List.map_toArray, List.map_cons, List.map_nil, hs, hx, hr]
  refine h g cap w' h2 ?_ ?_
  · exact ⟨h3.os, h3.tape, h3.output, Nat.le_trans (by simp) h3.size, fun k hk hne => (h3.block k (by simp; omega) hne).trans (Below.heap_alloc w _ k hk)⟩
  · rcases h4 with h4 | h4
    · exact .inl h4
    · exact .inr (by simp at h4; omega)
section
variable {R : List Rw} {w : World} {rv : Value}
set_option maxRecDepth 100000 in
set_option maxHeartbeats 8000000 in
theorem rread_any (H : (tabOf R).Ok) (hR : RowsIn w rv R) (s : ByteArray) (hl : s.size ≤ 400000) :
    Calls Tryz.prog 43 #[rv, .string s] w fun e w' => ∃ u, e = .returned u ∧ Below w.heap.size w w' ∧ GlyIn w' u (readG R (decS Dc0 (bytesN s))) := by
  have HR := Lib.hid hR
  have hdl := decS_len (bytesN s)
  rw [bytesN_len] at hdl
  have HOk := Lib.hid (decS_ok s)
  have HDe := Lib.hid (rdecode_any s (by omega) w)
  generalize decS Dc0 (bytesN s) = l at hdl HOk HDe ⊢
  have HCl := Lib.hid (fun (W : World) (v : Value) (h1 : RowsIn W rv R) (h2 : RunesIn W v l) => rclusters_any H h1 h2 HOk.out (by omega))
  have HNe := Lib.hid (clus_ne (tabOf R) l.length l (Nat.le_refl _))
  have HMem := Lib.hid (clus_mem (tabOf R) l.length l (Nat.le_refl _))
  have hLl : (clus (tabOf R) l).length ≤ l.length := clusN_len (tabOf R) l.length l
  unfold readG
  generalize clus (tabOf R) l = LL at HCl HNe HMem hLl ⊢
  clear hR
  go_enter Tryz.func43, Tryz.ntmps43
  go_wp2_with fail
  refine HDe.out.mono ?_
  rintro e w1 ⟨u, rfl, hB1, hU1⟩
  have HB1 := Lib.hid hB1
  have HR1 := Lib.hid (HR.out.below hB1)
  have HU1 := Lib.hid hU1
  clear hB1 hU1 HDe HR
  go_wp2_with fail
  refine (HCl.out _ _ HR1.out HU1.out).mono ?_
  rintro e w2 ⟨v, rfl, hB2, hX2⟩
  have HB2 := Lib.hid (below_trans' HB1.out hB2)
  have HR2 := Lib.hid (HR1.out.below hB2)
  have HX := Lib.hid hX2
  obtain ⟨ta, tcap, rfl, ht1, ht2⟩ := texts_shape hX2
  unfold maxLen at ht2
  clear hB2 hX2 HB1 HR1 HU1 HCl
  go_wp2_with fail
  go_loopw [5, 7] (fun ov iv wr => ∃ (k : Nat) (G : List Gy), k ≤ LL.length ∧ iv = .int .i64 ((k : Nat) : Int) ∧ Below w2.heap.size w2 wr ∧ wr.ownsRow w2.heap.size 81 2 ov G.length (G.flatMap gyE) ∧ G = (LL.take k).map (rdG R)) (fun _ iv _ => LL.length - (intOf iv).toNat)
  case atStart => exact ⟨0, [], Nat.zero_le _, rfl, .refl _ _, World.ownsRow_nil _ _ _ _, rfl⟩
  case round =>
    obtain ⟨k, G, hk, rfl, hB, hO, hG⟩ := hrel
    have HB := Lib.hid hB
    have HO := Lib.hid hO
    have hbs := hB.size
    have hGl : G.length = k := by rw [hG, List.length_map, List.length_take]; omega
    obtain ⟨pa, pc, rfl⟩ := slice_of_owns hO
    by_cases hlt : k < LL.length
    · obtain ⟨c, hc⟩ : ∃ c, LL[k]? = some c := ⟨LL[k], List.getElem?_eq_getElem hlt⟩
      have hcm := List.mem_of_getElem? hc
      have hcl := (HNe.out c hcm).2
      have HOkc := Lib.hid (show RunesOk c from fun x hx => HOk.out x (HMem.out c hcm x hx))
      obtain ⟨b, off, cp, cu, hv, _, _, _, hbw, d00, hcu0⟩ := texts_cell HX.out hc
      cases hv
      have d0 := cell_later hB d00
      have hcu := hcu0.below hB
      have HCu := Lib.hid hcu
      obtain ⟨ca, cc, rfl, _⟩ := runes_cells hcu
      have HGn := Lib.hid (show G ++ [rdG R c] = (LL.take (k + 1)).map (rdG R) by rw [List.take_add_one, hc, List.map_append, hG]; rfl)
      have s0 : (k : Int) < (LL.length : Int) := by omega
      have s1 : (0 : Int) ≤ (k : Int) := by omega
      have e1 := IntWalk.i64_in ((k : Int) + 1) (by omega)
      have hbig : (G.length + 1) * 24 ≤ 140737488355328 := by omega
      have HRr := Lib.hid (HR2.out.below hB)
      clear hB hO hG hc hcm hcu hlt hGl d00 hcu0
      go_wp2_with fail
      refine wp_region_held_drew (S := fun w' => w'.cell? ⟨b, off + k, none⟩ = some (.slice ca c.length cc)) (by kernel_rfl) d0 (fun hHeld => ?_)
      refine hd_take 0 rfl (by kernel_rfl) (by kernel_rfl) (by kernel_rfl) (fun _ _ _ h => h) (by rfl) (by intro w hSw; (try dsimp only at hSw); go_simp; first | done | with_reducible rfl) hHeld ?_
      try simp only [Act.put, List.setIfInBounds_toArray, List.set_cons_zero, List.set_cons_succ]
      refine hd_take 1 rfl (by kernel_rfl) (by kernel_rfl) (by kernel_rfl) (fun _ _ _ h => h) (by rfl) (by intro w hSw; (try dsimp only at hSw); go_simp; first | done | with_reducible rfl) hHeld ?_
      try simp only [Act.put, List.setIfInBounds_toArray, List.set_cons_zero, List.set_cons_succ]
      refine hd_take 2 rfl (by kernel_rfl) (by kernel_rfl) (by kernel_rfl) (fun _ _ _ h => h) (by rfl) (by intro w hSw; (try dsimp only at hSw); go_simp; first | done | with_reducible rfl) hHeld ?_
      try simp only [Act.put, List.setIfInBounds_toArray, List.set_cons_zero, List.set_cons_succ]
      refine hd_take 3 rfl (by kernel_rfl) (by kernel_rfl) (by kernel_rfl) (fun _ _ _ h => h) (by rfl) (by intro w hSw; (try dsimp only at hSw); go_simp; first | done | with_reducible rfl) hHeld ?_
      try simp only [Act.put, List.setIfInBounds_toArray, List.set_cons_zero, List.set_cons_succ]
      refine hd_take 4 rfl (by kernel_rfl) (by kernel_rfl) (by kernel_rfl) (fun _ _ _ h => h) (by rfl) (by intro w hSw; (try dsimp only at hSw); go_simp; first | done | with_reducible rfl) hHeld ?_
      try simp only [Act.put, List.setIfInBounds_toArray, List.set_cons_zero, List.set_cons_succ]
      refine hd_take 6 rfl (by kernel_rfl) (by kernel_rfl) (by kernel_rfl) (fun _ _ _ h => h) (by rfl) (by intro w hSw; (try dsimp only at hSw); go_simp; first | done | with_reducible rfl) hHeld ?_
      try simp only [Act.put, List.setIfInBounds_toArray, List.set_cons_zero, List.set_cons_succ]
      refine hd_take 7 rfl (by kernel_rfl) (by kernel_rfl) (by kernel_rfl) (fun _ _ _ h => h) (by rfl) (by intro w hSw; (try dsimp only at hSw); go_simp; first | done | with_reducible rfl) hHeld ?_
      try simp only [Act.put, List.setIfInBounds_toArray, List.set_cons_zero, List.set_cons_succ]
      refine hd_take 8 rfl (by kernel_rfl) (by kernel_rfl) (by kernel_rfl) (fun _ _ _ h => h) (by rfl) (by intro w hSw; (try dsimp only at hSw); go_simp; first | done | with_reducible rfl) hHeld ?_
      try simp only [Act.put, List.setIfInBounds_toArray, List.set_cons_zero, List.set_cons_succ]
      refine hd_take 9 rfl (by kernel_rfl) (by kernel_rfl) (by kernel_rfl) (fun _ _ _ h => h) (by rfl) (by intro w hSw; (try dsimp only at hSw); go_simp; first | done | with_reducible rfl) hHeld ?_
      try simp only [Act.put, List.setIfInBounds_toArray, List.set_cons_zero, List.set_cons_succ]
      refine hd_take 10 rfl (by kernel_rfl) (by kernel_rfl) (by kernel_rfl) (fun _ _ _ h => h) (by rfl) (by intro w hSw; (try dsimp only at hSw); go_simp; first | done | with_reducible rfl) hHeld ?_
      try simp only [Act.put, List.setIfInBounds_toArray, List.set_cons_zero, List.set_cons_succ]
      refine hd_step 5 (by kernel_rfl) rfl (fun K hK => ?_)
      go_simp
      go_at_call 94
      refine (rencode_any (w := wr.drew) (HCu.out.drewN 1) (by omega)).mono ?_
      rintro e w3 ⟨rfl, hB3⟩
      have d3 := cell_later hB3 (show wr.drew.cell? _ = _ from d0)
      have HB3 := Lib.hid ((below_dN HB.out 1).trans (hB3.mono hbs))
      have HO3 := Lib.hid (owns_stays (show wr.drew.ownsRow w2.heap.size 81 2 (.slice pa G.length pc) G.length (G.flatMap gyE) from HO.out) hB3)
      have HC3 := Lib.hid (RunesIn.below (HCu.out.drewN 1) hB3)
      have HR3 := Lib.hid (RowsIn.below (w := wr.drew) HRr.out hB3)
      clear hB3
      refine hK.out _ _ d3 (fun hHeld => ?_)
      clear hK K
      try simp only [Act.put, List.setIfInBounds_toArray, List.set_cons_zero, List.set_cons_succ]
      refine hd_step 11 (by kernel_rfl) rfl (fun K hK => ?_)
      go_simp
      go_at_call 95
      refine (rwidth_any HR3.out HC3.out HOkc.out (by omega)).mono ?_
      rintro e w4 ⟨rfl, hB4⟩
      have d4 := cell_later hB4 d3
      have HB4 := Lib.hid (HB3.out.trans (hB4.mono HB3.out.size))
      have HO4 := Lib.hid (owns_stays HO3.out hB4)
      have hbs4 := HB4.out.size
      have hgy : rdG R c = (enc c, ((widN R c : Nat) : Int)) := rfl
      rw [hgy] at HGn
      clear hB4 HR3 HC3 HB3 HO3 hgy d3 HRr HB HO
      generalize enc c = ec at HGn ⊢
      generalize ((widN R c : Nat) : Int) = wc at HGn ⊢
      have hbl : b < w4.heap.size := World.block_lt_of_cell? w4 _ d4
      refine hK.out _ _ d4 (fun hHeld => ?_)
      clear hK K
      try simp only [Act.put, List.setIfInBounds_toArray, List.set_cons_zero, List.set_cons_succ]
      refine hd_take 12 rfl (by kernel_rfl) (by kernel_rfl) (by kernel_rfl) (fun _ _ _ h => h) (by rfl) (by intro w hSw; (try dsimp only at hSw); go_simp; first | done | with_reducible rfl) hHeld ?_
      try simp only [Act.put, List.setIfInBounds_toArray, List.set_cons_zero, List.set_cons_succ]
      refine hd_step 13 (by kernel_rfl) rfl (fun K hK => ?_)
      go_simp
      have d5 : (w4.alloc (.cells #[.string ec, .int .i64 wc] 81)).cell? ⟨b, off + k, none⟩ = some (.slice ca c.length cc) := (World.cell?_of_block (Below.heap_alloc w4 _ _ hbl)).trans d4
      refine hK.out _ _ d5 (fun hHeld => ?_)
      clear hK K
      try simp only [Act.put, List.setIfInBounds_toArray, List.set_cons_zero, List.set_cons_succ]
      refine hd_step 14 (by kernel_rfl) rfl (fun K hK => ?_)
      rw [if_pos (by rfl)]
      show Oper.wp Tryz.prog _ _ (w4.alloc (.cells #[.string ec, .int .i64 wc] 81)) _ _
      refine oper_app1g (base := w2.heap.size) w4 (.tmp 18) (.tmp 31) _ (by rfl) ERG (.slice pa G.length pc) G.length (G.flatMap gyE) (by rfl) HO4.out 1 1 (gyE (ec, wc)) (by rfl) (by decide) rfl (gyE_one _) hbig hbs4 ?_
      intro g cp7 w7 ho7 hg7 hf7
      have HB7 := Lib.hid (below_app HB4.out hbs4 HO4.out (Nat.le_refl _) hg7)
      have HO7 := Lib.hid ho7
      have d7 := (World.cell?_of_block (hg7.block b hbl (fun e => by have := (HO4.out.lt b e.symm).1; omega))).trans d4
      clear ho7 hg7 hf7
      refine hK.out _ _ d7 (fun hHeld => ?_)
      clear hK K
      try simp only [Act.put, List.setIfInBounds_toArray, List.set_cons_zero, List.set_cons_succ]
      refine hd_take 15 rfl (by kernel_rfl) (by kernel_rfl) (by kernel_rfl) (fun _ _ _ h => h) (by rfl) (by intro w hSw; (try dsimp only at hSw); go_simp; first | done | with_reducible rfl) hHeld ?_
      try simp only [Act.put, List.setIfInBounds_toArray, List.set_cons_zero, List.set_cons_succ]
      refine wpAnyH_done (by kernel_rfl) ?_ _
      clear hHeld d7 d5 d4
      go_wp2_with fail
      go_roundw
      case rel => exact ⟨k + 1, G ++ [(ec, wc)], by omega, by go_num, HB7.out, by rw [List.length_append, flat_snoc]; exact HO7.out, HGn.out⟩
      case measure => simp [intOf] <;> omega
    · have hke : k = LL.length := by omega
      subst hke
      rw [List.take_length] at hG
      have HGe := Lib.hid hG
      clear hlt hk hG hB hO hGl
      go_wp2_with fail
      go_ret
      exact ⟨_, rfl, below_trans' HB2.out HB.out, by rw [← HGe.out]; exact rd_of_owns HO.out⟩
end
end Go.Proofs.YtkeainhjghdfcaaGreat
