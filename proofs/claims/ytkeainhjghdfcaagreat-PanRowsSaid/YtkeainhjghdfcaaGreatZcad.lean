/- Joined texts: GlyJ GlyK GlyL GlyN. -/
import Derived.Deep.QuietTactic
import Derived.BigQuiet
import Derived.Laws.StructEq
import Derived.Test.YtkeainhjghdfcaaGreatZcac
import Derived.Test.YtkeainhjghdfcaaGreatZaaz
import Derived.Test.YtkeainhjghdfcaaGreatZcaa
/- Are two lists of glyphs the same? Chapter 13's facts. -/
namespace Go.Proofs.YtkeainhjghdfcaaGreat
open Go.RowKit

theorem gly_cells {w : World} {v : Value} {l : List Gy} (h : GlyIn w v l) {k : Nat} {x : Gy} (hx : l[k]? = some x) : ∃ b off cap, v = .slice (some ⟨b, off, none⟩) l.length cap ∧ l.length ≤ cap ∧ cap ≤ maxLen ∧ b < w.heap.size ∧ w.cell? ⟨b, off + k * 2, none⟩ = some (.string x.1) ∧ w.cell? ⟨b, off + k * 2 + 1, none⟩ = some (.int .i64 x.2) := by
  obtain ⟨a, cap, rfl, h1, h2, _, h4⟩ := h
  have hk := (List.getElem?_eq_some_iff.1 hx).1
  obtain ⟨b, off, rfl, hb, hc⟩ := h4 (by omega)
  refine ⟨b, off, cap, rfl, h1, h2, hb, ?_, ?_⟩
  · have := hc (k * 2 + 0) _ (flat_get gyE_len l k x 0 (.string x.1) hx rfl)
    simpa using this
  · exact hc (k * 2 + 1) _ (flat_get gyE_len l k x 1 (.int .i64 x.2) hx rfl)
theorem gly_shape {w : World} {v : Value} {l : List Gy} (h : GlyIn w v l) : ∃ a cap, v = .slice a l.length cap ∧ l.length ≤ cap ∧ cap ≤ maxLen := by
  obtain ⟨a, cap, hv, h1, h2, _⟩ := h
  exact ⟨a, cap, hv, h1, h2⟩
def glyEx (R : List Rw) : Bool := decide (glOf R [1] = [(⟨#[94]⟩, 1), (⟨#[65]⟩, 1)]) && decide (glOf R [769] = [(⟨#[226, 151, 140, 204, 129]⟩, 1)]) && decide (widN R [19968] = 2) && decide (widN R [127462, 127463] = 2)
structure GFacts (R : List Rw) : Prop where
  a : glOf R [1] = [(⟨#[94]⟩, 1), (⟨#[65]⟩, 1)]
  b : glOf R [769] = [(⟨#[226, 151, 140, 204, 129]⟩, 1)]
  c : widN R [19968] = 2
  d : widN R [127462, 127463] = 2
theorem gfacts_of {R : List Rw} (h : glyEx R = true) : GFacts R := by
  simp only [glyEx, Bool.and_eq_true, decide_eq_true_eq] at h
  exact ⟨h.1.1.1, h.1.1.2, h.1.2, h.2⟩
set_option maxRecDepth 100000 in
theorem glyRows_any : ∃ R : List Rw, RFacts R ∧ GFacts R ∧ ∀ w, Calls Tryz.prog 17 #[] w (LitPost R w) :=
  ⟨((((((((rowsFn Tryz.f51) ++ rowsFn Tryz.f52) ++ rowsFn Tryz.f53) ++ rowsFn Tryz.f54) ++ rowsFn Tryz.f55) ++ rowsFn Tryz.f56) ++ rowsFn Tryz.f57) ++ rowsFn Tryz.f58), rfacts_of (by kernel_rfl) (by kernel_rfl) (by kernel_rfl) (by kernel_rfl) (by kernel_rfl) (by kernel_rfl), gfacts_of (by kernel_rfl), fun w => apiRows_of _ _ _ _ _ _ _ _ (of_decide_eq_true (by kernel_rfl)) (of_decide_eq_true (by kernel_rfl)) (of_decide_eq_true (by kernel_rfl)) (of_decide_eq_true (by kernel_rfl)) (of_decide_eq_true (by kernel_rfl)) (of_decide_eq_true (by kernel_rfl)) (of_decide_eq_true (by kernel_rfl)) (of_decide_eq_true (by kernel_rfl)) classes_any pairs_any outs_any breaks_any picts_any conjs_any wides_any letters_any w⟩
end Go.Proofs.YtkeainhjghdfcaaGreat

/- Chapter 13's example; GlyphShows' walk. -/
namespace Go.Proofs.YtkeainhjghdfcaaGreat
open Go.RowKit

theorem toList_inj' {a b : ByteArray} (h : a.toList = b.toList) : a = b := by
  rw [ByteArray.toList_eq, ByteArray.toList_eq] at h
  obtain ⟨⟨x⟩⟩ := a
  obtain ⟨⟨y⟩⟩ := b
  simp at h
  rw [h]
theorem eql_cell_any (t : TypeId) (ht : Tryz.prog.underlying t = some (.struct (Tryz.prog.fieldsOf t))) (hp : Tryz.prog.stoodInHeld t = false) (f0 f1 : Field) (hf : (Tryz.prog.fieldsOf t).toList = [f0, f1]) (n0 : f0.name ≠ "_") (n1 : f1.name ≠ "_") (y0 : f0.type = 9) (y1 : f1.type = 3) (o0 : f0.offset = 0) (o1 : f1.offset = 1) (s1 s2 : ByteArray) (d1 d2 : Int) (w : World) :
    Sem.run Tryz.prog (binOp .eql t (.agg #[.string s1, .int .i64 d1]) (.agg #[.string s2, .int .i64 d2])) w = .ok (.bool (decide ((s1, d1) = (s2, d2)))) w := by
  rw [run_eql_struct, run_equalIn_agg _ _ _ _ _ ht hp, hf]
  simp only [Op.eqFields, y0, y1, o0, o1]
  simp [go_sem]
  rw [if_neg n0]
  by_cases hs : s1 = s2
  · subst hs
    rw [if_pos rfl, if_neg n1]
    by_cases hd : d1 = d2
    · subst hd; simp
    · simp [hd]
  · rw [if_neg (fun h => hs (toList_inj' h))]
    simp [hs]
set_option maxRecDepth 100000 in
theorem eql_gly (s1 s2 : ByteArray) (d1 d2 : Int) (w : World) :
    Sem.run Tryz.prog (binOp .eql 97 (.agg #[.string s1, .int .i64 d1]) (.agg #[.string s2, .int .i64 d2])) w = .ok (.bool (decide ((s1, d1) = (s2, d2)))) w :=
  eql_cell_any 97 (by kernel_rfl) (by kernel_rfl) _ _ rfl (by decide) (by decide) rfl rfl rfl rfl _ _ _ _ w
end Go.Proofs.YtkeainhjghdfcaaGreat

/- glyph.Line. -/
namespace Go.Proofs.YtkeainhjghdfcaaGreat
open Go.RowKit

/-- rows of two types lie apart -/
theorem sep_types {w : World} {b1 b2 e1 e2 s1 s2 n1 n2 : Nat} {v u : Value} {xs ys : List Value} (h : w.ownsRow b1 e1 s1 v n1 xs) (k : w.ownsRow b2 e2 s2 u n2 ys) (he : e1 ≠ e2) : Sep v u := by
  rcases h.2 with ⟨rfl, _⟩ | ⟨g, cap, cur, rfl, _, hg, _⟩
  · exact .inl rfl
  · rcases k.2 with ⟨rfl, _⟩ | ⟨g', cap', cur', rfl, _, hg', _⟩
    · exact .inr (by simp [Value.ownBlock])
    · refine .inr fun e => he ?_
      have e' : g = g' := by simpa [Value.ownBlock] using e
      subst e'
      rw [hg] at hg'
      cases hg'
      rfl
theorem owns_kept_types {w w' : World} {b1 b2 e1 e2 s1 s2 n1 n2 : Nat} {v u : Value} {xs ys : List Value} (h : w.ownsRow b1 e1 s1 v n1 xs) (k : w.ownsRow b2 e2 s2 u n2 ys) (he : e1 ≠ e2) (hg : w.grownBy w' v.ownBlock) : w'.ownsRow b2 e2 s2 u n2 ys :=
  k.kept hg (by rcases (sep_types h k he).symm with h | h; exact .inl h; exact .inr h)
def atsL (R : List Rw) (LL : List (List Int)) (k : Nat) : List Nat := (List.range k).map (aheadG R LL)
theorem atsL_succ (R : List Rw) (LL : List (List Int)) (k : Nat) : atsL R LL (k + 1) = atsL R LL k ++ [aheadG R LL k] := by
  unfold atsL; rw [List.range_succ, List.map_append]; rfl
theorem atsL_len (R : List Rw) (LL : List (List Int)) (k : Nat) : (atsL R LL k).length = k := by simp [atsL]
theorem atsL_get {R : List Rw} {LL : List (List Int)} {n k : Nat} (h : k < n) : (atsL R LL n)[k]? = some (aheadG R LL k) := by
  unfold atsL; rw [List.getElem?_map, List.getElem?_range h]; rfl
theorem lineG_le (R : List Rw) : ∀ LL : List (List Int), (lineG R LL).length ≤ 2 * LL.flatten.length
  | [] => by simp [lineG]
  | c :: LL => by
    have h1 := lineG_le R LL
    have h2 := glOf_le R c
    have e : lineG R (c :: LL) = glOf R c ++ lineG R LL := rfl
    rw [e, List.length_append, List.flatten_cons, List.length_append]
    omega
theorem clus_flat (T : Tab) : ∀ (n : Nat) (s : List Int), s.length ≤ n → (clus T s).flatten = s
  | 0, s, h => by
    have : s = [] := List.eq_nil_of_length_eq_zero (by omega)
    subst this; rfl
  | n + 1, s, h => by
    by_cases hs : s = []
    · subst hs; rfl
    · have hp := nx_pos T hs
      rw [clus_step T hs, List.flatten_cons, clus_flat T n _ (by rw [List.length_drop]; have := List.length_pos_iff.2 hs; omega), List.take_append_drop]
theorem clus_ne (T : Tab) : ∀ (n : Nat) (s : List Int), s.length ≤ n → ∀ c ∈ clus T s, c ≠ [] ∧ c.length ≤ s.length
  | 0, s, h => by
    have : s = [] := List.eq_nil_of_length_eq_zero (by omega)
    subst this; intro c hc; simp [clus_nil] at hc
  | n + 1, s, h => by
    by_cases hs : s = []
    · subst hs; intro c hc; simp [clus_nil] at hc
    · have hp := nx_pos T hs
      have hl := List.length_pos_iff.2 hs
      rw [clus_step T hs]
      intro c hc
      rcases List.mem_cons.1 hc with rfl | hc
      · refine ⟨fun e => ?_, by rw [List.length_take]; omega⟩
        have h1 : (s.take (nx T s)).length = 0 := by rw [e]; rfl
        rw [List.length_take] at h1
        omega
      · have := clus_ne T n (s.drop (nx T s)) (by rw [List.length_drop]; omega) c hc
        exact ⟨this.1, by have h2 := this.2; rw [List.length_drop] at h2; omega⟩
theorem clus_mem (T : Tab) : ∀ (n : Nat) (s : List Int), s.length ≤ n → ∀ c ∈ clus T s, ∀ x ∈ c, x ∈ s := by
  intro n s h c hc x hx
  rw [← clus_flat T n s h]
  exact List.mem_flatten.2 ⟨c, hc, hx⟩
theorem lineG_take_le (R : List Rw) (s : List Int) (k : Nat) : (lineG R ((clus (tabOf R) s).take k)).length ≤ 2 * s.length := by
  have h := lineG_le R (clus (tabOf R) s)
  rw [clus_flat (tabOf R) s.length s (Nat.le_refl _)] at h
  have : lineG R (clus (tabOf R) s) = lineG R ((clus (tabOf R) s).take k) ++ lineG R ((clus (tabOf R) s).drop k) := by
    unfold lineG; rw [← List.flatMap_append, List.take_append_drop]
  rw [this, List.length_append] at h
  omega
section
variable {R : List Rw} {s : List Int} {w : World} {v sv : Value} {tp : Nat}
set_option maxRecDepth 100000 in
set_option maxHeartbeats 2000000 in
theorem line_any (hT : Tb R w tp) (hs : RunesIn w sv s) (ok : RunesOk s) (hl : s.length ≤ 900000) :
    Calls Tryz.prog 59 #[.pointer (some ⟨tp, 0, none⟩), sv] w fun e w' => ∃ u a, e = .returned (.tuple #[u, a]) ∧ Below w.heap.size w w' ∧ GlyIn w' u (lineG R (clus (tabOf R) s)) ∧ IntsIn w' a (atsL R (clus (tabOf R) s) ((clus (tabOf R) s).length + 1)) := by
  have HT := Lib.hid hT
  have HS := Lib.hid hs
  have HOk := Lib.hid ok
  have HCl := Lib.hid (fun (W : World) (h1 : Tb R W tp) (h2 : RunesIn W sv s) => clusters_any h1 h2 ok (by omega))
  have HNe := Lib.hid (clus_ne (tabOf R) s.length s (Nat.le_refl _))
  have HMem := Lib.hid (clus_mem (tabOf R) s.length s (Nat.le_refl _))
  have HTk := Lib.hid (lineG_take_le R s)
  have hLl : (clus (tabOf R) s).length ≤ s.length := clusN_len (tabOf R) s.length s
  generalize clus (tabOf R) s = LL at HCl HNe HMem HTk hLl ⊢
  obtain ⟨sl, cap, rfl, hcap, hmax, _⟩ := runes_cells hs
  unfold maxLen at hmax
  clear hT hs ok
  go_enter Tryz.func59, Tryz.ntmps59
  go_wp2_with fail
  refine (HCl.out w HT.out HS.out).mono ?_
  rintro e w1 ⟨tu, rfl, hB1, hX1⟩
  have HB1 := Lib.hid hB1
  have HX := Lib.hid hX1
  have HT1 := Lib.hid (HT.out.below hB1)
  obtain ⟨ta, tcap, rfl, ht1, ht2⟩ := texts_shape hX1
  unfold maxLen at ht2
  clear hB1 hX1 HCl HT HS
  go_wp2_with fail
  go_loopw [6, 7, 14] (fun ov av iv wr => ∃ (k : Nat) (G : List Gy) (A : List Nat), k ≤ LL.length ∧ iv = .int .i64 ((k : Nat) : Int) ∧ Below w1.heap.size w1 wr ∧ wr.ownsRow w1.heap.size 97 2 ov G.length (G.flatMap gyE) ∧ wr.ownsRow w1.heap.size 3 1 av A.length (A.flatMap nE) ∧ G = lineG R (LL.take k) ∧ A = atsL R LL k) (fun _ _ iv _ => LL.length - (intOf iv).toNat)
  case atStart => exact ⟨0, [], [], Nat.zero_le _, rfl, .refl _ _, World.ownsRow_nil _ _ _ _, World.ownsRow_nil _ _ _ _, rfl, rfl⟩
  case round =>
    obtain ⟨k, G, A, hk, rfl, hB, hO, hA, hG, hAt⟩ := hrel
    have HB := Lib.hid hB
    have HG := Lib.hid hG
    have HAt := Lib.hid hAt
    have hAl : A.length = k := by rw [hAt, atsL_len]
    have hGl : G.length ≤ 2 * s.length := by rw [hG]; exact HTk.out k
    obtain ⟨pa, pc, rfl⟩ := slice_of_owns hO
    obtain ⟨qa, qc, rfl⟩ := slice_of_owns hA
    have HO := Lib.hid hO
    have HA := Lib.hid hA
    have hbs := HB.out.size
    clear hB hO hA hG hAt
    by_cases hlt : k < LL.length
    · obtain ⟨c, hc⟩ : ∃ c, LL[k]? = some c := ⟨LL[k], List.getElem?_eq_getElem hlt⟩
      have hcm := List.mem_of_getElem? hc
      have HC := Lib.hid hc
      have hcl := (HNe.out c hcm).2
      have HOkc := Lib.hid (show RunesOk c from fun x hx => HOk.out x (HMem.out c hcm x hx))
      obtain ⟨b, off, cp, cu, hv, _, _, _, _, d00, hcu⟩ := texts_cell HX.out hc
      cases hv
      have d0 := cell_later HB.out d00
      have HCu := Lib.hid hcu
      have hbig : (A.length + 1) * 8 ≤ 140737488355328 := by omega
      have hgl2 := glOf_le R c
      have hbig2 : (G.length + (glOf R c).length) * 24 ≤ 140737488355328 := by omega
      obtain ⟨ca, ccap, rfl, _, _, _⟩ := runes_cells hcu
      clear hc hcm hcu d00
      go_wp2_with (at_builtin; go_loud (refine wpList_app1 _ rfl (.tmp 18) (.tmp 21) _ rfl EI _ _ _ rfl HA.out 1 1 (nE G.length) rfl (by decide) rfl (nE_one _) hbig hbs ?_); intro g cp7 w7 ho7 hg7 hf7; have HB7 := Lib.hid (below_app HB.out hbs HA.out (Nat.le_refl _) hg7); have HA7 := Lib.hid ho7; have HO7 := Lib.hid (owns_kept_types HA.out HO.out (by decide) hg7); clear ho7 hg7 hf7)
      refine (gof_any (HT1.out.below HB7.out) (HCu.out.below HB7.out) HOkc.out (by omega)).mono ?_
      rintro e w8 ⟨u8, rfl, hB8, hI8⟩
      have HB8 := Lib.hid (HB7.out.trans (hB8.mono HB7.out.size))
      have HA8 := Lib.hid (owns_stays HA7.out hB8)
      have HO8 := Lib.hid (owns_stays HO7.out hB8)
      have HI8 := Lib.hid hI8
      have hbs8 := HB8.out.size
      have HGn := Lib.hid (show G ++ glOf R c = lineG R (LL.take (k + 1)) by rw [List.take_add_one, HC.out, HG.out]; exact (lineG_snoc R (LL.take k) c).symm)
      have HAn := Lib.hid (show A ++ [G.length] = atsL R LL (k + 1) by rw [atsL_succ, HAt.out, HG.out]; rfl)
      clear hB8 hI8 HA7 HO7 HB7 HA HO HB d0
      go_wp2_with (at_builtin; go_loud (refine wpList_app_rd _ rfl (.tmp 23) (.tmp 26) _ rfl EG _ _ _ rfl HO8.out _ _ _ rfl HI8.out (gyE_ones _) hbig2 hbs8 ?_); intro v9 w9 ho9 hg9; have HB9 := Lib.hid (below_app HB8.out hbs8 HO8.out (Nat.le_refl _) hg9); have HA9 := Lib.hid (owns_kept_types HO8.out HA8.out (by decide) hg9); have HO9 := Lib.hid ho9; clear ho9 hg9)
      go_roundw
      case rel => exact ⟨k + 1, G ++ glOf R c, A ++ [G.length], by omega, by go_num, HB9.out, by rw [List.length_append, List.flatMap_append]; exact HO9.out, by rw [List.length_append, flat_snoc]; have h := HA9.out; rw [hAl] at h ⊢; exact h, HGn.out, HAn.out⟩
      case measure => simp [intOf] <;> omega
    · have hke : k = LL.length := by omega
      subst hke
      rw [List.take_length] at HG
      have hbig : (A.length + 1) * 8 ≤ 140737488355328 := by omega
      have HAn := Lib.hid (show A ++ [G.length] = atsL R LL (LL.length + 1) by rw [atsL_succ, HAt.out, aheadG_end, HG.out])
      clear hlt hk
      go_wp2_with (at_builtin; go_loud (refine wpList_app1 _ rfl (.tmp 30) (.tmp 33) _ rfl EI _ _ _ rfl HA.out 1 1 (nE G.length) rfl (by decide) rfl (nE_one _) hbig hbs ?_); intro g cp7 w7 ho7 hg7 hf7; have HB7 := Lib.hid (below_app HB.out hbs HA.out (Nat.le_refl _) hg7); have HA7 := Lib.hid ho7; have HO7 := Lib.hid (owns_kept_types HA.out HO.out (by decide) hg7); clear ho7 hg7 hf7)
      go_ret2
      exact ⟨_, _, rfl, below_trans' HB1.out HB7.out, by rw [← HG.out]; exact gly_of_owns HO7.out, by
        rw [← HAn.out]
        exact ints_of_owns (base := w1.heap.size) (e := 3) (by rw [List.length_append, flat_snoc]; have h := HA7.out; rw [hAl] at h ⊢; exact h)⟩
end
end Go.Proofs.YtkeainhjghdfcaaGreat

/- The document's Line; a line's columns and bytes. -/
namespace Go.Proofs.YtkeainhjghdfcaaGreat
open Go.RowKit

/-- a glyphs' bytes, and columns, all together -/
def szG (L : List Gy) : Nat := (L.map (fun g => g.1.size)).sum
def wdG (L : List Gy) : Int := (L.map (fun g => g.2)).sum
theorem szG_app (a b : List Gy) : szG (a ++ b) = szG a + szG b := by unfold szG; rw [List.map_append, List.sum_append]
theorem wdG_app (a b : List Gy) : wdG (a ++ b) = wdG a + wdG b := by unfold wdG; rw [List.map_append, List.sum_append]
theorem szG_one (g : Gy) : szG [g] = g.1.size := by simp [szG]
theorem wdG_one (g : Gy) : wdG [g] = g.2 := by simp [wdG]
theorem take_snoc {L : List Gy} {k : Nat} {x : Gy} (h : L[k]? = some x) : L.take (k + 1) = L.take k ++ [x] := by rw [List.take_add_one, h]; rfl
theorem szG_take (L : List Gy) (k : Nat) : szG (L.take k) ≤ szG L := by
  have : szG L = szG (L.take k) + szG (L.drop k) := by rw [← szG_app, List.take_append_drop]
  omega
theorem caret_sz (r : Int) : szG (caretG r) ≤ 3 := by
  unfold caretG
  split
  · have : (strOfNums [r + 64]).size = 1 := by rw [strOfNums_size]; rfl
    show szG ([(⟨#[94]⟩, 1)] ++ [(strOfNums [r + 64], 1)]) ≤ 3
    rw [szG_app, szG_one, szG_one]
    show 1 + (strOfNums [r + 64]).size ≤ 3
    omega
  · split
    · show szG ([(⟨#[94]⟩, 1)] ++ [(⟨#[63]⟩, 1)]) ≤ 3
      rw [szG_app, szG_one, szG_one]
      show 1 + 1 ≤ 3
      omega
    · rw [szG_one]
      show (put 65533).size ≤ 3
      rw [put_size]
      decide
theorem carets_sz : ∀ c : List Int, szG (c.flatMap caretG) ≤ 3 * c.length
  | [] => by simp [szG]
  | r :: c => by
    have h1 := carets_sz c
    have h2 := caret_sz r
    rw [List.flatMap_cons, szG_app, List.length_cons]
    omega
theorem glOf_sz (R : List Rw) (c : List Int) : szG (glOf R c) ≤ 12 * c.length := by
  unfold glOf
  split
  · rename_i h; subst h; exact Nat.le_refl _
  · rename_i h
    have hl : 1 ≤ c.length := List.length_pos_iff.2 h
    split
    · have := carets_sz c; omega
    · rw [szG_one]
      show (enc (lean R c)).size ≤ _
      rw [enc_size]
      have h1 := encN_len (lean R c)
      have h2 := lean_len R c
      omega
theorem lineG_sz (R : List Rw) : ∀ LL : List (List Int), szG (lineG R LL) ≤ 12 * LL.flatten.length
  | [] => by simp [lineG, szG]
  | c :: LL => by
    have h1 := lineG_sz R LL
    have h2 := glOf_sz R c
    have e : lineG R (c :: LL) = glOf R c ++ lineG R LL := rfl
    rw [e, szG_app, List.flatten_cons, List.length_append]
    omega
theorem wdG_rng {L : List Gy} (h : ∀ g ∈ L, g.2 = 1 ∨ g.2 = 2) : 0 ≤ wdG L ∧ wdG L ≤ 2 * L.length := by
  induction L with
  | nil => simp [wdG]
  | cons g L ih =>
    have h1 := ih (fun x hx => h x (List.mem_cons_of_mem _ hx))
    have h2 := h g List.mem_cons_self
    have e : wdG (g :: L) = g.2 + wdG L := by simp [wdG]
    rw [e, List.length_cons]
    omega
section
variable {R : List Rw} {s : List Int} {w : World} {v sv : Value} {tp : Nat}
set_option maxRecDepth 100000 in
set_option maxHeartbeats 2000000 in
theorem rline_any (H : (tabOf R).Ok) (hR : RowsIn w v R) (hs : RunesIn w sv s) (ok : RunesOk s) (hl : s.length ≤ 900000) :
    Calls Tryz.prog 30 #[v, sv] w fun e w' => ∃ u a, e = .returned (.tuple #[u, a]) ∧ Below w.heap.size w w' ∧ GlyIn w' u (lineG R (clus (tabOf R) s)) ∧ IntsIn w' a (atsL R (clus (tabOf R) s) ((clus (tabOf R) s).length + 1)) := by
  have HR := Lib.hid hR
  have HS := Lib.hid hs
  have HOk := Lib.hid ok
  have HCl := Lib.hid (fun (W : World) (h1 : RowsIn W v R) (h2 : RunesIn W sv s) => rclusters_any H h1 h2 ok (by omega))
  have HNe := Lib.hid (clus_ne (tabOf R) s.length s (Nat.le_refl _))
  have HMem := Lib.hid (clus_mem (tabOf R) s.length s (Nat.le_refl _))
  have HTk := Lib.hid (lineG_take_le R s)
  have hLl : (clus (tabOf R) s).length ≤ s.length := clusN_len (tabOf R) s.length s
  generalize clus (tabOf R) s = LL at HCl HNe HMem HTk hLl ⊢
  obtain ⟨sl, cap, rfl, hcap, hmax, _⟩ := runes_cells hs
  unfold maxLen at hmax
  clear hR hs ok H
  go_enter Tryz.func30, Tryz.ntmps30
  go_wp2_with fail
  refine (HCl.out w HR.out HS.out).mono ?_
  rintro e w1 ⟨tu, rfl, hB1, hX1⟩
  have HB1 := Lib.hid hB1
  have HX := Lib.hid hX1
  have HR1 := Lib.hid (HR.out.below hB1)
  obtain ⟨ta, tcap, rfl, ht1, ht2⟩ := texts_shape hX1
  unfold maxLen at ht2
  clear hB1 hX1 HCl HR HS
  go_wp2_with fail
  go_loopw [6, 7, 9] (fun ov av iv wr => ∃ (k : Nat) (G : List Gy) (A : List Nat), k ≤ LL.length ∧ iv = .int .i64 ((k : Nat) : Int) ∧ Below w1.heap.size w1 wr ∧ wr.ownsRow w1.heap.size 81 2 ov G.length (G.flatMap gyE) ∧ wr.ownsRow w1.heap.size 3 1 av A.length (A.flatMap nE) ∧ G = lineG R (LL.take k) ∧ A = atsL R LL k) (fun _ _ iv _ => LL.length - (intOf iv).toNat)
  case atStart => exact ⟨0, [], [], Nat.zero_le _, rfl, .refl _ _, World.ownsRow_nil _ _ _ _, World.ownsRow_nil _ _ _ _, rfl, rfl⟩
  case round =>
    obtain ⟨k, G, A, hk, rfl, hB, hO, hA, hG, hAt⟩ := hrel
    have HB := Lib.hid hB
    have HG := Lib.hid hG
    have HAt := Lib.hid hAt
    have hAl : A.length = k := by rw [hAt, atsL_len]
    have hGl : G.length ≤ 2 * s.length := by rw [hG]; exact HTk.out k
    obtain ⟨pa, pc, rfl⟩ := slice_of_owns hO
    obtain ⟨qa, qc, rfl⟩ := slice_of_owns hA
    have HO := Lib.hid hO
    have HA := Lib.hid hA
    have hbs := HB.out.size
    clear hB hO hA hG hAt
    by_cases hlt : k < LL.length
    · obtain ⟨c, hc⟩ : ∃ c, LL[k]? = some c := ⟨LL[k], List.getElem?_eq_getElem hlt⟩
      have hcm := List.mem_of_getElem? hc
      have HC := Lib.hid hc
      have hcl := (HNe.out c hcm).2
      have HOkc := Lib.hid (show RunesOk c from fun x hx => HOk.out x (HMem.out c hcm x hx))
      obtain ⟨b, off, cp, cu, hv, _, _, _, _, d00, hcu⟩ := texts_cell HX.out hc
      cases hv
      have HD0 := Lib.hid d00
      have HCu := Lib.hid hcu
      have hbig : (A.length + 1) * 8 ≤ 140737488355328 := by omega
      have hgl2 := glOf_le R c
      have hbig2 : (G.length + (glOf R c).length) * 24 ≤ 140737488355328 := by omega
      obtain ⟨ca, ccap, rfl, _, _, _⟩ := runes_cells hcu
      have r0 : (k : Int) < (LL.length : Int) := by omega
      have r1 : (0 : Int) ≤ (k : Int) := by omega
      have e1 := IntWalk.i64_in ((k : Int) + 1) (by omega)
      clear hc hcm hcu d00
      go_wp2_with (at_builtin; go_loud (refine wpList_app1 _ rfl (.tmp 19) (.tmp 22) _ rfl EI _ _ _ rfl HA.out 1 1 (nE G.length) rfl (by decide) rfl (nE_one _) hbig hbs ?_); intro g cp7 w7 ho7 hg7 hf7; have HB7 := Lib.hid (below_app HB.out hbs HA.out (Nat.le_refl _) hg7); have HA7 := Lib.hid ho7; have HO7 := Lib.hid (owns_kept_types HA.out HO.out (by decide) hg7); have d0 := cell_later HB7.out HD0.out; clear ho7 hg7 hf7)
      refine (rgof_any (HR1.out.below HB7.out) (HCu.out.below HB7.out) HOkc.out (by omega)).mono ?_
      rintro e w8 ⟨u8, rfl, hB8, hI8⟩
      have HB8 := Lib.hid (HB7.out.trans (hB8.mono HB7.out.size))
      have HA8 := Lib.hid (owns_stays HA7.out hB8)
      have HO8 := Lib.hid (owns_stays HO7.out hB8)
      have HI8 := Lib.hid hI8
      have hbs8 := HB8.out.size
      have HGn := Lib.hid (show G ++ glOf R c = lineG R (LL.take (k + 1)) by rw [List.take_add_one, HC.out, HG.out]; exact (lineG_snoc R (LL.take k) c).symm)
      have HAn := Lib.hid (show A ++ [G.length] = atsL R LL (k + 1) by rw [atsL_succ, HAt.out, HG.out]; rfl)
      clear hB8 hI8 HA7 HO7 HB7 HA HO HB d0
      go_wp2_with (at_builtin; go_loud (refine wpList_app_rd _ rfl (.tmp 24) (.tmp 30) _ rfl ERG _ _ _ rfl HO8.out _ _ _ rfl HI8.out (gyE_ones _) hbig2 hbs8 ?_); intro v9 w9 ho9 hg9; have HB9 := Lib.hid (below_app HB8.out hbs8 HO8.out (Nat.le_refl _) hg9); have HA9 := Lib.hid (owns_kept_types HO8.out HA8.out (by decide) hg9); have HO9 := Lib.hid ho9; clear ho9 hg9)
      go_roundw
      case rel => exact ⟨k + 1, G ++ glOf R c, A ++ [G.length], by omega, by go_num, HB9.out, by rw [List.length_append, List.flatMap_append]; exact HO9.out, by rw [List.length_append, flat_snoc]; have h := HA9.out; rw [hAl] at h ⊢; exact h, HGn.out, HAn.out⟩
      case measure => simp [intOf] <;> omega
    · have hke : k = LL.length := by omega
      subst hke
      rw [List.take_length] at HG
      have hbig : (A.length + 1) * 8 ≤ 140737488355328 := by omega
      have HAn := Lib.hid (show A ++ [G.length] = atsL R LL (LL.length + 1) by rw [atsL_succ, HAt.out, aheadG_end, HG.out])
      have r0 : decide ((LL.length : Int) < (LL.length : Int)) = false := by simp
      clear hlt hk
      go_wp2_with (at_builtin; go_loud (refine wpList_app1 _ rfl (.tmp 33) (.tmp 36) _ rfl EI _ _ _ rfl HA.out 1 1 (nE G.length) rfl (by decide) rfl (nE_one _) hbig hbs ?_); intro g cp7 w7 ho7 hg7 hf7; have HB7 := Lib.hid (below_app HB.out hbs HA.out (Nat.le_refl _) hg7); have HA7 := Lib.hid ho7; have HO7 := Lib.hid (owns_kept_types HA.out HO.out (by decide) hg7); clear ho7 hg7 hf7)
      go_ret2
      exact ⟨_, _, rfl, below_trans' HB1.out HB7.out, by rw [← HG.out]; exact rgly_of_owns HO7.out, by
        rw [← HAn.out]
        exact ints_of_owns (base := w1.heap.size) (e := 3) (by rw [List.length_append, flat_snoc]; have h := HA7.out; rw [hAl] at h ⊢; exact h)⟩
end
end Go.Proofs.YtkeainhjghdfcaaGreat
