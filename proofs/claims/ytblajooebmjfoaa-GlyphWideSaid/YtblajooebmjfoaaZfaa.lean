/- Joined texts: GlyL GlyM. -/
import Derived.Test.YtblajooebmjfoaaZeac
import Derived.Test.YtblajooebmjfoaaZcaa
/- glyph.Line. -/
namespace Go.Proofs.Ytblajooebmjfoaa
open Go.RowKit

/-- rows of two types lie apart -/
theorem sep_types {w : World} {b1 b2 e1 e2 s1 s2 n1 n2 : Nat} {v u : Value} {xs ys : List Value} (h : w.ownsRow b1 e1 s1 v n1 xs) (k : w.ownsRow b2 e2 s2 u n2 ys) (he : e1 ≠ e2) : Sep v u := by
  rcases h.2 with ⟨rfl, _⟩ | ⟨g, cap, cur, rfl, _, hg, _⟩
  · exact .inl rfl
  · rcases k.2 with ⟨rfl, _⟩ | ⟨g', cap', cur', rfl, _, hg', _⟩
    · exact .inr (by simp [Value.ownBlock])
    · refine .inr fun e => he ?_
      have e' : g = g' := by simpa [Value.ownBlock] using e
      subst e'
      rw [hg] at hg'
      cases hg'
      rfl
theorem owns_kept_types {w w' : World} {b1 b2 e1 e2 s1 s2 n1 n2 : Nat} {v u : Value} {xs ys : List Value} (h : w.ownsRow b1 e1 s1 v n1 xs) (k : w.ownsRow b2 e2 s2 u n2 ys) (he : e1 ≠ e2) (hg : w.grownBy w' v.ownBlock) : w'.ownsRow b2 e2 s2 u n2 ys :=
  k.kept hg (by rcases (sep_types h k he).symm with h | h; exact .inl h; exact .inr h)
def atsL (R : List Rw) (LL : List (List Int)) (k : Nat) : List Nat := (List.range k).map (aheadG R LL)
theorem atsL_succ (R : List Rw) (LL : List (List Int)) (k : Nat) : atsL R LL (k + 1) = atsL R LL k ++ [aheadG R LL k] := by
  unfold atsL; rw [List.range_succ, List.map_append]; rfl
theorem atsL_len (R : List Rw) (LL : List (List Int)) (k : Nat) : (atsL R LL k).length = k := by simp [atsL]
theorem atsL_get {R : List Rw} {LL : List (List Int)} {n k : Nat} (h : k < n) : (atsL R LL n)[k]? = some (aheadG R LL k) := by
  unfold atsL; rw [List.getElem?_map, List.getElem?_range h]; rfl
theorem lineG_le (R : List Rw) : ∀ LL : List (List Int), (lineG R LL).length ≤ 2 * LL.flatten.length
  | [] => by simp [lineG]
  | c :: LL => by
    have h1 := lineG_le R LL
    have h2 := glOf_le R c
    have e : lineG R (c :: LL) = glOf R c ++ lineG R LL := rfl
    rw [e, List.length_append, List.flatten_cons, List.length_append]
    omega
theorem clus_flat (T : Tab) : ∀ (n : Nat) (s : List Int), s.length ≤ n → (clus T s).flatten = s
  | 0, s, h => by
    have : s = [] := List.eq_nil_of_length_eq_zero (by omega)
    subst this; rfl
  | n + 1, s, h => by
    by_cases hs : s = []
    · subst hs; rfl
    · have hp := nx_pos T hs
      rw [clus_step T hs, List.flatten_cons, clus_flat T n _ (by rw [List.length_drop]; have := List.length_pos_iff.2 hs; omega), List.take_append_drop]
theorem clus_ne (T : Tab) : ∀ (n : Nat) (s : List Int), s.length ≤ n → ∀ c ∈ clus T s, c ≠ [] ∧ c.length ≤ s.length
  | 0, s, h => by
    have : s = [] := List.eq_nil_of_length_eq_zero (by omega)
    subst this; intro c hc; simp [clus_nil] at hc
  | n + 1, s, h => by
    by_cases hs : s = []
    · subst hs; intro c hc; simp [clus_nil] at hc
    · have hp := nx_pos T hs
      have hl := List.length_pos_iff.2 hs
      rw [clus_step T hs]
      intro c hc
      rcases List.mem_cons.1 hc with rfl | hc
      · refine ⟨fun e => ?_, by rw [List.length_take]; omega⟩
        have h1 : (s.take (nx T s)).length = 0 := by rw [e]; rfl
        rw [List.length_take] at h1
        omega
      · have := clus_ne T n (s.drop (nx T s)) (by rw [List.length_drop]; omega) c hc
        exact ⟨this.1, by have h2 := this.2; rw [List.length_drop] at h2; omega⟩
theorem clus_mem (T : Tab) : ∀ (n : Nat) (s : List Int), s.length ≤ n → ∀ c ∈ clus T s, ∀ x ∈ c, x ∈ s := by
  intro n s h c hc x hx
  rw [← clus_flat T n s h]
  exact List.mem_flatten.2 ⟨c, hc, hx⟩
theorem lineG_take_le (R : List Rw) (s : List Int) (k : Nat) : (lineG R ((clus (tabOf R) s).take k)).length ≤ 2 * s.length := by
  have h := lineG_le R (clus (tabOf R) s)
  rw [clus_flat (tabOf R) s.length s (Nat.le_refl _)] at h
  have : lineG R (clus (tabOf R) s) = lineG R ((clus (tabOf R) s).take k) ++ lineG R ((clus (tabOf R) s).drop k) := by
    unfold lineG; rw [← List.flatMap_append, List.take_append_drop]
  rw [this, List.length_append] at h
  omega
section
variable {R : List Rw} {s : List Int} {w : World} {v sv : Value} {tp : Nat}
set_option maxRecDepth 100000 in
set_option maxHeartbeats 2000000 in
theorem line_any (hT : Tb R w tp) (hs : RunesIn w sv s) (ok : RunesOk s) (hl : s.length ≤ 900000) :
    Calls Try.prog 27 #[.pointer (some ⟨tp, 0, none⟩), sv] w fun e w' => ∃ u a, e = .returned (.tuple #[u, a]) ∧ Below w.heap.size w w' ∧ GlyIn w' u (lineG R (clus (tabOf R) s)) ∧ IntsIn w' a (atsL R (clus (tabOf R) s) ((clus (tabOf R) s).length + 1)) := by
  have HT := Lib.hid hT
  have HS := Lib.hid hs
  have HOk := Lib.hid ok
  have HCl := Lib.hid (fun (W : World) (h1 : Tb R W tp) (h2 : RunesIn W sv s) => clusters_any h1 h2 ok (by omega))
  have HNe := Lib.hid (clus_ne (tabOf R) s.length s (Nat.le_refl _))
  have HMem := Lib.hid (clus_mem (tabOf R) s.length s (Nat.le_refl _))
  have HTk := Lib.hid (lineG_take_le R s)
  have hLl : (clus (tabOf R) s).length ≤ s.length := clusN_len (tabOf R) s.length s
  generalize clus (tabOf R) s = LL at HCl HNe HMem HTk hLl ⊢
  obtain ⟨sl, cap, rfl, hcap, hmax, _⟩ := runes_cells hs
  unfold maxLen at hmax
  clear hT hs ok
  go_enter Try.func27, Try.ntmps27
  go_wp2_with fail
  refine (HCl.out w HT.out HS.out).mono ?_
  rintro e w1 ⟨tu, rfl, hB1, hX1⟩
  have HB1 := Lib.hid hB1
  have HX := Lib.hid hX1
  have HT1 := Lib.hid (HT.out.below hB1)
  obtain ⟨ta, tcap, rfl, ht1, ht2⟩ := texts_shape hX1
  unfold maxLen at ht2
  clear hB1 hX1 HCl HT HS
  go_wp2_with fail
  go_loopw [6, 7, 14] (fun ov av iv wr => ∃ (k : Nat) (G : List Gy) (A : List Nat), k ≤ LL.length ∧ iv = .int .i64 ((k : Nat) : Int) ∧ Below w1.heap.size w1 wr ∧ wr.ownsRow w1.heap.size 57 2 ov G.length (G.flatMap gyE) ∧ wr.ownsRow w1.heap.size 3 1 av A.length (A.flatMap nE) ∧ G = lineG R (LL.take k) ∧ A = atsL R LL k) (fun _ _ iv _ => LL.length - (intOf iv).toNat)
  case atStart => exact ⟨0, [], [], Nat.zero_le _, rfl, .refl _ _, World.ownsRow_nil _ _ _ _, World.ownsRow_nil _ _ _ _, rfl, rfl⟩
  case round =>
    obtain ⟨k, G, A, hk, rfl, hB, hO, hA, hG, hAt⟩ := hrel
    have HB := Lib.hid hB
    have HG := Lib.hid hG
    have HAt := Lib.hid hAt
    have hAl : A.length = k := by rw [hAt, atsL_len]
    have hGl : G.length ≤ 2 * s.length := by rw [hG]; exact HTk.out k
    obtain ⟨pa, pc, rfl⟩ := slice_of_owns hO
    obtain ⟨qa, qc, rfl⟩ := slice_of_owns hA
    have HO := Lib.hid hO
    have HA := Lib.hid hA
    have hbs := HB.out.size
    clear hB hO hA hG hAt
    by_cases hlt : k < LL.length
    · obtain ⟨c, hc⟩ : ∃ c, LL[k]? = some c := ⟨LL[k], List.getElem?_eq_getElem hlt⟩
      have hcm := List.mem_of_getElem? hc
      have HC := Lib.hid hc
      have hcl := (HNe.out c hcm).2
      have HOkc := Lib.hid (show RunesOk c from fun x hx => HOk.out x (HMem.out c hcm x hx))
      obtain ⟨b, off, cp, cu, hv, _, _, _, _, d00, hcu⟩ := texts_cell HX.out hc
      cases hv
      have d0 := cell_later HB.out d00
      have HCu := Lib.hid hcu
      have hbig : (A.length + 1) * 8 ≤ 140737488355328 := by omega
      have hgl2 := glOf_le R c
      have hbig2 : (G.length + (glOf R c).length) * 24 ≤ 140737488355328 := by omega
      obtain ⟨ca, ccap, rfl, _, _, _⟩ := runes_cells hcu
      clear hc hcm hcu d00
      go_wp2_with (at_builtin; go_loud (refine wpList_app1 _ rfl (.tmp 18) (.tmp 21) _ rfl EI _ _ _ rfl HA.out 1 1 (nE G.length) rfl (by decide) rfl (nE_one _) hbig hbs ?_); intro g cp7 w7 ho7 hg7 hf7; have HB7 := Lib.hid (below_app HB.out hbs HA.out (Nat.le_refl _) hg7); have HA7 := Lib.hid ho7; have HO7 := Lib.hid (owns_kept_types HA.out HO.out (by decide) hg7); clear ho7 hg7 hf7)
      refine (gof_any (HT1.out.below HB7.out) (HCu.out.below HB7.out) HOkc.out (by omega)).mono ?_
      rintro e w8 ⟨u8, rfl, hB8, hI8⟩
      have HB8 := Lib.hid (HB7.out.trans (hB8.mono HB7.out.size))
      have HA8 := Lib.hid (owns_stays HA7.out hB8)
      have HO8 := Lib.hid (owns_stays HO7.out hB8)
      have HI8 := Lib.hid hI8
      have hbs8 := HB8.out.size
      have HGn := Lib.hid (show G ++ glOf R c = lineG R (LL.take (k + 1)) by rw [List.take_add_one, HC.out, HG.out]; exact (lineG_snoc R (LL.take k) c).symm)
      have HAn := Lib.hid (show A ++ [G.length] = atsL R LL (k + 1) by rw [atsL_succ, HAt.out, HG.out]; rfl)
      clear hB8 hI8 HA7 HO7 HB7 HA HO HB d0
      go_wp2_with (at_builtin; go_loud (refine wpList_app_rd _ rfl (.tmp 23) (.tmp 26) _ rfl EG _ _ _ rfl HO8.out _ _ _ rfl HI8.out (gyE_ones _) hbig2 hbs8 ?_); intro v9 w9 ho9 hg9; have HB9 := Lib.hid (below_app HB8.out hbs8 HO8.out (Nat.le_refl _) hg9); have HA9 := Lib.hid (owns_kept_types HO8.out HA8.out (by decide) hg9); have HO9 := Lib.hid ho9; clear ho9 hg9)
      go_roundw
      case rel => exact ⟨k + 1, G ++ glOf R c, A ++ [G.length], by omega, by go_num, HB9.out, by rw [List.length_append, List.flatMap_append]; exact HO9.out, by rw [List.length_append, flat_snoc]; have h := HA9.out; rw [hAl] at h ⊢; exact h, HGn.out, HAn.out⟩
      case measure => simp [intOf] <;> omega
    · have hke : k = LL.length := by omega
      subst hke
      rw [List.take_length] at HG
      have hbig : (A.length + 1) * 8 ≤ 140737488355328 := by omega
      have HAn := Lib.hid (show A ++ [G.length] = atsL R LL (LL.length + 1) by rw [atsL_succ, HAt.out, aheadG_end, HG.out])
      clear hlt hk
      go_wp2_with (at_builtin; go_loud (refine wpList_app1 _ rfl (.tmp 30) (.tmp 33) _ rfl EI _ _ _ rfl HA.out 1 1 (nE G.length) rfl (by decide) rfl (nE_one _) hbig hbs ?_); intro g cp7 w7 ho7 hg7 hf7; have HB7 := Lib.hid (below_app HB.out hbs HA.out (Nat.le_refl _) hg7); have HA7 := Lib.hid ho7; have HO7 := Lib.hid (owns_kept_types HA.out HO.out (by decide) hg7); clear ho7 hg7 hf7)
      go_ret2
      exact ⟨_, _, rfl, below_trans' HB1.out HB7.out, by rw [← HG.out]; exact gly_of_owns HO7.out, by
        rw [← HAn.out]
        exact ints_of_owns (base := w1.heap.size) (e := 3) (by rw [List.length_append, flat_snoc]; have h := HA7.out; rw [hAl] at h ⊢; exact h)⟩
end
end Go.Proofs.Ytblajooebmjfoaa

/- GlyphWide's walk. -/
namespace Go.Proofs.Ytblajooebmjfoaa
open Go.RowKit

set_option maxRecDepth 100000 in
set_option maxHeartbeats 2000000 in
theorem glyphWide_any (v0 : Value) (l0 : List Int) (w : World) (hl : RunesIn w v0 l0) (hok : RunesOk l0) :
    Calls Try.prog 7 #[v0] w fun e w' => e = .returned (.bool true) ∧ Below w.heap.size w w' := by
  obtain ⟨R, HFc, hrows⟩ := apiRows_any
  have HF := Lib.hid HFc
  have HRows := Lib.hid hrows
  have HFew := Lib.hid (few_any hl 100)
  clear HFc hrows hl
  obtain ⟨l, hll⟩ : ∃ l, l = l0.take 100 := ⟨_, rfl⟩
  rw [← hll] at HFew
  have HOk := Lib.hid (show RunesOk l by rw [hll]; exact hok.take 100)
  have hlen : l.length ≤ 100 := by rw [hll, List.length_take]; omega
  have HRC := Lib.hid (fun (W : World) (rv sv : Value) (h1 : RowsIn W rv R) (h2 : RunesIn W sv l) => rclusters_any HF.out.seg.tab h1 h2 HOk.out (by omega))
  have HLine := Lib.hid (fun (W : World) (tp : Nat) (sv : Value) (h1 : Tb R W tp) (h2 : RunesIn W sv l) => line_any h1 h2 HOk.out (by omega))
  have HGok := Lib.hid (fun g (h : g ∈ lineG R (clus (tabOf R) l)) => lineG_ok R g h)
  have hGl := lineG_take_le R l (clus (tabOf R) l).length
  rw [List.take_length] at hGl
  have HNe := Lib.hid (fun c (h : c ∈ clus (tabOf R) l) => glOf_len R (clus_ne (tabOf R) l.length l (Nat.le_refl _) c h).1)
  have HNl := Lib.hid (fun c (h : c ∈ clus (tabOf R) l) => (clus_ne (tabOf R) l.length l (Nat.le_refl _) c h).2)
  have HTk := Lib.hid (lineG_take_le R l)
  have hLl : (clus (tabOf R) l).length ≤ l.length := clusN_len (tabOf R) l.length l
  generalize clus (tabOf R) l = LL at HRC HLine HGok hGl HNe HNl HTk hLl
  clear hll hok
  go_enter Try.func7, Try.ntmps7
  go_wp2_with fail
  refine HFew.out.mono ?_
  rintro e w' ⟨⟨sv, rfl, hS⟩, rfl⟩
  have HS := Lib.hid hS
  obtain ⟨sl, cap, rfl, _, _, _⟩ := runes_cells hS
  clear hS HFew
  go_wp2_with fail
  refine (HRows.out w).mono ?_
  rintro e w1 ⟨v, rfl, hB1, hR1⟩
  have HB1 := Lib.hid hB1
  have HR1 := Lib.hid hR1
  have HS1 := Lib.hid (HS.out.below hB1)
  clear hB1 hR1 HS
  go_wp2_with fail
  refine (build_tb v R w1 HR1.out HF.out.ok).mono ?_
  rintro e w2 ⟨tp, rfl, hB2, hT⟩
  have HT2 := Lib.hid hT
  have HR2 := Lib.hid (HR1.out.below hB2)
  have HS2 := Lib.hid (HS1.out.below hB2)
  have HB2 := Lib.hid (below_trans' HB1.out hB2)
  clear hB2 hT HB1 HR1 HS1
  go_wp2_with fail
  refine (HLine.out w2 tp _ HT2.out HS2.out).mono ?_
  rintro e w3 ⟨u, a, rfl, hB3, hG, hA⟩
  have HG := Lib.hid hG
  have HA := Lib.hid hA
  have HR3 := Lib.hid (HR2.out.below hB3)
  have HS3 := Lib.hid (HS2.out.below hB3)
  have HB3 := Lib.hid (below_trans' HB2.out hB3)
  obtain ⟨ga, gc, rfl, hg1, hg2⟩ := gly_shape hG
  obtain ⟨aa, ac, rfl, ha1, ha2, _⟩ := ints_cells hA
  rw [atsL_len] at ha1 ⊢
  unfold maxLen at hg2 ha2
  obtain ⟨G, hGe⟩ : ∃ G, G = lineG R LL := ⟨_, rfl⟩
  rw [← hGe] at HG HGok hGl hg1 ⊢
  have HGe := Lib.hid hGe
  clear hB3 hG hA HB2 HR2 HS2 HT2 hGe HLine
  go_wp2_with fail
  go_loopw [6] (fun iv wr => ∃ k : Nat, k ≤ G.length ∧ iv = .int .i64 ((k : Nat) : Int) ∧ Below w3.heap.size w3 wr) (fun iv _ => G.length - (intOf iv).toNat)
  case atStart => exact ⟨0, Nat.zero_le _, rfl, .refl _ _⟩
  case round =>
    obtain ⟨k, hk, rfl, hB⟩ := hrel
    have HB := Lib.hid hB
    clear hB
    by_cases hlt : k < G.length
    · obtain ⟨x, hx⟩ : ∃ x, G[k]? = some x := ⟨G[k], List.getElem?_eq_getElem hlt⟩
      have hxo := HGok.out x (List.mem_of_getElem? hx)
      obtain ⟨x1, x2⟩ := x
      have hx2 : x2 = 1 ∨ x2 = 2 := hxo.1
      have hx1 : 1 ≤ x1.size := hxo.2
      obtain ⟨b, off, _, hv, _, _, _, d0, d1⟩ := gly_cells (HG.out.below HB.out) hx
      cases hv
      have r0 : (k : Int) < (G.length : Int) := by omega
      have r1 : (0 : Int) ≤ (k : Int) := by omega
      have e1 := IntWalk.i64_in ((k : Int) + 1) (by omega)
      have t1 : decide (x2 < 1) = false := decide_eq_false (by omega)
      have t2 : decide (x2 > 2) = false := decide_eq_false (by omega)
      have t4 : ¬ x1 = (⟨#[]⟩ : ByteArray) := fun e => by rw [e] at hx1; exact absurd hx1 (by decide)
      have t5 : x1.toList.isEmpty = false := by
        rw [List.isEmpty_eq_false_iff]
        intro e
        exact t4 (toList_inj' (e.trans (by rw [ByteArray.toList_eq])))
      clear hx hxo hx2
      go_wp2_with fail
      go_roundw
      case rel => exact ⟨k + 1, by omega, by go_num, HB.out⟩
      case measure => simp [intOf] <;> omega
    · have hke : k = G.length := by omega
      subst hke
      have r0 : decide ((G.length : Int) < (G.length : Int)) = false := by simp
      have HB4 := Lib.hid (below_trans' HB3.out HB.out)
      have HS4 := Lib.hid (HS3.out.below HB.out)
      have HR4 := Lib.hid (HR3.out.below HB.out)
      have HA4 := Lib.hid (HA.out.below HB.out)
      clear hlt hk HB3 HS3 HR3 HA HB HG
      go_wp2_with fail
      refine (HRC.out wr _ _ HR4.out HS4.out).mono ?_
      rintro e w5 ⟨tu, rfl, hB5, hX5⟩
      have HB5 := Lib.hid (below_trans' HB4.out hB5)
      have HX5 := Lib.hid hX5
      have HA5 := Lib.hid (HA4.out.below hB5)
      obtain ⟨ta, tcap, rfl, ht1, ht2⟩ := texts_shape hX5
      unfold maxLen at ht2
      obtain ⟨b, off, ca, hv, _, _, _, _, d0⟩ := int_cell HA5.out (atsL_get (show 0 < LL.length + 1 by omega))
      rw [atsL_len] at hv
      cases hv
      obtain ⟨_, _, _, hv, _, _, _, _, d1⟩ := int_cell HA5.out (atsL_get (show LL.length < LL.length + 1 by omega))
      rw [atsL_len] at hv
      cases hv
      rw [aheadG_zero, Nat.add_zero] at d0
      rw [aheadG_end, ← HGe.out] at d1
      have e1 := IntWalk.i64_in ((LL.length : Int) + 1) (by omega)
      have q1 : (((LL.length + 1 : Nat) : Int) != ((LL.length : Nat) : Int) + 1) = false := by simp
      have q2 : ((G.length : Int) != (G.length : Int)) = false := by simp
      have r1 : (0 : Int) < ((LL.length + 1 : Nat) : Int) := by omega
      have r2 : (LL.length : Int) < ((LL.length + 1 : Nat) : Int) := by omega
      have r3 : (0 : Int) ≤ (LL.length : Int) := by omega
      clear hB5 hX5 HB4 HS4 HR4 HA4 HRC
      go_wp2_with fail
      go_loopw [8] (fun iv wr => ∃ k : Nat, k ≤ LL.length ∧ iv = .int .i64 ((k : Nat) : Int) ∧ Below w5.heap.size w5 wr) (fun iv _ => LL.length - (intOf iv).toNat)
      case atStart => exact ⟨0, Nat.zero_le _, rfl, .refl _ _⟩
      case round =>
        obtain ⟨k, hk, rfl, hB⟩ := hrel
        have HB := Lib.hid hB
        clear hB d0 d1
        by_cases hlt : k < LL.length
        · obtain ⟨c, hc⟩ : ∃ c, LL[k]? = some c := ⟨LL[k], List.getElem?_eq_getElem hlt⟩
          have hcm := List.mem_of_getElem? hc
          have h1 := HNe.out c hcm
          have h2 := aheadG_succ R hc
          have h3 := HNl.out c hcm
          have h4 := HTk.out (k + 1)
          obtain ⟨_, _, _, hv, _, _, _, _, d0⟩ := int_cell (HA5.out.below HB.out) (atsL_get (show k < LL.length + 1 by omega))
          rw [atsL_len] at hv
          cases hv
          obtain ⟨_, _, _, hv, _, _, _, _, d1⟩ := int_cell (HA5.out.below HB.out) (atsL_get (show k + 1 < LL.length + 1 by omega))
          rw [atsL_len] at hv
          cases hv
          rw [show (lineG R (LL.take (k + 1))).length = aheadG R LL (k + 1) from rfl] at h4
          generalize aheadG R LL (k + 1) = p at h2 h4 d1
          generalize aheadG R LL k = q at h2 d0
          obtain ⟨tb, toff, _, cu, hv, _, _, _, _, d2, hcu⟩ := texts_cell (HX5.out.below HB.out) hc
          cases hv
          obtain ⟨cua, cuc, rfl, _, _, _⟩ := runes_cells hcu
          have e1 := IntWalk.i64_in ((k : Int) + 1) (by omega)
          have e2 := IntWalk.i64_in ((p : Int) - (q : Int)) (by omega)
          have e3 := IntWalk.i64_in (2 * (c.length : Int)) (by omega)
          have t1 : decide ((p : Int) - (q : Int) < 1) = false := decide_eq_false (by omega)
          have t2 : decide ((p : Int) - (q : Int) > 2 * (c.length : Int)) = false := decide_eq_false (by omega)
          have s1 : (k : Int) < (LL.length : Int) := by omega
          have s2 : (0 : Int) ≤ (k : Int) := by omega
          have s3 : (k : Int) + 1 < ((LL.length + 1 : Nat) : Int) := by omega
          have s4 : (0 : Int) ≤ (k : Int) + 1 := by omega
          have s5 : (k : Int) < ((LL.length + 1 : Nat) : Int) := by omega
          have s6 : ((k : Int) + 1).toNat = k + 1 := by omega
          have s7 : (k : Int) + 1 < (LL.length : Int) + 1 := by omega
          have s8 : (k : Int) < (LL.length : Int) + 1 := by omega
          clear hc hcm h1 h2 h3 h4 hcu
          go_wp2_with fail
          go_quiet (fail)
          go_wp2_with fail
          go_roundw
          case rel => exact ⟨k + 1, by omega, by go_num, below_dN HB.out _⟩
          case measure => simp [intOf] <;> omega
        · have hke : k = LL.length := by omega
          subst hke
          have s1 : decide ((LL.length : Int) < (LL.length : Int)) = false := by simp
          clear hlt hk
          go_wp2_with fail
          refine (fin13 (below_trans' HB5.out HB.out)).mono ?_
          rintro e w9 ⟨rfl, hB9⟩
          go_wp2_with fail
          go_ret
          exact ⟨rfl, hB9⟩
end Go.Proofs.Ytblajooebmjfoaa
