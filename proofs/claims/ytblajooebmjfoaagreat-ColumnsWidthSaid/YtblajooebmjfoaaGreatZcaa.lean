/- Joined texts: App2 SegJ SegK. -/
import Derived.Test.YtblajooebmjfoaaGreatZbac
/- Appending what lies anywhere; rows of scalars. -/
namespace Go.Proofs.YtblajooebmjfoaaGreat
open Go.RowKit

/-- append of cells that lie anywhere. -/
theorem wpList_app2 {P : Program} (w : World) {ops : Array Oper} {rest : List Oper} {o : Oper} {act : Act} {Q : Exit → Act → World → Prop} (hgd : o.guard = none) (s x : Operand) (t : TypeId)
    (ho : o.op = .call { callee := .builtin .append, args := #[s, x], argTypes := #[t, t] })
    {base e size bytes : Nat} (E : ElemT P t e size bytes) (v : Value) (n : Nat) (xs : List Value) (hs : act.eval s = v) (hown : w.ownsRow base e size v n xs)
    (a : Addr) (m c : Nat) (news : List Value) (hx : act.eval x = .slice (some a) m c) (hm : 0 < m) (hl : news.length = m * size) (hnews : ∀ j u, news[j]? = some u → w.cell? (a.add j) = some u) (h1 : ∀ u ∈ news, u.oneCell' = true)
    (hbytes : (n + m) * bytes ≤ 140737488355328) (hbase : base ≤ w.heap.size)
    (h : ∀ g cap w', w'.ownsRow base e size (.slice (some ⟨g, 0, none⟩) (n + m) cap) (n + m) (xs ++ news) → w.grownBy w' v.ownBlock → (v.ownBlock = some g ∨ w.heap.size ≤ g) →
      wpList P ops Q rest (act.put o.dst (.slice (some ⟨g, 0, none⟩) (n + m) cap)) w') : wpList P ops Q (o :: rest) act w := by
  obtain ⟨g, cap, w', hr, h2, h3, h4⟩ := run_app (P := P) (ty := o.type) w E v n xs hown a m c news hm hl hnews h1 hbytes hbase
  refine wpList_plain hgd fun _ hK => ?_
  unfold Oper.wp execOp
  simp only [ho, resolve, invoke, builtin, Sem.run_bind, Sem.run_pure, Result.andThen_ok, List.map_toArray, List.map_cons, List.map_nil, hs, hx, hr]
  exact hK _ _ (h g cap w' h2 h3 h4)
theorem addr_off (b off j : Nat) : (⟨b, off, none⟩ : Addr).add j = ⟨b, off + j, none⟩ := by unfold Addr.add; split <;> simp_all
theorem runeE_one (l : List Int) : ∀ u ∈ l.flatMap runeE, u.oneCell' = true := by
  intro u hu
  obtain ⟨x, _, hx⟩ := List.mem_flatMap.1 hu
  simp [runeE] at hx; subst hx; rfl
theorem ER : ElemT Tryz.prog 22 21 1 4 := elemT_of (by kernel_rfl) (z := .int .i32 0) (by kernel_rfl) rfl (by decide) (by decide)
theorem ERR : ElemT Tryz.prog 160 22 1 24 := elemT_of (by kernel_rfl) (z := .slice none 0 0) (by kernel_rfl) rfl (by decide) (by decide)
theorem owns_lower {w : World} {b b' e size n : Nat} {v : Value} {xs : List Value} (h : w.ownsRow b e size v n xs) (hb : b' ≤ b) : w.ownsRow b' e size v n xs :=
  ⟨h.1, h.2.imp id fun ⟨g, cap, cur, e, hg, r⟩ => ⟨g, cap, cur, e, Nat.le_trans hb hg, r⟩⟩
end Go.Proofs.YtblajooebmjfoaaGreat

/- Clusters one by one: slices.Clone of scalars, seg.Clusters, the document's Clusters. -/
namespace Go.Proofs.YtblajooebmjfoaaGreat
open Go.RowKit

set_option maxRecDepth 100000 in
set_option maxHeartbeats 400000 in
theorem clone_runes {w : World} {v : Value} {l : List Int} (h : RunesIn w v l) (hn : 0 < l.length) (hsz : l.length ≤ 1000000) :
    Calls Tryz.prog 121 #[v] w fun e w' => ∃ u, e = .returned u ∧ w'.ownsRow w.heap.size 21 1 u l.length (l.flatMap runeE) ∧ Below w.heap.size w w' := by
  obtain ⟨a0, cap, rfl, hcap, hmax, hl, hq⟩ := h
  obtain ⟨b, off, rfl, hb, hc⟩ := hq hn
  have hnews : ∀ j u, (l.flatMap runeE)[j]? = some u → (w.alloc (.cells #[] 21)).cell? ((⟨b, off, none⟩ : Addr).add j) = some u := by
    intro j u hu
    rw [addr_off]
    have hcu := hc j u hu
    exact (World.cell?_of_block (Below.heap_alloc _ _ _ (World.block_lt_of_cell? w _ hcu))).trans hcu
  have hnil := fun W : World => Lib.run_eql_slice_nil (P := Tryz.prog) W 22 21 (some ⟨b, off, none⟩) l.length cap 0 0 Tryz.underlying22
  have H1 := Lib.hid hnews
  have H2 := Lib.hid hl
  have H3 := Lib.hid (runeE_one l)
  clear hnews hl hc hq hmax hcap
  go_enter Tryz.func121, Tryz.ntmps121
  go_wp2_with (at_builtin; refine wpList_app2 _ rfl _ _ _ rfl ER _ 0 [] rfl (World.ownsRow_made w #[] 0 (Nat.le_refl _) (by unfold maxLen; omega) (by simp)) ⟨b, off, none⟩ l.length cap (l.flatMap runeE) rfl hn H2.out H1.out H3.out (by omega) (by simp) ?_; intro g c w1 ho hg hf)
  have hB : Below w.heap.size w w1 := ((Below.refl _ _).alloc (Nat.le_refl _) _).grown hg (by simp) (fun k e => by cases e; exact Nat.le_refl _)
  have HO := Lib.hid ho
  clear ho hg hf
  go_ret
  have := HO.out
  simp only [Nat.zero_add, List.nil_append] at this
  exact ⟨_, rfl, by simpa using this, hB⟩

/-- a text's clusters -/
def clusN (T : Tab) : Nat → List Int → List (List Int)
  | 0, _ => []
  | n + 1, s => match s with
    | [] => []
    | x :: l => (x :: l).take (nx T (x :: l)) :: clusN T n ((x :: l).drop (nx T (x :: l)))
theorem clusN_eq (T : Tab) : ∀ (n m : Nat) (s : List Int), s.length ≤ n → s.length ≤ m → clusN T n s = clusN T m s
  | 0, 0, _, _, _ => rfl
  | 0, m + 1, s, h, _ => by
    have : s = [] := List.eq_nil_of_length_eq_zero (by omega)
    subst this; rfl
  | n + 1, 0, s, _, h => by
    have : s = [] := List.eq_nil_of_length_eq_zero (by omega)
    subst this; rfl
  | n + 1, m + 1, s, h1, h2 => by
    cases s with
    | nil => rfl
    | cons x l =>
      simp only [clusN]
      have hp := nx_pos T (s := x :: l) (by simp)
      rw [clusN_eq T n m _ (by rw [List.length_drop]; omega) (by rw [List.length_drop]; omega)]
def clus (T : Tab) (s : List Int) : List (List Int) := clusN T s.length s
theorem clus_nil (T : Tab) : clus T [] = [] := rfl
theorem clus_step (T : Tab) {s : List Int} (h : s ≠ []) : clus T s = s.take (nx T s) :: clus T (s.drop (nx T s)) := by
  cases s with
  | nil => exact absurd rfl h
  | cons x l =>
    have hp := nx_pos T (s := x :: l) (by simp)
    unfold clus
    show clusN T (l.length + 1) (x :: l) = _
    simp only [clusN]
    rw [clusN_eq T l.length _ _ (by rw [List.length_drop]; simp; omega) (Nat.le_refl _)]
theorem clusN_len (T : Tab) : ∀ (n : Nat) (s : List Int), (clusN T n s).length ≤ n
  | 0, _ => Nat.le_refl _
  | n + 1, s => by
    cases s with
    | nil => simp [clusN]
    | cons x l => simp only [clusN, List.length_cons]; have := clusN_len T n ((x :: l).drop (nx T (x :: l))); omega
/-- v reads as the texts LL -/
def TextsIn (w : World) (v : Value) (LL : List (List Int)) : Prop := ∃ vs : List Value, Rd w.heap.size w 1 v LL.length vs ∧ ∀ (i : Nat) (u : Value) (l : List Int), vs[i]? = some u → LL[i]? = some l → RunesIn w u l
theorem TextsIn.below {w w' : World} {v : Value} {LL : List (List Int)} (h : TextsIn w v LL) (hb : Below w.heap.size w w') : TextsIn w' v LL :=
  let ⟨vs, h1, h2⟩ := h
  ⟨vs, (Rd.below h1 hb (Nat.le_refl _)).mono hb.size, fun i u l hu hl => (h2 i u l hu hl).below hb⟩
section
variable {R : List Rw} {s : List Int} {w : World} {v sv : Value} {tp : Nat}
set_option maxRecDepth 100000 in
set_option maxHeartbeats 8000000 in
theorem clusters_any (hT : Tb R w tp) (hs : RunesIn w sv s) (ok : RunesOk s) (hl : s.length ≤ 1000000) :
    Calls Tryz.prog 97 #[.pointer (some ⟨tp, 0, none⟩), sv] w fun e w' => ∃ u, e = .returned u ∧ Below w.heap.size w w' ∧ TextsIn w' u (clus (tabOf R) s) := by
  have HT := Lib.hid hT
  have HS := Lib.hid hs
  have HOk := Lib.hid ok
  have hlen := clusN_len (tabOf R) s.length s
  obtain ⟨sl, cap, rfl, hcap, hmax, hcells⟩ := runes_cells hs
  unfold maxLen at hmax
  clear hT hs ok
  go_enter Tryz.func97, Tryz.ntmps97
  go_wp2_with fail
  go_loopw [5, 6] (fun ov iv wr => ∃ (k : Nat) (LL : List (List Int)) (vs : List Value), k ≤ s.length ∧ LL.length ≤ k ∧ vs.length = LL.length ∧ iv = .int .i64 ((k : Nat) : Int) ∧ Below w.heap.size w wr ∧ wr.ownsRow w.heap.size 22 1 ov LL.length vs ∧
    (∀ (i : Nat) (u : Value) (l : List Int), vs[i]? = some u → LL[i]? = some l → wr.ownsRow w.heap.size 21 1 u l.length (l.flatMap runeE) ∧ Sep ov u) ∧ LL ++ clus (tabOf R) (s.drop k) = clus (tabOf R) s) (fun _ iv _ => s.length - (intOf iv).toNat)
  case atStart => exact ⟨0, [], [], Nat.zero_le _, Nat.le_refl _, rfl, rfl, .refl _ _, World.ownsRow_nil _ _ _ _, fun i u l h => by simp at h, rfl⟩
  case round =>
    obtain ⟨k, LL, vs, hk, hLk, hvl, rfl, hB, hO, hE, hC⟩ := hrel
    have HB := Lib.hid hB
    have HE := Lib.hid hE
    have HC := Lib.hid hC
    obtain ⟨pa, pc, rfl⟩ := slice_of_owns hO
    have HO := Lib.hid hO
    clear hB hO hE hC
    by_cases hlt : k < s.length
    · have hne : s.drop k ≠ [] := fun e => by have := congrArg List.length e; rw [List.length_drop] at this; simp at this; omega
      have hp := nx_pos (tabOf R) hne
      have hnl : nx (tabOf R) (s.drop k) ≤ s.length - k := by have := nx_le (tabOf R) (s.drop k); rwa [List.length_drop] at this
      have HCall := Lib.hid (next_any k (HT.out.below HB.out) (HS.out.below HB.out) HOk.out hlt hl)
      have HSt := Lib.hid (clus_step (tabOf R) hne)
      generalize hnx : nx (tabOf R) (s.drop k) = n at HCall HSt hp hnl
      clear hnx hne
      obtain ⟨sb, soff, hsl, hsb, _⟩ := hcells (by omega)
      subst hsl
      have r0 : (k : Int) < (s.length : Int) := by omega
      have r1 : (0 : Int) ≤ (k : Int) := by omega
      have r2 : (k : Int) ≤ ((k + n : Nat) : Int) := by omega
      have r3 : ((k + n : Nat) : Int) ≤ (cap : Int) := by omega
      have r4 : (k : Int) ≤ (k : Int) + (n : Int) := by omega
      have r5 : (k : Int) + (n : Int) ≤ (cap : Int) := by omega
      have r6 : ¬ k = cap := by omega
      have r7 : ((k : Int) + (n : Int) - (k : Int)).toNat = n := by omega
      have r8 : ((cap : Int) - (k : Int)).toNat = cap - k := by omega
      have r9 : ((k : Int) + (n : Int)).toNat = k + n := by omega
      go_wp2_with fail
      refine HCall.out.mono ?_
      rintro e w1 ⟨rfl, hB1⟩
      have HB1 := Lib.hid (HB.out.trans (hB1.mono HB.out.size))
      have HO1 := Lib.hid (owns_stays HO.out hB1)
      have HE1 := Lib.hid (fun (i : Nat) (u : Value) (l : List Int) hu hl' => (⟨owns_stays (HE.out i u l hu hl').1 hB1, (HE.out i u l hu hl').2⟩ : w1.ownsRow w.heap.size 21 1 u l.length (l.flatMap runeE) ∧ Sep (.slice pa LL.length pc) u))
      have HSub := Lib.hid (show RunesIn w1 (.slice (some ⟨sb, soff + k, none⟩) (k + n - k) (cap - k)) ((s.take (k + n)).drop k) from runes_sub (HS.out.below HB1.out) (by omega) (by omega) (Nat.lt_of_lt_of_le hsb HB1.out.size))
      have hln : ((s.take (k + n)).drop k).length = n := by rw [List.length_drop, List.length_take]; omega
      rw [show k + n - k = n by omega] at HSub
      have HClone := Lib.hid (clone_runes HSub.out (by omega) (by omega))
      clear hB1 HO HE HB HCall
      go_wp2_with fail
      refine HClone.out.mono ?_
      rintro e w2 ⟨u, rfl, ho, hB2⟩
      have HB2 := Lib.hid (HB1.out.trans (hB2.mono HB1.out.size))
      have HO2 := Lib.hid (owns_stays HO1.out hB2)
      rw [hln] at ho
      have hsep : Sep (.slice pa LL.length pc) u := .inr fun e => by
        cases hob : (Value.slice pa LL.length pc).ownBlock with
        | none =>
          obtain ⟨g, c, rfl, hg, _⟩ := ownBlock_of_owns ho (by omega)
          rw [hob] at e; cases e
        | some b =>
          have h1 := (HO1.out.lt b hob).2
          have h2 := (ho.lt b (by rw [← e]; exact hob)).1
          omega
      have HU := Lib.hid (owns_lower ho HB1.out.size)
      have HE2 := Lib.hid (fun (i : Nat) (u : Value) (l : List Int) hu hl' => (⟨owns_stays (HE1.out i u l hu hl').1 hB2, (HE1.out i u l hu hl').2⟩ : w2.ownsRow w.heap.size 21 1 u l.length (l.flatMap runeE) ∧ Sep (.slice pa LL.length pc) u))
      have HSep := Lib.hid hsep
      have hbs := HB2.out.size
      obtain ⟨ua, uc, rfl⟩ := slice_of_owns ho
      clear ho hB2 hsep HB1 HO1 HE1 HClone HSub
      go_wp2_with (at_builtin; refine wpList_app1 _ rfl (.tmp 16) (.tmp 22) _ rfl ERR _ _ _ rfl HO2.out 1 1 [.slice ua n uc] rfl (by decide) rfl (by intro u hu; simp at hu; subst hu; rfl) (by omega) hbs ?_; intro g c w7 ho7 hg7 hf7)
      have HB7 := Lib.hid (below_app HB2.out hbs HO2.out (Nat.le_refl _) hg7)
      have HO7 := Lib.hid ho7
      have HN := Lib.hid (show (LL ++ [(s.take (k + n)).drop k]) ++ clus (tabOf R) (s.drop (k + n)) = clus (tabOf R) s by
        rw [← HC.out, HSt.out, List.append_assoc]
        congr 1
        rw [List.drop_drop, List.singleton_append, List.drop_take, show k + n - k = n by omega])
      have HE7 := Lib.hid (show ∀ (i : Nat) (u : Value) (l : List Int), (vs ++ [.slice ua n uc])[i]? = some u → (LL ++ [(s.take (k + n)).drop k])[i]? = some l → w7.ownsRow w.heap.size 21 1 u l.length (l.flatMap runeE) ∧ Sep (.slice (some ⟨g, 0, none⟩) (LL.length + 1) c) u from fun i u l hu hl' => by
        by_cases hi : i < vs.length
        · rw [List.getElem?_append_left hi] at hu
          rw [List.getElem?_append_left (by omega)] at hl'
          obtain ⟨h1, h2⟩ := HE2.out i u l hu hl'
          exact And.symm (Sep.app h2 h1 hf7 hg7)
        · have hi' : i = vs.length := by
            have := (List.getElem?_eq_some_iff.1 hu).1
            simp at this; omega
          subst hi'
          rw [List.getElem?_append_right (Nat.le_refl _), Nat.sub_self] at hu
          rw [List.getElem?_append_right (by omega), show vs.length - LL.length = 0 by omega] at hl'
          simp at hu hl'
          subst hu
          subst hl'
          rw [hln]
          exact And.symm (Sep.app HSep.out HU.out hf7 hg7))
      clear ho7 hg7 hf7
      go_wp2_with fail
      go_roundw
      case rel => exact ⟨k + n, LL ++ [(s.take (k + n)).drop k], vs ++ [.slice ua n uc], by omega, by simp; omega, by simp [hvl], rfl, HB7.out, by
                    have ho := HO7.out
                    rw [List.length_append]; exact ho, HE7.out, HN.out⟩
      case measure => simp [intOf] <;> omega
    · have hke : k = s.length := by omega
      subst hke
      have HF := Lib.hid (show LL = clus (tabOf R) s by rw [← HC.out, List.drop_length, clus_nil, List.append_nil])
      clear hlt hk
      go_wp2_with fail
      go_ret
      exact ⟨_, rfl, HB.out, by
        rw [← HF.out]
        exact ⟨vs, rd_of_owns HO.out, fun i u l hu hl' => rd_of_owns (HE.out i u l hu hl').1⟩⟩
end
end Go.Proofs.YtblajooebmjfoaaGreat

/- The document's Clusters; texts compared; SegClusters: its walk. -/
namespace Go.Proofs.YtblajooebmjfoaaGreat
open Go.RowKit

section
variable {R : List Rw} {s : List Int} {w : World} {v sv : Value} {tp : Nat}
set_option maxRecDepth 100000 in
set_option maxHeartbeats 8000000 in
theorem rclusters_any (H : (tabOf R).Ok) (hR : RowsIn w v R) (hs : RunesIn w sv s) (ok : RunesOk s) (hl : s.length ≤ 1000000) :
    Calls Tryz.prog 95 #[v, sv] w fun e w' => ∃ u, e = .returned u ∧ Below w.heap.size w w' ∧ TextsIn w' u (clus (tabOf R) s) := by
  have HR := Lib.hid hR
  have HS := Lib.hid hs
  have HOk := Lib.hid ok
  have HTk := Lib.hid H
  obtain ⟨sl, cap, rfl, hcap, hmax, hcells⟩ := runes_cells hs
  unfold maxLen at hmax
  clear hR hs ok H
  go_enter Tryz.func95, Tryz.ntmps95
  go_wp2_with fail
  go_loopw [5, 6] (fun ov iv wr => ∃ (k : Nat) (LL : List (List Int)) (vs : List Value), k ≤ s.length ∧ LL.length ≤ k ∧ vs.length = LL.length ∧ iv = .int .i64 ((k : Nat) : Int) ∧ (k = s.length ∨ begAt (tabOf R) s k = true) ∧ Below w.heap.size w wr ∧ wr.ownsRow w.heap.size 22 1 ov LL.length vs ∧
    (∀ (i : Nat) (u : Value) (l : List Int), vs[i]? = some u → LL[i]? = some l → RunesIn w u l) ∧ LL ++ clus (tabOf R) (s.drop k) = clus (tabOf R) s) (fun _ iv _ => s.length - (intOf iv).toNat)
  case atStart => exact ⟨0, [], [], Nat.zero_le _, Nat.le_refl _, rfl, rfl, by
    cases s with
    | nil => exact .inl rfl
    | cons x l => exact .inr rfl, .refl _ _, World.ownsRow_nil _ _ _ _, fun i u l h => by simp at h, rfl⟩
  case round =>
    obtain ⟨k, LL, vs, hk, hLk, hvl, rfl, hb, hB, hO, hE, hC⟩ := hrel
    have HB := Lib.hid hB
    have HE := Lib.hid hE
    have HC := Lib.hid hC
    have HBg := Lib.hid hb
    obtain ⟨pa, pc, rfl⟩ := slice_of_owns hO
    have HO := Lib.hid hO
    clear hB hO hE hC hb
    by_cases hlt : k < s.length
    · have hne : s.drop k ≠ [] := fun e => by have := congrArg List.length e; rw [List.length_drop] at this; simp at this; omega
      have hbk := HBg.out.resolve_left (by omega)
      have hp := nx_pos (tabOf R) hne
      have hnl : nx (tabOf R) (s.drop k) ≤ s.length - k := by have := nx_le (tabOf R) (s.drop k); rwa [List.length_drop] at this
      have HCall := Lib.hid (rnext_any k (HR.out.below HB.out) (HS.out.below HB.out) HOk.out hlt hl)
      rw [← nx_fnb HTk.out hbk] at HCall
      have HNb := Lib.hid (nx_spec HTk.out hbk).2.2.2
      have HSt := Lib.hid (clus_step (tabOf R) hne)
      generalize hnx : nx (tabOf R) (s.drop k) = n at HCall HSt hp hnl HNb
      clear hnx hne hbk
      obtain ⟨sb, soff, hsl, hsb, _⟩ := hcells (by omega)
      subst hsl
      have r0 : (k : Int) < (s.length : Int) := by omega
      have r1 : (0 : Int) ≤ (k : Int) := by omega
      have r2 : (k : Int) ≤ ((k + n : Nat) : Int) := by omega
      have r3 : ((k + n : Nat) : Int) ≤ (cap : Int) := by omega
      have r4 : (k : Int) ≤ (k : Int) + (n : Int) := by omega
      have r5 : (k : Int) + (n : Int) ≤ (cap : Int) := by omega
      have r6 : ¬ k = cap := by omega
      have r7 : ((k : Int) + (n : Int) - (k : Int)).toNat = n := by omega
      have r8 : ((cap : Int) - (k : Int)).toNat = cap - k := by omega
      have r9 : ((k : Int) + (n : Int)).toNat = k + n := by omega
      go_wp2_with fail
      refine HCall.out.mono ?_
      rintro e w1 ⟨rfl, hB1⟩
      have HB1 := Lib.hid (HB.out.trans (hB1.mono HB.out.size))
      have HO1 := Lib.hid (owns_stays HO.out hB1)
      have HSub := Lib.hid (show RunesIn w (.slice (some ⟨sb, soff + k, none⟩) (k + n - k) (cap - k)) ((s.take (k + n)).drop k) from runes_sub HS.out (by omega) (by omega) hsb)
      have hln : ((s.take (k + n)).drop k).length = n := by rw [List.length_drop, List.length_take]; omega
      rw [show k + n - k = n by omega] at HSub
      have hbs := HB1.out.size
      clear hB1 HO HB HCall
      go_wp2_with (at_builtin; refine wpList_app1 _ rfl (.tmp 16) (.tmp 21) _ rfl ERR _ _ _ rfl HO1.out 1 1 [.slice (some ⟨sb, soff + k, none⟩) n (cap - k)] rfl (by decide) rfl (by intro u hu; simp at hu; subst hu; rfl) (by omega) hbs ?_; intro g c w7 ho7 hg7 hf7)
      have HB7 := Lib.hid (below_app HB1.out hbs HO1.out (Nat.le_refl _) hg7)
      have HO7 := Lib.hid ho7
      have HN := Lib.hid (show (LL ++ [(s.take (k + n)).drop k]) ++ clus (tabOf R) (s.drop (k + n)) = clus (tabOf R) s by
        rw [← HC.out, HSt.out, List.append_assoc]
        congr 1
        rw [List.drop_drop, List.singleton_append, List.drop_take, show k + n - k = n by omega])
      have HE7 := Lib.hid (show ∀ (i : Nat) (u : Value) (l : List Int), (vs ++ [.slice (some ⟨sb, soff + k, none⟩) n (cap - k)])[i]? = some u → (LL ++ [(s.take (k + n)).drop k])[i]? = some l → RunesIn w u l from fun i u l hu hl' => by
        by_cases hi : i < vs.length
        · rw [List.getElem?_append_left hi] at hu
          rw [List.getElem?_append_left (by omega)] at hl'
          exact HE.out i u l hu hl'
        · have hi' : i = vs.length := by
            have := (List.getElem?_eq_some_iff.1 hu).1
            simp at this; omega
          subst hi'
          rw [List.getElem?_append_right (Nat.le_refl _), Nat.sub_self] at hu
          rw [List.getElem?_append_right (by omega), show vs.length - LL.length = 0 by omega] at hl'
          simp at hu hl'
          subst hu
          subst hl'
          exact HSub.out)
      clear ho7 hg7 hf7
      go_wp2_with fail
      go_roundw
      case rel => exact ⟨k + n, LL ++ [(s.take (k + n)).drop k], vs ++ [.slice (some ⟨sb, soff + k, none⟩) n (cap - k)], by omega, by simp; omega, by simp [hvl], rfl, HNb.out, HB7.out, by
                    have ho := HO7.out
                    rw [List.length_append]; exact ho, HE7.out, HN.out⟩
      case measure => simp [intOf] <;> omega
    · have hke : k = s.length := by omega
      subst hke
      have HF := Lib.hid (show LL = clus (tabOf R) s by rw [← HC.out, List.drop_length, clus_nil, List.append_nil])
      clear hlt hk
      go_wp2_with fail
      go_ret
      exact ⟨_, rfl, HB.out, by
        rw [← HF.out]
        exact ⟨vs, rd_of_owns HO.out, fun i u l hu hl' => (HE.out i u l hu hl').below HB.out⟩⟩
end
theorem texts_cell {w : World} {v : Value} {LL : List (List Int)} (h : TextsIn w v LL) {k : Nat} {l : List Int} (hl : LL[k]? = some l) : ∃ b off cap u, v = .slice (some ⟨b, off, none⟩) LL.length cap ∧ cap ≤ maxLen ∧ LL.length ≤ cap ∧ k < LL.length ∧ b < w.heap.size ∧ w.cell? ⟨b, off + k, none⟩ = some u ∧ RunesIn w u l := by
  obtain ⟨vs, ⟨a, cap, rfl, h1, h2, h3, h4⟩, h5⟩ := h
  have hk := (List.getElem?_eq_some_iff.1 hl).1
  obtain ⟨b, off, rfl, hb, hq⟩ := h4 (by omega)
  have hv : vs[k]? = some (vs[k]'(by omega)) := List.getElem?_eq_getElem _
  exact ⟨b, off, cap, _, rfl, h2, h1, hk, hb, hq k _ hv, h5 k _ l hv hl⟩
theorem texts_shape {w : World} {v : Value} {LL : List (List Int)} (h : TextsIn w v LL) : ∃ a cap, v = .slice a LL.length cap ∧ LL.length ≤ cap ∧ cap ≤ maxLen := by
  obtain ⟨vs, ⟨a, cap, rfl, h1, h2, h3, h4⟩, h5⟩ := h
  exact ⟨a, cap, rfl, h1, h2⟩
end Go.Proofs.YtblajooebmjfoaaGreat
