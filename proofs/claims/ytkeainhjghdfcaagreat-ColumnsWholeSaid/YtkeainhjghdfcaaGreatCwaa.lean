/- Joined texts: Base ColA Map TrieM Held StrE Mk SpanP UcdR SegP SegQ GlyP CatG GlyA GlyB GlyC TrieP. -/
import Derived.WalkKit
import Derived.WalkSpells
import Derived.WalkLawsBesides
import Derived.Lib.Hide
import Derived.Test.YtkeainhjghdfcaaGreatRows
import Derived.Deep.QuietTactic
import Derived.BigQuiet
import Derived.IntWalk
import Derived.Maps.Own
import Derived.Maps.OwnSet
import Derived.DeepKeys5
import Derived.Laws.OwnMore
import Derived.Laws.Rows
import Derived.Deep.Quiet
import Derived.StillTail
import Derived.Deep.RegionHeld3
import Derived.Deep.MidRow
import Derived.Laws.StructEq
import Derived.Laws.Concat
import Derived.Laws.MakeOwn
import Derived.Test.YtkeainhjghdfcaaGreatProg
import Derived.Laws.BytesArg
import Derived.Deep.DeepCutAuto

/- Base lemmas of this seat: appends to a slice of the call's own, reading of slices, worlds that grow. No program is named here. -/
namespace Go.Proofs.YtkeainhjghdfcaaGreat
open Go.RowKit

/-- A slice type t of elements e of 'size' cells and 'bytes' bytes. -/
structure ElemT (P : Program) (t e : TypeId) (size bytes : Nat) : Prop where
  und : P.underlying t = some (.slice e)
  inf : ∃ i z, P.info? e = some i ∧ i.zero = some z ∧ i.size = size ∧ i.bytes = bytes ∧ z.cells.size = size
  pos : 0 < size
  posb : 0 < bytes

theorem elemT_of {P : Program} {t e : TypeId} {size bytes : Nat} {z : Value} (hu : P.underlying t = some (.slice e))
    (h : (P.info? e).map (fun i => (i.zero, i.size, i.bytes)) = some (some z, size, bytes)) (hz : z.cells.size = size) (hp : 0 < size) (hb : 0 < bytes) : ElemT P t e size bytes := by
  obtain ⟨i, hi, h1, h2, h3⟩ := info_parts h
  exact ⟨hu, ⟨i, z, hi, h1, h2, h3, hz⟩, hp, hb⟩

theorem ownBlock_of_owns {w : World} {base e size n : Nat} {v : Value} {xs : List Value} (h : w.ownsRow base e size v n xs) (hn : 0 < n) : ∃ g cap, v = .slice (some ⟨g, 0, none⟩) n cap ∧ base ≤ g ∧ g < w.heap.size := by
  rcases h.2 with ⟨_, h0⟩ | ⟨g, cap, cur, hv, hb, hg, _⟩
  · omega
  · exact ⟨g, cap, hv, hb, (Array.getElem?_eq_some_iff.1 hg).1⟩

theorem slice_of_owns {w : World} {base e size n : Nat} {v : Value} {xs : List Value} (h : w.ownsRow base e size v n xs) : ∃ a cap, v = .slice a n cap := by
  rcases h.2 with ⟨hv, h0⟩ | ⟨g, cap, cur, hv, _⟩
  · subst h0; exact ⟨none, 0, hv⟩
  · exact ⟨_, _, hv⟩

section
variable {P : Program}

/-- append with at least one new cell: the whole of what one may know behind it. -/
theorem run_app (w : World) {base t ty e size bytes : Nat} (E : ElemT P t e size bytes) (v : Value) (n : Nat) (xs : List Value) (hown : w.ownsRow base e size v n xs)
    (a : Addr) (m c : Nat) (news : List Value) (hm : 0 < m) (hl : news.length = m * size) (hnews : ∀ j u, news[j]? = some u → w.cell? (a.add j) = some u) (h1 : ∀ u ∈ news, u.oneCell' = true)
    (hbytes : (n + m) * bytes ≤ 140737488355328) (hbase : base ≤ w.heap.size) :
    ∃ g cap w', (Builtin.append_ #[t, t] ty #[v, .slice (some a) m c]).run P w = .ok (.slice (some ⟨g, 0, none⟩) (n + m) cap) w' ∧
      w'.ownsRow base e size (.slice (some ⟨g, 0, none⟩) (n + m) cap) (n + m) (xs ++ news) ∧ w.grownBy w' v.ownBlock ∧ (v.ownBlock = some g ∨ w.heap.size ≤ g) := by
  obtain ⟨hu, ⟨i, z, hi, hz, hsize, hby, hzs⟩, hsz, hbp⟩ := E
  have hnm : n + m ≤ 140737488355328 := Nat.le_trans (Nat.le_mul_of_pos_right _ hbp) hbytes
  have h63 : n + m ≤ maxLen := by unfold maxLen; omega
  obtain ⟨v', w', hr, h2, h3, h4⟩ := run_append_own (P := P) w base t ty e i z size bytes hu hi hz hsize hby hzs hsz v n xs hown a m c news hl hnews h1 h63 hbytes hbase
  obtain ⟨g, cap, rfl, hgb, hgl⟩ := ownBlock_of_owns h2 (by omega)
  refine ⟨g, cap, w', hr, h2, h3, ?_⟩
  rcases Nat.lt_or_ge g w.heap.size with hlt | hge
  · refine .inl ?_
    subst hsize
    subst hby
    rcases hown.2 with ⟨rfl, rfl⟩ | ⟨g0, cap0, cur, rfl, hbg, hg, hnc, hcm, hcs, htake⟩
    · exfalso
      have hx : xs = [] := List.eq_nil_of_length_eq_zero (by simpa using hown.1)
      subst hx
      have hr2 := run_append_nil (P := P) (ty := ty) w t e i z hu hi hz a m c news hl hnews (by omega) (by unfold maxLen at h63; omega) (by have hb := hbytes; simp only [Nat.zero_add] at hb; omega)
      rw [hr2] at hr
      injection hr with ha hb
      injection ha with ha1
      injection ha1 with ha2
      injection ha2 with ha3
      omega
    · by_cases hroom : n + m ≤ cap0
      · have hfit : n * i.size + news.length ≤ cur.size := by rw [hl, hcs, ← Nat.add_mul]; exact Nat.mul_le_mul_right _ hroom
        have hr2 := run_append_room (P := P) (ty := ty) w t e i hu hi g0 n cap0 cur hg a m c news hl hnews h1 hroom hfit
        rw [hr2] at hr
        injection hr with ha hb
        injection ha with ha1
        injection ha1 with ha2
        injection ha2 with ha3
        subst ha3
        rfl
      · exfalso
        have holds : ∀ j u, xs[j]? = some u → w.cell? ((⟨g0, 0, none⟩ : Addr).add j) = some u := hown.cells (g := g0) rfl
        have hr2 := run_append_grow (P := P) (ty := ty) w t e i z hu hi hz ⟨g0, 0, none⟩ n cap0 xs hown.1 holds a m c news hl hnews (by omega) (by unfold maxLen at h63; omega) (growslice_fits (by omega) hbytes)
        rw [hr2] at hr
        injection hr with ha hb
        injection ha with ha1
        injection ha1 with ha2
        injection ha2 with ha3
        omega
  · exact .inr hge

/-- The law at the operation: 'append(s, x)' (or more), the new cells in a block that was built just ahead. -/
theorem wpList_app1 (w : World) {ops : Array Oper} {rest : List Oper} {o : Oper} {act : Act} {Q : Exit → Act → World → Prop} (hgd : o.guard = none) (s x : Operand) (t : TypeId)
    (ho : o.op = .call { callee := .builtin .append, args := #[s, x], argTypes := #[t, t] })
    {base e size bytes : Nat} (E : ElemT P t e size bytes) (v : Value) (n : Nat) (xs : List Value) (hs : act.eval s = v) (hown : w.ownsRow base e size v n xs)
    (m c : Nat) (news : List Value) (hx : act.eval x = .slice (some ⟨w.heap.size, 0, none⟩) m c) (hm : 0 < m) (hl : news.length = m * size) (h1 : ∀ u ∈ news, u.oneCell' = true)
    (hbytes : (n + m) * bytes ≤ 140737488355328) (hbase : base ≤ w.heap.size)
    (h : ∀ g cap w', w'.ownsRow base e size (.slice (some ⟨g, 0, none⟩) (n + m) cap) (n + m) (xs ++ news) → w.grownBy w' v.ownBlock → (v.ownBlock = some g ∨ w.heap.size ≤ g) →
      wpList P ops Q rest (act.put o.dst (.slice (some ⟨g, 0, none⟩) (n + m) cap)) w') : wpList P ops Q (o :: rest) act (w.alloc (.cells news.toArray e)) := by
  have hnews : ∀ j u, news[j]? = some u → (w.alloc (.cells news.toArray e)).cell? ((⟨w.heap.size, 0, none⟩ : Addr).add j) = some u := by
    intro j u hu
    have hadd : (⟨w.heap.size, 0, none⟩ : Addr).add j = ⟨w.heap.size, j, none⟩ := by unfold Addr.add; split <;> simp_all
    rw [hadd, cell_of_row _ w.heap.size j news.toArray e (0, 0) (heap_alloc_new w _)]
    simpa using hu
  obtain ⟨g, cap, w', hr, h2, h3, h4⟩ := run_app (P := P) (ty := o.type) (w.alloc (.cells news.toArray e)) E v n xs (hown.alloc _) _ m c news hm hl hnews h1 hbytes (by simp; omega)
  refine wpList_plain hgd fun _ hK => ?_
  unfold Oper.wp execOp
  simp only [ho, resolve, invoke, builtin, Sem.run_bind, Sem.run_pure, Result.andThen_ok, List.map_toArray, List.map_cons, List.map_nil, hs, hx, hr]
  refine hK _ _ (h g cap w' h2 ?_ ?_)
  · exact ⟨h3.os, h3.tape, h3.output, Nat.le_trans (by simp) h3.size, fun k hk hne => (h3.block k (by simp; omega) hne).trans (Below.heap_alloc w _ k hk)⟩
  · rcases h4 with h4 | h4
    · exact .inl h4
    · exact .inr (by simp at h4; omega)

/-- Two values of slices do not lie in one block. -/
def Sep (v u : Value) : Prop := v.ownBlock = none ∨ v.ownBlock ≠ u.ownBlock

theorem Sep.symm {v u : Value} (h : Sep v u) : Sep u v := by
  rcases h with h | h
  · rcases hu : u.ownBlock with _ | b
    · exact .inl hu
    · exact .inr (by rw [hu, h]; simp)
  · exact .inr (fun e => h e.symm)

/-- Behind an append to v: u, which is another row, stays apart, and is kept. -/
theorem Sep.app {w w' : World} {v u : Value} {g n cap base e size k : Nat} {xs : List Value} (h : Sep v u) (hu : w.ownsRow base e size u k xs) (hf : v.ownBlock = some g ∨ w.heap.size ≤ g) (hg : w.grownBy w' v.ownBlock) :
    Sep (.slice (some ⟨g, 0, none⟩) n cap) u ∧ w'.ownsRow base e size u k xs := by
  refine ⟨?_, hu.kept hg (by rcases h.symm with h | h; exact .inl h; exact .inr h)⟩
  refine .inr ?_
  intro e
  simp only [Value.ownBlock] at e
  have hlt := (hu.lt g (by simpa [Value.ownBlock] using e.symm)).2
  rcases hf with hf | hf
  · rcases h with h | h
    · rw [h] at hf; cases hf
    · rw [hf] at h; exact h e
  · omega

/-- 'Below' behind an append to a row of the call's own. -/
theorem below_app {B : Nat} {w wr w' : World} {base e size n : Nat} {v : Value} {xs : List Value} (h : Below B w wr) (hB : B ≤ wr.heap.size) (hown : wr.ownsRow base e size v n xs) (hb : B ≤ base) (hg : wr.grownBy w' v.ownBlock) : Below B w w' :=
  h.grown hg hB (fun k hk => Nat.le_trans hb (hown.lt k hk).1)

theorem below_trans' {w w1 w2 : World} (h : Below w.heap.size w w1) (k : Below w1.heap.size w1 w2) : Below w.heap.size w w2 := h.trans (k.mono h.size)

theorem below_new {w w1 : World} (h : Below w.heap.size w w1) (o : Obj) : Below w.heap.size w (w1.alloc o) := h.alloc h.size o

theorem owns_stays {w w' : World} {base e size n : Nat} {v : Value} {xs : List Value} (h : w.ownsRow base e size v n xs) (hb : Below w.heap.size w w') : w'.ownsRow base e size v n xs :=
  h.kept (row := none) ⟨hb.os, hb.tape, hb.output, hb.size, fun k hk _ => hb.block k hk⟩ (by cases v.ownBlock <;> simp)

theorem owns_mono {w : World} {base base' e size n : Nat} {v : Value} {xs : List Value} (h : w.ownsRow base e size v n xs) (hb : base' ≤ base) : w.ownsRow base' e size v n xs := by
  refine ⟨h.1, ?_⟩
  rcases h.2 with h2 | ⟨g, cap, cur, hv, h1, h2⟩
  · exact .inl h2
  · exact .inr ⟨g, cap, cur, hv, Nat.le_trans hb h1, h2⟩

theorem ret_int {k : IntKind} {a b : Int} (h : a = b) : Ending.returned (.int k a) = .returned (.int k b) := by rw [h]

end

/-! ### Reading of slices: v reads, in w, as n elements whose cells are, one behind the other, xs; all of it in blocks below B -/
def Rd (B : Nat) (w : World) (sz : Nat) (v : Value) (n : Nat) (xs : List Value) : Prop :=
  ∃ a cap, v = .slice a n cap ∧ n ≤ cap ∧ cap ≤ maxLen ∧ xs.length = n * sz ∧
    (0 < n → ∃ b off, a = some ⟨b, off, none⟩ ∧ b < B ∧ ∀ j u, xs[j]? = some u → w.cell? ⟨b, off + j, none⟩ = some u)

theorem Rd.below {B B' : Nat} {w w' : World} {sz n : Nat} {v : Value} {xs : List Value} (h : Rd B w sz v n xs) (hb : Below B' w w') (hB : B ≤ B') : Rd B w' sz v n xs := by
  obtain ⟨a, cap, hv, h1, h2, h3, h4⟩ := h
  refine ⟨a, cap, hv, h1, h2, h3, fun hn => ?_⟩
  obtain ⟨b, off, ha, hb2, hc⟩ := h4 hn
  exact ⟨b, off, ha, hb2, fun j u hu => (hb.cell (p := ⟨b, off + j, none⟩) (by show b < B'; omega)).trans (hc j u hu)⟩

theorem Rd.mono {B B' : Nat} {w : World} {sz n : Nat} {v : Value} {xs : List Value} (h : Rd B w sz v n xs) (hB : B ≤ B') : Rd B' w sz v n xs := by
  obtain ⟨a, cap, hv, h1, h2, h3, h4⟩ := h
  refine ⟨a, cap, hv, h1, h2, h3, fun hn => ?_⟩
  obtain ⟨b, off, ha, hb2, hc⟩ := h4 hn
  exact ⟨b, off, ha, by omega, hc⟩

theorem Rd.nil (B : Nat) (w : World) (sz : Nat) : Rd B w sz (.slice none 0 0) 0 [] := ⟨none, 0, rfl, Nat.le_refl _, by unfold maxLen; omega, by simp, fun h => by omega⟩

theorem addr_add (g j : Nat) : (⟨g, 0, none⟩ : Addr).add j = ⟨g, j, none⟩ := by unfold Addr.add; split <;> simp_all

theorem rd_of_owns {w : World} {base e sz n : Nat} {v : Value} {xs : List Value} (h : w.ownsRow base e sz v n xs) : Rd w.heap.size w sz v n xs := by
  rcases h.2 with ⟨hv, h0⟩ | ⟨g, cap, cur, hv, hb, hg, hnc, hcm, hcs, ht⟩
  · subst h0
    exact ⟨none, 0, hv, Nat.le_refl _, by unfold maxLen; omega, h.1, fun hn => by omega⟩
  · refine ⟨_, cap, hv, hnc, hcm, h.1, fun _ => ⟨g, 0, rfl, (Array.getElem?_eq_some_iff.1 hg).1, fun j u hu => ?_⟩⟩
    have := h.cells (g := g) (by rw [hv]; rfl) j u hu
    rw [addr_add] at this
    simpa using this

theorem flat_get {α : Type} {enc : α → List Value} {sz : Nat} (hsz : ∀ x, (enc x).length = sz) : ∀ (l : List α) (k : Nat) (x : α) (j : Nat) (u : Value), l[k]? = some x → (enc x)[j]? = some u → (l.flatMap enc)[k * sz + j]? = some u := by
  intro l
  induction l with
  | nil => intro k x j u h; simp at h
  | cons y l ih =>
    intro k x j u hk hj
    rw [List.flatMap_cons]
    cases k with
    | zero =>
      simp at hk; subst hk
      have hlt := (List.getElem?_eq_some_iff.1 hj).1
      rw [List.getElem?_append_left (by omega)]
      simpa using hj
    | succ k =>
      rw [List.getElem?_append_right (by rw [hsz, Nat.succ_mul]; omega), hsz]
      have e : (k + 1) * sz + j - sz = k * sz + j := by rw [Nat.succ_mul]; omega
      rw [e]
      exact ih k x j u (by simpa using hk) hj

theorem flat_len {α : Type} {enc : α → List Value} {sz : Nat} (hsz : ∀ x, (enc x).length = sz) (l : List α) : (l.flatMap enc).length = l.length * sz := by
  induction l with
  | nil => simp
  | cons y l ih => rw [List.flatMap_cons, List.length_append, ih, hsz, List.length_cons, Nat.succ_mul]; omega

/-- v reads as the list l, each element by its cells. -/
def Rs {α : Type} (B : Nat) (w : World) (enc : α → List Value) (sz : Nat) (v : Value) (l : List α) : Prop := Rd B w sz v l.length (l.flatMap enc)

theorem flat_cell {α : Type} {enc : α → List Value} {sz : Nat} (hsz : ∀ x, (enc x).length = sz) {w : World} {l : List α} {b off : Nat} (hc : ∀ j u, (l.flatMap enc)[j]? = some u → w.cell? ⟨b, off + j, none⟩ = some u)
    {k : Nat} {x : α} (hk : l[k]? = some x) (j : Nat) {u : Value} (hj : (enc x)[j]? = some u) : w.cell? ⟨b, off + k * sz + j, none⟩ = some u := by
  rw [Nat.add_assoc]
  exact hc _ _ (flat_get hsz l k x j u hk hj)

/-- A slice literal. -/
theorem rs_lit {α : Type} {enc : α → List Value} {sz : Nat} (hsz : ∀ x, (enc x).length = sz) (w : World) (cs : Array Value) (e : TypeId) (l : List α) (n : Nat) (hn : n = l.length) (hm : n ≤ maxLen) (hcs : cs.toList = l.flatMap enc) :
    Rs (w.alloc (.cells cs e)).heap.size (w.alloc (.cells cs e)) enc sz (.slice (some ⟨w.heap.size, 0, none⟩) n n) l := by
  subst hn
  refine ⟨_, _, rfl, Nat.le_refl _, hm, flat_len hsz l, fun _ => ⟨_, _, rfl, by simp, fun j u hu => ?_⟩⟩
  rw [Nat.zero_add, cell_of_row _ w.heap.size j cs e (0, 0) (heap_alloc_new w _), ← Array.getElem?_toList, hcs]
  exact hu

/-! ### n & (a mask) -/
theorem flat_snoc {α : Type} (enc : α → List Value) (l : List α) (x : α) : (l ++ [x]).flatMap enc = l.flatMap enc ++ enc x := by simp
theorem grown_refl (w : World) (r : Option Nat) : w.grownBy w r := ⟨rfl, rfl, rfl, Nat.le_refl _, fun _ _ _ => rfl⟩
theorem below_dN {B : Nat} {a w : World} (h : Below B a w) (n : Nat) : Below B a (w.drewN n) := ⟨h.os, h.tape, h.output, h.size, h.block⟩
end Go.Proofs.YtkeainhjghdfcaaGreat

/- Lists of ints: 'small', both 'Total', 'Same'. -/
namespace Go.Proofs.YtkeainhjghdfcaaGreat
open Go.RowKit

def ints (zs : List Int) : List Value := zs.map (.int .i64)
theorem ints_get {zs : List Int} {k : Nat} {z : Int} (h : zs[k]? = some z) : (ints zs)[k]? = some (.int .i64 z) := by simp [ints, h]
theorem ints_len (zs : List Int) : (ints zs).length = zs.length := by simp [ints]
theorem ints_snoc (zs : List Int) (z : Int) : ints zs ++ [.int .i64 z] = ints (zs ++ [z]) := by simp [ints]
theorem Ei : ElemT Tryz.prog 75 3 1 8 := elemT_of (by kernel_rfl) (z := .int .i64 0) (by kernel_rfl) rfl (by decide) (by decide)
theorem one_int (z : Int) : ∀ u ∈ [Value.int .i64 z], u.oneCell' = true := by intro u hu; simp at hu; subst hu; rfl
/-- v reads as the list zs of ints. -/
def Ri (B : Nat) (w : World) (v : Value) (zs : List Int) : Prop := Rd B w 1 v zs.length (ints zs)
theorem ri_of_owns {w : World} {base e : Nat} {v : Value} {zs : List Int} (h : w.ownsRow base e 1 v zs.length (ints zs)) : Ri w.heap.size w v zs := rd_of_owns h

def totalL (zs : List Int) : Int := zs.foldl (· + ·) 0 + 2 * ((zs.length - 1 : Nat) : Int)
def sumL (zs : List Int) : Int := zs.foldl (· + ·) 0
theorem sumL_snoc (zs : List Int) (z : Int) : sumL (zs ++ [z]) = sumL zs + z := by simp [sumL]
theorem take_snoc' {α : Type} {zs : List α} {k : Nat} {z : α} (h : zs[k]? = some z) : zs.take (k + 1) = zs.take k ++ [z] := by rw [List.take_add_one, h]; rfl
def narrow (zs : List Int) : Prop := zs.length ≤ 1048576 ∧ ∀ z ∈ zs, 0 ≤ z ∧ z ≤ 1048576
theorem sumL_bd {zs : List Int} (h : narrow zs) : ∀ k, k ≤ zs.length → 0 ≤ sumL (zs.take k) ∧ sumL (zs.take k) ≤ 1048576 * k := by
  intro k
  induction k with
  | zero => intro _; simp [sumL]
  | succ k ih =>
    intro hk
    obtain ⟨h1, h2⟩ := ih (by omega)
    have hz : zs[k]? = some zs[k] := List.getElem?_eq_getElem (by omega)
    obtain ⟨w1, w2⟩ := h.2 zs[k] (List.getElem_mem _)
    rw [take_snoc' hz, sumL_snoc]
    omega
def partL (zs : List Int) (k : Nat) : Int := sumL (zs.take k) + 2 * ((k - 1 : Nat) : Int)

set_option maxRecDepth 100000 in
set_option maxHeartbeats 400000 in
theorem refTotal_any (v : Value) (zs : List Int) (w : World) (hR : Ri w.heap.size w v zs) (hn : narrow zs) :
    Calls Tryz.prog 41 #[v] w fun e w' => e = .returned (.int .i64 (totalL zs)) ∧ w = w' := by
  obtain ⟨a, cap, rfl, hcap, hmax, hxl, hcells⟩ := hR
  unfold maxLen at hmax
  have hlen := hn.1
  clear hxl
  go_enter Tryz.func41, Tryz.ntmps41
  go_wp2
  go_loop [3, 4] (fun n i => ∃ k : Nat, k ≤ zs.length ∧ i = .int .i64 k ∧ n = .int .i64 (partL zs k)) (fun _ i => zs.length - (intOf i).toNat)
  case atStart => exact ⟨0, Nat.zero_le _, rfl, rfl⟩
  case round =>
    obtain ⟨k, hk, rfl, rfl⟩ := hrel
    obtain ⟨s1, s2⟩ := sumL_bd hn k hk
    by_cases hlt : k < zs.length
    · obtain ⟨z, hz⟩ : ∃ z, zs[k]? = some z := ⟨zs[k], by simp [hlt]⟩
      obtain ⟨b, off, rfl, hbl, hc⟩ := hcells (by omega)
      obtain ⟨z1, z2⟩ := hn.2 z (List.mem_of_getElem? hz)
      have hd : w.cell? ⟨b, off + k, none⟩ = some (.int .i64 z) := hc _ _ (ints_get hz)
      have hp : partL zs (k + 1) = sumL (zs.take k) + z + 2 * (k : Int) := by unfold partL; rw [take_snoc' hz, sumL_snoc]; simp
      have hp0 : partL zs k = sumL (zs.take k) + 2 * ((k - 1 : Nat) : Int) := rfl
      generalize partL zs k = P at *
      generalize sumL (zs.take k) = S at *
      have HP := Lib.hid hp
      have hP1 : 0 ≤ P := by omega
      have hP2 : P ≤ 1152921504606846976 := by omega
      have HP0 := Lib.hid hp0
      clear hz hc hcells hp hp0
      by_cases h0 : (0 : Int) < k
      all_goals
        go_wp2
        go_round
        case rel => exact ⟨k + 1, by omega, by go_num, by rw [HP.out]; have := HP0.out; congr 1; omega⟩
        case measure => simp [intOf]; omega
    · have hkl : k = zs.length := by omega
      subst hkl
      have hT := Lib.hid (show partL zs zs.length = totalL zs by unfold partL totalL sumL; rw [List.take_length])
      clear hcells
      go_wp2
      go_ret
      exact ⟨ret_int hT.out, rfl⟩
end Go.Proofs.YtkeainhjghdfcaaGreat

/- Maps of the call's own, of whatever keys Go lets, as functions. No program is named here. -/
namespace Go.Proofs.YtkeainhjghdfcaaGreat
open Go.RowKit Go.Maps Go.WideShapes Go.ChangeMaps

section
variable {α β : Type}

/-- Keys of type k are read as α's; those that are ok may stand in a map. -/
structure KeyE (P : Program) (k : TypeId) (ek : α → Value) (ok : α → Prop) : Prop where
  K : Keyed P k
  lit : ∀ a, ok a → ∃ l, keyOf P k (ek a) = some l
  inj : ∀ a b, ek a = ek b → a = b

/-- Block b is a map that holds f. -/
def MapFn (ek : α → Value) (ev : β → Value) (ok : α → Prop) (w : World) (b : Nat) (f : α → Option β) : Prop :=
  ∃ es clock, w.heap[b]? = some (.map es clock) ∧ (∀ e ∈ es.toList, ∃ a c, ok a ∧ e.key = ek a ∧ e.val = ev c ∧ f a = some c) ∧
    (∀ a c, f a = some c → ∃ e ∈ es.toList, e.key = ek a ∧ e.val = ev c) ∧ es.toList.Pairwise (fun x y => x.key ≠ y.key)

def fnPut [DecidableEq α] (f : α → Option β) (x : α) (v : β) : α → Option β := fun a => if a = x then some v else f a
theorem fnPut_same [DecidableEq α] (f : α → Option β) (x : α) (v : β) : fnPut f x v x = some v := by unfold fnPut; rw [if_pos rfl]
theorem fnPut_other [DecidableEq α] (f : α → Option β) {x a : α} (v : β) (h : a ≠ x) : fnPut f x v a = f a := by unfold fnPut; rw [if_neg h]

theorem mapFn_made (ek : α → Value) (ev : β → Value) (ok : α → Prop) (w : World) : MapFn ek ev ok (w.alloc (.map #[] 0)) w.heap.size (fun _ => none) :=
  ⟨#[], 0, heap_alloc_new w _, by simp, by simp, by simp⟩

variable {ek : α → Value} {ev : β → Value} {ok : α → Prop} {P : Program} {k : TypeId}

theorem MapFn.lt {w : World} {b : Nat} {f : α → Option β} (h : MapFn ek ev ok w b f) : b < w.heap.size := by
  obtain ⟨es, clock, hb, _⟩ := h
  exact (Array.getElem?_eq_some_iff.1 hb).1
theorem MapFn.same {w w' : World} {b : Nat} {f : α → Option β} (h : MapFn ek ev ok w b f) (hb : w'.heap[b]? = w.heap[b]?) : MapFn ek ev ok w' b f := by
  obtain ⟨es, clock, h1, h2⟩ := h
  exact ⟨es, clock, hb.trans h1, h2⟩
theorem MapFn.below {w w' : World} {b : Nat} {f : α → Option β} (h : MapFn ek ev ok w b f) (hb : Below w.heap.size w w') : MapFn ek ev ok w' b f := h.same (hb.block b h.lt)
theorem MapFn.grown {w w' : World} {b : Nat} {r : Option Nat} {f : α → Option β} (h : MapFn ek ev ok w b f) (hb : w.grownBy w' r) (hr : some b ≠ r) : MapFn ek ev ok w' b f := h.same (hb.block b h.lt hr)

theorem run_look (E : KeyE P k ek ok) {w : World} {b : Nat} {f : α → Option β} (h : MapFn ek ev ok w b f) {t e : TypeId} (ht : P.underlying t = some (.map k e)) {z : Value} (hz : (zeroValue e).run P w = .ok z w) (c : Bool) (x : α) (hx : ok x) :
    (Instr.lookup t (.map (some b)) (ek x) c).run P w = .ok (match f x with | some v => (if c then .tuple #[ev v, .bool true] else ev v) | none => (if c then .tuple #[z, .bool false] else z)) w := by
  obtain ⟨es, clock, hb, h1, h2, h3⟩ := h
  obtain ⟨l, hl⟩ := E.lit x hx
  rcases E.K.find w hl es.toList (fun e he => by obtain ⟨a, c, ha, hk, _⟩ := h1 e he; rw [hk]; exact E.lit a ha) with ⟨g1, g2⟩ | ⟨j, e0, g1, g2, g3⟩
  · have hf : f x = none := by
      cases hfx : f x with
      | none => rfl
      | some v => obtain ⟨e1, he1, hk1, _⟩ := h2 x v hfx; exact absurd hk1 (g2 e1 he1)
    rw [hf]
    simp [Instr.lookup, run_underlying ht, MapKept.run_getObj_map hb, E.K.check w _ hl, g1, hz, Result.andThen]
  · obtain ⟨a, v, ha, hk, hv, hfa⟩ := h1 e0 (List.mem_of_getElem? g2)
    have : a = x := E.inj _ _ (hk.symm.trans g3)
    subst this
    rw [hfa]
    simp [Instr.lookup, run_underlying ht, MapKept.run_getObj_map hb, E.K.check w _ hl, g1, hv, Result.andThen]

theorem run_put [DecidableEq α] (E : KeyE P k ek ok) {w : World} {b : Nat} {f : α → Option β} (h : MapFn ek ev ok w b f) {t e : TypeId} (ht : P.underlying t = some (.map k e)) (x : α) (v : β) (hx : ok x) :
    ∃ w', (Instr.mapUpdate t (.map (some b)) (ek x) (ev v)).run P w = .ok () w' ∧ MapFn ek ev ok w' b (fnPut f x v) ∧ w.grownBy w' (some b) := by
  obtain ⟨es, clock, hb, h1, h2, h3⟩ := h
  obtain ⟨l, hl⟩ := E.lit x hx
  rcases E.K.find w hl es.toList (fun e he => by obtain ⟨a, c, ha, hk, _⟩ := h1 e he; rw [hk]; exact E.lit a ha) with ⟨g1, g2⟩ | ⟨j, e0, g1, g2, g3⟩
  · refine ⟨setBlock w b (.map (es.push ⟨ek x, ev v, clock⟩) (clock + 1)), ?_, ⟨_, _, heap_setBlock_same hb _, ?_, ?_, ?_⟩, ⟨rfl, rfl, rfl, by simp [setBlock], fun i _ hi => heap_setBlock_other hb _ (fun e => hi (by rw [e]))⟩⟩
    · simp [Instr.mapUpdate, run_underlying ht, MapKept.run_getObj_map hb, E.K.check w false hl, g1, MapKept.run_setObj_map _ hb, Result.andThen, setBlock]
    · intro e he
      simp only [Array.toList_push, List.mem_append, List.mem_singleton] at he
      rcases he with he | rfl
      · obtain ⟨a, c, ha, hk, hv, hf⟩ := h1 e he
        refine ⟨a, c, ha, hk, hv, ?_⟩
        rw [fnPut_other]
        · exact hf
        · intro e1; subst e1; exact g2 e he hk
      · exact ⟨x, v, hx, rfl, rfl, fnPut_same _ _ _⟩
    · intro a c hac
      simp only [Array.toList_push, List.mem_append, List.mem_singleton]
      by_cases hax : a = x
      · subst hax
        rw [fnPut_same] at hac
        cases hac
        exact ⟨_, .inr rfl, rfl, rfl⟩
      · rw [fnPut_other _ _ hax] at hac
        obtain ⟨e, he, r⟩ := h2 a c hac
        exact ⟨e, .inl he, r⟩
    · rw [Array.toList_push, List.pairwise_append]
      exact ⟨h3, by simp, fun e he y hy => by simp at hy; subst hy; exact g2 e he⟩
  · have hj : es[j]? = some e0 := by simpa using g2
    have hjl : j < es.toList.length := (List.getElem?_eq_some_iff.1 g2).1
    have hlist : (es.modify j (fun e' => { e' with key := ek x, val := ev v })).toList = es.toList.set j { e0 with key := ek x, val := ev v } := by rw [Array.toList_modify, modify_eq_set _ _ _ _ g2]
    have hother : ∀ i e1, es.toList[i]? = some e1 → i ≠ j → e1.key ≠ ek x := by
      intro i e1 hi hij hk
      have hil := (List.getElem?_eq_some_iff.1 hi)
      have hjj := (List.getElem?_eq_some_iff.1 g2)
      rcases Nat.lt_or_gt_of_ne hij with hlt | hlt
      · exact List.pairwise_iff_getElem.1 h3 i j hil.1 hjl hlt (by rw [hil.2, hjj.2, hk, g3])
      · exact List.pairwise_iff_getElem.1 h3 j i hjl hil.1 hlt (by rw [hil.2, hjj.2, hk, g3])
    refine ⟨setBlock w b (.map (es.modify j (fun e' => { e' with key := ek x, val := ev v })) clock), ?_, ⟨_, _, heap_setBlock_same hb _, ?_, ?_, ?_⟩, ⟨rfl, rfl, rfl, by simp [setBlock], fun i _ hi => heap_setBlock_other hb _ (fun e => hi (by rw [e]))⟩⟩
    · have hst := E.K.stays w hl
      simp [Instr.mapUpdate, run_underlying ht, MapKept.run_getObj_map hb, E.K.check w false hl, g1, hj, g3, hst, MapKept.run_setObj_map _ hb, Result.andThen, setBlock]
    · intro e he
      rw [hlist] at he
      obtain ⟨i, hi⟩ := List.mem_iff_getElem?.1 he
      by_cases hij : i = j
      · subst hij
        rw [List.getElem?_set_self hjl] at hi
        cases hi
        exact ⟨x, v, hx, rfl, rfl, fnPut_same _ _ _⟩
      · rw [List.getElem?_set_ne (by omega)] at hi
        obtain ⟨a, c, ha, hk, hv, hf⟩ := h1 e (List.mem_of_getElem? hi)
        refine ⟨a, c, ha, hk, hv, ?_⟩
        rw [fnPut_other]
        · exact hf
        · intro e1; subst e1; exact hother i e hi hij hk
    · intro a c hac
      rw [hlist]
      by_cases hax : a = x
      · subst hax
        rw [fnPut_same] at hac
        cases hac
        exact ⟨_, List.mem_of_getElem? (List.getElem?_set_self hjl), rfl, rfl⟩
      · rw [fnPut_other _ _ hax] at hac
        obtain ⟨e, he, hk, hv⟩ := h2 a c hac
        obtain ⟨i, hi⟩ := List.mem_iff_getElem?.1 he
        have hij : i ≠ j := by
          intro e1; subst e1
          rw [hi] at g2; cases g2
          exact hax (E.inj _ _ (hk.symm.trans g3))
        exact ⟨e, List.mem_of_getElem? ((List.getElem?_set_ne (by omega)).trans hi), hk, hv⟩
    · rw [hlist, List.pairwise_iff_getElem]
      intro i l hi hl' hil
      rw [List.length_set] at hi hl'
      have hk : ∀ i (hi : i < es.toList.length), ((es.toList.set j { e0 with key := ek x, val := ev v })[i]'(by rw [List.length_set]; exact hi)).key = (es.toList[i]).key := by
        intro i hi
        by_cases hij : i = j
        · subst hij
          rw [List.getElem_set_self]
          have := (List.getElem?_eq_some_iff.1 g2).2
          rw [this, g3]
        · rw [List.getElem_set_ne (by omega)]
      rw [hk i hi, hk l hl']
      exact List.pairwise_iff_getElem.1 h3 i l hi hl' hil

/-! ### at the operation -/
variable (w : World) {ops : Array Oper} {rest : List Oper} {o : Oper} {a : Act} {Q : Exit → Act → World → Prop}
/-- 'm[x] = v' -/
theorem wpList_put [DecidableEq α] (hg : o.guard = none) (m x v : Operand) (t : TypeId) (hop : o.op = Op.mapUpdate t m x v) (E : KeyE P k ek ok) {e : TypeId} (ht : P.underlying t = some (.map k e))
    (b : Nat) (f : α → Option β) (hm : a.eval m = .map (some b)) (h : MapFn ek ev ok w b f) (y : α) (u : β) (hx : a.eval x = ek y) (hv : a.eval v = ev u) (hy : ok y)
    (hK : ∀ w', MapFn ek ev ok w' b (fnPut f y u) → w.grownBy w' (some b) → wpList P ops Q rest (a.put o.dst undef) w') : wpList P ops Q (o :: rest) a w := by
  refine wpList_plain hg fun K' hK' => ?_
  obtain ⟨w', hrun, r1, r2⟩ := run_put E h ht y u hy
  unfold Oper.wp
  simp [execOp, hop, hm, hx, hv, hrun, Result.andThen]
  exact hK' _ _ (hK w' r1 r2)
end

/-! ### keys that are arrays or structs -/
theorem mapM_some {α β : Type} (f : α → Option β) : ∀ l : List α, (∀ x ∈ l, ∃ y, f x = some y) → ∃ ys, l.mapM f = some ys := by
  intro l
  induction l with
  | nil => intro _; exact ⟨[], rfl⟩
  | cons x l ih =>
    intro h
    obtain ⟨y, hy⟩ := h x List.mem_cons_self
    obtain ⟨ys, hys⟩ := ih (fun z hz => h z (List.mem_cons_of_mem _ hz))
    exact ⟨y :: ys, by rw [List.mapM_cons, hy, hys]; rfl⟩

/-- the cells cs are a key of type t -/
def IsKey (P : Program) (d : Nat) (t : TypeId) (cs : List Value) : Prop := ∃ l, P.keyLits d t cs = some l
theorem isKey_int {P : Program} {d : Nat} {t : TypeId} {q : IntKind} {n : Int} (ht : P.underlying t = some (.int q)) (hw : (Lit.int q n).wf = true) : IsKey P (d + 1) t [.int q n] := by
  refine ⟨[.int q n], ?_⟩
  unfold Program.keyLits
  rw [ht]
  simp [hw]
theorem isKey_bool {P : Program} {d : Nat} {t : TypeId} {b : Bool} (ht : P.underlying t = some .bool) : IsKey P (d + 1) t [.bool b] := by
  refine ⟨[.bool b], ?_⟩
  unfold Program.keyLits
  rw [ht]
theorem isKey_array {P : Program} {d : Nat} {t e : TypeId} {n c : Nat} {cs : List Value} (ht : P.underlying t = some (.array n e)) (hl : cs.length = P.cellsOf t) (hc : P.cellsOf e = c) (h : ∀ i, i < n → IsKey P d e ((cs.drop (i * c)).take c)) : IsKey P (d + 1) t cs := by
  subst hc
  obtain ⟨ys, hys⟩ := mapM_some (fun i => P.keyLits d e ((cs.drop (i * P.cellsOf e)).take (P.cellsOf e))) (List.range n) (fun i hi => h i (List.mem_range.1 hi))
  refine ⟨ys.flatten, ?_⟩
  unfold Program.keyLits
  rw [ht]
  simp only [hl, if_true]
  rw [hys]; rfl
theorem isKey_struct {P : Program} {d : Nat} {t : TypeId} {fs : Array Field} {cs : List Value} (ht : P.underlying t = some (.struct fs)) (hl : cs.length = P.cellsOf t) (hn : fs.all (·.name != "_") = true) (h : ∀ f ∈ fs.toList, IsKey P d f.type ((cs.drop f.offset).take (P.cellsOf f.type))) : IsKey P (d + 1) t cs := by
  obtain ⟨ys, hys⟩ := mapM_some (fun f : Field => P.keyLits d f.type ((cs.drop f.offset).take (P.cellsOf f.type))) fs.toList h
  refine ⟨ys.flatten, ?_⟩
  unfold Program.keyLits
  rw [ht]
  simp only [hl, hn, and_self, if_true]
  rw [hys]; rfl
theorem keyOf_agg {P : Program} {k : TypeId} {cs : List Value} (hw : (match P.underlying k with | some (.array _ _) | some (.struct _) => true | _ => false) = true) (hk : P.keyType k = true) (hl : cs.length = P.cellsOf k) (h : IsKey P (P.types.size + 1) k cs) : ∃ l, keyOf P k (.agg cs.toArray) = some l := by
  obtain ⟨l, hl'⟩ := h
  have hf : (Value.agg cs.toArray).formed P k = true := by
    unfold Value.formed
    split at hw <;> simp_all
  have hcs : (Value.agg cs.toArray).cells.toList = cs := by simp [Value.cells]
  unfold keyOf
  split
  · rw [hk, hf, hcs, hl']; exact ⟨_, rfl⟩
  · rw [hk, hf, hcs, hl']; exact ⟨_, rfl⟩
  · rename_i h1 h2
    split at hw
    · rename_i hq; exact absurd hq (h1 _ _)
    · rename_i hq; exact absurd hq (h2 _)
    · cases hw
end Go.Proofs.YtkeainhjghdfcaaGreat

/- What the walk of tries needs: arrays of many cells loaded, maps asked, in regions that draw their order; the maker's state. No program is named here. -/
namespace Go.Proofs.YtkeainhjghdfcaaGreat
open Go.RowKit

section
variable {P : Program} {ops : Array Oper}
theorem run_load_row {o : Oper} {a : Act} {w : World} (ty : TypeId) (x : Operand) (ho : o.op = .load ty x)
    (g : Nat) (hx : a.eval x = .pointer (some ⟨g, 0, none⟩)) (t : TypeId) (cs : Array Value) (fr : Nat × Nat) (d : TypeDesc) (hg : w.heap[g]? = some (.cells cs t fr))
    (hu : P.underlying ty = some d) (hd : (match d with | .struct _ | .array _ _ => true | _ => false) = true) (hi : (P.info? ty).map (·.size) = some cs.size) :
    (execOp a.eval o).run P w = .ok (.value (.agg cs)) w := by
  unfold execOp
  simp only [ho, hx, Instr.loadAt, Instr.sureAddr, Sem.run_bind, Sem.run_pure, Result.andThen_ok, run_loadVar_row w g t ty cs fr d hg hu hd hi]

theorem quiet_row {Q : Act → Prop} {o : Oper} {rest : List Oper} {a : Act} {w : World} (hgd : o.guard = none) (ty : TypeId) (x : Operand) (ho : o.op = .load ty x)
    (g : Nat) (hx : a.eval x = .pointer (some ⟨g, 0, none⟩)) (t : TypeId) (cs : Array Value) (fr : Nat × Nat) (d : TypeDesc) (hg : w.heap[g]? = some (.cells cs t fr))
    (hu : P.underlying ty = some d) (hd : (match d with | .struct _ | .array _ _ => true | _ => false) = true) (hi : (P.info? ty).map (·.size) = some cs.size)
    (h : wpQuiet P ops (fun w' => ∃ n, w' = w.drewN n) Q rest (a.put o.dst (.agg cs))) : wpQuiet P ops (fun w' => ∃ n, w' = w.drewN n) Q (o :: rest) a := by
  refine wpQuiet_step fun K hK => ?_
  rw [if_pos (by simp [Region.wanted, hgd])]
  refine ⟨.agg cs, ?_, hK _ h⟩
  rintro w' ⟨n, rfl⟩
  unfold Oper.quietAt
  rw [run_load_row ty x ho g hx t cs fr d (w := w.drewN n) hg hu hd hi]
  exact ⟨rfl, rfl⟩

theorem quiet_look {α β : Type} {ek : α → Value} {ev : β → Value} {ok : α → Prop} {Q : Act → Prop} {o : Oper} {rest : List Oper} {a : Act} {w : World} (hgd : o.guard = none) (m x : Operand) (t : TypeId) (ho : o.op = .lookup t m x true)
    {k e : TypeId} (E : KeyE P k ek ok) (ht : P.underlying t = some (.map k e)) {z : Value} (hz : ∀ w, (zeroValue e).run P w = .ok z w) (b : Nat) (f : α → Option β) (hm : a.eval m = .map (some b)) (hf : MapFn ek ev ok w b f) (y : α) (hx : a.eval x = ek y) (hy : ok y)
    (h1 : ∀ v, f y = some v → wpQuiet P ops (fun w' => ∃ n, w' = w.drewN n) Q rest (a.put o.dst (.tuple #[ev v, .bool true]))) (h0 : f y = none → wpQuiet P ops (fun w' => ∃ n, w' = w.drewN n) Q rest (a.put o.dst (.tuple #[z, .bool false]))) :
    wpQuiet P ops (fun w' => ∃ n, w' = w.drewN n) Q (o :: rest) a := by
  refine wpQuiet_step fun K hK => ?_
  rw [if_pos (by simp [Region.wanted, hgd])]
  have hrun : ∀ n, (execOp a.eval o).run P (w.drewN n) = .ok (.value (match f y with | some v => .tuple #[ev v, .bool true] | none => .tuple #[z, .bool false])) (w.drewN n) := by
    intro n
    have := run_look E (w := w.drewN n) (hf.same rfl) ht (hz _) true y hy
    unfold execOp
    simp only [ho, hm, hx, Sem.run_bind, Sem.run_pure]
    rw [this]
    cases f y <;> simp [Result.andThen]
  cases hfy : f y with
  | some v =>
    refine ⟨_, ?_, hK _ (h1 v hfy)⟩
    rintro w' ⟨n, rfl⟩
    unfold Oper.quietAt
    rw [hrun n, hfy]
    exact ⟨rfl, rfl⟩
  | none =>
    refine ⟨_, ?_, hK _ (h0 hfy)⟩
    rintro w' ⟨n, rfl⟩
    unfold Oper.quietAt
    rw [hrun n, hfy]
    exact ⟨rfl, rfl⟩

theorem wp_load_row {o : Oper} {a : Act} {w : World} {K : Act → World → Prop} {Q : Exit → Act → World → Prop} (ty : TypeId) (x : Operand) (ho : o.op = .load ty x)
    (g : Nat) (hx : a.eval x = .pointer (some ⟨g, 0, none⟩)) (t : TypeId) (cs : Array Value) (fr : Nat × Nat) (d : TypeDesc) (hg : w.heap[g]? = some (.cells cs t fr))
    (hu : P.underlying ty = some d) (hd : (match d with | .struct _ | .array _ _ => true | _ => false) = true) (hi : (P.info? ty).map (·.size) = some cs.size)
    (h : K (a.put o.dst (.agg cs)) w) : o.wp P a w K Q := by
  unfold Oper.wp
  rw [run_load_row ty x ho g hx t cs fr d hg hu hd hi]
  exact h
theorem still_row {Q : Act → Prop} {o : Oper} {rest : List Oper} {a : Act} {w : World} (hgd : o.guard = none) (ty : TypeId) (x : Operand) (ho : o.op = .load ty x)
    (g : Nat) (hx : a.eval x = .pointer (some ⟨g, 0, none⟩)) (t : TypeId) (cs : Array Value) (fr : Nat × Nat) (d : TypeDesc) (hg : w.heap[g]? = some (.cells cs t fr))
    (hu : P.underlying ty = some d) (hd : (match d with | .struct _ | .array _ _ => true | _ => false) = true) (hi : (P.info? ty).map (·.size) = some cs.size)
    (h : wpStill P ops w Q rest (a.put o.dst (.agg cs))) : wpStill P ops w Q (o :: rest) a := by
  refine wpStill_step fun K hK => ?_
  rw [if_pos (by simp [Region.wanted, hgd])]
  unfold Oper.still
  rw [run_load_row ty x ho g hx t cs fr d hg hu hd hi]
  exact ⟨rfl, hK _ h⟩
end

/-- append in a region that draws its order. -/
theorem step_app4 {P : Program} {W : World} {ops : Array Oper} {o : Oper} {a : Act} {K : Act → World → Prop} {Q : Exit → Act → World → Prop} {F : Prop} (hgd : o.guard = none) (s x : Operand) (t : TypeId)
    (ho : o.op = .call { callee := .builtin .append, args := #[s, x], argTypes := #[t, t] })
    {base e size bytes : Nat} (E : ElemT P t e size bytes) (v : Value) (n : Nat) (xs : List Value) (hs : a.eval s = v) (hown : W.ownsRow base e size v n xs)
    (ad : Addr) (m c : Nat) (news : List Value) (hx : a.eval x = .slice (some ad) m c) (hm : 0 < m) (hl : news.length = m * size) (hnews : ∀ j u, news[j]? = some u → W.cell? (ad.add j) = some u) (h1 : ∀ u ∈ news, u.oneCell' = true)
    (hbytes : (n + m) * bytes ≤ 140737488355328) (hbase : base ≤ W.heap.size)
    (h : ∀ g cap w', w'.ownsRow base e size (.slice (some ⟨g, 0, none⟩) (n + m) cap) (n + m) (xs ++ news) → W.grownBy w' v.ownBlock → (v.ownBlock = some g ∨ W.heap.size ≤ g) → K (a.put o.dst (.slice (some ⟨g, 0, none⟩) (n + m) cap)) w') :
    if Region.wanted o (yielded ops a.tmps) = true then Oper.wp P o a W K Q else F := by
  rw [if_pos (by simp [Region.wanted, hgd])]
  obtain ⟨g, cap, w', hr, h2, h3, h4⟩ := run_app (P := P) (ty := o.type) W E v n xs hown ad m c news hm hl hnews h1 hbytes hbase
  unfold Oper.wp execOp
  simp only [ho, resolve, invoke, builtin, Sem.run_bind, Sem.run_pure, Result.andThen_ok, List.map_toArray, List.map_cons, List.map_nil, hs, hx, hr]
  exact h g cap w' h2 h3 h4
theorem news_of_alloc (w : World) (cs : List Value) (e : TypeId) (j : Nat) (u : Value) (h : cs[j]? = some u) : (w.alloc (.cells cs.toArray e)).cell? ((⟨w.heap.size, 0, none⟩ : Addr).add j) = some u := by
  have hadd : (⟨w.heap.size, 0, none⟩ : Addr).add j = ⟨w.heap.size, j, none⟩ := by unfold Addr.add; split <;> simp_all
  rw [hadd, cell_of_row _ w.heap.size j cs.toArray e (0, 0) (heap_alloc_new w _)]
  simpa using h

theorem setAll_get : ∀ (l : List Value) (k : Nat) (acc : Array Value), k + l.length ≤ acc.size → ∀ j, ((l.zipIdx k).foldl (fun cs (x : Value × Nat) => cs.setIfInBounds x.2 x.1) acc)[j]? = if k ≤ j ∧ j < k + l.length then l[j - k]? else acc[j]? := by
  intro l
  induction l with
  | nil => intro k acc _ j; simp; omega
  | cons x l ih =>
    intro k acc hk j
    rw [List.length_cons] at hk
    rw [List.zipIdx_cons, List.foldl_cons, ih (k + 1) _ (by simp; omega) j]
    by_cases h1 : k + 1 ≤ j ∧ j < k + 1 + l.length
    · rw [if_pos h1, if_pos (by rw [List.length_cons]; omega), show j - k = (j - (k + 1)) + 1 by omega]
      simp
    · rw [if_neg h1]
      by_cases h2 : j = k
      · subst h2
        rw [if_pos (by rw [List.length_cons]; omega), Nat.sub_self]
        simp [Array.getElem?_setIfInBounds]
        omega
      · rw [if_neg (by rw [List.length_cons]; omega)]
        simp [Ne.symm h2]
theorem run_buildSlice1 {P : Program} {t e : TypeId} {n : Nat} {z : Value} (hu : P.underlying t = some (.slice e)) (hs : ∀ w, (sizeOf e).run P w = .ok n w) (hz : ∀ w, (zeroValue e).run P w = .ok z w) (hn : 0 < n) (hm : n ≤ 16777216) (cs : Array Value) (hc : cs.size = n) (w : World) :
    (Instr.buildSlice t 1 #[(0, .agg cs)]).run P w = .ok (.slice (some ⟨w.heap.size, 0, none⟩) 1 1) (w.alloc (.cells cs e)) := by
  have hfill : Instr.fill (fun i => some (i * n, n)) ((Array.range (1 * n)).map (z.cells[· % z.cells.size]!)) [(0, .agg cs)] = some cs := by
    unfold Instr.fill
    simp only [Nat.zero_mul, Value.cells, Nat.zero_add]
    rw [if_neg (by simp [hc])]
    unfold Instr.fill
    refine congrArg some ?_
    refine Array.ext_getElem? fun j => ?_
    rw [← Array.foldl_toList, Array.toList_zipIdx]
    have := setAll_get cs.toList 0 ((Array.range (1 * n)).map (z.cells[· % z.cells.size]!)) (by simp [hc]) j
    refine this.trans ?_
    by_cases hj : j < n
    · rw [if_pos ⟨Nat.zero_le _, by simp [hc]; exact hj⟩]; simp
    · rw [if_neg (by simp [hc]; omega), Array.getElem?_eq_none (by simp; omega), Array.getElem?_eq_none (by omega)]
  unfold Instr.buildSlice
  have h0 : ¬ 1 * n = 0 := by omega
  have h1 : ¬ 1 * n > 2 ^ 24 := by omega
  simp only [Sem.run_bind, run_underlying hu, Result.andThen_ok, hs, Sem.run_ite, if_neg h0, if_neg h1, Sem.run_pure, hz]
  rw [hfill]
  simp [newRow]

/-- '[]T{x}', x an array, in a region that draws its order. -/
theorem step_build1 {P : Program} {W : World} {ops : Array Oper} {o : Oper} {a : Act} {K : Act → World → Prop} {Q : Exit → Act → World → Prop} {F : Prop} (hgd : o.guard = none) (t : TypeId) (x : Operand)
    (ho : o.op = .buildSlice t 1 #[(0, x)]) {e : TypeId} {n : Nat} {z : Value} (hu : P.underlying t = some (.slice e)) (hs : ∀ w, (sizeOf e).run P w = .ok n w) (hz : ∀ w, (zeroValue e).run P w = .ok z w) (hn : 0 < n) (hm : n ≤ 16777216) (cs : Array Value) (hc : cs.size = n) (hx : a.eval x = .agg cs)
    (h : K (a.put o.dst (.slice (some ⟨W.heap.size, 0, none⟩) 1 1)) (W.alloc (.cells cs e))) : if Region.wanted o (yielded ops a.tmps) = true then Oper.wp P o a W K Q else F := by
  rw [if_pos (by simp [Region.wanted, hgd])]
  have hr := run_buildSlice1 hu hs hz hn hm cs hc W
  unfold Oper.wp execOp
  simp only [ho, List.map_toArray, List.map_cons, List.map_nil, hx, Sem.run_bind]
  rw [hr]
  exact h
/-! ### the maker's state -/
section
variable {α : Type}
def arrK (enc : α → List Value) (L : List α) : Value := .agg (L.flatMap enc).toArray
def okL (okv : α → Prop) (L : List α) : Prop := L.length = 128 ∧ ∀ x ∈ L, okv x
def natV (k : Nat) : Value := .int .i64 k
def arrE (enc : α → List Value) (L : List α) : List Value := L.flatMap enc

structure MkB (enc : α → List Value) (sz : Nat) (aT iT : TypeId) (w : World) (B0 B tb mb kb eb : Nat) (v1 v2 : Value) (ks : List Nat) (bl : List (List α)) : Prop where
  t0 : w.cell? ⟨tb, 0, none⟩ = some (.int .i64 1114112)
  t1 : w.cell? ⟨tb, 1, none⟩ = some v1
  t2 : w.cell? ⟨tb, 2, none⟩ = some v2
  f1 : w.frozen? ⟨tb, 1, none⟩ = false
  f2 : w.frozen? ⟨tb, 2, none⟩ = false
  m0 : w.cell? ⟨mb, 0, none⟩ = some (.pointer (some ⟨tb, 0, none⟩))
  m1 : w.cell? ⟨mb, 1, none⟩ = some (.map (some kb))
  m2 : w.cell? ⟨mb, 2, none⟩ = some (.map (some eb))
  o1 : w.ownsRow B iT 1 v1 ks.length (ks.map natV)
  o2 : w.ownsRow B aT (128 * sz) v2 bl.length (bl.flatMap (arrE enc))
  sep : Sep v1 v2
  bt : B0 ≤ tb ∧ tb < B
  bm : B0 ≤ mb ∧ mb < B
  bk : B0 ≤ kb ∧ kb < B
  be : B0 ≤ eb ∧ eb < B
  nbt : tb ≠ mb ∧ tb ≠ kb ∧ tb ≠ eb ∧ mb ≠ kb ∧ mb ≠ eb ∧ kb ≠ eb
  len : ∀ L ∈ bl, L.length = 128

def Known (enc : α → List Value) (okv : α → Prop) (w : World) (kb : Nat) (bl : List (List α)) : Prop := ∃ f, MapFn (arrK enc) natV (okL okv) w kb f ∧ ∀ L k, f L = some k → bl[k]? = some L
def Even (tv : α → Value) (okv : α → Prop) (w : World) (eb : Nat) (bl : List (List α)) : Prop := ∃ f, MapFn tv natV okv w eb f ∧ ∀ x k, f x = some k → bl[k]? = some (List.replicate 128 x)
structure MkAt (enc : α → List Value) (sz : Nat) (aT iT : TypeId) (tv : α → Value) (okv : α → Prop) (w : World) (B0 B tb mb kb eb : Nat) (v1 v2 : Value) (ks : List Nat) (bl : List (List α)) : Prop where
  b : MkB enc sz aT iT w B0 B tb mb kb eb v1 v2 ks bl
  kn : Known enc okv w kb bl
  ev : Even tv okv w eb bl

variable {enc : α → List Value} {sz : Nat} {aT iT : TypeId} {tv : α → Value} {okv : α → Prop} {w : World} {B0 B tb mb kb eb : Nat} {v1 v2 : Value} {ks : List Nat} {bl : List (List α)}

theorem Known.more (h : Known enc okv w kb bl) (L : List α) : Known enc okv w kb (bl ++ [L]) := by
  obtain ⟨f, h1, h2⟩ := h
  exact ⟨f, h1, fun M k hk => by have := h2 M k hk; rw [List.getElem?_append_left (List.getElem?_eq_some_iff.1 this).1]; exact this⟩
theorem Even.more (h : Even tv okv w eb bl) (L : List α) : Even tv okv w eb (bl ++ [L]) := by
  obtain ⟨f, h1, h2⟩ := h
  exact ⟨f, h1, fun M k hk => by have := h2 M k hk; rw [List.getElem?_append_left (List.getElem?_eq_some_iff.1 this).1]; exact this⟩
theorem Known.grown {w' : World} {r : Option Nat} (h : Known enc okv w kb bl) (hg : w.grownBy w' r) (hr : some kb ≠ r) : Known enc okv w' kb bl := let ⟨f, h1, h2⟩ := h; ⟨f, h1.grown hg hr, h2⟩
theorem Even.grown {w' : World} {r : Option Nat} (h : Even tv okv w eb bl) (hg : w.grownBy w' r) (hr : some eb ≠ r) : Even tv okv w' eb bl := let ⟨f, h1, h2⟩ := h; ⟨f, h1.grown hg hr, h2⟩

theorem MkB.grown {w' : World} {r : Option Nat} (h : MkB enc sz aT iT w B0 B tb mb kb eb v1 v2 ks bl) (hg : w.grownBy w' r) (ht : some tb ≠ r) (hm : some mb ≠ r) (h1 : v1.ownBlock = none ∨ v1.ownBlock ≠ r) (h2 : v2.ownBlock = none ∨ v2.ownBlock ≠ r) :
    MkB enc sz aT iT w' B0 B tb mb kb eb v1 v2 ks bl := by
  have hlt := World.block_lt_of_cell? w _ h.t0
  have et := hg.block tb hlt ht
  exact { t0 := hg.cell h.t0 ht, t1 := hg.cell h.t1 ht, t2 := hg.cell h.t2 ht, f1 := (World.frozen?_of_block (a := ⟨tb, 1, none⟩) et).trans h.f1, f2 := (World.frozen?_of_block (a := ⟨tb, 2, none⟩) et).trans h.f2,
          m0 := hg.cell h.m0 hm, m1 := hg.cell h.m1 hm, m2 := hg.cell h.m2 hm, o1 := h.o1.kept hg h1, o2 := h.o2.kept hg h2, sep := h.sep, bt := h.bt, bm := h.bm, bk := h.bk, be := h.be, nbt := h.nbt, len := h.len }
theorem grown_of_below {w' : World} (hb : Below w.heap.size w w') : w.grownBy w' none := ⟨hb.os, hb.tape, hb.output, hb.size, fun k hk _ => hb.block k hk⟩
theorem ob_none (v : Value) : v.ownBlock = none ∨ v.ownBlock ≠ none := by cases v.ownBlock <;> simp
theorem MkB.below {w' : World} (h : MkB enc sz aT iT w B0 B tb mb kb eb v1 v2 ks bl) (hb : Below w.heap.size w w') : MkB enc sz aT iT w' B0 B tb mb kb eb v1 v2 ks bl :=
  h.grown (grown_of_below hb) (by simp) (by simp) (ob_none _) (ob_none _)
theorem MkAt.below {w' : World} (h : MkAt enc sz aT iT tv okv w B0 B tb mb kb eb v1 v2 ks bl) (hb : Below w.heap.size w w') : MkAt enc sz aT iT tv okv w' B0 B tb mb kb eb v1 v2 ks bl :=
  ⟨h.b.below hb, h.kn.grown (grown_of_below hb) (by simp), h.ev.grown (grown_of_below hb) (by simp)⟩
theorem MkAt.drewN (h : MkAt enc sz aT iT tv okv w B0 B tb mb kb eb v1 v2 ks bl) (n : Nat) : MkAt enc sz aT iT tv okv (w.drewN n) B0 B tb mb kb eb v1 v2 ks bl :=
  h.below ⟨rfl, rfl, rfl, Nat.le_refl _, fun _ _ => rfl⟩
theorem MkB.far1 (h : MkB enc sz aT iT w B0 B tb mb kb eb v1 v2 ks bl) {b : Nat} (hb : b < B) : v1.ownBlock = none ∨ v1.ownBlock ≠ some b := .inr fun e => by have := (h.o1.lt _ e).1; omega
theorem MkB.far2 (h : MkB enc sz aT iT w B0 B tb mb kb eb v1 v2 ks bl) {b : Nat} (hb : b < B) : v2.ownBlock = none ∨ v2.ownBlock ≠ some b := .inr fun e => by have := (h.o2.lt _ e).1; omega

theorem setCell_grown (w : World) (a : Addr) (u : Value) : w.grownBy (w.setCell a u) (some a.block) :=
  ⟨rfl, rfl, rfl, by simp, fun k hk hne => Below.heap_setCell _ _ _ _ (fun e => hne (by rw [e]))⟩

/-- an entry more in the index -/
theorem MkB.push1 {w1 : World} {g cap : Nat} {k : Nat} (h : MkB enc sz aT iT w B0 B tb mb kb eb v1 v2 ks bl) (hg : w.grownBy w1 v1.ownBlock) (ho : w1.ownsRow B iT 1 (.slice (some ⟨g, 0, none⟩) (ks.length + 1) cap) (ks.length + 1) (ks.map natV ++ [natV k]))
    (hf : v1.ownBlock = some g ∨ w.heap.size ≤ g) : MkB enc sz aT iT (w1.setCell ⟨tb, 1, none⟩ (.slice (some ⟨g, 0, none⟩) (ks.length + 1) cap)) B0 B tb mb kb eb (.slice (some ⟨g, 0, none⟩) (ks.length + 1) cap) v2 (ks ++ [k]) bl := by
  obtain ⟨n1, n2, n3, n4, n5, n6⟩ := h.nbt
  have ht : some tb ≠ v1.ownBlock := fun e => by have := (h.o1.lt _ e.symm).1; have := h.bt.2; omega
  have hm : some mb ≠ v1.ownBlock := fun e => by have := (h.o1.lt _ e.symm).1; have := h.bm.2; omega
  obtain ⟨hs, ho2⟩ := h.sep.app (g := g) (n := ks.length + 1) (cap := cap) h.o2 hf hg
  have hlt := World.block_lt_of_cell? w _ h.t0
  have et := hg.block tb hlt ht
  have hsg := setCell_grown w1 ⟨tb, 1, none⟩ (.slice (some ⟨g, 0, none⟩) (ks.length + 1) cap)
  have hgb := (ho.lt g rfl).1
  have hbt := h.bt.2
  have c0 := hg.cell h.t0 ht
  have c1 := hg.cell h.t1 ht
  have c2 := hg.cell h.t2 ht
  have e1 : w1.frozen? ⟨tb, 1, none⟩ = false := (World.frozen?_of_block (a := ⟨tb, 1, none⟩) et).trans h.f1
  have e2 : w1.frozen? ⟨tb, 2, none⟩ = false := (World.frozen?_of_block (a := ⟨tb, 2, none⟩) et).trans h.f2
  have k0 := hg.cell h.m0 hm
  have k1 := hg.cell h.m1 hm
  have k2 := hg.cell h.m2 hm
  exact { t0 := by go_simp, t1 := by go_simp, t2 := by go_simp, f1 := by go_simp, f2 := by go_simp, m0 := hsg.cell k0 (fun e => n1 (by injection e with e; exact e.symm)), m1 := hsg.cell k1 (fun e => n1 (by injection e with e; exact e.symm)), m2 := hsg.cell k2 (fun e => n1 (by injection e with e; exact e.symm)),
          o1 := by rw [List.length_append, List.map_append]; exact ho.kept hsg (.inr fun e => by simp [Value.ownBlock] at e; omega), o2 := ho2.kept hsg (h.far2 hbt), sep := hs, bt := h.bt, bm := h.bm, bk := h.bk, be := h.be, nbt := h.nbt, len := h.len }
/-- a block more -/
theorem MkB.push2 {w1 : World} {g cap : Nat} {L : List α} (h : MkB enc sz aT iT w B0 B tb mb kb eb v1 v2 ks bl) (hg : w.grownBy w1 v2.ownBlock) (ho : w1.ownsRow B aT (128 * sz) (.slice (some ⟨g, 0, none⟩) (bl.length + 1) cap) (bl.length + 1) (bl.flatMap (arrE enc) ++ arrE enc L))
    (hf : v2.ownBlock = some g ∨ w.heap.size ≤ g) (hL : L.length = 128) : MkB enc sz aT iT (w1.setCell ⟨tb, 2, none⟩ (.slice (some ⟨g, 0, none⟩) (bl.length + 1) cap)) B0 B tb mb kb eb v1 (.slice (some ⟨g, 0, none⟩) (bl.length + 1) cap) ks (bl ++ [L]) := by
  obtain ⟨n1, n2, n3, n4, n5, n6⟩ := h.nbt
  have ht : some tb ≠ v2.ownBlock := fun e => by have := (h.o2.lt _ e.symm).1; have := h.bt.2; omega
  have hm : some mb ≠ v2.ownBlock := fun e => by have := (h.o2.lt _ e.symm).1; have := h.bm.2; omega
  obtain ⟨hs, ho1⟩ := h.sep.symm.app (g := g) (n := bl.length + 1) (cap := cap) h.o1 hf hg
  have hlt := World.block_lt_of_cell? w _ h.t0
  have et := hg.block tb hlt ht
  have hsg := setCell_grown w1 ⟨tb, 2, none⟩ (.slice (some ⟨g, 0, none⟩) (bl.length + 1) cap)
  have hgb := (ho.lt g rfl).1
  have hbt := h.bt.2
  have c0 := hg.cell h.t0 ht
  have c1 := hg.cell h.t1 ht
  have c2 := hg.cell h.t2 ht
  have e1 : w1.frozen? ⟨tb, 1, none⟩ = false := (World.frozen?_of_block (a := ⟨tb, 1, none⟩) et).trans h.f1
  have e2 : w1.frozen? ⟨tb, 2, none⟩ = false := (World.frozen?_of_block (a := ⟨tb, 2, none⟩) et).trans h.f2
  have k0 := hg.cell h.m0 hm
  have k1 := hg.cell h.m1 hm
  have k2 := hg.cell h.m2 hm
  exact { t0 := by go_simp, t1 := by go_simp, t2 := by go_simp, f1 := by go_simp, f2 := by go_simp, m0 := hsg.cell k0 (fun e => n1 (by injection e with e; exact e.symm)), m1 := hsg.cell k1 (fun e => n1 (by injection e with e; exact e.symm)), m2 := hsg.cell k2 (fun e => n1 (by injection e with e; exact e.symm)),
          o1 := ho1.kept hsg (h.far1 hbt), o2 := by rw [List.length_append, List.flatMap_append]; simp only [List.flatMap_cons, List.flatMap_nil, List.append_nil]; exact ho.kept hsg (.inr fun e => by simp [Value.ownBlock] at e; omega), sep := hs.symm, bt := h.bt, bm := h.bm, bk := h.bk, be := h.be, nbt := h.nbt,
          len := fun M hM => by rcases List.mem_append.1 hM with hM | hM; exact h.len M hM; cases List.mem_singleton.1 hM; exact hL }
end
end Go.Proofs.YtkeainhjghdfcaaGreat

/- A region that draws its order, walked by hand: one operation taken first, one that comes up alone. No program is named here. -/
namespace Go.Proofs.YtkeainhjghdfcaaGreat
open Go.RowKit

theorem results_cell1 {P : Program} {fn : Func} {t : Tmp} {ty : TypeId} (h : fn.results = #[.cell t ty]) (tmps : Array Value) (w : World) {ad : Addr} {v : Value} (ht : tmps.getD t undef = .pointer (some ad)) (hl : (loadVar ty ad).run P w = .ok v w) :
    (results fn tmps).run P w = .ok v w := by
  have ht' : tmps[t]?.getD undef = .pointer (some ad) := by simpa using ht
  simp [results, h, ht', hl, asAddr]
theorem ret_cell1 {P : Program} {fn : Func} {R : Ending → World → Prop} {a : Act} {w : World} {t : Tmp} {ty : TypeId} {ad : Addr} {v : Value} (h : fn.results = #[.cell t ty]) (ht : a.tmps.getD t undef = .pointer (some ad)) (hl : (loadVar ty ad).run P w = .ok v w) (hd : a.defers = []) (hR : R (.returned v) w) : bodyPost P fn R .ret a w :=
  bodyPost_ret (results_cell1 h a.tmps w ht hl) hd hR
theorem run_index1 {P : Program} (w : World) {t e : TypeId} {n : Nat} {cs : Array Value} {k : Nat} {v : Value} (h : P.underlying t = some (.array n e)) (hk : k < n) (hs : ∀ w, (sizeOf e).run P w = .ok 1 w) (ha : ∀ w, (isAgg e).run P w = .ok false w) (hv : cs[k]? = some v) :
    (Instr.index t (.agg cs) (.int .i64 ((k : Nat) : Int))).run P w = .ok v w := by
  have h1 : (0 : Int) ≤ (k : Int) ∧ (k : Int) < (n : Int) := by omega
  have h2 : ¬ n ≤ k := by omega
  simp [Instr.index, run_underlying h, asIntOf, hk, hs, part, ha, hv, go_sem]
theorem run_eq_arr4 {P : Program} (w : World) (d : Nat) {t e : TypeId} (ht : P.underlying t = some (.array 4 e)) (hs : ∀ w, (sizeOf e).run P w = .ok 1 w) (ha : ∀ w, (isAgg e).run P w = .ok false w) (he : P.underlying e = some .bool) (a0 a1 a2 a3 b0 b1 b2 b3 : Bool) :
    (Op.equalIn (d + 2) t (.agg #[.bool a0, .bool a1, .bool a2, .bool a3]) (.agg #[.bool b0, .bool b1, .bool b2, .bool b3])).run P w = .ok ((a0 == b0) && ((a1 == b1) && ((a2 == b2) && (a3 == b3)))) w := by
  have hp : ∀ (cs : Array Value) (i : Nat) (v : Value) (w : World), cs[i]? = some v → (part e cs i).run P w = .ok v w := by
    intro cs i v w h
    simp [part, ha, h]
  have q : ∀ (a b : Bool) (w : World), (Op.equalIn (d + 1) e (.bool a) (.bool b)).run P w = .ok (a == b) w := fun a b w => run_equalIn_bool' w d e a b he
  rw [Op.equalIn]
  simp only [Sem.run_bind, run_underlying ht, Result.andThen_ok, hs]
  rw [Std.Legacy.Range.forIn_eq_forIn_range']
  rw [show List.range' ({ start := 0, stop := 4, step := 1, step_pos := by decide } : Std.Legacy.Range).start ({ start := 0, stop := 4, step := 1, step_pos := by decide } : Std.Legacy.Range).size ({ start := 0, stop := 4, step := 1, step_pos := by decide } : Std.Legacy.Range).step = [0, 1, 2, 3] from rfl]
  have x0 := fun w => hp #[.bool a0, .bool a1, .bool a2, .bool a3] (0 * 1) (.bool a0) w rfl
  have x1 := fun w => hp #[.bool a0, .bool a1, .bool a2, .bool a3] 1 (.bool a1) w rfl
  have x2 := fun w => hp #[.bool a0, .bool a1, .bool a2, .bool a3] 2 (.bool a2) w rfl
  have x3 := fun w => hp #[.bool a0, .bool a1, .bool a2, .bool a3] 3 (.bool a3) w rfl
  have y0 := fun w => hp #[.bool b0, .bool b1, .bool b2, .bool b3] (0 * 1) (.bool b0) w rfl
  have y1 := fun w => hp #[.bool b0, .bool b1, .bool b2, .bool b3] 1 (.bool b1) w rfl
  have y2 := fun w => hp #[.bool b0, .bool b1, .bool b2, .bool b3] 2 (.bool b2) w rfl
  have y3 := fun w => hp #[.bool b0, .bool b1, .bool b2, .bool b3] 3 (.bool b3) w rfl
  simp only [List.forIn_cons, List.forIn_nil, Sem.run_bind, x0, y0, q, Result.andThen_ok, Sem.run_ite]
  cases h0 : a0 == b0 <;> cases h1 : a1 == b1 <;> cases h2 : a2 == b2 <;> cases h3 : a3 == b3 <;> simp [x1, x2, x3, y1, y2, y3, q, h1, h2, h3]
section
variable {P : Program} {md : Region.Mode} {l : List Oper} {Q : Exit → Act → World → Prop} {S : World → Prop} {fuel : Nat} {listed : Array Bool} {a : Act} {w : World}
theorem hd_take (i : Nat) {oi : Oper} {v : Value} (hi : l[i]? = some oi)
    (hs : Region.noSelect l.toArray = true) (hf : Region.free md l.toArray listed i = true) (hr : (Region.ready md l.toArray listed).contains i = true)
    (hQ : ∀ c a w, Q (.panic c) (a.put oi.dst v) w → Q (.panic c) a w) (hw : Region.wanted oi (yielded l.toArray a.tmps) = true)
    (hy : ∀ w, S w → (execOp a.eval oi).run P w = .ok (.value v) w) (hS : S w)
    (h : wpAnyH P md l.toArray Q S fuel (listed.setIfInBounds i true) (a.put oi.dst v) w) : wpAnyH P md l.toArray Q S (fuel + 1) listed a w :=
  wpAnyH_take (by simpa using hi) hs hf hr hQ (.inl ⟨hw, hy⟩) hS h
theorem hd_long (i : Nat) {oi : Oper} (hi : l[i]? = some oi)
    (hs : Region.noSelect l.toArray = true) (hf : Region.free md l.toArray listed i = true) (hr : (Region.ready md l.toArray listed).contains i = true)
    (ty : TypeId) (x : Operand) (ho : oi.op = .load ty x)
    (b o : Nat) (hx : a.eval x = .pointer (some ⟨b, o, none⟩)) (cs : Array Value) (d : TypeDesc) (hR : ∀ w, S w → w.rangeAt b o cs.toList)
    (hQ : ∀ c a w, Q (.panic c) (a.put oi.dst (.agg cs)) w → Q (.panic c) a w) (hw : Region.wanted oi (yielded l.toArray a.tmps) = true)
    (hu : P.underlying ty = some d) (hd : d.isRow = true) (hz : (P.info? ty).map (·.size) = some cs.toList.length) (hS : S w)
    (h : wpAnyH P md l.toArray Q S fuel (listed.setIfInBounds i true) (a.put oi.dst (.agg cs)) w) : wpAnyH P md l.toArray Q S (fuel + 1) listed a w :=
  wpAnyH_take (v := .agg cs) (by simpa using hi) hs hf hr hQ (yieldsIf_load_mid hw ty x ho b o hx cs.toList d hR hu hd hz) hS h
theorem hd_step (i : Nat) {o : Oper} (hr : Region.ready md l.toArray listed = [i]) (ho : l[i]? = some o)
    (h : ∀ K' : Act → World → Prop, Shut (∀ a w, S w → (S w → wpAnyH P md l.toArray Q S fuel (listed.setIfInBounds i true) a w) → K' a w) → if Region.wanted o (yielded l.toArray a.tmps) = true then Oper.wp P o a w K' Q else K' (a.put o.dst undef) w) :
    wpAnyH P md l.toArray Q S (fuel + 1) listed a w :=
  wpAnyH_ready hr (by simp) (AllReadyH.cons (by simpa using ho) h AllReadyH.nil)
theorem hd_two (i j : Nat) {o u : Oper} (hr : Region.ready md l.toArray listed = [i, j]) (ho : l[i]? = some o) (hu : l[j]? = some u)
    (h : ∀ K' : Act → World → Prop, Shut (∀ a w, S w → (S w → wpAnyH P md l.toArray Q S fuel (listed.setIfInBounds i true) a w) → K' a w) → if Region.wanted o (yielded l.toArray a.tmps) = true then Oper.wp P o a w K' Q else K' (a.put o.dst undef) w)
    (k : ∀ K' : Act → World → Prop, Shut (∀ a w, S w → (S w → wpAnyH P md l.toArray Q S fuel (listed.setIfInBounds j true) a w) → K' a w) → if Region.wanted u (yielded l.toArray a.tmps) = true then Oper.wp P u a w K' Q else K' (a.put u.dst undef) w) :
    wpAnyH P md l.toArray Q S (fuel + 1) listed a w :=
  wpAnyH_ready hr (by simp) (AllReadyH.cons (by simpa using ho) h (AllReadyH.cons (by simpa using hu) k AllReadyH.nil))
end
end Go.Proofs.YtkeainhjghdfcaaGreat

/- Rows of strings; an operation whose guard says no. -/
namespace Go.Proofs.YtkeainhjghdfcaaGreat
open Go.RowKit

theorem EStr : ElemT Tryz.prog 69 9 1 16 := elemT_of (by kernel_rfl) (z := .string ⟨#[]⟩) (by kernel_rfl) rfl (by decide) (by decide)
end Go.Proofs.YtkeainhjghdfcaaGreat

/- Slices that are made whole: rows of numbers, of strings; what a store leaves of them. -/
namespace Go.Proofs.YtkeainhjghdfcaaGreat
open Go.RowKit

/-- block b holds just these values -/
def RowB (w : World) (b : Nat) (t : TypeId) (xs : List Value) : Prop := w.heap[b]? = some (.cells xs.toArray t (0, 0))
theorem RowB.lt {w : World} {b : Nat} {t : TypeId} {xs : List Value} (h : RowB w b t xs) : b < w.heap.size := (Array.getElem?_eq_some_iff.1 h).1
theorem RowB.cell {w : World} {b : Nat} {t : TypeId} {xs : List Value} (h : RowB w b t xs) {i : Nat} {v : Value} (hi : xs[i]? = some v) : w.cell? ⟨b, i, none⟩ = some v := by
  rw [cell_of_row _ _ i _ _ _ h]; simpa using hi
theorem RowB.warm {w : World} {b : Nat} {t : TypeId} {xs : List Value} (h : RowB w b t xs) (i : Nat) : w.frozen? ⟨b, i, none⟩ = false := by
  unfold World.frozen?; rw [h]; simp
theorem RowB.below {w w' : World} {b : Nat} {t : TypeId} {xs : List Value} (h : RowB w b t xs) (hb : Below w.heap.size w w') : RowB w' b t xs := (hb.block b h.lt).trans h
theorem RowB.set {w : World} {b : Nat} {t : TypeId} {xs : List Value} (h : RowB w b t xs) (i : Nat) (v : Value) : RowB (w.setCell ⟨b, i, none⟩ v) b t (xs.set i v) := by
  have := heap_setCell_same w b i xs.toArray t v h
  rw [List.setIfInBounds_toArray] at this
  exact this
theorem RowB.other {w : World} {b c i : Nat} {t : TypeId} {xs : List Value} {v : Value} (h : RowB w b t xs) (hn : b ≠ c) : RowB (w.setCell ⟨c, i, none⟩ v) b t xs := (Below.heap_setCell w _ v b hn).trans h
theorem RowB.rd {w : World} {b n cap : Nat} {t : TypeId} {xs : List Value} (h : RowB w b t xs) (hn : xs.length = n) (hc : n ≤ cap) (hm : cap ≤ maxLen) : Rd w.heap.size w 1 (.slice (some ⟨b, 0, none⟩) n cap) n xs :=
  ⟨_, _, rfl, hc, hm, by omega, fun _ => ⟨b, 0, rfl, h.lt, fun j u hu => by rw [Nat.zero_add]; exact h.cell hu⟩⟩
theorem made_list (v : Value) (n : Nat) : madeCells #[v] n = (List.replicate n v).toArray := by
  apply Array.ext
  · simp [madeCells]
  · intro i h1 h2
    simp [madeCells, Nat.mod_one]
theorem mk_ints (w : World) (n : Nat) (hn : n ≤ 1000000) : (Instr.makeSlice 75 (.int .i64 (n : Int)) (.int .i64 (n : Int))).run Tryz.prog w = .ok (.slice (some ⟨w.heap.size, 0, none⟩) n n) (w.alloc (.cells (Array.replicate n (.int .i64 0)) 3)) := by
  obtain ⟨i, z, hi, h1, h2, h3, h4⟩ := Ei.inf
  obtain ⟨i', hi', h1', h2', h3'⟩ := info_parts (show (Tryz.prog.info? 3).map (fun i => (i.zero, i.size, i.bytes)) = some (some (.int .i64 0), 1, 8) by kernel_rfl)
  have := run_make (P := Tryz.prog) w 75 3 i' (.int .i64 0) Ei.und hi' h1' .i64 .i64 (n : Int) (n : Int) (by omega) (Int.le_refl _) (by rw [h3']; omega) (by omega)
  rw [this, h2', Nat.mul_one, Int.toNat_natCast]
  show Result.ok _ (w.alloc (.cells (madeCells #[.int .i64 0] n) _)) = _
  rw [made_list, List.toArray_replicate]
theorem mk_strs (w : World) (n : Nat) (hn : n ≤ 1000000) : (Instr.makeSlice 69 (.int .i64 (n : Int)) (.int .i64 (n : Int))).run Tryz.prog w = .ok (.slice (some ⟨w.heap.size, 0, none⟩) n n) (w.alloc (.cells (Array.replicate n (.string ⟨#[]⟩)) 9)) := by
  obtain ⟨i', hi', h1', h2', h3'⟩ := info_parts (show (Tryz.prog.info? 9).map (fun i => (i.zero, i.size, i.bytes)) = some (some (.string ⟨#[]⟩), 1, 16) by kernel_rfl)
  have := run_make (P := Tryz.prog) w 69 9 i' (.string ⟨#[]⟩) EStr.und hi' h1' .i64 .i64 (n : Int) (n : Int) (by omega) (Int.le_refl _) (by rw [h3']; omega) (by omega)
  rw [this, h2', Nat.mul_one, Int.toNat_natCast]
  show Result.ok _ (w.alloc (.cells (madeCells #[.string ⟨#[]⟩] n) _)) = _
  rw [made_list, List.toArray_replicate]
theorem rowB_made {w : World} {b : Nat} {t : TypeId} {n : Nat} {v : Value} (h : w.heap[b]? = some (.cells (Array.replicate n v) t (0, 0))) : RowB w b t (List.replicate n v) := by
  unfold RowB
  rw [List.toArray_replicate]
  exact h
/-- strings as values -/
def strs (l : List ByteArray) : List Value := l.map .string
theorem strs_get {l : List ByteArray} {k : Nat} {t : ByteArray} (h : l[k]? = some t) : (strs l)[k]? = some (.string t) := by simp [strs, h]
theorem strs_len (l : List ByteArray) : (strs l).length = l.length := by simp [strs]
theorem set_strs (l : List ByteArray) (k : Nat) (t : ByteArray) : (strs l).set k (.string t) = strs (l.set k t) := by unfold strs; rw [List.map_set]
/-- a slice of strings reads as l -/
def StrsIn (w : World) (v : Value) (l : List ByteArray) : Prop := Rd w.heap.size w 1 v l.length (strs l)
theorem StrsIn.below {w w' : World} {v : Value} {l : List ByteArray} (h : StrsIn w v l) (hb : Below w.heap.size w w') : StrsIn w' v l := (Rd.below h hb (Nat.le_refl _)).mono hb.size
theorem strs_shape {w : World} {v : Value} {l : List ByteArray} (h : StrsIn w v l) : ∃ a cap, v = .slice a l.length cap ∧ l.length ≤ cap ∧ cap ≤ maxLen := by
  obtain ⟨a, cap, rfl, h1, h2, _⟩ := h
  exact ⟨a, cap, rfl, h1, h2⟩
theorem strs_cell {w : World} {v : Value} {l : List ByteArray} (h : StrsIn w v l) {k : Nat} {t : ByteArray} (hx : l[k]? = some t) : ∃ b off cap, v = .slice (some ⟨b, off, none⟩) l.length cap ∧ k < l.length ∧ l.length ≤ cap ∧ cap ≤ maxLen ∧ b < w.heap.size ∧ w.cell? ⟨b, off + k, none⟩ = some (.string t) := by
  obtain ⟨a, cap, rfl, h1, h2, _, h4⟩ := h
  have hk := (List.getElem?_eq_some_iff.1 hx).1
  obtain ⟨b, off, rfl, hb, hq⟩ := h4 (by omega)
  exact ⟨b, off, cap, rfl, hk, h1, h2, hb, hq k _ (strs_get hx)⟩
end Go.Proofs.YtkeainhjghdfcaaGreat

/- The plain law of spans: what the rows of a kind say, number by number. No program here. -/
namespace Go.Proofs.YtkeainhjghdfcaaGreat

structure Rw where
  k : Int
  f : Int
  t : Int
  a : Int
  b : Int
structure Span where
  f : Int
  t : Int
  a : Int
  b : Int

def hasS (r : Int) (x : Span) : Bool := decide (x.f ≤ r) && decide (r ≤ x.t)
theorem hasS_iff {r : Int} {x : Span} : hasS r x = true ↔ x.f ≤ r ∧ r ≤ x.t := by unfold hasS; simp
def hasR (kind r : Int) (x : Rw) : Bool := decide (x.k = kind) && (decide (x.f ≤ r) && decide (r ≤ x.t))
theorem hasR_iff {kind r : Int} {x : Rw} : hasR kind r x = true ↔ x.k = kind ∧ x.f ≤ r ∧ r ≤ x.t := by unfold hasR; simp

/-- the first row of a kind that has a number -/
def fnd (R : List Rw) (kind r : Int) : Option Rw := if 0 ≤ r ∧ r ≤ 1114111 then R.find? (hasR kind r) else none
def ansR (R : List Rw) (kind r : Int) : Option (Int × Int) := (fnd R kind r).map fun x => (x.a, x.b)
def ansS (S : List Span) (r : Int) : Option (Int × Int) := (S.find? (hasS r)).map fun x => (x.a, x.b)

def Dis (S : List Span) : Prop := S.Pairwise fun x y => x.t < y.f ∨ y.t < x.f
def Ris (S : List Span) : Prop := S.Pairwise fun x y => x.t < y.f
def okS (x : Span) : Prop := 0 ≤ x.f ∧ x.f ≤ x.t ∧ x.t ≤ 1114111
theorem Ris.dis {S : List Span} (h : Ris S) : Dis S := List.Pairwise.imp (fun h => .inl h) h

theorem one_of_dis {S : List Span} (h : Dis S) {r : Int} {x y : Span} (hx : x ∈ S) (hy : y ∈ S) (h1 : hasS r x = true) (h2 : hasS r y = true) : x = y := by
  rw [hasS_iff] at h1 h2
  induction S with
  | nil => cases hx
  | cons z S ih =>
    obtain ⟨ha, hb⟩ := List.pairwise_cons.1 h
    rcases List.mem_cons.1 hx with hx | hx
    · rcases List.mem_cons.1 hy with hy | hy
      · rw [hx, hy]
      · have := ha y hy; rw [hx] at h1; omega
    · rcases List.mem_cons.1 hy with hy | hy
      · have := ha x hx; rw [hy] at h2; omega
      · exact ih hb hx hy

theorem ansS_some {S : List Span} (h : Dis S) {r : Int} {p : Int × Int} : ansS S r = some p ↔ ∃ x ∈ S, hasS r x = true ∧ (x.a, x.b) = p := by
  unfold ansS
  constructor
  · intro he
    rw [Option.map_eq_some_iff] at he
    obtain ⟨x, hx, hp⟩ := he
    exact ⟨x, List.mem_of_find?_eq_some hx, List.find?_some hx, hp⟩
  · rintro ⟨x, hx, h1, hp⟩
    cases hf : S.find? (hasS r) with
    | none => exact absurd h1 (by simpa using List.find?_eq_none.1 hf x hx)
    | some y =>
      have := one_of_dis h hx (List.mem_of_find?_eq_some hf) h1 (List.find?_some hf)
      subst this
      simp [hp]
theorem ansS_none {S : List Span} {r : Int} : ansS S r = none ↔ ∀ x ∈ S, hasS r x = false := by
  unfold ansS
  rw [Option.map_eq_none_iff, List.find?_eq_none]
  simp
theorem ansS_perm {S T : List Span} (h : Dis S) (hp : S.Perm T) (r : Int) : ansS S r = ansS T r := by
  have hT : Dis T := (hp.pairwise_iff (R := fun x y : Span => x.t < y.f ∨ y.t < x.f) (fun h => h.symm)).1 h
  cases ht : ansS T r with
  | none => rw [ansS_none] at ht ⊢; exact fun x hx => ht x (hp.mem_iff.1 hx)
  | some p =>
    rw [ansS_some hT] at ht
    obtain ⟨x, hx, h1, h2⟩ := ht
    exact (ansS_some h).2 ⟨x, hp.mem_iff.2 hx, h1, h2⟩
theorem dis_perm {S T : List Span} (h : Dis S) (hp : S.Perm T) : Dis T := (hp.pairwise_iff (R := fun x y : Span => x.t < y.f ∨ y.t < x.f) (fun h => h.symm)).1 h

/-! ### rest -/
def restL : Span → List Span → List Span
  | s, [] => if s.f ≤ s.t then [s] else []
  | s, x :: l => if x.t < s.f ∨ s.t < x.f then restL s l else (if s.f < x.f then [⟨s.f, x.f - 1, s.a, s.b⟩] else []) ++ restL ⟨x.t + 1, s.t, s.a, s.b⟩ l

theorem restL_mem : ∀ (l : List Span) (s : Span), Ris l → (∀ x ∈ l, x.f ≤ x.t) → ∀ y ∈ restL s l, s.f ≤ y.f ∧ y.f ≤ y.t ∧ y.t ≤ s.t ∧ y.a = s.a ∧ y.b = s.b ∧ ∀ x ∈ l, x.t < y.f ∨ y.t < x.f := by
  intro l
  induction l with
  | nil =>
    intro s _ _ y hy
    unfold restL at hy
    split at hy
    · simp at hy; subst hy; exact ⟨by omega, by omega, by omega, rfl, rfl, fun x hx => by cases hx⟩
    · simp at hy
  | cons z l ih =>
    intro s hr hne y hy
    obtain ⟨ha, hb⟩ := List.pairwise_cons.1 hr
    have hz := hne z List.mem_cons_self
    have hne' : ∀ x ∈ l, x.f ≤ x.t := fun x hx => hne x (List.mem_cons_of_mem _ hx)
    unfold restL at hy
    split at hy
    · rename_i hc
      obtain ⟨h1, h2, h3, h4, h5, h6⟩ := ih s hb hne' y hy
      refine ⟨h1, h2, h3, h4, h5, fun x hx => ?_⟩
      rcases List.mem_cons.1 hx with rfl | hx
      · omega
      · exact h6 x hx
    · rename_i hc
      rcases List.mem_append.1 hy with hy | hy
      · split at hy
        · simp at hy; subst hy
          refine ⟨by dsimp only; omega, by dsimp only; omega, by dsimp only; omega, rfl, rfl, fun x hx => ?_⟩
          dsimp only
          rcases List.mem_cons.1 hx with rfl | hx
          · omega
          · have := ha x hx; omega
        · simp at hy
      · obtain ⟨h1, h2, h3, h4, h5, h6⟩ := ih _ hb hne' y hy
        dsimp only at h1 h3 h4 h5
        refine ⟨by omega, h2, h3, h4, h5, fun x hx => ?_⟩
        rcases List.mem_cons.1 hx with rfl | hx
        · omega
        · exact h6 x hx

theorem restL_ris : ∀ (l : List Span) (s : Span), Ris l → (∀ x ∈ l, x.f ≤ x.t) → Ris (restL s l) := by
  intro l
  induction l with
  | nil => intro s _ _; unfold restL; split <;> simp [Ris]
  | cons z l ih =>
    intro s hr hne
    obtain ⟨ha, hb⟩ := List.pairwise_cons.1 hr
    have hz := hne z List.mem_cons_self
    have hne' : ∀ x ∈ l, x.f ≤ x.t := fun x hx => hne x (List.mem_cons_of_mem _ hx)
    unfold restL
    split
    · exact ih s hb hne'
    · refine List.pairwise_append.2 ⟨?_, ih _ hb hne', ?_⟩
      · split <;> simp
      · intro p hp q hq
        have := restL_mem l _ hb hne' q hq
        split at hp
        · simp at hp; subst hp; dsimp only at this ⊢; omega
        · simp at hp

theorem restL_has : ∀ (l : List Span) (s : Span), Ris l → (∀ x ∈ l, x.f ≤ x.t) → ∀ r, s.f ≤ r → r ≤ s.t → (∀ x ∈ l, hasS r x = false) → ∃ y ∈ restL s l, hasS r y = true := by
  intro l
  induction l with
  | nil =>
    intro s _ _ r h1 h2 _
    unfold restL
    rw [if_pos (by omega)]
    exact ⟨s, by simp, hasS_iff.2 ⟨h1, h2⟩⟩
  | cons z l ih =>
    intro s hr hne r h1 h2 hno
    obtain ⟨ha, hb⟩ := List.pairwise_cons.1 hr
    have hz := hne z List.mem_cons_self
    have hne' : ∀ x ∈ l, x.f ≤ x.t := fun x hx => hne x (List.mem_cons_of_mem _ hx)
    have hno' : ∀ x ∈ l, hasS r x = false := fun x hx => hno x (List.mem_cons_of_mem _ hx)
    have hzr : ¬ (z.f ≤ r ∧ r ≤ z.t) := fun h => by rw [← hasS_iff, hno z List.mem_cons_self] at h; cases h
    unfold restL
    split
    · exact ih s hb hne' r h1 h2 hno'
    · by_cases hc : r ≤ z.t
      · have hlt : s.f < z.f := by omega
        rw [if_pos hlt]
        exact ⟨_, List.mem_append_left _ (List.mem_singleton.2 rfl), hasS_iff.2 ⟨h1, by dsimp only; omega⟩⟩
      · obtain ⟨y, hy, hyr⟩ := ih ⟨z.t + 1, s.t, s.a, s.b⟩ hb hne' r (by dsimp only; omega) h2 hno'
        exact ⟨y, List.mem_append_right _ hy, hyr⟩

/-! ### one row more -/
def clamp (x : Rw) : Span := ⟨max x.f 0, min x.t 1114111, x.a, x.b⟩

structure Good (S : List Span) : Prop where
  ris : Ris S
  ok : ∀ x ∈ S, okS x
/-- what spans say is what rows say -/
def Says (S : List Span) (R : List Rw) (kind : Int) : Prop := ∀ r, ansS S r = ansR R kind r

theorem good_nil : Good [] := ⟨List.Pairwise.nil, fun x hx => by cases hx⟩
theorem says_nil (kind : Int) : Says [] [] kind := by intro r; unfold ansR fnd ansS; split <;> rfl

theorem rest_dis {S : List Span} (h : Good S) (s : Span) : Dis (S ++ restL s S) := by
  have hne : ∀ x ∈ S, x.f ≤ x.t := fun x hx => (h.ok x hx).2.1
  exact List.pairwise_append.2 ⟨h.ris.dis, (restL_ris S s h.ris hne).dis, fun x hx y hy => (restL_mem S s h.ris hne y hy).2.2.2.2.2 x hx⟩
theorem rest_ok {S : List Span} (h : Good S) (x : Rw) : ∀ y ∈ S ++ restL (clamp x) S, okS y := by
  have hne : ∀ x ∈ S, x.f ≤ x.t := fun x hx => (h.ok x hx).2.1
  intro y hy
  rcases List.mem_append.1 hy with hy | hy
  · exact h.ok y hy
  · obtain ⟨h1, h2, h3, _⟩ := restL_mem S _ h.ris hne y hy
    unfold clamp at h1 h3
    dsimp only at h1 h3
    unfold okS
    omega

theorem find?_snoc {α : Type} (p : α → Bool) (l : List α) (x : α) : (l ++ [x]).find? p = (l.find? p).or (if p x then some x else none) := by
  rw [List.find?_append]
  congr 1
  simp [List.find?_cons]
  split <;> simp_all

theorem says_step {S : List Span} {R : List Rw} {kind : Int} (h : Good S) (hs : Says S R kind) {x : Rw} (hk : x.k = kind) : Says (S ++ restL (clamp x) S) (R ++ [x]) kind := by
  have hne : ∀ x ∈ S, x.f ≤ x.t := fun x hx => (h.ok x hx).2.1
  have hd := rest_dis h (clamp x)
  intro r
  have hsr := hs r
  by_cases hr : 0 ≤ r ∧ r ≤ 1114111
  · unfold ansR fnd at hsr ⊢
    rw [if_pos hr] at hsr ⊢
    rw [find?_snoc]
    cases hf : R.find? (hasR kind r) with
    | some y =>
      rw [hf] at hsr
      rw [show ((some y).or (if hasR kind r x = true then some x else none)) = some y from rfl, ← hsr]
      obtain ⟨z, hz, hzr, hp⟩ := (ansS_some h.ris.dis).1 hsr
      rw [hsr]
      exact (ansS_some hd).2 ⟨z, List.mem_append_left _ hz, hzr, hp⟩
    | none =>
      rw [hf] at hsr
      rw [Option.none_or]
      have hno := ansS_none.1 hsr
      by_cases hx : hasR kind r x = true
      · rw [if_pos hx]
        obtain ⟨_, h1, h2⟩ := hasR_iff.1 hx
        obtain ⟨y, hy, hyr⟩ := restL_has S (clamp x) h.ris hne r (by unfold clamp; dsimp only; omega) (by unfold clamp; dsimp only; omega) hno
        obtain ⟨_, _, _, h4, h5, _⟩ := restL_mem S _ h.ris hne y hy
        exact (ansS_some hd).2 ⟨y, List.mem_append_right _ hy, hyr, by rw [h4, h5]; rfl⟩
      · rw [if_neg hx]
        refine ansS_none.2 fun y hy => ?_
        rcases List.mem_append.1 hy with hy | hy
        · exact hno y hy
        · obtain ⟨h1, _, h3, _⟩ := restL_mem S _ h.ris hne y hy
          unfold clamp at h1 h3
          dsimp only at h1 h3
          cases hy2 : hasS r y with
          | false => rfl
          | true =>
            have := hasS_iff.1 hy2
            exact absurd (hasR_iff.2 ⟨hk, by omega, by omega⟩) hx
  · unfold ansR fnd
    rw [if_neg hr]
    refine ansS_none.2 fun y hy => ?_
    have := rest_ok h x y hy
    unfold okS at this
    cases hy2 : hasS r y with
    | false => rfl
    | true => have := hasS_iff.1 hy2; omega

theorem says_skip {S : List Span} {R : List Rw} {kind : Int} (hs : Says S R kind) {x : Rw} (hk : x.k ≠ kind) : Says S (R ++ [x]) kind := by
  intro r
  rw [hs r]
  unfold ansR fnd
  split
  · rw [find?_snoc]
    have : hasR kind r x = false := by
      cases h : hasR kind r x with
      | false => rfl
      | true => exact absurd (hasR_iff.1 h).1 hk
    rw [this]; simp
  · rfl

/-- sorted anew: the same spans, each beginning behind the one ahead -/
theorem good_sorted {S T : List Span} (hd : Dis S) (ho : ∀ x ∈ S, okS x) (hp : S.Perm T) (hs : T.Pairwise fun x y => x.f ≤ y.f) : Good T := by
  have hT := dis_perm hd hp
  have hoT : ∀ x ∈ T, okS x := fun x hx => ho x (hp.mem_iff.2 hx)
  refine ⟨?_, hoT⟩
  have : T.Pairwise fun x y => (x.t < y.f ∨ y.t < x.f) ∧ x.f ≤ y.f := List.Pairwise.and hT hs
  refine List.Pairwise.imp_of_mem (fun {a b} ha hb h => ?_) this
  have := hoT a ha
  have := hoT b hb
  unfold okS at *
  omega

/-! ### joined -/
def joinStep (out : List Span) (s : Span) : List Span :=
  match out.getLast? with
  | some y => if y.t + 1 = s.f ∧ y.a = s.a ∧ y.b = s.b then out.dropLast ++ [⟨y.f, s.t, y.a, y.b⟩] else out ++ [s]
  | none => out ++ [s]
def joinL (l : List Span) : List Span := l.foldl joinStep []

theorem join_good {out : List Span} {s : Span} {l : List Span} (h : Good (out ++ s :: l)) : Good (joinStep out s ++ l) ∧ ∀ r, ansS (joinStep out s ++ l) r = ansS (out ++ s :: l) r := by
  unfold joinStep
  cases hg : out.getLast? with
  | none =>
    rw [List.append_assoc]
    exact ⟨h, fun r => rfl⟩
  | some y =>
    dsimp only
    split
    · rename_i hc
      obtain ⟨c1, c2, c3⟩ := hc
      have hout : out = out.dropLast ++ [y] := by obtain ⟨o, ho⟩ := List.getLast?_eq_some_iff.1 hg; rw [ho, List.dropLast_concat]
      generalize out.dropLast = o at *
      subst hout
      rw [List.append_assoc] at h ⊢
      rw [List.append_assoc]
      have hy := h.ok y (by simp)
      have hs := h.ok s (by simp)
      unfold okS at hy hs
      have hris := h.ris
      unfold Ris at hris
      simp only [List.singleton_append, List.pairwise_append, List.pairwise_cons] at hris
      obtain ⟨p1, ⟨p2, p3, p4⟩, p5⟩ := hris
      have hG : Good (o ++ ([⟨y.f, s.t, y.a, y.b⟩] ++ l)) := by
        refine ⟨?_, ?_⟩
        · unfold Ris
          simp only [List.singleton_append, List.pairwise_append, List.pairwise_cons]
          refine ⟨p1, ⟨fun z hz => p3 z hz, p4⟩, fun z hz u hu => ?_⟩
          rcases List.mem_cons.1 hu with rfl | hu
          · exact p5 z hz y List.mem_cons_self
          · exact p5 z hz u (by simp [hu])
        · intro z hz
          simp only [List.singleton_append, List.mem_append, List.mem_cons] at hz
          rcases hz with hz | rfl | hz
          · exact h.ok z (by simp [hz])
          · unfold okS; dsimp only; omega
          · exact h.ok z (by simp [hz])
      refine ⟨hG, fun r => ?_⟩
      cases ha : ansS (o ++ ([y] ++ s :: l)) r with
      | none =>
        rw [ansS_none] at ha ⊢
        intro z hz
        simp only [List.singleton_append, List.mem_append, List.mem_cons] at hz
        rcases hz with hz | rfl | hz
        · exact ha z (by simp [hz])
        · have h1 := ha y (by simp)
          have h2 := ha s (by simp)
          cases hb : hasS r ⟨y.f, s.t, y.a, y.b⟩ with
          | false => rfl
          | true =>
            have hb' := hasS_iff.1 hb
            dsimp only at hb'
            by_cases hr : r ≤ y.t
            · rw [hasS_iff.2 ⟨hb'.1, hr⟩] at h1; cases h1
            · rw [hasS_iff.2 ⟨by omega, hb'.2⟩] at h2; cases h2
        · exact ha z (by simp [hz])
      | some p =>
        obtain ⟨z, hz, hzr, hp⟩ := (ansS_some h.ris.dis).1 ha
        refine (ansS_some hG.ris.dis).2 ?_
        have hzr' := hasS_iff.1 hzr
        simp only [List.singleton_append, List.mem_append, List.mem_cons] at hz
        rcases hz with hz | hz | hz | hz
        · exact ⟨z, by simp [hz], hzr, hp⟩
        · subst hz
          exact ⟨⟨z.f, s.t, z.a, z.b⟩, by simp, hasS_iff.2 ⟨hzr'.1, by dsimp only; omega⟩, hp⟩
        · subst hz
          exact ⟨⟨y.f, z.t, y.a, y.b⟩, by simp, hasS_iff.2 ⟨by dsimp only; omega, hzr'.2⟩, by dsimp only; rw [c2, c3]; exact hp⟩
        · exact ⟨z, by simp [hz], hzr, hp⟩
    · rw [List.append_assoc]
      exact ⟨h, fun r => rfl⟩

theorem join_all : ∀ (l out : List Span), Good (out ++ l) → Good (l.foldl joinStep out) ∧ ∀ r, ansS (l.foldl joinStep out) r = ansS (out ++ l) r := by
  intro l
  induction l with
  | nil => intro out h; rw [List.append_nil] at h ⊢; exact ⟨h, fun _ => rfl⟩
  | cons s l ih =>
    intro out h
    obtain ⟨h1, h2⟩ := join_good h
    obtain ⟨h3, h4⟩ := ih _ h1
    exact ⟨h3, fun r => (h4 r).trans (h2 r)⟩
theorem joinL_good {S : List Span} (h : Good S) : Good (joinL S) := (join_all S [] h).1
theorem joinL_says {S : List Span} {R : List Rw} {kind : Int} (h : Good S) (hs : Says S R kind) : Says (joinL S) R kind := fun r => ((join_all S [] h).2 r).trans (hs r)
theorem joinL_snoc (l : List Span) (s : Span) : joinL (l ++ [s]) = joinStep (joinL l) s := by unfold joinL; rw [List.foldl_append]; rfl
end Go.Proofs.YtkeainhjghdfcaaGreat

/- The document's tables are rows: the first row that has a number; what it says. -/
namespace Go.Proofs.YtkeainhjghdfcaaGreat
open Go.RowKit

def renc (x : Rw) : List Value := [.int .i64 x.k, .int .i64 x.f, .int .i64 x.t, .int .i64 x.a, .int .i64 x.b]
theorem renc_len (x : Rw) : (renc x).length = 5 := rfl
/-- v reads as the rows R. -/
def RowsIn (w : World) (v : Value) (R : List Rw) : Prop := Rs w.heap.size w renc 5 v R
theorem RowsIn.below {w w' : World} {v : Value} {R : List Rw} (h : RowsIn w v R) (hb : Below w.heap.size w w') : RowsIn w' v R := (Rd.below h hb (Nat.le_refl _)).mono hb.size
theorem RowsIn.drewN {w : World} {v : Value} {R : List Rw} (h : RowsIn w v R) (n : Nat) : RowsIn (w.drewN n) v R := h

def ofA (R : List Rw) (kind r : Int) : Int := match fnd R kind r with
  | some x => x.a
  | none => 0

theorem find_at {R : List Rw} {kind r : Int} : ∀ {k : Nat} {x : Rw}, (∀ j y, j < k → R[j]? = some y → hasR kind r y = false) → R[k]? = some x → hasR kind r x = true → R.find? (hasR kind r) = some x := by
  induction R with
  | nil => intro k x _ h; simp at h
  | cons z R ih =>
    intro k x hno hk hx
    cases k with
    | zero => simp at hk; subst hk; rw [List.find?_cons, hx]
    | succ k =>
      rw [List.find?_cons, hno 0 z (by omega) rfl]
      exact ih (k := k) (fun j y hj hy => hno (j + 1) y (by omega) (by simpa using hy)) (by simpa using hk) hx
theorem find_none {R : List Rw} {kind r : Int} (hno : ∀ j y, j < R.length → R[j]? = some y → hasR kind r y = false) : R.find? (hasR kind r) = none := by
  rw [List.find?_eq_none]
  intro y hy
  obtain ⟨j, hj⟩ := List.mem_iff_getElem?.1 hy
  rw [hno j y (List.getElem?_eq_some_iff.1 hj).1 hj]
  simp

def FindPost (R : List Rw) (kind r : Int) (w : World) (e : Ending) (w' : World) : Prop :=
  w = w' ∧ ((e = .returned (.int .i64 (-1)) ∧ fnd R kind r = none) ∨ ∃ (k : Nat) (x : Rw), e = .returned (.int .i64 k) ∧ R[k]? = some x ∧ fnd R kind r = some x)

theorem hasR_false {kind r : Int} {x : Rw} (h : ¬ (x.k = kind ∧ x.f ≤ r ∧ r ≤ x.t)) : hasR kind r x = false := by
  cases hh : hasR kind r x with
  | false => rfl
  | true => exact absurd (hasR_iff.1 hh) h

set_option maxRecDepth 100000 in
set_option maxHeartbeats 1000000 in
theorem find_any (v : Value) (R : List Rw) (kind r : Int) (w : World) (hR : RowsIn w v R) :
    Calls Tryz.prog 196 #[v, .int .i64 kind, .int .i64 r] w (FindPost R kind r w) := by
  obtain ⟨a, cap, rfl, hcap, hmax, hxl, hcells⟩ := hR
  unfold maxLen at hmax
  have HC := Lib.hid hcells
  clear hxl hcells
  by_cases hr : 0 ≤ r ∧ r ≤ 1114111
  · obtain ⟨hr1, hr2⟩ := hr
    have HF := Lib.hid (show fnd R kind r = R.find? (hasR kind r) by unfold fnd; rw [if_pos ⟨hr1, hr2⟩])
    go_enter Tryz.func196, Tryz.ntmps196
    go_wp2
    go_loop [7] (fun i => ∃ k : Nat, k ≤ R.length ∧ i = .int .i64 ((k : Nat) : Int) ∧ ∀ j y, j < k → R[j]? = some y → hasR kind r y = false) (fun i => R.length - (intOf i).toNat)
    case atStart => exact ⟨0, Nat.zero_le _, rfl, fun j y h => by omega⟩
    case round =>
      obtain ⟨k, hk, rfl, hno⟩ := hrel
      have HN := Lib.hid hno
      clear hno
      by_cases hlt : k < R.length
      · obtain ⟨x, hx⟩ : ∃ x, R[k]? = some x := ⟨R[k], List.getElem?_eq_getElem hlt⟩
        obtain ⟨b, off, rfl, hbl, hcq⟩ := HC.out (by omega)
        have d0 : w.cell? ⟨b, off + k * 5, none⟩ = some (.int .i64 x.k) := flat_cell renc_len hcq hx 0 rfl
        have d1 : w.cell? ⟨b, off + k * 5 + 1, none⟩ = some (.int .i64 x.f) := flat_cell renc_len hcq hx 1 rfl
        have d2 : w.cell? ⟨b, off + k * 5 + 2, none⟩ = some (.int .i64 x.t) := flat_cell renc_len hcq hx 2 rfl
        have HX := Lib.hid hx
        clear hcq hx
        have hnext : hasR kind r x = false → ∀ j y, j < k + 1 → R[j]? = some y → hasR kind r y = false := by
          intro h j y hj hy
          by_cases hjk : j = k
          · subst hjk; rw [HX.out] at hy; cases hy; exact h
          · exact HN.out j y (by omega) hy
        have HNx := Lib.hid hnext
        clear hnext
        by_cases h1 : x.k = kind
        · have q1 : (x.k == kind) = true := by simpa using h1
          by_cases h2 : x.f ≤ r
          · by_cases h3 : r ≤ x.t
            · have HH := Lib.hid (find_at HN.out HX.out (hasR_iff.2 ⟨h1, h2, h3⟩))
              clear h1
              go_wp2
              go_ret
              exact ⟨rfl, .inr ⟨k, x, rfl, HX.out, HF.out.trans HH.out⟩⟩
            · have HH := Lib.hid (hasR_false (x := x) (kind := kind) (r := r) (by omega))
              clear h1
              go_wp2
              go_round
              case rel => exact ⟨k + 1, by omega, by go_num, HNx.out HH.out⟩
              case measure => simp [intOf]; omega
          · have HH := Lib.hid (hasR_false (x := x) (kind := kind) (r := r) (by omega))
            clear h1
            go_wp2
            go_round
            case rel => exact ⟨k + 1, by omega, by go_num, HNx.out HH.out⟩
            case measure => simp [intOf]; omega
        · have q1 : (x.k == kind) = false := by simpa using h1
          have HH := Lib.hid (hasR_false (x := x) (kind := kind) (r := r) (by omega))
          clear h1
          go_wp2
          go_round
          case rel => exact ⟨k + 1, by omega, by go_num, HNx.out HH.out⟩
          case measure => simp [intOf]; omega
      · have hkn : k = R.length := by omega
        subst hkn
        go_wp2
        go_ret
        exact ⟨rfl, .inl ⟨rfl, HF.out.trans (find_none HN.out)⟩⟩
  · have HF := Lib.hid (show fnd R kind r = none by unfold fnd; rw [if_neg hr])
    have h' : r < 0 ∨ (0 ≤ r ∧ 1114111 < r) := by omega
    clear hr
    rcases h' with h1 | ⟨h1, h2⟩
    all_goals
      go_enter Tryz.func196, Tryz.ntmps196
      go_wp2
      go_ret
      exact ⟨rfl, .inl ⟨rfl, HF.out⟩⟩

theorem rows_cells {w : World} {v : Value} {R : List Rw} (hR : RowsIn w v R) {k : Nat} {x : Rw} (hx : R[k]? = some x) : ∃ b off cap, v = .slice (some ⟨b, off, none⟩) R.length cap ∧ cap ≤ maxLen ∧ R.length ≤ cap ∧ k < R.length ∧
    w.cell? ⟨b, off + k * 5, none⟩ = some (.int .i64 x.k) ∧ w.cell? ⟨b, off + k * 5 + 1, none⟩ = some (.int .i64 x.f) ∧ w.cell? ⟨b, off + k * 5 + 2, none⟩ = some (.int .i64 x.t) ∧ w.cell? ⟨b, off + k * 5 + 3, none⟩ = some (.int .i64 x.a) ∧ w.cell? ⟨b, off + k * 5 + 4, none⟩ = some (.int .i64 x.b) := by
  obtain ⟨a, cap, rfl, hcap, hmax, hxl, hcells⟩ := hR
  have hk := (List.getElem?_eq_some_iff.1 hx).1
  obtain ⟨b, off, rfl, hbl, hcq⟩ := hcells (by omega)
  exact ⟨b, off, cap, rfl, hmax, hcap, hk, flat_cell renc_len hcq hx 0 rfl, flat_cell renc_len hcq hx 1 rfl, flat_cell renc_len hcq hx 2 rfl, flat_cell renc_len hcq hx 3 rfl, flat_cell renc_len hcq hx 4 rfl⟩

set_option maxRecDepth 100000 in
set_option maxHeartbeats 400000 in
theorem a_any (v : Value) (R : List Rw) (kind r : Int) (w : World) (hR : RowsIn w v R) :
    Calls Tryz.prog 180 #[v, .int .i64 kind, .int .i64 r] w fun e w' => e = .returned (.int .i64 (ofA R kind r)) ∧ w = w' := by
  go_enter Tryz.func180, Tryz.ntmps180
  go_wp2_with fail
  refine (find_any v R kind r w hR).mono ?_
  rintro e w' ⟨rfl, ⟨rfl, hf⟩ | ⟨k, x, rfl, hx, hf⟩⟩
  · have e0 := Lib.hid (show ofA R kind r = 0 by unfold ofA; rw [hf])
    clear hf
    go_wp2
    go_ret
    exact ⟨ret_int e0.out.symm, rfl⟩
  · have e0 := Lib.hid (show ofA R kind r = x.a by unfold ofA; rw [hf])
    obtain ⟨b, off, cap, rfl, hc1, hc2, hk, d0, d1, d2, d3, d4⟩ := rows_cells hR hx
    unfold maxLen at hc1
    clear hf hx hR
    go_wp2
    go_ret
    exact ⟨ret_int e0.out.symm, rfl⟩

set_option maxRecDepth 100000 in
theorem of_any (v : Value) (R : List Rw) (kind r : Int) (w : World) (hR : RowsIn w v R) (b1 : -2147483648 ≤ r) (b2 : r ≤ 2147483647) :
    Calls Tryz.prog 142 #[v, .int .i64 kind, .int .i32 r] w fun e w' => e = .returned (.int .i64 (ofA R kind r)) ∧ w = w' := by
  go_enter Tryz.func142, Tryz.ntmps142
  go_wp2_with fail
  refine (a_any v R kind r w hR).mono ?_
  rintro e w' ⟨rfl, rfl⟩
  go_wp2
  go_ret
  exact ⟨rfl, rfl⟩

end Go.Proofs.YtkeainhjghdfcaaGreat

/- Clusters, plainly: what the program's states know is what the document's rules say. -/
namespace Go.Proofs.YtkeainhjghdfcaaGreat
open Go.RowKit

/-- rows that have a number -/
theorem fnd_mem {R : List Rw} {k r : Int} {x : Rw} (h : fnd R k r = some x) : x ∈ R ∧ x.k = k ∧ x.f ≤ r ∧ r ≤ x.t ∧ 0 ≤ r ∧ r ≤ 1114111 := by
  unfold fnd at h
  split at h
  · rename_i hr
    exact ⟨List.mem_of_find?_eq_some h, (hasR_iff.1 (List.find?_some h)).1, (hasR_iff.1 (List.find?_some h)).2.1, (hasR_iff.1 (List.find?_some h)).2.2, hr.1, hr.2⟩
  · cases h
/-- what is known of scalars: how they go with neighbours, pictures, consonants -/
structure Tab where
  b : Int → Int
  p : Int → Bool
  c : Int → Int
structure Tab.Ok (T : Tab) : Prop where
  p : ∀ r, T.p r = true → T.b r = 0
  c : ∀ r, T.c r = 0 ∨ (T.c r = 1 ∧ T.b r = 4) ∨ (T.c r = 2 ∧ T.b r = 0) ∨ (T.c r = 3 ∧ (T.b r = 4 ∨ T.b r = 5))
/-- how a scalar goes with its neighbours -/
def brkR (R : List Rw) (r : Int) : Int := if 44032 ≤ r ∧ r ≤ 55203 then (if (r - 44032) % 28 = 0 then 12 else 13) else ofA R 4 r
def conjR (R : List Rw) (r : Int) : Int := if ofA R 6 r ≠ 0 then ofA R 6 r else if (brkR R r = 4 ∨ brkR R r = 5) ∧ r ≠ 8204 then 3 else 0
def tabOf (R : List Rw) : Tab := ⟨brkR R, fun r => decide (ofA R 5 r = 1), conjR R⟩

/-- the rules of syllables -/
def hangulB (a b : Int) : Bool := (decide (a = 9) && (decide (b = 9) || decide (b = 10) || decide (b = 12) || decide (b = 13))) || ((decide (a = 12) || decide (a = 10)) && (decide (b = 10) || decide (b = 11))) || ((decide (a = 13) || decide (a = 11)) && decide (b = 11))
def hardB (b : Int) : Bool := decide (b = 3) || decide (b = 1) || decide (b = 2)
/-- two scalars belong together, by what they are alone -/
def sticksB (a b : Int) : Bool :=
  if a = 1 then decide (b = 2) else if a = 2 ∨ a = 3 then false else if b = 1 ∨ b = 2 ∨ b = 3 then false else if b = 4 ∨ b = 5 ∨ b = 8 then true else if a = 7 then true else hangulB a b
structure St where
  some : Bool
  last : Int
  pict : Int
  conj : Int
  odd : Bool
def St0 : St := ⟨false, 0, 0, 0, false⟩
def nextP (T : Tab) (s : St) (r : Int) : Int := if T.p r then 1 else if s.pict = 1 ∧ T.b r = 4 then 1 else if s.pict = 1 ∧ T.b r = 5 then 2 else 0
def nextC (T : Tab) (s : St) (r : Int) : Int := if T.c r = 2 then 1 else if s.conj ≠ 0 ∧ T.c r = 1 then 2 else if s.conj ≠ 0 ∧ T.c r = 3 then s.conj else 0
def nextSt (T : Tab) (s : St) (r : Int) : St := ⟨true, T.b r, nextP T s r, nextC T s r, decide (T.b r = 6) && !s.odd⟩
def cutB (T : Tab) (s : St) (r : Int) : Bool :=
  !s.some || (!sticksB s.last (T.b r) && !(decide (s.pict = 2) && T.p r) && !(decide (s.conj = 2) && decide (T.c r = 2)) && !(s.odd && decide (T.b r = 6)))

/-- the state behind scalars, the last one first -/
def stOf (T : Tab) : List Int → St
  | [] => St0
  | a :: l => nextSt T (stOf T l) a

/-- the document's rules, of scalars ahead, the last one first -/
def conjBack (T : Tab) (linked : Bool) : List Int → Bool
  | [] => false
  | a :: l => if T.c a = 2 then linked else if T.c a = 0 then false else if T.c a = 1 then conjBack T true l else conjBack T linked l
def pictBack (T : Tab) : List Int → Bool
  | [] => false
  | a :: l => if T.p a then true else if T.b a ≠ 4 then false else pictBack T l
def flagBack (T : Tab) : List Int → Nat
  | [] => 0
  | a :: l => if T.b a = 6 then flagBack T l + 1 else 0
def begB (T : Tab) (pre : List Int) (r : Int) : Bool := match pre with
  | [] => true
  | a :: l =>
    if T.b a = 1 ∧ T.b r = 2 then false else if hardB (T.b a) || hardB (T.b r) then true
    else if hangulB (T.b a) (T.b r) || decide (T.b r = 4) || decide (T.b r = 5) || decide (T.b r = 8) || decide (T.b a = 7) then false
    else !(decide (T.c r = 2) && conjBack T false (a :: l)) && !(T.p r && (decide (T.b a = 5) && pictBack T l)) && !(decide (T.b r = 6) && decide (flagBack T (a :: l) % 2 = 1))

theorem stOf_odd (T : Tab) : ∀ l, (stOf T l).odd = decide (flagBack T l % 2 = 1)
  | [] => by simp [stOf, St0, flagBack]
  | a :: l => by
    have ih := stOf_odd T l
    simp only [stOf, nextSt, flagBack, ih]
    by_cases h : T.b a = 6
    · simp only [h, decide_true, Bool.true_and, if_pos]
      by_cases h2 : flagBack T l % 2 = 1
      · have : ¬ ((flagBack T l + 1) % 2 = 1) := by omega
        simp [h2, this]
      · have : (flagBack T l + 1) % 2 = 1 := by omega
        simp [h2, this]
    · simp [h]
theorem stOf_pict (T : Tab) : ∀ l, (stOf T l).pict = 1 ↔ pictBack T l = true
  | [] => by simp [stOf, St0, pictBack]
  | a :: l => by
    have ih := stOf_pict T l
    simp only [stOf, nextSt, nextP, pictBack]
    by_cases hp : T.p a = true
    · simp [hp]
    · simp only [hp]
      by_cases h4 : T.b a = 4
      · by_cases h1 : (stOf T l).pict = 1
        · simp [h4, h1, ih.1 h1]
        · have : ¬ pictBack T l = true := fun h => h1 (ih.2 h)
          simp [h4, h1, this]
      · by_cases h5 : (stOf T l).pict = 1 ∧ T.b a = 5
        · simp [h5]
        · simp [h4, h5]
theorem stOf_pict2 {T : Tab} (H : T.Ok) (a : Int) (l : List Int) : (stOf T (a :: l)).pict = 2 ↔ T.b a = 5 ∧ pictBack T l = true := by
  have ih := stOf_pict T l
  simp only [stOf, nextSt, nextP]
  by_cases hp : T.p a = true
  · have := H.p a hp
    simp [hp, this]
  · simp only [hp]
    by_cases h4 : T.b a = 4
    · by_cases h1 : (stOf T l).pict = 1
      · simp [h4, h1]
      · simp [h4, h1]
    · by_cases h5 : T.b a = 5
      · by_cases h1 : (stOf T l).pict = 1
        · simp [h5, h1, ih.1 h1]
        · have : ¬ pictBack T l = true := fun h => h1 (ih.2 h)
          simp [h5, h1, this]
      · simp [h4, h5]
theorem stOf_conj {T : Tab} (H : T.Ok) : ∀ l, ((stOf T l).conj ≠ 0 ↔ conjBack T true l = true) ∧ ((stOf T l).conj = 2 ↔ conjBack T false l = true) ∧ ((stOf T l).conj = 0 ∨ (stOf T l).conj = 1 ∨ (stOf T l).conj = 2)
  | [] => by simp [stOf, St0, conjBack]
  | a :: l => by
    obtain ⟨i1, i2, i3⟩ := stOf_conj H l
    simp only [stOf, nextSt, nextC, conjBack]
    generalize (stOf T l).conj = q at i1 i2 i3
    rcases H.c a with h | ⟨h, _⟩ | ⟨h, _⟩ | ⟨h, _⟩
    · simp [h]
    · rw [h]
      by_cases hq : q = 0
      · have : ¬ conjBack T true l = true := fun h => (i1.2 h) hq
        simp [hq, this]
      · have := i1.1 hq
        simp [hq, this]
    · simp [h]
    · rw [h]
      by_cases hq : q = 0
      · have e1 : ¬ conjBack T true l = true := fun h => (i1.2 h) hq
        have e2 : ¬ conjBack T false l = true := fun h => by have := i2.2 h; omega
        simp [hq, e1, e2]
      · have := i1.1 hq
        rcases i3 with e | e | e
        · exact absurd e hq
        · have e2 : ¬ conjBack T false l = true := fun h => by have := i2.2 h; omega
          simp [e, this, e2]
        · simp [e, this, i2.1 e]
/-- a scalar that is hard has no part in consonants or pictures -/
theorem hard_pict {T : Tab} (H : T.Ok) {a : Int} {l : List Int} (h : hardB (T.b a) = true) : (stOf T (a :: l)).pict = 0 ∧ (stOf T (a :: l)).conj = 0 ∧ (stOf T (a :: l)).odd = false := by
  have hb : T.b a = 3 ∨ T.b a = 1 ∨ T.b a = 2 := by simpa [hardB, or_assoc] using h
  have hp : ¬ T.p a = true := fun e => by have := H.p a e; omega
  have hc : T.c a = 0 := by rcases H.c a with e | ⟨_, e⟩ | ⟨_, e⟩ | ⟨_, e⟩ <;> omega
  refine ⟨?_, ?_, ?_⟩
  · simp only [stOf, nextSt, nextP]
    rw [if_neg hp, if_neg (fun e => by have := e.2; omega), if_neg (fun e => by have := e.2; omega)]
  · simp [stOf, nextSt, nextC, hc]
  · simp only [stOf, nextSt]
    rw [decide_eq_false (by omega)]; rfl
theorem hang_soft {a b : Int} (h : hardB a = true ∨ hardB b = true) : hangulB a b = false := by
  simp only [hardB, Bool.or_eq_true, decide_eq_true_eq, or_assoc] at h
  unfold hangulB
  rcases h with h | h | h | h | h | h <;> subst h <;> simp
/-- what the states know is what the rules say -/
theorem cut_beg {T : Tab} (H : T.Ok) (l : List Int) (r : Int) : cutB T (stOf T l) r = begB T l r := by
  cases l with
  | nil => simp [stOf, St0, cutB, begB]
  | cons a l =>
    have hs : (stOf T (a :: l)).some = true := rfl
    have hl : (stOf T (a :: l)).last = T.b a := rfl
    have hpr : T.p r = true → T.b r = 0 := H.p r
    have hcr : T.c r = 2 → T.b r = 0 := fun e => by rcases H.c r with e' | ⟨e', _⟩ | ⟨_, e'⟩ | ⟨e', _⟩ <;> omega
    simp only [cutB, begB, hs, hl, Bool.not_true, Bool.false_or]
    by_cases h12 : T.b a = 1 ∧ T.b r = 2
    · rw [if_pos h12]
      simp [sticksB, h12.1, h12.2]
    · rw [if_neg h12]
      by_cases hh : (hardB (T.b a) || hardB (T.b r)) = true
      · rw [if_pos hh]
        have hst : sticksB (T.b a) (T.b r) = false := by
          have hor := (Bool.or_eq_true _ _).mp hh
          have hgs := hang_soft hor
          simp only [hardB, Bool.or_eq_true, decide_eq_true_eq, or_assoc] at hor
          unfold sticksB
          by_cases q1 : T.b a = 1
          · rw [if_pos q1, decide_eq_false (fun e => h12 ⟨q1, e⟩)]
          · rw [if_neg q1]
            by_cases q2 : T.b a = 2 ∨ T.b a = 3
            · rw [if_pos q2]
            · rw [if_neg q2, if_pos (by omega)]
        rw [hst]
        simp only [Bool.not_false, Bool.true_and]
        rcases (Bool.or_eq_true _ _).mp hh with ha | hr
        · obtain ⟨e1, e2, e3⟩ := hard_pict H (l := l) ha
          simp [e1, e2, e3]
        · have hb : T.b r = 3 ∨ T.b r = 1 ∨ T.b r = 2 := by simpa [hardB, or_assoc] using hr
          have e1 : T.p r = false := by
            cases e : T.p r with
            | false => rfl
            | true => have := hpr e; omega
          have e2 : ¬ T.c r = 2 := fun e => by have := hcr e; omega
          have e3 : ¬ T.b r = 6 := by omega
          simp [e1, e2, e3]
      · rw [if_neg hh]
        have hha : ¬ (T.b a = 3 ∨ T.b a = 1 ∨ T.b a = 2) := fun e => hh (by simp [hardB]; omega)
        have hhr : ¬ (T.b r = 3 ∨ T.b r = 1 ∨ T.b r = 2) := fun e => hh (by simp [hardB]; omega)
        have hst : sticksB (T.b a) (T.b r) = (hangulB (T.b a) (T.b r) || decide (T.b r = 4) || decide (T.b r = 5) || decide (T.b r = 8) || decide (T.b a = 7)) := by
          unfold sticksB
          rw [if_neg (by omega), if_neg (by omega), if_neg (by omega)]
          by_cases q1 : T.b r = 4 ∨ T.b r = 5 ∨ T.b r = 8
          · rw [if_pos q1]
            rcases q1 with q | q | q <;> simp [q]
          · rw [if_neg q1]
            have z1 : ¬ T.b r = 4 := by omega
            have z2 : ¬ T.b r = 5 := by omega
            have z3 : ¬ T.b r = 8 := by omega
            by_cases q2 : T.b a = 7
            · rw [if_pos q2]; simp [q2]
            · rw [if_neg q2]; simp [z1, z2, z3, q2]
        rw [hst]
        by_cases hk : (hangulB (T.b a) (T.b r) || decide (T.b r = 4) || decide (T.b r = 5) || decide (T.b r = 8) || decide (T.b a = 7)) = true
        · rw [if_pos hk, hk]; rfl
        · rw [if_neg hk, eq_false_of_ne_true hk]
          simp only [Bool.not_false, Bool.true_and]
          have e1 : decide ((stOf T (a :: l)).pict = 2) = (decide (T.b a = 5) && pictBack T l) := by
            rw [Bool.eq_iff_iff]; simp [stOf_pict2 H a l]
          have e2 : decide ((stOf T (a :: l)).conj = 2) = conjBack T false (a :: l) := by
            rw [Bool.eq_iff_iff]; simp [(stOf_conj H (a :: l)).2.1]
          rw [e1, e2, stOf_odd]
          cases T.p r <;> cases decide (T.b a = 5) <;> cases pictBack T l <;> cases decide (T.c r = 2) <;> cases conjBack T false (a :: l) <;> cases decide (T.b r = 6) <;> cases decide (flagBack T (a :: l) % 2 = 1) <;> rfl
/-- behind the beginning of a cluster the state is as if nothing were ahead -/
theorem cut_fresh {T : Tab} (H : T.Ok) (l : List Int) (r : Int) (h : begB T l r = true) : nextSt T (stOf T l) r = nextSt T St0 r := by
  cases l with
  | nil => rfl
  | cons a l =>
    have hcut := h
    rw [← cut_beg H] at hcut
    simp only [begB] at h
    by_cases h12 : T.b a = 1 ∧ T.b r = 2
    · rw [if_pos h12] at h; cases h
    · rw [if_neg h12] at h
      have hodd : (decide (T.b r = 6) && !(stOf T (a :: l)).odd) = (decide (T.b r = 6) && !St0.odd) := by
        by_cases h6 : T.b r = 6
        · simp only [cutB, h6, decide_true, Bool.and_true] at hcut
          have : (stOf T (a :: l)).odd = false := by
            cases e : (stOf T (a :: l)).odd with
            | false => rfl
            | true => rw [e] at hcut; simp [stOf, nextSt] at hcut
          rw [this]; rfl
        · simp [h6]
      have hext : (T.b r = 4 ∨ T.b r = 5) → (stOf T (a :: l)).pict = 0 ∧ (stOf T (a :: l)).conj = 0 := by
        intro h45
        by_cases hha : hardB (T.b a) = true
        · obtain ⟨e1, e2, _⟩ := hard_pict H (l := l) hha
          exact ⟨e1, e2⟩
        · have hhr : hardB (T.b r) = false := by rcases h45 with e | e <;> simp [hardB, e]
          rw [eq_false_of_ne_true hha, hhr, if_neg (by decide)] at h
          rw [if_pos (by rcases h45 with e | e <;> simp [e])] at h
          cases h
      have hp : nextP T (stOf T (a :: l)) r = nextP T St0 r := by
        unfold nextP
        by_cases hp : T.p r = true
        · rw [if_pos hp, if_pos hp]
        · rw [if_neg hp, if_neg hp]
          by_cases h45 : T.b r = 4 ∨ T.b r = 5
          · rw [(hext h45).1]; rfl
          · rw [if_neg (by omega), if_neg (by omega), if_neg (by omega), if_neg (by omega)]
      have hc : nextC T (stOf T (a :: l)) r = nextC T St0 r := by
        unfold nextC
        rcases H.c r with e | ⟨e, e'⟩ | ⟨e, e'⟩ | ⟨e, e'⟩
        · rw [e]; simp
        · rw [(hext (.inl e')).2]; rfl
        · rw [e]; simp
        · rw [(hext e').2]; rfl
      unfold nextSt
      rw [hp, hc, hodd]
end Go.Proofs.YtkeainhjghdfcaaGreat

/- Places of a text, plainly: where clusters begin, the next one, what is sure from two scalars alone. -/
namespace Go.Proofs.YtkeainhjghdfcaaGreat

/-- how many scalars more, until a cluster begins -/
def runLen (T : Tab) (st : St) : List Int → Nat
  | [] => 0
  | r :: l => if cutB T st r then 0 else runLen T (nextSt T st r) l + 1
/-- of a text that is not empty: where its first cluster ends -/
def nx (T : Tab) : List Int → Nat
  | [] => 0
  | r :: l => runLen T (nextSt T St0 r) l + 1
def begAt (T : Tab) (s : List Int) (i : Nat) : Bool := match s[i]? with
  | some r => begB T (s.take i).reverse r
  | none => false
/-- the document's next place -/
def fnb (T : Tab) (pre : List Int) : List Int → Nat
  | [] => 0
  | r :: l => if begB T pre r then 0 else fnb T (r :: pre) l + 1
theorem run_fnb {T : Tab} (H : T.Ok) : ∀ (l pre : List Int), runLen T (stOf T pre) l = fnb T pre l
  | [], _ => rfl
  | r :: l, pre => by
    simp only [runLen, fnb]
    rw [cut_beg H, show nextSt T (stOf T pre) r = stOf T (r :: pre) from rfl, run_fnb H l (r :: pre)]
theorem runLen_le (T : Tab) : ∀ (l : List Int) (st : St), runLen T st l ≤ l.length
  | [], _ => Nat.le_refl _
  | r :: l, st => by
    simp only [runLen, List.length_cons]
    split
    · omega
    · have := runLen_le T l (nextSt T st r); omega
theorem nx_le (T : Tab) (s : List Int) : nx T s ≤ s.length := by
  cases s with
  | nil => exact Nat.le_refl _
  | cons r l => simp only [nx, List.length_cons]; have := runLen_le T l (nextSt T St0 r); omega
theorem nx_pos (T : Tab) {s : List Int} (h : s ≠ []) : 1 ≤ nx T s := by
  cases s with
  | nil => exact absurd rfl h
  | cons r l => simp [nx]
theorem take_succ_rev {s : List Int} {i : Nat} {r : Int} (h : s[i]? = some r) : (s.take (i + 1)).reverse = r :: (s.take i).reverse := by
  rw [List.take_add_one, h]; simp
theorem drop_of_get {s : List Int} {i : Nat} {r : Int} (h : s[i]? = some r) : s.drop i = r :: s.drop (i + 1) := by
  obtain ⟨hl, e⟩ := List.getElem?_eq_some_iff.1 h
  rw [List.drop_eq_getElem_cons hl, e]
/-- from where a cluster begins the document's next place is the program's -/
theorem nx_fnb {T : Tab} (H : T.Ok) {s : List Int} {i : Nat} (h : begAt T s i = true) : i + nx T (s.drop i) = i + 1 + fnb T (s.take (i + 1)).reverse (s.drop (i + 1)) := by
  unfold begAt at h
  cases hr : s[i]? with
  | none => rw [hr] at h; cases h
  | some r =>
    rw [hr] at h
    rw [drop_of_get hr, take_succ_rev hr]
    simp only [nx]
    rw [← cut_fresh H _ r h, show nextSt T (stOf T (s.take i).reverse) r = stOf T (r :: (s.take i).reverse) from rfl, run_fnb H]
    omega
/-- the document's next place: none between begins a cluster; it begins one, or is the end -/
theorem fnb_spec (T : Tab) (s : List Int) : ∀ (n i : Nat), s.length - i = n → i ≤ s.length → (∀ j, i ≤ j → j < i + fnb T (s.take i).reverse (s.drop i) → begAt T s j = false) ∧ i + fnb T (s.take i).reverse (s.drop i) ≤ s.length ∧ (i + fnb T (s.take i).reverse (s.drop i) = s.length ∨ begAt T s (i + fnb T (s.take i).reverse (s.drop i)) = true) := by
  intro n
  induction n with
  | zero =>
    intro i h1 h2
    rw [List.drop_eq_nil_of_le (by omega)]
    simp only [fnb, Nat.add_zero]
    exact ⟨fun j a b => by omega, h2, .inl (by omega)⟩
  | succ n ih =>
    intro i h1 h2
    have hi : s[i]? = some s[i] := List.getElem?_eq_getElem (by omega)
    generalize hr : s[i] = r at hi
    have hb : begAt T s i = begB T (s.take i).reverse r := by unfold begAt; rw [hi]
    rw [drop_of_get hi]
    simp only [fnb]
    cases hc : begB T (s.take i).reverse r with
    | true =>
      simp only [if_true, Nat.add_zero]
      exact ⟨fun j a b => by omega, h2, .inr (hb.trans hc)⟩
    | false =>
      obtain ⟨p1, p2, p3⟩ := ih (i + 1) (by omega) (by omega)
      rw [take_succ_rev hi] at p1 p2 p3
      simp only [Bool.false_eq_true, if_false]
      generalize fnb T (r :: (s.take i).reverse) (s.drop (i + 1)) = q at p1 p2 p3
      rw [show i + (q + 1) = i + 1 + q by omega]
      refine ⟨fun j a b => ?_, p2, p3⟩
      by_cases hj : j = i
      · subst hj; exact hb.trans hc
      · exact p1 j (by omega) b
theorem begAt_zero (T : Tab) {s : List Int} (h : s ≠ []) : begAt T s 0 = true := by
  cases s with
  | nil => exact absurd rfl h
  | cons r l => rfl
theorem begAt_lt {T : Tab} {s : List Int} {i : Nat} (h : begAt T s i = true) : i < s.length := by
  unfold begAt at h
  cases hr : s[i]? with
  | none => rw [hr] at h; cases h
  | some r => exact (List.getElem?_eq_some_iff.1 hr).1
/-- from where a cluster begins: the next place, told by what is between -/
theorem nx_spec {T : Tab} (H : T.Ok) {s : List Int} {i : Nat} (h : begAt T s i = true) : i < i + nx T (s.drop i) ∧ i + nx T (s.drop i) ≤ s.length ∧ (∀ j, i < j → j < i + nx T (s.drop i) → begAt T s j = false) ∧ (i + nx T (s.drop i) = s.length ∨ begAt T s (i + nx T (s.drop i)) = true) := by
  have hl := begAt_lt h
  rw [nx_fnb H h]
  obtain ⟨p1, p2, p3⟩ := fnb_spec T s _ (i + 1) rfl (by omega)
  exact ⟨by omega, p2, fun j a b => p1 j (by omega) b, p3⟩

/-- as the document goes -/
def startsB (T : Tab) (pre : List Int) (i : Nat) : List Int → List Nat
  | [] => []
  | r :: l => if begB T pre r then i :: startsB T (r :: pre) (i + 1) l else startsB T (r :: pre) (i + 1) l
def starts (T : Tab) (s : List Int) : List Nat := startsB T [] 0 s
end Go.Proofs.YtkeainhjghdfcaaGreat

/- Glyphs: plain law of scalars' bytes, of widths, and of how clusters are shown. No program is named here. -/
namespace Go.Proofs.YtkeainhjghdfcaaGreat

def validB (r : Int) : Bool := (decide (0 ≤ r) && decide (r < 55296)) || (decide (57343 < r) && decide (r ≤ 1114111))
/-- a scalar, or the one that stands for what is none -/
def fixR (r : Int) : Int := if validB r then r else 65533
def sizeN (r : Int) : Nat := if validB r then (if r < 128 then 1 else if r < 2048 then 2 else if r < 65536 then 3 else 4) else 3
/-- a scalar's bytes -/
def putN (r : Int) : List Int :=
  if fixR r < 128 then [fixR r] else if fixR r < 2048 then [192 + fixR r / 64, 128 + fixR r % 64] else if fixR r < 65536 then [224 + fixR r / 4096, 128 + fixR r / 64 % 64, 128 + fixR r % 64]
  else [240 + fixR r / 262144, 128 + fixR r / 4096 % 64, 128 + fixR r / 64 % 64, 128 + fixR r % 64]
theorem validB_iff {r : Int} : validB r = true ↔ (0 ≤ r ∧ r < 55296) ∨ (57343 < r ∧ r ≤ 1114111) := by simp [validB]
theorem fixR_rng (r : Int) : 0 ≤ fixR r ∧ fixR r ≤ 1114111 := by
  unfold fixR
  split
  · rename_i h; have := validB_iff.1 h; omega
  · omega
theorem fixR_ok {r : Int} (h : validB r = true) : fixR r = r := by unfold fixR; rw [if_pos h]
theorem fixR_bad {r : Int} (h : validB r = false) : fixR r = 65533 := by unfold fixR; rw [if_neg (by rw [h]; decide)]
theorem sizeN_fix (r : Int) : sizeN r = if fixR r < 128 then 1 else if fixR r < 2048 then 2 else if fixR r < 65536 then 3 else 4 := by
  unfold sizeN fixR
  by_cases h : validB r = true
  · rw [if_pos h, if_pos h]
  · rw [if_neg h, if_neg h]; rfl
theorem putN_len (r : Int) : (putN r).length = sizeN r := by
  rw [sizeN_fix]
  unfold putN
  split
  · rfl
  · split
    · rfl
    · split <;> rfl
theorem putN_rng (r : Int) : ∀ x ∈ putN r, 0 ≤ x ∧ x ≤ 255 := by
  obtain ⟨h0, h1⟩ := fixR_rng r
  intro x hx
  unfold putN at hx
  generalize fixR r = n at h0 h1 hx
  split at hx
  · simp at hx; omega
  · split at hx
    · simp at hx; omega
    · split at hx
      · simp at hx; omega
      · simp at hx; omega
theorem sizeN_rng (r : Int) : 1 ≤ sizeN r ∧ sizeN r ≤ 4 := by
  rw [sizeN_fix]
  split
  · omega
  · split
    · omega
    · split <;> omega
def encN (l : List Int) : List Int := l.flatMap putN
theorem encN_rng (l : List Int) : ∀ x ∈ encN l, 0 ≤ x ∧ x ≤ 255 := by
  intro x hx
  obtain ⟨r, _, h⟩ := List.mem_flatMap.1 hx
  exact putN_rng r x h
theorem encN_len (l : List Int) : (encN l).length ≤ 4 * l.length := by
  induction l with
  | nil => simp [encN]
  | cons r l ih =>
    have : encN (r :: l) = putN r ++ encN l := rfl
    rw [this, List.length_append, putN_len, List.length_cons]
    have := (sizeN_rng r).2
    omega
theorem encN_pos {l : List Int} (h : l ≠ []) : 1 ≤ (encN l).length := by
  cases l with
  | nil => exact absurd rfl h
  | cons r l =>
    have : encN (r :: l) = putN r ++ encN l := rfl
    rw [this, List.length_append, putN_len]
    have := (sizeN_rng r).1
    omega
def put (r : Int) : ByteArray := strOfNums (putN r)
def enc (l : List Int) : ByteArray := strOfNums (encN l)
theorem put_size (r : Int) : (put r).size = sizeN r := by unfold put; rw [strOfNums_size, putN_len]
theorem enc_size (l : List Int) : (enc l).size = (encN l).length := strOfNums_size _
theorem nums_append (a b : List Int) : strOfNums (a ++ b) = strOfNums a ++ strOfNums b := by
  apply ByteArray.ext
  rw [ByteArray.data_append]
  apply Array.ext'
  rw [Array.toList_append, strOfNums_data, strOfNums_data, strOfNums_data, List.map_append]

section
variable (R : List Rw)
def wideB (r : Int) : Bool := decide (ofA R 7 r = 1)
def hitB (c0 : Int) (i : Nat) (r : Int) : Bool := wideB R r || ((decide (r = 65039) && decide (0 < i)) && (tabOf R).p c0) || ((decide (i = 1) && decide ((tabOf R).b r = 6)) && decide ((tabOf R).b c0 = 6))
def hitsF (c0 : Int) : Nat → List Int → Bool
  | _, [] => false
  | i, r :: l => hitB R c0 i r || hitsF c0 (i + 1) l
/-- how many columns a cluster takes -/
def widN (c : List Int) : Nat := if hitsF R (c.headD 0) 0 c then 2 else 1
def hit1 (c0 : Int) (i : Nat) (r : Int) : Bool := wideB R r || ((decide (r = 65039) && decide (0 < i)) && (tabOf R).p c0)
def hits1 (c0 : Int) : Nat → List Int → Bool
  | _, [] => false
  | i, r :: l => hit1 R c0 i r || hits1 c0 (i + 1) l
def flags2 : List Int → Bool
  | a :: b :: _ => decide ((tabOf R).b a = 6) && decide ((tabOf R).b b = 6)
  | _ => false
theorem hitsF_far (c0 : Int) : ∀ (l : List Int) (i : Nat), 2 ≤ i → hitsF R c0 i l = hits1 R c0 i l
  | [], _, _ => rfl
  | r :: l, i, h => by
    show (hitB R c0 i r || hitsF R c0 (i + 1) l) = (hit1 R c0 i r || hits1 R c0 (i + 1) l)
    rw [hitsF_far c0 l (i + 1) (by omega)]
    have : decide (i = 1) = false := decide_eq_false (by omega)
    unfold hitB hit1
    rw [this, Bool.false_and, Bool.false_and, Bool.or_false]
theorem widN_ref (c : List Int) : widN R c = if hits1 R (c.headD 0) 0 c || flags2 R c then 2 else 1 := by
  unfold widN
  have key : hitsF R (c.headD 0) 0 c = (hits1 R (c.headD 0) 0 c || flags2 R c) := by
    match c with
    | [] => rfl
    | [a] => simp [hitsF, hits1, hitB, hit1, flags2]
    | a :: b :: l =>
      show (hitB R a 0 a || (hitB R a 1 b || hitsF R a 2 l)) = ((hit1 R a 0 a || (hit1 R a 1 b || hits1 R a 2 l)) || (decide ((tabOf R).b a = 6) && decide ((tabOf R).b b = 6)))
      rw [hitsF_far R a l 2 (Nat.le_refl _)]
      have h0 : hitB R a 0 a = hit1 R a 0 a := by simp [hitB, hit1]
      have h1 : hitB R a 1 b = (hit1 R a 1 b || (decide ((tabOf R).b b = 6) && decide ((tabOf R).b a = 6))) := by simp [hitB, hit1]
      rw [h0, h1]
      cases hit1 R a 0 a <;> cases hit1 R a 1 b <;> cases hits1 R a 2 l <;> cases decide ((tabOf R).b a = 6) <;> cases decide ((tabOf R).b b = 6) <;> rfl
  rw [key]
theorem widN_rng (c : List Int) : widN R c = 1 ∨ widN R c = 2 := by
  unfold widN
  split
  · exact .inr rfl
  · exact .inl rfl
/-- step by step: the program's loop -/
theorem hitsF_step {c0 : Int} {c : List Int} {i : Nat} {r : Int} (h : c[i]? = some r) : hitsF R c0 i (c.drop i) = (hitB R c0 i r || hitsF R c0 (i + 1) (c.drop (i + 1))) := by
  rw [drop_of_get h]; rfl
theorem hits1_step {c0 : Int} {c : List Int} {i : Nat} {r : Int} (h : c[i]? = some r) : hits1 R c0 i (c.drop i) = (hit1 R c0 i r || hits1 R c0 (i + 1) (c.drop (i + 1))) := by
  rw [drop_of_get h]; rfl

/-- a glyph: its text, its columns -/
abbrev Gy := ByteArray × Int
def gyE (g : Gy) : List Value := [.string g.1, .int .i64 g.2]
theorem gyE_len (g : Gy) : (gyE g).length = 2 := rfl
theorem gyE_one (g : Gy) : ∀ u ∈ gyE g, u.oneCell' = true := by intro u hu; simp [gyE] at hu; rcases hu with rfl | rfl <;> rfl
theorem gyE_ones (l : List Gy) : ∀ u ∈ l.flatMap gyE, u.oneCell' = true := by
  intro u hu
  obtain ⟨x, _, hx⟩ := List.mem_flatMap.1 hu
  exact gyE_one x u hx
/-- how a scalar that controls is shown -/
def caretG (r : Int) : List Gy := if 0 ≤ r ∧ r < 32 then [(⟨#[94]⟩, 1), (strOfNums [r + 64], 1)] else if r = 127 then [(⟨#[94]⟩, 1), (⟨#[63]⟩, 1)] else [(put 65533, 1)]
def ctlB (b : Int) : Bool := decide (b = 1) || decide (b = 2) || decide (b = 3)
def dotB (b : Int) : Bool := decide (b = 4) || decide (b = 5) || decide (b = 8)
/-- a cluster with what it leans on -/
def lean (c : List Int) : List Int := (if dotB ((tabOf R).b (c.headD 0)) then [9676] else []) ++ c ++ (if (tabOf R).b (c.getLastD 0) = 7 then [9676] else [])
/-- how a cluster is shown -/
def glOf (c : List Int) : List Gy := if c = [] then [] else if ctlB ((tabOf R).b (c.headD 0)) then c.flatMap caretG else [(enc (lean R c), (widN R (lean R c) : Int))]
theorem caretG_len (r : Int) : 1 ≤ (caretG r).length ∧ (caretG r).length ≤ 2 := by
  unfold caretG
  split
  · exact ⟨by simp, by simp⟩
  · split <;> exact ⟨by simp, by simp⟩
theorem carets_len (c : List Int) : c.length ≤ (c.flatMap caretG).length ∧ (c.flatMap caretG).length ≤ 2 * c.length := by
  induction c with
  | nil => exact ⟨Nat.le_refl _, Nat.le_refl _⟩
  | cons r c ih =>
    rw [List.flatMap_cons, List.length_append, List.length_cons]
    have := caretG_len r
    omega
theorem glOf_len {c : List Int} (h : c ≠ []) : 1 ≤ (glOf R c).length ∧ (glOf R c).length ≤ 2 * c.length := by
  have hl : 1 ≤ c.length := List.length_pos_iff.2 h
  unfold glOf
  rw [if_neg h]
  split
  · have := carets_len c; omega
  · exact ⟨Nat.le_refl _, by simp; omega⟩
theorem glOf_le (c : List Int) : (glOf R c).length ≤ 2 * c.length := by
  by_cases h : c = []
  · subst h; exact Nat.le_refl _
  · exact (glOf_len R h).2
theorem lean_ne {c : List Int} (h : c ≠ []) : lean R c ≠ [] := by
  unfold lean
  simp [h]
theorem lean_len (c : List Int) : (lean R c).length ≤ c.length + 2 := by
  unfold lean
  rw [List.length_append, List.length_append]
  split <;> split <;> simp <;> omega
/-- of any glyph that is shown: one column or two, and a text -/
theorem glOf_ok {c : List Int} : ∀ g ∈ glOf R c, (g.2 = 1 ∨ g.2 = 2) ∧ 1 ≤ g.1.size := by
  intro g hg
  unfold glOf at hg
  split at hg
  · simp at hg
  · rename_i h
    split at hg
    · obtain ⟨r, _, h2⟩ := List.mem_flatMap.1 hg
      unfold caretG at h2
      split at h2
      · simp at h2
        rcases h2 with rfl | rfl
        · exact ⟨.inl rfl, by decide⟩
        · exact ⟨.inl rfl, by rw [strOfNums_size]; exact Nat.le_refl _⟩
      · split at h2
        · simp at h2
          rcases h2 with rfl | rfl <;> exact ⟨.inl rfl, by decide⟩
        · simp at h2
          subst h2
          exact ⟨.inl rfl, by show 1 ≤ (put 65533).size; rw [put_size]; exact (sizeN_rng _).1⟩
    · simp at hg
      subst hg
      refine ⟨?_, by show 1 ≤ (enc (lean R c)).size; rw [enc_size]; exact encN_pos (lean_ne R h)⟩
      rcases widN_rng R (lean R c) with h1 | h1
      · exact .inl (by show ((widN R (lean R c) : Nat) : Int) = 1; rw [h1]; rfl)
      · exact .inr (by show ((widN R (lean R c) : Nat) : Int) = 2; rw [h1]; rfl)
/-- the glyphs of clusters, one behind the other, and how many stand ahead of each -/
def lineG (LL : List (List Int)) : List Gy := LL.flatMap (glOf R)
def aheadG (LL : List (List Int)) (k : Nat) : Nat := (lineG R (LL.take k)).length
theorem lineG_snoc (LL : List (List Int)) (c : List Int) : lineG R (LL ++ [c]) = lineG R LL ++ glOf R c := by
  unfold lineG; rw [List.flatMap_append]; simp
theorem aheadG_end (LL : List (List Int)) : aheadG R LL LL.length = (lineG R LL).length := by unfold aheadG; rw [List.take_length]
theorem lineG_ok {LL : List (List Int)} : ∀ g ∈ lineG R LL, (g.2 = 1 ∨ g.2 = 2) ∧ 1 ≤ g.1.size := by
  intro g hg
  obtain ⟨c, _, hc⟩ := List.mem_flatMap.1 hg
  exact glOf_ok R g hc
end
end Go.Proofs.YtkeainhjghdfcaaGreat

/- Texts of glyphs, one behind the other. No program is named here. -/
namespace Go.Proofs.YtkeainhjghdfcaaGreat
open Go.RowKit

/-- texts one behind the other -/
def catG (b0 : ByteArray) (G : List Gy) : ByteArray := G.foldl (fun b g => b ++ g.1) b0
theorem catG_snoc (b0 : ByteArray) (G : List Gy) (g : Gy) : catG b0 (G ++ [g]) = catG b0 G ++ g.1 := by unfold catG; rw [List.foldl_append]; rfl
end Go.Proofs.YtkeainhjghdfcaaGreat

/- utf.Valid, Size; the document's Valid. -/
namespace Go.Proofs.YtkeainhjghdfcaaGreat
open Go.RowKit

set_option maxRecDepth 100000 in
set_option maxHeartbeats 2000000 in
theorem valid_any (r : Int) (w : World) : Calls Tryz.prog 197 #[.int .i32 r] w fun e w' => e = .returned (.bool (validB r)) ∧ w = w' := by
  by_cases h0 : r ≥ 0
  · by_cases h1 : r ≤ 1114111
    · by_cases h2 : r < 55296
      · rw [show validB r = true from validB_iff.2 (by omega)]
        go_enter Tryz.func197, Tryz.ntmps197
        go_wp2_with fail
        go_ret
        exact ⟨rfl, rfl⟩
      · have q2 : decide (r < 55296) = false := decide_eq_false h2
        by_cases h3 : r > 57343
        · rw [show validB r = true from validB_iff.2 (by omega)]
          clear h2
          go_enter Tryz.func197, Tryz.ntmps197
          go_wp2_with fail
          go_ret
          exact ⟨rfl, rfl⟩
        · have q3 : decide (r > 57343) = false := decide_eq_false h3
          rw [show validB r = false from by rw [Bool.eq_false_iff]; intro e; have := validB_iff.1 e; omega]
          clear h2 h3
          go_enter Tryz.func197, Tryz.ntmps197
          go_wp2_with fail
          go_ret
          exact ⟨rfl, rfl⟩
    · have q1 : decide (r ≤ 1114111) = false := decide_eq_false h1
      rw [show validB r = false from by rw [Bool.eq_false_iff]; intro e; have := validB_iff.1 e; omega]
      clear h1
      go_enter Tryz.func197, Tryz.ntmps197
      go_wp2_with fail
      go_ret
      exact ⟨rfl, rfl⟩
  · have q0 : decide (r ≥ 0) = false := decide_eq_false h0
    have q4 : decide (0 ≤ r) = false := decide_eq_false h0
    rw [show validB r = false from by rw [Bool.eq_false_iff]; intro e; have := validB_iff.1 e; omega]
    clear h0
    go_enter Tryz.func197, Tryz.ntmps197
    go_wp2_with fail
    go_ret
    exact ⟨rfl, rfl⟩
set_option maxRecDepth 100000 in
set_option maxHeartbeats 2000000 in
theorem rvalid_any (r : Int) (w : World) : Calls Tryz.prog 171 #[.int .i32 r] w fun e w' => e = .returned (.bool (validB r)) ∧ w = w' := by
  by_cases h0 : r ≥ 0
  · by_cases h2 : r < 55296
    · rw [show validB r = true from validB_iff.2 (by omega)]
      go_enter Tryz.func171, Tryz.ntmps171
      go_wp2_with fail
      go_ret
      exact ⟨rfl, rfl⟩
    · have q2 : decide (r < 55296) = false := decide_eq_false h2
      clear h2
      by_cases h3 : r > 57343
      · by_cases h1 : r ≤ 1114111
        · rw [show validB r = true from validB_iff.2 (by omega)]
          go_enter Tryz.func171, Tryz.ntmps171
          go_wp2_with fail
          go_ret
          exact ⟨rfl, rfl⟩
        · have q1 : decide (r ≤ 1114111) = false := decide_eq_false h1
          rw [show validB r = false from by rw [Bool.eq_false_iff]; intro e; have := validB_iff.1 e; omega]
          clear h1
          go_enter Tryz.func171, Tryz.ntmps171
          go_wp2_with fail
          go_ret
          exact ⟨rfl, rfl⟩
      · have q3 : decide (r > 57343) = false := decide_eq_false h3
        have q5 : decide (57343 < r) = false := decide_eq_false h3
        have q2' := of_decide_eq_false q2
        rw [show validB r = false from by rw [Bool.eq_false_iff]; intro e; have := validB_iff.1 e; omega]
        clear h3 q2'
        go_enter Tryz.func171, Tryz.ntmps171
        go_wp2_with fail
        go_ret
        exact ⟨rfl, rfl⟩
  · have q0 : decide (r ≥ 0) = false := decide_eq_false h0
    have q4 : decide (0 ≤ r) = false := decide_eq_false h0
    have q3 : decide (r > 57343) = false := decide_eq_false (by omega)
    have q5 : decide (57343 < r) = false := decide_eq_false (by omega)
    rw [show validB r = false from by rw [Bool.eq_false_iff]; intro e; have := validB_iff.1 e; omega]
    clear h0
    go_enter Tryz.func171, Tryz.ntmps171
    go_wp2_with fail
    go_ret
    exact ⟨rfl, rfl⟩
theorem size_of {r : Int} {n : Int} (h : ((sizeN r : Nat) : Int) = n) {w w' : World} (hw : w = w') : Ending.returned (.int .i64 n) = .returned (.int .i64 ((sizeN r : Nat) : Int)) ∧ w = w' := ⟨by rw [h], hw⟩
set_option maxRecDepth 100000 in
set_option maxHeartbeats 2000000 in
theorem usize_any (r : Int) (w : World) : Calls Tryz.prog 198 #[.int .i32 r] w fun e w' => e = .returned (.int .i64 ((sizeN r : Nat) : Int)) ∧ w = w' := by
  have HV := Lib.hid (valid_any r w)
  by_cases hv : validB r = true
  · have hr := validB_iff.1 hv
    rw [hv] at HV
    have HS := Lib.hid (show sizeN r = (if r < 128 then 1 else if r < 2048 then 2 else if r < 65536 then 3 else 4) by unfold sizeN; rw [if_pos hv])
    clear hv
    by_cases h1 : r < 128
    · go_enter Tryz.func198, Tryz.ntmps198
      go_wp2_with fail
      refine HV.out.mono ?_
      rintro e w' ⟨rfl, rfl⟩
      go_wp2_with fail
      go_ret
      exact size_of (by rw [HS.out, if_pos h1]; rfl) rfl
    · have q1 : decide (r < 128) = false := decide_eq_false h1
      by_cases h2 : r < 2048
      · have HS2 := Lib.hid (show ((sizeN r : Nat) : Int) = 2 by rw [HS.out, if_neg h1, if_pos h2]; rfl)
        clear h1
        go_enter Tryz.func198, Tryz.ntmps198
        go_wp2_with fail
        refine HV.out.mono ?_
        rintro e w' ⟨rfl, rfl⟩
        go_wp2_with fail
        go_ret
        exact size_of HS2.out rfl
      · have q2 : decide (r < 2048) = false := decide_eq_false h2
        by_cases h3 : r < 65536
        · have HS2 := Lib.hid (show ((sizeN r : Nat) : Int) = 3 by rw [HS.out, if_neg h1, if_neg h2, if_pos h3]; rfl)
          clear h1 h2
          go_enter Tryz.func198, Tryz.ntmps198
          go_wp2_with fail
          refine HV.out.mono ?_
          rintro e w' ⟨rfl, rfl⟩
          go_wp2_with fail
          go_ret
          exact size_of HS2.out rfl
        · have q3 : decide (r < 65536) = false := decide_eq_false h3
          have HS2 := Lib.hid (show ((sizeN r : Nat) : Int) = 4 by rw [HS.out, if_neg h1, if_neg h2, if_neg h3]; rfl)
          clear h1 h2 h3
          go_enter Tryz.func198, Tryz.ntmps198
          go_wp2_with fail
          refine HV.out.mono ?_
          rintro e w' ⟨rfl, rfl⟩
          go_wp2_with fail
          go_ret
          exact size_of HS2.out rfl
  · have hv' : validB r = false := Bool.eq_false_iff.2 hv
    have HS2 := Lib.hid (show ((sizeN r : Nat) : Int) = 3 by unfold sizeN; rw [if_neg hv]; rfl)
    rw [hv'] at HV
    clear hv hv'
    go_enter Tryz.func198, Tryz.ntmps198
    go_wp2_with fail
    refine HV.out.mono ?_
    rintro e w' ⟨rfl, rfl⟩
    go_wp2_with fail
    go_ret
    exact size_of HS2.out rfl
end Go.Proofs.YtkeainhjghdfcaaGreat

/- The document's Put; bytes turned to a string. -/
namespace Go.Proofs.YtkeainhjghdfcaaGreat
open Go.RowKit

theorem conv_new (w : World) (xs : List Int) (cs : Array Value) (hc : cs.toList = xs.map (Value.int .u8)) (n : Nat) (hn : xs.length = n) :
    (convert 233 9 (.slice (some ⟨w.heap.size, 0, none⟩) n n)).run Tryz.prog (w.alloc (.cells cs 5)) = .ok (.string (strOfNums xs)) (w.alloc (.cells cs 5)) := by
  refine run_convert_bytes_arg (P := Tryz.prog) (w.alloc (.cells cs 5)) 233 5 Tryz.underlying233 Tryz.underlying5 w.heap.size 0 n n xs hn (fun i hi => ?_) 9 Tryz.underlying9
  rw [Nat.zero_add, cell_of_row _ w.heap.size i cs 5 (0, 0) (heap_alloc_new w _), ← Array.getElem?_toList, hc]
  have hl : i < xs.length := by omega
  simp [List.getElem?_eq_getElem hl]
theorem put_of {r : Int} {xs : List Int} (h : putN r = xs) {w w' : World} (hB : Below w.heap.size w w') : Ending.returned (.string (strOfNums xs)) = .returned (.string (put r)) ∧ Below w.heap.size w w' := by
  unfold put
  rw [h]
  exact ⟨rfl, hB⟩
theorem below1' (w : World) (o : Obj) : Below w.heap.size w (w.alloc o) := (Below.refl _ w).alloc (Nat.le_refl _) o
theorem quo_in (x y : Int) (h : 0 ≤ x) : x.tdiv y = x / y := Int.tdiv_eq_ediv_of_nonneg h
set_option maxRecDepth 100000 in
set_option maxHeartbeats 4000000 in
theorem rput_any (r : Int) (w : World) : Calls Tryz.prog 126 #[.int .i32 r] w fun e w' => e = .returned (.string (put r)) ∧ Below w.heap.size w w' := by
  have HV := Lib.hid (rvalid_any r w)
  have hf := fixR_rng r
  obtain ⟨n, hn⟩ : ∃ n, n = fixR r := ⟨_, rfl⟩
  have HP := Lib.hid (show putN r = if n < 128 then [n] else if n < 2048 then [192 + n / 64, 128 + n % 64] else if n < 65536 then [224 + n / 4096, 128 + n / 64 % 64, 128 + n % 64] else [240 + n / 262144, 128 + n / 4096 % 64, 128 + n / 64 % 64, 128 + n % 64] by unfold putN; rw [hn])
  rw [← hn] at hf
  have hw : IntKind.i64.wrap r = r ∨ validB r = false := by
    by_cases h : validB r = true
    · have := validB_iff.1 h
      exact .inl (IntWalk.i64_in r (by omega))
    · exact .inr (Bool.eq_false_iff.2 h)
  have hn2 : (validB r = true ∧ IntKind.i64.wrap r = n) ∨ (validB r = false ∧ 65533 = n) := by
    by_cases h : validB r = true
    · exact .inl ⟨h, by rw [hn, fixR_ok h]; rcases hw with h1 | h1; exact h1; rw [h] at h1; cases h1⟩
    · have h' := Bool.eq_false_iff.2 h
      exact .inr ⟨h', by rw [hn, fixR_bad h']⟩
  clear hn hw
  have HF := Lib.hid hf
  rcases hn2 with ⟨h1, h2⟩ | ⟨h1, h2⟩
  case' inl =>
    rw [h1] at HV
    clear h1
    go_enter Tryz.func126, Tryz.ntmps126
    go_wp2_with fail
    refine HV.out.mono ?_
    rintro e w' ⟨rfl, rfl⟩
    go_upto_region 4 with fail
  case' inr =>
    rw [h1] at HV
    clear h1
    go_enter Tryz.func126, Tryz.ntmps126
    go_wp2_with fail
    refine HV.out.mono ?_
    rintro e w' ⟨rfl, rfl⟩
    go_upto_region 4 with fail
  case' inr => rw [h2]
  all_goals
    obtain ⟨f0, f1⟩ := HF.out
    clear h2 hf
    by_cases c1 : n < 128
    · have u1 := IntWalk.u8_in n (by omega)
      have cv := conv_new w [n] #[.int .u8 n] rfl 1 rfl
      have HE := Lib.hid (show putN r = [n] by rw [HP.out, if_pos c1])
      clear f0 f1
      go_wp2_with fail
      go_ret
      exact put_of HE.out (below1' _ _)
    · have q1 : decide (n < 128) = false := decide_eq_false c1
      have hd1 := quo_in n 64 f0
      have hm1 := IntWalk.rem_in n 64 f0
      have hi1 := IntWalk.i64_in (n / 64) (by omega)
      have hi2 := IntWalk.i64_in (192 + n / 64) (by omega)
      have hi3 := IntWalk.i64_in (128 + n % 64) (by omega)
      have hi4 := IntWalk.i64_in (n % 64) (by omega)
      by_cases c2 : n < 2048
      · have u1 := IntWalk.u8_in (192 + n / 64) (by omega)
        have u2 := IntWalk.u8_in (128 + n % 64) (by omega)
        have cv := conv_new w [192 + n / 64, 128 + n % 64] #[.int .u8 (192 + n / 64), .int .u8 (128 + n % 64)] rfl 2 rfl
        have HE := Lib.hid (show putN r = [192 + n / 64, 128 + n % 64] by rw [HP.out, if_neg c1, if_pos c2])
        clear f0 f1 c1
        go_wp2_with fail
        go_ret
        exact put_of HE.out (below1' _ _)
      · have q2 : decide (n < 2048) = false := decide_eq_false c2
        have hd2 := quo_in n 4096 f0
        have hm2 := IntWalk.rem_in (n / 64) 64 (by omega)
        have hj1 := IntWalk.i64_in (n / 4096) (by omega)
        have hj2 := IntWalk.i64_in (224 + n / 4096) (by omega)
        have hj3 := IntWalk.i64_in (n / 64 % 64) (by omega)
        have hj4 := IntWalk.i64_in (128 + n / 64 % 64) (by omega)
        have u1 := IntWalk.u8_in (128 + n % 64) (by omega)
        have u2 := IntWalk.u8_in (128 + n / 64 % 64) (by omega)
        by_cases c3 : n < 65536
        · have u3 := IntWalk.u8_in (224 + n / 4096) (by omega)
          have cv := conv_new w [224 + n / 4096, 128 + n / 64 % 64, 128 + n % 64] #[.int .u8 (224 + n / 4096), .int .u8 (128 + n / 64 % 64), .int .u8 (128 + n % 64)] rfl 3 rfl
          have HE := Lib.hid (show putN r = [224 + n / 4096, 128 + n / 64 % 64, 128 + n % 64] by rw [HP.out, if_neg c1, if_neg c2, if_pos c3])
          clear f0 f1 c1 c2
          go_wp2_with fail
          go_ret
          exact put_of HE.out (below1' _ _)
        · have q3 : decide (n < 65536) = false := decide_eq_false c3
          have hd3 := quo_in n 262144 f0
          have hm3 := IntWalk.rem_in (n / 4096) 64 (by omega)
          have hk1 := IntWalk.i64_in (n / 262144) (by omega)
          have hk2 := IntWalk.i64_in (240 + n / 262144) (by omega)
          have hk3 := IntWalk.i64_in (n / 4096 % 64) (by omega)
          have hk4 := IntWalk.i64_in (128 + n / 4096 % 64) (by omega)
          have u3 := IntWalk.u8_in (128 + n / 4096 % 64) (by omega)
          have u4 := IntWalk.u8_in (240 + n / 262144) (by omega)
          have cv := conv_new w [240 + n / 262144, 128 + n / 4096 % 64, 128 + n / 64 % 64, 128 + n % 64] #[.int .u8 (240 + n / 262144), .int .u8 (128 + n / 4096 % 64), .int .u8 (128 + n / 64 % 64), .int .u8 (128 + n % 64)] rfl 4 rfl
          have HE := Lib.hid (show putN r = [240 + n / 262144, 128 + n / 4096 % 64, 128 + n / 64 % 64, 128 + n % 64] by rw [HP.out, if_neg c1, if_neg c2, if_neg c3])
          clear f0 f1 c1 c2 c3
          go_wp2_with fail
          go_ret
          exact put_of HE.out (below1' _ _)
end Go.Proofs.YtkeainhjghdfcaaGreat

/- utf.Put. -/
namespace Go.Proofs.YtkeainhjghdfcaaGreat
open Go.RowKit

theorem make_u8 (w : World) (n : Nat) (hn : n ≤ 8) (cs : Array Value) (hc : madeCells #[.int .u8 0] n = cs) : (Instr.makeSlice 233 (.int .i64 (n : Int)) (.int .i64 (n : Int))).run Tryz.prog w = .ok (.slice (some ⟨w.heap.size, 0, none⟩) n n) (w.alloc (.cells cs 5)) := by
  obtain ⟨i, hi, hz, hs, hb⟩ := info_parts (show (Tryz.prog.info? 5).map (fun i => (i.zero, i.size, i.bytes)) = some (some (.int .u8 0), 1, 1) by kernel_rfl)
  have := run_make (P := Tryz.prog) w 233 5 i (.int .u8 0) Tryz.underlying233 hi hz .i64 .i64 (n : Int) (n : Int) (by omega) (by omega) (by rw [hb]; omega) (by omega)
  rw [hs, Nat.mul_one, Int.toNat_natCast] at this
  rw [this]
  show _ = Result.ok _ (w.alloc (.cells cs 5))
  rw [← hc]
  rfl
theorem and63 (n : Int) (_ : 0 ≤ n) (_ : n ≤ 2147483647) : bits .and .i32 n 63 = n % 64 := by
  have key : (BitVec.ofInt 32 n &&& BitVec.ofInt 32 63).toNat = (n % ((2 ^ 32 : Nat) : Int)).toNat % 64 := by
    rw [BitVec.toNat_and, BitVec.toNat_ofInt, show (BitVec.ofInt 32 63).toNat = 2 ^ 6 - 1 by decide, Nat.and_two_pow_sub_one_eq_mod]
  show IntKind.i32.wrap ((BitVec.ofInt 32 n &&& BitVec.ofInt 32 63).toNat : Nat) = _
  rw [key, IntKind.wrap_i32]
  omega
theorem or128 (n : Int) : bits .or .i32 128 (n % 64) = 128 + n % 64 := by
  have key : ∀ x : Fin 64, bits .or .i32 128 ((x.val : Nat) : Int) = 128 + ((x.val : Nat) : Int) := by decide
  have := key ⟨(n % 64).toNat, by omega⟩
  rwa [show (((n % 64).toNat : Nat) : Int) = n % 64 by omega] at this
theorem or192 (n : Int) (h0 : 0 ≤ n) (h1 : n < 32) : bits .or .u8 192 n = 192 + n := by
  have key : ∀ x : Fin 32, bits .or .u8 192 ((x.val : Nat) : Int) = 192 + ((x.val : Nat) : Int) := by decide
  have := key ⟨n.toNat, by omega⟩
  rwa [show ((n.toNat : Nat) : Int) = n by omega] at this
theorem or224 (n : Int) (h0 : 0 ≤ n) (h1 : n < 16) : bits .or .u8 224 n = 224 + n := by
  have key : ∀ x : Fin 16, bits .or .u8 224 ((x.val : Nat) : Int) = 224 + ((x.val : Nat) : Int) := by decide
  have := key ⟨n.toNat, by omega⟩
  rwa [show ((n.toNat : Nat) : Int) = n by omega] at this
theorem or240 (n : Int) (h0 : 0 ≤ n) (h1 : n < 8) : bits .or .u8 240 n = 240 + n := by
  have key : ∀ x : Fin 8, bits .or .u8 240 ((x.val : Nat) : Int) = 240 + ((x.val : Nat) : Int) := by decide
  have := key ⟨n.toNat, by omega⟩
  rwa [show ((n.toNat : Nat) : Int) = n by omega] at this
theorem conv_row (W : World) (b : Nat) (xs : List Int) (cs : Array Value) (h : W.heap[b]? = some (.cells cs 5 (0, 0))) (hc : cs.toList = xs.map (Value.int .u8)) (n : Nat) (hn : xs.length = n) :
    (convert 233 9 (.slice (some ⟨b, 0, none⟩) n n)).run Tryz.prog W = .ok (.string (strOfNums xs)) W := by
  refine run_convert_bytes_arg (P := Tryz.prog) W 233 5 Tryz.underlying233 Tryz.underlying5 b 0 n n xs hn (fun i hi => ?_) 9 Tryz.underlying9
  rw [Nat.zero_add, cell_of_row _ b i cs 5 (0, 0) h, ← Array.getElem?_toList, hc]
  have hl : i < xs.length := by omega
  simp [List.getElem?_eq_getElem hl]
theorem row_cells' {w : World} {b : Nat} {cs : Array Value} {t : TypeId} (h : w.heap[b]? = some (.cells cs t (0, 0))) {i : Nat} {v : Value} (hi : cs[i]? = some v) : w.cell? ⟨b, i, none⟩ = some v := by
  rw [cell_of_row _ b i cs t (0, 0) h]; exact hi
theorem row_warm' {w : World} {b : Nat} {cs : Array Value} {t : TypeId} (h : w.heap[b]? = some (.cells cs t (0, 0))) (i : Nat) : w.frozen? ⟨b, i, none⟩ = false := by
  unfold World.frozen?; rw [show w.heap[(⟨b, i, none⟩ : Addr).block]? = _ from h]; simp
def shN (n : Int) : Nat → Int
  | 0 => n
  | 1 => n / 64
  | 2 => n / 4096
  | _ => n / 262144
def putCs (n : Int) : Nat → Nat → Array Value
  | 2, 0 => #[.int .u8 0, .int .u8 0]
  | 2, _ => #[.int .u8 0, .int .u8 (128 + n % 64)]
  | 3, 0 => #[.int .u8 0, .int .u8 0, .int .u8 0]
  | 3, 1 => #[.int .u8 0, .int .u8 0, .int .u8 (128 + n % 64)]
  | 3, _ => #[.int .u8 0, .int .u8 (128 + n / 64 % 64), .int .u8 (128 + n % 64)]
  | _, 0 => #[.int .u8 0, .int .u8 0, .int .u8 0, .int .u8 0]
  | _, 1 => #[.int .u8 0, .int .u8 0, .int .u8 0, .int .u8 (128 + n % 64)]
  | _, 2 => #[.int .u8 0, .int .u8 0, .int .u8 (128 + n / 64 % 64), .int .u8 (128 + n % 64)]
  | _, _ => #[.int .u8 0, .int .u8 (128 + n / 4096 % 64), .int .u8 (128 + n / 64 % 64), .int .u8 (128 + n % 64)]
set_option maxRecDepth 100000 in
set_option maxHeartbeats 1000000 in
theorem put_any (r : Int) (w : World) : Calls Tryz.prog 182 #[.int .i32 r] w fun e w' => e = .returned (.string (put r)) ∧ Below w.heap.size w w' := by
  have HV := Lib.hid (valid_any r w)
  obtain ⟨n, hn⟩ : ∃ n, n = fixR r := ⟨_, rfl⟩
  have hf := fixR_rng r
  have HP := Lib.hid (show putN r = if n < 128 then [n] else if n < 2048 then [192 + n / 64, 128 + n % 64] else if n < 65536 then [224 + n / 4096, 128 + n / 64 % 64, 128 + n % 64] else [240 + n / 262144, 128 + n / 4096 % 64, 128 + n / 64 % 64, 128 + n % 64] by unfold putN; rw [hn])
  have hsz : sizeN n = if n < 128 then 1 else if n < 2048 then 2 else if n < 65536 then 3 else 4 := by
    rw [sizeN_fix]
    have : fixR n = n := by
      rw [hn]
      by_cases h : validB r = true
      · rw [fixR_ok h, fixR_ok h]
      · rw [fixR_bad (Bool.eq_false_iff.2 h)]; exact fixR_ok (validB_iff.2 (by omega))
    rw [this]
  have HS := Lib.hid (usize_any n w)
  rw [← hn] at hf
  have hn2 : (validB r = true ∧ n = r) ∨ (validB r = false ∧ n = 65533) := by
    by_cases h : validB r = true
    · exact .inl ⟨h, by rw [hn, fixR_ok h]⟩
    · have h' := Bool.eq_false_iff.2 h
      exact .inr ⟨h', by rw [hn, fixR_bad h']⟩
  have HF := Lib.hid hf
  have HZ := Lib.hid hsz
  clear hn hf hsz
  rcases hn2 with ⟨h1, h2⟩ | ⟨h1, h2⟩
  case' inl =>
    rw [h1] at HV
    subst h2
    clear h1
    go_enter Tryz.func182, Tryz.ntmps182
    go_wp2_with fail
    refine HV.out.mono ?_
    rintro e w' ⟨rfl, rfl⟩
    go_upto_region 3 with fail
  case' inr =>
    rw [h1] at HV
    clear h1
    go_enter Tryz.func182, Tryz.ntmps182
    go_wp2_with fail
    refine HV.out.mono ?_
    rintro e w' ⟨rfl, rfl⟩
    go_upto_region 3 with fail
    rw [← h2]
    clear h2
  all_goals
    clear HV
    go_wp2_with fail
    refine HS.out.mono ?_
    rintro e w' ⟨rfl, rfl⟩
    obtain ⟨f0, f1⟩ := HF.out
    have hz := HZ.out
    by_cases c1 : n < 128
    · rw [if_pos c1] at hz
      rw [hz]
      have u1 := IntWalk.u8_in n (by omega)
      have cv := conv_new w [n] #[.int .u8 n] rfl 1 rfl
      have HE := Lib.hid (show putN _ = [n] by rw [HP.out, if_pos c1])
      clear f0 f1 hz HS c1
      go_wp2_with fail
      go_ret
      exact put_of HE.out (below1' _ _)
    · by_cases c2 : n < 2048
      · rw [if_neg c1, if_pos c2] at hz
        rw [hz]
        have HE := Lib.hid (show putN _ = [192 + n / 64, 128 + n % 64] by rw [HP.out, if_neg c1, if_pos c2])
        clear hz c1 HS
        have mk : (Instr.makeSlice 233 (.int .i64 2) (.int .i64 2)).run Tryz.prog w = .ok (.slice (some ⟨w.heap.size, 0, none⟩) 2 2) (w.alloc (.cells #[.int .u8 0, .int .u8 0] 5)) := make_u8 w 2 (by decide) _ (by kernel_rfl)
        have hr0 := heap_alloc_new w (.cells #[.int .u8 0, .int .u8 0] 5)
        have HB0 := Lib.hid (below1' w (.cells #[.int .u8 0, .int .u8 0] 5))
        go_wp2_with fail
        generalize w.alloc (.cells #[.int .u8 0, .int .u8 0] 5) = w0 at hr0 HB0 ⊢
        clear mk
        go_loopw [0, 5] (fun rv iv wr => ∃ k : Nat, k ≤ 1 ∧ rv = .int .i32 (shN n k) ∧ iv = .int .i64 ((1 - k : Nat) : Int) ∧ wr.heap[w.heap.size]? = some (.cells (putCs n 2 k) 5 (0, 0)) ∧ Below w.heap.size w wr) (fun _ iv _ => (intOf iv).toNat)
        case atStart => exact ⟨0, by decide, rfl, rfl, hr0, HB0.out⟩
        case round =>
          obtain ⟨k, hk, rfl, rfl, hr, hB⟩ := hrel
          have HR := Lib.hid hr
          have HB := Lib.hid hB
          have hk2 : k = 0 ∨ k = 1 := by omega
          clear hB hr0 HB0
          rcases hk2 with rfl | rfl
          · have c1 : wr.cell? ⟨w.heap.size, 1, none⟩ = some (.int .u8 0) := row_cells' hr rfl
            have f1 := row_warm' hr 1
            have a1 := and63 (n) (by omega) (by omega)
            have a2 := or128 (n)
            have a3 : (128 + n % 64) % 256 = 128 + n % 64 := by omega
            clear hr hk
            simp only [shN]
            go_wp2_with fail
            go_roundw
            case rel => exact ⟨1, by decide, rfl, rfl, heap_setCell_same _ _ _ _ _ _ HR.out, HB.out.setCell (p := ⟨w.heap.size, 1, none⟩) (Nat.le_refl _) _⟩
            case measure => simp [intOf]
          · have c1 : wr.cell? ⟨w.heap.size, 0, none⟩ = some (.int .u8 0) := row_cells' hr rfl
            have f1 := row_warm' hr 0
            have a3 : n / 64 % 256 = n / 64 := by omega
            have a2 := or192 (n / 64) (by omega) (by omega)
            have cv := conv_row (wr.setCell ⟨w.heap.size, 0, none⟩ (.int .u8 (192 + n / 64))) w.heap.size [192 + n / 64, 128 + n % 64] _ (heap_setCell_same _ _ _ _ _ _ hr) rfl 2 rfl
            clear hr hk
            simp only [shN]
            go_wp2_with fail
            go_ret
            exact put_of HE.out (HB.out.setCell (p := ⟨w.heap.size, 0, none⟩) (Nat.le_refl _) _)
      · by_cases c3 : n < 65536
        · rw [if_neg c1, if_neg c2, if_pos c3] at hz
          rw [hz]
          have HE := Lib.hid (show putN _ = [224 + n / 4096, 128 + n / 64 % 64, 128 + n % 64] by rw [HP.out, if_neg c1, if_neg c2, if_pos c3])
          clear hz c1 c2 HS
          have mk : (Instr.makeSlice 233 (.int .i64 3) (.int .i64 3)).run Tryz.prog w = .ok (.slice (some ⟨w.heap.size, 0, none⟩) 3 3) (w.alloc (.cells #[.int .u8 0, .int .u8 0, .int .u8 0] 5)) := make_u8 w 3 (by decide) _ (by kernel_rfl)
          have hr0 := heap_alloc_new w (.cells #[.int .u8 0, .int .u8 0, .int .u8 0] 5)
          have HB0 := Lib.hid (below1' w (.cells #[.int .u8 0, .int .u8 0, .int .u8 0] 5))
          go_wp2_with fail
          generalize w.alloc (.cells #[.int .u8 0, .int .u8 0, .int .u8 0] 5) = w0 at hr0 HB0 ⊢
          clear mk
          go_loopw [0, 5] (fun rv iv wr => ∃ k : Nat, k ≤ 2 ∧ rv = .int .i32 (shN n k) ∧ iv = .int .i64 ((2 - k : Nat) : Int) ∧ wr.heap[w.heap.size]? = some (.cells (putCs n 3 k) 5 (0, 0)) ∧ Below w.heap.size w wr) (fun _ iv _ => (intOf iv).toNat)
          case atStart => exact ⟨0, by decide, rfl, rfl, hr0, HB0.out⟩
          case round =>
            obtain ⟨k, hk, rfl, rfl, hr, hB⟩ := hrel
            have HR := Lib.hid hr
            have HB := Lib.hid hB
            have hk2 : k = 0 ∨ k = 1 ∨ k = 2 := by omega
            clear hB hr0 HB0
            rcases hk2 with rfl | rfl | rfl
            · have c1 : wr.cell? ⟨w.heap.size, 2, none⟩ = some (.int .u8 0) := row_cells' hr rfl
              have f1 := row_warm' hr 2
              have a1 := and63 (n) (by omega) (by omega)
              have a2 := or128 (n)
              have a3 : (128 + n % 64) % 256 = 128 + n % 64 := by omega
              clear hr hk
              simp only [shN]
              go_wp2_with fail
              go_roundw
              case rel => exact ⟨1, by decide, rfl, rfl, heap_setCell_same _ _ _ _ _ _ HR.out, HB.out.setCell (p := ⟨w.heap.size, 2, none⟩) (Nat.le_refl _) _⟩
              case measure => simp [intOf]
            · have c1 : wr.cell? ⟨w.heap.size, 1, none⟩ = some (.int .u8 0) := row_cells' hr rfl
              have f1 := row_warm' hr 1
              have a1 := and63 (n / 64) (by omega) (by omega)
              have a2 := or128 (n / 64)
              have a3 : (128 + n / 64 % 64) % 256 = 128 + n / 64 % 64 := by omega
              have a4 : n / 64 / 64 = n / 4096 := by omega
              clear hr hk
              simp only [shN]
              go_wp2_with fail
              go_roundw
              case rel => exact ⟨2, by decide, rfl, rfl, heap_setCell_same _ _ _ _ _ _ HR.out, HB.out.setCell (p := ⟨w.heap.size, 1, none⟩) (Nat.le_refl _) _⟩
              case measure => simp [intOf]
            · have c1 : wr.cell? ⟨w.heap.size, 0, none⟩ = some (.int .u8 0) := row_cells' hr rfl
              have f1 := row_warm' hr 0
              have a3 : n / 4096 % 256 = n / 4096 := by omega
              have a2 := or224 (n / 4096) (by omega) (by omega)
              have cv := conv_row (wr.setCell ⟨w.heap.size, 0, none⟩ (.int .u8 (224 + n / 4096))) w.heap.size [224 + n / 4096, 128 + n / 64 % 64, 128 + n % 64] _ (heap_setCell_same _ _ _ _ _ _ hr) rfl 3 rfl
              clear hr hk
              simp only [shN]
              go_wp2_with fail
              go_ret
              exact put_of HE.out (HB.out.setCell (p := ⟨w.heap.size, 0, none⟩) (Nat.le_refl _) _)
        · rw [if_neg c1, if_neg c2, if_neg c3] at hz
          rw [hz]
          have HE := Lib.hid (show putN _ = [240 + n / 262144, 128 + n / 4096 % 64, 128 + n / 64 % 64, 128 + n % 64] by rw [HP.out, if_neg c1, if_neg c2, if_neg c3])
          clear hz c1 c2 c3 HS
          have mk : (Instr.makeSlice 233 (.int .i64 4) (.int .i64 4)).run Tryz.prog w = .ok (.slice (some ⟨w.heap.size, 0, none⟩) 4 4) (w.alloc (.cells #[.int .u8 0, .int .u8 0, .int .u8 0, .int .u8 0] 5)) := make_u8 w 4 (by decide) _ (by kernel_rfl)
          have hr0 := heap_alloc_new w (.cells #[.int .u8 0, .int .u8 0, .int .u8 0, .int .u8 0] 5)
          have HB0 := Lib.hid (below1' w (.cells #[.int .u8 0, .int .u8 0, .int .u8 0, .int .u8 0] 5))
          go_wp2_with fail
          generalize w.alloc (.cells #[.int .u8 0, .int .u8 0, .int .u8 0, .int .u8 0] 5) = w0 at hr0 HB0 ⊢
          clear mk
          go_loopw [0, 5] (fun rv iv wr => ∃ k : Nat, k ≤ 3 ∧ rv = .int .i32 (shN n k) ∧ iv = .int .i64 ((3 - k : Nat) : Int) ∧ wr.heap[w.heap.size]? = some (.cells (putCs n 4 k) 5 (0, 0)) ∧ Below w.heap.size w wr) (fun _ iv _ => (intOf iv).toNat)
          case atStart => exact ⟨0, by decide, rfl, rfl, hr0, HB0.out⟩
          case round =>
            obtain ⟨k, hk, rfl, rfl, hr, hB⟩ := hrel
            have HR := Lib.hid hr
            have HB := Lib.hid hB
            have hk2 : k = 0 ∨ k = 1 ∨ k = 2 ∨ k = 3 := by omega
            clear hB hr0 HB0
            rcases hk2 with rfl | rfl | rfl | rfl
            · have c1 : wr.cell? ⟨w.heap.size, 3, none⟩ = some (.int .u8 0) := row_cells' hr rfl
              have f1 := row_warm' hr 3
              have a1 := and63 (n) (by omega) (by omega)
              have a2 := or128 (n)
              have a3 : (128 + n % 64) % 256 = 128 + n % 64 := by omega
              clear hr hk
              simp only [shN]
              go_wp2_with fail
              go_roundw
              case rel => exact ⟨1, by decide, rfl, rfl, heap_setCell_same _ _ _ _ _ _ HR.out, HB.out.setCell (p := ⟨w.heap.size, 3, none⟩) (Nat.le_refl _) _⟩
              case measure => simp [intOf]
            · have c1 : wr.cell? ⟨w.heap.size, 2, none⟩ = some (.int .u8 0) := row_cells' hr rfl
              have f1 := row_warm' hr 2
              have a1 := and63 (n / 64) (by omega) (by omega)
              have a2 := or128 (n / 64)
              have a3 : (128 + n / 64 % 64) % 256 = 128 + n / 64 % 64 := by omega
              have a4 : n / 64 / 64 = n / 4096 := by omega
              clear hr hk
              simp only [shN]
              go_wp2_with fail
              go_roundw
              case rel => exact ⟨2, by decide, rfl, rfl, heap_setCell_same _ _ _ _ _ _ HR.out, HB.out.setCell (p := ⟨w.heap.size, 2, none⟩) (Nat.le_refl _) _⟩
              case measure => simp [intOf]
            · have c1 : wr.cell? ⟨w.heap.size, 1, none⟩ = some (.int .u8 0) := row_cells' hr rfl
              have f1 := row_warm' hr 1
              have a1 := and63 (n / 4096) (by omega) (by omega)
              have a2 := or128 (n / 4096)
              have a3 : (128 + n / 4096 % 64) % 256 = 128 + n / 4096 % 64 := by omega
              have a4 : n / 4096 / 64 = n / 262144 := by omega
              clear hr hk
              simp only [shN]
              go_wp2_with fail
              go_roundw
              case rel => exact ⟨3, by decide, rfl, rfl, heap_setCell_same _ _ _ _ _ _ HR.out, HB.out.setCell (p := ⟨w.heap.size, 1, none⟩) (Nat.le_refl _) _⟩
              case measure => simp [intOf]
            · have c1 : wr.cell? ⟨w.heap.size, 0, none⟩ = some (.int .u8 0) := row_cells' hr rfl
              have f1 := row_warm' hr 0
              have a3 : n / 262144 % 256 = n / 262144 := by omega
              have a2 := or240 (n / 262144) (by omega) (by omega)
              have cv := conv_row (wr.setCell ⟨w.heap.size, 0, none⟩ (.int .u8 (240 + n / 262144))) w.heap.size [240 + n / 262144, 128 + n / 4096 % 64, 128 + n / 64 % 64, 128 + n % 64] _ (heap_setCell_same _ _ _ _ _ _ hr) rfl 4 rfl
              clear hr hk
              simp only [shN]
              go_wp2_with fail
              go_ret
              exact put_of HE.out (HB.out.setCell (p := ⟨w.heap.size, 0, none⟩) (Nat.le_refl _) _)
end Go.Proofs.YtkeainhjghdfcaaGreat

/- The plain law of tries: pieces, what a number has, up to where nothing changes. No program here. -/
namespace Go.Proofs.YtkeainhjghdfcaaGreat

structure Pc (α : Type) where
  f : Int
  t : Int
  v : α

def hasP {α : Type} (i : Int) (p : Pc α) : Bool := decide (p.f ≤ i) && decide (i ≤ p.t)
theorem hasP_iff {α : Type} {i : Int} {p : Pc α} : hasP i p = true ↔ p.f ≤ i ∧ i ≤ p.t := by unfold hasP; simp
/-- what a number has -/
def pv {α : Type} (z : α) (l : List (Pc α)) (i : Int) : α := match l.find? (hasP i) with
  | some p => p.v
  | none => z
/-- find: the value, and up to where it is the same -/
def fndP {α : Type} (z : α) (i : Int) : List (Pc α) → Int → α × Int
  | [], last => (z, last)
  | p :: l, last => if p.f ≤ i ∧ i ≤ p.t then (p.v, min p.t last) else if i < p.f ∧ p.f ≤ last then fndP z i l (p.f - 1) else fndP z i l last

theorem fndP_spec {α : Type} (z : α) (i : Int) : ∀ (l : List (Pc α)) (last : Int), i ≤ last →
    (fndP z i l last).1 = pv z l i ∧ i ≤ (fndP z i l last).2 ∧ (fndP z i l last).2 ≤ last ∧ ∀ j, i ≤ j → j ≤ (fndP z i l last).2 → pv z l j = pv z l i := by
  intro l
  induction l with
  | nil => intro last h; exact ⟨rfl, h, Int.le_refl _, fun j _ _ => rfl⟩
  | cons p l ih =>
    intro last h
    by_cases h1 : p.f ≤ i ∧ i ≤ p.t
    · have e : fndP z i (p :: l) last = (p.v, min p.t last) := by rw [fndP, if_pos h1]
      have ev : pv z (p :: l) i = p.v := by unfold pv; rw [List.find?_cons, hasP_iff.2 h1]
      rw [e, ev]
      refine ⟨rfl, by dsimp only; omega, by dsimp only; omega, fun j h2 h3 => ?_⟩
      dsimp only at h3
      unfold pv
      rw [List.find?_cons, hasP_iff.2 ⟨by omega, by omega⟩]
    · have hno : hasP i p = false := by
        cases hh : hasP i p with
        | false => rfl
        | true => exact absurd (hasP_iff.1 hh) h1
      have ev : pv z (p :: l) i = pv z l i := by unfold pv; rw [List.find?_cons, hno]
      have skip : ∀ j, i ≤ j → (p.f ≤ i ∨ j < p.f) → pv z (p :: l) j = pv z l j := by
        intro j h2 h3
        have : hasP j p = false := by
          cases hh : hasP j p with
          | false => rfl
          | true => have := hasP_iff.1 hh; omega
        unfold pv; rw [List.find?_cons, this]
      by_cases h2 : i < p.f ∧ p.f ≤ last
      · have e : fndP z i (p :: l) last = fndP z i l (p.f - 1) := by rw [fndP, if_neg h1, if_pos h2]
        obtain ⟨a, b, c, d⟩ := ih (p.f - 1) (by omega)
        rw [e, ev]
        refine ⟨a, b, by omega, fun j h3 h4 => ?_⟩
        rw [skip j h3 (.inr (by omega))]
        exact d j h3 h4
      · have e : fndP z i (p :: l) last = fndP z i l last := by rw [fndP, if_neg h1, if_neg h2]
        obtain ⟨a, b, c, d⟩ := ih last h
        rw [e, ev]
        refine ⟨a, b, c, fun j h3 h4 => ?_⟩
        rw [skip j h3 (by omega)]
        exact d j h3 h4
end Go.Proofs.YtkeainhjghdfcaaGreat
