/- Joined texts: Base Law SpanP UcdR TrieP FlagP Map TrieM Held TrieN TrieR Kept TrieQ TabP TrieS TrieT MapS SegP SegQ. -/
import Derived.WalkKit
import Derived.WalkSpells
import Derived.WalkLawsBesides
import Derived.Lib.Hide
import Derived.ProofKit
import Derived.OpenShut
import Derived.Deep.Slices
import Derived.Deep.Fields
import Derived.ChangeSame
import Derived.SizedLaws
import Derived.Test.YtkeainhjghdfcaaGreatProg
import Derived.Deep.QuietTactic
import Derived.BigQuiet
import Derived.IntWalk
import Derived.Maps.Own
import Derived.Maps.OwnSet
import Derived.DeepKeys5
import Derived.Laws.OwnMore
import Derived.Laws.Rows
import Derived.Deep.Quiet
import Derived.StillTail
import Derived.Deep.RegionHeld3
import Derived.Deep.MidRow
import Derived.Laws.StructEq
import Derived.Deep.Upon
import Derived.MapKept
/- Base lemmas of this seat: appends to a slice of the call's own, reading of slices, worlds that grow. No program is named here. -/
namespace Go.Proofs.YtkeainhjghdfcaaGreat
open Go.RowKit

/-- A slice type t of elements e of 'size' cells and 'bytes' bytes. -/
structure ElemT (P : Program) (t e : TypeId) (size bytes : Nat) : Prop where
  und : P.underlying t = some (.slice e)
  inf : ∃ i z, P.info? e = some i ∧ i.zero = some z ∧ i.size = size ∧ i.bytes = bytes ∧ z.cells.size = size
  pos : 0 < size
  posb : 0 < bytes

theorem elemT_of {P : Program} {t e : TypeId} {size bytes : Nat} {z : Value} (hu : P.underlying t = some (.slice e))
    (h : (P.info? e).map (fun i => (i.zero, i.size, i.bytes)) = some (some z, size, bytes)) (hz : z.cells.size = size) (hp : 0 < size) (hb : 0 < bytes) : ElemT P t e size bytes := by
  obtain ⟨i, hi, h1, h2, h3⟩ := info_parts h
  exact ⟨hu, ⟨i, z, hi, h1, h2, h3, hz⟩, hp, hb⟩

theorem ownBlock_of_owns {w : World} {base e size n : Nat} {v : Value} {xs : List Value} (h : w.ownsRow base e size v n xs) (hn : 0 < n) : ∃ g cap, v = .slice (some ⟨g, 0, none⟩) n cap ∧ base ≤ g ∧ g < w.heap.size := by
  rcases h.2 with ⟨_, h0⟩ | ⟨g, cap, cur, hv, hb, hg, _⟩
  · omega
  · exact ⟨g, cap, hv, hb, (Array.getElem?_eq_some_iff.1 hg).1⟩

theorem slice_of_owns {w : World} {base e size n : Nat} {v : Value} {xs : List Value} (h : w.ownsRow base e size v n xs) : ∃ a cap, v = .slice a n cap := by
  rcases h.2 with ⟨hv, h0⟩ | ⟨g, cap, cur, hv, _⟩
  · subst h0; exact ⟨none, 0, hv⟩
  · exact ⟨_, _, hv⟩

section
variable {P : Program}

/-- append with at least one new cell: the whole of what one may know behind it. -/
theorem run_app (w : World) {base t ty e size bytes : Nat} (E : ElemT P t e size bytes) (v : Value) (n : Nat) (xs : List Value) (hown : w.ownsRow base e size v n xs)
    (a : Addr) (m c : Nat) (news : List Value) (hm : 0 < m) (hl : news.length = m * size) (hnews : ∀ j u, news[j]? = some u → w.cell? (a.add j) = some u) (h1 : ∀ u ∈ news, u.oneCell' = true)
    (hbytes : (n + m) * bytes ≤ 140737488355328) (hbase : base ≤ w.heap.size) :
    ∃ g cap w', (Builtin.append_ #[t, t] ty #[v, .slice (some a) m c]).run P w = .ok (.slice (some ⟨g, 0, none⟩) (n + m) cap) w' ∧
      w'.ownsRow base e size (.slice (some ⟨g, 0, none⟩) (n + m) cap) (n + m) (xs ++ news) ∧ w.grownBy w' v.ownBlock ∧ (v.ownBlock = some g ∨ w.heap.size ≤ g) := by
  obtain ⟨hu, ⟨i, z, hi, hz, hsize, hby, hzs⟩, hsz, hbp⟩ := E
  have hnm : n + m ≤ 140737488355328 := Nat.le_trans (Nat.le_mul_of_pos_right _ hbp) hbytes
  have h63 : n + m ≤ maxLen := by unfold maxLen; omega
  obtain ⟨v', w', hr, h2, h3, h4⟩ := run_append_own (P := P) w base t ty e i z size bytes hu hi hz hsize hby hzs hsz v n xs hown a m c news hl hnews h1 h63 hbytes hbase
  obtain ⟨g, cap, rfl, hgb, hgl⟩ := ownBlock_of_owns h2 (by omega)
  refine ⟨g, cap, w', hr, h2, h3, ?_⟩
  rcases Nat.lt_or_ge g w.heap.size with hlt | hge
  · refine .inl ?_
    subst hsize
    subst hby
    rcases hown.2 with ⟨rfl, rfl⟩ | ⟨g0, cap0, cur, rfl, hbg, hg, hnc, hcm, hcs, htake⟩
    · exfalso
      have hx : xs = [] := List.eq_nil_of_length_eq_zero (by simpa using hown.1)
      subst hx
      have hr2 := run_append_nil (P := P) (ty := ty) w t e i z hu hi hz a m c news hl hnews (by omega) (by unfold maxLen at h63; omega) (by have hb := hbytes; simp only [Nat.zero_add] at hb; omega)
      rw [hr2] at hr
      injection hr with ha hb
      injection ha with ha1
      injection ha1 with ha2
      injection ha2 with ha3
      omega
    · by_cases hroom : n + m ≤ cap0
      · have hfit : n * i.size + news.length ≤ cur.size := by rw [hl, hcs, ← Nat.add_mul]; exact Nat.mul_le_mul_right _ hroom
        have hr2 := run_append_room (P := P) (ty := ty) w t e i hu hi g0 n cap0 cur hg a m c news hl hnews h1 hroom hfit
        rw [hr2] at hr
        injection hr with ha hb
        injection ha with ha1
        injection ha1 with ha2
        injection ha2 with ha3
        subst ha3
        rfl
      · exfalso
        have holds : ∀ j u, xs[j]? = some u → w.cell? ((⟨g0, 0, none⟩ : Addr).add j) = some u := hown.cells (g := g0) rfl
        have hr2 := run_append_grow (P := P) (ty := ty) w t e i z hu hi hz ⟨g0, 0, none⟩ n cap0 xs hown.1 holds a m c news hl hnews (by omega) (by unfold maxLen at h63; omega) (growslice_fits (by omega) hbytes)
        rw [hr2] at hr
        injection hr with ha hb
        injection ha with ha1
        injection ha1 with ha2
        injection ha2 with ha3
        omega
  · exact .inr hge

/-- The law at the operation: 'append(s, x)' (or more), the new cells in a block that was built just ahead. -/
theorem wpList_app1 (w : World) {ops : Array Oper} {rest : List Oper} {o : Oper} {act : Act} {Q : Exit → Act → World → Prop} (hgd : o.guard = none) (s x : Operand) (t : TypeId)
    (ho : o.op = .call { callee := .builtin .append, args := #[s, x], argTypes := #[t, t] })
    {base e size bytes : Nat} (E : ElemT P t e size bytes) (v : Value) (n : Nat) (xs : List Value) (hs : act.eval s = v) (hown : w.ownsRow base e size v n xs)
    (m c : Nat) (news : List Value) (hx : act.eval x = .slice (some ⟨w.heap.size, 0, none⟩) m c) (hm : 0 < m) (hl : news.length = m * size) (h1 : ∀ u ∈ news, u.oneCell' = true)
    (hbytes : (n + m) * bytes ≤ 140737488355328) (hbase : base ≤ w.heap.size)
    (h : ∀ g cap w', w'.ownsRow base e size (.slice (some ⟨g, 0, none⟩) (n + m) cap) (n + m) (xs ++ news) → w.grownBy w' v.ownBlock → (v.ownBlock = some g ∨ w.heap.size ≤ g) →
      wpList P ops Q rest (act.put o.dst (.slice (some ⟨g, 0, none⟩) (n + m) cap)) w') : wpList P ops Q (o :: rest) act (w.alloc (.cells news.toArray e)) := by
  have hnews : ∀ j u, news[j]? = some u → (w.alloc (.cells news.toArray e)).cell? ((⟨w.heap.size, 0, none⟩ : Addr).add j) = some u := by
    intro j u hu
    have hadd : (⟨w.heap.size, 0, none⟩ : Addr).add j = ⟨w.heap.size, j, none⟩ := by unfold Addr.add; split <;> simp_all
    rw [hadd, cell_of_row _ w.heap.size j news.toArray e (0, 0) (heap_alloc_new w _)]
    simpa using hu
  obtain ⟨g, cap, w', hr, h2, h3, h4⟩ := run_app (P := P) (ty := o.type) (w.alloc (.cells news.toArray e)) E v n xs (hown.alloc _) _ m c news hm hl hnews h1 hbytes (by simp; omega)
  refine wpList_plain hgd fun _ hK => ?_
  unfold Oper.wp execOp
  simp only [ho, resolve, invoke, builtin, Sem.run_bind, Sem.run_pure, Result.andThen_ok, List.map_toArray, List.map_cons, List.map_nil, hs, hx, hr]
  refine hK _ _ (h g cap w' h2 ?_ ?_)
  · exact ⟨h3.os, h3.tape, h3.output, Nat.le_trans (by simp) h3.size, fun k hk hne => (h3.block k (by simp; omega) hne).trans (Below.heap_alloc w _ k hk)⟩
  · rcases h4 with h4 | h4
    · exact .inl h4
    · exact .inr (by simp at h4; omega)

/-- Two values of slices do not lie in one block. -/
def Sep (v u : Value) : Prop := v.ownBlock = none ∨ v.ownBlock ≠ u.ownBlock

theorem Sep.symm {v u : Value} (h : Sep v u) : Sep u v := by
  rcases h with h | h
  · rcases hu : u.ownBlock with _ | b
    · exact .inl hu
    · exact .inr (by rw [hu, h]; simp)
  · exact .inr (fun e => h e.symm)

theorem Sep.nil_left (u : Value) : Sep (.slice none 0 0) u := .inl rfl
theorem Sep.nil_right (v : Value) : Sep v (.slice none 0 0) := (Sep.nil_left v).symm

/-- Behind an append to v: u, which is another row, stays apart, and is kept. -/
theorem Sep.app {w w' : World} {v u : Value} {g n cap base e size k : Nat} {xs : List Value} (h : Sep v u) (hu : w.ownsRow base e size u k xs) (hf : v.ownBlock = some g ∨ w.heap.size ≤ g) (hg : w.grownBy w' v.ownBlock) :
    Sep (.slice (some ⟨g, 0, none⟩) n cap) u ∧ w'.ownsRow base e size u k xs := by
  refine ⟨?_, hu.kept hg (by rcases h.symm with h | h; exact .inl h; exact .inr h)⟩
  refine .inr ?_
  intro e
  simp only [Value.ownBlock] at e
  have hlt := (hu.lt g (by simpa [Value.ownBlock] using e.symm)).2
  rcases hf with hf | hf
  · rcases h with h | h
    · rw [h] at hf; cases hf
    · rw [hf] at h; exact h e
  · omega

/-- 'Below' behind an append to a row of the call's own. -/
theorem below_app {B : Nat} {w wr w' : World} {base e size n : Nat} {v : Value} {xs : List Value} (h : Below B w wr) (hB : B ≤ wr.heap.size) (hown : wr.ownsRow base e size v n xs) (hb : B ≤ base) (hg : wr.grownBy w' v.ownBlock) : Below B w w' :=
  h.grown hg hB (fun k hk => Nat.le_trans hb (hown.lt k hk).1)

theorem below_trans' {w w1 w2 : World} (h : Below w.heap.size w w1) (k : Below w1.heap.size w1 w2) : Below w.heap.size w w2 := h.trans (k.mono h.size)

theorem below_new {w w1 : World} (h : Below w.heap.size w w1) (o : Obj) : Below w.heap.size w (w1.alloc o) := h.alloc h.size o

theorem owns_stays {w w' : World} {base e size n : Nat} {v : Value} {xs : List Value} (h : w.ownsRow base e size v n xs) (hb : Below w.heap.size w w') : w'.ownsRow base e size v n xs :=
  h.kept (row := none) ⟨hb.os, hb.tape, hb.output, hb.size, fun k hk _ => hb.block k hk⟩ (by cases v.ownBlock <;> simp)

theorem owns_mono {w : World} {base base' e size n : Nat} {v : Value} {xs : List Value} (h : w.ownsRow base e size v n xs) (hb : base' ≤ base) : w.ownsRow base' e size v n xs := by
  refine ⟨h.1, ?_⟩
  rcases h.2 with h2 | ⟨g, cap, cur, hv, h1, h2⟩
  · exact .inl h2
  · exact .inr ⟨g, cap, cur, hv, Nat.le_trans hb h1, h2⟩

theorem owns_below {m base e size n g cap : Nat} {w w' : World} {xs : List Value} (h : w.ownsRow base e size (.slice (some ⟨g, 0, none⟩) n cap) n xs) (hb : Below m w w') (hg : g < m) : w'.ownsRow base e size (.slice (some ⟨g, 0, none⟩) n cap) n xs := by
  refine ⟨h.1, ?_⟩
  rcases h.2 with ⟨hv, _⟩ | ⟨g', cap', cur, hv, h1, h2, h3⟩
  · cases hv
  · simp only [Value.slice.injEq, Option.some.injEq, Addr.mk.injEq, and_true, true_and] at hv
    obtain ⟨rfl, rfl⟩ := hv
    exact .inr ⟨g, cap, cur, rfl, h1, by rw [hb.block g hg]; exact h2, h3⟩

theorem ret_int {k : IntKind} {a b : Int} (h : a = b) : Ending.returned (.int k a) = .returned (.int k b) := by rw [h]

theorem grown_size {w w' : World} {r : Option Nat} (h : w.grownBy w' r) : w.heap.size ≤ w'.heap.size := h.size
end

/-! ### Reading of slices: v reads, in w, as n elements whose cells are, one behind the other, xs; all of it in blocks below B -/
def Rd (B : Nat) (w : World) (sz : Nat) (v : Value) (n : Nat) (xs : List Value) : Prop :=
  ∃ a cap, v = .slice a n cap ∧ n ≤ cap ∧ cap ≤ maxLen ∧ xs.length = n * sz ∧
    (0 < n → ∃ b off, a = some ⟨b, off, none⟩ ∧ b < B ∧ ∀ j u, xs[j]? = some u → w.cell? ⟨b, off + j, none⟩ = some u)

theorem Rd.below {B B' : Nat} {w w' : World} {sz n : Nat} {v : Value} {xs : List Value} (h : Rd B w sz v n xs) (hb : Below B' w w') (hB : B ≤ B') : Rd B w' sz v n xs := by
  obtain ⟨a, cap, hv, h1, h2, h3, h4⟩ := h
  refine ⟨a, cap, hv, h1, h2, h3, fun hn => ?_⟩
  obtain ⟨b, off, ha, hb2, hc⟩ := h4 hn
  exact ⟨b, off, ha, hb2, fun j u hu => (hb.cell (p := ⟨b, off + j, none⟩) (by show b < B'; omega)).trans (hc j u hu)⟩

theorem Rd.mono {B B' : Nat} {w : World} {sz n : Nat} {v : Value} {xs : List Value} (h : Rd B w sz v n xs) (hB : B ≤ B') : Rd B' w sz v n xs := by
  obtain ⟨a, cap, hv, h1, h2, h3, h4⟩ := h
  refine ⟨a, cap, hv, h1, h2, h3, fun hn => ?_⟩
  obtain ⟨b, off, ha, hb2, hc⟩ := h4 hn
  exact ⟨b, off, ha, by omega, hc⟩

theorem Rd.nil (B : Nat) (w : World) (sz : Nat) : Rd B w sz (.slice none 0 0) 0 [] := ⟨none, 0, rfl, Nat.le_refl _, by unfold maxLen; omega, by simp, fun h => by omega⟩

theorem addr_add (g j : Nat) : (⟨g, 0, none⟩ : Addr).add j = ⟨g, j, none⟩ := by unfold Addr.add; split <;> simp_all

theorem rd_of_owns {w : World} {base e sz n : Nat} {v : Value} {xs : List Value} (h : w.ownsRow base e sz v n xs) : Rd w.heap.size w sz v n xs := by
  rcases h.2 with ⟨hv, h0⟩ | ⟨g, cap, cur, hv, hb, hg, hnc, hcm, hcs, ht⟩
  · subst h0
    exact ⟨none, 0, hv, Nat.le_refl _, by unfold maxLen; omega, h.1, fun hn => by omega⟩
  · refine ⟨_, cap, hv, hnc, hcm, h.1, fun _ => ⟨g, 0, rfl, (Array.getElem?_eq_some_iff.1 hg).1, fun j u hu => ?_⟩⟩
    have := h.cells (g := g) (by rw [hv]; rfl) j u hu
    rw [addr_add] at this
    simpa using this

theorem flat_get {α : Type} {enc : α → List Value} {sz : Nat} (hsz : ∀ x, (enc x).length = sz) : ∀ (l : List α) (k : Nat) (x : α) (j : Nat) (u : Value), l[k]? = some x → (enc x)[j]? = some u → (l.flatMap enc)[k * sz + j]? = some u := by
  intro l
  induction l with
  | nil => intro k x j u h; simp at h
  | cons y l ih =>
    intro k x j u hk hj
    rw [List.flatMap_cons]
    cases k with
    | zero =>
      simp at hk; subst hk
      have hlt := (List.getElem?_eq_some_iff.1 hj).1
      rw [List.getElem?_append_left (by omega)]
      simpa using hj
    | succ k =>
      rw [List.getElem?_append_right (by rw [hsz, Nat.succ_mul]; omega), hsz]
      have e : (k + 1) * sz + j - sz = k * sz + j := by rw [Nat.succ_mul]; omega
      rw [e]
      exact ih k x j u (by simpa using hk) hj

theorem flat_len {α : Type} {enc : α → List Value} {sz : Nat} (hsz : ∀ x, (enc x).length = sz) (l : List α) : (l.flatMap enc).length = l.length * sz := by
  induction l with
  | nil => simp
  | cons y l ih => rw [List.flatMap_cons, List.length_append, ih, hsz, List.length_cons, Nat.succ_mul]; omega

/-- v reads as the list l, each element by its cells. -/
def Rs {α : Type} (B : Nat) (w : World) (enc : α → List Value) (sz : Nat) (v : Value) (l : List α) : Prop := Rd B w sz v l.length (l.flatMap enc)

theorem flat_cell {α : Type} {enc : α → List Value} {sz : Nat} (hsz : ∀ x, (enc x).length = sz) {w : World} {l : List α} {b off : Nat} (hc : ∀ j u, (l.flatMap enc)[j]? = some u → w.cell? ⟨b, off + j, none⟩ = some u)
    {k : Nat} {x : α} (hk : l[k]? = some x) (j : Nat) {u : Value} (hj : (enc x)[j]? = some u) : w.cell? ⟨b, off + k * sz + j, none⟩ = some u := by
  rw [Nat.add_assoc]
  exact hc _ _ (flat_get hsz l k x j u hk hj)

/-- A slice literal. -/
theorem rs_lit {α : Type} {enc : α → List Value} {sz : Nat} (hsz : ∀ x, (enc x).length = sz) (w : World) (cs : Array Value) (e : TypeId) (l : List α) (n : Nat) (hn : n = l.length) (hm : n ≤ maxLen) (hcs : cs.toList = l.flatMap enc) :
    Rs (w.alloc (.cells cs e)).heap.size (w.alloc (.cells cs e)) enc sz (.slice (some ⟨w.heap.size, 0, none⟩) n n) l := by
  subst hn
  refine ⟨_, _, rfl, Nat.le_refl _, hm, flat_len hsz l, fun _ => ⟨_, _, rfl, by simp, fun j u hu => ?_⟩⟩
  rw [Nat.zero_add, cell_of_row _ w.heap.size j cs e (0, 0) (heap_alloc_new w _), ← Array.getElem?_toList, hcs]
  exact hu

/-! ### n & (a mask) -/
theorem i64_and_mask (k : Nat) (hk : k < 63) (n : Int) : bits .and .i64 n ((2 ^ k - 1 : Nat) : Int) = n % ((2 ^ k : Nat) : Int) := by
  have hp : 2 ^ k < 2 ^ 63 := Nat.pow_lt_pow_right (by decide) hk
  have hpos : 0 < 2 ^ k := Nat.two_pow_pos k
  have hm : (BitVec.ofInt 64 ((2 ^ k - 1 : Nat) : Int)).toNat = 2 ^ k - 1 := by
    rw [BitVec.toNat_ofInt]
    have : (((2 ^ k - 1 : Nat) : Int) % ((2 ^ 64 : Nat) : Int)) = ((2 ^ k - 1 : Nat) : Int) := Int.emod_eq_of_lt (by omega) (by omega)
    rw [this]; omega
  have key : (BitVec.ofInt 64 n &&& BitVec.ofInt 64 ((2 ^ k - 1 : Nat) : Int)).toNat = (n % ((2 ^ 64 : Nat) : Int)).toNat % 2 ^ k := by
    rw [BitVec.toNat_and, BitVec.toNat_ofInt, hm, Nat.and_two_pow_sub_one_eq_mod]
  show IntKind.i64.wrap ((BitVec.ofInt 64 n &&& BitVec.ofInt 64 ((2 ^ k - 1 : Nat) : Int)).toNat : Nat) = _
  rw [key, IntKind.wrap_i64]
  have h1 : (n % ((2 ^ 64 : Nat) : Int)).toNat % 2 ^ k < 2 ^ k := Nat.mod_lt _ hpos
  have h2 : (((n % ((2 ^ 64 : Nat) : Int)).toNat % 2 ^ k : Nat) : Int) = n % ((2 ^ k : Nat) : Int) := by
    have h3 : (0 : Int) ≤ n % ((2 ^ 64 : Nat) : Int) := Int.emod_nonneg _ (by omega)
    rw [Int.natCast_emod, Int.toNat_of_nonneg h3]
    have hd : ((2 ^ k : Nat) : Int) ∣ ((2 ^ 64 : Nat) : Int) := Int.natCast_dvd_natCast.2 (Nat.pow_dvd_pow 2 (by omega))
    exact Int.emod_emod_of_dvd n hd
  rw [← h2]
  omega

theorem and1 (n : Int) : bits .and .i64 n 1 = n % 2 := i64_and_mask 1 (by decide) n
theorem and3 (n : Int) : bits .and .i64 n 3 = n % 4 := i64_and_mask 2 (by decide) n
theorem and7 (n : Int) : bits .and .i64 n 7 = n % 8 := i64_and_mask 3 (by decide) n
theorem and15 (n : Int) : bits .and .i64 n 15 = n % 16 := i64_and_mask 4 (by decide) n
theorem and1023 (n : Int) : bits .and .i64 n 1023 = n % 1024 := i64_and_mask 10 (by decide) n
end Go.Proofs.YtkeainhjghdfcaaGreat

/- From a walk to a law's statement: the frame that all laws share; how arguments are opened. No program is named here. -/
namespace Go.Proofs.YtkeainhjghdfcaaGreat
open Go.ChangeShapes Go.WideShapes Go.ChangeAt Go.RowKit Go.Deep

theorem trodAll_len {H : Type} {enc : TypeId × Value → H} {P : Program} {w : World} {base : Nat} {spare : Nat → Bool} {held : Bool} : ∀ (ts : List TypeId) (vs : List Value) (ds : List (DataW H)) (ps : List MemPlace),
    DataW.TrodAll enc P w base spare held ts vs ds ps → ds.length = ts.length ∧ vs.length = ts.length := by
  intro ts
  induction ts with
  | nil => intro vs ds ps h; obtain ⟨rfl, rfl, rfl⟩ := trodAll_nil h; exact ⟨rfl, rfl⟩
  | cons t ts ih =>
    intro vs ds ps h
    obtain ⟨v, vs', d, ds', p, q, rfl, rfl, rfl, _, h2⟩ := trodAll_cons h
    obtain ⟨h3, h4⟩ := ih _ _ _ h2
    exact ⟨by simp [h3], by simp [h4]⟩

theorem trodAll_stays {H : Type} {enc : TypeId × Value → H} {P : Program} (hl : laidOutB P = true) {W W' : World} (hb : Below W.heap.size W W') : ∀ (ts : List TypeId) (vs : List Value) (ds : List (DataW H)) (ps : List MemPlace),
    (∀ t ∈ ts, P.readableRec t = true ∧ t < P.types.size) → DataW.TrodAll enc P W 0 (fun _ => true) true ts vs ds ps → (∀ x ∈ ps, x.block < W.heap.size) →
    DataW.TrodAll enc P W' 0 (fun b => decide (b < W.heap.size)) true ts vs ds ps := by
  intro ts
  induction ts with
  | nil => intro vs ds ps _ h _; obtain ⟨rfl, rfl, rfl⟩ := trodAll_nil h; exact trodAll_mk0
  | cons t ts ih =>
    intro vs ds ps ht h hlt
    obtain ⟨v, vs', d, ds', p, q, rfl, rfl, rfl, h1, h2⟩ := trodAll_cons h
    have ht0 := ht t List.mem_cons_self
    exact trodAll_cons_mk (Below.trod hl ht0.1 ht0.2 h1 hb (fun x hx => hlt x (List.mem_append_left _ hx)))
      (ih _ _ _ (fun t' h' => ht t' (List.mem_cons_of_mem _ h')) h2 (fun x hx => hlt x (List.mem_append_right _ hx)))

/-- What a law's walk has to show: whatever the arguments read as, the call returns true, and nothing that was there has turned. -/
def LawWalk (P : Program) (f : FuncId) (fn : Func) : Prop :=
  ∀ (H : Type) (enc : TypeId × Value → H) (W : World) (base : Nat) (args : Array Value) (ds : List (DataW H)) (ps : List MemPlace),
    (∀ (j : Nat) t v, fn.params[j]? = some t → args[j]? = some v → Value.okWide P W .any base t v) →
    DataW.TrodAll enc P W 0 (fun _ => true) true fn.params.toList args.toList ds ps → (∀ x ∈ ps, x.block < W.heap.size) →
    Calls P f args W fun e W' => e = .returned (.bool true) ∧ Below W.heap.size W W'

theorem lifted_of_walk {C : Checked} {os : Os} {f : FuncId} {fn : Func} {s : ChangeSpec} {H : Type} {enc : TypeId × Value → H} {tb : TypeId}
    (own : ownKnob C.prog.godebug = none) (started : os.Started) (noInit : C.prog.inits.idxOf? f = none) (hfn : C.prog.funcs[f]? = some fn)
    (witness : ∃ (w : World) (tape : Tape) (i : Input), w.os = os ∧ (w.forCall tape i).Shaped C.prog ∧ i.vars = [] ∧ Input.okWide C.prog (w.forCall tape i) .any w.heap.size f i ∧
      s.pre6 enc C.prog fn [] false (w.forCall tape i).memory i.args ∧ ({} : Assume).holds C.prog (lone (Frame.enter C.prog f i.args .normal) [] (w.forCall tape i)))
    (hl : laidOutB C.prog = true) (hts : ∀ t ∈ fn.params.toList, C.prog.readableRec t = true ∧ t < C.prog.types.size) (hres : fn.resultTypes = #[tb]) (hbool : C.prog.underlying tb = some .bool)
    (hvars : s.vars = []) (hspec : ∀ ds : List (DataW H), ds.length = fn.params.toList.length → s.fn H (ds ++ []) = { results := [.lit (.bool true)], args := ds, vars := [] })
    (walk : LawWalk C.prog f fn) :
    ReturnsInHanded {} C os f .any (s.pre6 enc C.prog fn [] false) (s.post enc C.prog fn false true false false) := by
  refine returnsInHanded_of_change own started noInit hfn witness ?_
  intro W base args ds gs before hval hW _ _
  have hW' := hW
  obtain ⟨p, q, hA, hV, hp, _, _⟩ := hW
  rw [hvars] at hV
  obtain ⟨rfl, rfl⟩ := trodVars_none hV
  have hp' : before = p := by simpa using hp
  subst hp'
  have hlen := (trodAll_len _ _ _ _ hA).1
  have hlt : ∀ x ∈ before, x.block < W.heap.size := fun x hx => by simpa using hW'.lt x hx
  refine (walk H enc W base args ds before hval hA hlt).mono ?_
  rintro e W' ⟨rfl, hB⟩
  refine ⟨_, rfl, ds, [], before, [], before, [], hW', ?_, ?_, ?_, hB.frame _, fun h => by cases h⟩
  · rw [hspec ds hlen, hres]
    exact trodAll_mk1 (shut_bool hbool true)
  · rw [hspec ds hlen]
    exact trodAll_stays hl hB _ _ _ _ hts hA hlt
  · rw [hspec ds hlen, hvars]
    exact rfl

/-! ### Opening arguments -/
/-- Whatever reads as type t has the cells of some y. -/
def Reads {α : Type} (P : Program) (t : TypeId) (enc : α → List Value) (ok : α → Prop) : Prop :=
  ∀ (H : Type) (enc0 : TypeId × Value → H) (w : World) (base : Nat) (spare : Nat → Bool) (held : Bool) (fuel : Nat) (cs : List Value) (x : DataW H × List MemPlace),
    DataW.trod enc0 P w base spare held fuel t cs = some x → ∃ y, cs = enc y ∧ ok y

theorem reads_int {P : Program} {t : TypeId} {k : IntKind} (ht : P.underlying t = some (.int k)) : Reads P t (fun n : Int => [.int k n]) (fun n => (Lit.int k n).wf = true) := by
  intro H enc0 w base spare held fuel cs x h
  obtain ⟨n, hn, _, hw⟩ := DataW.trod_int ht h
  exact ⟨n, hn, hw⟩
theorem reads_string {P : Program} {t : TypeId} (ht : P.underlying t = some .string) : Reads P t (fun s : ByteArray => [.string s]) (fun s => s.size ≤ maxLen) := by
  intro H enc0 w base spare held fuel cs x h
  obtain ⟨s, hs, _, hw⟩ := DataW.trod_string ht h
  exact ⟨s, hs, hw⟩
theorem reads_bool {P : Program} {t : TypeId} (ht : P.underlying t = some .bool) : Reads P t (fun b : Bool => [.bool b]) (fun _ => True) := by
  intro H enc0 w base spare held fuel cs x h
  obtain ⟨s, hs, _⟩ := DataW.trod_bool ht h
  exact ⟨s, hs, trivial⟩

theorem reads_struct2 {P : Program} {t : TypeId} {f0 f1 : Field} {α β : Type} {e0 : α → List Value} {e1 : β → List Value} {ok0 : α → Prop} {ok1 : β → Prop} {s0 s1 : Nat} (ht : P.underlying t = some (.struct #[f0, f1]))
    (h0 : Reads P f0.type e0 ok0) (h1 : Reads P f1.type e1 ok1) (o0 : f0.offset = 0) (o1 : f1.offset = s0) (c0 : P.cellsOf f0.type = s0) (c1 : P.cellsOf f1.type = s1) (ct : P.cellsOf t = s0 + s1) :
    Reads P t (fun y : α × β => e0 y.1 ++ e1 y.2) (fun y => ok0 y.1 ∧ ok1 y.2) := by
  intro H enc0 w base spare held fuel cs x h
  obtain ⟨xs, n, _, _, hlen, hxl, hf⟩ := DataW.trod_struct ht h
  have hxl2 : xs.length = 2 := hxl
  have a0 := hf 0 f0 rfl
  have a1 := hf 1 f1 rfl
  rw [o0, c0, List.getElem?_eq_getElem (by omega)] at a0
  rw [o1, c1, List.getElem?_eq_getElem (by omega)] at a1
  obtain ⟨y0, e0', k0⟩ := h0 _ _ _ _ _ _ _ _ _ a0
  obtain ⟨y1, e1', k1⟩ := h1 _ _ _ _ _ _ _ _ _ a1
  refine ⟨(y0, y1), ?_, k0, k1⟩
  show cs = e0 y0 ++ e1 y1
  rw [← e0', ← e1', List.drop_zero, List.take_of_length_le (l := cs.drop s0) (by simp; omega), List.take_append_drop]

theorem list_of_all {α : Type} (Q : Nat → α → Prop) : ∀ n, (∀ i, i < n → ∃ x, Q i x) → ∃ l : List α, l.length = n ∧ ∀ i x, l[i]? = some x → Q i x := by
  intro n
  induction n with
  | zero => intro _; exact ⟨[], rfl, fun i x h => by simp at h⟩
  | succ n ih =>
    intro h
    obtain ⟨l, hl, hq⟩ := ih (fun i hi => h i (by omega))
    obtain ⟨x, hx⟩ := h n (by omega)
    refine ⟨l ++ [x], by simp [hl], fun i y hy => ?_⟩
    rcases Nat.lt_or_ge i n with hlt | hge
    · rw [List.getElem?_append_left (by omega)] at hy
      exact hq i y hy
    · have hi : i = n := by
        have := (List.getElem?_eq_some_iff.1 hy).1
        simp at this
        omega
      subst hi
      rw [List.getElem?_append_right (by omega)] at hy
      simp [hl] at hy
      rw [← hy]
      exact hx

theorem flat_index {α : Type} {enc : α → List Value} {sz : Nat} (hsz : ∀ x, (enc x).length = sz) : ∀ (l : List α) (j : Nat) (u : Value), (l.flatMap enc)[j]? = some u → ∃ i x, l[i]? = some x ∧ ∃ k, k < sz ∧ j = i * sz + k ∧ (enc x)[k]? = some u := by
  intro l
  induction l with
  | nil => intro j u h; simp at h
  | cons y l ih =>
    intro j u h
    rw [List.flatMap_cons] at h
    rcases Nat.lt_or_ge j sz with hlt | hge
    · rw [List.getElem?_append_left (by rw [hsz]; exact hlt)] at h
      exact ⟨0, y, rfl, j, hlt, by omega, h⟩
    · rw [List.getElem?_append_right (by rw [hsz]; exact hge), hsz] at h
      obtain ⟨i, x, hx, k, hk, he, hu⟩ := ih _ _ h
      exact ⟨i + 1, x, by simpa using hx, k, hk, by rw [Nat.succ_mul]; omega, hu⟩

/-- A slice that came in, of elements that hold no addresses. -/
theorem rs_of_trod {H : Type} {enc0 : TypeId × Value → H} {P : Program} {W : World} {t e : TypeId} {sz : Nat} {α : Type} {enc : α → List Value} {ok : α → Prop} {v : Value} {d : DataW H} {p : List MemPlace} {spare : Nat → Bool} {r : Reach} {b0 : Nat}
    (ht : P.underlying t = some (.slice e)) (hC : P.cellsOf e = sz) (hsz : ∀ x, (enc x).length = sz) (hpos : 0 < sz) (hR : Reads P e enc ok) (hv : Value.okWide P W r b0 t v) (h : DataW.Trod enc0 P W 0 spare true t v d p) :
    ∃ l : List α, Rs W.heap.size W enc sz v l ∧ ∀ y ∈ l, ok y := by
  obtain ⟨a0, len, cap, rfl⟩ := okWide_slice ht hv
  obtain ⟨fuel, hf⟩ := h
  rcases open_slice ht hf with ⟨hcs, hx⟩ | ⟨a, len', cap', m, n, D, Pl, hcs, hb, hl, hm, hmm, hx, hi⟩
  · simp only [Value.cells, List.cons.injEq, Value.slice.injEq, and_true] at hcs
    obtain ⟨rfl, rfl, rfl⟩ := hcs
    exact ⟨[], Rd.nil _ _ _, fun y hy => by simp at hy⟩
  · simp only [Value.cells, List.cons.injEq, Value.slice.injEq, and_true] at hcs
    obtain ⟨rfl, rfl, rfl⟩ := hcs
    rw [hC] at hi
    obtain ⟨l, hlen, hq⟩ := list_of_all (fun i (y : α) => (∀ k u, (enc y)[k]? = some u → W.cell? (a.add (i * sz + k)) = some u) ∧ ok y) len (fun i hil => by
      have him : i < m := by rw [hmm]; split <;> omega
      obtain ⟨cs', hc, ht'⟩ := hi i him
      obtain ⟨_, hcl, hat⟩ := World.cells?_some hc
      obtain ⟨y, rfl, hok⟩ := hR _ _ _ _ _ _ _ _ _ ht'
      refine ⟨y, fun k u hu => ?_, hok⟩
      have hk := (List.getElem?_eq_some_iff.1 hu).1
      rw [← Go.Deep.add_add, hat k (by omega), hu])
    subst hlen
    refine ⟨l, ⟨some a, cap, rfl, hl, hm, flat_len hsz l, fun hn => ?_⟩, fun y hy => ?_⟩
    · obtain ⟨b, off, spot⟩ := a
      have h0 : l[0]? = some l[0] := List.getElem?_eq_getElem hn
      have hc0 := (hq 0 _ h0).1 0 ((enc l[0])[0]'(by rw [hsz]; exact hpos)) (List.getElem?_eq_getElem _)
      have hspot : spot = none := by simpa [Addr.add] using World.cell?_spot hc0
      subst hspot
      have hb : b < W.heap.size := by
        have := World.block_lt_of_cell? W _ hc0
        simpa [Addr.add] using this
      refine ⟨b, off, rfl, hb, fun j u hu => ?_⟩
      obtain ⟨i, x, hx, k, hk, rfl, hku⟩ := flat_index hsz l j u hu
      have := (hq i x hx).1 k u hku
      unfold Addr.add at this
      split at this
      · rename_i h0; rw [h0]; exact this
      · exact this
    · obtain ⟨i, hi'⟩ := List.mem_iff_getElem?.1 hy
      exact (hq i y hi').2
end Go.Proofs.YtkeainhjghdfcaaGreat

/- The plain law of spans: what the rows of a kind say, number by number. No program here. -/
namespace Go.Proofs.YtkeainhjghdfcaaGreat

structure Rw where
  k : Int
  f : Int
  t : Int
  a : Int
  b : Int
structure Span where
  f : Int
  t : Int
  a : Int
  b : Int

def hasS (r : Int) (x : Span) : Bool := decide (x.f ≤ r) && decide (r ≤ x.t)
theorem hasS_iff {r : Int} {x : Span} : hasS r x = true ↔ x.f ≤ r ∧ r ≤ x.t := by unfold hasS; simp
def hasR (kind r : Int) (x : Rw) : Bool := decide (x.k = kind) && (decide (x.f ≤ r) && decide (r ≤ x.t))
theorem hasR_iff {kind r : Int} {x : Rw} : hasR kind r x = true ↔ x.k = kind ∧ x.f ≤ r ∧ r ≤ x.t := by unfold hasR; simp

/-- the first row of a kind that has a number -/
def fnd (R : List Rw) (kind r : Int) : Option Rw := if 0 ≤ r ∧ r ≤ 1114111 then R.find? (hasR kind r) else none
def ansR (R : List Rw) (kind r : Int) : Option (Int × Int) := (fnd R kind r).map fun x => (x.a, x.b)
def ansS (S : List Span) (r : Int) : Option (Int × Int) := (S.find? (hasS r)).map fun x => (x.a, x.b)

def Dis (S : List Span) : Prop := S.Pairwise fun x y => x.t < y.f ∨ y.t < x.f
def Ris (S : List Span) : Prop := S.Pairwise fun x y => x.t < y.f
def okS (x : Span) : Prop := 0 ≤ x.f ∧ x.f ≤ x.t ∧ x.t ≤ 1114111
theorem Ris.dis {S : List Span} (h : Ris S) : Dis S := List.Pairwise.imp (fun h => .inl h) h

theorem one_of_dis {S : List Span} (h : Dis S) {r : Int} {x y : Span} (hx : x ∈ S) (hy : y ∈ S) (h1 : hasS r x = true) (h2 : hasS r y = true) : x = y := by
  rw [hasS_iff] at h1 h2
  induction S with
  | nil => cases hx
  | cons z S ih =>
    obtain ⟨ha, hb⟩ := List.pairwise_cons.1 h
    rcases List.mem_cons.1 hx with hx | hx
    · rcases List.mem_cons.1 hy with hy | hy
      · rw [hx, hy]
      · have := ha y hy; rw [hx] at h1; omega
    · rcases List.mem_cons.1 hy with hy | hy
      · have := ha x hx; rw [hy] at h2; omega
      · exact ih hb hx hy

theorem ansS_some {S : List Span} (h : Dis S) {r : Int} {p : Int × Int} : ansS S r = some p ↔ ∃ x ∈ S, hasS r x = true ∧ (x.a, x.b) = p := by
  unfold ansS
  constructor
  · intro he
    rw [Option.map_eq_some_iff] at he
    obtain ⟨x, hx, hp⟩ := he
    exact ⟨x, List.mem_of_find?_eq_some hx, List.find?_some hx, hp⟩
  · rintro ⟨x, hx, h1, hp⟩
    cases hf : S.find? (hasS r) with
    | none => exact absurd h1 (by simpa using List.find?_eq_none.1 hf x hx)
    | some y =>
      have := one_of_dis h hx (List.mem_of_find?_eq_some hf) h1 (List.find?_some hf)
      subst this
      simp [hp]
theorem ansS_none {S : List Span} {r : Int} : ansS S r = none ↔ ∀ x ∈ S, hasS r x = false := by
  unfold ansS
  rw [Option.map_eq_none_iff, List.find?_eq_none]
  simp
theorem ansS_perm {S T : List Span} (h : Dis S) (hp : S.Perm T) (r : Int) : ansS S r = ansS T r := by
  have hT : Dis T := (hp.pairwise_iff (R := fun x y : Span => x.t < y.f ∨ y.t < x.f) (fun h => h.symm)).1 h
  cases ht : ansS T r with
  | none => rw [ansS_none] at ht ⊢; exact fun x hx => ht x (hp.mem_iff.1 hx)
  | some p =>
    rw [ansS_some hT] at ht
    obtain ⟨x, hx, h1, h2⟩ := ht
    exact (ansS_some h).2 ⟨x, hp.mem_iff.2 hx, h1, h2⟩
theorem dis_perm {S T : List Span} (h : Dis S) (hp : S.Perm T) : Dis T := (hp.pairwise_iff (R := fun x y : Span => x.t < y.f ∨ y.t < x.f) (fun h => h.symm)).1 h

/-! ### rest -/
def restL : Span → List Span → List Span
  | s, [] => if s.f ≤ s.t then [s] else []
  | s, x :: l => if x.t < s.f ∨ s.t < x.f then restL s l else (if s.f < x.f then [⟨s.f, x.f - 1, s.a, s.b⟩] else []) ++ restL ⟨x.t + 1, s.t, s.a, s.b⟩ l

theorem restL_mem : ∀ (l : List Span) (s : Span), Ris l → (∀ x ∈ l, x.f ≤ x.t) → ∀ y ∈ restL s l, s.f ≤ y.f ∧ y.f ≤ y.t ∧ y.t ≤ s.t ∧ y.a = s.a ∧ y.b = s.b ∧ ∀ x ∈ l, x.t < y.f ∨ y.t < x.f := by
  intro l
  induction l with
  | nil =>
    intro s _ _ y hy
    unfold restL at hy
    split at hy
    · simp at hy; subst hy; exact ⟨by omega, by omega, by omega, rfl, rfl, fun x hx => by cases hx⟩
    · simp at hy
  | cons z l ih =>
    intro s hr hne y hy
    obtain ⟨ha, hb⟩ := List.pairwise_cons.1 hr
    have hz := hne z List.mem_cons_self
    have hne' : ∀ x ∈ l, x.f ≤ x.t := fun x hx => hne x (List.mem_cons_of_mem _ hx)
    unfold restL at hy
    split at hy
    · rename_i hc
      obtain ⟨h1, h2, h3, h4, h5, h6⟩ := ih s hb hne' y hy
      refine ⟨h1, h2, h3, h4, h5, fun x hx => ?_⟩
      rcases List.mem_cons.1 hx with rfl | hx
      · omega
      · exact h6 x hx
    · rename_i hc
      rcases List.mem_append.1 hy with hy | hy
      · split at hy
        · simp at hy; subst hy
          refine ⟨by dsimp only; omega, by dsimp only; omega, by dsimp only; omega, rfl, rfl, fun x hx => ?_⟩
          dsimp only
          rcases List.mem_cons.1 hx with rfl | hx
          · omega
          · have := ha x hx; omega
        · simp at hy
      · obtain ⟨h1, h2, h3, h4, h5, h6⟩ := ih _ hb hne' y hy
        dsimp only at h1 h3 h4 h5
        refine ⟨by omega, h2, h3, h4, h5, fun x hx => ?_⟩
        rcases List.mem_cons.1 hx with rfl | hx
        · omega
        · exact h6 x hx

theorem restL_ris : ∀ (l : List Span) (s : Span), Ris l → (∀ x ∈ l, x.f ≤ x.t) → Ris (restL s l) := by
  intro l
  induction l with
  | nil => intro s _ _; unfold restL; split <;> simp [Ris]
  | cons z l ih =>
    intro s hr hne
    obtain ⟨ha, hb⟩ := List.pairwise_cons.1 hr
    have hz := hne z List.mem_cons_self
    have hne' : ∀ x ∈ l, x.f ≤ x.t := fun x hx => hne x (List.mem_cons_of_mem _ hx)
    unfold restL
    split
    · exact ih s hb hne'
    · refine List.pairwise_append.2 ⟨?_, ih _ hb hne', ?_⟩
      · split <;> simp
      · intro p hp q hq
        have := restL_mem l _ hb hne' q hq
        split at hp
        · simp at hp; subst hp; dsimp only at this ⊢; omega
        · simp at hp

theorem restL_has : ∀ (l : List Span) (s : Span), Ris l → (∀ x ∈ l, x.f ≤ x.t) → ∀ r, s.f ≤ r → r ≤ s.t → (∀ x ∈ l, hasS r x = false) → ∃ y ∈ restL s l, hasS r y = true := by
  intro l
  induction l with
  | nil =>
    intro s _ _ r h1 h2 _
    unfold restL
    rw [if_pos (by omega)]
    exact ⟨s, by simp, hasS_iff.2 ⟨h1, h2⟩⟩
  | cons z l ih =>
    intro s hr hne r h1 h2 hno
    obtain ⟨ha, hb⟩ := List.pairwise_cons.1 hr
    have hz := hne z List.mem_cons_self
    have hne' : ∀ x ∈ l, x.f ≤ x.t := fun x hx => hne x (List.mem_cons_of_mem _ hx)
    have hno' : ∀ x ∈ l, hasS r x = false := fun x hx => hno x (List.mem_cons_of_mem _ hx)
    have hzr : ¬ (z.f ≤ r ∧ r ≤ z.t) := fun h => by rw [← hasS_iff, hno z List.mem_cons_self] at h; cases h
    unfold restL
    split
    · exact ih s hb hne' r h1 h2 hno'
    · by_cases hc : r ≤ z.t
      · have hlt : s.f < z.f := by omega
        rw [if_pos hlt]
        exact ⟨_, List.mem_append_left _ (List.mem_singleton.2 rfl), hasS_iff.2 ⟨h1, by dsimp only; omega⟩⟩
      · obtain ⟨y, hy, hyr⟩ := ih ⟨z.t + 1, s.t, s.a, s.b⟩ hb hne' r (by dsimp only; omega) h2 hno'
        exact ⟨y, List.mem_append_right _ hy, hyr⟩

/-! ### one row more -/
def clamp (x : Rw) : Span := ⟨max x.f 0, min x.t 1114111, x.a, x.b⟩

structure Good (S : List Span) : Prop where
  ris : Ris S
  ok : ∀ x ∈ S, okS x
/-- what spans say is what rows say -/
def Says (S : List Span) (R : List Rw) (kind : Int) : Prop := ∀ r, ansS S r = ansR R kind r

theorem good_nil : Good [] := ⟨List.Pairwise.nil, fun x hx => by cases hx⟩
theorem says_nil (kind : Int) : Says [] [] kind := by intro r; unfold ansR fnd ansS; split <;> rfl

theorem rest_dis {S : List Span} (h : Good S) (s : Span) : Dis (S ++ restL s S) := by
  have hne : ∀ x ∈ S, x.f ≤ x.t := fun x hx => (h.ok x hx).2.1
  exact List.pairwise_append.2 ⟨h.ris.dis, (restL_ris S s h.ris hne).dis, fun x hx y hy => (restL_mem S s h.ris hne y hy).2.2.2.2.2 x hx⟩
theorem rest_ok {S : List Span} (h : Good S) (x : Rw) : ∀ y ∈ S ++ restL (clamp x) S, okS y := by
  have hne : ∀ x ∈ S, x.f ≤ x.t := fun x hx => (h.ok x hx).2.1
  intro y hy
  rcases List.mem_append.1 hy with hy | hy
  · exact h.ok y hy
  · obtain ⟨h1, h2, h3, _⟩ := restL_mem S _ h.ris hne y hy
    unfold clamp at h1 h3
    dsimp only at h1 h3
    unfold okS
    omega

theorem find?_snoc {α : Type} (p : α → Bool) (l : List α) (x : α) : (l ++ [x]).find? p = (l.find? p).or (if p x then some x else none) := by
  rw [List.find?_append]
  congr 1
  simp [List.find?_cons]
  split <;> simp_all

theorem says_step {S : List Span} {R : List Rw} {kind : Int} (h : Good S) (hs : Says S R kind) {x : Rw} (hk : x.k = kind) : Says (S ++ restL (clamp x) S) (R ++ [x]) kind := by
  have hne : ∀ x ∈ S, x.f ≤ x.t := fun x hx => (h.ok x hx).2.1
  have hd := rest_dis h (clamp x)
  intro r
  have hsr := hs r
  by_cases hr : 0 ≤ r ∧ r ≤ 1114111
  · unfold ansR fnd at hsr ⊢
    rw [if_pos hr] at hsr ⊢
    rw [find?_snoc]
    cases hf : R.find? (hasR kind r) with
    | some y =>
      rw [hf] at hsr
      rw [show ((some y).or (if hasR kind r x = true then some x else none)) = some y from rfl, ← hsr]
      obtain ⟨z, hz, hzr, hp⟩ := (ansS_some h.ris.dis).1 hsr
      rw [hsr]
      exact (ansS_some hd).2 ⟨z, List.mem_append_left _ hz, hzr, hp⟩
    | none =>
      rw [hf] at hsr
      rw [Option.none_or]
      have hno := ansS_none.1 hsr
      by_cases hx : hasR kind r x = true
      · rw [if_pos hx]
        obtain ⟨_, h1, h2⟩ := hasR_iff.1 hx
        obtain ⟨y, hy, hyr⟩ := restL_has S (clamp x) h.ris hne r (by unfold clamp; dsimp only; omega) (by unfold clamp; dsimp only; omega) hno
        obtain ⟨_, _, _, h4, h5, _⟩ := restL_mem S _ h.ris hne y hy
        exact (ansS_some hd).2 ⟨y, List.mem_append_right _ hy, hyr, by rw [h4, h5]; rfl⟩
      · rw [if_neg hx]
        refine ansS_none.2 fun y hy => ?_
        rcases List.mem_append.1 hy with hy | hy
        · exact hno y hy
        · obtain ⟨h1, _, h3, _⟩ := restL_mem S _ h.ris hne y hy
          unfold clamp at h1 h3
          dsimp only at h1 h3
          cases hy2 : hasS r y with
          | false => rfl
          | true =>
            have := hasS_iff.1 hy2
            exact absurd (hasR_iff.2 ⟨hk, by omega, by omega⟩) hx
  · unfold ansR fnd
    rw [if_neg hr]
    refine ansS_none.2 fun y hy => ?_
    have := rest_ok h x y hy
    unfold okS at this
    cases hy2 : hasS r y with
    | false => rfl
    | true => have := hasS_iff.1 hy2; omega

theorem says_skip {S : List Span} {R : List Rw} {kind : Int} (hs : Says S R kind) {x : Rw} (hk : x.k ≠ kind) : Says S (R ++ [x]) kind := by
  intro r
  rw [hs r]
  unfold ansR fnd
  split
  · rw [find?_snoc]
    have : hasR kind r x = false := by
      cases h : hasR kind r x with
      | false => rfl
      | true => exact absurd (hasR_iff.1 h).1 hk
    rw [this]; simp
  · rfl

/-- sorted anew: the same spans, each beginning behind the one ahead -/
theorem good_sorted {S T : List Span} (hd : Dis S) (ho : ∀ x ∈ S, okS x) (hp : S.Perm T) (hs : T.Pairwise fun x y => x.f ≤ y.f) : Good T := by
  have hT := dis_perm hd hp
  have hoT : ∀ x ∈ T, okS x := fun x hx => ho x (hp.mem_iff.2 hx)
  refine ⟨?_, hoT⟩
  have : T.Pairwise fun x y => (x.t < y.f ∨ y.t < x.f) ∧ x.f ≤ y.f := List.Pairwise.and hT hs
  refine List.Pairwise.imp_of_mem (fun {a b} ha hb h => ?_) this
  have := hoT a ha
  have := hoT b hb
  unfold okS at *
  omega

/-! ### joined -/
def joinStep (out : List Span) (s : Span) : List Span :=
  match out.getLast? with
  | some y => if y.t + 1 = s.f ∧ y.a = s.a ∧ y.b = s.b then out.dropLast ++ [⟨y.f, s.t, y.a, y.b⟩] else out ++ [s]
  | none => out ++ [s]
def joinL (l : List Span) : List Span := l.foldl joinStep []

theorem join_good {out : List Span} {s : Span} {l : List Span} (h : Good (out ++ s :: l)) : Good (joinStep out s ++ l) ∧ ∀ r, ansS (joinStep out s ++ l) r = ansS (out ++ s :: l) r := by
  unfold joinStep
  cases hg : out.getLast? with
  | none =>
    rw [List.append_assoc]
    exact ⟨h, fun r => rfl⟩
  | some y =>
    dsimp only
    split
    · rename_i hc
      obtain ⟨c1, c2, c3⟩ := hc
      have hout : out = out.dropLast ++ [y] := by obtain ⟨o, ho⟩ := List.getLast?_eq_some_iff.1 hg; rw [ho, List.dropLast_concat]
      generalize out.dropLast = o at *
      subst hout
      rw [List.append_assoc] at h ⊢
      rw [List.append_assoc]
      have hy := h.ok y (by simp)
      have hs := h.ok s (by simp)
      unfold okS at hy hs
      have hris := h.ris
      unfold Ris at hris
      simp only [List.singleton_append, List.pairwise_append, List.pairwise_cons] at hris
      obtain ⟨p1, ⟨p2, p3, p4⟩, p5⟩ := hris
      have hG : Good (o ++ ([⟨y.f, s.t, y.a, y.b⟩] ++ l)) := by
        refine ⟨?_, ?_⟩
        · unfold Ris
          simp only [List.singleton_append, List.pairwise_append, List.pairwise_cons]
          refine ⟨p1, ⟨fun z hz => p3 z hz, p4⟩, fun z hz u hu => ?_⟩
          rcases List.mem_cons.1 hu with rfl | hu
          · exact p5 z hz y List.mem_cons_self
          · exact p5 z hz u (by simp [hu])
        · intro z hz
          simp only [List.singleton_append, List.mem_append, List.mem_cons] at hz
          rcases hz with hz | rfl | hz
          · exact h.ok z (by simp [hz])
          · unfold okS; dsimp only; omega
          · exact h.ok z (by simp [hz])
      refine ⟨hG, fun r => ?_⟩
      cases ha : ansS (o ++ ([y] ++ s :: l)) r with
      | none =>
        rw [ansS_none] at ha ⊢
        intro z hz
        simp only [List.singleton_append, List.mem_append, List.mem_cons] at hz
        rcases hz with hz | rfl | hz
        · exact ha z (by simp [hz])
        · have h1 := ha y (by simp)
          have h2 := ha s (by simp)
          cases hb : hasS r ⟨y.f, s.t, y.a, y.b⟩ with
          | false => rfl
          | true =>
            have hb' := hasS_iff.1 hb
            dsimp only at hb'
            by_cases hr : r ≤ y.t
            · rw [hasS_iff.2 ⟨hb'.1, hr⟩] at h1; cases h1
            · rw [hasS_iff.2 ⟨by omega, hb'.2⟩] at h2; cases h2
        · exact ha z (by simp [hz])
      | some p =>
        obtain ⟨z, hz, hzr, hp⟩ := (ansS_some h.ris.dis).1 ha
        refine (ansS_some hG.ris.dis).2 ?_
        have hzr' := hasS_iff.1 hzr
        simp only [List.singleton_append, List.mem_append, List.mem_cons] at hz
        rcases hz with hz | hz | hz | hz
        · exact ⟨z, by simp [hz], hzr, hp⟩
        · subst hz
          exact ⟨⟨z.f, s.t, z.a, z.b⟩, by simp, hasS_iff.2 ⟨hzr'.1, by dsimp only; omega⟩, hp⟩
        · subst hz
          exact ⟨⟨y.f, z.t, y.a, y.b⟩, by simp, hasS_iff.2 ⟨by dsimp only; omega, hzr'.2⟩, by dsimp only; rw [c2, c3]; exact hp⟩
        · exact ⟨z, by simp [hz], hzr, hp⟩
    · rw [List.append_assoc]
      exact ⟨h, fun r => rfl⟩

theorem join_all : ∀ (l out : List Span), Good (out ++ l) → Good (l.foldl joinStep out) ∧ ∀ r, ansS (l.foldl joinStep out) r = ansS (out ++ l) r := by
  intro l
  induction l with
  | nil => intro out h; rw [List.append_nil] at h ⊢; exact ⟨h, fun _ => rfl⟩
  | cons s l ih =>
    intro out h
    obtain ⟨h1, h2⟩ := join_good h
    obtain ⟨h3, h4⟩ := ih _ h1
    exact ⟨h3, fun r => (h4 r).trans (h2 r)⟩
theorem joinL_good {S : List Span} (h : Good S) : Good (joinL S) := (join_all S [] h).1
theorem joinL_says {S : List Span} {R : List Rw} {kind : Int} (h : Good S) (hs : Says S R kind) : Says (joinL S) R kind := fun r => ((join_all S [] h).2 r).trans (hs r)
theorem joinL_snoc (l : List Span) (s : Span) : joinL (l ++ [s]) = joinStep (joinL l) s := by unfold joinL; rw [List.foldl_append]; rfl
end Go.Proofs.YtkeainhjghdfcaaGreat

/- The document's tables are rows: the first row that has a number; what it says. -/
namespace Go.Proofs.YtkeainhjghdfcaaGreat
open Go.RowKit

def renc (x : Rw) : List Value := [.int .i64 x.k, .int .i64 x.f, .int .i64 x.t, .int .i64 x.a, .int .i64 x.b]
theorem renc_len (x : Rw) : (renc x).length = 5 := rfl
/-- v reads as the rows R. -/
def RowsIn (w : World) (v : Value) (R : List Rw) : Prop := Rs w.heap.size w renc 5 v R
theorem RowsIn.below {w w' : World} {v : Value} {R : List Rw} (h : RowsIn w v R) (hb : Below w.heap.size w w') : RowsIn w' v R := (Rd.below h hb (Nat.le_refl _)).mono hb.size
theorem RowsIn.drewN {w : World} {v : Value} {R : List Rw} (h : RowsIn w v R) (n : Nat) : RowsIn (w.drewN n) v R := h

def ofA (R : List Rw) (kind r : Int) : Int := match fnd R kind r with
  | some x => x.a
  | none => 0

theorem find_at {R : List Rw} {kind r : Int} : ∀ {k : Nat} {x : Rw}, (∀ j y, j < k → R[j]? = some y → hasR kind r y = false) → R[k]? = some x → hasR kind r x = true → R.find? (hasR kind r) = some x := by
  induction R with
  | nil => intro k x _ h; simp at h
  | cons z R ih =>
    intro k x hno hk hx
    cases k with
    | zero => simp at hk; subst hk; rw [List.find?_cons, hx]
    | succ k =>
      rw [List.find?_cons, hno 0 z (by omega) rfl]
      exact ih (k := k) (fun j y hj hy => hno (j + 1) y (by omega) (by simpa using hy)) (by simpa using hk) hx
theorem find_none {R : List Rw} {kind r : Int} (hno : ∀ j y, j < R.length → R[j]? = some y → hasR kind r y = false) : R.find? (hasR kind r) = none := by
  rw [List.find?_eq_none]
  intro y hy
  obtain ⟨j, hj⟩ := List.mem_iff_getElem?.1 hy
  rw [hno j y (List.getElem?_eq_some_iff.1 hj).1 hj]
  simp

def FindPost (R : List Rw) (kind r : Int) (w : World) (e : Ending) (w' : World) : Prop :=
  w = w' ∧ ((e = .returned (.int .i64 (-1)) ∧ fnd R kind r = none) ∨ ∃ (k : Nat) (x : Rw), e = .returned (.int .i64 k) ∧ R[k]? = some x ∧ fnd R kind r = some x)

theorem hasR_false {kind r : Int} {x : Rw} (h : ¬ (x.k = kind ∧ x.f ≤ r ∧ r ≤ x.t)) : hasR kind r x = false := by
  cases hh : hasR kind r x with
  | false => rfl
  | true => exact absurd (hasR_iff.1 hh) h

set_option maxRecDepth 100000 in
set_option maxHeartbeats 1000000 in
theorem find_any (v : Value) (R : List Rw) (kind r : Int) (w : World) (hR : RowsIn w v R) :
    Calls Tryz.prog 196 #[v, .int .i64 kind, .int .i64 r] w (FindPost R kind r w) := by
  obtain ⟨a, cap, rfl, hcap, hmax, hxl, hcells⟩ := hR
  unfold maxLen at hmax
  have HC := Lib.hid hcells
  clear hxl hcells
  by_cases hr : 0 ≤ r ∧ r ≤ 1114111
  · obtain ⟨hr1, hr2⟩ := hr
    have HF := Lib.hid (show fnd R kind r = R.find? (hasR kind r) by unfold fnd; rw [if_pos ⟨hr1, hr2⟩])
    go_enter Tryz.func196, Tryz.ntmps196
    go_wp2
    go_loop [7] (fun i => ∃ k : Nat, k ≤ R.length ∧ i = .int .i64 ((k : Nat) : Int) ∧ ∀ j y, j < k → R[j]? = some y → hasR kind r y = false) (fun i => R.length - (intOf i).toNat)
    case atStart => exact ⟨0, Nat.zero_le _, rfl, fun j y h => by omega⟩
    case round =>
      obtain ⟨k, hk, rfl, hno⟩ := hrel
      have HN := Lib.hid hno
      clear hno
      by_cases hlt : k < R.length
      · obtain ⟨x, hx⟩ : ∃ x, R[k]? = some x := ⟨R[k], List.getElem?_eq_getElem hlt⟩
        obtain ⟨b, off, rfl, hbl, hcq⟩ := HC.out (by omega)
        have d0 : w.cell? ⟨b, off + k * 5, none⟩ = some (.int .i64 x.k) := flat_cell renc_len hcq hx 0 rfl
        have d1 : w.cell? ⟨b, off + k * 5 + 1, none⟩ = some (.int .i64 x.f) := flat_cell renc_len hcq hx 1 rfl
        have d2 : w.cell? ⟨b, off + k * 5 + 2, none⟩ = some (.int .i64 x.t) := flat_cell renc_len hcq hx 2 rfl
        have HX := Lib.hid hx
        clear hcq hx
        have hnext : hasR kind r x = false → ∀ j y, j < k + 1 → R[j]? = some y → hasR kind r y = false := by
          intro h j y hj hy
          by_cases hjk : j = k
          · subst hjk; rw [HX.out] at hy; cases hy; exact h
          · exact HN.out j y (by omega) hy
        have HNx := Lib.hid hnext
        clear hnext
        by_cases h1 : x.k = kind
        · have q1 : (x.k == kind) = true := by simpa using h1
          by_cases h2 : x.f ≤ r
          · by_cases h3 : r ≤ x.t
            · have HH := Lib.hid (find_at HN.out HX.out (hasR_iff.2 ⟨h1, h2, h3⟩))
              clear h1
              go_wp2
              go_ret
              exact ⟨rfl, .inr ⟨k, x, rfl, HX.out, HF.out.trans HH.out⟩⟩
            · have HH := Lib.hid (hasR_false (x := x) (kind := kind) (r := r) (by omega))
              clear h1
              go_wp2
              go_round
              case rel => exact ⟨k + 1, by omega, by go_num, HNx.out HH.out⟩
              case measure => simp [intOf]; omega
          · have HH := Lib.hid (hasR_false (x := x) (kind := kind) (r := r) (by omega))
            clear h1
            go_wp2
            go_round
            case rel => exact ⟨k + 1, by omega, by go_num, HNx.out HH.out⟩
            case measure => simp [intOf]; omega
        · have q1 : (x.k == kind) = false := by simpa using h1
          have HH := Lib.hid (hasR_false (x := x) (kind := kind) (r := r) (by omega))
          clear h1
          go_wp2
          go_round
          case rel => exact ⟨k + 1, by omega, by go_num, HNx.out HH.out⟩
          case measure => simp [intOf]; omega
      · have hkn : k = R.length := by omega
        subst hkn
        go_wp2
        go_ret
        exact ⟨rfl, .inl ⟨rfl, HF.out.trans (find_none HN.out)⟩⟩
  · have HF := Lib.hid (show fnd R kind r = none by unfold fnd; rw [if_neg hr])
    have h' : r < 0 ∨ (0 ≤ r ∧ 1114111 < r) := by omega
    clear hr
    rcases h' with h1 | ⟨h1, h2⟩
    all_goals
      go_enter Tryz.func196, Tryz.ntmps196
      go_wp2
      go_ret
      exact ⟨rfl, .inl ⟨rfl, HF.out⟩⟩

theorem rows_cells {w : World} {v : Value} {R : List Rw} (hR : RowsIn w v R) {k : Nat} {x : Rw} (hx : R[k]? = some x) : ∃ b off cap, v = .slice (some ⟨b, off, none⟩) R.length cap ∧ cap ≤ maxLen ∧ R.length ≤ cap ∧ k < R.length ∧
    w.cell? ⟨b, off + k * 5, none⟩ = some (.int .i64 x.k) ∧ w.cell? ⟨b, off + k * 5 + 1, none⟩ = some (.int .i64 x.f) ∧ w.cell? ⟨b, off + k * 5 + 2, none⟩ = some (.int .i64 x.t) ∧ w.cell? ⟨b, off + k * 5 + 3, none⟩ = some (.int .i64 x.a) ∧ w.cell? ⟨b, off + k * 5 + 4, none⟩ = some (.int .i64 x.b) := by
  obtain ⟨a, cap, rfl, hcap, hmax, hxl, hcells⟩ := hR
  have hk := (List.getElem?_eq_some_iff.1 hx).1
  obtain ⟨b, off, rfl, hbl, hcq⟩ := hcells (by omega)
  exact ⟨b, off, cap, rfl, hmax, hcap, hk, flat_cell renc_len hcq hx 0 rfl, flat_cell renc_len hcq hx 1 rfl, flat_cell renc_len hcq hx 2 rfl, flat_cell renc_len hcq hx 3 rfl, flat_cell renc_len hcq hx 4 rfl⟩

set_option maxRecDepth 100000 in
set_option maxHeartbeats 400000 in
theorem a_any (v : Value) (R : List Rw) (kind r : Int) (w : World) (hR : RowsIn w v R) :
    Calls Tryz.prog 180 #[v, .int .i64 kind, .int .i64 r] w fun e w' => e = .returned (.int .i64 (ofA R kind r)) ∧ w = w' := by
  go_enter Tryz.func180, Tryz.ntmps180
  go_wp2_with fail
  refine (find_any v R kind r w hR).mono ?_
  rintro e w' ⟨rfl, ⟨rfl, hf⟩ | ⟨k, x, rfl, hx, hf⟩⟩
  · have e0 := Lib.hid (show ofA R kind r = 0 by unfold ofA; rw [hf])
    clear hf
    go_wp2
    go_ret
    exact ⟨ret_int e0.out.symm, rfl⟩
  · have e0 := Lib.hid (show ofA R kind r = x.a by unfold ofA; rw [hf])
    obtain ⟨b, off, cap, rfl, hc1, hc2, hk, d0, d1, d2, d3, d4⟩ := rows_cells hR hx
    unfold maxLen at hc1
    clear hf hx hR
    go_wp2
    go_ret
    exact ⟨ret_int e0.out.symm, rfl⟩

set_option maxRecDepth 100000 in
theorem of_any (v : Value) (R : List Rw) (kind r : Int) (w : World) (hR : RowsIn w v R) (b1 : -2147483648 ≤ r) (b2 : r ≤ 2147483647) :
    Calls Tryz.prog 142 #[v, .int .i64 kind, .int .i32 r] w fun e w' => e = .returned (.int .i64 (ofA R kind r)) ∧ w = w' := by
  go_enter Tryz.func142, Tryz.ntmps142
  go_wp2_with fail
  refine (a_any v R kind r w hR).mono ?_
  rintro e w' ⟨rfl, rfl⟩
  go_wp2
  go_ret
  exact ⟨rfl, rfl⟩

/-- what a scalar is decomposed into -/
def pairA (R : List Rw) (r : Int) : Int × Int × Bool := match fnd R 2 r with
  | some x => if x.a = 0 ∧ x.b = 0 then (0, 0, false) else (wrap32 x.a, wrap32 x.b, true)
  | none => (0, 0, false)
def outA (R : List Rw) (r : Int) : Bool := (pairA R r).2.2 && (decide ((pairA R r).2.1 = 0) || decide (ofA R 3 r = 1) || decide (ofA R 1 r ≠ 0) || decide (ofA R 1 (pairA R r).1 ≠ 0))

theorem ret_t3 {p : Int × Int × Bool} {a b : Int} {c : Bool} (h : p = (a, b, c)) : Ending.returned (.tuple #[.int .i32 a, .int .i32 b, .bool c]) = .returned (.tuple #[.int .i32 p.1, .int .i32 p.2.1, .bool p.2.2]) := by rw [h]

end Go.Proofs.YtkeainhjghdfcaaGreat

/- The plain law of tries: pieces, what a number has, up to where nothing changes. No program here. -/
namespace Go.Proofs.YtkeainhjghdfcaaGreat

structure Pc (α : Type) where
  f : Int
  t : Int
  v : α

def hasP {α : Type} (i : Int) (p : Pc α) : Bool := decide (p.f ≤ i) && decide (i ≤ p.t)
theorem hasP_iff {α : Type} {i : Int} {p : Pc α} : hasP i p = true ↔ p.f ≤ i ∧ i ≤ p.t := by unfold hasP; simp
/-- what a number has -/
def pv {α : Type} (z : α) (l : List (Pc α)) (i : Int) : α := match l.find? (hasP i) with
  | some p => p.v
  | none => z
/-- find: the value, and up to where it is the same -/
def fndP {α : Type} (z : α) (i : Int) : List (Pc α) → Int → α × Int
  | [], last => (z, last)
  | p :: l, last => if p.f ≤ i ∧ i ≤ p.t then (p.v, min p.t last) else if i < p.f ∧ p.f ≤ last then fndP z i l (p.f - 1) else fndP z i l last

theorem fndP_spec {α : Type} (z : α) (i : Int) : ∀ (l : List (Pc α)) (last : Int), i ≤ last →
    (fndP z i l last).1 = pv z l i ∧ i ≤ (fndP z i l last).2 ∧ (fndP z i l last).2 ≤ last ∧ ∀ j, i ≤ j → j ≤ (fndP z i l last).2 → pv z l j = pv z l i := by
  intro l
  induction l with
  | nil => intro last h; exact ⟨rfl, h, Int.le_refl _, fun j _ _ => rfl⟩
  | cons p l ih =>
    intro last h
    by_cases h1 : p.f ≤ i ∧ i ≤ p.t
    · have e : fndP z i (p :: l) last = (p.v, min p.t last) := by rw [fndP, if_pos h1]
      have ev : pv z (p :: l) i = p.v := by unfold pv; rw [List.find?_cons, hasP_iff.2 h1]
      rw [e, ev]
      refine ⟨rfl, by dsimp only; omega, by dsimp only; omega, fun j h2 h3 => ?_⟩
      dsimp only at h3
      unfold pv
      rw [List.find?_cons, hasP_iff.2 ⟨by omega, by omega⟩]
    · have hno : hasP i p = false := by
        cases hh : hasP i p with
        | false => rfl
        | true => exact absurd (hasP_iff.1 hh) h1
      have ev : pv z (p :: l) i = pv z l i := by unfold pv; rw [List.find?_cons, hno]
      have skip : ∀ j, i ≤ j → (p.f ≤ i ∨ j < p.f) → pv z (p :: l) j = pv z l j := by
        intro j h2 h3
        have : hasP j p = false := by
          cases hh : hasP j p with
          | false => rfl
          | true => have := hasP_iff.1 hh; omega
        unfold pv; rw [List.find?_cons, this]
      by_cases h2 : i < p.f ∧ p.f ≤ last
      · have e : fndP z i (p :: l) last = fndP z i l (p.f - 1) := by rw [fndP, if_neg h1, if_pos h2]
        obtain ⟨a, b, c, d⟩ := ih (p.f - 1) (by omega)
        rw [e, ev]
        refine ⟨a, b, by omega, fun j h3 h4 => ?_⟩
        rw [skip j h3 (.inr (by omega))]
        exact d j h3 h4
      · have e : fndP z i (p :: l) last = fndP z i l last := by rw [fndP, if_neg h1, if_neg h2]
        obtain ⟨a, b, c, d⟩ := ih last h
        rw [e, ev]
        refine ⟨a, b, c, fun j h3 h4 => ?_⟩
        rw [skip j h3 (by omega)]
        exact d j h3 h4
end Go.Proofs.YtkeainhjghdfcaaGreat

/- The plain law of truths: pieces out of where truths may change. No program here. -/
namespace Go.Proofs.YtkeainhjghdfcaaGreat

structure Flg where
  pict : Bool
  wide : Bool
  letter : Bool
  out : Bool
deriving DecidableEq
def noFlg : Flg := ⟨false, false, false, false⟩

def spanAt (S : List Span) (r : Int) : Option Span := S.find? (hasS r)
def oneAt (S : List Span) (r : Int) : Bool := match spanAt S r with
  | some x => decide (x.a = 1)
  | none => false
def toAt (S : List Span) (r last : Int) : Int := match spanAt S r with
  | some x => min last x.t
  | none => last
structure Four where
  s0 : List Span
  s1 : List Span
  s2 : List Span
  s3 : List Span
def Four.all (F : Four) : List (List Span) := [F.s0, F.s1, F.s2, F.s3]
def flgAt (F : Four) (r : Int) : Flg := ⟨oneAt F.s0 r, oneAt F.s1 r, oneAt F.s2 r, oneAt F.s3 r⟩
def lastAt (F : Four) (r : Int) : Int := toAt F.s3 r (toAt F.s2 r (toAt F.s1 r (toAt F.s0 r 1114111)))
def uptoS (at' : Int) : List Span → Int → Int
  | [], last => last
  | s :: S, last => uptoS at' S (if at' < s.f ∧ s.f ≤ last then s.f - 1 else last)
def uptoL (at' : Int) : List (List Span) → Int → Int
  | [], last => last
  | S :: SS, last => uptoL at' SS (uptoS at' S last)
def pieceAt (F : Four) (r : Int) : List (Pc Flg) := if flgAt F r = noFlg then [] else [⟨r, uptoL r F.all (lastAt F r), flgAt F r⟩]
def piecesF (F : Four) (C : List Int) : List (Pc Flg) := C.flatMap (pieceAt F)

theorem uptoS_le (a : Int) : ∀ (S : List Span) (last : Int), uptoS a S last ≤ last ∧ ∀ s ∈ S, a < s.f → uptoS a S last < s.f := by
  intro S
  induction S with
  | nil => intro last; exact ⟨Int.le_refl _, fun s h => by cases h⟩
  | cons z S ih =>
    intro last
    obtain ⟨h1, h2⟩ := ih (if a < z.f ∧ z.f ≤ last then z.f - 1 else last)
    have e : uptoS a (z :: S) last = uptoS a S (if a < z.f ∧ z.f ≤ last then z.f - 1 else last) := rfl
    rw [e]
    refine ⟨?_, fun s hs ha => ?_⟩
    · split at h1 <;> split <;> omega
    · rcases List.mem_cons.1 hs with rfl | hs
      · split at h1 <;> split <;> omega
      · exact h2 s hs ha
theorem uptoS_ge (a i : Int) : ∀ (S : List Span) (last : Int), i ≤ last → (∀ s ∈ S, a < s.f → i < s.f) → i ≤ uptoS a S last := by
  intro S
  induction S with
  | nil => intro last h _; exact h
  | cons z S ih =>
    intro last h hs
    have e : uptoS a (z :: S) last = uptoS a S (if a < z.f ∧ z.f ≤ last then z.f - 1 else last) := rfl
    rw [e]
    refine ih _ ?_ (fun s hm => hs s (List.mem_cons_of_mem _ hm))
    split
    · rename_i hc; have := hs z List.mem_cons_self hc.1; omega
    · exact h
theorem uptoL_le (a : Int) : ∀ (SS : List (List Span)) (last : Int), uptoL a SS last ≤ last ∧ ∀ S ∈ SS, ∀ s ∈ S, a < s.f → uptoL a SS last < s.f := by
  intro SS
  induction SS with
  | nil => intro last; exact ⟨Int.le_refl _, fun s h => by cases h⟩
  | cons Z SS ih =>
    intro last
    obtain ⟨h1, h2⟩ := ih (uptoS a Z last)
    obtain ⟨k1, k2⟩ := uptoS_le a Z last
    have e : uptoL a (Z :: SS) last = uptoL a SS (uptoS a Z last) := rfl
    rw [e]
    refine ⟨by omega, fun S hS s hs ha => ?_⟩
    rcases List.mem_cons.1 hS with rfl | hS
    · have := k2 s hs ha; omega
    · exact h2 S hS s hs ha
theorem uptoL_ge (a i : Int) : ∀ (SS : List (List Span)) (last : Int), i ≤ last → (∀ S ∈ SS, ∀ s ∈ S, a < s.f → i < s.f) → i ≤ uptoL a SS last := by
  intro SS
  induction SS with
  | nil => intro last h _; exact h
  | cons Z SS ih =>
    intro last h hs
    exact ih _ (uptoS_ge a i Z last h (hs Z List.mem_cons_self)) (fun S hS => hs S (List.mem_cons_of_mem _ hS))

theorem spanAt_some {S : List Span} {r : Int} {x : Span} (h : spanAt S r = some x) : x ∈ S ∧ x.f ≤ r ∧ r ≤ x.t := ⟨List.mem_of_find?_eq_some h, hasS_iff.1 (List.find?_some h)⟩
theorem spanAt_of {S : List Span} (h : Dis S) {r : Int} {x : Span} (hx : x ∈ S) (h1 : x.f ≤ r) (h2 : r ≤ x.t) : spanAt S r = some x := by
  unfold spanAt
  cases hf : S.find? (hasS r) with
  | none => exact absurd (hasS_iff.2 ⟨h1, h2⟩) (by simpa using List.find?_eq_none.1 hf x hx)
  | some y => rw [one_of_dis h hx (List.mem_of_find?_eq_some hf) (hasS_iff.2 ⟨h1, h2⟩) (List.find?_some hf)]
theorem toAt_le (S : List Span) (r last : Int) : toAt S r last ≤ last ∧ ∀ x, spanAt S r = some x → toAt S r last ≤ x.t := by
  unfold toAt
  cases h : spanAt S r with
  | none => exact ⟨Int.le_refl _, fun x h => by cases h⟩
  | some x => exact ⟨by dsimp only; omega, fun y hy => by cases hy; dsimp only; omega⟩
theorem toAt_ge (S : List Span) (r last i : Int) (h : i ≤ last) (hx : ∀ x, spanAt S r = some x → i ≤ x.t) : i ≤ toAt S r last := by
  unfold toAt
  cases hs : spanAt S r with
  | none => exact h
  | some x => have := hx x hs; dsimp only; omega

theorem lastAt_le (F : Four) (r : Int) : lastAt F r ≤ 1114111 ∧ ∀ S ∈ F.all, ∀ x, spanAt S r = some x → lastAt F r ≤ x.t := by
  unfold lastAt
  have h0 := toAt_le F.s0 r 1114111
  have h1 := toAt_le F.s1 r (toAt F.s0 r 1114111)
  have h2 := toAt_le F.s2 r (toAt F.s1 r (toAt F.s0 r 1114111))
  have h3 := toAt_le F.s3 r (toAt F.s2 r (toAt F.s1 r (toAt F.s0 r 1114111)))
  refine ⟨by omega, fun S hS x hx => ?_⟩
  unfold Four.all at hS
  simp at hS
  rcases hS with rfl | rfl | rfl | rfl
  · have := h0.2 x hx; omega
  · have := h1.2 x hx; omega
  · have := h2.2 x hx; omega
  · have := h3.2 x hx; omega
theorem lastAt_ge (F : Four) (r i : Int) (h : i ≤ 1114111) (hx : ∀ S ∈ F.all, ∀ x, spanAt S r = some x → i ≤ x.t) : i ≤ lastAt F r := by
  unfold lastAt
  refine toAt_ge _ _ _ _ (toAt_ge _ _ _ _ (toAt_ge _ _ _ _ (toAt_ge _ _ _ _ h ?_) ?_) ?_) ?_
  · exact hx F.s0 (by simp [Four.all])
  · exact hx F.s1 (by simp [Four.all])
  · exact hx F.s2 (by simp [Four.all])
  · exact hx F.s3 (by simp [Four.all])

/-- within a piece nothing changes -/
theorem spanAt_same {F : Four} (hG : ∀ S ∈ F.all, Good S) {a i : Int} (h1 : a ≤ i) (h2 : i ≤ uptoL a F.all (lastAt F a)) : ∀ S ∈ F.all, spanAt S i = spanAt S a := by
  obtain ⟨u1, u2⟩ := uptoL_le a F.all (lastAt F a)
  obtain ⟨l1, l2⟩ := lastAt_le F a
  intro S hS
  have hd := (hG S hS).ris.dis
  cases ha : spanAt S a with
  | some x =>
    obtain ⟨hx, h3, h4⟩ := spanAt_some ha
    have := l2 S hS x ha
    exact spanAt_of hd hx (by omega) (by omega)
  | none =>
    cases hi : spanAt S i with
    | none => rfl
    | some y =>
      exfalso
      obtain ⟨hy, h3, h4⟩ := spanAt_some hi
      by_cases hc : a < y.f
      · have := u2 S hS y hy hc; omega
      · rw [spanAt_of hd hy (by omega) (by omega)] at ha; cases ha
theorem flgAt_same {F : Four} (hG : ∀ S ∈ F.all, Good S) {a i : Int} (h1 : a ≤ i) (h2 : i ≤ uptoL a F.all (lastAt F a)) : flgAt F i = flgAt F a := by
  have h := spanAt_same hG h1 h2
  have e : ∀ S ∈ F.all, oneAt S i = oneAt S a := fun S hS => by unfold oneAt; rw [h S hS]
  unfold flgAt
  rw [e F.s0 (by simp [Four.all]), e F.s1 (by simp [Four.all]), e F.s2 (by simp [Four.all]), e F.s3 (by simp [Four.all])]

theorem flgAt_none {F : Four} {r : Int} (h : ∀ S ∈ F.all, spanAt S r = none) : flgAt F r = noFlg := by
  have e : ∀ S ∈ F.all, oneAt S r = false := fun S hS => by unfold oneAt; rw [h S hS]
  unfold flgAt noFlg
  rw [e F.s0 (by simp [Four.all]), e F.s1 (by simp [Four.all]), e F.s2 (by simp [Four.all]), e F.s3 (by simp [Four.all])]

/-- where truths may change -/
structure Cuts (F : Four) (C : List Int) : Prop where
  zero : (0 : Int) ∈ C
  from_ : ∀ S ∈ F.all, ∀ s ∈ S, s.f ∈ C
  to_ : ∀ S ∈ F.all, ∀ s ∈ S, s.t + 1 ∈ C

theorem max_le (C : List Int) (i : Int) (h0 : (0 : Int) ∈ C) (hi : 0 ≤ i) : ∃ m ∈ C, m ≤ i ∧ ∀ c ∈ C, c ≤ i → c ≤ m := by
  have key : ∀ (C : List Int), (∃ m ∈ C, m ≤ i ∧ ∀ c ∈ C, c ≤ i → c ≤ m) ∨ ∀ c ∈ C, i < c := by
    intro C
    induction C with
    | nil => exact .inr fun c h => by cases h
    | cons x C ih =>
      rcases ih with ⟨m, hm, h1, h2⟩ | h
      · by_cases hx : x ≤ i ∧ m < x
        · refine .inl ⟨x, List.mem_cons_self, hx.1, fun c hc h3 => ?_⟩
          rcases List.mem_cons.1 hc with rfl | hc
          · exact Int.le_refl _
          · have := h2 c hc h3; omega
        · refine .inl ⟨m, List.mem_cons_of_mem _ hm, h1, fun c hc h3 => ?_⟩
          rcases List.mem_cons.1 hc with rfl | hc
          · omega
          · exact h2 c hc h3
      · by_cases hx : x ≤ i
        · refine .inl ⟨x, List.mem_cons_self, hx, fun c hc h3 => ?_⟩
          rcases List.mem_cons.1 hc with rfl | hc
          · exact Int.le_refl _
          · have := h c hc; omega
        · refine .inr fun c hc => ?_
          rcases List.mem_cons.1 hc with rfl | hc
          · omega
          · exact h c hc
  rcases key C with h | h
  · exact h
  · have := h 0 h0; omega

theorem piecesF_says {F : Four} {C : List Int} (hG : ∀ S ∈ F.all, Good S) (hC : Cuts F C) (i : Int) (h0 : 0 ≤ i) (h1 : i ≤ 1114111) : pv noFlg (piecesF F C) i = flgAt F i := by
  unfold pv
  cases hf : (piecesF F C).find? (hasP i) with
  | some p =>
    dsimp only
    have hp := List.mem_of_find?_eq_some hf
    have hi := hasP_iff.1 (List.find?_some hf)
    obtain ⟨a, ha, hpa⟩ := List.mem_flatMap.1 hp
    unfold pieceAt at hpa
    split at hpa
    · cases hpa
    · simp at hpa
      subst hpa
      exact (flgAt_same hG hi.1 hi.2).symm
  | none =>
    dsimp only
    rcases Decidable.em (flgAt F i = noFlg) with he | he
    · exact he.symm
    · exfalso
      obtain ⟨m, hm, hmi, hmx⟩ := max_le C i hC.zero h0
      have hu : i ≤ uptoL m F.all (lastAt F m) := by
        refine uptoL_ge _ _ _ _ (lastAt_ge F m i h1 ?_) ?_
        · intro S hS x hx
          obtain ⟨hxS, _, h3⟩ := spanAt_some hx
          have := hC.to_ S hS x hxS
          rcases Int.lt_or_le x.t i with h4 | h4
          · have := hmx _ this (by omega); omega
          · exact h4
        · intro S hS s hs h3
          have := hC.from_ S hS s hs
          rcases Int.lt_or_le i s.f with h4 | h4
          · exact h4
          · have := hmx _ this h4; omega
      have hsame := flgAt_same hG hmi hu
      have hne : flgAt F m ≠ noFlg := fun e => he (hsame.trans e)
      have hmem : (⟨m, uptoL m F.all (lastAt F m), flgAt F m⟩ : Pc Flg) ∈ piecesF F C := List.mem_flatMap.2 ⟨m, hm, by unfold pieceAt; rw [if_neg hne]; exact List.mem_singleton.2 rfl⟩
      have := List.find?_eq_none.1 hf _ hmem
      exact this (hasP_iff.2 ⟨hmi, hu⟩)
end Go.Proofs.YtkeainhjghdfcaaGreat

/- Maps of the call's own, of whatever keys Go lets, as functions. No program is named here. -/
namespace Go.Proofs.YtkeainhjghdfcaaGreat
open Go.RowKit Go.Maps Go.WideShapes Go.ChangeMaps

section
variable {α β : Type}

/-- Keys of type k are read as α's; those that are ok may stand in a map. -/
structure KeyE (P : Program) (k : TypeId) (ek : α → Value) (ok : α → Prop) : Prop where
  K : Keyed P k
  lit : ∀ a, ok a → ∃ l, keyOf P k (ek a) = some l
  inj : ∀ a b, ek a = ek b → a = b

/-- Block b is a map that holds f. -/
def MapFn (ek : α → Value) (ev : β → Value) (ok : α → Prop) (w : World) (b : Nat) (f : α → Option β) : Prop :=
  ∃ es clock, w.heap[b]? = some (.map es clock) ∧ (∀ e ∈ es.toList, ∃ a c, ok a ∧ e.key = ek a ∧ e.val = ev c ∧ f a = some c) ∧
    (∀ a c, f a = some c → ∃ e ∈ es.toList, e.key = ek a ∧ e.val = ev c) ∧ es.toList.Pairwise (fun x y => x.key ≠ y.key)

def fnPut [DecidableEq α] (f : α → Option β) (x : α) (v : β) : α → Option β := fun a => if a = x then some v else f a
theorem fnPut_same [DecidableEq α] (f : α → Option β) (x : α) (v : β) : fnPut f x v x = some v := by unfold fnPut; rw [if_pos rfl]
theorem fnPut_other [DecidableEq α] (f : α → Option β) {x a : α} (v : β) (h : a ≠ x) : fnPut f x v a = f a := by unfold fnPut; rw [if_neg h]

theorem mapFn_made (ek : α → Value) (ev : β → Value) (ok : α → Prop) (w : World) : MapFn ek ev ok (w.alloc (.map #[] 0)) w.heap.size (fun _ => none) :=
  ⟨#[], 0, heap_alloc_new w _, by simp, by simp, by simp⟩

variable {ek : α → Value} {ev : β → Value} {ok : α → Prop} {P : Program} {k : TypeId}

theorem MapFn.lt {w : World} {b : Nat} {f : α → Option β} (h : MapFn ek ev ok w b f) : b < w.heap.size := by
  obtain ⟨es, clock, hb, _⟩ := h
  exact (Array.getElem?_eq_some_iff.1 hb).1
theorem MapFn.same {w w' : World} {b : Nat} {f : α → Option β} (h : MapFn ek ev ok w b f) (hb : w'.heap[b]? = w.heap[b]?) : MapFn ek ev ok w' b f := by
  obtain ⟨es, clock, h1, h2⟩ := h
  exact ⟨es, clock, hb.trans h1, h2⟩
theorem MapFn.below {w w' : World} {b : Nat} {f : α → Option β} (h : MapFn ek ev ok w b f) (hb : Below w.heap.size w w') : MapFn ek ev ok w' b f := h.same (hb.block b h.lt)
theorem MapFn.grown {w w' : World} {b : Nat} {r : Option Nat} {f : α → Option β} (h : MapFn ek ev ok w b f) (hb : w.grownBy w' r) (hr : some b ≠ r) : MapFn ek ev ok w' b f := h.same (hb.block b h.lt hr)

theorem run_look (E : KeyE P k ek ok) {w : World} {b : Nat} {f : α → Option β} (h : MapFn ek ev ok w b f) {t e : TypeId} (ht : P.underlying t = some (.map k e)) {z : Value} (hz : (zeroValue e).run P w = .ok z w) (c : Bool) (x : α) (hx : ok x) :
    (Instr.lookup t (.map (some b)) (ek x) c).run P w = .ok (match f x with | some v => (if c then .tuple #[ev v, .bool true] else ev v) | none => (if c then .tuple #[z, .bool false] else z)) w := by
  obtain ⟨es, clock, hb, h1, h2, h3⟩ := h
  obtain ⟨l, hl⟩ := E.lit x hx
  rcases E.K.find w hl es.toList (fun e he => by obtain ⟨a, c, ha, hk, _⟩ := h1 e he; rw [hk]; exact E.lit a ha) with ⟨g1, g2⟩ | ⟨j, e0, g1, g2, g3⟩
  · have hf : f x = none := by
      cases hfx : f x with
      | none => rfl
      | some v => obtain ⟨e1, he1, hk1, _⟩ := h2 x v hfx; exact absurd hk1 (g2 e1 he1)
    rw [hf]
    simp [Instr.lookup, run_underlying ht, MapKept.run_getObj_map hb, E.K.check w _ hl, g1, hz, Result.andThen]
  · obtain ⟨a, v, ha, hk, hv, hfa⟩ := h1 e0 (List.mem_of_getElem? g2)
    have : a = x := E.inj _ _ (hk.symm.trans g3)
    subst this
    rw [hfa]
    simp [Instr.lookup, run_underlying ht, MapKept.run_getObj_map hb, E.K.check w _ hl, g1, hv, Result.andThen]

theorem run_put [DecidableEq α] (E : KeyE P k ek ok) {w : World} {b : Nat} {f : α → Option β} (h : MapFn ek ev ok w b f) {t e : TypeId} (ht : P.underlying t = some (.map k e)) (x : α) (v : β) (hx : ok x) :
    ∃ w', (Instr.mapUpdate t (.map (some b)) (ek x) (ev v)).run P w = .ok () w' ∧ MapFn ek ev ok w' b (fnPut f x v) ∧ w.grownBy w' (some b) := by
  obtain ⟨es, clock, hb, h1, h2, h3⟩ := h
  obtain ⟨l, hl⟩ := E.lit x hx
  rcases E.K.find w hl es.toList (fun e he => by obtain ⟨a, c, ha, hk, _⟩ := h1 e he; rw [hk]; exact E.lit a ha) with ⟨g1, g2⟩ | ⟨j, e0, g1, g2, g3⟩
  · refine ⟨setBlock w b (.map (es.push ⟨ek x, ev v, clock⟩) (clock + 1)), ?_, ⟨_, _, heap_setBlock_same hb _, ?_, ?_, ?_⟩, ⟨rfl, rfl, rfl, by simp [setBlock], fun i _ hi => heap_setBlock_other hb _ (fun e => hi (by rw [e]))⟩⟩
    · simp [Instr.mapUpdate, run_underlying ht, MapKept.run_getObj_map hb, E.K.check w false hl, g1, MapKept.run_setObj_map _ hb, Result.andThen, setBlock]
    · intro e he
      simp only [Array.toList_push, List.mem_append, List.mem_singleton] at he
      rcases he with he | rfl
      · obtain ⟨a, c, ha, hk, hv, hf⟩ := h1 e he
        refine ⟨a, c, ha, hk, hv, ?_⟩
        rw [fnPut_other]
        · exact hf
        · intro e1; subst e1; exact g2 e he hk
      · exact ⟨x, v, hx, rfl, rfl, fnPut_same _ _ _⟩
    · intro a c hac
      simp only [Array.toList_push, List.mem_append, List.mem_singleton]
      by_cases hax : a = x
      · subst hax
        rw [fnPut_same] at hac
        cases hac
        exact ⟨_, .inr rfl, rfl, rfl⟩
      · rw [fnPut_other _ _ hax] at hac
        obtain ⟨e, he, r⟩ := h2 a c hac
        exact ⟨e, .inl he, r⟩
    · rw [Array.toList_push, List.pairwise_append]
      exact ⟨h3, by simp, fun e he y hy => by simp at hy; subst hy; exact g2 e he⟩
  · have hj : es[j]? = some e0 := by simpa using g2
    have hjl : j < es.toList.length := (List.getElem?_eq_some_iff.1 g2).1
    have hlist : (es.modify j (fun e' => { e' with key := ek x, val := ev v })).toList = es.toList.set j { e0 with key := ek x, val := ev v } := by rw [Array.toList_modify, modify_eq_set _ _ _ _ g2]
    have hother : ∀ i e1, es.toList[i]? = some e1 → i ≠ j → e1.key ≠ ek x := by
      intro i e1 hi hij hk
      have hil := (List.getElem?_eq_some_iff.1 hi)
      have hjj := (List.getElem?_eq_some_iff.1 g2)
      rcases Nat.lt_or_gt_of_ne hij with hlt | hlt
      · exact List.pairwise_iff_getElem.1 h3 i j hil.1 hjl hlt (by rw [hil.2, hjj.2, hk, g3])
      · exact List.pairwise_iff_getElem.1 h3 j i hjl hil.1 hlt (by rw [hil.2, hjj.2, hk, g3])
    refine ⟨setBlock w b (.map (es.modify j (fun e' => { e' with key := ek x, val := ev v })) clock), ?_, ⟨_, _, heap_setBlock_same hb _, ?_, ?_, ?_⟩, ⟨rfl, rfl, rfl, by simp [setBlock], fun i _ hi => heap_setBlock_other hb _ (fun e => hi (by rw [e]))⟩⟩
    · have hst := E.K.stays w hl
      simp [Instr.mapUpdate, run_underlying ht, MapKept.run_getObj_map hb, E.K.check w false hl, g1, hj, g3, hst, MapKept.run_setObj_map _ hb, Result.andThen, setBlock]
    · intro e he
      rw [hlist] at he
      obtain ⟨i, hi⟩ := List.mem_iff_getElem?.1 he
      by_cases hij : i = j
      · subst hij
        rw [List.getElem?_set_self hjl] at hi
        cases hi
        exact ⟨x, v, hx, rfl, rfl, fnPut_same _ _ _⟩
      · rw [List.getElem?_set_ne (by omega)] at hi
        obtain ⟨a, c, ha, hk, hv, hf⟩ := h1 e (List.mem_of_getElem? hi)
        refine ⟨a, c, ha, hk, hv, ?_⟩
        rw [fnPut_other]
        · exact hf
        · intro e1; subst e1; exact hother i e hi hij hk
    · intro a c hac
      rw [hlist]
      by_cases hax : a = x
      · subst hax
        rw [fnPut_same] at hac
        cases hac
        exact ⟨_, List.mem_of_getElem? (List.getElem?_set_self hjl), rfl, rfl⟩
      · rw [fnPut_other _ _ hax] at hac
        obtain ⟨e, he, hk, hv⟩ := h2 a c hac
        obtain ⟨i, hi⟩ := List.mem_iff_getElem?.1 he
        have hij : i ≠ j := by
          intro e1; subst e1
          rw [hi] at g2; cases g2
          exact hax (E.inj _ _ (hk.symm.trans g3))
        exact ⟨e, List.mem_of_getElem? ((List.getElem?_set_ne (by omega)).trans hi), hk, hv⟩
    · rw [hlist, List.pairwise_iff_getElem]
      intro i l hi hl' hil
      rw [List.length_set] at hi hl'
      have hk : ∀ i (hi : i < es.toList.length), ((es.toList.set j { e0 with key := ek x, val := ev v })[i]'(by rw [List.length_set]; exact hi)).key = (es.toList[i]).key := by
        intro i hi
        by_cases hij : i = j
        · subst hij
          rw [List.getElem_set_self]
          have := (List.getElem?_eq_some_iff.1 g2).2
          rw [this, g3]
        · rw [List.getElem_set_ne (by omega)]
      rw [hk i hi, hk l hl']
      exact List.pairwise_iff_getElem.1 h3 i l hi hl' hil

/-! ### at the operation -/
variable (w : World) {ops : Array Oper} {rest : List Oper} {o : Oper} {a : Act} {Q : Exit → Act → World → Prop}
/-- 'v, ok := m[x]' -/
theorem wpList_look_ok (hg : o.guard = none) (m x : Operand) (t : TypeId) (hop : o.op = Op.lookup t m x true) (E : KeyE P k ek ok) {e : TypeId} (ht : P.underlying t = some (.map k e)) {z : Value} (hz : (zeroValue e).run P w = .ok z w)
    (b : Nat) (f : α → Option β) (hm : a.eval m = .map (some b)) (h : MapFn ek ev ok w b f) (y : α) (hx : a.eval x = ek y) (hy : ok y)
    (h1 : ∀ v, f y = some v → wpList P ops Q rest (a.put o.dst (.tuple #[ev v, .bool true])) w) (h0 : f y = none → wpList P ops Q rest (a.put o.dst (.tuple #[z, .bool false])) w) : wpList P ops Q (o :: rest) a w := by
  refine wpList_plain hg fun K' hK' => ?_
  have hrun := run_look E h ht hz true y hy
  unfold Oper.wp
  simp [execOp, hop, hm, hx, hrun, Result.andThen]
  cases hf : f y with
  | some v => exact hK' _ _ (h1 v hf)
  | none => exact hK' _ _ (h0 hf)
/-- 'm[x]' -/
theorem wpList_look (hg : o.guard = none) (m x : Operand) (t : TypeId) (hop : o.op = Op.lookup t m x false) (E : KeyE P k ek ok) {e : TypeId} (ht : P.underlying t = some (.map k e)) {z : Value} (hz : (zeroValue e).run P w = .ok z w)
    (b : Nat) (f : α → Option β) (hm : a.eval m = .map (some b)) (h : MapFn ek ev ok w b f) (y : α) (hx : a.eval x = ek y) (hy : ok y)
    (h1 : ∀ v, f y = some v → wpList P ops Q rest (a.put o.dst (ev v)) w) (h0 : f y = none → wpList P ops Q rest (a.put o.dst z) w) : wpList P ops Q (o :: rest) a w := by
  refine wpList_plain hg fun K' hK' => ?_
  have hrun := run_look E h ht hz false y hy
  unfold Oper.wp
  simp [execOp, hop, hm, hx, hrun, Result.andThen]
  cases hf : f y with
  | some v => exact hK' _ _ (h1 v hf)
  | none => exact hK' _ _ (h0 hf)
/-- 'm[x] = v' -/
theorem wpList_put [DecidableEq α] (hg : o.guard = none) (m x v : Operand) (t : TypeId) (hop : o.op = Op.mapUpdate t m x v) (E : KeyE P k ek ok) {e : TypeId} (ht : P.underlying t = some (.map k e))
    (b : Nat) (f : α → Option β) (hm : a.eval m = .map (some b)) (h : MapFn ek ev ok w b f) (y : α) (u : β) (hx : a.eval x = ek y) (hv : a.eval v = ev u) (hy : ok y)
    (hK : ∀ w', MapFn ek ev ok w' b (fnPut f y u) → w.grownBy w' (some b) → wpList P ops Q rest (a.put o.dst undef) w') : wpList P ops Q (o :: rest) a w := by
  refine wpList_plain hg fun K' hK' => ?_
  obtain ⟨w', hrun, r1, r2⟩ := run_put E h ht y u hy
  unfold Oper.wp
  simp [execOp, hop, hm, hx, hv, hrun, Result.andThen]
  exact hK' _ _ (hK w' r1 r2)
end

/-! ### keys that are arrays or structs -/
theorem mapM_some {α β : Type} (f : α → Option β) : ∀ l : List α, (∀ x ∈ l, ∃ y, f x = some y) → ∃ ys, l.mapM f = some ys := by
  intro l
  induction l with
  | nil => intro _; exact ⟨[], rfl⟩
  | cons x l ih =>
    intro h
    obtain ⟨y, hy⟩ := h x List.mem_cons_self
    obtain ⟨ys, hys⟩ := ih (fun z hz => h z (List.mem_cons_of_mem _ hz))
    exact ⟨y :: ys, by rw [List.mapM_cons, hy, hys]; rfl⟩

/-- the cells cs are a key of type t -/
def IsKey (P : Program) (d : Nat) (t : TypeId) (cs : List Value) : Prop := ∃ l, P.keyLits d t cs = some l
theorem isKey_int {P : Program} {d : Nat} {t : TypeId} {q : IntKind} {n : Int} (ht : P.underlying t = some (.int q)) (hw : (Lit.int q n).wf = true) : IsKey P (d + 1) t [.int q n] := by
  refine ⟨[.int q n], ?_⟩
  unfold Program.keyLits
  rw [ht]
  simp [hw]
theorem isKey_bool {P : Program} {d : Nat} {t : TypeId} {b : Bool} (ht : P.underlying t = some .bool) : IsKey P (d + 1) t [.bool b] := by
  refine ⟨[.bool b], ?_⟩
  unfold Program.keyLits
  rw [ht]
theorem isKey_array {P : Program} {d : Nat} {t e : TypeId} {n c : Nat} {cs : List Value} (ht : P.underlying t = some (.array n e)) (hl : cs.length = P.cellsOf t) (hc : P.cellsOf e = c) (h : ∀ i, i < n → IsKey P d e ((cs.drop (i * c)).take c)) : IsKey P (d + 1) t cs := by
  subst hc
  obtain ⟨ys, hys⟩ := mapM_some (fun i => P.keyLits d e ((cs.drop (i * P.cellsOf e)).take (P.cellsOf e))) (List.range n) (fun i hi => h i (List.mem_range.1 hi))
  refine ⟨ys.flatten, ?_⟩
  unfold Program.keyLits
  rw [ht]
  simp only [hl, if_true]
  rw [hys]; rfl
theorem isKey_struct {P : Program} {d : Nat} {t : TypeId} {fs : Array Field} {cs : List Value} (ht : P.underlying t = some (.struct fs)) (hl : cs.length = P.cellsOf t) (hn : fs.all (·.name != "_") = true) (h : ∀ f ∈ fs.toList, IsKey P d f.type ((cs.drop f.offset).take (P.cellsOf f.type))) : IsKey P (d + 1) t cs := by
  obtain ⟨ys, hys⟩ := mapM_some (fun f : Field => P.keyLits d f.type ((cs.drop f.offset).take (P.cellsOf f.type))) fs.toList h
  refine ⟨ys.flatten, ?_⟩
  unfold Program.keyLits
  rw [ht]
  simp only [hl, hn, and_self, if_true]
  rw [hys]; rfl
theorem keyOf_agg {P : Program} {k : TypeId} {cs : List Value} (hw : (match P.underlying k with | some (.array _ _) | some (.struct _) => true | _ => false) = true) (hk : P.keyType k = true) (hl : cs.length = P.cellsOf k) (h : IsKey P (P.types.size + 1) k cs) : ∃ l, keyOf P k (.agg cs.toArray) = some l := by
  obtain ⟨l, hl'⟩ := h
  have hf : (Value.agg cs.toArray).formed P k = true := by
    unfold Value.formed
    split at hw <;> simp_all
  have hcs : (Value.agg cs.toArray).cells.toList = cs := by simp [Value.cells]
  unfold keyOf
  split
  · rw [hk, hf, hcs, hl']; exact ⟨_, rfl⟩
  · rw [hk, hf, hcs, hl']; exact ⟨_, rfl⟩
  · rename_i h1 h2
    split at hw
    · rename_i hq; exact absurd hq (h1 _ _)
    · rename_i hq; exact absurd hq (h2 _)
    · cases hw
end Go.Proofs.YtkeainhjghdfcaaGreat

/- What the walk of tries needs: arrays of many cells loaded, maps asked, in regions that draw their order; the maker's state. No program is named here. -/
namespace Go.Proofs.YtkeainhjghdfcaaGreat
open Go.RowKit

section
variable {P : Program} {ops : Array Oper}
theorem run_load_row {o : Oper} {a : Act} {w : World} (ty : TypeId) (x : Operand) (ho : o.op = .load ty x)
    (g : Nat) (hx : a.eval x = .pointer (some ⟨g, 0, none⟩)) (t : TypeId) (cs : Array Value) (fr : Nat × Nat) (d : TypeDesc) (hg : w.heap[g]? = some (.cells cs t fr))
    (hu : P.underlying ty = some d) (hd : (match d with | .struct _ | .array _ _ => true | _ => false) = true) (hi : (P.info? ty).map (·.size) = some cs.size) :
    (execOp a.eval o).run P w = .ok (.value (.agg cs)) w := by
  unfold execOp
  simp only [ho, hx, Instr.loadAt, Instr.sureAddr, Sem.run_bind, Sem.run_pure, Result.andThen_ok, run_loadVar_row w g t ty cs fr d hg hu hd hi]

theorem quiet_row {Q : Act → Prop} {o : Oper} {rest : List Oper} {a : Act} {w : World} (hgd : o.guard = none) (ty : TypeId) (x : Operand) (ho : o.op = .load ty x)
    (g : Nat) (hx : a.eval x = .pointer (some ⟨g, 0, none⟩)) (t : TypeId) (cs : Array Value) (fr : Nat × Nat) (d : TypeDesc) (hg : w.heap[g]? = some (.cells cs t fr))
    (hu : P.underlying ty = some d) (hd : (match d with | .struct _ | .array _ _ => true | _ => false) = true) (hi : (P.info? ty).map (·.size) = some cs.size)
    (h : wpQuiet P ops (fun w' => ∃ n, w' = w.drewN n) Q rest (a.put o.dst (.agg cs))) : wpQuiet P ops (fun w' => ∃ n, w' = w.drewN n) Q (o :: rest) a := by
  refine wpQuiet_step fun K hK => ?_
  rw [if_pos (by simp [Region.wanted, hgd])]
  refine ⟨.agg cs, ?_, hK _ h⟩
  rintro w' ⟨n, rfl⟩
  unfold Oper.quietAt
  rw [run_load_row ty x ho g hx t cs fr d (w := w.drewN n) hg hu hd hi]
  exact ⟨rfl, rfl⟩

theorem quiet_look {α β : Type} {ek : α → Value} {ev : β → Value} {ok : α → Prop} {Q : Act → Prop} {o : Oper} {rest : List Oper} {a : Act} {w : World} (hgd : o.guard = none) (m x : Operand) (t : TypeId) (ho : o.op = .lookup t m x true)
    {k e : TypeId} (E : KeyE P k ek ok) (ht : P.underlying t = some (.map k e)) {z : Value} (hz : ∀ w, (zeroValue e).run P w = .ok z w) (b : Nat) (f : α → Option β) (hm : a.eval m = .map (some b)) (hf : MapFn ek ev ok w b f) (y : α) (hx : a.eval x = ek y) (hy : ok y)
    (h1 : ∀ v, f y = some v → wpQuiet P ops (fun w' => ∃ n, w' = w.drewN n) Q rest (a.put o.dst (.tuple #[ev v, .bool true]))) (h0 : f y = none → wpQuiet P ops (fun w' => ∃ n, w' = w.drewN n) Q rest (a.put o.dst (.tuple #[z, .bool false]))) :
    wpQuiet P ops (fun w' => ∃ n, w' = w.drewN n) Q (o :: rest) a := by
  refine wpQuiet_step fun K hK => ?_
  rw [if_pos (by simp [Region.wanted, hgd])]
  have hrun : ∀ n, (execOp a.eval o).run P (w.drewN n) = .ok (.value (match f y with | some v => .tuple #[ev v, .bool true] | none => .tuple #[z, .bool false])) (w.drewN n) := by
    intro n
    have := run_look E (w := w.drewN n) (hf.same rfl) ht (hz _) true y hy
    unfold execOp
    simp only [ho, hm, hx, Sem.run_bind, Sem.run_pure]
    rw [this]
    cases f y <;> simp [Result.andThen]
  cases hfy : f y with
  | some v =>
    refine ⟨_, ?_, hK _ (h1 v hfy)⟩
    rintro w' ⟨n, rfl⟩
    unfold Oper.quietAt
    rw [hrun n, hfy]
    exact ⟨rfl, rfl⟩
  | none =>
    refine ⟨_, ?_, hK _ (h0 hfy)⟩
    rintro w' ⟨n, rfl⟩
    unfold Oper.quietAt
    rw [hrun n, hfy]
    exact ⟨rfl, rfl⟩

theorem wp_load_row {o : Oper} {a : Act} {w : World} {K : Act → World → Prop} {Q : Exit → Act → World → Prop} (ty : TypeId) (x : Operand) (ho : o.op = .load ty x)
    (g : Nat) (hx : a.eval x = .pointer (some ⟨g, 0, none⟩)) (t : TypeId) (cs : Array Value) (fr : Nat × Nat) (d : TypeDesc) (hg : w.heap[g]? = some (.cells cs t fr))
    (hu : P.underlying ty = some d) (hd : (match d with | .struct _ | .array _ _ => true | _ => false) = true) (hi : (P.info? ty).map (·.size) = some cs.size)
    (h : K (a.put o.dst (.agg cs)) w) : o.wp P a w K Q := by
  unfold Oper.wp
  rw [run_load_row ty x ho g hx t cs fr d hg hu hd hi]
  exact h
theorem still_row {Q : Act → Prop} {o : Oper} {rest : List Oper} {a : Act} {w : World} (hgd : o.guard = none) (ty : TypeId) (x : Operand) (ho : o.op = .load ty x)
    (g : Nat) (hx : a.eval x = .pointer (some ⟨g, 0, none⟩)) (t : TypeId) (cs : Array Value) (fr : Nat × Nat) (d : TypeDesc) (hg : w.heap[g]? = some (.cells cs t fr))
    (hu : P.underlying ty = some d) (hd : (match d with | .struct _ | .array _ _ => true | _ => false) = true) (hi : (P.info? ty).map (·.size) = some cs.size)
    (h : wpStill P ops w Q rest (a.put o.dst (.agg cs))) : wpStill P ops w Q (o :: rest) a := by
  refine wpStill_step fun K hK => ?_
  rw [if_pos (by simp [Region.wanted, hgd])]
  unfold Oper.still
  rw [run_load_row ty x ho g hx t cs fr d hg hu hd hi]
  exact ⟨rfl, hK _ h⟩
end

/-- append in a region that draws its order. -/
theorem step_app4 {P : Program} {W : World} {ops : Array Oper} {o : Oper} {a : Act} {K : Act → World → Prop} {Q : Exit → Act → World → Prop} {F : Prop} (hgd : o.guard = none) (s x : Operand) (t : TypeId)
    (ho : o.op = .call { callee := .builtin .append, args := #[s, x], argTypes := #[t, t] })
    {base e size bytes : Nat} (E : ElemT P t e size bytes) (v : Value) (n : Nat) (xs : List Value) (hs : a.eval s = v) (hown : W.ownsRow base e size v n xs)
    (ad : Addr) (m c : Nat) (news : List Value) (hx : a.eval x = .slice (some ad) m c) (hm : 0 < m) (hl : news.length = m * size) (hnews : ∀ j u, news[j]? = some u → W.cell? (ad.add j) = some u) (h1 : ∀ u ∈ news, u.oneCell' = true)
    (hbytes : (n + m) * bytes ≤ 140737488355328) (hbase : base ≤ W.heap.size)
    (h : ∀ g cap w', w'.ownsRow base e size (.slice (some ⟨g, 0, none⟩) (n + m) cap) (n + m) (xs ++ news) → W.grownBy w' v.ownBlock → (v.ownBlock = some g ∨ W.heap.size ≤ g) → K (a.put o.dst (.slice (some ⟨g, 0, none⟩) (n + m) cap)) w') :
    if Region.wanted o (yielded ops a.tmps) = true then Oper.wp P o a W K Q else F := by
  rw [if_pos (by simp [Region.wanted, hgd])]
  obtain ⟨g, cap, w', hr, h2, h3, h4⟩ := run_app (P := P) (ty := o.type) W E v n xs hown ad m c news hm hl hnews h1 hbytes hbase
  unfold Oper.wp execOp
  simp only [ho, resolve, invoke, builtin, Sem.run_bind, Sem.run_pure, Result.andThen_ok, List.map_toArray, List.map_cons, List.map_nil, hs, hx, hr]
  exact h g cap w' h2 h3 h4
theorem news_of_alloc (w : World) (cs : List Value) (e : TypeId) (j : Nat) (u : Value) (h : cs[j]? = some u) : (w.alloc (.cells cs.toArray e)).cell? ((⟨w.heap.size, 0, none⟩ : Addr).add j) = some u := by
  have hadd : (⟨w.heap.size, 0, none⟩ : Addr).add j = ⟨w.heap.size, j, none⟩ := by unfold Addr.add; split <;> simp_all
  rw [hadd, cell_of_row _ w.heap.size j cs.toArray e (0, 0) (heap_alloc_new w _)]
  simpa using h

theorem setAll_get : ∀ (l : List Value) (k : Nat) (acc : Array Value), k + l.length ≤ acc.size → ∀ j, ((l.zipIdx k).foldl (fun cs (x : Value × Nat) => cs.setIfInBounds x.2 x.1) acc)[j]? = if k ≤ j ∧ j < k + l.length then l[j - k]? else acc[j]? := by
  intro l
  induction l with
  | nil => intro k acc _ j; simp; omega
  | cons x l ih =>
    intro k acc hk j
    rw [List.length_cons] at hk
    rw [List.zipIdx_cons, List.foldl_cons, ih (k + 1) _ (by simp; omega) j]
    by_cases h1 : k + 1 ≤ j ∧ j < k + 1 + l.length
    · rw [if_pos h1, if_pos (by rw [List.length_cons]; omega), show j - k = (j - (k + 1)) + 1 by omega]
      simp
    · rw [if_neg h1]
      by_cases h2 : j = k
      · subst h2
        rw [if_pos (by rw [List.length_cons]; omega), Nat.sub_self]
        simp [Array.getElem?_setIfInBounds]
        omega
      · rw [if_neg (by rw [List.length_cons]; omega)]
        simp [Ne.symm h2]
theorem run_buildSlice1 {P : Program} {t e : TypeId} {n : Nat} {z : Value} (hu : P.underlying t = some (.slice e)) (hs : ∀ w, (sizeOf e).run P w = .ok n w) (hz : ∀ w, (zeroValue e).run P w = .ok z w) (hn : 0 < n) (hm : n ≤ 16777216) (cs : Array Value) (hc : cs.size = n) (w : World) :
    (Instr.buildSlice t 1 #[(0, .agg cs)]).run P w = .ok (.slice (some ⟨w.heap.size, 0, none⟩) 1 1) (w.alloc (.cells cs e)) := by
  have hfill : Instr.fill (fun i => some (i * n, n)) ((Array.range (1 * n)).map (z.cells[· % z.cells.size]!)) [(0, .agg cs)] = some cs := by
    unfold Instr.fill
    simp only [Nat.zero_mul, Value.cells, Nat.zero_add]
    rw [if_neg (by simp [hc])]
    unfold Instr.fill
    refine congrArg some ?_
    refine Array.ext_getElem? fun j => ?_
    rw [← Array.foldl_toList, Array.toList_zipIdx]
    have := setAll_get cs.toList 0 ((Array.range (1 * n)).map (z.cells[· % z.cells.size]!)) (by simp [hc]) j
    refine this.trans ?_
    by_cases hj : j < n
    · rw [if_pos ⟨Nat.zero_le _, by simp [hc]; exact hj⟩]; simp
    · rw [if_neg (by simp [hc]; omega), Array.getElem?_eq_none (by simp; omega), Array.getElem?_eq_none (by omega)]
  unfold Instr.buildSlice
  have h0 : ¬ 1 * n = 0 := by omega
  have h1 : ¬ 1 * n > 2 ^ 24 := by omega
  simp only [Sem.run_bind, run_underlying hu, Result.andThen_ok, hs, Sem.run_ite, if_neg h0, if_neg h1, Sem.run_pure, hz]
  rw [hfill]
  simp [newRow]

theorem foldSet (cs : Array Value) (n : Nat) (hn : cs.size = n) (Z : Array Value) (hZ : Z.size = n) : Array.foldl (fun (cs : Array Value) (x : Value × Nat) => cs.setIfInBounds x.snd x.fst) Z cs.zipIdx 0 n = cs := by
  have e : n = cs.zipIdx.size := by simp [hn]
  rw [e, ← Array.foldl_toList, Array.toList_zipIdx]
  refine Array.ext_getElem? fun j => ?_
  refine (setAll_get cs.toList 0 Z (by simp [hn, hZ]) j).trans ?_
  by_cases hj : j < n
  · rw [if_pos ⟨Nat.zero_le _, by simp [hn]; exact hj⟩]; simp
  · rw [if_neg (by simp [hn]; omega), Array.getElem?_eq_none (by omega), Array.getElem?_eq_none (by omega)]
/-- '[]T{x}', x an array, in a region that draws its order. -/
theorem step_build1 {P : Program} {W : World} {ops : Array Oper} {o : Oper} {a : Act} {K : Act → World → Prop} {Q : Exit → Act → World → Prop} {F : Prop} (hgd : o.guard = none) (t : TypeId) (x : Operand)
    (ho : o.op = .buildSlice t 1 #[(0, x)]) {e : TypeId} {n : Nat} {z : Value} (hu : P.underlying t = some (.slice e)) (hs : ∀ w, (sizeOf e).run P w = .ok n w) (hz : ∀ w, (zeroValue e).run P w = .ok z w) (hn : 0 < n) (hm : n ≤ 16777216) (cs : Array Value) (hc : cs.size = n) (hx : a.eval x = .agg cs)
    (h : K (a.put o.dst (.slice (some ⟨W.heap.size, 0, none⟩) 1 1)) (W.alloc (.cells cs e))) : if Region.wanted o (yielded ops a.tmps) = true then Oper.wp P o a W K Q else F := by
  rw [if_pos (by simp [Region.wanted, hgd])]
  have hr := run_buildSlice1 hu hs hz hn hm cs hc W
  unfold Oper.wp execOp
  simp only [ho, List.map_toArray, List.map_cons, List.map_nil, hx, Sem.run_bind]
  rw [hr]
  exact h
/-- .. elsewhere. -/
theorem wpList_build1 {P : Program} {w : World} {ops : Array Oper} {rest : List Oper} {o : Oper} {a : Act} {Q : Exit → Act → World → Prop} (hgd : o.guard = none) (t : TypeId) (x : Operand)
    (ho : o.op = .buildSlice t 1 #[(0, x)]) {e : TypeId} {n : Nat} {z : Value} (hu : P.underlying t = some (.slice e)) (hs : ∀ w, (sizeOf e).run P w = .ok n w) (hz : ∀ w, (zeroValue e).run P w = .ok z w) (hn : 0 < n) (hm : n ≤ 16777216) (cs : Array Value) (hc : cs.size = n) (hx : a.eval x = .agg cs)
    (h : wpList P ops Q rest (a.put o.dst (.slice (some ⟨w.heap.size, 0, none⟩) 1 1)) (w.alloc (.cells cs e))) : wpList P ops Q (o :: rest) a w := by
  refine wpList_plain hgd fun K hK => ?_
  have hr := run_buildSlice1 hu hs hz hn hm cs hc w
  unfold Oper.wp execOp
  simp only [ho, List.map_toArray, List.map_cons, List.map_nil, hx, Sem.run_bind]
  rw [hr]
  exact hK _ _ h

/-! ### the maker's state -/
section
variable {α : Type}
def arrK (enc : α → List Value) (L : List α) : Value := .agg (L.flatMap enc).toArray
def okL (okv : α → Prop) (L : List α) : Prop := L.length = 128 ∧ ∀ x ∈ L, okv x
def natV (k : Nat) : Value := .int .i64 k
def arrE (enc : α → List Value) (L : List α) : List Value := L.flatMap enc

structure MkB (enc : α → List Value) (sz : Nat) (aT iT : TypeId) (w : World) (B0 B tb mb kb eb : Nat) (v1 v2 : Value) (ks : List Nat) (bl : List (List α)) : Prop where
  t0 : w.cell? ⟨tb, 0, none⟩ = some (.int .i64 1114112)
  t1 : w.cell? ⟨tb, 1, none⟩ = some v1
  t2 : w.cell? ⟨tb, 2, none⟩ = some v2
  f1 : w.frozen? ⟨tb, 1, none⟩ = false
  f2 : w.frozen? ⟨tb, 2, none⟩ = false
  m0 : w.cell? ⟨mb, 0, none⟩ = some (.pointer (some ⟨tb, 0, none⟩))
  m1 : w.cell? ⟨mb, 1, none⟩ = some (.map (some kb))
  m2 : w.cell? ⟨mb, 2, none⟩ = some (.map (some eb))
  o1 : w.ownsRow B iT 1 v1 ks.length (ks.map natV)
  o2 : w.ownsRow B aT (128 * sz) v2 bl.length (bl.flatMap (arrE enc))
  sep : Sep v1 v2
  bt : B0 ≤ tb ∧ tb < B
  bm : B0 ≤ mb ∧ mb < B
  bk : B0 ≤ kb ∧ kb < B
  be : B0 ≤ eb ∧ eb < B
  nbt : tb ≠ mb ∧ tb ≠ kb ∧ tb ≠ eb ∧ mb ≠ kb ∧ mb ≠ eb ∧ kb ≠ eb
  len : ∀ L ∈ bl, L.length = 128

def Known (enc : α → List Value) (okv : α → Prop) (w : World) (kb : Nat) (bl : List (List α)) : Prop := ∃ f, MapFn (arrK enc) natV (okL okv) w kb f ∧ ∀ L k, f L = some k → bl[k]? = some L
def Even (tv : α → Value) (okv : α → Prop) (w : World) (eb : Nat) (bl : List (List α)) : Prop := ∃ f, MapFn tv natV okv w eb f ∧ ∀ x k, f x = some k → bl[k]? = some (List.replicate 128 x)
structure MkAt (enc : α → List Value) (sz : Nat) (aT iT : TypeId) (tv : α → Value) (okv : α → Prop) (w : World) (B0 B tb mb kb eb : Nat) (v1 v2 : Value) (ks : List Nat) (bl : List (List α)) : Prop where
  b : MkB enc sz aT iT w B0 B tb mb kb eb v1 v2 ks bl
  kn : Known enc okv w kb bl
  ev : Even tv okv w eb bl

variable {enc : α → List Value} {sz : Nat} {aT iT : TypeId} {tv : α → Value} {okv : α → Prop} {w : World} {B0 B tb mb kb eb : Nat} {v1 v2 : Value} {ks : List Nat} {bl : List (List α)}

theorem Known.more (h : Known enc okv w kb bl) (L : List α) : Known enc okv w kb (bl ++ [L]) := by
  obtain ⟨f, h1, h2⟩ := h
  exact ⟨f, h1, fun M k hk => by have := h2 M k hk; rw [List.getElem?_append_left (List.getElem?_eq_some_iff.1 this).1]; exact this⟩
theorem Even.more (h : Even tv okv w eb bl) (L : List α) : Even tv okv w eb (bl ++ [L]) := by
  obtain ⟨f, h1, h2⟩ := h
  exact ⟨f, h1, fun M k hk => by have := h2 M k hk; rw [List.getElem?_append_left (List.getElem?_eq_some_iff.1 this).1]; exact this⟩
theorem Known.grown {w' : World} {r : Option Nat} (h : Known enc okv w kb bl) (hg : w.grownBy w' r) (hr : some kb ≠ r) : Known enc okv w' kb bl := let ⟨f, h1, h2⟩ := h; ⟨f, h1.grown hg hr, h2⟩
theorem Even.grown {w' : World} {r : Option Nat} (h : Even tv okv w eb bl) (hg : w.grownBy w' r) (hr : some eb ≠ r) : Even tv okv w' eb bl := let ⟨f, h1, h2⟩ := h; ⟨f, h1.grown hg hr, h2⟩

theorem MkB.grown {w' : World} {r : Option Nat} (h : MkB enc sz aT iT w B0 B tb mb kb eb v1 v2 ks bl) (hg : w.grownBy w' r) (ht : some tb ≠ r) (hm : some mb ≠ r) (h1 : v1.ownBlock = none ∨ v1.ownBlock ≠ r) (h2 : v2.ownBlock = none ∨ v2.ownBlock ≠ r) :
    MkB enc sz aT iT w' B0 B tb mb kb eb v1 v2 ks bl := by
  have hlt := World.block_lt_of_cell? w _ h.t0
  have et := hg.block tb hlt ht
  exact { t0 := hg.cell h.t0 ht, t1 := hg.cell h.t1 ht, t2 := hg.cell h.t2 ht, f1 := (World.frozen?_of_block (a := ⟨tb, 1, none⟩) et).trans h.f1, f2 := (World.frozen?_of_block (a := ⟨tb, 2, none⟩) et).trans h.f2,
          m0 := hg.cell h.m0 hm, m1 := hg.cell h.m1 hm, m2 := hg.cell h.m2 hm, o1 := h.o1.kept hg h1, o2 := h.o2.kept hg h2, sep := h.sep, bt := h.bt, bm := h.bm, bk := h.bk, be := h.be, nbt := h.nbt, len := h.len }
theorem grown_of_below {w' : World} (hb : Below w.heap.size w w') : w.grownBy w' none := ⟨hb.os, hb.tape, hb.output, hb.size, fun k hk _ => hb.block k hk⟩
theorem ob_none (v : Value) : v.ownBlock = none ∨ v.ownBlock ≠ none := by cases v.ownBlock <;> simp
theorem MkB.below {w' : World} (h : MkB enc sz aT iT w B0 B tb mb kb eb v1 v2 ks bl) (hb : Below w.heap.size w w') : MkB enc sz aT iT w' B0 B tb mb kb eb v1 v2 ks bl :=
  h.grown (grown_of_below hb) (by simp) (by simp) (ob_none _) (ob_none _)
theorem MkAt.below {w' : World} (h : MkAt enc sz aT iT tv okv w B0 B tb mb kb eb v1 v2 ks bl) (hb : Below w.heap.size w w') : MkAt enc sz aT iT tv okv w' B0 B tb mb kb eb v1 v2 ks bl :=
  ⟨h.b.below hb, h.kn.grown (grown_of_below hb) (by simp), h.ev.grown (grown_of_below hb) (by simp)⟩
theorem MkAt.drewN (h : MkAt enc sz aT iT tv okv w B0 B tb mb kb eb v1 v2 ks bl) (n : Nat) : MkAt enc sz aT iT tv okv (w.drewN n) B0 B tb mb kb eb v1 v2 ks bl :=
  h.below ⟨rfl, rfl, rfl, Nat.le_refl _, fun _ _ => rfl⟩
theorem MkB.far1 (h : MkB enc sz aT iT w B0 B tb mb kb eb v1 v2 ks bl) {b : Nat} (hb : b < B) : v1.ownBlock = none ∨ v1.ownBlock ≠ some b := .inr fun e => by have := (h.o1.lt _ e).1; omega
theorem MkB.far2 (h : MkB enc sz aT iT w B0 B tb mb kb eb v1 v2 ks bl) {b : Nat} (hb : b < B) : v2.ownBlock = none ∨ v2.ownBlock ≠ some b := .inr fun e => by have := (h.o2.lt _ e).1; omega

theorem setCell_grown (w : World) (a : Addr) (u : Value) : w.grownBy (w.setCell a u) (some a.block) :=
  ⟨rfl, rfl, rfl, by simp, fun k hk hne => Below.heap_setCell _ _ _ _ (fun e => hne (by rw [e]))⟩

/-- an entry more in the index -/
theorem MkB.push1 {w1 : World} {g cap : Nat} {k : Nat} (h : MkB enc sz aT iT w B0 B tb mb kb eb v1 v2 ks bl) (hg : w.grownBy w1 v1.ownBlock) (ho : w1.ownsRow B iT 1 (.slice (some ⟨g, 0, none⟩) (ks.length + 1) cap) (ks.length + 1) (ks.map natV ++ [natV k]))
    (hf : v1.ownBlock = some g ∨ w.heap.size ≤ g) : MkB enc sz aT iT (w1.setCell ⟨tb, 1, none⟩ (.slice (some ⟨g, 0, none⟩) (ks.length + 1) cap)) B0 B tb mb kb eb (.slice (some ⟨g, 0, none⟩) (ks.length + 1) cap) v2 (ks ++ [k]) bl := by
  obtain ⟨n1, n2, n3, n4, n5, n6⟩ := h.nbt
  have ht : some tb ≠ v1.ownBlock := fun e => by have := (h.o1.lt _ e.symm).1; have := h.bt.2; omega
  have hm : some mb ≠ v1.ownBlock := fun e => by have := (h.o1.lt _ e.symm).1; have := h.bm.2; omega
  obtain ⟨hs, ho2⟩ := h.sep.app (g := g) (n := ks.length + 1) (cap := cap) h.o2 hf hg
  have hlt := World.block_lt_of_cell? w _ h.t0
  have et := hg.block tb hlt ht
  have hsg := setCell_grown w1 ⟨tb, 1, none⟩ (.slice (some ⟨g, 0, none⟩) (ks.length + 1) cap)
  have hgb := (ho.lt g rfl).1
  have hbt := h.bt.2
  have c0 := hg.cell h.t0 ht
  have c1 := hg.cell h.t1 ht
  have c2 := hg.cell h.t2 ht
  have e1 : w1.frozen? ⟨tb, 1, none⟩ = false := (World.frozen?_of_block (a := ⟨tb, 1, none⟩) et).trans h.f1
  have e2 : w1.frozen? ⟨tb, 2, none⟩ = false := (World.frozen?_of_block (a := ⟨tb, 2, none⟩) et).trans h.f2
  have k0 := hg.cell h.m0 hm
  have k1 := hg.cell h.m1 hm
  have k2 := hg.cell h.m2 hm
  exact { t0 := by go_simp, t1 := by go_simp, t2 := by go_simp, f1 := by go_simp, f2 := by go_simp, m0 := hsg.cell k0 (fun e => n1 (by injection e with e; exact e.symm)), m1 := hsg.cell k1 (fun e => n1 (by injection e with e; exact e.symm)), m2 := hsg.cell k2 (fun e => n1 (by injection e with e; exact e.symm)),
          o1 := by rw [List.length_append, List.map_append]; exact ho.kept hsg (.inr fun e => by simp [Value.ownBlock] at e; omega), o2 := ho2.kept hsg (h.far2 hbt), sep := hs, bt := h.bt, bm := h.bm, bk := h.bk, be := h.be, nbt := h.nbt, len := h.len }
/-- a block more -/
theorem MkB.push2 {w1 : World} {g cap : Nat} {L : List α} (h : MkB enc sz aT iT w B0 B tb mb kb eb v1 v2 ks bl) (hg : w.grownBy w1 v2.ownBlock) (ho : w1.ownsRow B aT (128 * sz) (.slice (some ⟨g, 0, none⟩) (bl.length + 1) cap) (bl.length + 1) (bl.flatMap (arrE enc) ++ arrE enc L))
    (hf : v2.ownBlock = some g ∨ w.heap.size ≤ g) (hL : L.length = 128) : MkB enc sz aT iT (w1.setCell ⟨tb, 2, none⟩ (.slice (some ⟨g, 0, none⟩) (bl.length + 1) cap)) B0 B tb mb kb eb v1 (.slice (some ⟨g, 0, none⟩) (bl.length + 1) cap) ks (bl ++ [L]) := by
  obtain ⟨n1, n2, n3, n4, n5, n6⟩ := h.nbt
  have ht : some tb ≠ v2.ownBlock := fun e => by have := (h.o2.lt _ e.symm).1; have := h.bt.2; omega
  have hm : some mb ≠ v2.ownBlock := fun e => by have := (h.o2.lt _ e.symm).1; have := h.bm.2; omega
  obtain ⟨hs, ho1⟩ := h.sep.symm.app (g := g) (n := bl.length + 1) (cap := cap) h.o1 hf hg
  have hlt := World.block_lt_of_cell? w _ h.t0
  have et := hg.block tb hlt ht
  have hsg := setCell_grown w1 ⟨tb, 2, none⟩ (.slice (some ⟨g, 0, none⟩) (bl.length + 1) cap)
  have hgb := (ho.lt g rfl).1
  have hbt := h.bt.2
  have c0 := hg.cell h.t0 ht
  have c1 := hg.cell h.t1 ht
  have c2 := hg.cell h.t2 ht
  have e1 : w1.frozen? ⟨tb, 1, none⟩ = false := (World.frozen?_of_block (a := ⟨tb, 1, none⟩) et).trans h.f1
  have e2 : w1.frozen? ⟨tb, 2, none⟩ = false := (World.frozen?_of_block (a := ⟨tb, 2, none⟩) et).trans h.f2
  have k0 := hg.cell h.m0 hm
  have k1 := hg.cell h.m1 hm
  have k2 := hg.cell h.m2 hm
  exact { t0 := by go_simp, t1 := by go_simp, t2 := by go_simp, f1 := by go_simp, f2 := by go_simp, m0 := hsg.cell k0 (fun e => n1 (by injection e with e; exact e.symm)), m1 := hsg.cell k1 (fun e => n1 (by injection e with e; exact e.symm)), m2 := hsg.cell k2 (fun e => n1 (by injection e with e; exact e.symm)),
          o1 := ho1.kept hsg (h.far1 hbt), o2 := by rw [List.length_append, List.flatMap_append]; simp only [List.flatMap_cons, List.flatMap_nil, List.append_nil]; exact ho.kept hsg (.inr fun e => by simp [Value.ownBlock] at e; omega), sep := hs.symm, bt := h.bt, bm := h.bm, bk := h.bk, be := h.be, nbt := h.nbt,
          len := fun M hM => by rcases List.mem_append.1 hM with hM | hM; exact h.len M hM; cases List.mem_singleton.1 hM; exact hL }
end
end Go.Proofs.YtkeainhjghdfcaaGreat

/- A region that draws its order, walked by hand: one operation taken first, one that comes up alone. No program is named here. -/
namespace Go.Proofs.YtkeainhjghdfcaaGreat
open Go.RowKit

theorem results_cell1 {P : Program} {fn : Func} {t : Tmp} {ty : TypeId} (h : fn.results = #[.cell t ty]) (tmps : Array Value) (w : World) {ad : Addr} {v : Value} (ht : tmps.getD t undef = .pointer (some ad)) (hl : (loadVar ty ad).run P w = .ok v w) :
    (results fn tmps).run P w = .ok v w := by
  have ht' : tmps[t]?.getD undef = .pointer (some ad) := by simpa using ht
  simp [results, h, ht', hl, asAddr]
theorem ret_cell1 {P : Program} {fn : Func} {R : Ending → World → Prop} {a : Act} {w : World} {t : Tmp} {ty : TypeId} {ad : Addr} {v : Value} (h : fn.results = #[.cell t ty]) (ht : a.tmps.getD t undef = .pointer (some ad)) (hl : (loadVar ty ad).run P w = .ok v w) (hd : a.defers = []) (hR : R (.returned v) w) : bodyPost P fn R .ret a w :=
  bodyPost_ret (results_cell1 h a.tmps w ht hl) hd hR
theorem run_index1 {P : Program} (w : World) {t e : TypeId} {n : Nat} {cs : Array Value} {k : Nat} {v : Value} (h : P.underlying t = some (.array n e)) (hk : k < n) (hs : ∀ w, (sizeOf e).run P w = .ok 1 w) (ha : ∀ w, (isAgg e).run P w = .ok false w) (hv : cs[k]? = some v) :
    (Instr.index t (.agg cs) (.int .i64 ((k : Nat) : Int))).run P w = .ok v w := by
  have h1 : (0 : Int) ≤ (k : Int) ∧ (k : Int) < (n : Int) := by omega
  have h2 : ¬ n ≤ k := by omega
  simp [Instr.index, run_underlying h, asIntOf, hk, hs, part, ha, hv, go_sem]
theorem run_eq_arr4 {P : Program} (w : World) (d : Nat) {t e : TypeId} (ht : P.underlying t = some (.array 4 e)) (hs : ∀ w, (sizeOf e).run P w = .ok 1 w) (ha : ∀ w, (isAgg e).run P w = .ok false w) (he : P.underlying e = some .bool) (a0 a1 a2 a3 b0 b1 b2 b3 : Bool) :
    (Op.equalIn (d + 2) t (.agg #[.bool a0, .bool a1, .bool a2, .bool a3]) (.agg #[.bool b0, .bool b1, .bool b2, .bool b3])).run P w = .ok ((a0 == b0) && ((a1 == b1) && ((a2 == b2) && (a3 == b3)))) w := by
  have hp : ∀ (cs : Array Value) (i : Nat) (v : Value) (w : World), cs[i]? = some v → (part e cs i).run P w = .ok v w := by
    intro cs i v w h
    simp [part, ha, h]
  have q : ∀ (a b : Bool) (w : World), (Op.equalIn (d + 1) e (.bool a) (.bool b)).run P w = .ok (a == b) w := fun a b w => run_equalIn_bool' w d e a b he
  rw [Op.equalIn]
  simp only [Sem.run_bind, run_underlying ht, Result.andThen_ok, hs]
  rw [Std.Legacy.Range.forIn_eq_forIn_range']
  rw [show List.range' ({ start := 0, stop := 4, step := 1, step_pos := by decide } : Std.Legacy.Range).start ({ start := 0, stop := 4, step := 1, step_pos := by decide } : Std.Legacy.Range).size ({ start := 0, stop := 4, step := 1, step_pos := by decide } : Std.Legacy.Range).step = [0, 1, 2, 3] from rfl]
  have x0 := fun w => hp #[.bool a0, .bool a1, .bool a2, .bool a3] (0 * 1) (.bool a0) w rfl
  have x1 := fun w => hp #[.bool a0, .bool a1, .bool a2, .bool a3] 1 (.bool a1) w rfl
  have x2 := fun w => hp #[.bool a0, .bool a1, .bool a2, .bool a3] 2 (.bool a2) w rfl
  have x3 := fun w => hp #[.bool a0, .bool a1, .bool a2, .bool a3] 3 (.bool a3) w rfl
  have y0 := fun w => hp #[.bool b0, .bool b1, .bool b2, .bool b3] (0 * 1) (.bool b0) w rfl
  have y1 := fun w => hp #[.bool b0, .bool b1, .bool b2, .bool b3] 1 (.bool b1) w rfl
  have y2 := fun w => hp #[.bool b0, .bool b1, .bool b2, .bool b3] 2 (.bool b2) w rfl
  have y3 := fun w => hp #[.bool b0, .bool b1, .bool b2, .bool b3] 3 (.bool b3) w rfl
  simp only [List.forIn_cons, List.forIn_nil, Sem.run_bind, x0, y0, q, Result.andThen_ok, Sem.run_ite]
  cases h0 : a0 == b0 <;> cases h1 : a1 == b1 <;> cases h2 : a2 == b2 <;> cases h3 : a3 == b3 <;> simp [x1, x2, x3, y1, y2, y3, q, h1, h2, h3]
theorem wp_value {P : Program} {o : Oper} {a : Act} {w : World} {K : Act → World → Prop} {Q : Exit → Act → World → Prop} {v : Value} (hr : (execOp a.eval o).run P w = .ok (.value v) w) (h : K (a.put o.dst v) w) : o.wp P a w K Q := by
  unfold Oper.wp; rw [hr]; exact h
section
variable {P : Program} {md : Region.Mode} {l : List Oper} {Q : Exit → Act → World → Prop} {S : World → Prop} {fuel : Nat} {listed : Array Bool} {a : Act} {w : World}
theorem hd_take (i : Nat) {oi : Oper} {v : Value} (hi : l[i]? = some oi)
    (hs : Region.noSelect l.toArray = true) (hf : Region.free md l.toArray listed i = true) (hr : (Region.ready md l.toArray listed).contains i = true)
    (hQ : ∀ c a w, Q (.panic c) (a.put oi.dst v) w → Q (.panic c) a w) (hw : Region.wanted oi (yielded l.toArray a.tmps) = true)
    (hy : ∀ w, S w → (execOp a.eval oi).run P w = .ok (.value v) w) (hS : S w)
    (h : wpAnyH P md l.toArray Q S fuel (listed.setIfInBounds i true) (a.put oi.dst v) w) : wpAnyH P md l.toArray Q S (fuel + 1) listed a w :=
  wpAnyH_take (by simpa using hi) hs hf hr hQ (.inl ⟨hw, hy⟩) hS h
theorem hd_long (i : Nat) {oi : Oper} (hi : l[i]? = some oi)
    (hs : Region.noSelect l.toArray = true) (hf : Region.free md l.toArray listed i = true) (hr : (Region.ready md l.toArray listed).contains i = true)
    (ty : TypeId) (x : Operand) (ho : oi.op = .load ty x)
    (b o : Nat) (hx : a.eval x = .pointer (some ⟨b, o, none⟩)) (cs : Array Value) (d : TypeDesc) (hR : ∀ w, S w → w.rangeAt b o cs.toList)
    (hQ : ∀ c a w, Q (.panic c) (a.put oi.dst (.agg cs)) w → Q (.panic c) a w) (hw : Region.wanted oi (yielded l.toArray a.tmps) = true)
    (hu : P.underlying ty = some d) (hd : d.isRow = true) (hz : (P.info? ty).map (·.size) = some cs.toList.length) (hS : S w)
    (h : wpAnyH P md l.toArray Q S fuel (listed.setIfInBounds i true) (a.put oi.dst (.agg cs)) w) : wpAnyH P md l.toArray Q S (fuel + 1) listed a w :=
  wpAnyH_take (v := .agg cs) (by simpa using hi) hs hf hr hQ (yieldsIf_load_mid hw ty x ho b o hx cs.toList d hR hu hd hz) hS h
theorem hd_step (i : Nat) {o : Oper} (hr : Region.ready md l.toArray listed = [i]) (ho : l[i]? = some o)
    (h : ∀ K' : Act → World → Prop, Shut (∀ a w, S w → (S w → wpAnyH P md l.toArray Q S fuel (listed.setIfInBounds i true) a w) → K' a w) → if Region.wanted o (yielded l.toArray a.tmps) = true then Oper.wp P o a w K' Q else K' (a.put o.dst undef) w) :
    wpAnyH P md l.toArray Q S (fuel + 1) listed a w :=
  wpAnyH_ready hr (by simp) (AllReadyH.cons (by simpa using ho) h AllReadyH.nil)
theorem hd_two (i j : Nat) {o u : Oper} (hr : Region.ready md l.toArray listed = [i, j]) (ho : l[i]? = some o) (hu : l[j]? = some u)
    (h : ∀ K' : Act → World → Prop, Shut (∀ a w, S w → (S w → wpAnyH P md l.toArray Q S fuel (listed.setIfInBounds i true) a w) → K' a w) → if Region.wanted o (yielded l.toArray a.tmps) = true then Oper.wp P o a w K' Q else K' (a.put o.dst undef) w)
    (k : ∀ K' : Act → World → Prop, Shut (∀ a w, S w → (S w → wpAnyH P md l.toArray Q S fuel (listed.setIfInBounds j true) a w) → K' a w) → if Region.wanted u (yielded l.toArray a.tmps) = true then Oper.wp P u a w K' Q else K' (a.put u.dst undef) w) :
    wpAnyH P md l.toArray Q S (fuel + 1) listed a w :=
  wpAnyH_ready hr (by simp) (AllReadyH.cons (by simpa using ho) h (AllReadyH.cons (by simpa using hu) k AllReadyH.nil))
end
end Go.Proofs.YtkeainhjghdfcaaGreat

/- Arrays as keys of maps. No program is named here. -/
namespace Go.Proofs.YtkeainhjghdfcaaGreat
open Go.RowKit

section
variable {α : Type} {enc : α → List Value} {sz : Nat}
theorem chunk_at (hsz : ∀ x, (enc x).length = sz) : ∀ (L : List α) (i : Nat) (x : α), L[i]? = some x → ((L.flatMap enc).drop (i * sz)).take sz = enc x := by
  intro L
  induction L with
  | nil => intro i x h; simp at h
  | cons y L ih =>
    intro i x h
    rw [List.flatMap_cons]
    cases i with
    | zero =>
      simp at h; subst h
      rw [Nat.zero_mul, List.drop_zero, List.take_append_of_le_length (by rw [hsz]; exact Nat.le_refl _), List.take_of_length_le (by rw [hsz]; exact Nat.le_refl _)]
    | succ i =>
      have e : ((enc y ++ L.flatMap enc).drop ((i + 1) * sz)) = (L.flatMap enc).drop (i * sz) := by
        rw [List.drop_append, List.drop_of_length_le (by rw [hsz]; rw [Nat.succ_mul]; omega), List.nil_append, hsz, Nat.succ_mul, Nat.add_sub_cancel]
      rw [e]
      exact ih i x (by simpa using h)
theorem flat_inj (hsz : ∀ x, (enc x).length = sz) (hpos : 0 < sz) (hinj : ∀ x y, enc x = enc y → x = y) : ∀ (L M : List α), L.flatMap enc = M.flatMap enc → L = M := by
  intro L
  induction L with
  | nil =>
    intro M h
    cases M with
    | nil => rfl
    | cons y M => have := congrArg List.length h; rw [List.flatMap_cons, List.length_append, hsz] at this; simp at this; omega
  | cons x L ih =>
    intro M h
    cases M with
    | nil => have := congrArg List.length h; rw [List.flatMap_cons, List.length_append, hsz] at this; simp at this; omega
    | cons y M =>
      rw [List.flatMap_cons, List.flatMap_cons] at h
      obtain ⟨h1, h2⟩ := List.append_inj h (by rw [hsz, hsz])
      rw [hinj _ _ h1, ih M h2]

theorem arrK_inj (hsz : ∀ x, (enc x).length = sz) (hpos : 0 < sz) (hinj : ∀ x y, enc x = enc y → x = y) (L M : List α) (h : arrK enc L = arrK enc M) : L = M := by
  unfold arrK at h
  injection h with h
  exact flat_inj hsz hpos hinj L M (by simpa using h)

theorem keyArr {P : Program} {aT eT : TypeId} {okv : α → Prop} (hl : laidOutB P = true) (hsm : P.types.size + 2 ≤ 10000) (hrow : aT < P.types.size) (hk : P.keyType aT = true) (hu : P.underlying aT = some (.array 128 eT)) (hc : P.cellsOf eT = sz) (hca : P.cellsOf aT = 128 * sz)
    (hsz : ∀ x, (enc x).length = sz) (hpos : 0 < sz) (hinj : ∀ x y, enc x = enc y → x = y) (hel : ∀ x, okv x → IsKey P P.types.size eT (enc x)) : KeyE P aT (arrK enc) (okL okv) where
  K := Maps.Keyed.of_law (deep_law_gate hl hsm hrow hk (by rw [hu]))
  lit L hL := by
    have hlen : (L.flatMap enc).length = P.cellsOf aT := by rw [flat_len hsz, hL.1, hca]
    refine keyOf_agg (by rw [hu]) hk hlen (isKey_array hu hlen hc fun i hi => ?_)
    have hx : L[i]? = some (L[i]'(by rw [hL.1]; exact hi)) := List.getElem?_eq_getElem _
    rw [chunk_at hsz L i _ hx]
    exact hel _ (hL.2 _ (List.getElem_mem _))
  inj := arrK_inj hsz hpos hinj

theorem keyInt {P : Program} {t : TypeId} {q : IntKind} (ht : P.underlying t = some (.int q)) : KeyE P t (fun n : Int => .int q n) (fun n => (Lit.int q n).wf = true) where
  K := Maps.int_keyed ht
  lit n hn := ⟨.int q n, by rw [keyOf_int ht]; unfold mapKey; rw [ht]; simp [hn]⟩
  inj a b h := by injection h
end

/-- a map's state behind a store at a key that is new: still known, with the block to come -/
theorem Known.put {α : Type} {enc : α → List Value} {okv : α → Prop} {w' : World} {kb : Nat} {bl : List (List α)} {f : List α → Option Nat} [DecidableEq α] (hf : ∀ L k, f L = some k → bl[k]? = some L) (L : List α) (hm : MapFn (arrK enc) natV (okL okv) w' kb (fnPut f L bl.length)) : Known enc okv w' kb (bl ++ [L]) := by
  refine ⟨_, hm, fun M k hk => ?_⟩
  by_cases h : M = L
  · subst h
    rw [fnPut_same] at hk
    cases hk
    simp
  · rw [fnPut_other _ _ h] at hk
    have := hf M k hk
    rw [List.getElem?_append_left (List.getElem?_eq_some_iff.1 this).1]; exact this
theorem Even.put {α : Type} {tv : α → Value} {okv : α → Prop} {w' : World} {eb : Nat} {bl : List (List α)} {f : α → Option Nat} [DecidableEq α] (hf : ∀ x k, f x = some k → bl[k]? = some (List.replicate 128 x)) (x : α) (k : Nat) (hk : bl[k]? = some (List.replicate 128 x)) (hm : MapFn tv natV okv w' eb (fnPut f x k)) : Even tv okv w' eb bl := by
  refine ⟨_, hm, fun y j hj => ?_⟩
  by_cases h : y = x
  · subst h
    rw [fnPut_same] at hj
    cases hj
    exact hk
  · rw [fnPut_other _ _ h] at hj
    exact hf y j hj
end Go.Proofs.YtkeainhjghdfcaaGreat

/- Rows of values that are stored one by one. No program is named here. -/
namespace Go.Proofs.YtkeainhjghdfcaaGreat
open Go.RowKit

def setArr (cs : Array Value) : Nat → List Value → Array Value
  | _, [] => cs
  | o, v :: r => setArr (cs.setIfInBounds o v) (o + 1) r
theorem row_setCells (g : Nat) (t : TypeId) : ∀ (vs : List Value) (o : Nat) (w : World) (cs : Array Value), w.heap[g]? = some (.cells cs t (0, 0)) → (w.setCells g o vs).heap[g]? = some (.cells (setArr cs o vs) t (0, 0))
  | [], _, _, _, h => h
  | v :: r, o, w, cs, h => row_setCells g t r (o + 1) _ _ (heap_setCell_same w g o cs t v h)
theorem setArr_eq : ∀ (vs : List Value) (o : Nat) (l : List Value), o + vs.length ≤ l.length → setArr l.toArray o vs = (l.take o ++ vs ++ l.drop (o + vs.length)).toArray
  | [], o, l, _ => by simp [setArr]
  | v :: r, o, l, h => by
    rw [List.length_cons] at h
    unfold setArr
    rw [List.setIfInBounds_toArray, setArr_eq r (o + 1) (l.set o v) (by simp; omega)]
    congr 1
    rw [List.set_eq_take_append_cons_drop, if_pos (by omega)]
    have e1 : (l.take o).length = o := by simp; omega
    have e2 : (l.take o ++ v :: l.drop (o + 1)).take (o + 1) = l.take o ++ [v] := by
      rw [List.take_append, e1, Nat.add_sub_cancel_left, List.take_of_length_le (by omega)]
      simp
    have e3 : (l.take o ++ v :: l.drop (o + 1)).drop (o + 1 + r.length) = l.drop (o + (v :: r).length) := by
      rw [List.drop_append, e1, List.drop_of_length_le (by rw [e1]; omega), show o + 1 + r.length - o = r.length + 1 by omega, List.nil_append, List.drop_succ_cons, List.drop_drop, List.length_cons]
      congr 1; omega
    rw [e2, e3]
    simp
variable {α : Type} {enc : α → List Value} {sz : Nat}
theorem flat_take (hsz : ∀ x, (enc x).length = sz) : ∀ (L : List α) (i : Nat), (L.flatMap enc).take (i * sz) = (L.take i).flatMap enc
  | [], i => by simp
  | y :: L, 0 => by simp
  | y :: L, i + 1 => by
    rw [List.flatMap_cons, List.take_succ_cons, List.flatMap_cons, List.take_append, hsz, List.take_of_length_le (by rw [hsz, Nat.succ_mul]; omega), Nat.succ_mul, Nat.add_sub_cancel, flat_take hsz L i]
theorem flat_drop (hsz : ∀ x, (enc x).length = sz) : ∀ (L : List α) (i : Nat), (L.flatMap enc).drop (i * sz) = (L.drop i).flatMap enc
  | [], i => by simp
  | y :: L, 0 => by simp
  | y :: L, i + 1 => by
    rw [List.flatMap_cons, List.drop_succ_cons, List.drop_append, hsz, List.drop_of_length_le (by rw [hsz, Nat.succ_mul]; omega), Nat.succ_mul, Nat.add_sub_cancel, List.nil_append, flat_drop hsz L i]
theorem setArr_flat (hsz : ∀ x, (enc x).length = sz) (L : List α) (i : Nat) (x : α) (hi : i < L.length) : setArr (L.flatMap enc).toArray (i * sz) (enc x) = ((L.set i x).flatMap enc).toArray := by
  have hl := flat_len hsz L
  have hm : i * sz + sz ≤ L.length * sz := by rw [← Nat.succ_mul]; exact Nat.mul_le_mul_right _ hi
  rw [setArr_eq _ _ _ (by rw [hsz, hl]; exact hm), hsz, flat_take hsz, show i * sz + sz = (i + 1) * sz by rw [Nat.succ_mul], flat_drop hsz, List.set_eq_take_append_cons_drop, if_pos hi, List.flatMap_append, List.flatMap_cons]
  simp
/-- one value stored in a row of values -/
theorem row_put (hsz : ∀ x, (enc x).length = sz) {w : World} {g : Nat} {t : TypeId} {L : List α} (h : w.heap[g]? = some (.cells (L.flatMap enc).toArray t (0, 0))) (i : Nat) (x : α) (hi : i < L.length) :
    (w.setCells g (i * sz) (enc x)).heap[g]? = some (.cells ((L.set i x).flatMap enc).toArray t (0, 0)) := by
  rw [row_setCells g t _ _ _ _ h, setArr_flat hsz L i x hi]
theorem take_put {L : List α} {i : Nat} {x : α} (hi : i < L.length) : (L.set i x).take (i + 1) = L.take i ++ [x] := by
  rw [List.take_add_one, List.getElem?_set_self hi, List.take_set_of_le (Nat.le_refl i)]; rfl
theorem row_len {w : World} {g : Nat} {t : TypeId} {c : Array Value} {f : Nat × Nat} (h : w.heap[g]? = some (.cells c t f)) : g < w.heap.size := (Array.getElem?_eq_some_iff.1 h).1
theorem row_there (hsz : ∀ x, (enc x).length = sz) {w : World} {g : Nat} {t : TypeId} {L : List α} (h : w.heap[g]? = some (.cells (L.flatMap enc).toArray t (0, 0))) (i : Nat) (hi : i < L.length) : w.there g (i * sz) sz := fun j hj => by
  have hl := flat_len hsz L
  have hm : i * sz + sz ≤ L.length * sz := by rw [← Nat.succ_mul]; exact Nat.mul_le_mul_right _ hi
  refine ⟨?_, ?_⟩
  · rw [cell_of_row w g _ _ t (0, 0) h, List.getElem?_toArray, List.getElem?_eq_getElem (by omega)]
    rfl
  · unfold World.frozen?; rw [h]; simp
/-- the maker as it is made -/
theorem made_state (w : World) (sz' aT iT tT mT : Nat) (tv : α → Value) (okv : α → Prop) :
    MkAt enc sz' aT iT tv okv ((((w.alloc (.cells #[.int .i64 1114112, .slice none 0 0, .slice none 0 0] tT)).alloc (.map #[] 0)).alloc (.map #[] 0)).alloc (.cells #[.pointer (some ⟨w.heap.size, 0, none⟩), .map (some (w.heap.size + 1)), .map (some (w.heap.size + 2))] mT))
      w.heap.size (w.heap.size + 4) w.heap.size (w.heap.size + 3) (w.heap.size + 1) (w.heap.size + 2) (.slice none 0 0) (.slice none 0 0) [] [] := by
  have k1 := mapFn_made (arrK enc) natV (okL okv) (w.alloc (.cells #[.int .i64 1114112, .slice none 0 0, .slice none 0 0] tT))
  have k2 := mapFn_made tv natV okv ((w.alloc (.cells #[.int .i64 1114112, .slice none 0 0, .slice none 0 0] tT)).alloc (.map #[] 0))
  have e1 : (w.alloc (.cells #[.int .i64 1114112, .slice none 0 0, .slice none 0 0] tT)).heap.size = w.heap.size + 1 := by simp
  have e2 : ((w.alloc (.cells #[.int .i64 1114112, .slice none 0 0, .slice none 0 0] tT)).alloc (.map #[] 0)).heap.size = w.heap.size + 2 := by simp
  rw [e1] at k1
  rw [e2] at k2
  refine ⟨{ t0 := by go_simp, t1 := by go_simp, t2 := by go_simp, f1 := by go_simp, f2 := by go_simp, m0 := by go_simp, m1 := by go_simp, m2 := by go_simp, o1 := World.ownsRow_nil _ _ _ _, o2 := World.ownsRow_nil _ _ _ _, sep := .inl rfl, bt := by omega, bm := by omega, bk := by omega, be := by omega, nbt := by omega, len := fun L h => by cases h }, ⟨_, k1.below ?_, fun L k h => by cases h⟩, ⟨_, k2.below ?_, fun L k h => by cases h⟩⟩
  · rw [show w.heap.size + 1 = w.heap.size + 1 from rfl]
    exact (((Below.refl _ _).alloc (by simp) _).alloc (by simp) _)
  · exact (Below.refl _ _).alloc (by simp) _
variable {aT iT : TypeId} {tv : α → Value} {okv : α → Prop} {w : World} {B0 B tb mb kb eb : Nat} {v1 v2 : Value} {ks : List Nat} {bl : List (List α)}
theorem MkAt.push1 {w1 : World} {g cap : Nat} {k : Nat} (h : MkAt enc sz aT iT tv okv w B0 B tb mb kb eb v1 v2 ks bl) (hg : w.grownBy w1 v1.ownBlock) (ho : w1.ownsRow B iT 1 (.slice (some ⟨g, 0, none⟩) (ks.length + 1) cap) (ks.length + 1) (ks.map natV ++ [natV k]))
    (hf : v1.ownBlock = some g ∨ w.heap.size ≤ g) : MkAt enc sz aT iT tv okv (w1.setCell ⟨tb, 1, none⟩ (.slice (some ⟨g, 0, none⟩) (ks.length + 1) cap)) B0 B tb mb kb eb (.slice (some ⟨g, 0, none⟩) (ks.length + 1) cap) v2 (ks ++ [k]) bl :=
  ⟨h.b.push1 hg ho hf,
    (h.kn.grown hg (fun e => by have := (h.b.o1.lt _ e.symm).1; have := h.b.bk.2; omega)).grown (setCell_grown _ _ _) (fun e => h.b.nbt.2.1 (by injection e with e; exact e.symm)),
    (h.ev.grown hg (fun e => by have := (h.b.o1.lt _ e.symm).1; have := h.b.be.2; omega)).grown (setCell_grown _ _ _) (fun e => h.b.nbt.2.2.1 (by injection e with e; exact e.symm))⟩
theorem MkAt.push2 {w1 : World} {g cap : Nat} {L : List α} (h : MkB enc sz aT iT w B0 B tb mb kb eb v1 v2 ks bl) (hkn : Known enc okv w kb (bl ++ [L])) (hev : Even tv okv w eb (bl ++ [L])) (hg : w.grownBy w1 v2.ownBlock) (ho : w1.ownsRow B aT (128 * sz) (.slice (some ⟨g, 0, none⟩) (bl.length + 1) cap) (bl.length + 1) (bl.flatMap (arrE enc) ++ arrE enc L))
    (hf : v2.ownBlock = some g ∨ w.heap.size ≤ g) (hL : L.length = 128) : MkAt enc sz aT iT tv okv (w1.setCell ⟨tb, 2, none⟩ (.slice (some ⟨g, 0, none⟩) (bl.length + 1) cap)) B0 B tb mb kb eb v1 (.slice (some ⟨g, 0, none⟩) (bl.length + 1) cap) ks (bl ++ [L]) :=
  ⟨h.push2 hg ho hf hL,
    (hkn.grown hg (fun e => by have := (h.o2.lt _ e.symm).1; have := h.bk.2; omega)).grown (setCell_grown _ _ _) (fun e => h.nbt.2.1 (by injection e with e; exact e.symm)),
    (hev.grown hg (fun e => by have := (h.o2.lt _ e.symm).1; have := h.be.2; omega)).grown (setCell_grown _ _ _) (fun e => h.nbt.2.2.1 (by injection e with e; exact e.symm))⟩
end Go.Proofs.YtkeainhjghdfcaaGreat

/- Worlds that differ in few blocks. No program is named here. -/
namespace Go.Proofs.YtkeainhjghdfcaaGreat
open Go.RowKit

/-- Only the blocks of P may have changed. -/
structure Kept (P : Nat → Prop) (w w' : World) : Prop where
  os : w'.os = w.os
  tape : w'.tape = w.tape
  output : w'.output = w.output
  size : w.heap.size ≤ w'.heap.size
  block : ∀ j, j < w.heap.size → ¬ P j → w'.heap[j]? = w.heap[j]?

theorem Kept.of_grown {P : Nat → Prop} {w w' : World} {r : Option Nat} (h : w.grownBy w' r) (hb : ∀ b, r = some b → P b) : Kept P w w' :=
  ⟨h.os, h.tape, h.output, h.size, fun j hj hn => h.block j hj (by intro e; exact hn (hb j e.symm))⟩
theorem Kept.of_below {P : Nat → Prop} {w w' : World} (h : Below w.heap.size w w') : Kept P w w' := ⟨h.os, h.tape, h.output, h.size, fun j hj _ => h.block j hj⟩
theorem Kept.trans {P : Nat → Prop} {w w1 w2 : World} (h : Kept P w w1) (k : Kept P w1 w2) : Kept P w w2 :=
  ⟨k.os.trans h.os, k.tape.trans h.tape, k.output.trans h.output, Nat.le_trans h.size k.size, fun j hj hn => (k.block j (Nat.lt_of_lt_of_le hj h.size) hn).trans (h.block j hj hn)⟩
theorem Kept.mono {P Q : Nat → Prop} {w w' : World} (h : Kept P w w') (hq : ∀ j, P j → Q j) : Kept Q w w' := ⟨h.os, h.tape, h.output, h.size, fun j hj hn => h.block j hj fun hp => hn (hq j hp)⟩
theorem Kept.below {P : Nat → Prop} {B : Nat} {w w' : World} (h : Kept P w w') (hB : B ≤ w.heap.size) (hP : ∀ j, P j → B ≤ j) : Below B w w' :=
  ⟨h.os, h.tape, h.output, h.size, fun j hj => h.block j (by omega) fun hp => by have := hP j hp; omega⟩
theorem Kept.refl (P : Nat → Prop) (w : World) : Kept P w w := ⟨rfl, rfl, rfl, Nat.le_refl _, fun _ _ _ => rfl⟩
theorem Kept.cell {P : Nat → Prop} {w w' : World} {a : Addr} {v : Value} (h : Kept P w w') (hc : w.cell? a = some v) (hn : ¬ P a.block) : w'.cell? a = some v :=
  (World.cell?_of_block (h.block _ (World.block_lt_of_cell? w _ hc) hn)).trans hc
/-- a change of new blocks alone is none of the old ones -/
theorem Kept.new {P : Nat → Prop} {w w1 w2 : World} (h : Kept P w w1) (k : Kept (fun j => P j ∨ w.heap.size ≤ j) w1 w2) : Kept P w w2 :=
  ⟨k.os.trans h.os, k.tape.trans h.tape, k.output.trans h.output, Nat.le_trans h.size k.size, fun j hj hn => (k.block j (Nat.lt_of_lt_of_le hj h.size) (by rintro (h1 | h1); exact hn h1; omega)).trans (h.block j hj hn)⟩
theorem kept_setCell {P : Nat → Prop} (w : World) (a : Addr) (u : Value) (h : P a.block) : Kept P w (w.setCell a u) :=
  ⟨rfl, rfl, rfl, by simp, fun j _ hn => Below.heap_setCell _ _ _ _ (fun e => hn (e ▸ h))⟩
end Go.Proofs.YtkeainhjghdfcaaGreat

/- The plain law of building tries. No program here. -/
namespace Go.Proofs.YtkeainhjghdfcaaGreat

/-- the first j blocks of a trie hold what g says -/
structure TrieIs {α : Type} (g : Int → α) (j : Nat) (ks : List Nat) (bl : List (List α)) : Prop where
  len : ks.length = j
  tie : ∀ m, m < j → ∃ k L, ks[m]? = some k ∧ bl[k]? = some L ∧ ∀ i : Nat, i < 128 → L[i]? = some (g (128 * (m : Int) + i))
/-- v is what the numbers have from 'at' up to 'upto' -/
structure Val {α : Type} (g : Int → α) (okv : α → Prop) (v : α) (upto i : Int) : Prop where
  ok : okv v
  top : upto ≤ 1114111
  same : ∀ r, i ≤ r → r ≤ upto → g r = v

variable {α : Type} {g : Int → α} {okv : α → Prop} {j : Nat} {ks : List Nat} {bl bl' : List (List α)}
theorem trieIs_nil (bl : List (List α)) : TrieIs g 0 [] bl := ⟨rfl, fun m h => by omega⟩
theorem TrieIs.more (h : TrieIs g j ks bl) (hb : ∀ (k : Nat) (M : List α), bl[k]? = some M → bl'[k]? = some M) : TrieIs g j ks bl' :=
  ⟨h.len, fun m hm => let ⟨k, L, h1, h2, h3⟩ := h.tie m hm; ⟨k, L, h1, hb k L h2, h3⟩⟩
theorem TrieIs.push (h : TrieIs g j ks bl) {k : Nat} {L : List α} (hk : bl[k]? = some L) (hL : ∀ i : Nat, i < 128 → L[i]? = some (g (128 * (j : Int) + i))) : TrieIs g (j + 1) (ks ++ [k]) bl := by
  refine ⟨by rw [List.length_append, h.len]; rfl, fun m hm => ?_⟩
  by_cases hmj : m < j
  · obtain ⟨q, M, h1, h2, h3⟩ := h.tie m hmj
    exact ⟨q, M, by rw [List.getElem?_append_left (by rw [h.len]; exact hmj)]; exact h1, h2, h3⟩
  · have : m = j := by omega
    subst this
    exact ⟨k, L, by rw [List.getElem?_append_right (by rw [h.len]; exact Nat.le_refl _), h.len, Nat.sub_self]; rfl, hk, hL⟩
theorem Val.later {v : α} {upto i i' : Int} (h : Val g okv v upto i) (hi : i ≤ i') : Val g okv v upto i' := ⟨h.ok, h.top, fun r h1 h2 => h.same r (by omega) h2⟩
theorem val_find {z : α} {l : List (Pc α)} (hz : okv z) (hl : ∀ p ∈ l, okv p.v) {i : Int} (hi : i ≤ 1114111) : Val (pv z l) okv (fndP z i l 1114111).1 (fndP z i l 1114111).2 i ∧ i ≤ (fndP z i l 1114111).2 := by
  obtain ⟨h1, h2, h3, h4⟩ := fndP_spec z i l 1114111 hi
  refine ⟨⟨?_, h3, fun r hr1 hr2 => by rw [h1]; exact h4 r hr1 hr2⟩, h2⟩
  rw [h1]
  unfold pv
  cases hf : l.find? (hasP i) with
  | none => exact hz
  | some p => exact hl p (List.mem_of_find?_eq_some hf)
/-- a block of one value -/
theorem Val.block {v : α} {upto : Int} {m : Nat} (h : Val g okv v upto (128 * (m : Int))) (hu : 128 * (m : Int) + 127 ≤ upto) : ∀ i : Nat, i < 128 → (List.replicate 128 v)[i]? = some (g (128 * (m : Int) + i)) := by
  intro i hi
  rw [List.getElem?_replicate, if_pos hi, h.same (128 * m + i) (by omega) (by omega)]
end Go.Proofs.YtkeainhjghdfcaaGreat

/- What tables of rows say, out of spans: plain lemmas. -/
namespace Go.Proofs.YtkeainhjghdfcaaGreat
open Go.RowKit

theorem TrieIs.congr {α : Type} {g g' : Int → α} {ks : List Nat} {bl : List (List α)} (h : TrieIs g 8704 ks bl) (hg : ∀ r, 0 ≤ r → r ≤ 1114111 → g r = g' r) : TrieIs g' 8704 ks bl :=
  ⟨h.len, fun m hm => let ⟨k, L, h1, h2, h3⟩ := h.tie m hm; ⟨k, L, h1, h2, fun i hi => by rw [← hg _ (by omega) (by omega)]; exact h3 i hi⟩⟩
/-- all values of rows can be held -/
def RowsOk (R : List Rw) : Prop := ∀ x ∈ R, (Lit.int .i64 x.a).wf = true ∧ (Lit.int .i64 x.b).wf = true

/-- pieces out of spans -/
def pcOf {α : Type} (val : Span → α) (S : List Span) : List (Pc α) := S.map fun s => ⟨s.f, s.t, val s⟩
theorem pcOf_snoc {α : Type} (val : Span → α) (S : List Span) (s : Span) : pcOf val (S ++ [s]) = pcOf val S ++ [⟨s.f, s.t, val s⟩] := by simp [pcOf]
theorem pv_pcOf {α : Type} (z : α) (val : Span → α) : ∀ (S : List Span) (r : Int), pv z (pcOf val S) r = match S.find? (hasS r) with
    | some s => val s
    | none => z
  | [], _ => rfl
  | s :: S, r => by
    have ih := pv_pcOf z val S r
    unfold pcOf pv at ih ⊢
    rw [List.map_cons, List.find?_cons, List.find?_cons]
    have e : hasP r (⟨s.f, s.t, val s⟩ : Pc α) = hasS r s := rfl
    rw [e]
    cases hasS r s with
    | true => rfl
    | false => exact ih
theorem span_of_row {S : List Span} {R : List Rw} {kind : Int} (hG : Good S) (hS : Says S R kind) {s : Span} (hs : s ∈ S) : ∃ x ∈ R, x.k = kind ∧ x.a = s.a ∧ x.b = s.b := by
  have hok := hG.ok s hs
  have h1 : ansS S s.f = some (s.a, s.b) := (ansS_some hG.ris.dis).2 ⟨s, hs, hasS_iff.2 ⟨by omega, hok.2.1⟩, rfl⟩
  rw [hS s.f] at h1
  unfold ansR fnd at h1
  rw [if_pos ⟨hok.1, by have := hok.2.1; have := hok.2.2; omega⟩] at h1
  cases hf : R.find? (hasR kind s.f) with
  | none => rw [hf] at h1; cases h1
  | some x =>
    rw [hf] at h1
    have e : (x.a, x.b) = (s.a, s.b) := by simpa using h1
    exact ⟨x, List.mem_of_find?_eq_some hf, (hasR_iff.1 (List.find?_some hf)).1, congrArg Prod.fst e, congrArg Prod.snd e⟩
theorem Says.ok {S : List Span} {R : List Rw} {kind : Int} (hG : Good S) (hS : Says S R kind) (hR : RowsOk R) : ∀ s ∈ S, (Lit.int .i64 s.a).wf = true ∧ (Lit.int .i64 s.b).wf = true := by
  intro s hs
  obtain ⟨x, hx, _, h1, h2⟩ := span_of_row hG hS hs
  rw [← h1, ← h2]
  exact hR x hx
/-- what a number has -/
theorem pv_says {α : Type} {S : List Span} {R : List Rw} {kind : Int} (hS : Says S R kind) (z : α) (val : Int → Int → α) (r : Int) : pv z (pcOf (fun s => val s.a s.b) S) r = match fnd R kind r with
    | some x => val x.a x.b
    | none => z := by
  rw [pv_pcOf]
  have h := hS r
  unfold ansS ansR at h
  cases h1 : S.find? (hasS r) with
  | none => cases h2 : fnd R kind r with
    | none => rfl
    | some x => rw [h1, h2] at h; cases h
  | some s => cases h2 : fnd R kind r with
    | none => rw [h1, h2] at h; cases h
    | some x =>
      rw [h1, h2] at h
      have e : (s.a, s.b) = (x.a, x.b) := by simpa using h
      show val s.a s.b = val x.a x.b
      have e1 : s.a = x.a := congrArg Prod.fst e
      have e2 : s.b = x.b := congrArg Prod.snd e
      rw [e1, e2]
theorem pv_ofA {S : List Span} {R : List Rw} {kind : Int} (hS : Says S R kind) (r : Int) : pv 0 (pcOf (fun s => s.a) S) r = ofA R kind r := pv_says hS 0 (fun a _ => a) r
theorem good_few_f {S : List Span} (hG : Good S) {α : Type} (val : Span → α) : ∀ p ∈ pcOf val S, p.f ≤ 4611686018427387904 := by
  intro p hp
  obtain ⟨s, hs, rfl⟩ := List.mem_map.1 hp
  have := hG.ok s hs
  unfold okS at this
  show s.f ≤ _
  omega
end Go.Proofs.YtkeainhjghdfcaaGreat

/- A trie as it is read. No program is named here. -/
namespace Go.Proofs.YtkeainhjghdfcaaGreat
open Go.RowKit

section
variable {α : Type} {enc : α → List Value} {sz : Nat}
/-- the trie at block tb holds g -/
def TrieAt (enc : α → List Value) (sz : Nat) (g : Int → α) (B : Nat) (w : World) (tb : Nat) : Prop :=
  ∃ v1 v2 ks bl, tb < B ∧ w.cell? ⟨tb, 0, none⟩ = some (.int .i64 1114112) ∧ w.cell? ⟨tb, 1, none⟩ = some v1 ∧ w.cell? ⟨tb, 2, none⟩ = some v2 ∧ Rd B w 1 v1 ks.length (ks.map natV) ∧ Rd B w (128 * sz) v2 bl.length (bl.flatMap (arrE enc)) ∧ (∀ L ∈ bl, L.length = 128) ∧ TrieIs g 8704 ks bl
theorem TrieAt.below {g : Int → α} {B B' : Nat} {w w' : World} {tb : Nat} (h : TrieAt enc sz g B w tb) (hb : Below B' w w') (hB : B ≤ B') : TrieAt enc sz g B w' tb := by
  obtain ⟨v1, v2, ks, bl, h0, h1, h2, h3, h4, h5, h6, h7⟩ := h
  have hl : tb < B' := Nat.lt_of_lt_of_le h0 hB
  exact ⟨v1, v2, ks, bl, h0, (World.cell?_of_block (hb.block tb hl)).trans h1, (World.cell?_of_block (hb.block tb hl)).trans h2, (World.cell?_of_block (hb.block tb hl)).trans h3, h4.below hb hB, h5.below hb hB, h6, h7⟩
theorem trieAt_of_build {aT iT : TypeId} {g : Int → α} {w : World} {B0 B tb mb kb eb : Nat} {v1 v2 : Value} {ks : List Nat} {bl : List (List α)} (h : MkB enc sz aT iT w B0 B tb mb kb eb v1 v2 ks bl) (ht : TrieIs g 8704 ks bl) : TrieAt enc sz g w.heap.size w tb :=
  ⟨v1, v2, ks, bl, World.block_lt_of_cell? w _ h.t0, h.t0, h.t1, h.t2, rd_of_owns h.o1, rd_of_owns h.o2, h.len, ht⟩
theorem trieAt_cells (hsz : ∀ x, (enc x).length = sz) {g : Int → α} {B : Nat} {w : World} {tb : Nat} (h : TrieAt enc sz g B w tb) {m r : Nat} (hm : m < 8704) (hr : r < 128) :
    ∃ b1 o1 n1 c1 b2 o2 n2 c2 k, w.cell? ⟨tb, 0, none⟩ = some (.int .i64 1114112) ∧ w.cell? ⟨tb, 1, none⟩ = some (.slice (some ⟨b1, o1, none⟩) n1 c1) ∧ w.cell? ⟨tb, 2, none⟩ = some (.slice (some ⟨b2, o2, none⟩) n2 c2) ∧ m < n1 ∧ w.cell? ⟨b1, o1 + m, none⟩ = some (.int .i64 ((k : Nat) : Int)) ∧ k < n2 ∧
      ∀ j u, (enc (g (128 * (m : Int) + r)))[j]? = some u → w.cell? ⟨b2, o2 + k * (128 * sz) + r * sz + j, none⟩ = some u := by
  obtain ⟨v1, v2, ks, bl, _, h1, h2, h3, ⟨a1, c1, rfl, _, _, _, h4⟩, ⟨a2, c2, rfl, _, _, _, h5⟩, h6, h7⟩ := h
  obtain ⟨k, L, hk, hL, hx⟩ := h7.tie m hm
  have hx := hx r hr
  have hm' := (List.getElem?_eq_some_iff.1 hk).1
  have hk' := (List.getElem?_eq_some_iff.1 hL).1
  obtain ⟨b1, o1, rfl, _, hc1⟩ := h4 (by omega)
  obtain ⟨b2, o2, rfl, _, hc2⟩ := h5 (by omega)
  refine ⟨b1, o1, _, c1, b2, o2, _, c2, k, h1, h2, h3, hm', hc1 m (natV k) (by rw [List.getElem?_map, hk]; rfl), hk', fun j u hu => ?_⟩
  have hlen : ∀ M ∈ bl, (arrE enc M).length = 128 * sz := fun M hM => by unfold arrE; rw [flat_len hsz, h6 M hM]
  have e1 := flat_get hsz L r _ j u hx hu
  have e2 : ∀ (S : Nat) (bl : List (List α)) (k : Nat), (∀ M ∈ bl, (arrE enc M).length = S) → bl[k]? = some L → ∀ q u, (arrE enc L)[q]? = some u → (bl.flatMap (arrE enc))[k * S + q]? = some u := by
    intro S bl
    induction bl with
    | nil => intro k _ h; simp at h
    | cons M bl ih =>
      intro k hl hk q u hq
      rw [List.flatMap_cons]
      cases k with
      | zero =>
        simp at hk; subst hk
        rw [Nat.zero_mul, Nat.zero_add, List.getElem?_append_left (List.getElem?_eq_some_iff.1 hq).1]; exact hq
      | succ k =>
        have e : (k + 1) * S + q = S + (k * S + q) := by rw [Nat.succ_mul]; omega
        rw [e, List.getElem?_append_right (by rw [hl M List.mem_cons_self]; omega), hl M List.mem_cons_self, Nat.add_sub_cancel_left]
        exact ih k (fun N hN => hl N (List.mem_cons_of_mem _ hN)) (by simpa using hk) q u hq
  have e3 := hc2 _ u (e2 _ bl k hlen hL _ u e1)
  rw [show o2 + k * (128 * sz) + r * sz + j = o2 + (k * (128 * sz) + (r * sz + j)) by omega]
  exact e3
end
end Go.Proofs.YtkeainhjghdfcaaGreat

/- Rows of values of several cells. No program is named here. -/
namespace Go.Proofs.YtkeainhjghdfcaaGreat
open Go.RowKit

section
variable {α : Type} {enc : α → List Value} {sz : Nat} {w : World} {g t : Nat} {okv : α → Prop} {L : List α}
/-- a row of values being filled -/
def RowG (enc : α → List Value) (w : World) (g t : Nat) (okv : α → Prop) (L : List α) : Prop := w.heap[g]? = some (.cells (L.flatMap enc).toArray t (0, 0)) ∧ okL okv L
theorem RowG.put (hsz : ∀ x, (enc x).length = sz) (h : RowG enc w g t okv L) {i : Nat} (x : α) (hi : i < 128) (hx : okv x) : RowG enc (w.setCells g (i * sz) (enc x)) g t okv (L.set i x) := by
  refine ⟨row_put hsz h.1 i x (by rw [h.2.1]; exact hi), by rw [List.length_set]; exact h.2.1, fun y hy => ?_⟩
  rcases List.mem_or_eq_of_mem_set hy with hy | hy
  · exact h.2.2 y hy
  · rw [hy]; exact hx
theorem RowG.there (hsz : ∀ x, (enc x).length = sz) (h : RowG enc w g t okv L) {i : Nat} (hi : i < 128) : w.there g (i * sz) sz := row_there hsz h.1 i (by rw [h.2.1]; exact hi)
theorem RowG.free (h : RowG enc w g t okv L) (i : Nat) : w.frozen? ⟨g, i, none⟩ = false := by
  unfold World.frozen?; rw [h.1]; simp
theorem RowG.cell (hsz : ∀ x, (enc x).length = sz) (h : RowG enc w g t okv L) {i : Nat} (hi : i < 128) (j : Nat) (hj : j < sz) : ∃ u, w.cell? ⟨g, i * sz + j, none⟩ = some u := by
  have hx : L[i]? = some (L[i]'(by rw [h.2.1]; exact hi)) := List.getElem?_eq_getElem _
  generalize L[i]'(by rw [h.2.1]; exact hi) = x at hx
  refine ⟨(enc x)[j]'(by rw [hsz]; exact hj), ?_⟩
  rw [cell_of_row w g (i * sz + j) _ t (0, 0) h.1]
  have := flat_get hsz L i x j _ hx (List.getElem?_eq_getElem (by rw [hsz]; exact hj))
  rw [List.getElem?_toArray]
  exact this
theorem setCells_below {B : Nat} {a : World} : ∀ (vs : List Value) (o : Nat) (w : World), Below B a w → B ≤ g → Below B a (w.setCells g o vs)
  | [], _, _, h, _ => h
  | v :: r, o, _, h, hg => setCells_below r (o + 1) _ (h.setCell hg v) hg
theorem RowG.later {w' : World} (h : RowG enc w g t okv L) (hb : w'.heap[g]? = w.heap[g]?) : RowG enc w' g t okv L := ⟨hb.trans h.1, h.2⟩
end
end Go.Proofs.YtkeainhjghdfcaaGreat

/- Maps whose entries bear stamps: an entry made first and stored later. No program is named here. -/
namespace Go.Proofs.YtkeainhjghdfcaaGreat
open Go.RowKit Go.Maps Go.WideShapes Go.ChangeMaps

section
variable {α β : Type} {ek : α → Value} {ev : β → Value} {ok : α → Prop} {P : Program} {k : TypeId}
def StampedAt (w : World) (b : Nat) : Prop := ∃ es clock, w.heap[b]? = some (.map es clock) ∧ MapKept.Stamped es clock
structure MapS (ek : α → Value) (ev : β → Value) (ok : α → Prop) (w : World) (b : Nat) (f : α → Option β) : Prop where
  fn : MapFn ek ev ok w b f
  st : StampedAt w b
theorem mapS_made (ek : α → Value) (ev : β → Value) (ok : α → Prop) (w : World) : MapS ek ev ok (w.alloc (.map #[] 0)) w.heap.size (fun _ => none) :=
  ⟨mapFn_made ek ev ok w, #[], 0, heap_alloc_new w _, by simp [MapKept.Stamped]⟩
theorem MapS.same {w w' : World} {b : Nat} {f : α → Option β} (h : MapS ek ev ok w b f) (hb : w'.heap[b]? = w.heap[b]?) : MapS ek ev ok w' b f :=
  ⟨h.fn.same hb, let ⟨es, c, h1, h2⟩ := h.st; ⟨es, c, hb.trans h1, h2⟩⟩
theorem MapS.below {w w' : World} {b : Nat} {f : α → Option β} (h : MapS ek ev ok w b f) (hb : Below w.heap.size w w') : MapS ek ev ok w' b f := h.same (hb.block b h.fn.lt)
theorem MapS.isMap {w : World} {b : Nat} {f : α → Option β} (h : MapS ek ev ok w b f) : ∃ es c, w.heap[b]? = some (.map es c) := let ⟨es, c, h1, _⟩ := h.st; ⟨es, c, h1⟩

variable [DecidableEq α]
theorem findIdx_push {es : Array MapEntry} {clock : Nat} (hs : ∀ x ∈ es.toList, x.born < clock) (key val : Value) : (es.push ⟨key, val, clock⟩).findIdx? (fun e => (e.born : Int) == (clock : Int)) = some es.size := by
  rw [Array.findIdx?_eq_some_iff_getElem]
  refine ⟨by simp, by simp, fun j hj => ?_⟩
  have h1 : (es.push ⟨key, val, clock⟩)[j]'(by simp; omega) = es[j] := Array.getElem_push_lt (by omega)
  rw [h1]
  have := hs es[j] (by simp)
  simp
  omega
theorem findIdx_born {es : Array MapEntry} {clock : Nat} (hs : MapKept.Stamped es clock) {j : Nat} {e0 : MapEntry} (hj : es[j]? = some e0) : es.findIdx? (fun e => (e.born : Int) == (e0.born : Int)) = some j := by
  obtain ⟨h1, h2⟩ := Array.getElem?_eq_some_iff.1 hj
  rw [Array.findIdx?_eq_some_iff_getElem]
  refine ⟨h1, by simp [h2], fun i hi => ?_⟩
  have hnd := hs.2.1
  rw [List.nodup_iff_pairwise_ne, List.pairwise_iff_getElem] at hnd
  have := hnd i j (by simp; omega) (by simp; omega) hi
  simp at this
  rw [h2] at this
  simp
  omega

theorem MapS.entry (E : KeyE P k ek ok) {w : World} {b : Nat} {f : α → Option β} (h : MapS ek ev ok w b f) {t e : TypeId} (ht : P.underlying t = some (.map k e)) {z : Value} (hz : (zeroValue e).run P w = .ok z w) (x : α) (hx : ok x) :
    ∃ v0 st w1, (Instr.mapEntry t (.map (some b)) (ek x)).run P w = .ok (.tuple #[v0, .int .i64 st]) w1 ∧ w.grownBy w1 (some b) ∧ w1.heap.size = w.heap.size ∧ (∃ es c, w1.heap[b]? = some (.map es c)) ∧
      ∀ (v : β) (w' : World), w'.heap[b]? = w1.heap[b]? → ∃ w2, (Instr.entryStore t (.map (some b)) (.int .i64 st) (ev v)).run P w' = .ok () w2 ∧ w'.grownBy w2 (some b) ∧ w2.heap.size = w'.heap.size ∧ MapS ek ev ok w2 b (fnPut f x v) := by
  obtain ⟨hfn, es, clock, hb, hs⟩ := h
  have hput := fun v => run_put E hfn ht x v hx
  obtain ⟨es', clock', hb', h1, h2, h3⟩ := hfn
  rw [hb] at hb'
  cases hb'
  obtain ⟨l, hl⟩ := E.lit x hx
  rcases E.K.find w hl es.toList (fun e he => by obtain ⟨a, c, ha, hk, _⟩ := h1 e he; rw [hk]; exact E.lit a ha) with ⟨g1, g2⟩ | ⟨j, e0, g1, g2, g3⟩
  · refine ⟨z, clock, setBlock w b (.map (es.push ⟨ek x, z, clock⟩) (clock + 1)), ?_, ⟨rfl, rfl, rfl, by simp [setBlock], fun i _ hi => heap_setBlock_other hb _ (fun e => hi (by rw [e]))⟩, by simp [setBlock], ⟨_, _, heap_setBlock_same hb _⟩, ?_⟩
    · simp [Instr.mapEntry, run_underlying ht, MapKept.run_getObj_map hb, E.K.check w false hl, g1, hz, MapKept.run_setObj_map _ hb, Result.andThen, setBlock, goInt]
    · intro v w' hw'
      rw [heap_setBlock_same hb _] at hw'
      refine ⟨setBlock w' b (.map (es.push ⟨ek x, ev v, clock⟩) (clock + 1)), ?_, ⟨rfl, rfl, rfl, by simp [setBlock], fun i _ hi => heap_setBlock_other hw' _ (fun e => hi (by rw [e]))⟩, by simp [setBlock], ?_, ?_⟩
      · have hm : (es.push ⟨ek x, z, clock⟩).modify es.size (fun e => { e with val := ev v }) = es.push ⟨ek x, ev v, clock⟩ := by
          refine (Array.toList_inj.1 ?_)
          rw [Array.toList_modify, Array.toList_push, Array.toList_push, modify_eq_set _ _ _ ⟨ek x, z, clock⟩ (by simp)]
          rw [List.set_append_right (h := by simp)]
          simp
        simp [Instr.entryStore, MapKept.run_getObj_map hw', asInt, asIntOf, findIdx_push hs.1, hm, MapKept.run_setObj_map _ hw', Result.andThen, setBlock]
      · obtain ⟨w3, hr3, hf3, _⟩ := hput v
        have e3 : w3 = setBlock w b (.map (es.push ⟨ek x, ev v, clock⟩) (clock + 1)) := by
          have : (Instr.mapUpdate t (.map (some b)) (ek x) (ev v)).run P w = .ok () (setBlock w b (.map (es.push ⟨ek x, ev v, clock⟩) (clock + 1))) := by
            simp [Instr.mapUpdate, run_underlying ht, MapKept.run_getObj_map hb, E.K.check w false hl, g1, MapKept.run_setObj_map _ hb, Result.andThen, setBlock]
          rw [this] at hr3
          injection hr3 with _ h4
          exact h4.symm
        subst e3
        exact hf3.same (by rw [heap_setBlock_same hw' _, heap_setBlock_same hb _])
      · exact ⟨_, _, heap_setBlock_same hw' _, MapKept.stamped_push hs g2⟩
  · have hj : es[j]? = some e0 := by simpa using g2
    have hst := E.K.stays w hl
    have hmod : es.modify j (fun e' => { e' with key := ek x }) = es := by
      refine (Array.toList_inj.1 ?_)
      rw [Array.toList_modify, modify_eq_set _ _ _ _ g2]
      have e1 : ({ e0 with key := ek x } : MapEntry) = e0 := by rw [← g3]
      rw [e1]
      obtain ⟨q1, q2⟩ := List.getElem?_eq_some_iff.1 g2
      rw [← q2, List.set_getElem_self]
    refine ⟨e0.val, e0.born, setBlock w b (.map es clock), ?_, ⟨rfl, rfl, rfl, by simp [setBlock], fun i _ hi => heap_setBlock_other hb _ (fun e => hi (by rw [e]))⟩, by simp [setBlock], ⟨_, _, heap_setBlock_same hb _⟩, ?_⟩
    · simp [Instr.mapEntry, run_underlying ht, MapKept.run_getObj_map hb, E.K.check w false hl, g1, hj, g3, hst, MapKept.run_setObj_map _ hb, Result.andThen, setBlock, goInt, hmod]
    · intro v w' hw'
      rw [heap_setBlock_same hb _] at hw'
      refine ⟨setBlock w' b (.map (es.modify j (fun e' => { e' with val := ev v })) clock), ?_, ⟨rfl, rfl, rfl, by simp [setBlock], fun i _ hi => heap_setBlock_other hw' _ (fun e => hi (by rw [e]))⟩, by simp [setBlock], ?_, ?_⟩
      · simp [Instr.entryStore, MapKept.run_getObj_map hw', asInt, asIntOf, findIdx_born hs hj, MapKept.run_setObj_map _ hw', Result.andThen, setBlock]
      · obtain ⟨w3, hr3, hf3, _⟩ := hput v
        have hm2 : es.modify j (fun e' => { e' with key := ek x, val := ev v }) = es.modify j (fun e' => { e' with val := ev v }) := by
          refine (Array.toList_inj.1 ?_)
          rw [Array.toList_modify, Array.toList_modify, modify_eq_set _ _ _ _ g2, modify_eq_set _ _ _ _ g2, ← g3]
        have e3 : w3 = setBlock w b (.map (es.modify j (fun e' => { e' with val := ev v })) clock) := by
          have : (Instr.mapUpdate t (.map (some b)) (ek x) (ev v)).run P w = .ok () (setBlock w b (.map (es.modify j (fun e' => { e' with key := ek x, val := ev v })) clock)) := by
            simp [Instr.mapUpdate, run_underlying ht, MapKept.run_getObj_map hb, E.K.check w false hl, g1, hj, g3, hst, MapKept.run_setObj_map _ hb, Result.andThen, setBlock]
          rw [this, hm2] at hr3
          injection hr3 with _ h4
          exact h4.symm
        subst e3
        exact hf3.same (by rw [heap_setBlock_same hw' _, heap_setBlock_same hb _])
      · exact ⟨_, _, heap_setBlock_same hw' _, MapKept.stamped_modify hs _ _ (fun _ _ => rfl) (fun _ _ _ => rfl)⟩
end
end Go.Proofs.YtkeainhjghdfcaaGreat

/- Clusters, plainly: what the program's states know is what the document's rules say. -/
namespace Go.Proofs.YtkeainhjghdfcaaGreat
open Go.RowKit

/-- rows that have a number -/
theorem fnd_mem {R : List Rw} {k r : Int} {x : Rw} (h : fnd R k r = some x) : x ∈ R ∧ x.k = k ∧ x.f ≤ r ∧ r ≤ x.t ∧ 0 ≤ r ∧ r ≤ 1114111 := by
  unfold fnd at h
  split at h
  · rename_i hr
    exact ⟨List.mem_of_find?_eq_some h, (hasR_iff.1 (List.find?_some h)).1, (hasR_iff.1 (List.find?_some h)).2.1, (hasR_iff.1 (List.find?_some h)).2.2, hr.1, hr.2⟩
  · cases h
/-- what is known of scalars: how they go with neighbours, pictures, consonants -/
structure Tab where
  b : Int → Int
  p : Int → Bool
  c : Int → Int
structure Tab.Ok (T : Tab) : Prop where
  p : ∀ r, T.p r = true → T.b r = 0
  c : ∀ r, T.c r = 0 ∨ (T.c r = 1 ∧ T.b r = 4) ∨ (T.c r = 2 ∧ T.b r = 0) ∨ (T.c r = 3 ∧ (T.b r = 4 ∨ T.b r = 5))
/-- how a scalar goes with its neighbours -/
def brkR (R : List Rw) (r : Int) : Int := if 44032 ≤ r ∧ r ≤ 55203 then (if (r - 44032) % 28 = 0 then 12 else 13) else ofA R 4 r
def conjR (R : List Rw) (r : Int) : Int := if ofA R 6 r ≠ 0 then ofA R 6 r else if (brkR R r = 4 ∨ brkR R r = 5) ∧ r ≠ 8204 then 3 else 0
def tabOf (R : List Rw) : Tab := ⟨brkR R, fun r => decide (ofA R 5 r = 1), conjR R⟩

/-- the rules of syllables -/
def hangulB (a b : Int) : Bool := (decide (a = 9) && (decide (b = 9) || decide (b = 10) || decide (b = 12) || decide (b = 13))) || ((decide (a = 12) || decide (a = 10)) && (decide (b = 10) || decide (b = 11))) || ((decide (a = 13) || decide (a = 11)) && decide (b = 11))
def hardB (b : Int) : Bool := decide (b = 3) || decide (b = 1) || decide (b = 2)
/-- two scalars belong together, by what they are alone -/
def sticksB (a b : Int) : Bool :=
  if a = 1 then decide (b = 2) else if a = 2 ∨ a = 3 then false else if b = 1 ∨ b = 2 ∨ b = 3 then false else if b = 4 ∨ b = 5 ∨ b = 8 then true else if a = 7 then true else hangulB a b
structure St where
  some : Bool
  last : Int
  pict : Int
  conj : Int
  odd : Bool
def St0 : St := ⟨false, 0, 0, 0, false⟩
def nextP (T : Tab) (s : St) (r : Int) : Int := if T.p r then 1 else if s.pict = 1 ∧ T.b r = 4 then 1 else if s.pict = 1 ∧ T.b r = 5 then 2 else 0
def nextC (T : Tab) (s : St) (r : Int) : Int := if T.c r = 2 then 1 else if s.conj ≠ 0 ∧ T.c r = 1 then 2 else if s.conj ≠ 0 ∧ T.c r = 3 then s.conj else 0
def nextSt (T : Tab) (s : St) (r : Int) : St := ⟨true, T.b r, nextP T s r, nextC T s r, decide (T.b r = 6) && !s.odd⟩
def cutB (T : Tab) (s : St) (r : Int) : Bool :=
  !s.some || (!sticksB s.last (T.b r) && !(decide (s.pict = 2) && T.p r) && !(decide (s.conj = 2) && decide (T.c r = 2)) && !(s.odd && decide (T.b r = 6)))

/-- the state behind scalars, the last one first -/
def stOf (T : Tab) : List Int → St
  | [] => St0
  | a :: l => nextSt T (stOf T l) a

/-- the document's rules, of scalars ahead, the last one first -/
def conjBack (T : Tab) (linked : Bool) : List Int → Bool
  | [] => false
  | a :: l => if T.c a = 2 then linked else if T.c a = 0 then false else if T.c a = 1 then conjBack T true l else conjBack T linked l
def pictBack (T : Tab) : List Int → Bool
  | [] => false
  | a :: l => if T.p a then true else if T.b a ≠ 4 then false else pictBack T l
def flagBack (T : Tab) : List Int → Nat
  | [] => 0
  | a :: l => if T.b a = 6 then flagBack T l + 1 else 0
def begB (T : Tab) (pre : List Int) (r : Int) : Bool := match pre with
  | [] => true
  | a :: l =>
    if T.b a = 1 ∧ T.b r = 2 then false else if hardB (T.b a) || hardB (T.b r) then true
    else if hangulB (T.b a) (T.b r) || decide (T.b r = 4) || decide (T.b r = 5) || decide (T.b r = 8) || decide (T.b a = 7) then false
    else !(decide (T.c r = 2) && conjBack T false (a :: l)) && !(T.p r && (decide (T.b a = 5) && pictBack T l)) && !(decide (T.b r = 6) && decide (flagBack T (a :: l) % 2 = 1))

theorem stOf_odd (T : Tab) : ∀ l, (stOf T l).odd = decide (flagBack T l % 2 = 1)
  | [] => by simp [stOf, St0, flagBack]
  | a :: l => by
    have ih := stOf_odd T l
    simp only [stOf, nextSt, flagBack, ih]
    by_cases h : T.b a = 6
    · simp only [h, decide_true, Bool.true_and, if_pos]
      by_cases h2 : flagBack T l % 2 = 1
      · have : ¬ ((flagBack T l + 1) % 2 = 1) := by omega
        simp [h2, this]
      · have : (flagBack T l + 1) % 2 = 1 := by omega
        simp [h2, this]
    · simp [h]
theorem stOf_pict (T : Tab) : ∀ l, (stOf T l).pict = 1 ↔ pictBack T l = true
  | [] => by simp [stOf, St0, pictBack]
  | a :: l => by
    have ih := stOf_pict T l
    simp only [stOf, nextSt, nextP, pictBack]
    by_cases hp : T.p a = true
    · simp [hp]
    · simp only [hp]
      by_cases h4 : T.b a = 4
      · by_cases h1 : (stOf T l).pict = 1
        · simp [h4, h1, ih.1 h1]
        · have : ¬ pictBack T l = true := fun h => h1 (ih.2 h)
          simp [h4, h1, this]
      · by_cases h5 : (stOf T l).pict = 1 ∧ T.b a = 5
        · simp [h5]
        · simp [h4, h5]
theorem stOf_pict2 {T : Tab} (H : T.Ok) (a : Int) (l : List Int) : (stOf T (a :: l)).pict = 2 ↔ T.b a = 5 ∧ pictBack T l = true := by
  have ih := stOf_pict T l
  simp only [stOf, nextSt, nextP]
  by_cases hp : T.p a = true
  · have := H.p a hp
    simp [hp, this]
  · simp only [hp]
    by_cases h4 : T.b a = 4
    · by_cases h1 : (stOf T l).pict = 1
      · simp [h4, h1]
      · simp [h4, h1]
    · by_cases h5 : T.b a = 5
      · by_cases h1 : (stOf T l).pict = 1
        · simp [h5, h1, ih.1 h1]
        · have : ¬ pictBack T l = true := fun h => h1 (ih.2 h)
          simp [h5, h1, this]
      · simp [h4, h5]
theorem stOf_conj {T : Tab} (H : T.Ok) : ∀ l, ((stOf T l).conj ≠ 0 ↔ conjBack T true l = true) ∧ ((stOf T l).conj = 2 ↔ conjBack T false l = true) ∧ ((stOf T l).conj = 0 ∨ (stOf T l).conj = 1 ∨ (stOf T l).conj = 2)
  | [] => by simp [stOf, St0, conjBack]
  | a :: l => by
    obtain ⟨i1, i2, i3⟩ := stOf_conj H l
    simp only [stOf, nextSt, nextC, conjBack]
    generalize (stOf T l).conj = q at i1 i2 i3
    rcases H.c a with h | ⟨h, _⟩ | ⟨h, _⟩ | ⟨h, _⟩
    · simp [h]
    · rw [h]
      by_cases hq : q = 0
      · have : ¬ conjBack T true l = true := fun h => (i1.2 h) hq
        simp [hq, this]
      · have := i1.1 hq
        simp [hq, this]
    · simp [h]
    · rw [h]
      by_cases hq : q = 0
      · have e1 : ¬ conjBack T true l = true := fun h => (i1.2 h) hq
        have e2 : ¬ conjBack T false l = true := fun h => by have := i2.2 h; omega
        simp [hq, e1, e2]
      · have := i1.1 hq
        rcases i3 with e | e | e
        · exact absurd e hq
        · have e2 : ¬ conjBack T false l = true := fun h => by have := i2.2 h; omega
          simp [e, this, e2]
        · simp [e, this, i2.1 e]
/-- a scalar that is hard has no part in consonants or pictures -/
theorem hard_pict {T : Tab} (H : T.Ok) {a : Int} {l : List Int} (h : hardB (T.b a) = true) : (stOf T (a :: l)).pict = 0 ∧ (stOf T (a :: l)).conj = 0 ∧ (stOf T (a :: l)).odd = false := by
  have hb : T.b a = 3 ∨ T.b a = 1 ∨ T.b a = 2 := by simpa [hardB, or_assoc] using h
  have hp : ¬ T.p a = true := fun e => by have := H.p a e; omega
  have hc : T.c a = 0 := by rcases H.c a with e | ⟨_, e⟩ | ⟨_, e⟩ | ⟨_, e⟩ <;> omega
  refine ⟨?_, ?_, ?_⟩
  · simp only [stOf, nextSt, nextP]
    rw [if_neg hp, if_neg (fun e => by have := e.2; omega), if_neg (fun e => by have := e.2; omega)]
  · simp [stOf, nextSt, nextC, hc]
  · simp only [stOf, nextSt]
    rw [decide_eq_false (by omega)]; rfl
theorem hang_soft {a b : Int} (h : hardB a = true ∨ hardB b = true) : hangulB a b = false := by
  simp only [hardB, Bool.or_eq_true, decide_eq_true_eq, or_assoc] at h
  unfold hangulB
  rcases h with h | h | h | h | h | h <;> subst h <;> simp
/-- what the states know is what the rules say -/
theorem cut_beg {T : Tab} (H : T.Ok) (l : List Int) (r : Int) : cutB T (stOf T l) r = begB T l r := by
  cases l with
  | nil => simp [stOf, St0, cutB, begB]
  | cons a l =>
    have hs : (stOf T (a :: l)).some = true := rfl
    have hl : (stOf T (a :: l)).last = T.b a := rfl
    have hpr : T.p r = true → T.b r = 0 := H.p r
    have hcr : T.c r = 2 → T.b r = 0 := fun e => by rcases H.c r with e' | ⟨e', _⟩ | ⟨_, e'⟩ | ⟨e', _⟩ <;> omega
    simp only [cutB, begB, hs, hl, Bool.not_true, Bool.false_or]
    by_cases h12 : T.b a = 1 ∧ T.b r = 2
    · rw [if_pos h12]
      simp [sticksB, h12.1, h12.2]
    · rw [if_neg h12]
      by_cases hh : (hardB (T.b a) || hardB (T.b r)) = true
      · rw [if_pos hh]
        have hst : sticksB (T.b a) (T.b r) = false := by
          have hor := (Bool.or_eq_true _ _).mp hh
          have hgs := hang_soft hor
          simp only [hardB, Bool.or_eq_true, decide_eq_true_eq, or_assoc] at hor
          unfold sticksB
          by_cases q1 : T.b a = 1
          · rw [if_pos q1, decide_eq_false (fun e => h12 ⟨q1, e⟩)]
          · rw [if_neg q1]
            by_cases q2 : T.b a = 2 ∨ T.b a = 3
            · rw [if_pos q2]
            · rw [if_neg q2, if_pos (by omega)]
        rw [hst]
        simp only [Bool.not_false, Bool.true_and]
        rcases (Bool.or_eq_true _ _).mp hh with ha | hr
        · obtain ⟨e1, e2, e3⟩ := hard_pict H (l := l) ha
          simp [e1, e2, e3]
        · have hb : T.b r = 3 ∨ T.b r = 1 ∨ T.b r = 2 := by simpa [hardB, or_assoc] using hr
          have e1 : T.p r = false := by
            cases e : T.p r with
            | false => rfl
            | true => have := hpr e; omega
          have e2 : ¬ T.c r = 2 := fun e => by have := hcr e; omega
          have e3 : ¬ T.b r = 6 := by omega
          simp [e1, e2, e3]
      · rw [if_neg hh]
        have hha : ¬ (T.b a = 3 ∨ T.b a = 1 ∨ T.b a = 2) := fun e => hh (by simp [hardB]; omega)
        have hhr : ¬ (T.b r = 3 ∨ T.b r = 1 ∨ T.b r = 2) := fun e => hh (by simp [hardB]; omega)
        have hst : sticksB (T.b a) (T.b r) = (hangulB (T.b a) (T.b r) || decide (T.b r = 4) || decide (T.b r = 5) || decide (T.b r = 8) || decide (T.b a = 7)) := by
          unfold sticksB
          rw [if_neg (by omega), if_neg (by omega), if_neg (by omega)]
          by_cases q1 : T.b r = 4 ∨ T.b r = 5 ∨ T.b r = 8
          · rw [if_pos q1]
            rcases q1 with q | q | q <;> simp [q]
          · rw [if_neg q1]
            have z1 : ¬ T.b r = 4 := by omega
            have z2 : ¬ T.b r = 5 := by omega
            have z3 : ¬ T.b r = 8 := by omega
            by_cases q2 : T.b a = 7
            · rw [if_pos q2]; simp [q2]
            · rw [if_neg q2]; simp [z1, z2, z3, q2]
        rw [hst]
        by_cases hk : (hangulB (T.b a) (T.b r) || decide (T.b r = 4) || decide (T.b r = 5) || decide (T.b r = 8) || decide (T.b a = 7)) = true
        · rw [if_pos hk, hk]; rfl
        · rw [if_neg hk, eq_false_of_ne_true hk]
          simp only [Bool.not_false, Bool.true_and]
          have e1 : decide ((stOf T (a :: l)).pict = 2) = (decide (T.b a = 5) && pictBack T l) := by
            rw [Bool.eq_iff_iff]; simp [stOf_pict2 H a l]
          have e2 : decide ((stOf T (a :: l)).conj = 2) = conjBack T false (a :: l) := by
            rw [Bool.eq_iff_iff]; simp [(stOf_conj H (a :: l)).2.1]
          rw [e1, e2, stOf_odd]
          cases T.p r <;> cases decide (T.b a = 5) <;> cases pictBack T l <;> cases decide (T.c r = 2) <;> cases conjBack T false (a :: l) <;> cases decide (T.b r = 6) <;> cases decide (flagBack T (a :: l) % 2 = 1) <;> rfl
/-- behind the beginning of a cluster the state is as if nothing were ahead -/
theorem cut_fresh {T : Tab} (H : T.Ok) (l : List Int) (r : Int) (h : begB T l r = true) : nextSt T (stOf T l) r = nextSt T St0 r := by
  cases l with
  | nil => rfl
  | cons a l =>
    have hcut := h
    rw [← cut_beg H] at hcut
    simp only [begB] at h
    by_cases h12 : T.b a = 1 ∧ T.b r = 2
    · rw [if_pos h12] at h; cases h
    · rw [if_neg h12] at h
      have hodd : (decide (T.b r = 6) && !(stOf T (a :: l)).odd) = (decide (T.b r = 6) && !St0.odd) := by
        by_cases h6 : T.b r = 6
        · simp only [cutB, h6, decide_true, Bool.and_true] at hcut
          have : (stOf T (a :: l)).odd = false := by
            cases e : (stOf T (a :: l)).odd with
            | false => rfl
            | true => rw [e] at hcut; simp [stOf, nextSt] at hcut
          rw [this]; rfl
        · simp [h6]
      have hext : (T.b r = 4 ∨ T.b r = 5) → (stOf T (a :: l)).pict = 0 ∧ (stOf T (a :: l)).conj = 0 := by
        intro h45
        by_cases hha : hardB (T.b a) = true
        · obtain ⟨e1, e2, _⟩ := hard_pict H (l := l) hha
          exact ⟨e1, e2⟩
        · have hhr : hardB (T.b r) = false := by rcases h45 with e | e <;> simp [hardB, e]
          rw [eq_false_of_ne_true hha, hhr, if_neg (by decide)] at h
          rw [if_pos (by rcases h45 with e | e <;> simp [e])] at h
          cases h
      have hp : nextP T (stOf T (a :: l)) r = nextP T St0 r := by
        unfold nextP
        by_cases hp : T.p r = true
        · rw [if_pos hp, if_pos hp]
        · rw [if_neg hp, if_neg hp]
          by_cases h45 : T.b r = 4 ∨ T.b r = 5
          · rw [(hext h45).1]; rfl
          · rw [if_neg (by omega), if_neg (by omega), if_neg (by omega), if_neg (by omega)]
      have hc : nextC T (stOf T (a :: l)) r = nextC T St0 r := by
        unfold nextC
        rcases H.c r with e | ⟨e, e'⟩ | ⟨e, e'⟩ | ⟨e, e'⟩
        · rw [e]; simp
        · rw [(hext (.inl e')).2]; rfl
        · rw [e]; simp
        · rw [(hext e').2]; rfl
      unfold nextSt
      rw [hp, hc, hodd]
end Go.Proofs.YtkeainhjghdfcaaGreat

/- Places of a text, plainly: where clusters begin, the next one, what is sure from two scalars alone. -/
namespace Go.Proofs.YtkeainhjghdfcaaGreat

/-- does it hang on what is further ahead? -/
def hangsB (T : Tab) (a r : Int) : Bool := if T.b r = 6 then decide (T.b a = 6) else if T.b r = 0 then (decide (T.b a = 5) && T.p r) || (decide (T.c r = 2) && (decide (T.c a ≠ 0) && decide (T.c a ≠ 2))) else false
theorem two_sure {T : Tab} (H : T.Ok) {a r : Int} (l : List Int) (h : cutB T (nextSt T St0 a) r = true) (hn : hangsB T a r = false) : begB T (a :: l) r = true := by
  have h2 : begB T [a] r = true := by rw [← cut_beg H]; exact h
  have hp : T.p r = true → T.b r = 0 := H.p r
  have hc : T.c r = 2 → T.b r = 0 := fun e => by rcases H.c r with e' | ⟨e', _⟩ | ⟨_, e'⟩ | ⟨e', _⟩ <;> omega
  simp only [begB] at h2 ⊢
  by_cases h12 : T.b a = 1 ∧ T.b r = 2
  · rw [if_pos h12] at h2; cases h2
  · rw [if_neg h12] at h2 ⊢
    by_cases hh : (hardB (T.b a) || hardB (T.b r)) = true
    · rw [if_pos hh]
    · rw [if_neg hh] at h2 ⊢
      by_cases hk : (hangulB (T.b a) (T.b r) || decide (T.b r = 4) || decide (T.b r = 5) || decide (T.b r = 8) || decide (T.b a = 7)) = true
      · rw [if_pos hk] at h2; cases h2
      · rw [if_neg hk]
        unfold hangsB at hn
        have e1 : (decide (T.c r = 2) && conjBack T false (a :: l)) = false := by
          by_cases q : T.c r = 2
          · have hb := hc q
            rw [if_neg (by omega), if_pos hb] at hn
            simp only [q, decide_true, Bool.true_and, Bool.or_eq_false_iff] at hn
            have hn2 := hn.2
            simp only [q, decide_true, Bool.true_and, conjBack]
            by_cases q2 : T.c a = 2
            · rw [if_pos q2]
            · rw [if_neg q2]
              by_cases q0 : T.c a = 0
              · rw [if_pos q0]
              · simp [q0, q2] at hn2
          · simp [q]
        have e2 : (T.p r && (decide (T.b a = 5) && pictBack T l)) = false := by
          by_cases q : T.p r = true
          · have hb := hp q
            rw [if_neg (by omega), if_pos hb] at hn
            simp only [q, Bool.and_true, Bool.or_eq_false_iff] at hn
            simp [hn.1]
          · simp [q]
        have e3 : (decide (T.b r = 6) && decide (flagBack T (a :: l) % 2 = 1)) = false := by
          by_cases q : T.b r = 6
          · rw [if_pos q, decide_eq_false_iff_not] at hn
            simp [flagBack, hn]
          · simp [q]
        rw [e1, e2, e3]; rfl

/-- how many scalars more, until a cluster begins -/
def runLen (T : Tab) (st : St) : List Int → Nat
  | [] => 0
  | r :: l => if cutB T st r then 0 else runLen T (nextSt T st r) l + 1
/-- of a text that is not empty: where its first cluster ends -/
def nx (T : Tab) : List Int → Nat
  | [] => 0
  | r :: l => runLen T (nextSt T St0 r) l + 1
def begAt (T : Tab) (s : List Int) (i : Nat) : Bool := match s[i]? with
  | some r => begB T (s.take i).reverse r
  | none => false
/-- the document's next place -/
def fnb (T : Tab) (pre : List Int) : List Int → Nat
  | [] => 0
  | r :: l => if begB T pre r then 0 else fnb T (r :: pre) l + 1
theorem run_fnb {T : Tab} (H : T.Ok) : ∀ (l pre : List Int), runLen T (stOf T pre) l = fnb T pre l
  | [], _ => rfl
  | r :: l, pre => by
    simp only [runLen, fnb]
    rw [cut_beg H, show nextSt T (stOf T pre) r = stOf T (r :: pre) from rfl, run_fnb H l (r :: pre)]
theorem runLen_le (T : Tab) : ∀ (l : List Int) (st : St), runLen T st l ≤ l.length
  | [], _ => Nat.le_refl _
  | r :: l, st => by
    simp only [runLen, List.length_cons]
    split
    · omega
    · have := runLen_le T l (nextSt T st r); omega
theorem nx_le (T : Tab) (s : List Int) : nx T s ≤ s.length := by
  cases s with
  | nil => exact Nat.le_refl _
  | cons r l => simp only [nx, List.length_cons]; have := runLen_le T l (nextSt T St0 r); omega
theorem nx_pos (T : Tab) {s : List Int} (h : s ≠ []) : 1 ≤ nx T s := by
  cases s with
  | nil => exact absurd rfl h
  | cons r l => simp [nx]
theorem take_succ_rev {s : List Int} {i : Nat} {r : Int} (h : s[i]? = some r) : (s.take (i + 1)).reverse = r :: (s.take i).reverse := by
  rw [List.take_add_one, h]; simp
theorem drop_of_get {s : List Int} {i : Nat} {r : Int} (h : s[i]? = some r) : s.drop i = r :: s.drop (i + 1) := by
  obtain ⟨hl, e⟩ := List.getElem?_eq_some_iff.1 h
  rw [List.drop_eq_getElem_cons hl, e]
/-- from where a cluster begins the document's next place is the program's -/
theorem nx_fnb {T : Tab} (H : T.Ok) {s : List Int} {i : Nat} (h : begAt T s i = true) : i + nx T (s.drop i) = i + 1 + fnb T (s.take (i + 1)).reverse (s.drop (i + 1)) := by
  unfold begAt at h
  cases hr : s[i]? with
  | none => rw [hr] at h; cases h
  | some r =>
    rw [hr] at h
    rw [drop_of_get hr, take_succ_rev hr]
    simp only [nx]
    rw [← cut_fresh H _ r h, show nextSt T (stOf T (s.take i).reverse) r = stOf T (r :: (s.take i).reverse) from rfl, run_fnb H]
    omega
/-- the document's next place: none between begins a cluster; it begins one, or is the end -/
theorem fnb_spec (T : Tab) (s : List Int) : ∀ (n i : Nat), s.length - i = n → i ≤ s.length → (∀ j, i ≤ j → j < i + fnb T (s.take i).reverse (s.drop i) → begAt T s j = false) ∧ i + fnb T (s.take i).reverse (s.drop i) ≤ s.length ∧ (i + fnb T (s.take i).reverse (s.drop i) = s.length ∨ begAt T s (i + fnb T (s.take i).reverse (s.drop i)) = true) := by
  intro n
  induction n with
  | zero =>
    intro i h1 h2
    rw [List.drop_eq_nil_of_le (by omega)]
    simp only [fnb, Nat.add_zero]
    exact ⟨fun j a b => by omega, h2, .inl (by omega)⟩
  | succ n ih =>
    intro i h1 h2
    have hi : s[i]? = some s[i] := List.getElem?_eq_getElem (by omega)
    generalize hr : s[i] = r at hi
    have hb : begAt T s i = begB T (s.take i).reverse r := by unfold begAt; rw [hi]
    rw [drop_of_get hi]
    simp only [fnb]
    cases hc : begB T (s.take i).reverse r with
    | true =>
      simp only [if_true, Nat.add_zero]
      exact ⟨fun j a b => by omega, h2, .inr (hb.trans hc)⟩
    | false =>
      obtain ⟨p1, p2, p3⟩ := ih (i + 1) (by omega) (by omega)
      rw [take_succ_rev hi] at p1 p2 p3
      simp only [Bool.false_eq_true, if_false]
      generalize fnb T (r :: (s.take i).reverse) (s.drop (i + 1)) = q at p1 p2 p3
      rw [show i + (q + 1) = i + 1 + q by omega]
      refine ⟨fun j a b => ?_, p2, p3⟩
      by_cases hj : j = i
      · subst hj; exact hb.trans hc
      · exact p1 j (by omega) b
theorem begAt_zero (T : Tab) {s : List Int} (h : s ≠ []) : begAt T s 0 = true := by
  cases s with
  | nil => exact absurd rfl h
  | cons r l => rfl
theorem begAt_lt {T : Tab} {s : List Int} {i : Nat} (h : begAt T s i = true) : i < s.length := by
  unfold begAt at h
  cases hr : s[i]? with
  | none => rw [hr] at h; cases h
  | some r => exact (List.getElem?_eq_some_iff.1 hr).1
/-- from where a cluster begins: the next place, told by what is between -/
theorem nx_spec {T : Tab} (H : T.Ok) {s : List Int} {i : Nat} (h : begAt T s i = true) : i < i + nx T (s.drop i) ∧ i + nx T (s.drop i) ≤ s.length ∧ (∀ j, i < j → j < i + nx T (s.drop i) → begAt T s j = false) ∧ (i + nx T (s.drop i) = s.length ∨ begAt T s (i + nx T (s.drop i)) = true) := by
  have hl := begAt_lt h
  rw [nx_fnb H h]
  obtain ⟨p1, p2, p3⟩ := fnb_spec T s _ (i + 1) rfl (by omega)
  exact ⟨by omega, p2, fun j a b => p1 j (by omega) b, p3⟩

/-- where clusters begin, as the program goes -/
def startsF (T : Tab) (st : St) (i : Nat) : List Int → List Nat
  | [] => []
  | r :: l => if cutB T st r then i :: startsF T (nextSt T st r) (i + 1) l else startsF T (nextSt T st r) (i + 1) l
/-- as the document goes -/
def startsB (T : Tab) (pre : List Int) (i : Nat) : List Int → List Nat
  | [] => []
  | r :: l => if begB T pre r then i :: startsB T (r :: pre) (i + 1) l else startsB T (r :: pre) (i + 1) l
def starts (T : Tab) (s : List Int) : List Nat := startsB T [] 0 s
theorem startsF_B {T : Tab} (H : T.Ok) : ∀ (l pre : List Int) (i : Nat), startsF T (stOf T pre) i l = startsB T pre i l
  | [], _, _ => rfl
  | r :: l, pre, i => by
    simp only [startsF, startsB]
    rw [cut_beg H, show nextSt T (stOf T pre) r = stOf T (r :: pre) from rfl, startsF_B H l (r :: pre)]
theorem starts_of {T : Tab} (H : T.Ok) (s : List Int) : startsF T St0 0 s = starts T s := startsF_B H s [] 0
theorem startsF_shift (T : Tab) (k : Nat) : ∀ (l : List Int) (st : St) (i : Nat), startsF T st (i + k) l = (startsF T st i l).map (· + k)
  | [], _, _ => rfl
  | r :: l, st, i => by
    simp only [startsF]
    rw [show i + k + 1 = i + 1 + k by omega, startsF_shift T k l]
    split <;> simp
/-- the places where clusters begin are those, one by one -/
theorem startsB_mem (T : Tab) (s : List Int) : ∀ (n i : Nat), s.length - i = n → i ≤ s.length → ∀ j, j ∈ startsB T (s.take i).reverse i (s.drop i) ↔ i ≤ j ∧ begAt T s j = true := by
  intro n
  induction n with
  | zero =>
    intro i h1 h2 j
    rw [List.drop_eq_nil_of_le (by omega)]
    simp only [startsB, List.not_mem_nil, false_iff]
    rintro ⟨a, b⟩
    have := begAt_lt b
    omega
  | succ n ih =>
    intro i h1 h2 j
    have hi : s[i]? = some s[i] := List.getElem?_eq_getElem (by omega)
    generalize hr : s[i] = r at hi
    have hb : begAt T s i = begB T (s.take i).reverse r := by unfold begAt; rw [hi]
    have h3 := ih (i + 1) (by omega) (by omega) j
    rw [take_succ_rev hi] at h3
    rw [drop_of_get hi]
    simp only [startsB]
    cases hc : begB T (s.take i).reverse r with
    | true =>
      simp only [if_true, List.mem_cons, h3]
      constructor
      · rintro (rfl | ⟨a, b⟩)
        · exact ⟨Nat.le_refl _, hb.trans hc⟩
        · exact ⟨by omega, b⟩
      · rintro ⟨a, b⟩
        by_cases hj : j = i
        · exact .inl hj
        · exact .inr ⟨by omega, b⟩
    | false =>
      simp only [Bool.false_eq_true, if_false, h3]
      constructor
      · rintro ⟨a, b⟩; exact ⟨by omega, b⟩
      · rintro ⟨a, b⟩
        refine ⟨?_, b⟩
        by_cases hj : j = i
        · subst hj; rw [hb.trans hc] at b; cases b
        · omega
theorem startsB_ge (T : Tab) : ∀ (l pre : List Int) (i : Nat), ∀ j ∈ startsB T pre i l, i ≤ j
  | [], _, _, j, h => by simp [startsB] at h
  | r :: l, pre, i, j, h => by
    simp only [startsB] at h
    split at h
    · rcases List.mem_cons.1 h with rfl | h
      · exact Nat.le_refl _
      · have := startsB_ge T l _ _ j h; omega
    · have := startsB_ge T l _ _ j h; omega
theorem startsB_sorted (T : Tab) : ∀ (l pre : List Int) (i : Nat), (startsB T pre i l).Pairwise (· < ·)
  | [], _, _ => by simp [startsB]
  | r :: l, pre, i => by
    simp only [startsB]
    split
    · exact List.pairwise_cons.2 ⟨fun j hj => by have := startsB_ge T l _ _ j hj; omega, startsB_sorted T l _ _⟩
    · exact startsB_sorted T l _ _
theorem starts_mem (T : Tab) (s : List Int) (j : Nat) : j ∈ starts T s ↔ begAt T s j = true := by
  have h := startsB_mem T s _ 0 rfl (Nat.zero_le _) j
  simpa [starts] using h
theorem starts_sorted (T : Tab) (s : List Int) : (starts T s).Pairwise (· < ·) := startsB_sorted T s [] 0
end Go.Proofs.YtkeainhjghdfcaaGreat
