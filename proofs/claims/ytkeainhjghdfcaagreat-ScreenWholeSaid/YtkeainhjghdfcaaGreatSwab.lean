/- Joined texts: TrieN TrieR Kept TrieQ TabP TrieS TrieT MapS Law BackP RangeT WrapA WrapB WrapC WrapD WrapL WrapN GridP GridA GridB GridC GridD GridE GridF GridH RefA RefB RefC RefD RefE GridI GridJ GridK GridL CatG. -/
import Derived.Deep.Upon
import Derived.Deep.MidRow
import Derived.MapKept
import Derived.ProofKit
import Derived.OpenShut
import Derived.Deep.Slices
import Derived.Deep.Fields
import Derived.ChangeSame
import Derived.SizedLaws
import Derived.RangeFuncNested
import Derived.RangeFuncBound
import Derived.RangeFuncCalls
import Derived.RangeFuncLeaves
import Derived.Shelf.Abstract
import Derived.Test.YtkeainhjghdfcaaGreatRows
import Derived.Shelf.RegionOpen
import Derived.OwnWalkIn
import Derived.TacticsInMore
import Derived.LoopNIn
import Derived.LoopIn
import Derived.Deep.QuietTactic
import Derived.BigQuiet
import Derived.IntWalk
import Derived.Deep.RegionHeld3
import Derived.Test.YtkeainhjghdfcaaGreatSwaa

/- Arrays as keys of maps. No program is named here. -/
namespace Go.Proofs.YtkeainhjghdfcaaGreat
open Go.RowKit

section
variable {α : Type} {enc : α → List Value} {sz : Nat}
theorem chunk_at (hsz : ∀ x, (enc x).length = sz) : ∀ (L : List α) (i : Nat) (x : α), L[i]? = some x → ((L.flatMap enc).drop (i * sz)).take sz = enc x := by
  intro L
  induction L with
  | nil => intro i x h; simp at h
  | cons y L ih =>
    intro i x h
    rw [List.flatMap_cons]
    cases i with
    | zero =>
      simp at h; subst h
      rw [Nat.zero_mul, List.drop_zero, List.take_append_of_le_length (by rw [hsz]; exact Nat.le_refl _), List.take_of_length_le (by rw [hsz]; exact Nat.le_refl _)]
    | succ i =>
      have e : ((enc y ++ L.flatMap enc).drop ((i + 1) * sz)) = (L.flatMap enc).drop (i * sz) := by
        rw [List.drop_append, List.drop_of_length_le (by rw [hsz]; rw [Nat.succ_mul]; omega), List.nil_append, hsz, Nat.succ_mul, Nat.add_sub_cancel]
      rw [e]
      exact ih i x (by simpa using h)
theorem flat_inj (hsz : ∀ x, (enc x).length = sz) (hpos : 0 < sz) (hinj : ∀ x y, enc x = enc y → x = y) : ∀ (L M : List α), L.flatMap enc = M.flatMap enc → L = M := by
  intro L
  induction L with
  | nil =>
    intro M h
    cases M with
    | nil => rfl
    | cons y M => have := congrArg List.length h; rw [List.flatMap_cons, List.length_append, hsz] at this; simp at this; omega
  | cons x L ih =>
    intro M h
    cases M with
    | nil => have := congrArg List.length h; rw [List.flatMap_cons, List.length_append, hsz] at this; simp at this; omega
    | cons y M =>
      rw [List.flatMap_cons, List.flatMap_cons] at h
      obtain ⟨h1, h2⟩ := List.append_inj h (by rw [hsz, hsz])
      rw [hinj _ _ h1, ih M h2]

theorem arrK_inj (hsz : ∀ x, (enc x).length = sz) (hpos : 0 < sz) (hinj : ∀ x y, enc x = enc y → x = y) (L M : List α) (h : arrK enc L = arrK enc M) : L = M := by
  unfold arrK at h
  injection h with h
  exact flat_inj hsz hpos hinj L M (by simpa using h)

theorem keyArr {P : Program} {aT eT : TypeId} {okv : α → Prop} (hl : laidOutB P = true) (hsm : P.types.size + 2 ≤ 10000) (hrow : aT < P.types.size) (hk : P.keyType aT = true) (hu : P.underlying aT = some (.array 128 eT)) (hc : P.cellsOf eT = sz) (hca : P.cellsOf aT = 128 * sz)
    (hsz : ∀ x, (enc x).length = sz) (hpos : 0 < sz) (hinj : ∀ x y, enc x = enc y → x = y) (hel : ∀ x, okv x → IsKey P P.types.size eT (enc x)) : KeyE P aT (arrK enc) (okL okv) where
  K := Maps.Keyed.of_law (deep_law_gate hl hsm hrow hk (by rw [hu]))
  lit L hL := by
    have hlen : (L.flatMap enc).length = P.cellsOf aT := by rw [flat_len hsz, hL.1, hca]
    refine keyOf_agg (by rw [hu]) hk hlen (isKey_array hu hlen hc fun i hi => ?_)
    have hx : L[i]? = some (L[i]'(by rw [hL.1]; exact hi)) := List.getElem?_eq_getElem _
    rw [chunk_at hsz L i _ hx]
    exact hel _ (hL.2 _ (List.getElem_mem _))
  inj := arrK_inj hsz hpos hinj

theorem keyInt {P : Program} {t : TypeId} {q : IntKind} (ht : P.underlying t = some (.int q)) : KeyE P t (fun n : Int => .int q n) (fun n => (Lit.int q n).wf = true) where
  K := Maps.int_keyed ht
  lit n hn := ⟨.int q n, by rw [keyOf_int ht]; unfold mapKey; rw [ht]; simp [hn]⟩
  inj a b h := by injection h
end

/-- a map's state behind a store at a key that is new: still known, with the block to come -/
theorem Known.put {α : Type} {enc : α → List Value} {okv : α → Prop} {w' : World} {kb : Nat} {bl : List (List α)} {f : List α → Option Nat} [DecidableEq α] (hf : ∀ L k, f L = some k → bl[k]? = some L) (L : List α) (hm : MapFn (arrK enc) natV (okL okv) w' kb (fnPut f L bl.length)) : Known enc okv w' kb (bl ++ [L]) := by
  refine ⟨_, hm, fun M k hk => ?_⟩
  by_cases h : M = L
  · subst h
    rw [fnPut_same] at hk
    cases hk
    simp
  · rw [fnPut_other _ _ h] at hk
    have := hf M k hk
    rw [List.getElem?_append_left (List.getElem?_eq_some_iff.1 this).1]; exact this
theorem Even.put {α : Type} {tv : α → Value} {okv : α → Prop} {w' : World} {eb : Nat} {bl : List (List α)} {f : α → Option Nat} [DecidableEq α] (hf : ∀ x k, f x = some k → bl[k]? = some (List.replicate 128 x)) (x : α) (k : Nat) (hk : bl[k]? = some (List.replicate 128 x)) (hm : MapFn tv natV okv w' eb (fnPut f x k)) : Even tv okv w' eb bl := by
  refine ⟨_, hm, fun y j hj => ?_⟩
  by_cases h : y = x
  · subst h
    rw [fnPut_same] at hj
    cases hj
    exact hk
  · rw [fnPut_other _ _ h] at hj
    exact hf y j hj
end Go.Proofs.YtkeainhjghdfcaaGreat

/- Rows of values that are stored one by one. No program is named here. -/
namespace Go.Proofs.YtkeainhjghdfcaaGreat
open Go.RowKit

def setArr (cs : Array Value) : Nat → List Value → Array Value
  | _, [] => cs
  | o, v :: r => setArr (cs.setIfInBounds o v) (o + 1) r
theorem row_setCells (g : Nat) (t : TypeId) : ∀ (vs : List Value) (o : Nat) (w : World) (cs : Array Value), w.heap[g]? = some (.cells cs t (0, 0)) → (w.setCells g o vs).heap[g]? = some (.cells (setArr cs o vs) t (0, 0))
  | [], _, _, _, h => h
  | v :: r, o, w, cs, h => row_setCells g t r (o + 1) _ _ (heap_setCell_same w g o cs t v h)
theorem setArr_eq : ∀ (vs : List Value) (o : Nat) (l : List Value), o + vs.length ≤ l.length → setArr l.toArray o vs = (l.take o ++ vs ++ l.drop (o + vs.length)).toArray
  | [], o, l, _ => by simp [setArr]
  | v :: r, o, l, h => by
    rw [List.length_cons] at h
    unfold setArr
    rw [List.setIfInBounds_toArray, setArr_eq r (o + 1) (l.set o v) (by simp; omega)]
    congr 1
    rw [List.set_eq_take_append_cons_drop, if_pos (by omega)]
    have e1 : (l.take o).length = o := by simp; omega
    have e2 : (l.take o ++ v :: l.drop (o + 1)).take (o + 1) = l.take o ++ [v] := by
      rw [List.take_append, e1, Nat.add_sub_cancel_left, List.take_of_length_le (by omega)]
      simp
    have e3 : (l.take o ++ v :: l.drop (o + 1)).drop (o + 1 + r.length) = l.drop (o + (v :: r).length) := by
      rw [List.drop_append, e1, List.drop_of_length_le (by rw [e1]; omega), show o + 1 + r.length - o = r.length + 1 by omega, List.nil_append, List.drop_succ_cons, List.drop_drop, List.length_cons]
      congr 1; omega
    rw [e2, e3]
    simp
variable {α : Type} {enc : α → List Value} {sz : Nat}
theorem flat_take (hsz : ∀ x, (enc x).length = sz) : ∀ (L : List α) (i : Nat), (L.flatMap enc).take (i * sz) = (L.take i).flatMap enc
  | [], i => by simp
  | y :: L, 0 => by simp
  | y :: L, i + 1 => by
    rw [List.flatMap_cons, List.take_succ_cons, List.flatMap_cons, List.take_append, hsz, List.take_of_length_le (by rw [hsz, Nat.succ_mul]; omega), Nat.succ_mul, Nat.add_sub_cancel, flat_take hsz L i]
theorem flat_drop (hsz : ∀ x, (enc x).length = sz) : ∀ (L : List α) (i : Nat), (L.flatMap enc).drop (i * sz) = (L.drop i).flatMap enc
  | [], i => by simp
  | y :: L, 0 => by simp
  | y :: L, i + 1 => by
    rw [List.flatMap_cons, List.drop_succ_cons, List.drop_append, hsz, List.drop_of_length_le (by rw [hsz, Nat.succ_mul]; omega), Nat.succ_mul, Nat.add_sub_cancel, List.nil_append, flat_drop hsz L i]
theorem setArr_flat (hsz : ∀ x, (enc x).length = sz) (L : List α) (i : Nat) (x : α) (hi : i < L.length) : setArr (L.flatMap enc).toArray (i * sz) (enc x) = ((L.set i x).flatMap enc).toArray := by
  have hl := flat_len hsz L
  have hm : i * sz + sz ≤ L.length * sz := by rw [← Nat.succ_mul]; exact Nat.mul_le_mul_right _ hi
  rw [setArr_eq _ _ _ (by rw [hsz, hl]; exact hm), hsz, flat_take hsz, show i * sz + sz = (i + 1) * sz by rw [Nat.succ_mul], flat_drop hsz, List.set_eq_take_append_cons_drop, if_pos hi, List.flatMap_append, List.flatMap_cons]
  simp
/-- one value stored in a row of values -/
theorem row_put (hsz : ∀ x, (enc x).length = sz) {w : World} {g : Nat} {t : TypeId} {L : List α} (h : w.heap[g]? = some (.cells (L.flatMap enc).toArray t (0, 0))) (i : Nat) (x : α) (hi : i < L.length) :
    (w.setCells g (i * sz) (enc x)).heap[g]? = some (.cells ((L.set i x).flatMap enc).toArray t (0, 0)) := by
  rw [row_setCells g t _ _ _ _ h, setArr_flat hsz L i x hi]
theorem take_put {L : List α} {i : Nat} {x : α} (hi : i < L.length) : (L.set i x).take (i + 1) = L.take i ++ [x] := by
  rw [List.take_add_one, List.getElem?_set_self hi, List.take_set_of_le (Nat.le_refl i)]; rfl
theorem row_len {w : World} {g : Nat} {t : TypeId} {c : Array Value} {f : Nat × Nat} (h : w.heap[g]? = some (.cells c t f)) : g < w.heap.size := (Array.getElem?_eq_some_iff.1 h).1
theorem row_there (hsz : ∀ x, (enc x).length = sz) {w : World} {g : Nat} {t : TypeId} {L : List α} (h : w.heap[g]? = some (.cells (L.flatMap enc).toArray t (0, 0))) (i : Nat) (hi : i < L.length) : w.there g (i * sz) sz := fun j hj => by
  have hl := flat_len hsz L
  have hm : i * sz + sz ≤ L.length * sz := by rw [← Nat.succ_mul]; exact Nat.mul_le_mul_right _ hi
  refine ⟨?_, ?_⟩
  · rw [cell_of_row w g _ _ t (0, 0) h, List.getElem?_toArray, List.getElem?_eq_getElem (by omega)]
    rfl
  · unfold World.frozen?; rw [h]; simp
/-- the maker as it is made -/
theorem made_state (w : World) (sz' aT iT tT mT : Nat) (tv : α → Value) (okv : α → Prop) :
    MkAt enc sz' aT iT tv okv ((((w.alloc (.cells #[.int .i64 1114112, .slice none 0 0, .slice none 0 0] tT)).alloc (.map #[] 0)).alloc (.map #[] 0)).alloc (.cells #[.pointer (some ⟨w.heap.size, 0, none⟩), .map (some (w.heap.size + 1)), .map (some (w.heap.size + 2))] mT))
      w.heap.size (w.heap.size + 4) w.heap.size (w.heap.size + 3) (w.heap.size + 1) (w.heap.size + 2) (.slice none 0 0) (.slice none 0 0) [] [] := by
  have k1 := mapFn_made (arrK enc) natV (okL okv) (w.alloc (.cells #[.int .i64 1114112, .slice none 0 0, .slice none 0 0] tT))
  have k2 := mapFn_made tv natV okv ((w.alloc (.cells #[.int .i64 1114112, .slice none 0 0, .slice none 0 0] tT)).alloc (.map #[] 0))
  have e1 : (w.alloc (.cells #[.int .i64 1114112, .slice none 0 0, .slice none 0 0] tT)).heap.size = w.heap.size + 1 := by simp
  have e2 : ((w.alloc (.cells #[.int .i64 1114112, .slice none 0 0, .slice none 0 0] tT)).alloc (.map #[] 0)).heap.size = w.heap.size + 2 := by simp
  rw [e1] at k1
  rw [e2] at k2
  refine ⟨{ t0 := by go_simp, t1 := by go_simp, t2 := by go_simp, f1 := by go_simp, f2 := by go_simp, m0 := by go_simp, m1 := by go_simp, m2 := by go_simp, o1 := World.ownsRow_nil _ _ _ _, o2 := World.ownsRow_nil _ _ _ _, sep := .inl rfl, bt := by omega, bm := by omega, bk := by omega, be := by omega, nbt := by omega, len := fun L h => by cases h }, ⟨_, k1.below ?_, fun L k h => by cases h⟩, ⟨_, k2.below ?_, fun L k h => by cases h⟩⟩
  · rw [show w.heap.size + 1 = w.heap.size + 1 from rfl]
    exact (((Below.refl _ _).alloc (by simp) _).alloc (by simp) _)
  · exact (Below.refl _ _).alloc (by simp) _
variable {aT iT : TypeId} {tv : α → Value} {okv : α → Prop} {w : World} {B0 B tb mb kb eb : Nat} {v1 v2 : Value} {ks : List Nat} {bl : List (List α)}
theorem MkAt.push1 {w1 : World} {g cap : Nat} {k : Nat} (h : MkAt enc sz aT iT tv okv w B0 B tb mb kb eb v1 v2 ks bl) (hg : w.grownBy w1 v1.ownBlock) (ho : w1.ownsRow B iT 1 (.slice (some ⟨g, 0, none⟩) (ks.length + 1) cap) (ks.length + 1) (ks.map natV ++ [natV k]))
    (hf : v1.ownBlock = some g ∨ w.heap.size ≤ g) : MkAt enc sz aT iT tv okv (w1.setCell ⟨tb, 1, none⟩ (.slice (some ⟨g, 0, none⟩) (ks.length + 1) cap)) B0 B tb mb kb eb (.slice (some ⟨g, 0, none⟩) (ks.length + 1) cap) v2 (ks ++ [k]) bl :=
  ⟨h.b.push1 hg ho hf,
    (h.kn.grown hg (fun e => by have := (h.b.o1.lt _ e.symm).1; have := h.b.bk.2; omega)).grown (setCell_grown _ _ _) (fun e => h.b.nbt.2.1 (by injection e with e; exact e.symm)),
    (h.ev.grown hg (fun e => by have := (h.b.o1.lt _ e.symm).1; have := h.b.be.2; omega)).grown (setCell_grown _ _ _) (fun e => h.b.nbt.2.2.1 (by injection e with e; exact e.symm))⟩
theorem MkAt.push2 {w1 : World} {g cap : Nat} {L : List α} (h : MkB enc sz aT iT w B0 B tb mb kb eb v1 v2 ks bl) (hkn : Known enc okv w kb (bl ++ [L])) (hev : Even tv okv w eb (bl ++ [L])) (hg : w.grownBy w1 v2.ownBlock) (ho : w1.ownsRow B aT (128 * sz) (.slice (some ⟨g, 0, none⟩) (bl.length + 1) cap) (bl.length + 1) (bl.flatMap (arrE enc) ++ arrE enc L))
    (hf : v2.ownBlock = some g ∨ w.heap.size ≤ g) (hL : L.length = 128) : MkAt enc sz aT iT tv okv (w1.setCell ⟨tb, 2, none⟩ (.slice (some ⟨g, 0, none⟩) (bl.length + 1) cap)) B0 B tb mb kb eb v1 (.slice (some ⟨g, 0, none⟩) (bl.length + 1) cap) ks (bl ++ [L]) :=
  ⟨h.push2 hg ho hf hL,
    (hkn.grown hg (fun e => by have := (h.o2.lt _ e.symm).1; have := h.bk.2; omega)).grown (setCell_grown _ _ _) (fun e => h.nbt.2.1 (by injection e with e; exact e.symm)),
    (hev.grown hg (fun e => by have := (h.o2.lt _ e.symm).1; have := h.be.2; omega)).grown (setCell_grown _ _ _) (fun e => h.nbt.2.2.1 (by injection e with e; exact e.symm))⟩
end Go.Proofs.YtkeainhjghdfcaaGreat

/- Worlds that differ in few blocks. No program is named here. -/
namespace Go.Proofs.YtkeainhjghdfcaaGreat
open Go.RowKit

/-- Only the blocks of P may have changed. -/
structure Kept (P : Nat → Prop) (w w' : World) : Prop where
  os : w'.os = w.os
  tape : w'.tape = w.tape
  output : w'.output = w.output
  size : w.heap.size ≤ w'.heap.size
  block : ∀ j, j < w.heap.size → ¬ P j → w'.heap[j]? = w.heap[j]?

theorem Kept.of_grown {P : Nat → Prop} {w w' : World} {r : Option Nat} (h : w.grownBy w' r) (hb : ∀ b, r = some b → P b) : Kept P w w' :=
  ⟨h.os, h.tape, h.output, h.size, fun j hj hn => h.block j hj (by intro e; exact hn (hb j e.symm))⟩
theorem Kept.of_below {P : Nat → Prop} {w w' : World} (h : Below w.heap.size w w') : Kept P w w' := ⟨h.os, h.tape, h.output, h.size, fun j hj _ => h.block j hj⟩
theorem Kept.trans {P : Nat → Prop} {w w1 w2 : World} (h : Kept P w w1) (k : Kept P w1 w2) : Kept P w w2 :=
  ⟨k.os.trans h.os, k.tape.trans h.tape, k.output.trans h.output, Nat.le_trans h.size k.size, fun j hj hn => (k.block j (Nat.lt_of_lt_of_le hj h.size) hn).trans (h.block j hj hn)⟩
theorem Kept.mono {P Q : Nat → Prop} {w w' : World} (h : Kept P w w') (hq : ∀ j, P j → Q j) : Kept Q w w' := ⟨h.os, h.tape, h.output, h.size, fun j hj hn => h.block j hj fun hp => hn (hq j hp)⟩
theorem Kept.below {P : Nat → Prop} {B : Nat} {w w' : World} (h : Kept P w w') (hB : B ≤ w.heap.size) (hP : ∀ j, P j → B ≤ j) : Below B w w' :=
  ⟨h.os, h.tape, h.output, h.size, fun j hj => h.block j (by omega) fun hp => by have := hP j hp; omega⟩
theorem Kept.refl (P : Nat → Prop) (w : World) : Kept P w w := ⟨rfl, rfl, rfl, Nat.le_refl _, fun _ _ _ => rfl⟩
theorem Kept.cell {P : Nat → Prop} {w w' : World} {a : Addr} {v : Value} (h : Kept P w w') (hc : w.cell? a = some v) (hn : ¬ P a.block) : w'.cell? a = some v :=
  (World.cell?_of_block (h.block _ (World.block_lt_of_cell? w _ hc) hn)).trans hc
/-- a change of new blocks alone is none of the old ones -/
theorem Kept.new {P : Nat → Prop} {w w1 w2 : World} (h : Kept P w w1) (k : Kept (fun j => P j ∨ w.heap.size ≤ j) w1 w2) : Kept P w w2 :=
  ⟨k.os.trans h.os, k.tape.trans h.tape, k.output.trans h.output, Nat.le_trans h.size k.size, fun j hj hn => (k.block j (Nat.lt_of_lt_of_le hj h.size) (by rintro (h1 | h1); exact hn h1; omega)).trans (h.block j hj hn)⟩
theorem kept_setCell {P : Nat → Prop} (w : World) (a : Addr) (u : Value) (h : P a.block) : Kept P w (w.setCell a u) :=
  ⟨rfl, rfl, rfl, by simp, fun j _ hn => Below.heap_setCell _ _ _ _ (fun e => hn (e ▸ h))⟩
end Go.Proofs.YtkeainhjghdfcaaGreat

/- The plain law of building tries. No program here. -/
namespace Go.Proofs.YtkeainhjghdfcaaGreat

/-- the first j blocks of a trie hold what g says -/
structure TrieIs {α : Type} (g : Int → α) (j : Nat) (ks : List Nat) (bl : List (List α)) : Prop where
  len : ks.length = j
  tie : ∀ m, m < j → ∃ k L, ks[m]? = some k ∧ bl[k]? = some L ∧ ∀ i : Nat, i < 128 → L[i]? = some (g (128 * (m : Int) + i))
/-- v is what the numbers have from 'at' up to 'upto' -/
structure Val {α : Type} (g : Int → α) (okv : α → Prop) (v : α) (upto i : Int) : Prop where
  ok : okv v
  top : upto ≤ 1114111
  same : ∀ r, i ≤ r → r ≤ upto → g r = v

variable {α : Type} {g : Int → α} {okv : α → Prop} {j : Nat} {ks : List Nat} {bl bl' : List (List α)}
theorem trieIs_nil (bl : List (List α)) : TrieIs g 0 [] bl := ⟨rfl, fun m h => by omega⟩
theorem TrieIs.more (h : TrieIs g j ks bl) (hb : ∀ (k : Nat) (M : List α), bl[k]? = some M → bl'[k]? = some M) : TrieIs g j ks bl' :=
  ⟨h.len, fun m hm => let ⟨k, L, h1, h2, h3⟩ := h.tie m hm; ⟨k, L, h1, hb k L h2, h3⟩⟩
theorem TrieIs.push (h : TrieIs g j ks bl) {k : Nat} {L : List α} (hk : bl[k]? = some L) (hL : ∀ i : Nat, i < 128 → L[i]? = some (g (128 * (j : Int) + i))) : TrieIs g (j + 1) (ks ++ [k]) bl := by
  refine ⟨by rw [List.length_append, h.len]; rfl, fun m hm => ?_⟩
  by_cases hmj : m < j
  · obtain ⟨q, M, h1, h2, h3⟩ := h.tie m hmj
    exact ⟨q, M, by rw [List.getElem?_append_left (by rw [h.len]; exact hmj)]; exact h1, h2, h3⟩
  · have : m = j := by omega
    subst this
    exact ⟨k, L, by rw [List.getElem?_append_right (by rw [h.len]; exact Nat.le_refl _), h.len, Nat.sub_self]; rfl, hk, hL⟩
theorem Val.later {v : α} {upto i i' : Int} (h : Val g okv v upto i) (hi : i ≤ i') : Val g okv v upto i' := ⟨h.ok, h.top, fun r h1 h2 => h.same r (by omega) h2⟩
theorem val_find {z : α} {l : List (Pc α)} (hz : okv z) (hl : ∀ p ∈ l, okv p.v) {i : Int} (hi : i ≤ 1114111) : Val (pv z l) okv (fndP z i l 1114111).1 (fndP z i l 1114111).2 i ∧ i ≤ (fndP z i l 1114111).2 := by
  obtain ⟨h1, h2, h3, h4⟩ := fndP_spec z i l 1114111 hi
  refine ⟨⟨?_, h3, fun r hr1 hr2 => by rw [h1]; exact h4 r hr1 hr2⟩, h2⟩
  rw [h1]
  unfold pv
  cases hf : l.find? (hasP i) with
  | none => exact hz
  | some p => exact hl p (List.mem_of_find?_eq_some hf)
/-- a block of one value -/
theorem Val.block {v : α} {upto : Int} {m : Nat} (h : Val g okv v upto (128 * (m : Int))) (hu : 128 * (m : Int) + 127 ≤ upto) : ∀ i : Nat, i < 128 → (List.replicate 128 v)[i]? = some (g (128 * (m : Int) + i)) := by
  intro i hi
  rw [List.getElem?_replicate, if_pos hi, h.same (128 * m + i) (by omega) (by omega)]
end Go.Proofs.YtkeainhjghdfcaaGreat

/- What tables of rows say, out of spans: plain lemmas. -/
namespace Go.Proofs.YtkeainhjghdfcaaGreat
open Go.RowKit

theorem TrieIs.congr {α : Type} {g g' : Int → α} {ks : List Nat} {bl : List (List α)} (h : TrieIs g 8704 ks bl) (hg : ∀ r, 0 ≤ r → r ≤ 1114111 → g r = g' r) : TrieIs g' 8704 ks bl :=
  ⟨h.len, fun m hm => let ⟨k, L, h1, h2, h3⟩ := h.tie m hm; ⟨k, L, h1, h2, fun i hi => by rw [← hg _ (by omega) (by omega)]; exact h3 i hi⟩⟩
/-- all values of rows can be held -/
def RowsOk (R : List Rw) : Prop := ∀ x ∈ R, (Lit.int .i64 x.a).wf = true ∧ (Lit.int .i64 x.b).wf = true

/-- pieces out of spans -/
def pcOf {α : Type} (val : Span → α) (S : List Span) : List (Pc α) := S.map fun s => ⟨s.f, s.t, val s⟩
theorem pcOf_snoc {α : Type} (val : Span → α) (S : List Span) (s : Span) : pcOf val (S ++ [s]) = pcOf val S ++ [⟨s.f, s.t, val s⟩] := by simp [pcOf]
theorem pv_pcOf {α : Type} (z : α) (val : Span → α) : ∀ (S : List Span) (r : Int), pv z (pcOf val S) r = match S.find? (hasS r) with
    | some s => val s
    | none => z
  | [], _ => rfl
  | s :: S, r => by
    have ih := pv_pcOf z val S r
    unfold pcOf pv at ih ⊢
    rw [List.map_cons, List.find?_cons, List.find?_cons]
    have e : hasP r (⟨s.f, s.t, val s⟩ : Pc α) = hasS r s := rfl
    rw [e]
    cases hasS r s with
    | true => rfl
    | false => exact ih
theorem span_of_row {S : List Span} {R : List Rw} {kind : Int} (hG : Good S) (hS : Says S R kind) {s : Span} (hs : s ∈ S) : ∃ x ∈ R, x.k = kind ∧ x.a = s.a ∧ x.b = s.b := by
  have hok := hG.ok s hs
  have h1 : ansS S s.f = some (s.a, s.b) := (ansS_some hG.ris.dis).2 ⟨s, hs, hasS_iff.2 ⟨by omega, hok.2.1⟩, rfl⟩
  rw [hS s.f] at h1
  unfold ansR fnd at h1
  rw [if_pos ⟨hok.1, by have := hok.2.1; have := hok.2.2; omega⟩] at h1
  cases hf : R.find? (hasR kind s.f) with
  | none => rw [hf] at h1; cases h1
  | some x =>
    rw [hf] at h1
    have e : (x.a, x.b) = (s.a, s.b) := by simpa using h1
    exact ⟨x, List.mem_of_find?_eq_some hf, (hasR_iff.1 (List.find?_some hf)).1, congrArg Prod.fst e, congrArg Prod.snd e⟩
theorem Says.ok {S : List Span} {R : List Rw} {kind : Int} (hG : Good S) (hS : Says S R kind) (hR : RowsOk R) : ∀ s ∈ S, (Lit.int .i64 s.a).wf = true ∧ (Lit.int .i64 s.b).wf = true := by
  intro s hs
  obtain ⟨x, hx, _, h1, h2⟩ := span_of_row hG hS hs
  rw [← h1, ← h2]
  exact hR x hx
/-- what a number has -/
theorem pv_says {α : Type} {S : List Span} {R : List Rw} {kind : Int} (hS : Says S R kind) (z : α) (val : Int → Int → α) (r : Int) : pv z (pcOf (fun s => val s.a s.b) S) r = match fnd R kind r with
    | some x => val x.a x.b
    | none => z := by
  rw [pv_pcOf]
  have h := hS r
  unfold ansS ansR at h
  cases h1 : S.find? (hasS r) with
  | none => cases h2 : fnd R kind r with
    | none => rfl
    | some x => rw [h1, h2] at h; cases h
  | some s => cases h2 : fnd R kind r with
    | none => rw [h1, h2] at h; cases h
    | some x =>
      rw [h1, h2] at h
      have e : (s.a, s.b) = (x.a, x.b) := by simpa using h
      show val s.a s.b = val x.a x.b
      have e1 : s.a = x.a := congrArg Prod.fst e
      have e2 : s.b = x.b := congrArg Prod.snd e
      rw [e1, e2]
theorem pv_ofA {S : List Span} {R : List Rw} {kind : Int} (hS : Says S R kind) (r : Int) : pv 0 (pcOf (fun s => s.a) S) r = ofA R kind r := pv_says hS 0 (fun a _ => a) r
theorem good_few_f {S : List Span} (hG : Good S) {α : Type} (val : Span → α) : ∀ p ∈ pcOf val S, p.f ≤ 4611686018427387904 := by
  intro p hp
  obtain ⟨s, hs, rfl⟩ := List.mem_map.1 hp
  have := hG.ok s hs
  unfold okS at this
  show s.f ≤ _
  omega
end Go.Proofs.YtkeainhjghdfcaaGreat

/- A trie as it is read. No program is named here. -/
namespace Go.Proofs.YtkeainhjghdfcaaGreat
open Go.RowKit

section
variable {α : Type} {enc : α → List Value} {sz : Nat}
/-- the trie at block tb holds g -/
def TrieAt (enc : α → List Value) (sz : Nat) (g : Int → α) (B : Nat) (w : World) (tb : Nat) : Prop :=
  ∃ v1 v2 ks bl, tb < B ∧ w.cell? ⟨tb, 0, none⟩ = some (.int .i64 1114112) ∧ w.cell? ⟨tb, 1, none⟩ = some v1 ∧ w.cell? ⟨tb, 2, none⟩ = some v2 ∧ Rd B w 1 v1 ks.length (ks.map natV) ∧ Rd B w (128 * sz) v2 bl.length (bl.flatMap (arrE enc)) ∧ (∀ L ∈ bl, L.length = 128) ∧ TrieIs g 8704 ks bl
theorem TrieAt.below {g : Int → α} {B B' : Nat} {w w' : World} {tb : Nat} (h : TrieAt enc sz g B w tb) (hb : Below B' w w') (hB : B ≤ B') : TrieAt enc sz g B w' tb := by
  obtain ⟨v1, v2, ks, bl, h0, h1, h2, h3, h4, h5, h6, h7⟩ := h
  have hl : tb < B' := Nat.lt_of_lt_of_le h0 hB
  exact ⟨v1, v2, ks, bl, h0, (World.cell?_of_block (hb.block tb hl)).trans h1, (World.cell?_of_block (hb.block tb hl)).trans h2, (World.cell?_of_block (hb.block tb hl)).trans h3, h4.below hb hB, h5.below hb hB, h6, h7⟩
theorem trieAt_of_build {aT iT : TypeId} {g : Int → α} {w : World} {B0 B tb mb kb eb : Nat} {v1 v2 : Value} {ks : List Nat} {bl : List (List α)} (h : MkB enc sz aT iT w B0 B tb mb kb eb v1 v2 ks bl) (ht : TrieIs g 8704 ks bl) : TrieAt enc sz g w.heap.size w tb :=
  ⟨v1, v2, ks, bl, World.block_lt_of_cell? w _ h.t0, h.t0, h.t1, h.t2, rd_of_owns h.o1, rd_of_owns h.o2, h.len, ht⟩
theorem trieAt_cells (hsz : ∀ x, (enc x).length = sz) {g : Int → α} {B : Nat} {w : World} {tb : Nat} (h : TrieAt enc sz g B w tb) {m r : Nat} (hm : m < 8704) (hr : r < 128) :
    ∃ b1 o1 n1 c1 b2 o2 n2 c2 k, w.cell? ⟨tb, 0, none⟩ = some (.int .i64 1114112) ∧ w.cell? ⟨tb, 1, none⟩ = some (.slice (some ⟨b1, o1, none⟩) n1 c1) ∧ w.cell? ⟨tb, 2, none⟩ = some (.slice (some ⟨b2, o2, none⟩) n2 c2) ∧ m < n1 ∧ w.cell? ⟨b1, o1 + m, none⟩ = some (.int .i64 ((k : Nat) : Int)) ∧ k < n2 ∧
      ∀ j u, (enc (g (128 * (m : Int) + r)))[j]? = some u → w.cell? ⟨b2, o2 + k * (128 * sz) + r * sz + j, none⟩ = some u := by
  obtain ⟨v1, v2, ks, bl, _, h1, h2, h3, ⟨a1, c1, rfl, _, _, _, h4⟩, ⟨a2, c2, rfl, _, _, _, h5⟩, h6, h7⟩ := h
  obtain ⟨k, L, hk, hL, hx⟩ := h7.tie m hm
  have hx := hx r hr
  have hm' := (List.getElem?_eq_some_iff.1 hk).1
  have hk' := (List.getElem?_eq_some_iff.1 hL).1
  obtain ⟨b1, o1, rfl, _, hc1⟩ := h4 (by omega)
  obtain ⟨b2, o2, rfl, _, hc2⟩ := h5 (by omega)
  refine ⟨b1, o1, _, c1, b2, o2, _, c2, k, h1, h2, h3, hm', hc1 m (natV k) (by rw [List.getElem?_map, hk]; rfl), hk', fun j u hu => ?_⟩
  have hlen : ∀ M ∈ bl, (arrE enc M).length = 128 * sz := fun M hM => by unfold arrE; rw [flat_len hsz, h6 M hM]
  have e1 := flat_get hsz L r _ j u hx hu
  have e2 : ∀ (S : Nat) (bl : List (List α)) (k : Nat), (∀ M ∈ bl, (arrE enc M).length = S) → bl[k]? = some L → ∀ q u, (arrE enc L)[q]? = some u → (bl.flatMap (arrE enc))[k * S + q]? = some u := by
    intro S bl
    induction bl with
    | nil => intro k _ h; simp at h
    | cons M bl ih =>
      intro k hl hk q u hq
      rw [List.flatMap_cons]
      cases k with
      | zero =>
        simp at hk; subst hk
        rw [Nat.zero_mul, Nat.zero_add, List.getElem?_append_left (List.getElem?_eq_some_iff.1 hq).1]; exact hq
      | succ k =>
        have e : (k + 1) * S + q = S + (k * S + q) := by rw [Nat.succ_mul]; omega
        rw [e, List.getElem?_append_right (by rw [hl M List.mem_cons_self]; omega), hl M List.mem_cons_self, Nat.add_sub_cancel_left]
        exact ih k (fun N hN => hl N (List.mem_cons_of_mem _ hN)) (by simpa using hk) q u hq
  have e3 := hc2 _ u (e2 _ bl k hlen hL _ u e1)
  rw [show o2 + k * (128 * sz) + r * sz + j = o2 + (k * (128 * sz) + (r * sz + j)) by omega]
  exact e3
end
end Go.Proofs.YtkeainhjghdfcaaGreat

/- Rows of values of several cells. No program is named here. -/
namespace Go.Proofs.YtkeainhjghdfcaaGreat
open Go.RowKit

section
variable {α : Type} {enc : α → List Value} {sz : Nat} {w : World} {g t : Nat} {okv : α → Prop} {L : List α}
/-- a row of values being filled -/
def RowG (enc : α → List Value) (w : World) (g t : Nat) (okv : α → Prop) (L : List α) : Prop := w.heap[g]? = some (.cells (L.flatMap enc).toArray t (0, 0)) ∧ okL okv L
theorem RowG.put (hsz : ∀ x, (enc x).length = sz) (h : RowG enc w g t okv L) {i : Nat} (x : α) (hi : i < 128) (hx : okv x) : RowG enc (w.setCells g (i * sz) (enc x)) g t okv (L.set i x) := by
  refine ⟨row_put hsz h.1 i x (by rw [h.2.1]; exact hi), by rw [List.length_set]; exact h.2.1, fun y hy => ?_⟩
  rcases List.mem_or_eq_of_mem_set hy with hy | hy
  · exact h.2.2 y hy
  · rw [hy]; exact hx
theorem RowG.there (hsz : ∀ x, (enc x).length = sz) (h : RowG enc w g t okv L) {i : Nat} (hi : i < 128) : w.there g (i * sz) sz := row_there hsz h.1 i (by rw [h.2.1]; exact hi)
theorem RowG.free (h : RowG enc w g t okv L) (i : Nat) : w.frozen? ⟨g, i, none⟩ = false := by
  unfold World.frozen?; rw [h.1]; simp
theorem RowG.cell (hsz : ∀ x, (enc x).length = sz) (h : RowG enc w g t okv L) {i : Nat} (hi : i < 128) (j : Nat) (hj : j < sz) : ∃ u, w.cell? ⟨g, i * sz + j, none⟩ = some u := by
  have hx : L[i]? = some (L[i]'(by rw [h.2.1]; exact hi)) := List.getElem?_eq_getElem _
  generalize L[i]'(by rw [h.2.1]; exact hi) = x at hx
  refine ⟨(enc x)[j]'(by rw [hsz]; exact hj), ?_⟩
  rw [cell_of_row w g (i * sz + j) _ t (0, 0) h.1]
  have := flat_get hsz L i x j _ hx (List.getElem?_eq_getElem (by rw [hsz]; exact hj))
  rw [List.getElem?_toArray]
  exact this
theorem setCells_below {B : Nat} {a : World} : ∀ (vs : List Value) (o : Nat) (w : World), Below B a w → B ≤ g → Below B a (w.setCells g o vs)
  | [], _, _, h, _ => h
  | v :: r, o, _, h, hg => setCells_below r (o + 1) _ (h.setCell hg v) hg
theorem RowG.later {w' : World} (h : RowG enc w g t okv L) (hb : w'.heap[g]? = w.heap[g]?) : RowG enc w' g t okv L := ⟨hb.trans h.1, h.2⟩
end
end Go.Proofs.YtkeainhjghdfcaaGreat

/- Maps whose entries bear stamps: an entry made first and stored later. No program is named here. -/
namespace Go.Proofs.YtkeainhjghdfcaaGreat
open Go.RowKit Go.Maps Go.WideShapes Go.ChangeMaps

section
variable {α β : Type} {ek : α → Value} {ev : β → Value} {ok : α → Prop} {P : Program} {k : TypeId}
def StampedAt (w : World) (b : Nat) : Prop := ∃ es clock, w.heap[b]? = some (.map es clock) ∧ MapKept.Stamped es clock
structure MapS (ek : α → Value) (ev : β → Value) (ok : α → Prop) (w : World) (b : Nat) (f : α → Option β) : Prop where
  fn : MapFn ek ev ok w b f
  st : StampedAt w b
theorem mapS_made (ek : α → Value) (ev : β → Value) (ok : α → Prop) (w : World) : MapS ek ev ok (w.alloc (.map #[] 0)) w.heap.size (fun _ => none) :=
  ⟨mapFn_made ek ev ok w, #[], 0, heap_alloc_new w _, by simp [MapKept.Stamped]⟩
theorem MapS.same {w w' : World} {b : Nat} {f : α → Option β} (h : MapS ek ev ok w b f) (hb : w'.heap[b]? = w.heap[b]?) : MapS ek ev ok w' b f :=
  ⟨h.fn.same hb, let ⟨es, c, h1, h2⟩ := h.st; ⟨es, c, hb.trans h1, h2⟩⟩
theorem MapS.below {w w' : World} {b : Nat} {f : α → Option β} (h : MapS ek ev ok w b f) (hb : Below w.heap.size w w') : MapS ek ev ok w' b f := h.same (hb.block b h.fn.lt)
theorem MapS.isMap {w : World} {b : Nat} {f : α → Option β} (h : MapS ek ev ok w b f) : ∃ es c, w.heap[b]? = some (.map es c) := let ⟨es, c, h1, _⟩ := h.st; ⟨es, c, h1⟩

variable [DecidableEq α]
theorem findIdx_push {es : Array MapEntry} {clock : Nat} (hs : ∀ x ∈ es.toList, x.born < clock) (key val : Value) : (es.push ⟨key, val, clock⟩).findIdx? (fun e => (e.born : Int) == (clock : Int)) = some es.size := by
  rw [Array.findIdx?_eq_some_iff_getElem]
  refine ⟨by simp, by simp, fun j hj => ?_⟩
  have h1 : (es.push ⟨key, val, clock⟩)[j]'(by simp; omega) = es[j] := Array.getElem_push_lt (by omega)
  rw [h1]
  have := hs es[j] (by simp)
  simp
  omega
theorem findIdx_born {es : Array MapEntry} {clock : Nat} (hs : MapKept.Stamped es clock) {j : Nat} {e0 : MapEntry} (hj : es[j]? = some e0) : es.findIdx? (fun e => (e.born : Int) == (e0.born : Int)) = some j := by
  obtain ⟨h1, h2⟩ := Array.getElem?_eq_some_iff.1 hj
  rw [Array.findIdx?_eq_some_iff_getElem]
  refine ⟨h1, by simp [h2], fun i hi => ?_⟩
  have hnd := hs.2.1
  rw [List.nodup_iff_pairwise_ne, List.pairwise_iff_getElem] at hnd
  have := hnd i j (by simp; omega) (by simp; omega) hi
  simp at this
  rw [h2] at this
  simp
  omega

theorem MapS.entry (E : KeyE P k ek ok) {w : World} {b : Nat} {f : α → Option β} (h : MapS ek ev ok w b f) {t e : TypeId} (ht : P.underlying t = some (.map k e)) {z : Value} (hz : (zeroValue e).run P w = .ok z w) (x : α) (hx : ok x) :
    ∃ v0 st w1, (Instr.mapEntry t (.map (some b)) (ek x)).run P w = .ok (.tuple #[v0, .int .i64 st]) w1 ∧ w.grownBy w1 (some b) ∧ w1.heap.size = w.heap.size ∧ (∃ es c, w1.heap[b]? = some (.map es c)) ∧
      ∀ (v : β) (w' : World), w'.heap[b]? = w1.heap[b]? → ∃ w2, (Instr.entryStore t (.map (some b)) (.int .i64 st) (ev v)).run P w' = .ok () w2 ∧ w'.grownBy w2 (some b) ∧ w2.heap.size = w'.heap.size ∧ MapS ek ev ok w2 b (fnPut f x v) := by
  obtain ⟨hfn, es, clock, hb, hs⟩ := h
  have hput := fun v => run_put E hfn ht x v hx
  obtain ⟨es', clock', hb', h1, h2, h3⟩ := hfn
  rw [hb] at hb'
  cases hb'
  obtain ⟨l, hl⟩ := E.lit x hx
  rcases E.K.find w hl es.toList (fun e he => by obtain ⟨a, c, ha, hk, _⟩ := h1 e he; rw [hk]; exact E.lit a ha) with ⟨g1, g2⟩ | ⟨j, e0, g1, g2, g3⟩
  · refine ⟨z, clock, setBlock w b (.map (es.push ⟨ek x, z, clock⟩) (clock + 1)), ?_, ⟨rfl, rfl, rfl, by simp [setBlock], fun i _ hi => heap_setBlock_other hb _ (fun e => hi (by rw [e]))⟩, by simp [setBlock], ⟨_, _, heap_setBlock_same hb _⟩, ?_⟩
    · simp [Instr.mapEntry, run_underlying ht, MapKept.run_getObj_map hb, E.K.check w false hl, g1, hz, MapKept.run_setObj_map _ hb, Result.andThen, setBlock, goInt]
    · intro v w' hw'
      rw [heap_setBlock_same hb _] at hw'
      refine ⟨setBlock w' b (.map (es.push ⟨ek x, ev v, clock⟩) (clock + 1)), ?_, ⟨rfl, rfl, rfl, by simp [setBlock], fun i _ hi => heap_setBlock_other hw' _ (fun e => hi (by rw [e]))⟩, by simp [setBlock], ?_, ?_⟩
      · have hm : (es.push ⟨ek x, z, clock⟩).modify es.size (fun e => { e with val := ev v }) = es.push ⟨ek x, ev v, clock⟩ := by
          refine (Array.toList_inj.1 ?_)
          rw [Array.toList_modify, Array.toList_push, Array.toList_push, modify_eq_set _ _ _ ⟨ek x, z, clock⟩ (by simp)]
          rw [List.set_append_right (h := by simp)]
          simp
        simp [Instr.entryStore, MapKept.run_getObj_map hw', asInt, asIntOf, findIdx_push hs.1, hm, MapKept.run_setObj_map _ hw', Result.andThen, setBlock]
      · obtain ⟨w3, hr3, hf3, _⟩ := hput v
        have e3 : w3 = setBlock w b (.map (es.push ⟨ek x, ev v, clock⟩) (clock + 1)) := by
          have : (Instr.mapUpdate t (.map (some b)) (ek x) (ev v)).run P w = .ok () (setBlock w b (.map (es.push ⟨ek x, ev v, clock⟩) (clock + 1))) := by
            simp [Instr.mapUpdate, run_underlying ht, MapKept.run_getObj_map hb, E.K.check w false hl, g1, MapKept.run_setObj_map _ hb, Result.andThen, setBlock]
          rw [this] at hr3
          injection hr3 with _ h4
          exact h4.symm
        subst e3
        exact hf3.same (by rw [heap_setBlock_same hw' _, heap_setBlock_same hb _])
      · exact ⟨_, _, heap_setBlock_same hw' _, MapKept.stamped_push hs g2⟩
  · have hj : es[j]? = some e0 := by simpa using g2
    have hst := E.K.stays w hl
    have hmod : es.modify j (fun e' => { e' with key := ek x }) = es := by
      refine (Array.toList_inj.1 ?_)
      rw [Array.toList_modify, modify_eq_set _ _ _ _ g2]
      have e1 : ({ e0 with key := ek x } : MapEntry) = e0 := by rw [← g3]
      rw [e1]
      obtain ⟨q1, q2⟩ := List.getElem?_eq_some_iff.1 g2
      rw [← q2, List.set_getElem_self]
    refine ⟨e0.val, e0.born, setBlock w b (.map es clock), ?_, ⟨rfl, rfl, rfl, by simp [setBlock], fun i _ hi => heap_setBlock_other hb _ (fun e => hi (by rw [e]))⟩, by simp [setBlock], ⟨_, _, heap_setBlock_same hb _⟩, ?_⟩
    · simp [Instr.mapEntry, run_underlying ht, MapKept.run_getObj_map hb, E.K.check w false hl, g1, hj, g3, hst, MapKept.run_setObj_map _ hb, Result.andThen, setBlock, goInt, hmod]
    · intro v w' hw'
      rw [heap_setBlock_same hb _] at hw'
      refine ⟨setBlock w' b (.map (es.modify j (fun e' => { e' with val := ev v })) clock), ?_, ⟨rfl, rfl, rfl, by simp [setBlock], fun i _ hi => heap_setBlock_other hw' _ (fun e => hi (by rw [e]))⟩, by simp [setBlock], ?_, ?_⟩
      · simp [Instr.entryStore, MapKept.run_getObj_map hw', asInt, asIntOf, findIdx_born hs hj, MapKept.run_setObj_map _ hw', Result.andThen, setBlock]
      · obtain ⟨w3, hr3, hf3, _⟩ := hput v
        have hm2 : es.modify j (fun e' => { e' with key := ek x, val := ev v }) = es.modify j (fun e' => { e' with val := ev v }) := by
          refine (Array.toList_inj.1 ?_)
          rw [Array.toList_modify, Array.toList_modify, modify_eq_set _ _ _ _ g2, modify_eq_set _ _ _ _ g2, ← g3]
        have e3 : w3 = setBlock w b (.map (es.modify j (fun e' => { e' with val := ev v })) clock) := by
          have : (Instr.mapUpdate t (.map (some b)) (ek x) (ev v)).run P w = .ok () (setBlock w b (.map (es.modify j (fun e' => { e' with key := ek x, val := ev v })) clock)) := by
            simp [Instr.mapUpdate, run_underlying ht, MapKept.run_getObj_map hb, E.K.check w false hl, g1, hj, g3, hst, MapKept.run_setObj_map _ hb, Result.andThen, setBlock]
          rw [this, hm2] at hr3
          injection hr3 with _ h4
          exact h4.symm
        subst e3
        exact hf3.same (by rw [heap_setBlock_same hw' _, heap_setBlock_same hb _])
      · exact ⟨_, _, heap_setBlock_same hw' _, MapKept.stamped_modify hs _ _ (fun _ _ => rfl) (fun _ _ _ => rfl)⟩
end
end Go.Proofs.YtkeainhjghdfcaaGreat

/- From a walk to a law's statement: the frame that all laws share; how arguments are opened. No program is named here. -/
namespace Go.Proofs.YtkeainhjghdfcaaGreat
open Go.ChangeShapes Go.WideShapes Go.ChangeAt Go.RowKit Go.Deep

theorem trodAll_len {H : Type} {enc : TypeId × Value → H} {P : Program} {w : World} {base : Nat} {spare : Nat → Bool} {held : Bool} : ∀ (ts : List TypeId) (vs : List Value) (ds : List (DataW H)) (ps : List MemPlace),
    DataW.TrodAll enc P w base spare held ts vs ds ps → ds.length = ts.length ∧ vs.length = ts.length := by
  intro ts
  induction ts with
  | nil => intro vs ds ps h; obtain ⟨rfl, rfl, rfl⟩ := trodAll_nil h; exact ⟨rfl, rfl⟩
  | cons t ts ih =>
    intro vs ds ps h
    obtain ⟨v, vs', d, ds', p, q, rfl, rfl, rfl, _, h2⟩ := trodAll_cons h
    obtain ⟨h3, h4⟩ := ih _ _ _ h2
    exact ⟨by simp [h3], by simp [h4]⟩

theorem trodAll_stays {H : Type} {enc : TypeId × Value → H} {P : Program} (hl : laidOutB P = true) {W W' : World} (hb : Below W.heap.size W W') : ∀ (ts : List TypeId) (vs : List Value) (ds : List (DataW H)) (ps : List MemPlace),
    (∀ t ∈ ts, P.readableRec t = true ∧ t < P.types.size) → DataW.TrodAll enc P W 0 (fun _ => true) true ts vs ds ps → (∀ x ∈ ps, x.block < W.heap.size) →
    DataW.TrodAll enc P W' 0 (fun b => decide (b < W.heap.size)) true ts vs ds ps := by
  intro ts
  induction ts with
  | nil => intro vs ds ps _ h _; obtain ⟨rfl, rfl, rfl⟩ := trodAll_nil h; exact trodAll_mk0
  | cons t ts ih =>
    intro vs ds ps ht h hlt
    obtain ⟨v, vs', d, ds', p, q, rfl, rfl, rfl, h1, h2⟩ := trodAll_cons h
    have ht0 := ht t List.mem_cons_self
    exact trodAll_cons_mk (Below.trod hl ht0.1 ht0.2 h1 hb (fun x hx => hlt x (List.mem_append_left _ hx)))
      (ih _ _ _ (fun t' h' => ht t' (List.mem_cons_of_mem _ h')) h2 (fun x hx => hlt x (List.mem_append_right _ hx)))

/-- What a law's walk has to show: whatever the arguments read as, the call returns true, and nothing that was there has turned. -/
def LawWalk (P : Program) (f : FuncId) (fn : Func) : Prop :=
  ∀ (H : Type) (enc : TypeId × Value → H) (W : World) (base : Nat) (args : Array Value) (ds : List (DataW H)) (ps : List MemPlace),
    (∀ (j : Nat) t v, fn.params[j]? = some t → args[j]? = some v → Value.okWide P W .any base t v) →
    DataW.TrodAll enc P W 0 (fun _ => true) true fn.params.toList args.toList ds ps → (∀ x ∈ ps, x.block < W.heap.size) →
    Calls P f args W fun e W' => e = .returned (.bool true) ∧ Below W.heap.size W W'

theorem lifted_of_walk {C : Checked} {os : Os} {f : FuncId} {fn : Func} {s : ChangeSpec} {H : Type} {enc : TypeId × Value → H} {tb : TypeId}
    (own : ownKnob C.prog.godebug = none) (started : os.Started) (noInit : C.prog.inits.idxOf? f = none) (hfn : C.prog.funcs[f]? = some fn)
    (witness : ∃ (w : World) (tape : Tape) (i : Input), w.os = os ∧ (w.forCall tape i).Shaped C.prog ∧ i.vars = [] ∧ Input.okWide C.prog (w.forCall tape i) .any w.heap.size f i ∧
      s.pre6 enc C.prog fn [] false (w.forCall tape i).memory i.args ∧ ({} : Assume).holds C.prog (lone (Frame.enter C.prog f i.args .normal) [] (w.forCall tape i)))
    (hl : laidOutB C.prog = true) (hts : ∀ t ∈ fn.params.toList, C.prog.readableRec t = true ∧ t < C.prog.types.size) (hres : fn.resultTypes = #[tb]) (hbool : C.prog.underlying tb = some .bool)
    (hvars : s.vars = []) (hspec : ∀ ds : List (DataW H), ds.length = fn.params.toList.length → s.fn H (ds ++ []) = { results := [.lit (.bool true)], args := ds, vars := [] })
    (walk : LawWalk C.prog f fn) :
    ReturnsInHanded {} C os f .any (s.pre6 enc C.prog fn [] false) (s.post enc C.prog fn false true false false) := by
  refine returnsInHanded_of_change own started noInit hfn witness ?_
  intro W base args ds gs before hval hW _ _
  have hW' := hW
  obtain ⟨p, q, hA, hV, hp, _, _⟩ := hW
  rw [hvars] at hV
  obtain ⟨rfl, rfl⟩ := trodVars_none hV
  have hp' : before = p := by simpa using hp
  subst hp'
  have hlen := (trodAll_len _ _ _ _ hA).1
  have hlt : ∀ x ∈ before, x.block < W.heap.size := fun x hx => by simpa using hW'.lt x hx
  refine (walk H enc W base args ds before hval hA hlt).mono ?_
  rintro e W' ⟨rfl, hB⟩
  refine ⟨_, rfl, ds, [], before, [], before, [], hW', ?_, ?_, ?_, hB.frame _, fun h => by cases h⟩
  · rw [hspec ds hlen, hres]
    exact trodAll_mk1 (shut_bool hbool true)
  · rw [hspec ds hlen]
    exact trodAll_stays hl hB _ _ _ _ hts hA hlt
  · rw [hspec ds hlen, hvars]
    exact rfl

/-! ### Opening arguments -/
/-- Whatever reads as type t has the cells of some y. -/
def Reads {α : Type} (P : Program) (t : TypeId) (enc : α → List Value) (ok : α → Prop) : Prop :=
  ∀ (H : Type) (enc0 : TypeId × Value → H) (w : World) (base : Nat) (spare : Nat → Bool) (held : Bool) (fuel : Nat) (cs : List Value) (x : DataW H × List MemPlace),
    DataW.trod enc0 P w base spare held fuel t cs = some x → ∃ y, cs = enc y ∧ ok y

theorem reads_int {P : Program} {t : TypeId} {k : IntKind} (ht : P.underlying t = some (.int k)) : Reads P t (fun n : Int => [.int k n]) (fun n => (Lit.int k n).wf = true) := by
  intro H enc0 w base spare held fuel cs x h
  obtain ⟨n, hn, _, hw⟩ := DataW.trod_int ht h
  exact ⟨n, hn, hw⟩
theorem list_of_all {α : Type} (Q : Nat → α → Prop) : ∀ n, (∀ i, i < n → ∃ x, Q i x) → ∃ l : List α, l.length = n ∧ ∀ i x, l[i]? = some x → Q i x := by
  intro n
  induction n with
  | zero => intro _; exact ⟨[], rfl, fun i x h => by simp at h⟩
  | succ n ih =>
    intro h
    obtain ⟨l, hl, hq⟩ := ih (fun i hi => h i (by omega))
    obtain ⟨x, hx⟩ := h n (by omega)
    refine ⟨l ++ [x], by simp [hl], fun i y hy => ?_⟩
    rcases Nat.lt_or_ge i n with hlt | hge
    · rw [List.getElem?_append_left (by omega)] at hy
      exact hq i y hy
    · have hi : i = n := by
        have := (List.getElem?_eq_some_iff.1 hy).1
        simp at this
        omega
      subst hi
      rw [List.getElem?_append_right (by omega)] at hy
      simp [hl] at hy
      rw [← hy]
      exact hx

theorem flat_index {α : Type} {enc : α → List Value} {sz : Nat} (hsz : ∀ x, (enc x).length = sz) : ∀ (l : List α) (j : Nat) (u : Value), (l.flatMap enc)[j]? = some u → ∃ i x, l[i]? = some x ∧ ∃ k, k < sz ∧ j = i * sz + k ∧ (enc x)[k]? = some u := by
  intro l
  induction l with
  | nil => intro j u h; simp at h
  | cons y l ih =>
    intro j u h
    rw [List.flatMap_cons] at h
    rcases Nat.lt_or_ge j sz with hlt | hge
    · rw [List.getElem?_append_left (by rw [hsz]; exact hlt)] at h
      exact ⟨0, y, rfl, j, hlt, by omega, h⟩
    · rw [List.getElem?_append_right (by rw [hsz]; exact hge), hsz] at h
      obtain ⟨i, x, hx, k, hk, he, hu⟩ := ih _ _ h
      exact ⟨i + 1, x, by simpa using hx, k, hk, by rw [Nat.succ_mul]; omega, hu⟩

end Go.Proofs.YtkeainhjghdfcaaGreat

/- Boundaries around a place, plainly. -/
namespace Go.Proofs.YtkeainhjghdfcaaGreat

def isB (T : Tab) (s : List Int) (i : Nat) : Bool := decide (i = s.length) || begAt T s i
theorem isB_len (T : Tab) (s : List Int) : isB T s s.length = true := by simp [isB]
theorem isB_lt {T : Tab} {s : List Int} {i : Nat} (h : i < s.length) : isB T s i = begAt T s i := by
  unfold isB
  rw [decide_eq_false (by omega), Bool.false_or]
end Go.Proofs.YtkeainhjghdfcaaGreat

/- A range over a function whose rounds never leave: the caller's memory below the loop's first block is what the rounds speak of; the iterator may keep variables of its own in cells. No program is named here. -/
namespace Go.Proofs.YtkeainhjghdfcaaGreat
open Go.RowKit

def DepBelow (m : Nat) (J : Nat → World → Prop) : Prop := ∀ k W W', J k W → Below m W W' → J k W'
def KeepFrom (B : Nat) (W W' : World) : Prop := W.heap.size ≤ W'.heap.size ∧ ∀ k, B ≤ k → k < W.heap.size → W'.heap[k]? = W.heap[k]?

theorem KeepFrom.refl (B : Nat) (W : World) : KeepFrom B W W := ⟨Nat.le_refl _, fun _ _ _ => rfl⟩
theorem KeepFrom.trans {B : Nat} {a b c : World} (h : KeepFrom B a b) (k : KeepFrom B b c) : KeepFrom B a c :=
  ⟨Nat.le_trans h.1 k.1, fun i hi hl => (k.2 i hi (by have := h.1; omega)).trans (h.2 i hi hl)⟩
theorem KeepFrom.alloc {B : Nat} {a w : World} (h : KeepFrom B a w) (o : Obj) : KeepFrom B a (w.alloc o) :=
  h.trans ⟨by simp, fun k _ hl => Below.heap_alloc w o k hl⟩
theorem KeepFrom.setCell {B : Nat} {a w : World} (h : KeepFrom B a w) {p : Addr} (hp : p.block < B) (u : Value) : KeepFrom B a (w.setCell p u) :=
  h.trans ⟨by simp [World.setCell], fun k hk _ => Below.heap_setCell w p u k (by omega)⟩
theorem KeepFrom.grown {B : Nat} {a w w' : World} {row : Option Nat} (h : KeepFrom B a w) (hg : w.grownBy w' row) (hr : ∀ k, row = some k → k < B) : KeepFrom B a w' :=
  h.trans ⟨hg.size, fun k hk hl => hg.block k hl (fun e => by have := hr k e.symm; omega)⟩
theorem KeepFrom.mono {B B' : Nat} {a w : World} (h : KeepFrom B a w) (hb : B ≤ B') : KeepFrom B' a w := ⟨h.1, fun k hk hl => h.2 k (by omega) hl⟩

theorem KeepFrom.cell {B : Nat} {W W' : World} (h : KeepFrom B W W') {a : Addr} {v : Value} (hb : B ≤ a.block) (hc : W.cell? a = some v) : W'.cell? a = some v :=
  (World.cell?_of_block (h.2 a.block hb (World.block_lt_of_cell? W a hc))).trans hc
theorem KeepFrom.frozen {B : Nat} {W W' : World} (h : KeepFrom B W W') {a : Addr} {v : Value} (hb : B ≤ a.block) (hc : W.cell? a = some v) : W'.frozen? a = W.frozen? a :=
  World.frozen?_of_block (h.2 a.block hb (World.block_lt_of_cell? W a hc))

/-- The iterator g, its captured variables lb, tells the list xs, if only what Pre says of memory lasts. -/
def SeqT {α : Type} (F : Fence) (n : Nat) (P : Program) (g : Nat) (lb : Array Value) (encs : α → Array Value) (xs : List α) (Pre : World → Prop) : Prop :=
  ∀ (l : Nat) (J : Nat → World → Prop) (W : World), (∀ k W1, J k W1 → Pre W1 ∧ W.heap.size ≤ W1.heap.size) → DepBelow W.heap.size J →
    (∀ k x W1, xs[k]? = some x → J k W1 → YieldAt F (n - 1) P l (encs x) W1 fun e W' => e = .returned (.bool true) ∧ J (k + 1) W' ∧ KeepFrom W.heap.size W1 W') → J 0 W →
    CallsIn F n P g (#[.func (.yield l) #[] #[]] ++ lb) W fun e W' => (∃ v, e = .returned v) ∧ J xs.length W'

def roundT (I : Nat → World → Prop) (B k : Nat) (W : World) : Exit → Act → World → Prop
  | .normal, _, W' => KeepFrom B W W' ∧ I k W'
  | _, _, _ => False

theorem below_putObj {m : Nat} (W : World) (l : Nat) (o : Obj) (h : m ≤ l) : Below m W (W.putObj l o) :=
  ⟨rfl, rfl, rfl, by simp, fun k hk => World.putObj_heap_other (by omega)⟩

theorem wpIn_rangeT {α : Type} {F : Fence} {n : Nat} {P : Program} {g : Operand} {ps : Array Tmp} {assign body : Code} {Q : Exit → Act → World → Prop} {a : Act} {w : World}
    (hro : F.round = none) (h1 : 1 ≤ n) {gf : Nat} {lb : Array Value} (hg : a.eval g = .func (.func gf) #[] lb) (hFg : F.fn gf) (eg : ∀ args w, (callFunc gf args).run P w = .ok (.enter gf args) w)
    {encs : α → Array Value} {xs : List α} {Pre : World → Prop} (hseq : SeqT F (n - 1) P gf lb encs xs Pre) (hps : ∀ x, (encs x).size = ps.size)
    (I : Nat → World → Prop) (hI : DepBelow w.heap.size I) (hPre : ∀ k W1, I k W1 → Pre W1) (h0 : I 0 w)
    (hround : ∀ (l k : Nat) (x : α) (W : World), xs[k]? = some x → w.heap.size + 1 < W.heap.size → I k W → ∀ (K : Act → World → Prop),
      (∀ a1 W1, Below W.heap.size W W1 → (∀ W2, Below w.heap.size W1 W2 → KeepFrom (w.heap.size + 2) W1 W2 → body.wpIn (F.inRound l) (n - 1 - 1) P (roundT I w.heap.size (k + 1) W2) a1 W2) → K a1 W1) →
      assign.wpIn (F.inRound l) (n - 1 - 1) P (Exit.then K (fun _ _ _ => False)) { tmps := (ps.zip (encs x)).foldl (fun t (p, v) => t.setIfInBounds p v) a.tmps, defers := [] } W)
    (hdone : ∀ (D : Nat) (W : World), w.heap.size ≤ D → I xs.length W → W.heap[D]? = some (.deferred (some [])) → Q .normal { a with defers := { target := .collected D, args := #[] } :: a.defers } W) :
    (Code.rangeFunc g ps assign body).wpIn F n P Q a w := by
  refine wpIn_rangeFunc ?_
  intro fn hfn
  rw [hro]
  obtain ⟨rec, hrec⟩ : ∃ rec : LoopState → Option Code → Loop, rec = fun st pe => { state := st, pending := pe, fn, tmps := a.tmps, params := ps, assign, body, defers := w.heap.size } := ⟨_, rfl⟩
  obtain ⟨W1, hW1⟩ : ∃ W1, (w.alloc (.deferred (some []))).alloc (.loop (rec .ready none)) = W1 := ⟨_, rfl⟩
  have hsz : W1.heap.size = w.heap.size + 2 := by rw [← hW1]; simp
  have hL1 : W1.heap[w.heap.size + 1]? = some (.loop (rec .ready none)) := by
    rw [← hW1]; have := World.alloc_heap_new (w.alloc (.deferred (some []))) (.loop (rec .ready none)); rwa [World.size_alloc] at this
  have hK1 : W1.heap[w.heap.size]? = some (.deferred (some [])) := by
    rw [← hW1]; exact (Below.heap_alloc _ _ _ (by simp)).trans (World.alloc_heap_new w _)
  have hI1 : I 0 W1 := by rw [← hW1]; exact hI _ _ _ h0 (((Below.refl _ w).alloc (Nat.le_refl _) _).alloc (by simp) _)
  refine ⟨w.heap.size + 1, [{ target := .collected w.heap.size, args := #[] }], W1, { target := .fn (.func gf) lb, args := #[.func (.yield (w.heap.size + 1)) #[] #[]] }, W1, gf,
    #[.func (.yield (w.heap.size + 1)) #[] #[]] ++ lb, W1, ?_, ?_, ?_, ?_, fun _ => h1, ?_⟩
  · rw [← hW1, hrec]; exact run_enterLoop_outer _ _ _ _ _
  · simp only [resolve, hg]
    simp [go_sem]
  · intro f' hf'; simp [Target.leads] at hf'; subst hf'; exact hFg
  · simp [invoke, go_sem, eg]
  · refine (hseq (w.heap.size + 1)
      (fun k W => I k W ∧ W.heap[w.heap.size + 1]? = some (.loop (rec .ready none)) ∧ W.heap[w.heap.size]? = some (.deferred (some [])))
      W1 (fun k W2 h => ⟨hPre k W2 h.1, by have := (Array.getElem?_eq_some_iff.1 h.2.1).1; omega⟩)
      (fun k A B hs hb => ⟨hI k A B hs.1 (hb.mono (by omega)), (hb.block _ (by omega)).trans hs.2.1, (hb.block _ (by omega)).trans hs.2.2⟩) ?_ ⟨hI1, hL1, hK1⟩).mono ?_
    · rintro k x W hx ⟨hi, hl, hk⟩
      have hlt : w.heap.size + 1 < W.heap.size := (Array.getElem?_eq_some_iff.1 hl).1
      have hy := run_yield (P := P) (args := encs x) hl (by rw [hrec]; exact hps x)
      rw [hrec] at hy
      refine ⟨fn, _, assign, body, hy, roundIn_of_wpIn hfn (hround (w.heap.size + 1) k x W hx hlt hi _ ?_)⟩
      intro a1 Wa hBa hbody
      have hla : Wa.heap[w.heap.size + 1]? = some (.loop (rec .ready none)) := (hBa.block _ (by omega)).trans hl
      have hka : Wa.heap[w.heap.size]? = some (.deferred (some [])) := (hBa.block _ (by omega)).trans hk
      have hlta : w.heap.size + 1 < Wa.heap.size := (Array.getElem?_eq_some_iff.1 hla).1
      refine ⟨_, run_beginRound hla (by rw [hrec]), ?_⟩
      have hl2 : (Wa.putObj (w.heap.size + 1) (.loop { rec .ready none with state := .busy })).heap[w.heap.size + 1]? = some (.loop { rec .ready none with state := .busy }) := World.putObj_heap_same hlta
      have hk2 : (Wa.putObj (w.heap.size + 1) (.loop { rec .ready none with state := .busy })).heap[w.heap.size]? = some (.deferred (some [])) := (World.putObj_heap_other (by omega)).trans hka
      have hka2 : KeepFrom (w.heap.size + 2) Wa (Wa.putObj (w.heap.size + 1) (.loop { rec .ready none with state := .busy })) := ⟨by simp, fun j hj _ => World.putObj_heap_other (by omega)⟩
      refine wpIn_mono (hbody _ (below_putObj _ _ _ (by omega)) hka2) ?_
      rintro e a3 W3 hp
      cases e with
      | normal =>
        obtain ⟨hk3, hi3⟩ := hp
        have hl3 : W3.heap[w.heap.size + 1]? = some (.loop { rec .ready none with state := .busy }) := (hk3.2 _ (by omega) (by simpa using hlta)).trans hl2
        have hk4 : W3.heap[w.heap.size]? = some (.deferred (some [])) := (hk3.2 _ (by omega) (by simp; omega)).trans hk2
        have hr := run_endRound (P := P) none hl3
        rw [hrec] at hr
        refine ⟨_, _, hr, rfl, ⟨hI _ _ _ hi3 (below_putObj _ _ _ (by omega)), ?_, (World.putObj_heap_other (by omega)).trans hk4⟩, ?_⟩
        · rw [hrec]; exact World.putObj_heap_same (Array.getElem?_eq_some_iff.1 hl3).1
        · rw [hsz]
          have k1 : KeepFrom (w.heap.size + 2) W Wa := ⟨hBa.size, fun j _ hj => hBa.block j hj⟩
          exact ((k1.trans hka2).trans (hk3.mono (by omega))).trans ⟨by simp, fun j hj _ => World.putObj_heap_other (by omega)⟩
      | ret => exact hp.elim
      | exit id => exact hp.elim
      | goto t => exact hp.elim
      | panic ch => exact hp.elim
      | outgrown => exact hp.elim
    · rintro e W2 ⟨⟨v, rfl⟩, hi, hl, hk⟩
      exact ⟨none, _, by have := run_endLoop (P := P) hl (by rw [hrec]; simp); rw [hrec] at this; exact this, hdone _ _ (Nat.le_refl _) (hI _ _ _ hi (below_putObj _ _ _ (by omega))) ((World.putObj_heap_other (by omega)).trans hk)⟩
end Go.Proofs.YtkeainhjghdfcaaGreat

/- The law's own helper 'few': of glyphs the first hundred, each one or two columns wide. -/
namespace Go.Proofs.YtkeainhjghdfcaaGreat
open Go.RowKit
abbrev Gl := ByteArray × Int
def genc (g : Gl) : List Value := [.string g.1, .int .i64 g.2]
theorem genc_len (g : Gl) : (genc g).length = 2 := rfl
theorem genc_one (g : Gl) : ∀ u ∈ genc g, u.oneCell' = true := by intro u hu; simp [genc] at hu; rcases hu with rfl | rfl <;> rfl
theorem Erg : ElemT Tryz.prog 22 81 2 24 := elemT_of (by kernel_rfl) (z := .agg #[.string ⟨#[]⟩, .int .i64 0]) (by kernel_rfl) rfl (by decide) (by decide)
end Go.Proofs.YtkeainhjghdfcaaGreat

/- Where glyphs stand: the plain function, and the iterator that tells it. -/
namespace Go.Proofs.YtkeainhjghdfcaaGreat
open Go.RowKit Go.Shelf
attribute [local go_sem] Oper.semAt_some

def place (cols : Int) (s : Int × Int) (wd : Int) : Int × Int := if cols < s.2 + wd then (s.1 + 1, 0) else s
def wdAt (l : List Gl) (k : Nat) : Int := (l.getD k (default, 0)).2
def stAt (cols : Int) (l : List Gl) : Nat → Int × Int
  | 0 => (0, 0)
  | k + 1 => ((place cols (stAt cols l k) (wdAt l k)).1, (place cols (stAt cols l k) (wdAt l k)).2 + wdAt l k)
def itemAt (cols : Int) (l : List Gl) (k : Nat) : Int × Int :=
  if k < l.length then place cols (stAt cols l k) (wdAt l k) else if cols ≤ (stAt cols l k).2 then ((stAt cols l k).1 + 1, 0) else stAt cols l k
def items (cols : Int) (l : List Gl) : List (Nat × (Int × Int)) := (List.range (l.length + 1)).map fun k => (k, itemAt cols l k)
def ienc (x : Nat × (Int × Int)) : Array Value := #[.int .i64 x.1, .agg #[.int .i64 x.2.1, .int .i64 x.2.2]]
def thin (l : List Gl) : Prop := ∀ g ∈ l, 1 ≤ g.2 ∧ g.2 ≤ 2

theorem wdAt_of {l : List Gl} {k : Nat} {g : Gl} (h : l[k]? = some g) : wdAt l k = g.2 := by unfold wdAt; simp [List.getD, h]
theorem stAt_bd (cols : Int) (hc : 2 ≤ cols) (l : List Gl) (ht : thin l) : ∀ k, k ≤ l.length → 0 ≤ (stAt cols l k).1 ∧ (stAt cols l k).1 ≤ k ∧ 0 ≤ (stAt cols l k).2 ∧ (stAt cols l k).2 ≤ 2 * k ∧ (stAt cols l k).2 ≤ cols := by
  intro k
  induction k with
  | zero => intro _; simp [stAt]; omega
  | succ k ih =>
    intro hk
    obtain ⟨h1, h2, h3, h4, h5⟩ := ih (by omega)
    have hg : l[k]? = some l[k] := List.getElem?_eq_getElem (by omega)
    have hw := ht l[k] (List.getElem_mem _)
    rw [← wdAt_of hg] at hw
    simp only [stAt, place]
    split <;> (refine ⟨?_, ?_, ?_, ?_, ?_⟩ <;> omega)

def itPre (b1 b2 b off cap : Nat) (a : Option Addr) (cols : Int) (l : List Gl) (W : World) : Prop :=
  W.cell? ⟨b1, 0, none⟩ = some (.slice a l.length cap) ∧ W.cell? ⟨b2, 0, none⟩ = some (.int .i64 cols) ∧ (0 < l.length → a = some ⟨b, off, none⟩) ∧
    ∀ j u, (l.flatMap genc)[j]? = some u → W.cell? ⟨b, off + j, none⟩ = some u

set_option maxRecDepth 100000 in
set_option maxHeartbeats 1000000 in
theorem spots1_in (n : Nat) (hn : 1 ≤ n) (b1 b2 b off cap : Nat) (a : Option Addr) (cols : Int) (l : List Gl) (hcap : l.length ≤ 1073741824) (hc2 : 2 ≤ cols) (hcm : cols ≤ 9223372036854775807) (ht : thin l) :
    SeqT Fence.wide n Tryz.prog 170 #[.pointer (some ⟨b1, 0, none⟩), .pointer (some ⟨b2, 0, none⟩)] ienc (items cols l) (itPre b1 b2 b off cap a cols l) := by
  intro lr J W hJP hJD hY h0
  refine callsIn_of_wp Tryz.func170 rfl trivial ?_ rfl
  simp only [Tryz.ntmps170, List.size_toArray, List.length_cons, List.length_nil, Nat.reduceAdd, Nat.reduceSub, Array.replicate_succ, Array.replicate_zero, List.push_toArray, List.append_toArray, List.nil_append, List.cons_append]
  obtain ⟨⟨p1, p2, p3, p4⟩, _⟩ := hJP 0 W h0
  have hb1 : b1 < W.heap.size := World.block_lt_of_cell? W _ p1
  have hJ0 := Lib.hid h0
  have hp4 := Lib.hid p4
  have hp3 := Lib.hid p3
  clear h0 p4 p3
  gi_wp2
  gi_loopw [9] (fun i wr => ∃ k : Nat, k ≤ l.length ∧ i = .int .i64 k ∧ J k wr ∧ W.heap.size < wr.heap.size ∧ wr.cell? ⟨W.heap.size, 0, none⟩ = some (.int .i64 (stAt cols l k).1) ∧ wr.cell? ⟨W.heap.size, 1, none⟩ = some (.int .i64 (stAt cols l k).2) ∧ wr.frozen? ⟨W.heap.size, 0, none⟩ = false ∧ wr.frozen? ⟨W.heap.size, 1, none⟩ = false)
    (fun i _ => l.length - (intOf i).toNat)
  case atStart =>
    exact ⟨0, Nat.zero_le _, rfl, hJD _ _ _ hJ0.out ((Below.refl _ _).alloc (Nat.le_refl _) _), by simp, (cell_two_new W _ _ _) 0 _ rfl, (cell_two_new W _ _ _) 1 _ rfl, by go_simp, by go_simp⟩
  case round =>
    obtain ⟨k, hk, rfl, hJk, hsw, hs0, hs1, hf0, hf1⟩ := hrel
    obtain ⟨q1, q2, q3, q4, q5⟩ := stAt_bd cols hc2 l ht k hk
    obtain ⟨⟨p1, p2, p3, p4⟩, hsz⟩ := hJP k wr hJk
    have hJk' := Lib.hid hJk
    have hst : stAt cols l (k + 1) = ((place cols (stAt cols l k) (wdAt l k)).1, (place cols (stAt cols l k) (wdAt l k)).2 + wdAt l k) := rfl
    have hb2w : b2 < wr.heap.size := World.block_lt_of_cell? wr _ p2
    have hb1w : b1 < wr.heap.size := World.block_lt_of_cell? wr _ p1
    by_cases hlt : k < l.length
    · obtain ⟨g, hg⟩ : ∃ g, l[k]? = some g := ⟨l[k], by simp [hlt]⟩
      have ha := p3 (by omega)
      subst ha
      have hd1 : wr.cell? ⟨b, off + k * 2, none⟩ = some (.string g.1) := flat_cell genc_len p4 hg 0 rfl
      have hd2 : wr.cell? ⟨b, off + k * 2 + 1, none⟩ = some (.int .i64 g.2) := flat_cell genc_len p4 hg 1 rfl
      have hit : (items cols l)[k]? = some (k, place cols (stAt cols l k) (wdAt l k)) := by
        unfold items itemAt
        rw [List.getElem?_map, List.getElem?_range (by omega)]
        simp [hlt]
      rw [wdAt_of hg] at hst hit
      have hY1 := fun W1 => hY k _ W1 hit
      clear hit hY
      generalize stAt cols l k = s at *
      obtain ⟨r, c⟩ := s
      dsimp only at *
      obtain ⟨w1, w2⟩ := ht g (List.mem_of_getElem? hg)
      have HST := Lib.hid hst
      clear hg hJk p3 p4 hst
      by_cases hcmp : cols < c + g.2
      · have hpl : place cols (r, c) g.2 = (r + 1, 0) := if_pos hcmp
        rw [hpl] at hY1
        rw [hpl] at HST
        clear hpl
        obtain ⟨W1, hW1⟩ : ∃ W1, W1 = ((wr.setCell ⟨W.heap.size, 0, none⟩ (.int .i64 (r + 1))).setCell ⟨W.heap.size, 1, none⟩ (.int .i64 0)).alloc (.cells #[.string g.1, .int .i64 g.2] 97) := ⟨_, rfl⟩
        have hJ1 : J k W1 := by
          rw [hW1]
          exact hJD _ _ _ hJk'.out ((((Below.refl _ wr).setCell (p := ⟨W.heap.size, 0, none⟩) (Nat.le_refl _) _).setCell (p := ⟨W.heap.size, 1, none⟩) (Nat.le_refl _) _).alloc (by simp; omega) _)
        have a0 : W1.cell? ⟨W.heap.size, 0, none⟩ = some (.int .i64 (r + 1)) := by rw [hW1]; go_simp
        have a1 : W1.cell? ⟨W.heap.size, 1, none⟩ = some (.int .i64 0) := by rw [hW1]; go_simp
        have a2 : W1.frozen? ⟨W.heap.size, 0, none⟩ = false := by rw [hW1]; go_simp
        have a3 : W1.frozen? ⟨W.heap.size, 1, none⟩ = false := by rw [hW1]; go_simp
        have a4 : W1.cell? ⟨wr.heap.size, 1, none⟩ = some (.int .i64 g.2) := by rw [hW1]; go_simp
        have a5 : W.heap.size < W1.heap.size := by rw [hW1]; simp; omega
        obtain ⟨fn, tmps, assign, body, hy, hR⟩ := hY1 W1 hJ1
        simp only [ienc] at hy
        have A0 := Lib.hid a0
        have A1 := Lib.hid a1
        have A2 := Lib.hid a2
        have A3 := Lib.hid a3
        have A4 := Lib.hid a4
        clear a0 a1 a2 a3 a4 hJ1 hY1
        subst hW1
        gi_wp2
        refine hR.mono ?_
        clear hy hR
        rintro e W' ⟨rfl, hJ', hKF⟩
        have c0 := hKF.cell (a := ⟨W.heap.size, 0, none⟩) (Nat.le_refl _) A0.out
        have c1 := hKF.cell (a := ⟨W.heap.size, 1, none⟩) (Nat.le_refl _) A1.out
        have c2 := (hKF.frozen (a := ⟨W.heap.size, 0, none⟩) (Nat.le_refl _) A0.out).trans A2.out
        have c3 := (hKF.frozen (a := ⟨W.heap.size, 1, none⟩) (Nat.le_refl _) A1.out).trans A3.out
        have c4 := hKF.cell (a := ⟨wr.heap.size, 1, none⟩) hsz A4.out
        have c5 : W.heap.size < W'.heap.size := Nat.lt_of_lt_of_le a5 hKF.1
        have HJ' := Lib.hid hJ'
        clear hJ' hKF A0 A1 A2 A3 A4 a5
        gi_wp2
        go_roundw
        case rel =>
          refine ⟨k + 1, by omega, by go_num, hJD _ _ _ HJ'.out ((Below.refl _ _).setCell (p := ⟨W.heap.size, 1, none⟩) (Nat.le_refl _) _), by simpa using c5, ?_⟩
          rw [HST.out]
          exact ⟨by go_simp, by go_simp, by go_simp, by go_simp⟩
        case measure => simp [intOf]; omega
      · have hpl : place cols (r, c) g.2 = (r, c) := if_neg hcmp
        rw [hpl] at hY1
        rw [hpl] at HST
        clear hpl
        obtain ⟨W1, hW1⟩ : ∃ W1, W1 = wr.alloc (.cells #[.string g.1, .int .i64 g.2] 97) := ⟨_, rfl⟩
        have hJ1 : J k W1 := by
          rw [hW1]
          exact hJD _ _ _ hJk'.out ((Below.refl _ wr).alloc (by omega) _)
        have a0 : W1.cell? ⟨W.heap.size, 0, none⟩ = some (.int .i64 r) := by rw [hW1]; go_simp
        have a1 : W1.cell? ⟨W.heap.size, 1, none⟩ = some (.int .i64 c) := by rw [hW1]; go_simp
        have a2 : W1.frozen? ⟨W.heap.size, 0, none⟩ = false := by rw [hW1]; go_simp
        have a3 : W1.frozen? ⟨W.heap.size, 1, none⟩ = false := by rw [hW1]; go_simp
        have a4 : W1.cell? ⟨wr.heap.size, 1, none⟩ = some (.int .i64 g.2) := by rw [hW1]; go_simp
        have a5 : W.heap.size < W1.heap.size := by rw [hW1]; simp; omega
        obtain ⟨fn, tmps, assign, body, hy, hR⟩ := hY1 W1 hJ1
        simp only [ienc] at hy
        have A0 := Lib.hid a0
        have A1 := Lib.hid a1
        have A2 := Lib.hid a2
        have A3 := Lib.hid a3
        have A4 := Lib.hid a4
        clear a0 a1 a2 a3 a4 hJ1 hY1
        subst hW1
        gi_wp2
        refine hR.mono ?_
        clear hy hR
        rintro e W' ⟨rfl, hJ', hKF⟩
        have c0 := hKF.cell (a := ⟨W.heap.size, 0, none⟩) (Nat.le_refl _) A0.out
        have c1 := hKF.cell (a := ⟨W.heap.size, 1, none⟩) (Nat.le_refl _) A1.out
        have c2 := (hKF.frozen (a := ⟨W.heap.size, 0, none⟩) (Nat.le_refl _) A0.out).trans A2.out
        have c3 := (hKF.frozen (a := ⟨W.heap.size, 1, none⟩) (Nat.le_refl _) A1.out).trans A3.out
        have c4 := hKF.cell (a := ⟨wr.heap.size, 1, none⟩) hsz A4.out
        have c5 : W.heap.size < W'.heap.size := Nat.lt_of_lt_of_le a5 hKF.1
        have HJ' := Lib.hid hJ'
        clear hJ' hKF A0 A1 A2 A3 A4 a5
        gi_wp2
        go_roundw
        case rel =>
          refine ⟨k + 1, by omega, by go_num, hJD _ _ _ HJ'.out ((Below.refl _ _).setCell (p := ⟨W.heap.size, 1, none⟩) (Nat.le_refl _) _), by simpa using c5, ?_⟩
          rw [HST.out]
          exact ⟨by go_simp, by go_simp, by go_simp, by go_simp⟩
        case measure => simp [intOf]; omega
    · have hkl : k = l.length := by omega
      subst hkl
      have hlen := Lib.hid (show (items cols l).length = l.length + 1 by unfold items; simp)
      have hit : (items cols l)[l.length]? = some (l.length, itemAt cols l l.length) := by
        unfold items
        rw [List.getElem?_map, List.getElem?_range (by omega)]; rfl
      have hif : itemAt cols l l.length = if cols ≤ (stAt cols l l.length).2 then ((stAt cols l l.length).1 + 1, 0) else stAt cols l l.length := if_neg (by omega)
      rw [hif] at hit
      clear hst hif hp3 hp4 hJ0 p3 p4
      generalize stAt cols l l.length = s at *
      obtain ⟨r, c⟩ := s
      dsimp only at *
      by_cases hcmp : cols ≤ c
      · rw [if_pos hcmp] at hit
        obtain ⟨fn, tmps, assign, body, hy, hR⟩ := hY _ _ ((wr.setCell ⟨W.heap.size, 0, none⟩ (.int .i64 (r + 1))).setCell ⟨W.heap.size, 1, none⟩ (.int .i64 0)) hit (hJD _ _ _ hJk'.out (((Below.refl _ wr).setCell (p := ⟨W.heap.size, 0, none⟩) (Nat.le_refl _) _).setCell (p := ⟨W.heap.size, 1, none⟩) (Nat.le_refl _) _))
        simp only [ienc] at hy
        clear hY hit hJk hJP
        gi_wp2
        refine hR.mono ?_
        clear hy hR
        rintro e W' ⟨rfl, hJ', hKF⟩
        have HJ' := Lib.hid hJ'
        clear hJ' hKF
        gi_wp2
        go_end0
        exact ⟨⟨_, rfl⟩, by rw [hlen.out]; exact HJ'.out⟩
      · rw [if_neg hcmp] at hit
        obtain ⟨fn, tmps, assign, body, hy, hR⟩ := hY _ _ wr hit hJk
        simp only [ienc] at hy
        clear hY hit hJk hJP
        gi_wp2
        refine hR.mono ?_
        clear hy hR
        rintro e W' ⟨rfl, hJ', hKF⟩
        have HJ' := Lib.hid hJ'
        clear hJ' hKF
        gi_wp2
        go_end0
        exact ⟨⟨_, rfl⟩, by rw [hlen.out]; exact HJ'.out⟩
end Go.Proofs.YtkeainhjghdfcaaGreat

/- wrap.Place: the spots of glyphs, told by the iterator, collected. -/
namespace Go.Proofs.YtkeainhjghdfcaaGreat
open Go.RowKit Go.Shelf
attribute [local go_sem] Oper.semAt_some

def senc (s : Int × Int) : List Value := [.int .i64 s.1, .int .i64 s.2]
theorem senc_len (s : Int × Int) : (senc s).length = 2 := rfl
theorem senc_one (s : Int × Int) : ∀ u ∈ senc s, u.oneCell' = true := by intro u hu; simp [senc] at hu; rcases hu with rfl | rfl <;> rfl
def spotsL (cols : Int) (l : List Gl) : List (Int × Int) := if cols < 2 then [] else (List.range (l.length + 1)).map (itemAt cols l)
theorem Es : ElemT Tryz.prog 137 57 2 16 := elemT_of (by kernel_rfl) (z := .agg #[.int .i64 0, .int .i64 0]) (by kernel_rfl) rfl (by decide) (by decide)

set_option maxRecDepth 100000 in
set_option maxHeartbeats 400000 in
theorem spots_any (v : Value) (cols : Int) (w : World) (a : Option Addr) (n cap : Nat) (hv : v = .slice a n cap) :
    Calls Tryz.prog 123 #[v, .int .i64 cols] w fun e w' => e = .returned (.func (.func 170) #[] #[.pointer (some ⟨w.heap.size, 0, none⟩), .pointer (some ⟨w.heap.size + 1, 0, none⟩)]) ∧
      (w.alloc (.cells #[v] 23)).alloc (.cells #[.int .i64 cols] 3) = w' := by
  subst hv
  go_enter Tryz.func123, Tryz.ntmps123
  go_wp2
  go_ret
  exact ⟨rfl, rfl⟩

structure PlaceI (w w1 : World) (a : Option Addr) (cap : Nat) (cols : Int) (l : List Gl) (k : Nat) (W : World) : Prop where
  below : Below w.heap.size w W
  size : w1.heap.size + 3 ≤ W.heap.size
  out : W.cell? ⟨w1.heap.size, 0, none⟩ = some (.slice (some ⟨w.heap.size, 0, none⟩) k (l.length + 1))
  free : W.frozen? ⟨w1.heap.size, 0, none⟩ = false
  own : W.ownsRow w.heap.size 57 2 (.slice (some ⟨w.heap.size, 0, none⟩) k (l.length + 1)) k (((List.range k).map (itemAt cols l)).flatMap senc)
  box1 : W.cell? ⟨w1.heap.size + 1, 0, none⟩ = some (.slice a l.length cap)
  box2 : W.cell? ⟨w1.heap.size + 1 + 1, 0, none⟩ = some (.int .i64 cols)

theorem PlaceI.dep {w w1 : World} (hw : w.heap.size < w1.heap.size) (a : Option Addr) (cap : Nat) (cols : Int) (l : List Gl) : DepBelow (w1.heap.size + 3) (PlaceI w w1 a cap cols l) := by
  intro k W W' h hb
  exact ⟨h.below.trans (hb.mono (by omega)), Nat.le_trans h.size hb.size, (hb.cell (p := ⟨w1.heap.size, 0, none⟩) (by show w1.heap.size < _; omega)).trans h.out,
    (hb.frozen (p := ⟨w1.heap.size, 0, none⟩) (by show w1.heap.size < _; omega)).trans h.free, owns_below h.own hb (by omega),
    (hb.cell (p := ⟨w1.heap.size + 1, 0, none⟩) (by show w1.heap.size + 1 < _; omega)).trans h.box1, (hb.cell (p := ⟨w1.heap.size + 1 + 1, 0, none⟩) (by show w1.heap.size + 1 + 1 < _; omega)).trans h.box2⟩

set_option maxRecDepth 100000 in
set_option maxHeartbeats 1000000 in
theorem place_big (v : Value) (l : List Gl) (cols : Int) (w : World) (hR : Rs w.heap.size w genc 2 v l) (hlen : l.length ≤ 1073741824) (hc : 2 ≤ cols) (hcm : cols ≤ 9223372036854775807) (ht : thin l) :
    Calls Tryz.prog 75 #[v, .int .i64 cols] w fun e w' => ∃ vs, e = .returned vs ∧ Below w.heap.size w w' ∧ w'.ownsRow w.heap.size 57 2 vs (l.length + 1) (((List.range (l.length + 1)).map (itemAt cols l)).flatMap senc) := by
  obtain ⟨a, cap, rfl, hcap, hmax, hxl, hcells⟩ := hR
  unfold maxLen at hmax
  refine (callsIn_wide (n := 8)).1 (callsIn_of_wp_marks Tryz.func75 rfl trivial ?_ rfl)
  simp only [Tryz.ntmps75, List.size_toArray, List.length_cons, List.length_nil, Nat.reduceAdd, Nat.reduceSub, Array.replicate_succ, Array.replicate_zero, List.push_toArray, List.append_toArray, List.nil_append, List.cons_append]
  obtain ⟨_, ie, ze, hie, hze, hse, hbe, hzse⟩ := id (⟨Es.und, Es.inf⟩ : _ ∧ _)
  gi_wp2_with (first | (gi_at_make; refine wpListIn_make_own _ rfl _ _ _ rfl w.heap.size 57 ie ze 2 Es.und hie hze hse _ _ _ (l.length + 1) rfl rfl (by omega) (by rw [hbe]; omega) (by unfold maxLen; omega) (Nat.le_refl _) ?_; intro w1 how1 hg1) | (refine ⟨trivial, ?_⟩; gi_at_call 123; refine (callsIn_wide.2 (spots_any _ cols _ a _ _ rfl)).mono ?_; rintro e w' ⟨rfl, rfl⟩))
  have hww : w.heap.size < w1.heap.size := (how1.lt w.heap.size rfl).2
  have hBw1 : Below w.heap.size w w1 := (Below.refl _ w).grown hg1 (Nat.le_refl _) (fun k e => by cases e)
  obtain ⟨b, off, hab, hcel⟩ : ∃ b off, (0 < l.length → a = some ⟨b, off, none⟩) ∧ ∀ j u, (l.flatMap genc)[j]? = some u → w.cell? ⟨b, off + j, none⟩ = some u := by
    rcases Nat.eq_zero_or_pos l.length with h0 | h0
    · have : l = [] := List.eq_nil_of_length_eq_zero h0
      subst this
      exact ⟨0, 0, fun h => by simp at h, fun j u h => by simp at h⟩
    · obtain ⟨b, off, h1, _, h2⟩ := hcells h0
      exact ⟨b, off, fun _ => h1, h2⟩
  have hit : ∀ k x, (items cols l)[k]? = some x → k ≤ l.length ∧ x = (k, itemAt cols l k) := by
    intro k x hx
    unfold items at hx
    rw [List.getElem?_map] at hx
    rcases Nat.lt_or_ge k (l.length + 1) with h | h
    · rw [List.getElem?_range h] at hx
      simp at hx
      exact ⟨by omega, hx.symm⟩
    · rw [List.getElem?_eq_none (by simpa using h)] at hx; simp at hx
  have hlen1 : (items cols l).length = l.length + 1 := by unfold items; simp
  have hdep := PlaceI.dep hww a cap cols l
  clear hcells hxl
  refine wpIn_rangeT rfl (by decide) (gf := 170) (lb := #[.pointer (some ⟨w1.heap.size + 1, 0, none⟩), .pointer (some ⟨w1.heap.size + 1 + 1, 0, none⟩)]) rfl trivial (enters_of Tryz.func170 (by kernel_rfl) rfl)
    (spots1_in 7 (by decide) _ _ b off cap a cols l hlen hc hcm ht) (fun _ => rfl) (PlaceI w w1 a cap cols l) ?dep ?pre ?start ?round ?done
  case dep => simpa using hdep
  case pre =>
    intro k W h
    exact ⟨h.box1, h.box2, hab, fun j u hu => cell_later h.below (hcel j u hu)⟩
  case start =>
    have hB3 := ((((Below.refl w1.heap.size w1).alloc (Nat.le_refl _) (.cells #[.slice (some ⟨w.heap.size, 0, none⟩) 0 (l.length + 1)] 137)).alloc (by simp) (.cells #[.slice a l.length cap] 23)).alloc (by simp; omega) (.cells #[.int .i64 cols] 3))
    exact ⟨hBw1.trans (hB3.mono (by omega)), by simp, by go_simp, by go_simp, owns_below how1 hB3 hww, by go_simp, by go_simp⟩
  case round =>
    intro lr k x W hx hlt hI K hK
    obtain ⟨hk, rfl⟩ := hit k x hx
    clear hx hit hcel hlen1 how1
    unfold ienc
    gi_wp2
    refine hK _ _ ((Below.refl _ W).alloc (Nat.le_refl _) _) ?_
    intro W2 hb2 hk2
    simp only [World.size_alloc, Nat.add_assoc, Nat.reduceAdd] at hlt hb2 hk2
    have hI2 : PlaceI w w1 a cap cols l k W2 := hdep _ _ _ (hdep _ _ _ hI (((Below.refl W.heap.size W).alloc (Nat.le_refl _) _).mono (by omega))) hb2
    have hs2 := cell_two_new W (.int .i64 (itemAt cols l k).1) (.int .i64 (itemAt cols l k).2) 57
    have hs0 : W2.cell? ⟨W.heap.size, 0, none⟩ = some (.int .i64 (itemAt cols l k).1) := hk2.cell (by show _ ≤ W.heap.size; omega) (hs2 0 _ rfl)
    have hs1 : W2.cell? ⟨W.heap.size, 1, none⟩ = some (.int .i64 (itemAt cols l k).2) := hk2.cell (by show _ ≤ W.heap.size; omega) (hs2 1 _ rfl)
    have hW2 : W.heap.size < W2.heap.size := World.block_lt_of_cell? W2 _ hs0
    have ho := hI2.out
    have hfr := hI2.free
    have how := hI2.own
    have HI := Lib.hid hI2
    have hsz2 := hI2.size
    have HD := Lib.hid hdep
    clear hI hI2 hK hs2 hb2 hk2 hdep
    have hgg : itemAt cols l k = ((itemAt cols l k).1, (itemAt cols l k).2) := rfl
    have HS := Lib.hid (show ((List.range k).map (itemAt cols l)).flatMap senc ++ [.int .i64 (itemAt cols l k).1, .int .i64 (itemAt cols l k).2] = ((List.range (k + 1)).map (itemAt cols l)).flatMap senc by rw [List.range_succ]; simp [senc])
    clear hgg
    generalize itemAt cols l k = p at *
    gi_wp2_with (gi_at_builtin; refine wpListIn_append_fits _ rfl (.tmp 19) _ _ rfl w.heap.size 57 ie 2 Es.und hie hse w.heap.size k (l.length + 1) _ rfl (how.alloc _) _ 1 1 [.int .i64 p.1, .int .i64 p.2] rfl rfl (cell_two_new _ _ _ _) (by intro u hu; simp at hu; rcases hu with rfl | rfl <;> rfl) (by omega) ?_; intro w3 ho3 hg3; have hblk : w3.heap[w1.heap.size]? = W2.heap[w1.heap.size]? := (hg3.block _ (by simp; omega) (by simp; omega)).trans (Below.heap_alloc _ _ _ (by omega)); have hc3 : w3.cell? ⟨w1.heap.size, 0, none⟩ = some (.slice (some ⟨w.heap.size, 0, none⟩) k (l.length + 1)) := (World.cell?_of_block (a := ⟨w1.heap.size, 0, none⟩) hblk).trans ho; have hf3 : w3.frozen? ⟨w1.heap.size, 0, none⟩ = false := (World.frozen?_of_block (a := ⟨w1.heap.size, 0, none⟩) hblk).trans hfr; have H3 := Lib.hid hblk; clear hblk)
    have hkeep : KeepFrom (w1.heap.size + 3) W2 w3 := ((KeepFrom.refl _ W2).alloc _).grown hg3 (fun k e => by cases e; omega)
    have hbel : Below w.heap.size W2 w3 := ((Below.refl w.heap.size W2).alloc (by omega) _).grown hg3 (by simp; omega) (fun k e => by cases e; exact Nat.le_refl _)
    have h1 : w3.heap[w1.heap.size + 1]? = W2.heap[w1.heap.size + 1]? := (hg3.block _ (by simp; omega) (by simp; omega)).trans (Below.heap_alloc _ _ _ (by omega))
    have h2 : w3.heap[w1.heap.size + 1 + 1]? = W2.heap[w1.heap.size + 1 + 1]? := (hg3.block _ (by simp; omega) (by simp; omega)).trans (Below.heap_alloc _ _ _ (by omega))
    have hsz3 := hkeep.1
    refine ⟨?_, ?_⟩
    · simpa using hkeep.setCell (p := ⟨w1.heap.size, 0, none⟩) (by show w1.heap.size < _; omega) _
    · have hsz4 : w1.heap.size + 3 ≤ w3.heap.size := by omega
      refine ⟨(HI.out.below.trans hbel).setCell (p := ⟨w1.heap.size, 0, none⟩) (by show _ ≤ w1.heap.size; omega) _, by simpa using hsz4, by go_simp, by go_simp, ?_, ?_, ?_⟩
      · rw [← HS.out]
        have hne : ∀ g c, (Value.slice (some ⟨w.heap.size, 0, none⟩) g c) ≠ .slice none 0 0 := by simp
        exact ho3.kept (row := some w1.heap.size) ⟨rfl, rfl, rfl, by simp [World.setCell], fun j _ hj => Below.heap_setCell _ _ _ _ (fun e => hj (by rw [e]))⟩ (.inr (by simp [Value.ownBlock]; omega))
      · rw [World.cell?_of_block (w := w3) (a := ⟨w1.heap.size + 1, 0, none⟩) (Below.heap_setCell _ _ _ _ (by simp)), World.cell?_of_block (w := W2) (a := ⟨w1.heap.size + 1, 0, none⟩) h1]
        exact HI.out.box1
      · rw [World.cell?_of_block (w := w3) (a := ⟨w1.heap.size + 1 + 1, 0, none⟩) (Below.heap_setCell _ _ _ _ (by simp; omega)), World.cell?_of_block (w := W2) (a := ⟨w1.heap.size + 1 + 1, 0, none⟩) h2]
        exact HI.out.box2
  case done =>
    intro D W hD hI hKD
    rw [hlen1] at hI
    simp only [World.size_alloc, Nat.add_assoc, Nat.reduceAdd] at hD
    have ho := hI.out
    gi_wp2
    refine ⟨by simp, .inl ⟨_, _, rfl, run_takeDeferred hKD, ?_⟩⟩
    exact ⟨_, results_tmp rfl _ _ _, _, rfl, hI.below.trans (below_putObj W D _ (by omega)), owns_below hI.own (below_putObj (m := w1.heap.size + 3) W D _ hD) (by omega)⟩

set_option maxRecDepth 100000 in
set_option maxHeartbeats 400000 in
theorem place_small (v : Value) (a : Option Addr) (n cap : Nat) (cols : Int) (w : World) (hv : v = .slice a n cap) (hc : cols < 2) :
    Calls Tryz.prog 75 #[v, .int .i64 cols] w fun e w' => e = .returned (.slice none 0 0) ∧ w = w' := by
  subst hv
  go_enter Tryz.func75, Tryz.ntmps75
  go_wp2
  go_ret
  exact ⟨rfl, rfl⟩

theorem spotsL_len (cols : Int) (l : List Gl) : (spotsL cols l).length = if cols < 2 then 0 else l.length + 1 := by unfold spotsL; split <;> simp

/-- Place, at any width. -/
theorem place_any (v : Value) (l : List Gl) (cols : Int) (w : World) (hR : Rs w.heap.size w genc 2 v l) (hlen : l.length ≤ 1073741824) (hcm : cols ≤ 9223372036854775807) (ht : thin l) :
    Calls Tryz.prog 75 #[v, .int .i64 cols] w fun e w' => ∃ vs, e = .returned vs ∧ Below w.heap.size w w' ∧ w'.ownsRow w.heap.size 57 2 vs (spotsL cols l).length ((spotsL cols l).flatMap senc) ∧ (vs = .slice none 0 0 ↔ cols < 2) := by
  by_cases hc : cols < 2
  · obtain ⟨a, cap, rfl, _⟩ := id hR
    refine (place_small _ a _ cap cols w rfl hc).mono ?_
    rintro e w' ⟨rfl, rfl⟩
    refine ⟨_, rfl, Below.refl _ _, ?_, by simp [hc]⟩
    have : spotsL cols l = [] := if_pos hc
    rw [this]
    exact World.ownsRow_nil _ _ _ _
  · refine (place_big v l cols w hR hlen (by omega) hcm ht).mono ?_
    rintro e w' ⟨vs, rfl, hb, ho⟩
    have hs : spotsL cols l = (List.range (l.length + 1)).map (itemAt cols l) := if_neg hc
    refine ⟨vs, rfl, hb, by rw [hs]; simpa using ho, ?_⟩
    obtain ⟨g, cap, rfl, _⟩ := ownBlock_of_owns ho (by omega)
    simp [hc]
end Go.Proofs.YtkeainhjghdfcaaGreat

/- The document's Place, the example, both Tops. -/
namespace Go.Proofs.YtkeainhjghdfcaaGreat
open Go.RowKit

theorem Ers : ElemT Tryz.prog 78 64 2 16 := elemT_of (by kernel_rfl) (z := .agg #[.int .i64 0, .int .i64 0]) (by kernel_rfl) rfl (by decide) (by decide)
theorem range_snoc_map {α β : Type} (f : Nat → α) (enc : α → List β) (k : Nat) : ((List.range (k + 1)).map f).flatMap enc = ((List.range k).map f).flatMap enc ++ enc (f k) := by rw [List.range_succ]; simp

set_option maxRecDepth 100000 in
set_option maxHeartbeats 1000000 in
theorem refPlace_big (v : Value) (l : List Gl) (cols : Int) (w : World) (hR : Rs w.heap.size w genc 2 v l) (hlen : l.length ≤ 1073741824) (hc : 2 ≤ cols) (hcm : cols ≤ 9223372036854775807) (ht : thin l) :
    Calls Tryz.prog 31 #[v, .int .i64 cols] w fun e w' => ∃ vs, e = .returned vs ∧ Below w.heap.size w w' ∧ w'.ownsRow w.heap.size 64 2 vs (l.length + 1) (((List.range (l.length + 1)).map (itemAt cols l)).flatMap senc) := by
  obtain ⟨a, cap, rfl, hcap, hmax, hxl, hcells⟩ := hR
  unfold maxLen at hmax
  go_enter Tryz.func31, Tryz.ntmps31
  go_wp2
  go_loopw [5, 6, 7, 8] (fun vs r c i wr => ∃ k : Nat, k ≤ l.length ∧ i = .int .i64 k ∧ Below w.heap.size w wr ∧ r = .int .i64 (stAt cols l k).1 ∧ c = .int .i64 (stAt cols l k).2 ∧ wr.ownsRow w.heap.size 64 2 vs k (((List.range k).map (itemAt cols l)).flatMap senc)) (fun _ _ _ i _ => l.length - (intOf i).toNat)
  case atStart => exact ⟨0, Nat.zero_le _, rfl, Below.refl _ _, rfl, rfl, World.ownsRow_nil _ _ _ _⟩
  case round =>
    obtain ⟨k, hk, rfl, hB, rfl, rfl, ho⟩ := hrel
    have hBs := hB.size
    obtain ⟨q1, q2, q3, q4, q5⟩ := stAt_bd cols hc l ht k hk
    by_cases hlt : k < l.length
    · obtain ⟨g, hg⟩ : ∃ g, l[k]? = some g := ⟨l[k], by simp [hlt]⟩
      obtain ⟨b, off, rfl, hbl, hcc⟩ := hcells (by omega)
      obtain ⟨w1, w2⟩ := ht g (List.mem_of_getElem? hg)
      have H2 := Lib.hid (flat_cell genc_len hcc hg 1 rfl)
      have hd2 : wr.cell? ⟨b, off + k * 2 + 1, none⟩ = some (.int .i64 g.2) := cell_later hB H2.out
      have hst : stAt cols l (k + 1) = ((place cols (stAt cols l k) (wdAt l k)).1, (place cols (stAt cols l k) (wdAt l k)).2 + wdAt l k) := rfl
      have hit : itemAt cols l k = place cols (stAt cols l k) (wdAt l k) := if_pos hlt
      have hsn := range_snoc_map (itemAt cols l) senc k
      rw [hit] at hsn
      rw [wdAt_of hg] at hst hsn
      generalize stAt cols l k = s at *
      obtain ⟨r, c⟩ := s
      dsimp only at *
      clear hcells hxl hg hcc hit ht
      by_cases hcmp : cols < c + g.2
      all_goals
        first
          | (have hpl : place cols (r, c) g.2 = (r + 1, 0) := if_pos hcmp; rw [hpl] at hst hsn; clear hpl; have hcm2 : cols - c < g.2 := by omega)
          | (have hpl : place cols (r, c) g.2 = (r, c) := if_neg hcmp; rw [hpl] at hst hsn; clear hpl; have hcm2 : ¬ cols - c < g.2 := by omega)
        have HST := Lib.hid hst
        have HSN := Lib.hid hsn
        clear hst hsn hcmp
        first
          | go_wp2_with (at_builtin; refine wpList_app1 _ rfl (.tmp 28) _ _ rfl Ers _ _ _ rfl ho _ _ (senc (r + 1, 0)) rfl (by decide) rfl (senc_one _) (by omega) hB.size ?_; intro g1 cap1 w1 ho1 hg1 hf1; have hB1 := below_app hB hBs ho (Nat.le_refl _) hg1; have hd2' : w1.cell? ⟨b, off + k * 2 + 1, none⟩ = some (.int .i64 g.2) := cell_later hB1 H2.out)
            go_roundw
            case rel =>
              refine ⟨k + 1, by omega, by go_num, hB1, ?_, ?_, ?_⟩
              · rw [HST.out]
              · rw [HST.out]; simp
              · rw [HSN.out]; exact ho1
            case measure => simp [intOf]; omega
          | go_wp2_with (at_builtin; refine wpList_app1 _ rfl (.tmp 28) _ _ rfl Ers _ _ _ rfl ho _ _ (senc (r, c)) rfl (by decide) rfl (senc_one _) (by omega) hB.size ?_; intro g1 cap1 w1 ho1 hg1 hf1; have hB1 := below_app hB hBs ho (Nat.le_refl _) hg1; have hd2' : w1.cell? ⟨b, off + k * 2 + 1, none⟩ = some (.int .i64 g.2) := cell_later hB1 H2.out)
            go_roundw
            case rel =>
              refine ⟨k + 1, by omega, by go_num, hB1, ?_, ?_, ?_⟩
              · rw [HST.out]
              · rw [HST.out]
              · rw [HSN.out]; exact ho1
            case measure => simp [intOf]; omega
    · have hkl : k = l.length := by omega
      subst hkl
      have hsn := range_snoc_map (itemAt cols l) senc l.length
      have hit : itemAt cols l l.length = if cols ≤ (stAt cols l l.length).2 then ((stAt cols l l.length).1 + 1, 0) else stAt cols l l.length := if_neg (by omega)
      rw [hit] at hsn
      clear hcells hxl hit ht
      generalize stAt cols l l.length = s at *
      obtain ⟨r, c⟩ := s
      dsimp only at *
      by_cases hcmp : cols ≤ c
      · rw [if_pos hcmp] at hsn
        have HSN := Lib.hid hsn
        clear hsn
        go_wp2_with (at_builtin; refine wpList_app1 _ rfl (.tmp 46) _ _ rfl Ers _ _ _ rfl ho _ _ (senc (r + 1, 0)) rfl (by decide) rfl (senc_one _) (by omega) hB.size ?_; intro g1 cap1 w1 ho1 hg1 hf1; have hB1 := below_app hB hBs ho (Nat.le_refl _) hg1)
        go_ret
        have hfin := ho1
        rw [← HSN.out] at hfin
        first | exact ⟨_, rfl, hB1, hfin⟩ | exact ⟨_, rfl, hB1, by rw [range_snoc_map] at hfin; exact hfin⟩
      · rw [if_neg hcmp] at hsn
        have HSN := Lib.hid hsn
        clear hsn
        go_wp2_with (at_builtin; refine wpList_app1 _ rfl (.tmp 46) _ _ rfl Ers _ _ _ rfl ho _ _ (senc (r, c)) rfl (by decide) rfl (senc_one _) (by omega) hB.size ?_; intro g1 cap1 w1 ho1 hg1 hf1; have hB1 := below_app hB hBs ho (Nat.le_refl _) hg1)
        go_ret
        have hfin := ho1
        rw [← HSN.out] at hfin
        first | exact ⟨_, rfl, hB1, hfin⟩ | exact ⟨_, rfl, hB1, by rw [range_snoc_map] at hfin; exact hfin⟩

set_option maxRecDepth 100000 in
set_option maxHeartbeats 400000 in
theorem refPlace_small (v : Value) (a : Option Addr) (n cap : Nat) (cols : Int) (w : World) (hv : v = .slice a n cap) (hc : cols < 2) :
    Calls Tryz.prog 31 #[v, .int .i64 cols] w fun e w' => e = .returned (.slice none 0 0) ∧ w = w' := by
  subst hv
  go_enter Tryz.func31, Tryz.ntmps31
  go_wp2
  go_ret
  exact ⟨rfl, rfl⟩

theorem refPlace_any (v : Value) (l : List Gl) (cols : Int) (w : World) (hR : Rs w.heap.size w genc 2 v l) (hlen : l.length ≤ 1073741824) (hcm : cols ≤ 9223372036854775807) (ht : thin l) :
    Calls Tryz.prog 31 #[v, .int .i64 cols] w fun e w' => ∃ vs, e = .returned vs ∧ Below w.heap.size w w' ∧ w'.ownsRow w.heap.size 64 2 vs (spotsL cols l).length ((spotsL cols l).flatMap senc) := by
  by_cases hc : cols < 2
  · obtain ⟨a, cap, rfl, _⟩ := id hR
    refine (refPlace_small _ a _ cap cols w rfl hc).mono ?_
    rintro e w' ⟨rfl, rfl⟩
    refine ⟨_, rfl, Below.refl _ _, ?_⟩
    have : spotsL cols l = [] := if_pos hc
    rw [this]
    exact World.ownsRow_nil _ _ _ _
  · refine (refPlace_big v l cols w hR hlen (by omega) hcm ht).mono ?_
    rintro e w' ⟨vs, rfl, hb, ho⟩
    have hs : spotsL cols l = (List.range (l.length + 1)).map (itemAt cols l) := if_neg hc
    exact ⟨vs, rfl, hb, by rw [hs]; simpa using ho⟩

def topN (all rows row : Int) : Int := max (min (row - rows / 2) (all - rows)) 0
set_option maxHeartbeats 400000 in
theorem top_any (all rows row : Int) (w : World) (h1 : 1 ≤ all) (h2 : all ≤ 4611686018427387904) (h3 : 1 ≤ rows) (h4 : rows ≤ 1073741824) (h5 : 0 ≤ row) (h6 : row < all) :
    Calls Tryz.prog 76 #[.int .i64 all, .int .i64 rows, .int .i64 row] w fun e w' => e = .returned (.int .i64 (topN all rows row)) ∧ w = w' := by
  go_enter Tryz.func76, Tryz.ntmps76
  go_wp2
  all_goals
    go_ret
    exact ⟨ret_int (by unfold topN; omega), rfl⟩

end Go.Proofs.YtkeainhjghdfcaaGreat

/- The chapter's example; the laws of chapter 28 that need no grid. -/
namespace Go.Proofs.YtkeainhjghdfcaaGreat
open Go.RowKit Go.ChangeShapes

def four : List Gl := [(⟨#[97]⟩, 1), (⟨#[98]⟩, 2), (⟨#[99]⟩, 2), (⟨#[100]⟩, 1)]
theorem topN_bd (all rows row : Int) (h3 : 1 ≤ rows) (h5 : 0 ≤ row) (h6 : row < all) : 0 ≤ topN all rows row ∧ topN all rows row ≤ row ∧ row - topN all rows row < rows ∧ (all ≤ rows → topN all rows row = 0) ∧ (rows < all → topN all rows row + rows ≤ all) := by
  unfold topN; omega

end Go.Proofs.YtkeainhjghdfcaaGreat

/- The law WrapApart: the walk. -/
namespace Go.Proofs.YtkeainhjghdfcaaGreat
open Go.RowKit Go.ChangeShapes

theorem apart (cols : Int) (hc : 2 ≤ cols) (l : List Gl) (ht : thin l) (k : Nat) (g : Gl) (hg : l[k]? = some g) :
    (itemAt cols l k).2 + g.2 ≤ cols ∧ 0 ≤ (itemAt cols l k).2 ∧ 0 ≤ (itemAt cols l k).1 ∧ (itemAt cols l k).1 ≤ k + 1 ∧
      (itemAt cols l (k + 1) = ((itemAt cols l k).1, (itemAt cols l k).2 + g.2) ∨ itemAt cols l (k + 1) = ((itemAt cols l k).1 + 1, 0) ∧ cols - 1 ≤ (itemAt cols l k).2 + g.2) := by
  have hk := (List.getElem?_eq_some_iff.1 hg).1
  obtain ⟨w1, w2⟩ := ht g (List.mem_of_getElem? hg)
  obtain ⟨q1, q2, q3, q4, q5⟩ := stAt_bd cols hc l ht k (by omega)
  have hit : itemAt cols l k = place cols (stAt cols l k) g.2 := by rw [← wdAt_of hg]; exact if_pos hk
  have hst : stAt cols l (k + 1) = ((itemAt cols l k).1, (itemAt cols l k).2 + g.2) := by rw [hit, ← wdAt_of hg]; rfl
  have hb : (itemAt cols l k).2 + g.2 ≤ cols ∧ 0 ≤ (itemAt cols l k).2 ∧ 0 ≤ (itemAt cols l k).1 ∧ (itemAt cols l k).1 ≤ k + 1 := by
    rw [hit]; unfold place; split <;> (refine ⟨?_, ?_, ?_, ?_⟩ <;> omega)
  refine ⟨hb.1, hb.2.1, hb.2.2.1, hb.2.2.2, ?_⟩
  generalize itemAt cols l k = p at *
  unfold itemAt
  rw [hst]
  split
  · rename_i h1
    have hg2 : l[k + 1]? = some l[k + 1] := List.getElem?_eq_getElem h1
    obtain ⟨v1, v2⟩ := ht l[k + 1] (List.getElem_mem _)
    rw [wdAt_of hg2]
    unfold place
    dsimp only
    split
    · exact .inr ⟨rfl, by omega⟩
    · exact .inl rfl
  · dsimp only
    split
    · exact .inr ⟨rfl, by omega⟩
    · exact .inl rfl

theorem getElem?_spots {cols : Int} {l : List Gl} (hc : 2 ≤ cols) {k : Nat} (hk : k ≤ l.length) : (spotsL cols l)[k]? = some (itemAt cols l k) := by
  unfold spotsL
  rw [if_neg (by omega), List.getElem?_map, List.getElem?_range (by omega)]
  rfl

end Go.Proofs.YtkeainhjghdfcaaGreat

/- The plain law of grids: rows of cells; loosening a cell, putting a glyph, erasing; what stays true of wide cells. No program here. -/
namespace Go.Proofs.YtkeainhjghdfcaaGreat

def blankC : Gl := (⟨#[32]⟩, 1)
def zeroC : Gl := (⟨#[]⟩, 0)
def cellAt (l : List Gl) (c : Nat) : Gl := l.getD c blankC
theorem cellAt_set (l : List Gl) (i : Nat) (x : Gl) (c : Nat) (hi : i < l.length) : cellAt (l.set i x) c = if c = i then x else cellAt l c := by
  unfold cellAt
  rw [List.getD_eq_getElem?_getD, List.getD_eq_getElem?_getD]
  by_cases h : c = i
  · subst h; rw [List.getElem?_set_self hi, if_pos rfl]; rfl
  · rw [List.getElem?_set_ne (by omega), if_neg h]
theorem cellAt_of {l : List Gl} {c : Nat} {x : Gl} (h : l[c]? = some x) : cellAt l c = x := by unfold cellAt; rw [List.getD_eq_getElem?_getD, h]; rfl
theorem get_cellAt {l : List Gl} {c : Nat} (h : c < l.length) : l[c]? = some (cellAt l c) := by unfold cellAt; rw [List.getD_eq_getElem?_getD, List.getElem?_eq_getElem h]; rfl

def looseRow (l : List Gl) (k : Nat) : List Gl :=
  (if (cellAt l k).2 = 0 then l.set (k - 1) blankC else if (cellAt l k).2 = 2 then l.set (k + 1) blankC else l).set k blankC
theorem looseRow_len (l : List Gl) (k : Nat) : (looseRow l k).length = l.length := by
  unfold looseRow; rw [List.length_set]; split
  · simp
  · split <;> simp

/-- what holds of a row -/
def fine (l : List Gl) (c : Nat) : Prop :=
  ((cellAt l c).2 = 0 ∧ (cellAt l c).1 = ⟨#[]⟩ ∧ 1 ≤ c ∧ (cellAt l (c - 1)).2 = 2) ∨ (cellAt l c).2 = 1 ∨ ((cellAt l c).2 = 2 ∧ c + 1 < l.length ∧ (cellAt l (c + 1)).2 = 0)
def wfRow (l : List Gl) : Prop := ∀ c, c < l.length → fine l c

theorem cellAt_loose {l : List Gl} (hw : wfRow l) {k : Nat} (hk : k < l.length) (c : Nat) :
    cellAt (looseRow l k) c = if c = k then blankC else if (cellAt l k).2 = 0 ∧ c + 1 = k then blankC else if (cellAt l k).2 = 2 ∧ c = k + 1 then blankC else cellAt l c := by
  unfold looseRow
  have hf := hw k hk
  unfold fine at hf
  rcases hf with ⟨h1, _, h2, _⟩ | h1 | ⟨h1, h2, _⟩
  · rw [if_pos h1, cellAt_set _ _ _ _ (by simpa using hk), cellAt_set _ _ _ _ (by omega)]
    by_cases hc : c = k
    · rw [if_pos hc, if_pos hc]
    · rw [if_neg hc, if_neg hc]
      by_cases h3 : c + 1 = k
      · rw [if_pos (by omega), if_pos ⟨h1, h3⟩]
      · rw [if_neg (by omega), if_neg (fun h => h3 h.2), if_neg (fun h => by omega)]
  · rw [if_neg (by omega), if_neg (by omega), cellAt_set _ _ _ _ hk]
    by_cases hc : c = k
    · rw [if_pos hc, if_pos hc]
    · rw [if_neg hc, if_neg hc, if_neg (fun h => by omega), if_neg (fun h => by omega)]
  · rw [if_neg (by omega), if_pos h1, cellAt_set _ _ _ _ (by simpa using hk), cellAt_set _ _ _ _ h2]
    by_cases hc : c = k
    · rw [if_pos hc, if_pos hc]
    · rw [if_neg hc, if_neg hc]
      by_cases h3 : c = k + 1
      · rw [if_pos h3, if_neg (fun h => by omega), if_pos ⟨h1, h3⟩]
      · rw [if_neg h3, if_neg (fun h => by omega), if_neg (fun h => h3 h.2)]

theorem blank_w : blankC.2 = 1 := rfl

theorem wf_loose {l : List Gl} (hw : wfRow l) {k : Nat} (hk : k < l.length) : wfRow (looseRow l k) := by
  intro c hc
  rw [looseRow_len] at hc
  have hl := looseRow_len l k
  have hat := cellAt_loose hw hk
  have hfk := hw k hk
  have hfc := hw c hc
  unfold fine at hfk hfc ⊢
  rw [hl]
  by_cases h1 : c = k
  · rw [hat c, if_pos h1]; exact .inr (.inl rfl)
  by_cases h2 : (cellAt l k).2 = 0 ∧ c + 1 = k
  · rw [hat c, if_neg h1, if_pos h2]; exact .inr (.inl rfl)
  by_cases h3 : (cellAt l k).2 = 2 ∧ c = k + 1
  · rw [hat c, if_neg h1, if_neg h2, if_pos h3]; exact .inr (.inl rfl)
  rw [hat c, if_neg h1, if_neg h2, if_neg h3]
  rcases hfc with ⟨a1, a2, a3, a4⟩ | a1 | ⟨a1, a2, a3⟩
  · refine .inl ⟨a1, a2, a3, ?_⟩
    rw [hat (c - 1)]
    rw [if_neg (fun e => by rw [e] at a4; exact h3 ⟨a4, by omega⟩), if_neg (fun e => by omega)]
    rw [if_neg]
    · exact a4
    · rintro ⟨e1, e2⟩
      rcases hfk with ⟨b1, _⟩ | b1 | ⟨_, _, b3⟩
      · omega
      · omega
      · rw [e2] at a4; omega
  · exact .inr (.inl a1)
  · refine .inr (.inr ⟨a1, a2, ?_⟩)
    rw [hat (c + 1)]
    rw [if_neg (fun e => by rw [e] at a3; exact h2 ⟨a3, e⟩)]
    rw [if_neg]
    · rw [if_neg (fun e => by omega)]
      exact a3
    · rintro ⟨e1, e2⟩
      rcases hfk with ⟨_, _, _, b4⟩ | b1 | ⟨b1, _⟩
      · rw [← e2, Nat.add_sub_cancel] at b4; omega
      · omega
      · omega

def putRow (l : List Gl) (k : Nat) (x : Gl) : List Gl :=
  if x.2 = 2 then ((looseRow (looseRow l k) (k + 1)).set (k + 1) zeroC).set k x else (looseRow l k).set k x
theorem putRow_len (l : List Gl) (k : Nat) (x : Gl) : (putRow l k x).length = l.length := by
  unfold putRow; split <;> simp [looseRow_len]

theorem wf_put {l : List Gl} (hw : wfRow l) {k : Nat} {x : Gl} (hk : k < l.length) (hx : x.2 = 1 ∨ x.2 = 2 ∧ k + 1 < l.length) : wfRow (putRow l k x) := by
  have hw1 := wf_loose hw hk
  have hl1 := looseRow_len l k
  have hb1 : cellAt (looseRow l k) k = blankC := by rw [cellAt_loose hw hk, if_pos rfl]
  rcases hx with hx | ⟨hx, hk1⟩
  · unfold putRow
    rw [if_neg (by omega)]
    generalize looseRow l k = m at *
    intro c hc
    rw [List.length_set] at hc
    have hf := hw1 c hc
    unfold fine at hf ⊢
    rw [List.length_set]
    by_cases h1 : c = k
    · subst h1; rw [cellAt_set _ _ _ _ (by omega), if_pos rfl]; exact .inr (.inl hx)
    · rw [cellAt_set _ _ _ _ (by omega), if_neg h1]
      rcases hf with ⟨a1, a2, a3, a4⟩ | a1 | ⟨a1, a2, a3⟩
      · refine .inl ⟨a1, a2, a3, ?_⟩
        rw [cellAt_set _ _ _ _ (by omega), if_neg (fun e => by rw [e, hb1, blank_w] at a4; omega)]
        exact a4
      · exact .inr (.inl a1)
      · refine .inr (.inr ⟨a1, a2, ?_⟩)
        rw [cellAt_set _ _ _ _ (by omega), if_neg (fun e => by rw [e, hb1, blank_w] at a3; omega)]
        exact a3
  · unfold putRow
    rw [if_pos hx]
    have hk2 : k + 1 < (looseRow l k).length := by omega
    have hw2 := wf_loose hw1 hk2
    have hl2 := looseRow_len (looseRow l k) (k + 1)
    have hb2 : cellAt (looseRow (looseRow l k) (k + 1)) (k + 1) = blankC := by rw [cellAt_loose hw1 hk2, if_pos rfl]
    have hb3 : cellAt (looseRow (looseRow l k) (k + 1)) k = blankC := by
      rw [cellAt_loose hw1 hk2, if_neg (by omega)]
      split
      · rfl
      · rw [if_neg (by omega), hb1]
    generalize looseRow (looseRow l k) (k + 1) = m at *
    have hat : ∀ c, cellAt ((m.set (k + 1) zeroC).set k x) c = if c = k then x else if c = k + 1 then zeroC else cellAt m c := by
      intro c; rw [cellAt_set _ _ _ _ (by rw [List.length_set]; omega), cellAt_set _ _ _ _ (by omega)]
    intro c hc
    have hc' : c < m.length := by simpa using hc
    have hf := hw2 c hc'
    unfold fine at hf ⊢
    simp only [List.length_set]
    by_cases h1 : c = k
    · subst h1
      rw [hat c, if_pos rfl, hat (c + 1), if_neg (by omega), if_pos rfl]
      exact .inr (.inr ⟨hx, by omega, rfl⟩)
    by_cases h2 : c = k + 1
    · subst h2
      rw [hat (k + 1), if_neg (by omega), if_pos rfl, Nat.add_sub_cancel, hat k, if_pos rfl]
      exact .inl ⟨rfl, rfl, by omega, hx⟩
    rw [hat c, if_neg h1, if_neg h2]
    rcases hf with ⟨a1, a2, a3, a4⟩ | a1 | ⟨a1, a2, a3⟩
    · refine .inl ⟨a1, a2, a3, ?_⟩
      rw [hat (c - 1), if_neg (fun e => by rw [e, hb3, blank_w] at a4; omega), if_neg (fun e => by rw [e, hb2, blank_w] at a4; omega)]
      exact a4
    · exact .inr (.inl a1)
    · refine .inr (.inr ⟨a1, a2, ?_⟩)
      rw [hat (c + 1), if_neg (fun e => by rw [e, hb3, blank_w] at a3; omega), if_neg (fun e => by rw [e, hb2, blank_w] at a3; omega)]
      exact a3

theorem wf_blank (n : Nat) : wfRow (List.replicate n blankC) := by
  intro c hc
  have h : cellAt (List.replicate n blankC) c = blankC := cellAt_of (by rw [List.getElem?_replicate, if_pos (by simpa using hc)])
  unfold fine
  rw [h]
  exact .inr (.inl rfl)

/-! ### Rows one behind the other -/
def shape (n m : Nat) (G : List (List Gl)) : Prop := G.length = n ∧ ∀ l ∈ G, l.length = m
theorem flat_at {m : Nat} : ∀ {G : List (List Gl)}, (∀ l ∈ G, l.length = m) → ∀ {r c : Nat} {l : List Gl}, G[r]? = some l → c < m → G.flatten[r * m + c]? = l[c]? := by
  intro G
  induction G with
  | nil => intro _ r c l h; simp at h
  | cons l0 G ih =>
    intro hG r c l hr hc
    have h0 := hG l0 List.mem_cons_self
    rw [List.flatten_cons]
    cases r with
    | zero =>
      simp at hr; subst hr
      rw [Nat.zero_mul, Nat.zero_add, List.getElem?_append_left (by omega)]
    | succ r =>
      rw [Nat.succ_mul, List.getElem?_append_right (by omega), h0, show r * m + m + c - m = r * m + c by omega]
      exact ih (fun l hl => hG l (List.mem_cons_of_mem _ hl)) (by simpa using hr) hc
theorem flat_set {m : Nat} : ∀ {G : List (List Gl)}, (∀ l ∈ G, l.length = m) → ∀ {r c : Nat} {l : List Gl} (x : Gl), G[r]? = some l → c < m → G.flatten.set (r * m + c) x = (G.set r (l.set c x)).flatten := by
  intro G
  induction G with
  | nil => intro _ r c l x h; simp at h
  | cons l0 G ih =>
    intro hG r c l x hr hc
    have h0 := hG l0 List.mem_cons_self
    rw [List.flatten_cons]
    cases r with
    | zero =>
      simp at hr; subst hr
      rw [Nat.zero_mul, Nat.zero_add, List.set_append_left _ _ (by omega), List.set_cons_zero, List.flatten_cons]
    | succ r =>
      rw [Nat.succ_mul, List.set_append_right _ _ (by omega), h0, show r * m + m + c - m = r * m + c by omega, List.set_cons_succ, List.flatten_cons]
      rw [ih (fun l hl => hG l (List.mem_cons_of_mem _ hl)) x (by simpa using hr) hc]
end Go.Proofs.YtkeainhjghdfcaaGreat

/- grid: one cell loosened. -/
namespace Go.Proofs.YtkeainhjghdfcaaGreat
open Go.RowKit

/-- p is a pointer to a grid of n rows and m columns, whose cells are xs; it lies in the blocks gb and lb. -/
structure GridAt (w : World) (gb lb n m cap : Nat) (xs : List Gl) : Prop where
  c0 : w.cell? ⟨gb, 0, none⟩ = some (.int .i64 n)
  c1 : w.cell? ⟨gb, 1, none⟩ = some (.int .i64 m)
  c2 : w.cell? ⟨gb, 2, none⟩ = some (.slice (some ⟨lb, 0, none⟩) (n * m) cap)
  ne : gb ≠ lb
  len : xs.length = n * m
  hcap : n * m ≤ cap
  capm : cap ≤ maxLen
  cells : ∀ j u, (xs.flatMap genc)[j]? = some u → w.cell? ⟨lb, j, none⟩ = some u
  free : ∀ j, w.frozen? ⟨lb, j, none⟩ = false

theorem GridAt.glt {w : World} {gb lb n m cap : Nat} {xs : List Gl} (h : GridAt w gb lb n m cap xs) : gb < w.heap.size := World.block_lt_of_cell? w _ h.c0
theorem GridAt.text {w : World} {gb lb n m cap : Nat} {xs : List Gl} (h : GridAt w gb lb n m cap xs) {k : Nat} {x : Gl} (hk : xs[k]? = some x) : w.cell? ⟨lb, k * 2, none⟩ = some (.string x.1) := by
  have := flat_get genc_len xs k x 0 _ hk rfl
  exact h.cells _ _ this
theorem GridAt.width {w : World} {gb lb n m cap : Nat} {xs : List Gl} (h : GridAt w gb lb n m cap xs) {k : Nat} {x : Gl} (hk : xs[k]? = some x) : w.cell? ⟨lb, k * 2 + 1, none⟩ = some (.int .i64 x.2) := by
  have := flat_get genc_len xs k x 1 _ hk rfl
  exact h.cells _ _ this
theorem GridAt.llt {w : World} {gb lb n m cap : Nat} {xs : List Gl} (h : GridAt w gb lb n m cap xs) {k : Nat} (hk : k < xs.length) : lb < w.heap.size :=
  World.block_lt_of_cell? w _ (h.text (List.getElem?_eq_getElem hk))

set_option maxHeartbeats 400000 in
theorem blank_any (w : World) : Calls Tryz.prog 33 #[] w fun e w' => e = .returned (.agg #[.string ⟨#[32]⟩, .int .i64 1]) ∧ w.alloc (.cells #[.string ⟨#[32]⟩, .int .i64 1] 48) = w' := by
  go_enter Tryz.func33, Tryz.ntmps33
  go_wp2
  exact bodyPost_ret (v := .agg #[.string ⟨#[32]⟩, .int .i64 1]) (by simp [results, Tryz.results33, go_sem]) rfl ⟨rfl, rfl⟩

theorem GridAt.same {w w' : World} {gb lb n m cap : Nat} {xs : List Gl} (h : GridAt w gb lb n m cap xs) (hg : w'.heap[gb]? = w.heap[gb]?) (hl : w'.heap[lb]? = w.heap[lb]?) : GridAt w' gb lb n m cap xs :=
  ⟨(World.cell?_of_block (a := ⟨gb, 0, none⟩) hg).trans h.c0, (World.cell?_of_block (a := ⟨gb, 1, none⟩) hg).trans h.c1, (World.cell?_of_block (a := ⟨gb, 2, none⟩) hg).trans h.c2, h.ne, h.len, h.hcap, h.capm,
    fun j u hu => (World.cell?_of_block (a := ⟨lb, j, none⟩) hl).trans (h.cells j u hu), fun j => (World.frozen?_of_block (a := ⟨lb, j, none⟩) hl).trans (h.free j)⟩

theorem GridAt.set {w : World} {gb lb n m cap : Nat} {xs : List Gl} (h : GridAt w gb lb n m cap xs) {k : Nat} (hk : k < xs.length) (x : Gl) :
    GridAt ((w.setCell ⟨lb, k * 2, none⟩ (.string x.1)).setCell ⟨lb, k * 2 + 1, none⟩ (.int .i64 x.2)) gb lb n m cap (xs.set k x) := by
  have hne : ∀ o p : Nat, (⟨lb, o, none⟩ : Addr) ≠ ⟨gb, p, none⟩ := by intro o p e; injection e with e1; exact h.ne e1.symm
  have hx := get_cellAt hk
  refine ⟨?_, ?_, ?_, h.ne, by rw [List.length_set]; exact h.len, h.hcap, h.capm, ?_, ?_⟩
  · rw [World.cell?_setCell_other _ _ _ _ (hne _ _), World.cell?_setCell_other _ _ _ _ (hne _ _)]; exact h.c0
  · rw [World.cell?_setCell_other _ _ _ _ (hne _ _), World.cell?_setCell_other _ _ _ _ (hne _ _)]; exact h.c1
  · rw [World.cell?_setCell_other _ _ _ _ (hne _ _), World.cell?_setCell_other _ _ _ _ (hne _ _)]; exact h.c2
  · intro j u hu
    obtain ⟨i, y, hy, q, hq, rfl, hqu⟩ := flat_index genc_len _ j u hu
    by_cases hik : i = k
    · subst hik
      rw [List.getElem?_set_self hk] at hy
      obtain rfl : x = y := by simpa using hy
      rcases (show q = 0 ∨ q = 1 by omega) with rfl | rfl
      · rw [World.cell?_setCell_other _ _ _ _ (by intro e; injection e with _ e2; omega), Nat.add_zero, World.cell?_setCell_same' _ _ _ (by rw [h.text hx]; rfl)]
        exact hqu
      · rw [World.cell?_setCell_same' _ _ _ (by rw [World.cell?_setCell_other _ _ _ _ (by intro e; injection e with _ e2; omega), h.width hx]; rfl)]
        exact hqu
    · rw [List.getElem?_set_ne (by omega)] at hy
      rw [World.cell?_setCell_other _ _ _ _ (by intro e; injection e with _ e2; omega), World.cell?_setCell_other _ _ _ _ (by intro e; injection e with _ e2; omega)]
      exact h.cells _ _ (flat_get genc_len xs i y q u hy hqu)
  · intro j
    rw [World.frozen?_setCell, World.frozen?_setCell]
    exact h.free j

/-- The world behind 'g.l[k] = x', blocks laid and draws beside it. -/
theorem GridAt.put {w : World} {gb lb n m cap : Nat} {xs : List Gl} (h : GridAt w gb lb n m cap xs) {k : Nat} (hk : k < xs.length) (x : Gl) (o : Obj) :
    GridAt ((((w.setCell ⟨lb, k * 2, none⟩ (.string x.1)).setCell ⟨lb, k * 2 + 1, none⟩ (.int .i64 x.2)).alloc o).drew) gb lb n m cap (xs.set k x) ∧
    w.grownBy ((((w.setCell ⟨lb, k * 2, none⟩ (.string x.1)).setCell ⟨lb, k * 2 + 1, none⟩ (.int .i64 x.2)).alloc o).drew) (some lb) := by
  have hg := h.glt
  have hl := h.llt hk
  constructor
  · refine (h.set hk x).same ?_ ?_
    · exact Below.heap_alloc _ _ _ (by simpa using hg)
    · exact Below.heap_alloc _ _ _ (by simpa using hl)
  · refine ⟨rfl, rfl, rfl, by simp, fun j hj hne => ?_⟩
    have h1 : j ≠ lb := fun e => hne (by rw [e])
    exact ((Below.heap_alloc _ _ _ (by simpa using hj)).trans (Below.heap_setCell _ _ _ _ h1)).trans (Below.heap_setCell _ _ _ _ h1)

/-- The same, no block beside it. -/
theorem GridAt.put0 {w : World} {gb lb n m cap : Nat} {xs : List Gl} (h : GridAt w gb lb n m cap xs) {k : Nat} (hk : k < xs.length) (x : Gl) :
    GridAt (((w.setCell ⟨lb, k * 2, none⟩ (.string x.1)).setCell ⟨lb, k * 2 + 1, none⟩ (.int .i64 x.2)).drew) gb lb n m cap (xs.set k x) ∧
    w.grownBy (((w.setCell ⟨lb, k * 2, none⟩ (.string x.1)).setCell ⟨lb, k * 2 + 1, none⟩ (.int .i64 x.2)).drew) (some lb) := by
  constructor
  · exact (h.set hk x).same rfl rfl
  · refine ⟨rfl, rfl, rfl, by simp, fun j hj hne => ?_⟩
    have h1 : j ≠ lb := fun e => hne (by rw [e])
    exact (Below.heap_setCell _ _ _ _ h1).trans (Below.heap_setCell _ _ _ _ h1)

theorem grown_trans {w w1 w2 : World} {r : Option Nat} (h : w.grownBy w1 r) (k : w1.grownBy w2 r) : w.grownBy w2 r :=
  ⟨k.os.trans h.os, k.tape.trans h.tape, k.output.trans h.output, Nat.le_trans h.size k.size, fun j hj hne => (k.block j (Nat.lt_of_lt_of_le hj h.size) hne).trans (h.block j hj hne)⟩

/-- What a region 'g.l[j] = Blank()' asks of the world at hand. -/
structure GdFacts (w : World) (gb lb n m cap : Nat) (k : Nat) (t : ByteArray) (d : Int) : Prop where
  c2 : w.cell? ⟨gb, 2, none⟩ = some (.slice (some ⟨lb, 0, none⟩) (n * m) cap)
  t0 : w.cell? ⟨lb, k * 2, none⟩ = some (.string t)
  t1 : w.cell? ⟨lb, k * 2 + 1, none⟩ = some (.int .i64 d)
  f0 : w.frozen? ⟨lb, k * 2, none⟩ = false
  f1 : w.frozen? ⟨lb, k * 2 + 1, none⟩ = false
  lb1 : lb < w.heap.size
  gb1 : gb < w.heap.size
theorem GridAt.facts {w : World} {gb lb n m cap : Nat} {xs : List Gl} (h : GridAt w gb lb n m cap xs) {k : Nat} (hk : k < xs.length) : GdFacts w gb lb n m cap k (cellAt xs k).1 (cellAt xs k).2 :=
  ⟨h.c2, h.text (get_cellAt hk), h.width (get_cellAt hk), h.free _, h.free _, h.llt hk, h.glt⟩

set_option maxRecDepth 100000 in
set_option maxHeartbeats 1000000 in
theorem loose_one (gb lb n m cap k : Nat) (xs : List Gl) (w : World) (hG : GridAt w gb lb n m cap xs) (hk : k < xs.length) (h1 : (cellAt xs k).2 = 1) :
    Calls Tryz.prog 103 #[.pointer (some ⟨gb, 0, none⟩), .int .i64 k] w fun e w' => e = .returned (.tuple #[]) ∧ w.grownBy w' (some lb) ∧ GridAt w' gb lb n m cap (xs.set k blankC) := by
  obtain ⟨c2, t0, t1, f0, f1, hlb, hgl⟩ := hG.facts hk
  rw [h1] at t1
  have hlen := hG.len
  have hk1 : (k : Int) < ((n * m : Nat) : Int) := by omega
  have hne : ¬ gb = lb := hG.ne
  have hne' : ¬ lb = gb := fun e => hG.ne e.symm
  have hk0 : (0 : Int) ≤ (k : Int) := by omega
  have hk2 : (k : Int) < (n : Int) * (m : Int) := by rw [← Int.natCast_mul]; exact hk1
  go_enter Tryz.func103, Tryz.ntmps103
  go_wp2
  go_region_held3 (fun w' => w'.cell? ⟨gb, 2, none⟩ = some (.slice (some ⟨lb, 0, none⟩) (n * m) cap)) (go_keep) (first | (go_at_call 33; refine (blank_any _).mono ?_; rintro e w' ⟨rfl, rfl⟩))
  go_wp2
  go_end0
  exact ⟨rfl, (hG.put hk blankC _).2, (hG.put hk blankC _).1⟩

set_option maxRecDepth 100000 in
set_option maxHeartbeats 1000000 in
theorem loose_two (gb lb n m cap k : Nat) (xs : List Gl) (w : World) (hG : GridAt w gb lb n m cap xs) (hk : k + 1 < xs.length) (hsz : n * m ≤ 1073741824) (h1 : (cellAt xs k).2 = 2) :
    Calls Tryz.prog 103 #[.pointer (some ⟨gb, 0, none⟩), .int .i64 k] w fun e w' => e = .returned (.tuple #[]) ∧ w.grownBy w' (some lb) ∧ GridAt w' gb lb n m cap ((xs.set (k + 1) blankC).set k blankC) := by
  obtain ⟨c2, t0, t1, f0, f1, hlb, hgl⟩ := hG.facts (k := k) (by omega)
  obtain ⟨_, s0, s1, r0, r1, _, _⟩ := hG.facts (k := k + 1) hk
  rw [h1] at t1
  have hlen := hG.len
  have hk1 : (k : Int) < ((n * m : Nat) : Int) := by omega
  have hj1 : (k : Int) + 1 < ((n * m : Nat) : Int) := by omega
  have hne : ¬ gb = lb := hG.ne
  have hne' : ¬ lb = gb := fun e => hG.ne e.symm
  have hk0 : (0 : Int) ≤ (k : Int) := by omega
  have hj0 : (0 : Int) ≤ (k : Int) + 1 := by omega
  have hk2 : (k : Int) < (n : Int) * (m : Int) := by rw [← Int.natCast_mul]; exact hk1
  have hj2 : (k : Int) + 1 < (n : Int) * (m : Int) := by rw [← Int.natCast_mul]; exact hj1
  have hj3 : ((k : Int) + 1).toNat = k + 1 := by omega
  have e1 := IntWalk.i64_in ((k : Int) + 1) (by omega)
  go_enter Tryz.func103, Tryz.ntmps103
  go_wp2
  go_region_held3 (fun w' => w'.cell? ⟨gb, 2, none⟩ = some (.slice (some ⟨lb, 0, none⟩) (n * m) cap)) (go_keep) (first | (go_at_call 33; refine (blank_any _).mono ?_; rintro e w' ⟨rfl, rfl⟩))
  have hp := hG.put (k := k + 1) (by omega) blankC (.cells #[.string ⟨#[32]⟩, .int .i64 1] 48)
  dsimp only [blankC] at hp
  generalize ((((w.setCell ⟨lb, (k + 1) * 2, none⟩ (Value.string ⟨#[32]⟩)).setCell ⟨lb, (k + 1) * 2 + 1, none⟩ (Value.int .i64 1)).alloc (Obj.cells #[Value.string ⟨#[32]⟩, Value.int .i64 1] 48)).drew) = W1 at hp ⊢
  obtain ⟨hG1, hg1⟩ := hp
  have hG1' : GridAt W1 gb lb n m cap (xs.set (k + 1) blankC) := hG1
  obtain ⟨d2, u0, u1, v0, v1, hlb1, hgl1⟩ := hG1'.facts (k := k) (by rw [List.length_set]; omega)
  clear c2 t0 t1 f0 f1 s0 s1 r0 r1 hG1
  go_wp2
  go_region_held3 (fun w' => w'.cell? ⟨gb, 2, none⟩ = some (.slice (some ⟨lb, 0, none⟩) (n * m) cap)) (go_keep) (first | (go_at_call 33; refine (blank_any _).mono ?_; rintro e w' ⟨rfl, rfl⟩))
  go_wp2
  go_end0
  exact ⟨rfl, grown_trans hg1 (hG1'.put (by rw [List.length_set]; omega) blankC _).2, (hG1'.put (by rw [List.length_set]; omega) blankC _).1⟩

set_option maxRecDepth 100000 in
set_option maxHeartbeats 1000000 in
theorem loose_zero (gb lb n m cap k : Nat) (xs : List Gl) (w : World) (hG : GridAt w gb lb n m cap xs) (hk : k < xs.length) (hk9 : 1 ≤ k) (hsz : n * m ≤ 1073741824) (h1 : (cellAt xs k).2 = 0) :
    Calls Tryz.prog 103 #[.pointer (some ⟨gb, 0, none⟩), .int .i64 k] w fun e w' => e = .returned (.tuple #[]) ∧ w.grownBy w' (some lb) ∧ GridAt w' gb lb n m cap ((xs.set (k - 1) blankC).set k blankC) := by
  obtain ⟨c2, t0, t1, f0, f1, hlb, hgl⟩ := hG.facts (k := k) (by omega)
  obtain ⟨_, s0, s1, r0, r1, _, _⟩ := hG.facts (k := k - 1) (by omega)
  rw [h1] at t1
  have hlen := hG.len
  have hk1 : (k : Int) < ((n * m : Nat) : Int) := by omega
  have hj1 : (k : Int) - 1 < ((n * m : Nat) : Int) := by omega
  have hne : ¬ gb = lb := hG.ne
  have hne' : ¬ lb = gb := fun e => hG.ne e.symm
  have hk0 : (0 : Int) ≤ (k : Int) := by omega
  have hj0 : (0 : Int) ≤ (k : Int) - 1 := by omega
  have hj5 : (1 : Int) ≤ (k : Int) := by omega
  have hk2 : (k : Int) < (n : Int) * (m : Int) := by rw [← Int.natCast_mul]; exact hk1
  have hj2 : (k : Int) - 1 < (n : Int) * (m : Int) := by rw [← Int.natCast_mul]; exact hj1
  have hj3 : ((k : Int) - 1).toNat = k - 1 := by omega
  have e1 := IntWalk.i64_in ((k : Int) - 1) (by omega)
  go_enter Tryz.func103, Tryz.ntmps103
  go_wp2
  go_region_held3 (fun w' => w'.cell? ⟨gb, 2, none⟩ = some (.slice (some ⟨lb, 0, none⟩) (n * m) cap)) (go_keep) (first | (go_at_call 33; refine (blank_any _).mono ?_; rintro e w' ⟨rfl, rfl⟩))
  have hp := hG.put (k := k - 1) (by omega) blankC (.cells #[.string ⟨#[32]⟩, .int .i64 1] 48)
  dsimp only [blankC] at hp
  generalize ((((w.setCell ⟨lb, (k - 1) * 2, none⟩ (Value.string ⟨#[32]⟩)).setCell ⟨lb, (k - 1) * 2 + 1, none⟩ (Value.int .i64 1)).alloc (Obj.cells #[Value.string ⟨#[32]⟩, Value.int .i64 1] 48)).drew) = W1 at hp ⊢
  obtain ⟨hG1, hg1⟩ := hp
  have hG1' : GridAt W1 gb lb n m cap (xs.set (k - 1) blankC) := hG1
  obtain ⟨d2, u0, u1, v0, v1, hlb1, hgl1⟩ := hG1'.facts (k := k) (by rw [List.length_set]; omega)
  clear c2 t0 t1 f0 f1 s0 s1 r0 r1 hG1
  go_wp2
  go_region_held3 (fun w' => w'.cell? ⟨gb, 2, none⟩ = some (.slice (some ⟨lb, 0, none⟩) (n * m) cap)) (go_keep) (first | (go_at_call 33; refine (blank_any _).mono ?_; rintro e w' ⟨rfl, rfl⟩))
  go_wp2
  go_end0
  exact ⟨rfl, grown_trans hg1 (hG1'.put (by rw [List.length_set]; omega) blankC _).2, (hG1'.put (by rw [List.length_set]; omega) blankC _).1⟩

end Go.Proofs.YtkeainhjghdfcaaGreat

/- grid: is a cell there; a cell loosened, by rows. -/
namespace Go.Proofs.YtkeainhjghdfcaaGreat
open Go.RowKit

set_option maxRecDepth 100000 in
set_option maxHeartbeats 400000 in
theorem in_yes (gb n m : Nat) (r c : Int) (w : World) (c0 : w.cell? ⟨gb, 0, none⟩ = some (.int .i64 n)) (c1 : w.cell? ⟨gb, 1, none⟩ = some (.int .i64 m)) (h1 : 0 ≤ r) (h2 : r < n) (h3 : 0 ≤ c) (h4 : c < m) :
    Calls Tryz.prog 84 #[.pointer (some ⟨gb, 0, none⟩), .int .i64 r, .int .i64 c] w fun e w' => e = .returned (.bool true) ∧ w = w' := by
  go_enter Tryz.func84, Tryz.ntmps84
  go_wp2
  go_ret
  exact ⟨rfl, rfl⟩

set_option maxRecDepth 100000 in
set_option maxHeartbeats 400000 in
theorem in_no (gb n m : Nat) (r c : Int) (w : World) (c0 : w.cell? ⟨gb, 0, none⟩ = some (.int .i64 n)) (c1 : w.cell? ⟨gb, 1, none⟩ = some (.int .i64 m)) (h : ¬ (0 ≤ r ∧ r < n ∧ 0 ≤ c ∧ c < m)) :
    Calls Tryz.prog 84 #[.pointer (some ⟨gb, 0, none⟩), .int .i64 r, .int .i64 c] w fun e w' => e = .returned (.bool false) ∧ w = w' := by
  have h' : r < 0 ∨ (0 ≤ r ∧ ¬ r < n) ∨ (0 ≤ r ∧ r < n ∧ c < 0) ∨ (0 ≤ r ∧ r < n ∧ 0 ≤ c ∧ ¬ c < m) := by omega
  clear h
  rcases h' with h1 | ⟨h1, h2⟩ | ⟨h1, h2, h3⟩ | ⟨h1, h2, h3, h4⟩
  all_goals
    go_enter Tryz.func84, Tryz.ntmps84
    go_wp2
    go_ret
    exact ⟨rfl, rfl⟩

/-- A grid by rows: as the document has it. -/
structure GridG (w : World) (gb lb m cap : Nat) (G : List (List Gl)) : Prop where
  grid : GridAt w gb lb G.length m cap G.flatten
  shape : ∀ l ∈ G, l.length = m
  wf : ∀ l ∈ G, wfRow l
  small : G.length * m ≤ 1073741824

theorem GridG.row {w : World} {gb lb m cap : Nat} {G : List (List Gl)} (h : GridG w gb lb m cap G) {r : Nat} {l : List Gl} (hr : G[r]? = some l) : l.length = m ∧ wfRow l ∧ r < G.length :=
  ⟨h.shape l (List.mem_of_getElem? hr), h.wf l (List.mem_of_getElem? hr), (List.getElem?_eq_some_iff.1 hr).1⟩
theorem GridG.index {w : World} {gb lb m cap : Nat} {G : List (List Gl)} (h : GridG w gb lb m cap G) {r c : Nat} {l : List Gl} (hr : G[r]? = some l) (hc : c < m) : r * m + c < G.flatten.length ∧ cellAt G.flatten (r * m + c) = cellAt l c := by
  obtain ⟨h1, _, h2⟩ := h.row hr
  have hf := (flat_at h.shape hr hc).trans (get_cellAt (l := l) (by omega))
  exact ⟨(List.getElem?_eq_some_iff.1 hf).1, cellAt_of hf⟩
theorem set_shape {m : Nat} {G : List (List Gl)} (h : ∀ l ∈ G, l.length = m) {r : Nat} {l : List Gl} (hl : l.length = m) : ∀ k ∈ G.set r l, k.length = m := by
  intro k hk
  rcases List.mem_or_eq_of_mem_set hk with h1 | rfl
  · exact h k h1
  · exact hl
theorem set_wf {G : List (List Gl)} (h : ∀ l ∈ G, wfRow l) {r : Nat} {l : List Gl} (hl : wfRow l) : ∀ k ∈ G.set r l, wfRow k := by
  intro k hk
  rcases List.mem_or_eq_of_mem_set hk with h1 | rfl
  · exact h k h1
  · exact hl
theorem GridG.mk' {w : World} {gb lb m cap : Nat} {G : List (List Gl)} (h : GridG w gb lb m cap G) {w' : World} {r : Nat} {l : List Gl} (hg : GridAt w' gb lb G.length m cap (G.set r l).flatten) (hl : l.length = m) (hw : wfRow l) : GridG w' gb lb m cap (G.set r l) :=
  ⟨by rw [List.length_set]; exact hg, set_shape h.shape hl, set_wf h.wf hw, by rw [List.length_set]; exact h.small⟩

/-- loose, by rows -/
theorem loose_G (gb lb m cap r c : Nat) (G : List (List Gl)) (l : List Gl) (w : World) (hG : GridG w gb lb m cap G) (hr : G[r]? = some l) (hc : c < m) :
    Calls Tryz.prog 103 #[.pointer (some ⟨gb, 0, none⟩), .int .i64 (r * m + c : Nat)] w fun e w' => e = .returned (.tuple #[]) ∧ w.grownBy w' (some lb) ∧ GridG w' gb lb m cap (G.set r (looseRow l c)) := by
  obtain ⟨hl, hw, hrl⟩ := hG.row hr
  obtain ⟨hi, hat⟩ := hG.index hr hc
  have hcl : c < l.length := by omega
  have hwl := wf_loose hw hcl
  have hll := looseRow_len l c
  have hfin := hw c hcl
  unfold fine at hfin
  rcases hfin with ⟨h1, _, h2, _⟩ | h1 | ⟨h1, h2, _⟩
  · refine (loose_zero gb lb G.length m cap (r * m + c) G.flatten w hG.grid hi (by omega) hG.small (by rw [hat]; exact h1)).mono ?_
    rintro e w' ⟨rfl, hg, hG'⟩
    refine ⟨rfl, hg, hG.mk' ?_ (by omega) hwl⟩
    have e1 : r * m + c - 1 = r * m + (c - 1) := by omega
    rw [e1, flat_set hG.shape _ hr (by omega), flat_set (set_shape hG.shape (by rw [List.length_set]; exact hl)) _ (List.getElem?_set_self hrl) hc, List.set_set] at hG'
    have : looseRow l c = (l.set (c - 1) blankC).set c blankC := by unfold looseRow; rw [if_pos h1]
    rw [this]; exact hG'
  · refine (loose_one gb lb G.length m cap (r * m + c) G.flatten w hG.grid hi (by rw [hat]; exact h1)).mono ?_
    rintro e w' ⟨rfl, hg, hG'⟩
    refine ⟨rfl, hg, hG.mk' ?_ (by omega) hwl⟩
    rw [flat_set hG.shape _ hr hc] at hG'
    have : looseRow l c = l.set c blankC := by unfold looseRow; rw [if_neg (by omega), if_neg (by omega)]
    rw [this]; exact hG'
  · have hc1 : c + 1 < m := by omega
    refine (loose_two gb lb G.length m cap (r * m + c) G.flatten w hG.grid (hG.index hr hc1).1 hG.small (by rw [hat]; exact h1)).mono ?_
    rintro e w' ⟨rfl, hg, hG'⟩
    refine ⟨rfl, hg, hG.mk' ?_ (by omega) hwl⟩
    have e1 : r * m + c + 1 = r * m + (c + 1) := by omega
    rw [e1, flat_set hG.shape _ hr hc1, flat_set (set_shape hG.shape (by rw [List.length_set]; exact hl)) _ (List.getElem?_set_self hrl) hc, List.set_set] at hG'
    have : looseRow l c = (l.set (c + 1) blankC).set c blankC := by unfold looseRow; rw [if_neg (by omega), if_pos h1]
    rw [this]; exact hG'

theorem GridG.grown {w w' : World} {gb lb m cap : Nat} {G : List (List Gl)} (h : GridG w gb lb m cap G) (hg : w'.heap[gb]? = w.heap[gb]?) (hl : w'.heap[lb]? = w.heap[lb]?) : GridG w' gb lb m cap G := ⟨h.grid.same hg hl, h.shape, h.wf, h.small⟩
end Go.Proofs.YtkeainhjghdfcaaGreat

/- grid.Put. -/
namespace Go.Proofs.YtkeainhjghdfcaaGreat
open Go.RowKit

theorem grown_cell {w w' : World} {r : Nat} {a : Addr} {v : Value} (h : w.grownBy w' (some r)) (hc : w.cell? a = some v) (hne : a.block ≠ r) : w'.cell? a = some v := h.cell hc (by simpa using hne)

/-- loose's contract, its index as the walk has it -/
theorem loose_Gi (gb lb m cap r c q : Nat) (G : List (List Gl)) (l : List Gl) (w : World) (hG : GridG w gb lb m cap G) (hr : G[r]? = some l) (hc : c < m) (hq : q = r * m) :
    Calls Tryz.prog 103 #[.pointer (some ⟨gb, 0, none⟩), .int .i64 ((q : Int) + (c : Int))] w fun e w' => e = .returned (.tuple #[]) ∧ w.grownBy w' (some lb) ∧ GridG w' gb lb m cap (G.set r (looseRow l c)) := by
  have h := loose_G gb lb m cap r c G l w hG hr hc
  rw [← hq, Int.natCast_add] at h
  exact h

theorem loose_Gj (gb lb m cap r c q : Nat) (G : List (List Gl)) (l : List Gl) (w : World) (hG : GridG w gb lb m cap G) (hr : G[r]? = some l) (hc : c + 1 < m) (hq : q = r * m) :
    Calls Tryz.prog 103 #[.pointer (some ⟨gb, 0, none⟩), .int .i64 ((q : Int) + (c : Int) + 1)] w fun e w' => e = .returned (.tuple #[]) ∧ w.grownBy w' (some lb) ∧ GridG w' gb lb m cap (G.set r (looseRow l (c + 1))) := by
  have h := loose_Gi gb lb m cap r (c + 1) q G l w hG hr hc hq
  rw [Int.natCast_add, ← Int.add_assoc] at h
  exact h

set_option maxRecDepth 100000 in
set_option maxHeartbeats 1000000 in
theorem put_one (gb lb m cap r c : Nat) (G : List (List Gl)) (l : List Gl) (x : Gl) (w : World) (hG : GridG w gb lb m cap G) (hr : G[r]? = some l) (hc : c < m) (hx : x.2 = 1) :
    Calls Tryz.prog 63 #[.pointer (some ⟨gb, 0, none⟩), .int .i64 r, .int .i64 c, .agg #[.string x.1, .int .i64 x.2]] w fun e w' => e = .returned (.bool true) ∧ w.grownBy w' (some lb) ∧ GridG w' gb lb m cap (G.set r (putRow l c x)) := by
  obtain ⟨hl, hw, hrl⟩ := hG.row hr
  obtain ⟨t, d⟩ := x
  dsimp only at hx ⊢
  subst hx
  obtain ⟨q, hq⟩ : ∃ q, q = r * m := ⟨_, rfl⟩
  have hqi : (r : Int) * (m : Int) = (q : Int) := by rw [hq, Int.natCast_mul]
  have hix := (hG.index hr hc).1
  have hsm := hG.small
  have hln := hG.grid.len
  rw [← hq] at hix
  have hgl := hG.grid.glt
  have hll := hG.grid.llt hix
  have c0 := hG.grid.c0
  have c1 := hG.grid.c1
  have hne : ¬ gb = lb := hG.grid.ne
  have hne' : ¬ lb = gb := fun e => hG.grid.ne e.symm
  have hput : putRow l c (t, 1) = (looseRow l c).set c (t, 1) := by unfold putRow; rw [if_neg (show ¬ (1 : Int) = 2 by decide)]
  have HP := Lib.hid hput
  have hGs := hG.shape
  have hGw := hG.wf
  have hwp : wfRow (putRow l c (t, 1)) := wf_put hw (by omega) (.inl rfl)
  have HQ := Lib.hid hq
  clear hq hput
  go_enter Tryz.func63, Tryz.ntmps63
  go_wp2_with (first | (go_at_call 84; refine (in_yes gb G.length m _ _ _ (by go_simp) (by go_simp) (by omega) (by omega) (by omega) (by omega)).mono ?_; rintro e w' ⟨rfl, rfl⟩))
  have hGx : GridG (w.alloc (.cells #[.string t, .int .i64 1] 97)) gb lb m cap G := hG.grown (Below.heap_alloc _ _ _ hgl) (Below.heap_alloc _ _ _ hll)
  refine (loose_Gi gb lb m cap r c q G l _ hGx hr hc HQ.out).mono ?_
  rintro e w2 ⟨rfl, hg2, hG2⟩
  have x0 : w2.cell? ⟨w.heap.size, 0, none⟩ = some (.string t) := grown_cell hg2 (by go_simp) (by show w.heap.size ≠ lb; omega)
  have x1 : w2.cell? ⟨w.heap.size, 1, none⟩ = some (.int .i64 1) := grown_cell hg2 (by go_simp) (by show w.heap.size ≠ lb; omega)
  have hgw : w.grownBy w2 (some lb) := ⟨hg2.os, hg2.tape, hg2.output, Nat.le_trans (by simp) hg2.size, fun j hj hn => (hg2.block j (by simp; omega) hn).trans (Below.heap_alloc _ _ _ hj)⟩
  have hr2 : (G.set r (looseRow l c))[r]? = some (looseRow l c) := List.getElem?_set_self hrl
  have hix2 := (hG2.index hr2 hc).1
  rw [← HQ.out] at hix2
  obtain ⟨d2, s0, s1, v0, v1, hlb2, hgb2⟩ := hG2.grid.facts hix2
  rw [List.length_set] at d2
  have hk1 : (q : Int) + (c : Int) < ((G.length * m : Nat) : Int) := by omega
  have hk0 : (0 : Int) ≤ (q : Int) + (c : Int) := by omega
  have hk2 : (q : Int) + (c : Int) < (G.length : Int) * (m : Int) := by rw [← Int.natCast_mul]; exact hk1
  have hk3 : ((q : Int) + (c : Int)).toNat = q + c := by omega
  have hnx : ¬ w.heap.size = lb := by omega
  have hnx' : ¬ lb = w.heap.size := by omega
  clear hG hGx hg2 hw hix hqi c0 c1
  go_wp2
  go_region_held3 (fun w' => w'.cell? ⟨gb, 2, none⟩ = some (.slice (some ⟨lb, 0, none⟩) (G.length * m) cap) ∧ w'.cell? ⟨w.heap.size, 0, none⟩ = some (.string t) ∧ w'.cell? ⟨w.heap.size, 1, none⟩ = some (.int .i64 1)) (go_keep) (first | fail)
  go_wp2
  go_ret
  have hp := hG2.grid.put0 hix2 (t, 1)
  refine ⟨rfl, grown_trans hgw hp.2, ?_⟩
  rw [HP.out]
  have hsh : ∀ k ∈ G.set r (looseRow l c), k.length = m := set_shape hGs (by rw [looseRow_len]; exact hl)
  have h3 := hp.1
  rw [HQ.out, flat_set hsh _ hr2 hc, List.set_set, List.length_set] at h3
  rw [HQ.out]
  exact ⟨by rw [List.length_set]; exact h3, set_shape hGs (by rw [List.length_set, looseRow_len]; exact hl), set_wf hGw (by rw [← HP.out]; exact hwp), by rw [List.length_set]; exact hsm⟩
set_option maxRecDepth 100000 in
set_option maxHeartbeats 1000000 in
theorem put_two (gb lb m cap r c : Nat) (G : List (List Gl)) (l : List Gl) (x : Gl) (w : World) (hG : GridG w gb lb m cap G) (hr : G[r]? = some l) (hc0 : c + 1 < m) (hx : x.2 = 2) :
    Calls Tryz.prog 63 #[.pointer (some ⟨gb, 0, none⟩), .int .i64 r, .int .i64 c, .agg #[.string x.1, .int .i64 x.2]] w fun e w' => e = .returned (.bool true) ∧ w.grownBy w' (some lb) ∧ GridG w' gb lb m cap (G.set r (putRow l c x)) := by
  have hc : c < m := by omega
  obtain ⟨hl, hw, hrl⟩ := hG.row hr
  obtain ⟨t, d⟩ := x
  dsimp only at hx ⊢
  subst hx
  obtain ⟨q, hq⟩ : ∃ q, q = r * m := ⟨_, rfl⟩
  have hqi : (r : Int) * (m : Int) = (q : Int) := by rw [hq, Int.natCast_mul]
  have hix := (hG.index hr hc).1
  have hsm := hG.small
  have hln := hG.grid.len
  rw [← hq] at hix
  have hgl := hG.grid.glt
  have hll := hG.grid.llt hix
  have c0 := hG.grid.c0
  have c1 := hG.grid.c1
  have hne : ¬ gb = lb := hG.grid.ne
  have hne' : ¬ lb = gb := fun e => hG.grid.ne e.symm
  have hput : putRow l c (t, 2) = ((looseRow (looseRow l c) (c + 1)).set (c + 1) zeroC).set c (t, 2) := by unfold putRow; rw [if_pos rfl]
  have HP := Lib.hid hput
  have hGs := hG.shape
  have hGw := hG.wf
  have hwp : wfRow (putRow l c (t, 2)) := wf_put hw (by omega) (.inr ⟨rfl, by omega⟩)
  have HQ := Lib.hid hq
  clear hq hput
  go_enter Tryz.func63, Tryz.ntmps63
  go_wp2_with (first | (go_at_call 84; refine (in_yes gb G.length m _ _ _ (by go_simp) (by go_simp) (by omega) (by omega) (by omega) (by omega)).mono ?_; rintro e w' ⟨rfl, rfl⟩))
  have hGx : GridG (w.alloc (.cells #[.string t, .int .i64 2] 97)) gb lb m cap G := hG.grown (Below.heap_alloc _ _ _ hgl) (Below.heap_alloc _ _ _ hll)
  refine (loose_Gi gb lb m cap r c q G l _ hGx hr hc HQ.out).mono ?_
  rintro e w2 ⟨rfl, hg2, hG2⟩
  have x0 : w2.cell? ⟨w.heap.size, 0, none⟩ = some (.string t) := grown_cell hg2 (by go_simp) (by show w.heap.size ≠ lb; omega)
  have x1 : w2.cell? ⟨w.heap.size, 1, none⟩ = some (.int .i64 2) := grown_cell hg2 (by go_simp) (by show w.heap.size ≠ lb; omega)
  have hgw : w.grownBy w2 (some lb) := ⟨hg2.os, hg2.tape, hg2.output, Nat.le_trans (by simp) hg2.size, fun j hj hn => (hg2.block j (by simp; omega) hn).trans (Below.heap_alloc _ _ _ hj)⟩
  have hr2 : (G.set r (looseRow l c))[r]? = some (looseRow l c) := List.getElem?_set_self hrl
  have hix2 := (hG2.index hr2 hc).1
  rw [← HQ.out] at hix2
  have hqc : (q : Int) + (c : Int) + 1 ≤ 1073741824 := by omega
  clear hix hqi
  have hlb2 := hG2.grid.llt hix2
  have hgb2 := hG2.grid.glt
  go_wp2_with fail
  refine (loose_Gj gb lb m cap r c q _ _ _ hG2 hr2 hc0 HQ.out).mono ?_
  rintro e w3 ⟨rfl, hg3, hG3⟩
  rw [List.set_set] at hG3
  have y0 : w3.cell? ⟨w.heap.size, 0, none⟩ = some (.string t) := grown_cell hg3 x0 (by show w.heap.size ≠ lb; omega)
  have y1 : w3.cell? ⟨w.heap.size, 1, none⟩ = some (.int .i64 2) := grown_cell hg3 x1 (by show w.heap.size ≠ lb; omega)
  have hg23 := grown_trans hgw hg3
  have hr3 : (G.set r (looseRow (looseRow l c) (c + 1)))[r]? = some (looseRow (looseRow l c) (c + 1)) := List.getElem?_set_self hrl
  have hix3 := (hG3.index hr3 hc).1
  have hix4 := (hG3.index hr3 hc0).1
  rw [← HQ.out] at hix3 hix4
  obtain ⟨d2, s0, s1, v0, v1, hlb3, hgb3⟩ := hG3.grid.facts hix3
  obtain ⟨_, p0, p1, z0, z1, _, _⟩ := hG3.grid.facts hix4
  rw [List.length_set] at d2
  have hln3 := hG3.grid.len
  rw [List.length_set] at hln3
  have hk1 : (q : Int) + (c : Int) < ((G.length * m : Nat) : Int) := by omega
  have hk0 : (0 : Int) ≤ (q : Int) + (c : Int) := by omega
  have hk2 : (q : Int) + (c : Int) < (G.length : Int) * (m : Int) := by rw [← Int.natCast_mul]; exact hk1
  have hk3 : ((q : Int) + (c : Int)).toNat = q + c := by omega
  have hj1 : (q : Int) + (c : Int) + 1 < ((G.length * m : Nat) : Int) := by omega
  have hj0 : (0 : Int) ≤ (q : Int) + (c : Int) + 1 := by omega
  have hj2 : (q : Int) + (c : Int) + 1 < (G.length : Int) * (m : Int) := by rw [← Int.natCast_mul]; exact hj1
  have hj3 : ((q : Int) + (c : Int) + 1).toNat = q + (c + 1) := by omega
  have hnx : ¬ w.heap.size = lb := by omega
  have hnx' : ¬ lb = w.heap.size := by omega
  clear hG hGx hg2 hw c0 c1 x0 x1
  go_wp2
  have h4 := hG3.grid.set hix4 zeroC
  have g4 := (hG3.grid.put0 hix4 zeroC).2
  dsimp only [zeroC] at h4 g4
  have g4' : w3.grownBy ((w3.setCell ⟨lb, (q + (c + 1)) * 2, none⟩ (Value.string ⟨#[]⟩)).setCell ⟨lb, (q + (c + 1)) * 2 + 1, none⟩ (Value.int .i64 0)) (some lb) := ⟨g4.os, g4.tape, g4.output, g4.size, g4.block⟩
  clear g4 s0 s1 v0 v1 p0 p1 z0 z1 d2
  generalize ((w3.setCell ⟨lb, (q + (c + 1)) * 2, none⟩ (Value.string ⟨#[]⟩)).setCell ⟨lb, (q + (c + 1)) * 2 + 1, none⟩ (Value.int .i64 0)) = W4 at h4 g4' ⊢
  have x0 : W4.cell? ⟨w.heap.size, 0, none⟩ = some (.string t) := grown_cell g4' y0 (by show w.heap.size ≠ lb; omega)
  have x1 : W4.cell? ⟨w.heap.size, 1, none⟩ = some (.int .i64 2) := grown_cell g4' y1 (by show w.heap.size ≠ lb; omega)
  have hix5 : q + c < ((G.set r (looseRow (looseRow l c) (c + 1))).flatten.set (q + (c + 1)) (⟨#[]⟩, 0)).length := by rw [List.length_set]; exact hix3
  obtain ⟨d2, s0, s1, v0, v1, hlb4, hgb4⟩ := h4.facts hix5
  rw [List.length_set] at d2
  clear y0 y1
  go_region_held3 (fun w' => w'.cell? ⟨gb, 2, none⟩ = some (.slice (some ⟨lb, 0, none⟩) (G.length * m) cap) ∧ w'.cell? ⟨w.heap.size, 0, none⟩ = some (.string t) ∧ w'.cell? ⟨w.heap.size, 1, none⟩ = some (.int .i64 2)) (go_keep) (first | fail)
  go_wp2
  go_ret
  have hp := h4.put0 hix5 (t, 2)
  refine ⟨rfl, grown_trans hg23 (grown_trans g4' hp.2), ?_⟩
  rw [HP.out]
  have hsh : ∀ k ∈ G.set r (looseRow (looseRow l c) (c + 1)), k.length = m := set_shape hGs (by rw [looseRow_len, looseRow_len]; exact hl)
  have h3 := hp.1
  have hsh2 : ∀ k ∈ (G.set r (looseRow (looseRow l c) (c + 1))).set r ((looseRow (looseRow l c) (c + 1)).set (c + 1) (⟨#[]⟩, 0)), k.length = m := set_shape hsh (by rw [List.length_set, looseRow_len, looseRow_len]; exact hl)
  have hr4 : ((G.set r (looseRow (looseRow l c) (c + 1))).set r ((looseRow (looseRow l c) (c + 1)).set (c + 1) (⟨#[]⟩, 0)))[r]? = some ((looseRow (looseRow l c) (c + 1)).set (c + 1) (⟨#[]⟩, 0)) := List.getElem?_set_self (by rw [List.length_set]; exact hrl)
  rw [HQ.out, flat_set hsh _ hr3 hc0, flat_set hsh2 _ hr4 hc, List.set_set, List.set_set, List.length_set] at h3
  rw [HQ.out]
  exact ⟨by rw [List.length_set]; exact h3, set_shape hGs (by rw [List.length_set, List.length_set, looseRow_len, looseRow_len]; exact hl), set_wf hGw (by rw [← HP.out]; exact hwp), by rw [List.length_set]; exact hsm⟩
end Go.Proofs.YtkeainhjghdfcaaGreat

/- grid: Put where there is no room; Erase; Clear; Size; At. -/
namespace Go.Proofs.YtkeainhjghdfcaaGreat
open Go.RowKit

def roomy (n m : Nat) (r c d : Int) : Prop := 0 ≤ r ∧ r < n ∧ 0 ≤ c ∧ c < m ∧ (d = 1 ∨ d = 2 ∧ c + 1 < m)

set_option maxRecDepth 100000 in
set_option maxHeartbeats 1000000 in
theorem put_no (gb n m : Nat) (r c d : Int) (t : ByteArray) (w : World) (c0 : w.cell? ⟨gb, 0, none⟩ = some (.int .i64 n)) (c1 : w.cell? ⟨gb, 1, none⟩ = some (.int .i64 m)) (hm : m ≤ 1073741824) (h : ¬ roomy n m r c d) :
    Calls Tryz.prog 63 #[.pointer (some ⟨gb, 0, none⟩), .int .i64 r, .int .i64 c, .agg #[.string t, .int .i64 d]] w fun e w' => e = .returned (.bool false) ∧ Below w.heap.size w w' := by
  have hgb := World.block_lt_of_cell? w _ c0
  unfold roomy at h
  by_cases h1 : 0 ≤ r ∧ r < n ∧ 0 ≤ c ∧ c < m
  · have h2 : d < 1 ∨ (1 ≤ d ∧ 2 < d) ∨ (d = 2 ∧ c + 1 = m) := by omega
    rcases h2 with h2 | ⟨h2, h3⟩ | ⟨h2, h3⟩
    · go_enter Tryz.func63, Tryz.ntmps63
      go_wp2_with (go_at_call 84; refine (in_yes gb n m _ _ _ (by go_simp) (by go_simp) h1.1 h1.2.1 h1.2.2.1 h1.2.2.2).mono ?_; rintro e w' ⟨rfl, rfl⟩)
      go_ret
      exact ⟨rfl, (Below.refl _ _).alloc (Nat.le_refl _) _⟩
    · go_enter Tryz.func63, Tryz.ntmps63
      go_wp2_with (go_at_call 84; refine (in_yes gb n m _ _ _ (by go_simp) (by go_simp) h1.1 h1.2.1 h1.2.2.1 h1.2.2.2).mono ?_; rintro e w' ⟨rfl, rfl⟩)
      go_ret
      exact ⟨rfl, (Below.refl _ _).alloc (Nat.le_refl _) _⟩
    · subst h2
      obtain ⟨q1, q2, q3, q4⟩ := h1
      go_enter Tryz.func63, Tryz.ntmps63
      go_wp2_with fail
      refine (in_yes gb n m _ _ _ (by go_simp) (by go_simp) q1 q2 q3 q4).mono ?_
      rintro e w' ⟨rfl, rfl⟩
      go_wp2_with fail
      refine (in_no gb n m _ _ _ (by go_simp) (by go_simp) (by omega)).mono ?_
      rintro e w' ⟨rfl, rfl⟩
      go_wp2
      go_ret
      exact ⟨rfl, (Below.refl _ _).alloc (Nat.le_refl _) _⟩
  · clear h
    go_enter Tryz.func63, Tryz.ntmps63
    go_wp2_with (go_at_call 84; refine (in_no gb n m _ _ _ (by go_simp) (by go_simp) h1).mono ?_; rintro e w' ⟨rfl, rfl⟩)
    go_ret
    exact ⟨rfl, (Below.refl _ _).alloc (Nat.le_refl _) _⟩

set_option maxRecDepth 100000 in
set_option maxHeartbeats 400000 in
theorem size_some (gb n m : Nat) (w : World) (c0 : w.cell? ⟨gb, 0, none⟩ = some (.int .i64 n)) (c1 : w.cell? ⟨gb, 1, none⟩ = some (.int .i64 m)) :
    Calls Tryz.prog 29 #[.pointer (some ⟨gb, 0, none⟩)] w fun e w' => e = .returned (.tuple #[.int .i64 n, .int .i64 m]) ∧ Below w.heap.size w w' := by
  go_enter Tryz.func29, Tryz.ntmps29
  go_wp2
  go_quiet (fail)
  go_wp2
  go_ret2
  exact ⟨rfl, ⟨rfl, rfl, rfl, Nat.le_refl _, fun _ _ => rfl⟩⟩

end Go.Proofs.YtkeainhjghdfcaaGreat

/- grid: Erase, Clear. -/
namespace Go.Proofs.YtkeainhjghdfcaaGreat
open Go.RowKit


/-- The first k cells made blank. -/
def wiped (xs : List Gl) (k : Nat) : List Gl := List.replicate k blankC ++ xs.drop k
theorem wiped_succ (xs : List Gl) (k : Nat) (hk : k < xs.length) : (wiped xs k).set k blankC = wiped xs (k + 1) := by
  unfold wiped
  rw [List.set_append_right _ _ (by simp), List.length_replicate, Nat.sub_self, List.replicate_succ', List.append_assoc, List.drop_eq_getElem_cons hk]
  rfl
theorem wiped_len (xs : List Gl) (k : Nat) (hk : k ≤ xs.length) : (wiped xs k).length = xs.length := by unfold wiped; simp; omega
theorem flatten_blank (n m : Nat) : (List.replicate n (List.replicate m blankC)).flatten = List.replicate (n * m) blankC := by
  induction n with
  | zero => simp
  | succ n ih => rw [List.replicate_succ, List.flatten_cons, ih, Nat.succ_mul, Nat.add_comm (n * m) m, List.replicate_append_replicate]

end Go.Proofs.YtkeainhjghdfcaaGreat

/- grid.New. -/
namespace Go.Proofs.YtkeainhjghdfcaaGreat
open Go.RowKit

theorem Egc : ElemT Tryz.prog 39 48 2 24 := elemT_of (by kernel_rfl) (z := .agg #[.string ⟨#[]⟩, .int .i64 0]) (by kernel_rfl) rfl (by decide) (by decide)
theorem info_gc : (Tryz.prog.info? 48).map (fun i => (i.zero, i.size, i.bytes)) = some (some (.agg #[.string ⟨#[]⟩, .int .i64 0]), 2, 24) := by kernel_rfl

theorem made_get (N j : Nat) (u : Value) (h : ((List.replicate N zeroC).flatMap genc)[j]? = some u) : (madeCells #[.string ⟨#[]⟩, .int .i64 0] (N * 2)).toList[j]? = some u := by
  obtain ⟨i, y, hy, q, hq, rfl, hqu⟩ := flat_index genc_len _ j u h
  rw [List.getElem?_replicate] at hy
  split at hy
  · rename_i hi
    obtain rfl : zeroC = y := by simpa using hy
    unfold madeCells
    rw [Array.getElem?_toList, Array.getElem?_map, Array.getElem?_range, if_pos (by omega)]
    have : (i * 2 + q) % 2 = q := by omega
    simp only [Option.map_some]
    rcases (show q = 0 ∨ q = 1 by omega) with rfl | rfl
    · simp at this; simp [genc, zeroC] at hqu; simp [hqu]
    · simp [genc, zeroC] at hqu; simp [hqu, this]
  · cases hy

theorem gridAt_mk {w : World} {gb lb n m cap base : Nat} {xs : List Gl} {ys : List Value} (ho : w.ownsRow base 48 2 (.slice (some ⟨lb, 0, none⟩) (n * m) cap) (n * m) ys) (hy : ∀ (j : Nat) (u : Value), (xs.flatMap genc)[j]? = some u → ys[j]? = some u)
    (c0 : w.cell? ⟨gb, 0, none⟩ = some (.int .i64 n)) (c1 : w.cell? ⟨gb, 1, none⟩ = some (.int .i64 m)) (c2 : w.cell? ⟨gb, 2, none⟩ = some (.slice (some ⟨lb, 0, none⟩) (n * m) cap)) (hne : gb ≠ lb) (hl : xs.length = n * m) (hcap : n * m ≤ cap) (hcm : cap ≤ maxLen) :
    GridAt w gb lb n m cap xs :=
  ⟨c0, c1, c2, hne, hl, hcap, hcm, fun j u hu => by
    have hj := (List.getElem?_eq_some_iff.1 hu).1
    rw [flat_len genc_len, hl] at hj
    exact (ho.cellAt j hj).trans (hy j u hu), fun j => ho.frozenAt j⟩

set_option maxRecDepth 100000 in
set_option maxHeartbeats 400000 in
theorem new_none (n m : Int) (w : World) (h : n < 1 ∨ 500 < n ∨ m < 2 ∨ 1000 < m) :
    Calls Tryz.prog 62 #[.int .i64 n, .int .i64 m] w fun e w' => e = .returned (.pointer none) ∧ w = w' := by
  have h' : n < 1 ∨ (1 ≤ n ∧ 500 < n) ∨ (1 ≤ n ∧ n ≤ 500 ∧ m < 2) ∨ (1 ≤ n ∧ n ≤ 500 ∧ 2 ≤ m ∧ 1000 < m) := by omega
  clear h
  rcases h' with h1 | ⟨h1, h2⟩ | ⟨h1, h2, h3⟩ | ⟨h1, h2, h3, h4⟩
  all_goals
    go_enter Tryz.func62, Tryz.ntmps62
    go_wp2
    go_ret
    exact ⟨rfl, rfl⟩

set_option maxRecDepth 100000 in
set_option maxHeartbeats 1000000 in
theorem new_some (n m : Nat) (w : World) (h1 : 1 ≤ n) (h2 : n ≤ 500) (h3 : 2 ≤ m) (h4 : m ≤ 1000) :
    Calls Tryz.prog 62 #[.int .i64 n, .int .i64 m] w fun e w' => ∃ gb lb, e = .returned (.pointer (some ⟨gb, 0, none⟩)) ∧ w.heap.size ≤ gb ∧ w.heap.size ≤ lb ∧ Below w.heap.size w w' ∧ GridG w' gb lb m (n * m) (List.replicate n (List.replicate m blankC)) := by
  obtain ⟨ie, hie, hze, hse, hbe⟩ := info_parts info_gc
  have hnm : n * m ≤ 500 * 1000 := Nat.mul_le_mul h2 h4
  have hnm0 : 0 < n * m := Nat.mul_pos h1 (by omega)
  obtain ⟨N, hN⟩ : ∃ N, N = n * m := ⟨_, rfl⟩
  have hNi : (n : Int) * (m : Int) = (N : Int) := by rw [hN, Int.natCast_mul]
  rw [← hN] at hnm hnm0 ⊢
  have HN := Lib.hid hN
  clear hN
  have q1 : decide ((n : Int) < 1) = false := decide_eq_false (by omega)
  have q2 : decide ((500 : Int) < n) = false := decide_eq_false (by omega)
  have q3 : decide ((m : Int) < 2) = false := decide_eq_false (by omega)
  have q4 : decide ((1000 : Int) < m) = false := decide_eq_false (by omega)
  go_enter Tryz.func62, Tryz.ntmps62
  go_wp2_with (at_make; refine wpList_make_full _ rfl _ _ _ rfl w.heap.size 48 ie _ 2 Egc.und hie hze hse _ _ _ _ N rfl rfl rfl rfl (by rw [hbe]; omega) (by unfold maxLen; omega) (Nat.le_refl _) ?_; intro w1 ho1 hg1)
  have hlt1 := ho1.lt w.heap.size rfl
  have hB1 : Below w.heap.size w w1 := (Below.refl _ w).grown hg1 (Nat.le_refl _) (fun k e => by cases e)
  have hG0 : GridAt (w1.alloc (.cells #[.int .i64 n, .int .i64 m, .slice (some ⟨w.heap.size, 0, none⟩) N N] 145)) w1.heap.size w.heap.size n m (n * m) (List.replicate (n * m) zeroC) := by
    rw [HN.out] at ho1 ⊢
    exact gridAt_mk (ho1.alloc _) (fun j u hu => made_get (n * m) j u hu) (by go_simp) (by go_simp) (by go_simp) (by omega) (by simp) (Nat.le_refl _) (by rw [← HN.out]; unfold maxLen; omega)
  have hBx : Below w.heap.size w (w1.alloc (.cells #[.int .i64 n, .int .i64 m, .slice (some ⟨w.heap.size, 0, none⟩) N N] 145)) := hB1.alloc (by omega) _
  have hfin : ∀ w', GridAt w' w1.heap.size w.heap.size n m (n * m) (wiped (List.replicate (n * m) zeroC) (n * m)) → GridG w' w1.heap.size w.heap.size m (n * m) (List.replicate n (List.replicate m blankC)) := by
    intro w' h
    refine ⟨?_, ?_, ?_, by rw [List.length_replicate, ← HN.out]; omega⟩
    · rw [List.length_replicate, flatten_blank]
      have : wiped (List.replicate (n * m) zeroC) (n * m) = List.replicate (n * m) blankC := by unfold wiped; rw [List.drop_of_length_le (by simp), List.append_nil]
      rw [← this]; exact h
    · intro l hl; rw [(List.mem_replicate.1 hl).2]; simp
    · intro l hl; rw [(List.mem_replicate.1 hl).2]; exact wf_blank m
  have HF := Lib.hid hfin
  have HO := Lib.hid ho1
  clear hfin ho1
  go_loopw [34] (fun i wr => ∃ k : Nat, k ≤ N ∧ i = .int .i64 k ∧ Below w.heap.size w wr ∧ GridAt wr w1.heap.size w.heap.size n m (n * m) (wiped (List.replicate (n * m) zeroC) k)) (fun i _ => N - (intOf i).toNat)
  case atStart => exact ⟨0, Nat.zero_le _, rfl, hBx, by simpa [wiped] using hG0⟩
  case round =>
    obtain ⟨k, hk, rfl, hB, hGr⟩ := hrel
    clear hG0 hBx hB1 hg1
    by_cases hlt : k < N
    · have hkx : k < (wiped (List.replicate (n * m) zeroC) k).length := by rw [wiped_len _ k (by rw [List.length_replicate, ← HN.out]; omega), List.length_replicate, ← HN.out]; exact hlt
      obtain ⟨c2, t0, t1, f0, f1, hlb, hgl⟩ := hGr.facts hkx
      rw [← HN.out] at c2
      have hne : ¬ w1.heap.size = w.heap.size := hGr.ne
      have hne' : ¬ w.heap.size = w1.heap.size := fun e => hGr.ne e.symm
      have hk0 : (0 : Int) ≤ (k : Int) := by omega
      have hk1 : (k : Int) < (N : Int) := by omega
      have HS := Lib.hid (wiped_succ (List.replicate (n * m) zeroC) k (by rw [List.length_replicate, ← HN.out]; exact hlt))
      rw [← HN.out] at t0 t1
      go_wp2
      go_region_held3 (fun w' => w'.cell? ⟨w1.heap.size, 2, none⟩ = some (.slice (some ⟨w.heap.size, 0, none⟩) N N)) (go_keep) (first | (go_at_call 33; refine (blank_any _).mono ?_; rintro e w' ⟨rfl, rfl⟩))
      have hp := hGr.put hkx blankC (.cells #[.string ⟨#[32]⟩, .int .i64 1] 48)
      rw [HS.out] at hp
      dsimp only [blankC] at hp
      generalize ((((wr.setCell ⟨w.heap.size, k * 2, none⟩ (Value.string ⟨#[32]⟩)).setCell ⟨w.heap.size, k * 2 + 1, none⟩ (Value.int .i64 1)).alloc (Obj.cells #[Value.string ⟨#[32]⟩, Value.int .i64 1] 48)).drew) = W1 at hp ⊢
      have hB2 : Below w.heap.size w W1 := hB.grown hp.2 hB.size (fun k e => by cases e; exact Nat.le_refl _)
      clear c2 t0 t1 f0 f1
      go_wp2
      refine ⟨⟨k + 1, by omega, by go_num, hB2, hp.1⟩, by simp [intOf]; omega⟩
    · have hkn : k = N := by omega
      subst hkn
      have HG := Lib.hid hGr
      clear hGr
      go_wp2
      go_ret
      refine ⟨_, w.heap.size, rfl, by omega, Nat.le_refl _, hB, ?_⟩
      have := HF.out wr (by have h := HG.out; rw [HN.out] at h; exact h)
      rw [HN.out]; exact this
end Go.Proofs.YtkeainhjghdfcaaGreat

/- grid.At. -/
namespace Go.Proofs.YtkeainhjghdfcaaGreat
open Go.RowKit

set_option maxRecDepth 100000 in
set_option maxHeartbeats 1000000 in
theorem gat_some (gb lb m cap r c : Nat) (G : List (List Gl)) (l : List Gl) (w : World) (hG : GridG w gb lb m cap G) (hr : G[r]? = some l) (hc : c < m) :
    Calls Tryz.prog 32 #[.pointer (some ⟨gb, 0, none⟩), .int .i64 r, .int .i64 c] w fun e w' => e = .returned (.agg #[.string (cellAt l c).1, .int .i64 (cellAt l c).2]) ∧ Below w.heap.size w w' := by
  obtain ⟨hl, hw, hrl⟩ := hG.row hr
  obtain ⟨q, hq⟩ : ∃ q, q = r * m := ⟨_, rfl⟩
  have hqi : (r : Int) * (m : Int) = (q : Int) := by rw [hq, Int.natCast_mul]
  obtain ⟨hix, hat⟩ := hG.index hr hc
  have hsm := hG.small
  have hln := hG.grid.len
  rw [← hq] at hix hat
  have hgl := hG.grid.glt
  have c0 := hG.grid.c0
  have c1 := hG.grid.c1
  obtain ⟨c2, t0, t1, f0, f1, hlb, hgb⟩ := hG.grid.facts hix
  rw [hat] at t0 t1
  have hk1 : (q : Int) + (c : Int) < ((G.length * m : Nat) : Int) := by omega
  have hk0 : (0 : Int) ≤ (q : Int) + (c : Int) := by omega
  have hk2 : (q : Int) + (c : Int) < (G.length : Int) * (m : Int) := by rw [← Int.natCast_mul]; exact hk1
  have hk3 : ((q : Int) + (c : Int)).toNat = q + c := by omega
  have hqb : (q : Int) ≤ 1073741824 := by omega
  have e1 := IntWalk.i64_in (q : Int) (by omega)
  have e2 := IntWalk.i64_in ((q : Int) + (c : Int)) (by omega)
  generalize cellAt l c = x at *
  obtain ⟨t, d⟩ := x
  dsimp only at *
  clear hG hq hix hat hw
  go_enter Tryz.func32, Tryz.ntmps32
  go_wp2_with (go_at_call 84; refine (in_yes gb G.length m _ _ _ (by go_simp) (by go_simp) (by omega) (by omega) (by omega) (by omega)).mono ?_; rintro e w' ⟨rfl, rfl⟩)
  have hn1 : ¬ w.heap.size = gb := by omega
  have hn2 : ¬ gb = w.heap.size := by omega
  have hn3 : ¬ w.heap.size = lb := by omega
  have hn4 : ¬ lb = w.heap.size := by omega
  go_region_held3 (fun w' => w'.cell? ⟨gb, 2, none⟩ = some (.slice (some ⟨lb, 0, none⟩) (G.length * m) cap) ∧ w'.cell? ⟨gb, 1, none⟩ = some (.int .i64 m) ∧ w'.cell? ⟨lb, (q + c) * 2, none⟩ = some (.string t) ∧ w'.cell? ⟨lb, (q + c) * 2 + 1, none⟩ = some (.int .i64 d)) (go_keep) (first | fail)
  go_wp2
  exact bodyPost_ret (v := .agg #[.string t, .int .i64 d]) (by simp [results, Tryz.results32, go_sem]) rfl ⟨rfl, ((Below.refl _ _).alloc (Nat.le_refl _) _).drew⟩

end Go.Proofs.YtkeainhjghdfcaaGreat

/- The document's grid: a row of cells; one cell loosened. -/
namespace Go.Proofs.YtkeainhjghdfcaaGreat
open Go.RowKit

/-- The block rb has the cells xs. -/
structure RRow (w : World) (rb : Nat) (xs : List Gl) : Prop where
  cells : ∀ j u, (xs.flatMap genc)[j]? = some u → w.cell? ⟨rb, j, none⟩ = some u
  free : ∀ j, w.frozen? ⟨rb, j, none⟩ = false

theorem RRow.text {w : World} {rb : Nat} {xs : List Gl} (h : RRow w rb xs) {k : Nat} {x : Gl} (hk : xs[k]? = some x) : w.cell? ⟨rb, k * 2, none⟩ = some (.string x.1) := by
  have := flat_get genc_len xs k x 0 _ hk rfl
  exact h.cells _ _ this
theorem RRow.width {w : World} {rb : Nat} {xs : List Gl} (h : RRow w rb xs) {k : Nat} {x : Gl} (hk : xs[k]? = some x) : w.cell? ⟨rb, k * 2 + 1, none⟩ = some (.int .i64 x.2) := by
  have := flat_get genc_len xs k x 1 _ hk rfl
  exact h.cells _ _ this
theorem RRow.lt {w : World} {rb : Nat} {xs : List Gl} (h : RRow w rb xs) {k : Nat} (hk : k < xs.length) : rb < w.heap.size :=
  World.block_lt_of_cell? w _ (h.text (List.getElem?_eq_getElem hk))
theorem RRow.same {w w' : World} {rb : Nat} {xs : List Gl} (h : RRow w rb xs) (hl : w'.heap[rb]? = w.heap[rb]?) : RRow w' rb xs :=
  ⟨fun j u hu => (World.cell?_of_block (a := ⟨rb, j, none⟩) hl).trans (h.cells j u hu), fun j => (World.frozen?_of_block (a := ⟨rb, j, none⟩) hl).trans (h.free j)⟩

theorem RRow.set {w : World} {rb : Nat} {xs : List Gl} (h : RRow w rb xs) {k : Nat} (hk : k < xs.length) (x : Gl) :
    RRow ((w.setCell ⟨rb, k * 2, none⟩ (.string x.1)).setCell ⟨rb, k * 2 + 1, none⟩ (.int .i64 x.2)) rb (xs.set k x) := by
  have hx := get_cellAt hk
  refine ⟨?_, ?_⟩
  · intro j u hu
    obtain ⟨i, y, hy, q, hq, rfl, hqu⟩ := flat_index genc_len _ j u hu
    by_cases hik : i = k
    · subst hik
      rw [List.getElem?_set_self hk] at hy
      obtain rfl : x = y := by simpa using hy
      rcases (show q = 0 ∨ q = 1 by omega) with rfl | rfl
      · rw [World.cell?_setCell_other _ _ _ _ (by intro e; injection e with _ e2; omega), Nat.add_zero, World.cell?_setCell_same' _ _ _ (by rw [h.text hx]; rfl)]
        exact hqu
      · rw [World.cell?_setCell_same' _ _ _ (by rw [World.cell?_setCell_other _ _ _ _ (by intro e; injection e with _ e2; omega), h.width hx]; rfl)]
        exact hqu
    · rw [List.getElem?_set_ne (by omega)] at hy
      rw [World.cell?_setCell_other _ _ _ _ (by intro e; injection e with _ e2; omega), World.cell?_setCell_other _ _ _ _ (by intro e; injection e with _ e2; omega)]
      exact h.cells _ _ (flat_get genc_len xs i y q u hy hqu)
  · intro j
    rw [World.frozen?_setCell, World.frozen?_setCell]
    exact h.free j

/-- a row's cell set, behind a block that was laid -/
theorem RRow.put {w : World} {rb : Nat} {xs : List Gl} (h : RRow w rb xs) {k : Nat} (hk : k < xs.length) (x : Gl) (o : Obj) :
    RRow (((w.setCell ⟨rb, k * 2, none⟩ (.string x.1)).setCell ⟨rb, k * 2 + 1, none⟩ (.int .i64 x.2)).alloc o) rb (xs.set k x) ∧
    w.grownBy (((w.setCell ⟨rb, k * 2, none⟩ (.string x.1)).setCell ⟨rb, k * 2 + 1, none⟩ (.int .i64 x.2)).alloc o) (some rb) := by
  have hl := h.lt hk
  constructor
  · exact (h.set hk x).same (Below.heap_alloc _ _ _ (by simpa using hl))
  · refine ⟨rfl, rfl, rfl, by simp, fun j hj hne => ?_⟩
    have h1 : j ≠ rb := fun e => hne (by rw [e])
    exact ((Below.heap_alloc _ _ _ (by simpa using hj)).trans (Below.heap_setCell _ _ _ _ h1)).trans (Below.heap_setCell _ _ _ _ h1)
theorem RRow.put0 {w : World} {rb : Nat} {xs : List Gl} (h : RRow w rb xs) {k : Nat} (hk : k < xs.length) (x : Gl) :
    RRow ((w.setCell ⟨rb, k * 2, none⟩ (.string x.1)).setCell ⟨rb, k * 2 + 1, none⟩ (.int .i64 x.2)) rb (xs.set k x) ∧
    w.grownBy ((w.setCell ⟨rb, k * 2, none⟩ (.string x.1)).setCell ⟨rb, k * 2 + 1, none⟩ (.int .i64 x.2)) (some rb) := by
  refine ⟨h.set hk x, rfl, rfl, rfl, by simp, fun j hj hne => ?_⟩
  have h1 : j ≠ rb := fun e => hne (by rw [e])
  exact (Below.heap_setCell _ _ _ _ h1).trans (Below.heap_setCell _ _ _ _ h1)

structure RCell (w : World) (rb k : Nat) (t : ByteArray) (d : Int) : Prop where
  t0 : w.cell? ⟨rb, k * 2, none⟩ = some (.string t)
  t1 : w.cell? ⟨rb, k * 2 + 1, none⟩ = some (.int .i64 d)
  f0 : w.frozen? ⟨rb, k * 2, none⟩ = false
  f1 : w.frozen? ⟨rb, k * 2 + 1, none⟩ = false
  lt : rb < w.heap.size
theorem RRow.facts {w : World} {rb : Nat} {xs : List Gl} (h : RRow w rb xs) {k : Nat} (hk : k < xs.length) : RCell w rb k (cellAt xs k).1 (cellAt xs k).2 :=
  ⟨h.text (get_cellAt hk), h.width (get_cellAt hk), h.free _, h.free _, h.lt hk⟩

end Go.Proofs.YtkeainhjghdfcaaGreat

/- The document's grid: rows, each in a block of its own; is a cell there. -/
namespace Go.Proofs.YtkeainhjghdfcaaGreat
open Go.RowKit

structure RefAt (w : World) (B ob : Nat) (rb rc : Nat → Nat) (m : Nat) (G : List (List Gl)) : Prop where
  outer : ∀ r, r < G.length → w.cell? ⟨ob, r, none⟩ = some (.slice (some ⟨rb r, 0, none⟩) m (rc r))
  rows : ∀ r l, G[r]? = some l → RRow w (rb r) l
  shape : ∀ l ∈ G, l.length = m
  wf : ∀ l ∈ G, wfRow l
  ne : ∀ r, r < G.length → rb r ≠ ob
  inj : ∀ r s, r < G.length → s < G.length → rb r = rb s → r = s
  base : ∀ r, r < G.length → B ≤ rb r
  hob : B ≤ ob
  pos : 0 < m
  small : m ≤ 1073741824
  few : G.length ≤ 1073741824

theorem RefAt.row {w : World} {B ob m : Nat} {rb rc : Nat → Nat} {G : List (List Gl)} (h : RefAt w B ob rb rc m G) {r : Nat} {l : List Gl} (hr : G[r]? = some l) :
    l.length = m ∧ wfRow l ∧ r < G.length ∧ w.cell? ⟨ob, r, none⟩ = some (.slice (some ⟨rb r, 0, none⟩) m (rc r)) ∧ RRow w (rb r) l ∧ rb r ≠ ob ∧ rb r < w.heap.size ∧ ob < w.heap.size := by
  have hl := (List.getElem?_eq_some_iff.1 hr).1
  have h1 := h.shape l (List.mem_of_getElem? hr)
  have h2 := h.outer r hl
  have h3 := h.rows r l hr
  exact ⟨h1, h.wf l (List.mem_of_getElem? hr), hl, h2, h3, h.ne r hl, h3.lt (k := 0) (by have := h.pos; omega), World.block_lt_of_cell? w _ h2⟩

theorem RefAt.set {w w' : World} {B ob m : Nat} {rb rc : Nat → Nat} {G : List (List Gl)} (h : RefAt w B ob rb rc m G) {r : Nat} {l : List Gl} (hr : r < G.length)
    (hg : w.grownBy w' (some (rb r))) (hR : RRow w' (rb r) l) (hl : l.length = m) (hw : wfRow l) : RefAt w' B ob rb rc m (G.set r l) := by
  have hlen : (G.set r l).length = G.length := List.length_set
  refine ⟨?_, ?_, set_shape h.shape hl, set_wf h.wf hw, ?_, ?_, ?_, h.hob, h.pos, h.small, by rw [hlen]; exact h.few⟩
  · intro s hs
    rw [hlen] at hs
    exact hg.cell (h.outer s hs) (by intro e; injection e with e; exact h.ne r hr e.symm)
  · intro s k hk
    by_cases hsr : s = r
    · subst hsr
      rw [List.getElem?_set_self hr] at hk
      obtain rfl : l = k := by simpa using hk
      exact hR
    · rw [List.getElem?_set_ne (by omega)] at hk
      obtain ⟨_, _, hs, _, h5, _, h7, _⟩ := h.row hk
      exact h5.same (hg.block _ h7 (by intro e; injection e with e; exact hsr (h.inj s r hs hr e)))
  · intro s hs; rw [hlen] at hs; exact h.ne s hs
  · intro s t hs ht; rw [hlen] at hs ht; exact h.inj s t hs ht
  · intro s hs; rw [hlen] at hs; exact h.base s hs

theorem RefAt.same {w w' : World} {B ob m : Nat} {rb rc : Nat → Nat} {G : List (List Gl)} (h : RefAt w B ob rb rc m G)
    (ho : w'.heap[ob]? = w.heap[ob]?) (hr : ∀ r, r < G.length → w'.heap[rb r]? = w.heap[rb r]?) : RefAt w' B ob rb rc m G :=
  ⟨fun r h1 => (World.cell?_of_block (a := ⟨ob, r, none⟩) ho).trans (h.outer r h1), fun r l h1 => (h.rows r l h1).same (hr r (List.getElem?_eq_some_iff.1 h1).1), h.shape, h.wf, h.ne, h.inj, h.base, h.hob, h.pos, h.small, h.few⟩
theorem RefAt.grown {w w' : World} {B ob m lb : Nat} {rb rc : Nat → Nat} {G : List (List Gl)} (h : RefAt w B ob rb rc m G) (hg : w.grownBy w' (some lb)) (h1 : lb ≠ ob) (h2 : ∀ r, r < G.length → lb ≠ rb r) (h3 : 0 < G.length) : RefAt w' B ob rb rc m G := by
  have hob : ob < w.heap.size := World.block_lt_of_cell? w _ (h.outer 0 h3)
  refine h.same (hg.block _ hob (by intro e; injection e with e; exact h1 e.symm)) fun r hr => ?_
  have := h.row (List.getElem?_eq_getElem hr)
  exact hg.block _ this.2.2.2.2.2.2.1 (by intro e; injection e with e; exact h2 r hr e.symm)

end Go.Proofs.YtkeainhjghdfcaaGreat

/- Deeds in both grids: the contracts in one form each. -/
namespace Go.Proofs.YtkeainhjghdfcaaGreat
open Go.RowKit

instance (n m : Nat) (r c d : Int) : Decidable (roomy n m r c d) := by unfold roomy; infer_instance

def rowAt (G : List (List Gl)) (r : Nat) : List Gl := G.getD r []
theorem get_rowAt {G : List (List Gl)} {r : Nat} (h : r < G.length) : G[r]? = some (rowAt G r) := by unfold rowAt; rw [List.getD_eq_getElem?_getD, List.getElem?_eq_getElem h]; rfl

def putG (G : List (List Gl)) (m : Nat) (r c : Int) (x : Gl) : List (List Gl) := if roomy G.length m r c x.2 then G.set r.toNat (putRow (rowAt G r.toNat) c.toNat x) else G
theorem putG_len (G : List (List Gl)) (m : Nat) (r c : Int) (x : Gl) : (putG G m r c x).length = G.length := by unfold putG; split <;> simp
theorem Kept.of_grown1 {P : Nat → Prop} {w w' : World} {b : Nat} (h : w.grownBy w' (some b)) (hb : P b) : Kept P w w' :=
  .of_grown h fun c e => by injection e with e; exact e ▸ hb

theorem GridG.llt {w : World} {gb lb m cap : Nat} {G : List (List Gl)} (h : GridG w gb lb m cap G) (hn : 0 < G.length) (hm : 0 < m) : lb < w.heap.size :=
  h.grid.llt (h.index (get_rowAt hn) hm).1
theorem GridG.kept {w w' : World} {gb lb m cap : Nat} {G : List (List Gl)} (h : GridG w gb lb m cap G) (hn : 0 < G.length) (hm : 0 < m) {P : Nat → Prop} (hk : Kept P w w') (h1 : ¬ P gb) (h2 : ¬ P lb) : GridG w' gb lb m cap G :=
  h.grown (hk.block _ h.grid.glt h1) (hk.block _ (h.llt hn hm) h2)
theorem RefAt.kept {w w' : World} {B ob m : Nat} {rb rc : Nat → Nat} {G : List (List Gl)} (h : RefAt w B ob rb rc m G) (hn : 0 < G.length) {P : Nat → Prop} (hk : Kept P w w') (h1 : ¬ P ob) (h2 : ∀ i, i < G.length → ¬ P (rb i)) : RefAt w' B ob rb rc m G := by
  have hob : ob < w.heap.size := World.block_lt_of_cell? w _ (h.outer 0 hn)
  exact h.same (hk.block _ hob h1) fun i hi => hk.block _ (h.row (get_rowAt hi)).2.2.2.2.2.2.1 (h2 i hi)
theorem grownBy_of_below {w w' : World} {r : Option Nat} (h : Below w.heap.size w w') : w.grownBy w' r := ⟨h.os, h.tape, h.output, h.size, fun j hj _ => h.block j hj⟩

/-- blocks of rows -/
def Rows (n : Nat) (rb : Nat → Nat) (j : Nat) : Prop := ∃ i, i < n ∧ j = rb i
theorem GridG.m_small {w : World} {gb lb m cap : Nat} {G : List (List Gl)} (h : GridG w gb lb m cap G) (hn : 0 < G.length) : m ≤ 1073741824 :=
  Nat.le_trans (Nat.le_mul_of_pos_left _ hn) h.small

theorem gdput_any (gb lb m cap : Nat) (G : List (List Gl)) (r c : Int) (x : Gl) (w : World) (hG : GridG w gb lb m cap G) (hn : 0 < G.length) (hm : 0 < m) :
    Calls Tryz.prog 63 #[.pointer (some ⟨gb, 0, none⟩), .int .i64 r, .int .i64 c, .agg #[.string x.1, .int .i64 x.2]] w fun e w' => e = .returned (.bool (decide (roomy G.length m r c x.2))) ∧ w.grownBy w' (some lb) ∧ GridG w' gb lb m cap (putG G m r c x) := by
  by_cases h : roomy G.length m r c x.2
  · have h0 := h
    unfold roomy at h
    obtain ⟨h1, h2, h3, h4, h5⟩ := h
    have er : ((r.toNat : Nat) : Int) = r := by omega
    have ec : ((c.toNat : Nat) : Int) = c := by omega
    have hget := get_rowAt (G := G) (r := r.toNat) (by omega)
    have hp : putG G m r c x = G.set r.toNat (putRow (rowAt G r.toNat) c.toNat x) := by unfold putG; rw [if_pos h0]
    rw [hp, decide_eq_true h0]
    rcases h5 with h5 | ⟨h5, h6⟩
    · have := put_one gb lb m cap r.toNat c.toNat G _ x w hG hget (by omega) h5
      rw [er, ec] at this
      exact this
    · have := put_two gb lb m cap r.toNat c.toNat G _ x w hG hget (by omega) h5
      rw [er, ec] at this
      exact this
  · have hp : putG G m r c x = G := by unfold putG; rw [if_neg h]
    rw [hp, decide_eq_false h]
    refine (put_no gb G.length m r c x.2 x.1 w hG.grid.c0 hG.grid.c1 (hG.m_small hn) h).mono ?_
    rintro e w' ⟨rfl, hB⟩
    exact ⟨rfl, grownBy_of_below hB, hG.kept hn hm (P := fun _ => False) (.of_below hB) id id⟩

end Go.Proofs.YtkeainhjghdfcaaGreat

/- law27.does. -/
namespace Go.Proofs.YtkeainhjghdfcaaGreat
open Go.RowKit

structure Dd where
  k : Int
  r : Int
  c : Int
  x : Gl
def putty (d : Dd) : Prop := d.k = 0 ∨ d.k = 1 ∨ d.k = 2
instance (d : Dd) : Decidable (putty d) := by unfold putty; infer_instance
end Go.Proofs.YtkeainhjghdfcaaGreat

/- Texts of glyphs, one behind the other. No program is named here. -/
namespace Go.Proofs.YtkeainhjghdfcaaGreat
open Go.RowKit

/-- texts one behind the other -/
def catG (b0 : ByteArray) (G : List Gy) : ByteArray := G.foldl (fun b g => b ++ g.1) b0
theorem catG_snoc (b0 : ByteArray) (G : List Gy) (g : Gy) : catG b0 (G ++ [g]) = catG b0 G ++ g.1 := by unfold catG; rw [List.foldl_append]; rfl
end Go.Proofs.YtkeainhjghdfcaaGreat
