/- Joined texts: TrieR Kept TrieQ TabP TrieS TrieT MapS Law BackP CatG StrE ColA Mk. -/
import Derived.Deep.Upon
import Derived.Deep.MidRow
import Derived.MapKept
import Derived.ProofKit
import Derived.OpenShut
import Derived.Deep.Slices
import Derived.Deep.Fields
import Derived.ChangeSame
import Derived.SizedLaws
import Derived.Test.YtkeainhjghdfcaaGreatRows
import Derived.Laws.Concat
import Derived.Deep.QuietTactic
import Derived.BigQuiet
import Derived.IntWalk
import Derived.Laws.MakeOwn
import Derived.Laws.Rows
import Derived.Test.YtkeainhjghdfcaaGreatFtaa

/- Rows of values that are stored one by one. No program is named here. -/
namespace Go.Proofs.YtkeainhjghdfcaaGreat
open Go.RowKit

def setArr (cs : Array Value) : Nat → List Value → Array Value
  | _, [] => cs
  | o, v :: r => setArr (cs.setIfInBounds o v) (o + 1) r
theorem row_setCells (g : Nat) (t : TypeId) : ∀ (vs : List Value) (o : Nat) (w : World) (cs : Array Value), w.heap[g]? = some (.cells cs t (0, 0)) → (w.setCells g o vs).heap[g]? = some (.cells (setArr cs o vs) t (0, 0))
  | [], _, _, _, h => h
  | v :: r, o, w, cs, h => row_setCells g t r (o + 1) _ _ (heap_setCell_same w g o cs t v h)
theorem setArr_eq : ∀ (vs : List Value) (o : Nat) (l : List Value), o + vs.length ≤ l.length → setArr l.toArray o vs = (l.take o ++ vs ++ l.drop (o + vs.length)).toArray
  | [], o, l, _ => by simp [setArr]
  | v :: r, o, l, h => by
    rw [List.length_cons] at h
    unfold setArr
    rw [List.setIfInBounds_toArray, setArr_eq r (o + 1) (l.set o v) (by simp; omega)]
    congr 1
    rw [List.set_eq_take_append_cons_drop, if_pos (by omega)]
    have e1 : (l.take o).length = o := by simp; omega
    have e2 : (l.take o ++ v :: l.drop (o + 1)).take (o + 1) = l.take o ++ [v] := by
      rw [List.take_append, e1, Nat.add_sub_cancel_left, List.take_of_length_le (by omega)]
      simp
    have e3 : (l.take o ++ v :: l.drop (o + 1)).drop (o + 1 + r.length) = l.drop (o + (v :: r).length) := by
      rw [List.drop_append, e1, List.drop_of_length_le (by rw [e1]; omega), show o + 1 + r.length - o = r.length + 1 by omega, List.nil_append, List.drop_succ_cons, List.drop_drop, List.length_cons]
      congr 1; omega
    rw [e2, e3]
    simp
variable {α : Type} {enc : α → List Value} {sz : Nat}
theorem flat_take (hsz : ∀ x, (enc x).length = sz) : ∀ (L : List α) (i : Nat), (L.flatMap enc).take (i * sz) = (L.take i).flatMap enc
  | [], i => by simp
  | y :: L, 0 => by simp
  | y :: L, i + 1 => by
    rw [List.flatMap_cons, List.take_succ_cons, List.flatMap_cons, List.take_append, hsz, List.take_of_length_le (by rw [hsz, Nat.succ_mul]; omega), Nat.succ_mul, Nat.add_sub_cancel, flat_take hsz L i]
theorem flat_drop (hsz : ∀ x, (enc x).length = sz) : ∀ (L : List α) (i : Nat), (L.flatMap enc).drop (i * sz) = (L.drop i).flatMap enc
  | [], i => by simp
  | y :: L, 0 => by simp
  | y :: L, i + 1 => by
    rw [List.flatMap_cons, List.drop_succ_cons, List.drop_append, hsz, List.drop_of_length_le (by rw [hsz, Nat.succ_mul]; omega), Nat.succ_mul, Nat.add_sub_cancel, List.nil_append, flat_drop hsz L i]
theorem setArr_flat (hsz : ∀ x, (enc x).length = sz) (L : List α) (i : Nat) (x : α) (hi : i < L.length) : setArr (L.flatMap enc).toArray (i * sz) (enc x) = ((L.set i x).flatMap enc).toArray := by
  have hl := flat_len hsz L
  have hm : i * sz + sz ≤ L.length * sz := by rw [← Nat.succ_mul]; exact Nat.mul_le_mul_right _ hi
  rw [setArr_eq _ _ _ (by rw [hsz, hl]; exact hm), hsz, flat_take hsz, show i * sz + sz = (i + 1) * sz by rw [Nat.succ_mul], flat_drop hsz, List.set_eq_take_append_cons_drop, if_pos hi, List.flatMap_append, List.flatMap_cons]
  simp
/-- one value stored in a row of values -/
theorem row_put (hsz : ∀ x, (enc x).length = sz) {w : World} {g : Nat} {t : TypeId} {L : List α} (h : w.heap[g]? = some (.cells (L.flatMap enc).toArray t (0, 0))) (i : Nat) (x : α) (hi : i < L.length) :
    (w.setCells g (i * sz) (enc x)).heap[g]? = some (.cells ((L.set i x).flatMap enc).toArray t (0, 0)) := by
  rw [row_setCells g t _ _ _ _ h, setArr_flat hsz L i x hi]
theorem take_put {L : List α} {i : Nat} {x : α} (hi : i < L.length) : (L.set i x).take (i + 1) = L.take i ++ [x] := by
  rw [List.take_add_one, List.getElem?_set_self hi, List.take_set_of_le (Nat.le_refl i)]; rfl
theorem row_len {w : World} {g : Nat} {t : TypeId} {c : Array Value} {f : Nat × Nat} (h : w.heap[g]? = some (.cells c t f)) : g < w.heap.size := (Array.getElem?_eq_some_iff.1 h).1
theorem row_there (hsz : ∀ x, (enc x).length = sz) {w : World} {g : Nat} {t : TypeId} {L : List α} (h : w.heap[g]? = some (.cells (L.flatMap enc).toArray t (0, 0))) (i : Nat) (hi : i < L.length) : w.there g (i * sz) sz := fun j hj => by
  have hl := flat_len hsz L
  have hm : i * sz + sz ≤ L.length * sz := by rw [← Nat.succ_mul]; exact Nat.mul_le_mul_right _ hi
  refine ⟨?_, ?_⟩
  · rw [cell_of_row w g _ _ t (0, 0) h, List.getElem?_toArray, List.getElem?_eq_getElem (by omega)]
    rfl
  · unfold World.frozen?; rw [h]; simp
/-- the maker as it is made -/
theorem made_state (w : World) (sz' aT iT tT mT : Nat) (tv : α → Value) (okv : α → Prop) :
    MkAt enc sz' aT iT tv okv ((((w.alloc (.cells #[.int .i64 1114112, .slice none 0 0, .slice none 0 0] tT)).alloc (.map #[] 0)).alloc (.map #[] 0)).alloc (.cells #[.pointer (some ⟨w.heap.size, 0, none⟩), .map (some (w.heap.size + 1)), .map (some (w.heap.size + 2))] mT))
      w.heap.size (w.heap.size + 4) w.heap.size (w.heap.size + 3) (w.heap.size + 1) (w.heap.size + 2) (.slice none 0 0) (.slice none 0 0) [] [] := by
  have k1 := mapFn_made (arrK enc) natV (okL okv) (w.alloc (.cells #[.int .i64 1114112, .slice none 0 0, .slice none 0 0] tT))
  have k2 := mapFn_made tv natV okv ((w.alloc (.cells #[.int .i64 1114112, .slice none 0 0, .slice none 0 0] tT)).alloc (.map #[] 0))
  have e1 : (w.alloc (.cells #[.int .i64 1114112, .slice none 0 0, .slice none 0 0] tT)).heap.size = w.heap.size + 1 := by simp
  have e2 : ((w.alloc (.cells #[.int .i64 1114112, .slice none 0 0, .slice none 0 0] tT)).alloc (.map #[] 0)).heap.size = w.heap.size + 2 := by simp
  rw [e1] at k1
  rw [e2] at k2
  refine ⟨{ t0 := by go_simp, t1 := by go_simp, t2 := by go_simp, f1 := by go_simp, f2 := by go_simp, m0 := by go_simp, m1 := by go_simp, m2 := by go_simp, o1 := World.ownsRow_nil _ _ _ _, o2 := World.ownsRow_nil _ _ _ _, sep := .inl rfl, bt := by omega, bm := by omega, bk := by omega, be := by omega, nbt := by omega, len := fun L h => by cases h }, ⟨_, k1.below ?_, fun L k h => by cases h⟩, ⟨_, k2.below ?_, fun L k h => by cases h⟩⟩
  · rw [show w.heap.size + 1 = w.heap.size + 1 from rfl]
    exact (((Below.refl _ _).alloc (by simp) _).alloc (by simp) _)
  · exact (Below.refl _ _).alloc (by simp) _
variable {aT iT : TypeId} {tv : α → Value} {okv : α → Prop} {w : World} {B0 B tb mb kb eb : Nat} {v1 v2 : Value} {ks : List Nat} {bl : List (List α)}
theorem MkAt.push1 {w1 : World} {g cap : Nat} {k : Nat} (h : MkAt enc sz aT iT tv okv w B0 B tb mb kb eb v1 v2 ks bl) (hg : w.grownBy w1 v1.ownBlock) (ho : w1.ownsRow B iT 1 (.slice (some ⟨g, 0, none⟩) (ks.length + 1) cap) (ks.length + 1) (ks.map natV ++ [natV k]))
    (hf : v1.ownBlock = some g ∨ w.heap.size ≤ g) : MkAt enc sz aT iT tv okv (w1.setCell ⟨tb, 1, none⟩ (.slice (some ⟨g, 0, none⟩) (ks.length + 1) cap)) B0 B tb mb kb eb (.slice (some ⟨g, 0, none⟩) (ks.length + 1) cap) v2 (ks ++ [k]) bl :=
  ⟨h.b.push1 hg ho hf,
    (h.kn.grown hg (fun e => by have := (h.b.o1.lt _ e.symm).1; have := h.b.bk.2; omega)).grown (setCell_grown _ _ _) (fun e => h.b.nbt.2.1 (by injection e with e; exact e.symm)),
    (h.ev.grown hg (fun e => by have := (h.b.o1.lt _ e.symm).1; have := h.b.be.2; omega)).grown (setCell_grown _ _ _) (fun e => h.b.nbt.2.2.1 (by injection e with e; exact e.symm))⟩
theorem MkAt.push2 {w1 : World} {g cap : Nat} {L : List α} (h : MkB enc sz aT iT w B0 B tb mb kb eb v1 v2 ks bl) (hkn : Known enc okv w kb (bl ++ [L])) (hev : Even tv okv w eb (bl ++ [L])) (hg : w.grownBy w1 v2.ownBlock) (ho : w1.ownsRow B aT (128 * sz) (.slice (some ⟨g, 0, none⟩) (bl.length + 1) cap) (bl.length + 1) (bl.flatMap (arrE enc) ++ arrE enc L))
    (hf : v2.ownBlock = some g ∨ w.heap.size ≤ g) (hL : L.length = 128) : MkAt enc sz aT iT tv okv (w1.setCell ⟨tb, 2, none⟩ (.slice (some ⟨g, 0, none⟩) (bl.length + 1) cap)) B0 B tb mb kb eb v1 (.slice (some ⟨g, 0, none⟩) (bl.length + 1) cap) ks (bl ++ [L]) :=
  ⟨h.push2 hg ho hf hL,
    (hkn.grown hg (fun e => by have := (h.o2.lt _ e.symm).1; have := h.bk.2; omega)).grown (setCell_grown _ _ _) (fun e => h.nbt.2.1 (by injection e with e; exact e.symm)),
    (hev.grown hg (fun e => by have := (h.o2.lt _ e.symm).1; have := h.be.2; omega)).grown (setCell_grown _ _ _) (fun e => h.nbt.2.2.1 (by injection e with e; exact e.symm))⟩
end Go.Proofs.YtkeainhjghdfcaaGreat

/- Worlds that differ in few blocks. No program is named here. -/
namespace Go.Proofs.YtkeainhjghdfcaaGreat
open Go.RowKit

/-- Only the blocks of P may have changed. -/
structure Kept (P : Nat → Prop) (w w' : World) : Prop where
  os : w'.os = w.os
  tape : w'.tape = w.tape
  output : w'.output = w.output
  size : w.heap.size ≤ w'.heap.size
  block : ∀ j, j < w.heap.size → ¬ P j → w'.heap[j]? = w.heap[j]?

theorem Kept.of_grown {P : Nat → Prop} {w w' : World} {r : Option Nat} (h : w.grownBy w' r) (hb : ∀ b, r = some b → P b) : Kept P w w' :=
  ⟨h.os, h.tape, h.output, h.size, fun j hj hn => h.block j hj (by intro e; exact hn (hb j e.symm))⟩
theorem Kept.of_below {P : Nat → Prop} {w w' : World} (h : Below w.heap.size w w') : Kept P w w' := ⟨h.os, h.tape, h.output, h.size, fun j hj _ => h.block j hj⟩
theorem Kept.trans {P : Nat → Prop} {w w1 w2 : World} (h : Kept P w w1) (k : Kept P w1 w2) : Kept P w w2 :=
  ⟨k.os.trans h.os, k.tape.trans h.tape, k.output.trans h.output, Nat.le_trans h.size k.size, fun j hj hn => (k.block j (Nat.lt_of_lt_of_le hj h.size) hn).trans (h.block j hj hn)⟩
theorem Kept.mono {P Q : Nat → Prop} {w w' : World} (h : Kept P w w') (hq : ∀ j, P j → Q j) : Kept Q w w' := ⟨h.os, h.tape, h.output, h.size, fun j hj hn => h.block j hj fun hp => hn (hq j hp)⟩
theorem Kept.below {P : Nat → Prop} {B : Nat} {w w' : World} (h : Kept P w w') (hB : B ≤ w.heap.size) (hP : ∀ j, P j → B ≤ j) : Below B w w' :=
  ⟨h.os, h.tape, h.output, h.size, fun j hj => h.block j (by omega) fun hp => by have := hP j hp; omega⟩
theorem Kept.refl (P : Nat → Prop) (w : World) : Kept P w w := ⟨rfl, rfl, rfl, Nat.le_refl _, fun _ _ _ => rfl⟩
theorem Kept.cell {P : Nat → Prop} {w w' : World} {a : Addr} {v : Value} (h : Kept P w w') (hc : w.cell? a = some v) (hn : ¬ P a.block) : w'.cell? a = some v :=
  (World.cell?_of_block (h.block _ (World.block_lt_of_cell? w _ hc) hn)).trans hc
/-- a change of new blocks alone is none of the old ones -/
theorem Kept.new {P : Nat → Prop} {w w1 w2 : World} (h : Kept P w w1) (k : Kept (fun j => P j ∨ w.heap.size ≤ j) w1 w2) : Kept P w w2 :=
  ⟨k.os.trans h.os, k.tape.trans h.tape, k.output.trans h.output, Nat.le_trans h.size k.size, fun j hj hn => (k.block j (Nat.lt_of_lt_of_le hj h.size) (by rintro (h1 | h1); exact hn h1; omega)).trans (h.block j hj hn)⟩
theorem kept_setCell {P : Nat → Prop} (w : World) (a : Addr) (u : Value) (h : P a.block) : Kept P w (w.setCell a u) :=
  ⟨rfl, rfl, rfl, by simp, fun j _ hn => Below.heap_setCell _ _ _ _ (fun e => hn (e ▸ h))⟩
end Go.Proofs.YtkeainhjghdfcaaGreat

/- The plain law of building tries. No program here. -/
namespace Go.Proofs.YtkeainhjghdfcaaGreat

/-- the first j blocks of a trie hold what g says -/
structure TrieIs {α : Type} (g : Int → α) (j : Nat) (ks : List Nat) (bl : List (List α)) : Prop where
  len : ks.length = j
  tie : ∀ m, m < j → ∃ k L, ks[m]? = some k ∧ bl[k]? = some L ∧ ∀ i : Nat, i < 128 → L[i]? = some (g (128 * (m : Int) + i))
/-- v is what the numbers have from 'at' up to 'upto' -/
structure Val {α : Type} (g : Int → α) (okv : α → Prop) (v : α) (upto i : Int) : Prop where
  ok : okv v
  top : upto ≤ 1114111
  same : ∀ r, i ≤ r → r ≤ upto → g r = v

variable {α : Type} {g : Int → α} {okv : α → Prop} {j : Nat} {ks : List Nat} {bl bl' : List (List α)}
theorem trieIs_nil (bl : List (List α)) : TrieIs g 0 [] bl := ⟨rfl, fun m h => by omega⟩
theorem TrieIs.more (h : TrieIs g j ks bl) (hb : ∀ (k : Nat) (M : List α), bl[k]? = some M → bl'[k]? = some M) : TrieIs g j ks bl' :=
  ⟨h.len, fun m hm => let ⟨k, L, h1, h2, h3⟩ := h.tie m hm; ⟨k, L, h1, hb k L h2, h3⟩⟩
theorem TrieIs.push (h : TrieIs g j ks bl) {k : Nat} {L : List α} (hk : bl[k]? = some L) (hL : ∀ i : Nat, i < 128 → L[i]? = some (g (128 * (j : Int) + i))) : TrieIs g (j + 1) (ks ++ [k]) bl := by
  refine ⟨by rw [List.length_append, h.len]; rfl, fun m hm => ?_⟩
  by_cases hmj : m < j
  · obtain ⟨q, M, h1, h2, h3⟩ := h.tie m hmj
    exact ⟨q, M, by rw [List.getElem?_append_left (by rw [h.len]; exact hmj)]; exact h1, h2, h3⟩
  · have : m = j := by omega
    subst this
    exact ⟨k, L, by rw [List.getElem?_append_right (by rw [h.len]; exact Nat.le_refl _), h.len, Nat.sub_self]; rfl, hk, hL⟩
theorem Val.later {v : α} {upto i i' : Int} (h : Val g okv v upto i) (hi : i ≤ i') : Val g okv v upto i' := ⟨h.ok, h.top, fun r h1 h2 => h.same r (by omega) h2⟩
theorem val_find {z : α} {l : List (Pc α)} (hz : okv z) (hl : ∀ p ∈ l, okv p.v) {i : Int} (hi : i ≤ 1114111) : Val (pv z l) okv (fndP z i l 1114111).1 (fndP z i l 1114111).2 i ∧ i ≤ (fndP z i l 1114111).2 := by
  obtain ⟨h1, h2, h3, h4⟩ := fndP_spec z i l 1114111 hi
  refine ⟨⟨?_, h3, fun r hr1 hr2 => by rw [h1]; exact h4 r hr1 hr2⟩, h2⟩
  rw [h1]
  unfold pv
  cases hf : l.find? (hasP i) with
  | none => exact hz
  | some p => exact hl p (List.mem_of_find?_eq_some hf)
/-- a block of one value -/
theorem Val.block {v : α} {upto : Int} {m : Nat} (h : Val g okv v upto (128 * (m : Int))) (hu : 128 * (m : Int) + 127 ≤ upto) : ∀ i : Nat, i < 128 → (List.replicate 128 v)[i]? = some (g (128 * (m : Int) + i)) := by
  intro i hi
  rw [List.getElem?_replicate, if_pos hi, h.same (128 * m + i) (by omega) (by omega)]
end Go.Proofs.YtkeainhjghdfcaaGreat

/- What tables of rows say, out of spans: plain lemmas. -/
namespace Go.Proofs.YtkeainhjghdfcaaGreat
open Go.RowKit

theorem TrieIs.congr {α : Type} {g g' : Int → α} {ks : List Nat} {bl : List (List α)} (h : TrieIs g 8704 ks bl) (hg : ∀ r, 0 ≤ r → r ≤ 1114111 → g r = g' r) : TrieIs g' 8704 ks bl :=
  ⟨h.len, fun m hm => let ⟨k, L, h1, h2, h3⟩ := h.tie m hm; ⟨k, L, h1, h2, fun i hi => by rw [← hg _ (by omega) (by omega)]; exact h3 i hi⟩⟩
/-- all values of rows can be held -/
def RowsOk (R : List Rw) : Prop := ∀ x ∈ R, (Lit.int .i64 x.a).wf = true ∧ (Lit.int .i64 x.b).wf = true

/-- pieces out of spans -/
def pcOf {α : Type} (val : Span → α) (S : List Span) : List (Pc α) := S.map fun s => ⟨s.f, s.t, val s⟩
theorem pcOf_snoc {α : Type} (val : Span → α) (S : List Span) (s : Span) : pcOf val (S ++ [s]) = pcOf val S ++ [⟨s.f, s.t, val s⟩] := by simp [pcOf]
theorem pv_pcOf {α : Type} (z : α) (val : Span → α) : ∀ (S : List Span) (r : Int), pv z (pcOf val S) r = match S.find? (hasS r) with
    | some s => val s
    | none => z
  | [], _ => rfl
  | s :: S, r => by
    have ih := pv_pcOf z val S r
    unfold pcOf pv at ih ⊢
    rw [List.map_cons, List.find?_cons, List.find?_cons]
    have e : hasP r (⟨s.f, s.t, val s⟩ : Pc α) = hasS r s := rfl
    rw [e]
    cases hasS r s with
    | true => rfl
    | false => exact ih
theorem span_of_row {S : List Span} {R : List Rw} {kind : Int} (hG : Good S) (hS : Says S R kind) {s : Span} (hs : s ∈ S) : ∃ x ∈ R, x.k = kind ∧ x.a = s.a ∧ x.b = s.b := by
  have hok := hG.ok s hs
  have h1 : ansS S s.f = some (s.a, s.b) := (ansS_some hG.ris.dis).2 ⟨s, hs, hasS_iff.2 ⟨by omega, hok.2.1⟩, rfl⟩
  rw [hS s.f] at h1
  unfold ansR fnd at h1
  rw [if_pos ⟨hok.1, by have := hok.2.1; have := hok.2.2; omega⟩] at h1
  cases hf : R.find? (hasR kind s.f) with
  | none => rw [hf] at h1; cases h1
  | some x =>
    rw [hf] at h1
    have e : (x.a, x.b) = (s.a, s.b) := by simpa using h1
    exact ⟨x, List.mem_of_find?_eq_some hf, (hasR_iff.1 (List.find?_some hf)).1, congrArg Prod.fst e, congrArg Prod.snd e⟩
theorem Says.ok {S : List Span} {R : List Rw} {kind : Int} (hG : Good S) (hS : Says S R kind) (hR : RowsOk R) : ∀ s ∈ S, (Lit.int .i64 s.a).wf = true ∧ (Lit.int .i64 s.b).wf = true := by
  intro s hs
  obtain ⟨x, hx, _, h1, h2⟩ := span_of_row hG hS hs
  rw [← h1, ← h2]
  exact hR x hx
/-- what a number has -/
theorem pv_says {α : Type} {S : List Span} {R : List Rw} {kind : Int} (hS : Says S R kind) (z : α) (val : Int → Int → α) (r : Int) : pv z (pcOf (fun s => val s.a s.b) S) r = match fnd R kind r with
    | some x => val x.a x.b
    | none => z := by
  rw [pv_pcOf]
  have h := hS r
  unfold ansS ansR at h
  cases h1 : S.find? (hasS r) with
  | none => cases h2 : fnd R kind r with
    | none => rfl
    | some x => rw [h1, h2] at h; cases h
  | some s => cases h2 : fnd R kind r with
    | none => rw [h1, h2] at h; cases h
    | some x =>
      rw [h1, h2] at h
      have e : (s.a, s.b) = (x.a, x.b) := by simpa using h
      show val s.a s.b = val x.a x.b
      have e1 : s.a = x.a := congrArg Prod.fst e
      have e2 : s.b = x.b := congrArg Prod.snd e
      rw [e1, e2]
theorem pv_ofA {S : List Span} {R : List Rw} {kind : Int} (hS : Says S R kind) (r : Int) : pv 0 (pcOf (fun s => s.a) S) r = ofA R kind r := pv_says hS 0 (fun a _ => a) r
theorem good_few_f {S : List Span} (hG : Good S) {α : Type} (val : Span → α) : ∀ p ∈ pcOf val S, p.f ≤ 4611686018427387904 := by
  intro p hp
  obtain ⟨s, hs, rfl⟩ := List.mem_map.1 hp
  have := hG.ok s hs
  unfold okS at this
  show s.f ≤ _
  omega
end Go.Proofs.YtkeainhjghdfcaaGreat

/- A trie as it is read. No program is named here. -/
namespace Go.Proofs.YtkeainhjghdfcaaGreat
open Go.RowKit

section
variable {α : Type} {enc : α → List Value} {sz : Nat}
/-- the trie at block tb holds g -/
def TrieAt (enc : α → List Value) (sz : Nat) (g : Int → α) (B : Nat) (w : World) (tb : Nat) : Prop :=
  ∃ v1 v2 ks bl, tb < B ∧ w.cell? ⟨tb, 0, none⟩ = some (.int .i64 1114112) ∧ w.cell? ⟨tb, 1, none⟩ = some v1 ∧ w.cell? ⟨tb, 2, none⟩ = some v2 ∧ Rd B w 1 v1 ks.length (ks.map natV) ∧ Rd B w (128 * sz) v2 bl.length (bl.flatMap (arrE enc)) ∧ (∀ L ∈ bl, L.length = 128) ∧ TrieIs g 8704 ks bl
theorem TrieAt.below {g : Int → α} {B B' : Nat} {w w' : World} {tb : Nat} (h : TrieAt enc sz g B w tb) (hb : Below B' w w') (hB : B ≤ B') : TrieAt enc sz g B w' tb := by
  obtain ⟨v1, v2, ks, bl, h0, h1, h2, h3, h4, h5, h6, h7⟩ := h
  have hl : tb < B' := Nat.lt_of_lt_of_le h0 hB
  exact ⟨v1, v2, ks, bl, h0, (World.cell?_of_block (hb.block tb hl)).trans h1, (World.cell?_of_block (hb.block tb hl)).trans h2, (World.cell?_of_block (hb.block tb hl)).trans h3, h4.below hb hB, h5.below hb hB, h6, h7⟩
theorem trieAt_of_build {aT iT : TypeId} {g : Int → α} {w : World} {B0 B tb mb kb eb : Nat} {v1 v2 : Value} {ks : List Nat} {bl : List (List α)} (h : MkB enc sz aT iT w B0 B tb mb kb eb v1 v2 ks bl) (ht : TrieIs g 8704 ks bl) : TrieAt enc sz g w.heap.size w tb :=
  ⟨v1, v2, ks, bl, World.block_lt_of_cell? w _ h.t0, h.t0, h.t1, h.t2, rd_of_owns h.o1, rd_of_owns h.o2, h.len, ht⟩
theorem trieAt_cells (hsz : ∀ x, (enc x).length = sz) {g : Int → α} {B : Nat} {w : World} {tb : Nat} (h : TrieAt enc sz g B w tb) {m r : Nat} (hm : m < 8704) (hr : r < 128) :
    ∃ b1 o1 n1 c1 b2 o2 n2 c2 k, w.cell? ⟨tb, 0, none⟩ = some (.int .i64 1114112) ∧ w.cell? ⟨tb, 1, none⟩ = some (.slice (some ⟨b1, o1, none⟩) n1 c1) ∧ w.cell? ⟨tb, 2, none⟩ = some (.slice (some ⟨b2, o2, none⟩) n2 c2) ∧ m < n1 ∧ w.cell? ⟨b1, o1 + m, none⟩ = some (.int .i64 ((k : Nat) : Int)) ∧ k < n2 ∧
      ∀ j u, (enc (g (128 * (m : Int) + r)))[j]? = some u → w.cell? ⟨b2, o2 + k * (128 * sz) + r * sz + j, none⟩ = some u := by
  obtain ⟨v1, v2, ks, bl, _, h1, h2, h3, ⟨a1, c1, rfl, _, _, _, h4⟩, ⟨a2, c2, rfl, _, _, _, h5⟩, h6, h7⟩ := h
  obtain ⟨k, L, hk, hL, hx⟩ := h7.tie m hm
  have hx := hx r hr
  have hm' := (List.getElem?_eq_some_iff.1 hk).1
  have hk' := (List.getElem?_eq_some_iff.1 hL).1
  obtain ⟨b1, o1, rfl, _, hc1⟩ := h4 (by omega)
  obtain ⟨b2, o2, rfl, _, hc2⟩ := h5 (by omega)
  refine ⟨b1, o1, _, c1, b2, o2, _, c2, k, h1, h2, h3, hm', hc1 m (natV k) (by rw [List.getElem?_map, hk]; rfl), hk', fun j u hu => ?_⟩
  have hlen : ∀ M ∈ bl, (arrE enc M).length = 128 * sz := fun M hM => by unfold arrE; rw [flat_len hsz, h6 M hM]
  have e1 := flat_get hsz L r _ j u hx hu
  have e2 : ∀ (S : Nat) (bl : List (List α)) (k : Nat), (∀ M ∈ bl, (arrE enc M).length = S) → bl[k]? = some L → ∀ q u, (arrE enc L)[q]? = some u → (bl.flatMap (arrE enc))[k * S + q]? = some u := by
    intro S bl
    induction bl with
    | nil => intro k _ h; simp at h
    | cons M bl ih =>
      intro k hl hk q u hq
      rw [List.flatMap_cons]
      cases k with
      | zero =>
        simp at hk; subst hk
        rw [Nat.zero_mul, Nat.zero_add, List.getElem?_append_left (List.getElem?_eq_some_iff.1 hq).1]; exact hq
      | succ k =>
        have e : (k + 1) * S + q = S + (k * S + q) := by rw [Nat.succ_mul]; omega
        rw [e, List.getElem?_append_right (by rw [hl M List.mem_cons_self]; omega), hl M List.mem_cons_self, Nat.add_sub_cancel_left]
        exact ih k (fun N hN => hl N (List.mem_cons_of_mem _ hN)) (by simpa using hk) q u hq
  have e3 := hc2 _ u (e2 _ bl k hlen hL _ u e1)
  rw [show o2 + k * (128 * sz) + r * sz + j = o2 + (k * (128 * sz) + (r * sz + j)) by omega]
  exact e3
end
end Go.Proofs.YtkeainhjghdfcaaGreat

/- Rows of values of several cells. No program is named here. -/
namespace Go.Proofs.YtkeainhjghdfcaaGreat
open Go.RowKit

section
variable {α : Type} {enc : α → List Value} {sz : Nat} {w : World} {g t : Nat} {okv : α → Prop} {L : List α}
/-- a row of values being filled -/
def RowG (enc : α → List Value) (w : World) (g t : Nat) (okv : α → Prop) (L : List α) : Prop := w.heap[g]? = some (.cells (L.flatMap enc).toArray t (0, 0)) ∧ okL okv L
theorem RowG.put (hsz : ∀ x, (enc x).length = sz) (h : RowG enc w g t okv L) {i : Nat} (x : α) (hi : i < 128) (hx : okv x) : RowG enc (w.setCells g (i * sz) (enc x)) g t okv (L.set i x) := by
  refine ⟨row_put hsz h.1 i x (by rw [h.2.1]; exact hi), by rw [List.length_set]; exact h.2.1, fun y hy => ?_⟩
  rcases List.mem_or_eq_of_mem_set hy with hy | hy
  · exact h.2.2 y hy
  · rw [hy]; exact hx
theorem RowG.there (hsz : ∀ x, (enc x).length = sz) (h : RowG enc w g t okv L) {i : Nat} (hi : i < 128) : w.there g (i * sz) sz := row_there hsz h.1 i (by rw [h.2.1]; exact hi)
theorem RowG.free (h : RowG enc w g t okv L) (i : Nat) : w.frozen? ⟨g, i, none⟩ = false := by
  unfold World.frozen?; rw [h.1]; simp
theorem RowG.cell (hsz : ∀ x, (enc x).length = sz) (h : RowG enc w g t okv L) {i : Nat} (hi : i < 128) (j : Nat) (hj : j < sz) : ∃ u, w.cell? ⟨g, i * sz + j, none⟩ = some u := by
  have hx : L[i]? = some (L[i]'(by rw [h.2.1]; exact hi)) := List.getElem?_eq_getElem _
  generalize L[i]'(by rw [h.2.1]; exact hi) = x at hx
  refine ⟨(enc x)[j]'(by rw [hsz]; exact hj), ?_⟩
  rw [cell_of_row w g (i * sz + j) _ t (0, 0) h.1]
  have := flat_get hsz L i x j _ hx (List.getElem?_eq_getElem (by rw [hsz]; exact hj))
  rw [List.getElem?_toArray]
  exact this
theorem setCells_below {B : Nat} {a : World} : ∀ (vs : List Value) (o : Nat) (w : World), Below B a w → B ≤ g → Below B a (w.setCells g o vs)
  | [], _, _, h, _ => h
  | v :: r, o, _, h, hg => setCells_below r (o + 1) _ (h.setCell hg v) hg
theorem RowG.later {w' : World} (h : RowG enc w g t okv L) (hb : w'.heap[g]? = w.heap[g]?) : RowG enc w' g t okv L := ⟨hb.trans h.1, h.2⟩
end
end Go.Proofs.YtkeainhjghdfcaaGreat

/- Maps whose entries bear stamps: an entry made first and stored later. No program is named here. -/
namespace Go.Proofs.YtkeainhjghdfcaaGreat
open Go.RowKit Go.Maps Go.WideShapes Go.ChangeMaps

section
variable {α β : Type} {ek : α → Value} {ev : β → Value} {ok : α → Prop} {P : Program} {k : TypeId}
def StampedAt (w : World) (b : Nat) : Prop := ∃ es clock, w.heap[b]? = some (.map es clock) ∧ MapKept.Stamped es clock
structure MapS (ek : α → Value) (ev : β → Value) (ok : α → Prop) (w : World) (b : Nat) (f : α → Option β) : Prop where
  fn : MapFn ek ev ok w b f
  st : StampedAt w b
theorem mapS_made (ek : α → Value) (ev : β → Value) (ok : α → Prop) (w : World) : MapS ek ev ok (w.alloc (.map #[] 0)) w.heap.size (fun _ => none) :=
  ⟨mapFn_made ek ev ok w, #[], 0, heap_alloc_new w _, by simp [MapKept.Stamped]⟩
theorem MapS.same {w w' : World} {b : Nat} {f : α → Option β} (h : MapS ek ev ok w b f) (hb : w'.heap[b]? = w.heap[b]?) : MapS ek ev ok w' b f :=
  ⟨h.fn.same hb, let ⟨es, c, h1, h2⟩ := h.st; ⟨es, c, hb.trans h1, h2⟩⟩
theorem MapS.below {w w' : World} {b : Nat} {f : α → Option β} (h : MapS ek ev ok w b f) (hb : Below w.heap.size w w') : MapS ek ev ok w' b f := h.same (hb.block b h.fn.lt)
theorem MapS.isMap {w : World} {b : Nat} {f : α → Option β} (h : MapS ek ev ok w b f) : ∃ es c, w.heap[b]? = some (.map es c) := let ⟨es, c, h1, _⟩ := h.st; ⟨es, c, h1⟩

variable [DecidableEq α]
theorem findIdx_push {es : Array MapEntry} {clock : Nat} (hs : ∀ x ∈ es.toList, x.born < clock) (key val : Value) : (es.push ⟨key, val, clock⟩).findIdx? (fun e => (e.born : Int) == (clock : Int)) = some es.size := by
  rw [Array.findIdx?_eq_some_iff_getElem]
  refine ⟨by simp, by simp, fun j hj => ?_⟩
  have h1 : (es.push ⟨key, val, clock⟩)[j]'(by simp; omega) = es[j] := Array.getElem_push_lt (by omega)
  rw [h1]
  have := hs es[j] (by simp)
  simp
  omega
theorem findIdx_born {es : Array MapEntry} {clock : Nat} (hs : MapKept.Stamped es clock) {j : Nat} {e0 : MapEntry} (hj : es[j]? = some e0) : es.findIdx? (fun e => (e.born : Int) == (e0.born : Int)) = some j := by
  obtain ⟨h1, h2⟩ := Array.getElem?_eq_some_iff.1 hj
  rw [Array.findIdx?_eq_some_iff_getElem]
  refine ⟨h1, by simp [h2], fun i hi => ?_⟩
  have hnd := hs.2.1
  rw [List.nodup_iff_pairwise_ne, List.pairwise_iff_getElem] at hnd
  have := hnd i j (by simp; omega) (by simp; omega) hi
  simp at this
  rw [h2] at this
  simp
  omega

theorem MapS.entry (E : KeyE P k ek ok) {w : World} {b : Nat} {f : α → Option β} (h : MapS ek ev ok w b f) {t e : TypeId} (ht : P.underlying t = some (.map k e)) {z : Value} (hz : (zeroValue e).run P w = .ok z w) (x : α) (hx : ok x) :
    ∃ v0 st w1, (Instr.mapEntry t (.map (some b)) (ek x)).run P w = .ok (.tuple #[v0, .int .i64 st]) w1 ∧ w.grownBy w1 (some b) ∧ w1.heap.size = w.heap.size ∧ (∃ es c, w1.heap[b]? = some (.map es c)) ∧
      ∀ (v : β) (w' : World), w'.heap[b]? = w1.heap[b]? → ∃ w2, (Instr.entryStore t (.map (some b)) (.int .i64 st) (ev v)).run P w' = .ok () w2 ∧ w'.grownBy w2 (some b) ∧ w2.heap.size = w'.heap.size ∧ MapS ek ev ok w2 b (fnPut f x v) := by
  obtain ⟨hfn, es, clock, hb, hs⟩ := h
  have hput := fun v => run_put E hfn ht x v hx
  obtain ⟨es', clock', hb', h1, h2, h3⟩ := hfn
  rw [hb] at hb'
  cases hb'
  obtain ⟨l, hl⟩ := E.lit x hx
  rcases E.K.find w hl es.toList (fun e he => by obtain ⟨a, c, ha, hk, _⟩ := h1 e he; rw [hk]; exact E.lit a ha) with ⟨g1, g2⟩ | ⟨j, e0, g1, g2, g3⟩
  · refine ⟨z, clock, setBlock w b (.map (es.push ⟨ek x, z, clock⟩) (clock + 1)), ?_, ⟨rfl, rfl, rfl, by simp [setBlock], fun i _ hi => heap_setBlock_other hb _ (fun e => hi (by rw [e]))⟩, by simp [setBlock], ⟨_, _, heap_setBlock_same hb _⟩, ?_⟩
    · simp [Instr.mapEntry, run_underlying ht, MapKept.run_getObj_map hb, E.K.check w false hl, g1, hz, MapKept.run_setObj_map _ hb, Result.andThen, setBlock, goInt]
    · intro v w' hw'
      rw [heap_setBlock_same hb _] at hw'
      refine ⟨setBlock w' b (.map (es.push ⟨ek x, ev v, clock⟩) (clock + 1)), ?_, ⟨rfl, rfl, rfl, by simp [setBlock], fun i _ hi => heap_setBlock_other hw' _ (fun e => hi (by rw [e]))⟩, by simp [setBlock], ?_, ?_⟩
      · have hm : (es.push ⟨ek x, z, clock⟩).modify es.size (fun e => { e with val := ev v }) = es.push ⟨ek x, ev v, clock⟩ := by
          refine (Array.toList_inj.1 ?_)
          rw [Array.toList_modify, Array.toList_push, Array.toList_push, modify_eq_set _ _ _ ⟨ek x, z, clock⟩ (by simp)]
          rw [List.set_append_right (h := by simp)]
          simp
        simp [Instr.entryStore, MapKept.run_getObj_map hw', asInt, asIntOf, findIdx_push hs.1, hm, MapKept.run_setObj_map _ hw', Result.andThen, setBlock]
      · obtain ⟨w3, hr3, hf3, _⟩ := hput v
        have e3 : w3 = setBlock w b (.map (es.push ⟨ek x, ev v, clock⟩) (clock + 1)) := by
          have : (Instr.mapUpdate t (.map (some b)) (ek x) (ev v)).run P w = .ok () (setBlock w b (.map (es.push ⟨ek x, ev v, clock⟩) (clock + 1))) := by
            simp [Instr.mapUpdate, run_underlying ht, MapKept.run_getObj_map hb, E.K.check w false hl, g1, MapKept.run_setObj_map _ hb, Result.andThen, setBlock]
          rw [this] at hr3
          injection hr3 with _ h4
          exact h4.symm
        subst e3
        exact hf3.same (by rw [heap_setBlock_same hw' _, heap_setBlock_same hb _])
      · exact ⟨_, _, heap_setBlock_same hw' _, MapKept.stamped_push hs g2⟩
  · have hj : es[j]? = some e0 := by simpa using g2
    have hst := E.K.stays w hl
    have hmod : es.modify j (fun e' => { e' with key := ek x }) = es := by
      refine (Array.toList_inj.1 ?_)
      rw [Array.toList_modify, modify_eq_set _ _ _ _ g2]
      have e1 : ({ e0 with key := ek x } : MapEntry) = e0 := by rw [← g3]
      rw [e1]
      obtain ⟨q1, q2⟩ := List.getElem?_eq_some_iff.1 g2
      rw [← q2, List.set_getElem_self]
    refine ⟨e0.val, e0.born, setBlock w b (.map es clock), ?_, ⟨rfl, rfl, rfl, by simp [setBlock], fun i _ hi => heap_setBlock_other hb _ (fun e => hi (by rw [e]))⟩, by simp [setBlock], ⟨_, _, heap_setBlock_same hb _⟩, ?_⟩
    · simp [Instr.mapEntry, run_underlying ht, MapKept.run_getObj_map hb, E.K.check w false hl, g1, hj, g3, hst, MapKept.run_setObj_map _ hb, Result.andThen, setBlock, goInt, hmod]
    · intro v w' hw'
      rw [heap_setBlock_same hb _] at hw'
      refine ⟨setBlock w' b (.map (es.modify j (fun e' => { e' with val := ev v })) clock), ?_, ⟨rfl, rfl, rfl, by simp [setBlock], fun i _ hi => heap_setBlock_other hw' _ (fun e => hi (by rw [e]))⟩, by simp [setBlock], ?_, ?_⟩
      · simp [Instr.entryStore, MapKept.run_getObj_map hw', asInt, asIntOf, findIdx_born hs hj, MapKept.run_setObj_map _ hw', Result.andThen, setBlock]
      · obtain ⟨w3, hr3, hf3, _⟩ := hput v
        have hm2 : es.modify j (fun e' => { e' with key := ek x, val := ev v }) = es.modify j (fun e' => { e' with val := ev v }) := by
          refine (Array.toList_inj.1 ?_)
          rw [Array.toList_modify, Array.toList_modify, modify_eq_set _ _ _ _ g2, modify_eq_set _ _ _ _ g2, ← g3]
        have e3 : w3 = setBlock w b (.map (es.modify j (fun e' => { e' with val := ev v })) clock) := by
          have : (Instr.mapUpdate t (.map (some b)) (ek x) (ev v)).run P w = .ok () (setBlock w b (.map (es.modify j (fun e' => { e' with key := ek x, val := ev v })) clock)) := by
            simp [Instr.mapUpdate, run_underlying ht, MapKept.run_getObj_map hb, E.K.check w false hl, g1, hj, g3, hst, MapKept.run_setObj_map _ hb, Result.andThen, setBlock]
          rw [this, hm2] at hr3
          injection hr3 with _ h4
          exact h4.symm
        subst e3
        exact hf3.same (by rw [heap_setBlock_same hw' _, heap_setBlock_same hb _])
      · exact ⟨_, _, heap_setBlock_same hw' _, MapKept.stamped_modify hs _ _ (fun _ _ => rfl) (fun _ _ _ => rfl)⟩
end
end Go.Proofs.YtkeainhjghdfcaaGreat

/- From a walk to a law's statement: the frame that all laws share; how arguments are opened. No program is named here. -/
namespace Go.Proofs.YtkeainhjghdfcaaGreat
open Go.ChangeShapes Go.WideShapes Go.ChangeAt Go.RowKit Go.Deep

theorem trodAll_len {H : Type} {enc : TypeId × Value → H} {P : Program} {w : World} {base : Nat} {spare : Nat → Bool} {held : Bool} : ∀ (ts : List TypeId) (vs : List Value) (ds : List (DataW H)) (ps : List MemPlace),
    DataW.TrodAll enc P w base spare held ts vs ds ps → ds.length = ts.length ∧ vs.length = ts.length := by
  intro ts
  induction ts with
  | nil => intro vs ds ps h; obtain ⟨rfl, rfl, rfl⟩ := trodAll_nil h; exact ⟨rfl, rfl⟩
  | cons t ts ih =>
    intro vs ds ps h
    obtain ⟨v, vs', d, ds', p, q, rfl, rfl, rfl, _, h2⟩ := trodAll_cons h
    obtain ⟨h3, h4⟩ := ih _ _ _ h2
    exact ⟨by simp [h3], by simp [h4]⟩

theorem trodAll_stays {H : Type} {enc : TypeId × Value → H} {P : Program} (hl : laidOutB P = true) {W W' : World} (hb : Below W.heap.size W W') : ∀ (ts : List TypeId) (vs : List Value) (ds : List (DataW H)) (ps : List MemPlace),
    (∀ t ∈ ts, P.readableRec t = true ∧ t < P.types.size) → DataW.TrodAll enc P W 0 (fun _ => true) true ts vs ds ps → (∀ x ∈ ps, x.block < W.heap.size) →
    DataW.TrodAll enc P W' 0 (fun b => decide (b < W.heap.size)) true ts vs ds ps := by
  intro ts
  induction ts with
  | nil => intro vs ds ps _ h _; obtain ⟨rfl, rfl, rfl⟩ := trodAll_nil h; exact trodAll_mk0
  | cons t ts ih =>
    intro vs ds ps ht h hlt
    obtain ⟨v, vs', d, ds', p, q, rfl, rfl, rfl, h1, h2⟩ := trodAll_cons h
    have ht0 := ht t List.mem_cons_self
    exact trodAll_cons_mk (Below.trod hl ht0.1 ht0.2 h1 hb (fun x hx => hlt x (List.mem_append_left _ hx)))
      (ih _ _ _ (fun t' h' => ht t' (List.mem_cons_of_mem _ h')) h2 (fun x hx => hlt x (List.mem_append_right _ hx)))

/-- What a law's walk has to show: whatever the arguments read as, the call returns true, and nothing that was there has turned. -/
def LawWalk (P : Program) (f : FuncId) (fn : Func) : Prop :=
  ∀ (H : Type) (enc : TypeId × Value → H) (W : World) (base : Nat) (args : Array Value) (ds : List (DataW H)) (ps : List MemPlace),
    (∀ (j : Nat) t v, fn.params[j]? = some t → args[j]? = some v → Value.okWide P W .any base t v) →
    DataW.TrodAll enc P W 0 (fun _ => true) true fn.params.toList args.toList ds ps → (∀ x ∈ ps, x.block < W.heap.size) →
    Calls P f args W fun e W' => e = .returned (.bool true) ∧ Below W.heap.size W W'

theorem lifted_of_walk {C : Checked} {os : Os} {f : FuncId} {fn : Func} {s : ChangeSpec} {H : Type} {enc : TypeId × Value → H} {tb : TypeId}
    (own : ownKnob C.prog.godebug = none) (started : os.Started) (noInit : C.prog.inits.idxOf? f = none) (hfn : C.prog.funcs[f]? = some fn)
    (witness : ∃ (w : World) (tape : Tape) (i : Input), w.os = os ∧ (w.forCall tape i).Shaped C.prog ∧ i.vars = [] ∧ Input.okWide C.prog (w.forCall tape i) .any w.heap.size f i ∧
      s.pre6 enc C.prog fn [] false (w.forCall tape i).memory i.args ∧ ({} : Assume).holds C.prog (lone (Frame.enter C.prog f i.args .normal) [] (w.forCall tape i)))
    (hl : laidOutB C.prog = true) (hts : ∀ t ∈ fn.params.toList, C.prog.readableRec t = true ∧ t < C.prog.types.size) (hres : fn.resultTypes = #[tb]) (hbool : C.prog.underlying tb = some .bool)
    (hvars : s.vars = []) (hspec : ∀ ds : List (DataW H), ds.length = fn.params.toList.length → s.fn H (ds ++ []) = { results := [.lit (.bool true)], args := ds, vars := [] })
    (walk : LawWalk C.prog f fn) :
    ReturnsInHanded {} C os f .any (s.pre6 enc C.prog fn [] false) (s.post enc C.prog fn false true false false) := by
  refine returnsInHanded_of_change own started noInit hfn witness ?_
  intro W base args ds gs before hval hW _ _
  have hW' := hW
  obtain ⟨p, q, hA, hV, hp, _, _⟩ := hW
  rw [hvars] at hV
  obtain ⟨rfl, rfl⟩ := trodVars_none hV
  have hp' : before = p := by simpa using hp
  subst hp'
  have hlen := (trodAll_len _ _ _ _ hA).1
  have hlt : ∀ x ∈ before, x.block < W.heap.size := fun x hx => by simpa using hW'.lt x hx
  refine (walk H enc W base args ds before hval hA hlt).mono ?_
  rintro e W' ⟨rfl, hB⟩
  refine ⟨_, rfl, ds, [], before, [], before, [], hW', ?_, ?_, ?_, hB.frame _, fun h => by cases h⟩
  · rw [hspec ds hlen, hres]
    exact trodAll_mk1 (shut_bool hbool true)
  · rw [hspec ds hlen]
    exact trodAll_stays hl hB _ _ _ _ hts hA hlt
  · rw [hspec ds hlen, hvars]
    exact rfl

/-! ### Opening arguments -/
/-- Whatever reads as type t has the cells of some y. -/
def Reads {α : Type} (P : Program) (t : TypeId) (enc : α → List Value) (ok : α → Prop) : Prop :=
  ∀ (H : Type) (enc0 : TypeId × Value → H) (w : World) (base : Nat) (spare : Nat → Bool) (held : Bool) (fuel : Nat) (cs : List Value) (x : DataW H × List MemPlace),
    DataW.trod enc0 P w base spare held fuel t cs = some x → ∃ y, cs = enc y ∧ ok y

theorem reads_int {P : Program} {t : TypeId} {k : IntKind} (ht : P.underlying t = some (.int k)) : Reads P t (fun n : Int => [.int k n]) (fun n => (Lit.int k n).wf = true) := by
  intro H enc0 w base spare held fuel cs x h
  obtain ⟨n, hn, _, hw⟩ := DataW.trod_int ht h
  exact ⟨n, hn, hw⟩
theorem list_of_all {α : Type} (Q : Nat → α → Prop) : ∀ n, (∀ i, i < n → ∃ x, Q i x) → ∃ l : List α, l.length = n ∧ ∀ i x, l[i]? = some x → Q i x := by
  intro n
  induction n with
  | zero => intro _; exact ⟨[], rfl, fun i x h => by simp at h⟩
  | succ n ih =>
    intro h
    obtain ⟨l, hl, hq⟩ := ih (fun i hi => h i (by omega))
    obtain ⟨x, hx⟩ := h n (by omega)
    refine ⟨l ++ [x], by simp [hl], fun i y hy => ?_⟩
    rcases Nat.lt_or_ge i n with hlt | hge
    · rw [List.getElem?_append_left (by omega)] at hy
      exact hq i y hy
    · have hi : i = n := by
        have := (List.getElem?_eq_some_iff.1 hy).1
        simp at this
        omega
      subst hi
      rw [List.getElem?_append_right (by omega)] at hy
      simp [hl] at hy
      rw [← hy]
      exact hx

theorem flat_index {α : Type} {enc : α → List Value} {sz : Nat} (hsz : ∀ x, (enc x).length = sz) : ∀ (l : List α) (j : Nat) (u : Value), (l.flatMap enc)[j]? = some u → ∃ i x, l[i]? = some x ∧ ∃ k, k < sz ∧ j = i * sz + k ∧ (enc x)[k]? = some u := by
  intro l
  induction l with
  | nil => intro j u h; simp at h
  | cons y l ih =>
    intro j u h
    rw [List.flatMap_cons] at h
    rcases Nat.lt_or_ge j sz with hlt | hge
    · rw [List.getElem?_append_left (by rw [hsz]; exact hlt)] at h
      exact ⟨0, y, rfl, j, hlt, by omega, h⟩
    · rw [List.getElem?_append_right (by rw [hsz]; exact hge), hsz] at h
      obtain ⟨i, x, hx, k, hk, he, hu⟩ := ih _ _ h
      exact ⟨i + 1, x, by simpa using hx, k, hk, by rw [Nat.succ_mul]; omega, hu⟩

/-- A slice that came in, of elements that hold no addresses. -/
theorem rs_of_trod {H : Type} {enc0 : TypeId × Value → H} {P : Program} {W : World} {t e : TypeId} {sz : Nat} {α : Type} {enc : α → List Value} {ok : α → Prop} {v : Value} {d : DataW H} {p : List MemPlace} {spare : Nat → Bool} {r : Reach} {b0 : Nat}
    (ht : P.underlying t = some (.slice e)) (hC : P.cellsOf e = sz) (hsz : ∀ x, (enc x).length = sz) (hpos : 0 < sz) (hR : Reads P e enc ok) (hv : Value.okWide P W r b0 t v) (h : DataW.Trod enc0 P W 0 spare true t v d p) :
    ∃ l : List α, Rs W.heap.size W enc sz v l ∧ ∀ y ∈ l, ok y := by
  obtain ⟨a0, len, cap, rfl⟩ := okWide_slice ht hv
  obtain ⟨fuel, hf⟩ := h
  rcases open_slice ht hf with ⟨hcs, hx⟩ | ⟨a, len', cap', m, n, D, Pl, hcs, hb, hl, hm, hmm, hx, hi⟩
  · simp only [Value.cells, List.cons.injEq, Value.slice.injEq, and_true] at hcs
    obtain ⟨rfl, rfl, rfl⟩ := hcs
    exact ⟨[], Rd.nil _ _ _, fun y hy => by simp at hy⟩
  · simp only [Value.cells, List.cons.injEq, Value.slice.injEq, and_true] at hcs
    obtain ⟨rfl, rfl, rfl⟩ := hcs
    rw [hC] at hi
    obtain ⟨l, hlen, hq⟩ := list_of_all (fun i (y : α) => (∀ k u, (enc y)[k]? = some u → W.cell? (a.add (i * sz + k)) = some u) ∧ ok y) len (fun i hil => by
      have him : i < m := by rw [hmm]; split <;> omega
      obtain ⟨cs', hc, ht'⟩ := hi i him
      obtain ⟨_, hcl, hat⟩ := World.cells?_some hc
      obtain ⟨y, rfl, hok⟩ := hR _ _ _ _ _ _ _ _ _ ht'
      refine ⟨y, fun k u hu => ?_, hok⟩
      have hk := (List.getElem?_eq_some_iff.1 hu).1
      rw [← Go.Deep.add_add, hat k (by omega), hu])
    subst hlen
    refine ⟨l, ⟨some a, cap, rfl, hl, hm, flat_len hsz l, fun hn => ?_⟩, fun y hy => ?_⟩
    · obtain ⟨b, off, spot⟩ := a
      have h0 : l[0]? = some l[0] := List.getElem?_eq_getElem hn
      have hc0 := (hq 0 _ h0).1 0 ((enc l[0])[0]'(by rw [hsz]; exact hpos)) (List.getElem?_eq_getElem _)
      have hspot : spot = none := by simpa [Addr.add] using World.cell?_spot hc0
      subst hspot
      have hb : b < W.heap.size := by
        have := World.block_lt_of_cell? W _ hc0
        simpa [Addr.add] using this
      refine ⟨b, off, rfl, hb, fun j u hu => ?_⟩
      obtain ⟨i, x, hx, k, hk, rfl, hku⟩ := flat_index hsz l j u hu
      have := (hq i x hx).1 k u hku
      unfold Addr.add at this
      split at this
      · rename_i h0; rw [h0]; exact this
      · exact this
    · obtain ⟨i, hi'⟩ := List.mem_iff_getElem?.1 hy
      exact (hq i y hi').2
end Go.Proofs.YtkeainhjghdfcaaGreat

/- Boundaries around a place, plainly. -/
namespace Go.Proofs.YtkeainhjghdfcaaGreat

def isB (T : Tab) (s : List Int) (i : Nat) : Bool := decide (i = s.length) || begAt T s i
theorem isB_len (T : Tab) (s : List Int) : isB T s s.length = true := by simp [isB]
theorem isB_lt {T : Tab} {s : List Int} {i : Nat} (h : i < s.length) : isB T s i = begAt T s i := by
  unfold isB
  rw [decide_eq_false (by omega), Bool.false_or]
end Go.Proofs.YtkeainhjghdfcaaGreat

/- Texts of glyphs, one behind the other. No program is named here. -/
namespace Go.Proofs.YtkeainhjghdfcaaGreat
open Go.RowKit

/-- texts one behind the other -/
def catG (b0 : ByteArray) (G : List Gy) : ByteArray := G.foldl (fun b g => b ++ g.1) b0
theorem catG_snoc (b0 : ByteArray) (G : List Gy) (g : Gy) : catG b0 (G ++ [g]) = catG b0 G ++ g.1 := by unfold catG; rw [List.foldl_append]; rfl
end Go.Proofs.YtkeainhjghdfcaaGreat

/- Rows of strings; an operation whose guard says no. -/
namespace Go.Proofs.YtkeainhjghdfcaaGreat
open Go.RowKit

theorem EStr : ElemT Tryz.prog 69 9 1 16 := elemT_of (by kernel_rfl) (z := .string ⟨#[]⟩) (by kernel_rfl) rfl (by decide) (by decide)
def strE (s : ByteArray) : List Value := [.string s]
theorem strE_one (s : ByteArray) : ∀ u ∈ strE s, u.oneCell' = true := by intro u hu; simp [strE] at hu; subst hu; rfl
end Go.Proofs.YtkeainhjghdfcaaGreat

/- Slices that are made whole: rows of numbers, of strings; what a store leaves of them. -/
namespace Go.Proofs.YtkeainhjghdfcaaGreat
open Go.RowKit

/-- block b holds just these values -/
def RowB (w : World) (b : Nat) (t : TypeId) (xs : List Value) : Prop := w.heap[b]? = some (.cells xs.toArray t (0, 0))
theorem RowB.lt {w : World} {b : Nat} {t : TypeId} {xs : List Value} (h : RowB w b t xs) : b < w.heap.size := (Array.getElem?_eq_some_iff.1 h).1
theorem RowB.cell {w : World} {b : Nat} {t : TypeId} {xs : List Value} (h : RowB w b t xs) {i : Nat} {v : Value} (hi : xs[i]? = some v) : w.cell? ⟨b, i, none⟩ = some v := by
  rw [cell_of_row _ _ i _ _ _ h]; simpa using hi
theorem RowB.below {w w' : World} {b : Nat} {t : TypeId} {xs : List Value} (h : RowB w b t xs) (hb : Below w.heap.size w w') : RowB w' b t xs := (hb.block b h.lt).trans h
theorem RowB.set {w : World} {b : Nat} {t : TypeId} {xs : List Value} (h : RowB w b t xs) (i : Nat) (v : Value) : RowB (w.setCell ⟨b, i, none⟩ v) b t (xs.set i v) := by
  have := heap_setCell_same w b i xs.toArray t v h
  rw [List.setIfInBounds_toArray] at this
  exact this
theorem RowB.other {w : World} {b c i : Nat} {t : TypeId} {xs : List Value} {v : Value} (h : RowB w b t xs) (hn : b ≠ c) : RowB (w.setCell ⟨c, i, none⟩ v) b t xs := (Below.heap_setCell w _ v b hn).trans h
/-- strings as values -/
def strs (l : List ByteArray) : List Value := l.map .string
theorem strs_get {l : List ByteArray} {k : Nat} {t : ByteArray} (h : l[k]? = some t) : (strs l)[k]? = some (.string t) := by simp [strs, h]
theorem strs_flat (l : List ByteArray) : l.flatMap strE = strs l := by
  induction l with
  | nil => rfl
  | cons x l ih => rw [List.flatMap_cons, ih]; rfl
/-- a slice of strings reads as l -/
def StrsIn (w : World) (v : Value) (l : List ByteArray) : Prop := Rd w.heap.size w 1 v l.length (strs l)
theorem StrsIn.below {w w' : World} {v : Value} {l : List ByteArray} (h : StrsIn w v l) (hb : Below w.heap.size w w') : StrsIn w' v l := (Rd.below h hb (Nat.le_refl _)).mono hb.size
theorem strs_of_owns {w : World} {base n : Nat} {e : TypeId} {v : Value} {l : List ByteArray} (h : w.ownsRow base e 1 v n (l.flatMap strE)) (hn : n = l.length) : StrsIn w v l := by
  subst hn
  rw [strs_flat] at h
  exact rd_of_owns h
theorem strs_shape {w : World} {v : Value} {l : List ByteArray} (h : StrsIn w v l) : ∃ a cap, v = .slice a l.length cap ∧ l.length ≤ cap ∧ cap ≤ maxLen := by
  obtain ⟨a, cap, rfl, h1, h2, _⟩ := h
  exact ⟨a, cap, rfl, h1, h2⟩
theorem strs_cell {w : World} {v : Value} {l : List ByteArray} (h : StrsIn w v l) {k : Nat} {t : ByteArray} (hx : l[k]? = some t) : ∃ b off cap, v = .slice (some ⟨b, off, none⟩) l.length cap ∧ k < l.length ∧ l.length ≤ cap ∧ cap ≤ maxLen ∧ b < w.heap.size ∧ w.cell? ⟨b, off + k, none⟩ = some (.string t) := by
  obtain ⟨a, cap, rfl, h1, h2, _, h4⟩ := h
  have hk := (List.getElem?_eq_some_iff.1 hx).1
  obtain ⟨b, off, rfl, hb, hq⟩ := h4 (by omega)
  exact ⟨b, off, cap, rfl, hk, h1, h2, hb, hq k _ (strs_get hx)⟩
end Go.Proofs.YtkeainhjghdfcaaGreat
