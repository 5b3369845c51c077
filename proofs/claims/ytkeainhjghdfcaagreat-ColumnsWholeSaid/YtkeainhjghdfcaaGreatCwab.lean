/- Joined texts: FlagP TrieN TrieR Kept TrieQ TabP TrieS TrieT MapS Law ColP ColB ColC ColD ColE ColF DecP. -/
import Derived.Deep.Upon
import Derived.Deep.MidRow
import Derived.MapKept
import Derived.ProofKit
import Derived.OpenShut
import Derived.Deep.Slices
import Derived.Deep.Fields
import Derived.ChangeSame
import Derived.SizedLaws
import Derived.Test.YtkeainhjghdfcaaGreatCwaa

/- The plain law of truths: pieces out of where truths may change. No program here. -/
namespace Go.Proofs.YtkeainhjghdfcaaGreat

structure Flg where
  pict : Bool
  wide : Bool
  letter : Bool
  out : Bool
deriving DecidableEq
def noFlg : Flg := ⟨false, false, false, false⟩

def spanAt (S : List Span) (r : Int) : Option Span := S.find? (hasS r)
def oneAt (S : List Span) (r : Int) : Bool := match spanAt S r with
  | some x => decide (x.a = 1)
  | none => false
def toAt (S : List Span) (r last : Int) : Int := match spanAt S r with
  | some x => min last x.t
  | none => last
structure Four where
  s0 : List Span
  s1 : List Span
  s2 : List Span
  s3 : List Span
def Four.all (F : Four) : List (List Span) := [F.s0, F.s1, F.s2, F.s3]
def flgAt (F : Four) (r : Int) : Flg := ⟨oneAt F.s0 r, oneAt F.s1 r, oneAt F.s2 r, oneAt F.s3 r⟩
def lastAt (F : Four) (r : Int) : Int := toAt F.s3 r (toAt F.s2 r (toAt F.s1 r (toAt F.s0 r 1114111)))
def uptoS (at' : Int) : List Span → Int → Int
  | [], last => last
  | s :: S, last => uptoS at' S (if at' < s.f ∧ s.f ≤ last then s.f - 1 else last)
def uptoL (at' : Int) : List (List Span) → Int → Int
  | [], last => last
  | S :: SS, last => uptoL at' SS (uptoS at' S last)
def pieceAt (F : Four) (r : Int) : List (Pc Flg) := if flgAt F r = noFlg then [] else [⟨r, uptoL r F.all (lastAt F r), flgAt F r⟩]
def piecesF (F : Four) (C : List Int) : List (Pc Flg) := C.flatMap (pieceAt F)

theorem uptoS_le (a : Int) : ∀ (S : List Span) (last : Int), uptoS a S last ≤ last ∧ ∀ s ∈ S, a < s.f → uptoS a S last < s.f := by
  intro S
  induction S with
  | nil => intro last; exact ⟨Int.le_refl _, fun s h => by cases h⟩
  | cons z S ih =>
    intro last
    obtain ⟨h1, h2⟩ := ih (if a < z.f ∧ z.f ≤ last then z.f - 1 else last)
    have e : uptoS a (z :: S) last = uptoS a S (if a < z.f ∧ z.f ≤ last then z.f - 1 else last) := rfl
    rw [e]
    refine ⟨?_, fun s hs ha => ?_⟩
    · split at h1 <;> split <;> omega
    · rcases List.mem_cons.1 hs with rfl | hs
      · split at h1 <;> split <;> omega
      · exact h2 s hs ha
theorem uptoS_ge (a i : Int) : ∀ (S : List Span) (last : Int), i ≤ last → (∀ s ∈ S, a < s.f → i < s.f) → i ≤ uptoS a S last := by
  intro S
  induction S with
  | nil => intro last h _; exact h
  | cons z S ih =>
    intro last h hs
    have e : uptoS a (z :: S) last = uptoS a S (if a < z.f ∧ z.f ≤ last then z.f - 1 else last) := rfl
    rw [e]
    refine ih _ ?_ (fun s hm => hs s (List.mem_cons_of_mem _ hm))
    split
    · rename_i hc; have := hs z List.mem_cons_self hc.1; omega
    · exact h
theorem uptoL_le (a : Int) : ∀ (SS : List (List Span)) (last : Int), uptoL a SS last ≤ last ∧ ∀ S ∈ SS, ∀ s ∈ S, a < s.f → uptoL a SS last < s.f := by
  intro SS
  induction SS with
  | nil => intro last; exact ⟨Int.le_refl _, fun s h => by cases h⟩
  | cons Z SS ih =>
    intro last
    obtain ⟨h1, h2⟩ := ih (uptoS a Z last)
    obtain ⟨k1, k2⟩ := uptoS_le a Z last
    have e : uptoL a (Z :: SS) last = uptoL a SS (uptoS a Z last) := rfl
    rw [e]
    refine ⟨by omega, fun S hS s hs ha => ?_⟩
    rcases List.mem_cons.1 hS with rfl | hS
    · have := k2 s hs ha; omega
    · exact h2 S hS s hs ha
theorem uptoL_ge (a i : Int) : ∀ (SS : List (List Span)) (last : Int), i ≤ last → (∀ S ∈ SS, ∀ s ∈ S, a < s.f → i < s.f) → i ≤ uptoL a SS last := by
  intro SS
  induction SS with
  | nil => intro last h _; exact h
  | cons Z SS ih =>
    intro last h hs
    exact ih _ (uptoS_ge a i Z last h (hs Z List.mem_cons_self)) (fun S hS => hs S (List.mem_cons_of_mem _ hS))

theorem spanAt_some {S : List Span} {r : Int} {x : Span} (h : spanAt S r = some x) : x ∈ S ∧ x.f ≤ r ∧ r ≤ x.t := ⟨List.mem_of_find?_eq_some h, hasS_iff.1 (List.find?_some h)⟩
theorem spanAt_of {S : List Span} (h : Dis S) {r : Int} {x : Span} (hx : x ∈ S) (h1 : x.f ≤ r) (h2 : r ≤ x.t) : spanAt S r = some x := by
  unfold spanAt
  cases hf : S.find? (hasS r) with
  | none => exact absurd (hasS_iff.2 ⟨h1, h2⟩) (by simpa using List.find?_eq_none.1 hf x hx)
  | some y => rw [one_of_dis h hx (List.mem_of_find?_eq_some hf) (hasS_iff.2 ⟨h1, h2⟩) (List.find?_some hf)]
theorem toAt_le (S : List Span) (r last : Int) : toAt S r last ≤ last ∧ ∀ x, spanAt S r = some x → toAt S r last ≤ x.t := by
  unfold toAt
  cases h : spanAt S r with
  | none => exact ⟨Int.le_refl _, fun x h => by cases h⟩
  | some x => exact ⟨by dsimp only; omega, fun y hy => by cases hy; dsimp only; omega⟩
theorem toAt_ge (S : List Span) (r last i : Int) (h : i ≤ last) (hx : ∀ x, spanAt S r = some x → i ≤ x.t) : i ≤ toAt S r last := by
  unfold toAt
  cases hs : spanAt S r with
  | none => exact h
  | some x => have := hx x hs; dsimp only; omega

theorem lastAt_le (F : Four) (r : Int) : lastAt F r ≤ 1114111 ∧ ∀ S ∈ F.all, ∀ x, spanAt S r = some x → lastAt F r ≤ x.t := by
  unfold lastAt
  have h0 := toAt_le F.s0 r 1114111
  have h1 := toAt_le F.s1 r (toAt F.s0 r 1114111)
  have h2 := toAt_le F.s2 r (toAt F.s1 r (toAt F.s0 r 1114111))
  have h3 := toAt_le F.s3 r (toAt F.s2 r (toAt F.s1 r (toAt F.s0 r 1114111)))
  refine ⟨by omega, fun S hS x hx => ?_⟩
  unfold Four.all at hS
  simp at hS
  rcases hS with rfl | rfl | rfl | rfl
  · have := h0.2 x hx; omega
  · have := h1.2 x hx; omega
  · have := h2.2 x hx; omega
  · have := h3.2 x hx; omega
theorem lastAt_ge (F : Four) (r i : Int) (h : i ≤ 1114111) (hx : ∀ S ∈ F.all, ∀ x, spanAt S r = some x → i ≤ x.t) : i ≤ lastAt F r := by
  unfold lastAt
  refine toAt_ge _ _ _ _ (toAt_ge _ _ _ _ (toAt_ge _ _ _ _ (toAt_ge _ _ _ _ h ?_) ?_) ?_) ?_
  · exact hx F.s0 (by simp [Four.all])
  · exact hx F.s1 (by simp [Four.all])
  · exact hx F.s2 (by simp [Four.all])
  · exact hx F.s3 (by simp [Four.all])

/-- within a piece nothing changes -/
theorem spanAt_same {F : Four} (hG : ∀ S ∈ F.all, Good S) {a i : Int} (h1 : a ≤ i) (h2 : i ≤ uptoL a F.all (lastAt F a)) : ∀ S ∈ F.all, spanAt S i = spanAt S a := by
  obtain ⟨u1, u2⟩ := uptoL_le a F.all (lastAt F a)
  obtain ⟨l1, l2⟩ := lastAt_le F a
  intro S hS
  have hd := (hG S hS).ris.dis
  cases ha : spanAt S a with
  | some x =>
    obtain ⟨hx, h3, h4⟩ := spanAt_some ha
    have := l2 S hS x ha
    exact spanAt_of hd hx (by omega) (by omega)
  | none =>
    cases hi : spanAt S i with
    | none => rfl
    | some y =>
      exfalso
      obtain ⟨hy, h3, h4⟩ := spanAt_some hi
      by_cases hc : a < y.f
      · have := u2 S hS y hy hc; omega
      · rw [spanAt_of hd hy (by omega) (by omega)] at ha; cases ha
theorem flgAt_same {F : Four} (hG : ∀ S ∈ F.all, Good S) {a i : Int} (h1 : a ≤ i) (h2 : i ≤ uptoL a F.all (lastAt F a)) : flgAt F i = flgAt F a := by
  have h := spanAt_same hG h1 h2
  have e : ∀ S ∈ F.all, oneAt S i = oneAt S a := fun S hS => by unfold oneAt; rw [h S hS]
  unfold flgAt
  rw [e F.s0 (by simp [Four.all]), e F.s1 (by simp [Four.all]), e F.s2 (by simp [Four.all]), e F.s3 (by simp [Four.all])]

/-- where truths may change -/
structure Cuts (F : Four) (C : List Int) : Prop where
  zero : (0 : Int) ∈ C
  from_ : ∀ S ∈ F.all, ∀ s ∈ S, s.f ∈ C
  to_ : ∀ S ∈ F.all, ∀ s ∈ S, s.t + 1 ∈ C

theorem max_le (C : List Int) (i : Int) (h0 : (0 : Int) ∈ C) (hi : 0 ≤ i) : ∃ m ∈ C, m ≤ i ∧ ∀ c ∈ C, c ≤ i → c ≤ m := by
  have key : ∀ (C : List Int), (∃ m ∈ C, m ≤ i ∧ ∀ c ∈ C, c ≤ i → c ≤ m) ∨ ∀ c ∈ C, i < c := by
    intro C
    induction C with
    | nil => exact .inr fun c h => by cases h
    | cons x C ih =>
      rcases ih with ⟨m, hm, h1, h2⟩ | h
      · by_cases hx : x ≤ i ∧ m < x
        · refine .inl ⟨x, List.mem_cons_self, hx.1, fun c hc h3 => ?_⟩
          rcases List.mem_cons.1 hc with rfl | hc
          · exact Int.le_refl _
          · have := h2 c hc h3; omega
        · refine .inl ⟨m, List.mem_cons_of_mem _ hm, h1, fun c hc h3 => ?_⟩
          rcases List.mem_cons.1 hc with rfl | hc
          · omega
          · exact h2 c hc h3
      · by_cases hx : x ≤ i
        · refine .inl ⟨x, List.mem_cons_self, hx, fun c hc h3 => ?_⟩
          rcases List.mem_cons.1 hc with rfl | hc
          · exact Int.le_refl _
          · have := h c hc; omega
        · refine .inr fun c hc => ?_
          rcases List.mem_cons.1 hc with rfl | hc
          · omega
          · exact h c hc
  rcases key C with h | h
  · exact h
  · have := h 0 h0; omega

theorem piecesF_says {F : Four} {C : List Int} (hG : ∀ S ∈ F.all, Good S) (hC : Cuts F C) (i : Int) (h0 : 0 ≤ i) (h1 : i ≤ 1114111) : pv noFlg (piecesF F C) i = flgAt F i := by
  unfold pv
  cases hf : (piecesF F C).find? (hasP i) with
  | some p =>
    dsimp only
    have hp := List.mem_of_find?_eq_some hf
    have hi := hasP_iff.1 (List.find?_some hf)
    obtain ⟨a, ha, hpa⟩ := List.mem_flatMap.1 hp
    unfold pieceAt at hpa
    split at hpa
    · cases hpa
    · simp at hpa
      subst hpa
      exact (flgAt_same hG hi.1 hi.2).symm
  | none =>
    dsimp only
    rcases Decidable.em (flgAt F i = noFlg) with he | he
    · exact he.symm
    · exfalso
      obtain ⟨m, hm, hmi, hmx⟩ := max_le C i hC.zero h0
      have hu : i ≤ uptoL m F.all (lastAt F m) := by
        refine uptoL_ge _ _ _ _ (lastAt_ge F m i h1 ?_) ?_
        · intro S hS x hx
          obtain ⟨hxS, _, h3⟩ := spanAt_some hx
          have := hC.to_ S hS x hxS
          rcases Int.lt_or_le x.t i with h4 | h4
          · have := hmx _ this (by omega); omega
          · exact h4
        · intro S hS s hs h3
          have := hC.from_ S hS s hs
          rcases Int.lt_or_le i s.f with h4 | h4
          · exact h4
          · have := hmx _ this h4; omega
      have hsame := flgAt_same hG hmi hu
      have hne : flgAt F m ≠ noFlg := fun e => he (hsame.trans e)
      have hmem : (⟨m, uptoL m F.all (lastAt F m), flgAt F m⟩ : Pc Flg) ∈ piecesF F C := List.mem_flatMap.2 ⟨m, hm, by unfold pieceAt; rw [if_neg hne]; exact List.mem_singleton.2 rfl⟩
      have := List.find?_eq_none.1 hf _ hmem
      exact this (hasP_iff.2 ⟨hmi, hu⟩)
end Go.Proofs.YtkeainhjghdfcaaGreat

/- Arrays as keys of maps. No program is named here. -/
namespace Go.Proofs.YtkeainhjghdfcaaGreat
open Go.RowKit

section
variable {α : Type} {enc : α → List Value} {sz : Nat}
theorem chunk_at (hsz : ∀ x, (enc x).length = sz) : ∀ (L : List α) (i : Nat) (x : α), L[i]? = some x → ((L.flatMap enc).drop (i * sz)).take sz = enc x := by
  intro L
  induction L with
  | nil => intro i x h; simp at h
  | cons y L ih =>
    intro i x h
    rw [List.flatMap_cons]
    cases i with
    | zero =>
      simp at h; subst h
      rw [Nat.zero_mul, List.drop_zero, List.take_append_of_le_length (by rw [hsz]; exact Nat.le_refl _), List.take_of_length_le (by rw [hsz]; exact Nat.le_refl _)]
    | succ i =>
      have e : ((enc y ++ L.flatMap enc).drop ((i + 1) * sz)) = (L.flatMap enc).drop (i * sz) := by
        rw [List.drop_append, List.drop_of_length_le (by rw [hsz]; rw [Nat.succ_mul]; omega), List.nil_append, hsz, Nat.succ_mul, Nat.add_sub_cancel]
      rw [e]
      exact ih i x (by simpa using h)
theorem flat_inj (hsz : ∀ x, (enc x).length = sz) (hpos : 0 < sz) (hinj : ∀ x y, enc x = enc y → x = y) : ∀ (L M : List α), L.flatMap enc = M.flatMap enc → L = M := by
  intro L
  induction L with
  | nil =>
    intro M h
    cases M with
    | nil => rfl
    | cons y M => have := congrArg List.length h; rw [List.flatMap_cons, List.length_append, hsz] at this; simp at this; omega
  | cons x L ih =>
    intro M h
    cases M with
    | nil => have := congrArg List.length h; rw [List.flatMap_cons, List.length_append, hsz] at this; simp at this; omega
    | cons y M =>
      rw [List.flatMap_cons, List.flatMap_cons] at h
      obtain ⟨h1, h2⟩ := List.append_inj h (by rw [hsz, hsz])
      rw [hinj _ _ h1, ih M h2]

theorem arrK_inj (hsz : ∀ x, (enc x).length = sz) (hpos : 0 < sz) (hinj : ∀ x y, enc x = enc y → x = y) (L M : List α) (h : arrK enc L = arrK enc M) : L = M := by
  unfold arrK at h
  injection h with h
  exact flat_inj hsz hpos hinj L M (by simpa using h)

theorem keyArr {P : Program} {aT eT : TypeId} {okv : α → Prop} (hl : laidOutB P = true) (hsm : P.types.size + 2 ≤ 10000) (hrow : aT < P.types.size) (hk : P.keyType aT = true) (hu : P.underlying aT = some (.array 128 eT)) (hc : P.cellsOf eT = sz) (hca : P.cellsOf aT = 128 * sz)
    (hsz : ∀ x, (enc x).length = sz) (hpos : 0 < sz) (hinj : ∀ x y, enc x = enc y → x = y) (hel : ∀ x, okv x → IsKey P P.types.size eT (enc x)) : KeyE P aT (arrK enc) (okL okv) where
  K := Maps.Keyed.of_law (deep_law_gate hl hsm hrow hk (by rw [hu]))
  lit L hL := by
    have hlen : (L.flatMap enc).length = P.cellsOf aT := by rw [flat_len hsz, hL.1, hca]
    refine keyOf_agg (by rw [hu]) hk hlen (isKey_array hu hlen hc fun i hi => ?_)
    have hx : L[i]? = some (L[i]'(by rw [hL.1]; exact hi)) := List.getElem?_eq_getElem _
    rw [chunk_at hsz L i _ hx]
    exact hel _ (hL.2 _ (List.getElem_mem _))
  inj := arrK_inj hsz hpos hinj

theorem keyInt {P : Program} {t : TypeId} {q : IntKind} (ht : P.underlying t = some (.int q)) : KeyE P t (fun n : Int => .int q n) (fun n => (Lit.int q n).wf = true) where
  K := Maps.int_keyed ht
  lit n hn := ⟨.int q n, by rw [keyOf_int ht]; unfold mapKey; rw [ht]; simp [hn]⟩
  inj a b h := by injection h
end

/-- a map's state behind a store at a key that is new: still known, with the block to come -/
theorem Known.put {α : Type} {enc : α → List Value} {okv : α → Prop} {w' : World} {kb : Nat} {bl : List (List α)} {f : List α → Option Nat} [DecidableEq α] (hf : ∀ L k, f L = some k → bl[k]? = some L) (L : List α) (hm : MapFn (arrK enc) natV (okL okv) w' kb (fnPut f L bl.length)) : Known enc okv w' kb (bl ++ [L]) := by
  refine ⟨_, hm, fun M k hk => ?_⟩
  by_cases h : M = L
  · subst h
    rw [fnPut_same] at hk
    cases hk
    simp
  · rw [fnPut_other _ _ h] at hk
    have := hf M k hk
    rw [List.getElem?_append_left (List.getElem?_eq_some_iff.1 this).1]; exact this
theorem Even.put {α : Type} {tv : α → Value} {okv : α → Prop} {w' : World} {eb : Nat} {bl : List (List α)} {f : α → Option Nat} [DecidableEq α] (hf : ∀ x k, f x = some k → bl[k]? = some (List.replicate 128 x)) (x : α) (k : Nat) (hk : bl[k]? = some (List.replicate 128 x)) (hm : MapFn tv natV okv w' eb (fnPut f x k)) : Even tv okv w' eb bl := by
  refine ⟨_, hm, fun y j hj => ?_⟩
  by_cases h : y = x
  · subst h
    rw [fnPut_same] at hj
    cases hj
    exact hk
  · rw [fnPut_other _ _ h] at hj
    exact hf y j hj
end Go.Proofs.YtkeainhjghdfcaaGreat

/- Rows of values that are stored one by one. No program is named here. -/
namespace Go.Proofs.YtkeainhjghdfcaaGreat
open Go.RowKit

def setArr (cs : Array Value) : Nat → List Value → Array Value
  | _, [] => cs
  | o, v :: r => setArr (cs.setIfInBounds o v) (o + 1) r
theorem row_setCells (g : Nat) (t : TypeId) : ∀ (vs : List Value) (o : Nat) (w : World) (cs : Array Value), w.heap[g]? = some (.cells cs t (0, 0)) → (w.setCells g o vs).heap[g]? = some (.cells (setArr cs o vs) t (0, 0))
  | [], _, _, _, h => h
  | v :: r, o, w, cs, h => row_setCells g t r (o + 1) _ _ (heap_setCell_same w g o cs t v h)
theorem setArr_eq : ∀ (vs : List Value) (o : Nat) (l : List Value), o + vs.length ≤ l.length → setArr l.toArray o vs = (l.take o ++ vs ++ l.drop (o + vs.length)).toArray
  | [], o, l, _ => by simp [setArr]
  | v :: r, o, l, h => by
    rw [List.length_cons] at h
    unfold setArr
    rw [List.setIfInBounds_toArray, setArr_eq r (o + 1) (l.set o v) (by simp; omega)]
    congr 1
    rw [List.set_eq_take_append_cons_drop, if_pos (by omega)]
    have e1 : (l.take o).length = o := by simp; omega
    have e2 : (l.take o ++ v :: l.drop (o + 1)).take (o + 1) = l.take o ++ [v] := by
      rw [List.take_append, e1, Nat.add_sub_cancel_left, List.take_of_length_le (by omega)]
      simp
    have e3 : (l.take o ++ v :: l.drop (o + 1)).drop (o + 1 + r.length) = l.drop (o + (v :: r).length) := by
      rw [List.drop_append, e1, List.drop_of_length_le (by rw [e1]; omega), show o + 1 + r.length - o = r.length + 1 by omega, List.nil_append, List.drop_succ_cons, List.drop_drop, List.length_cons]
      congr 1; omega
    rw [e2, e3]
    simp
variable {α : Type} {enc : α → List Value} {sz : Nat}
theorem flat_take (hsz : ∀ x, (enc x).length = sz) : ∀ (L : List α) (i : Nat), (L.flatMap enc).take (i * sz) = (L.take i).flatMap enc
  | [], i => by simp
  | y :: L, 0 => by simp
  | y :: L, i + 1 => by
    rw [List.flatMap_cons, List.take_succ_cons, List.flatMap_cons, List.take_append, hsz, List.take_of_length_le (by rw [hsz, Nat.succ_mul]; omega), Nat.succ_mul, Nat.add_sub_cancel, flat_take hsz L i]
theorem flat_drop (hsz : ∀ x, (enc x).length = sz) : ∀ (L : List α) (i : Nat), (L.flatMap enc).drop (i * sz) = (L.drop i).flatMap enc
  | [], i => by simp
  | y :: L, 0 => by simp
  | y :: L, i + 1 => by
    rw [List.flatMap_cons, List.drop_succ_cons, List.drop_append, hsz, List.drop_of_length_le (by rw [hsz, Nat.succ_mul]; omega), Nat.succ_mul, Nat.add_sub_cancel, List.nil_append, flat_drop hsz L i]
theorem setArr_flat (hsz : ∀ x, (enc x).length = sz) (L : List α) (i : Nat) (x : α) (hi : i < L.length) : setArr (L.flatMap enc).toArray (i * sz) (enc x) = ((L.set i x).flatMap enc).toArray := by
  have hl := flat_len hsz L
  have hm : i * sz + sz ≤ L.length * sz := by rw [← Nat.succ_mul]; exact Nat.mul_le_mul_right _ hi
  rw [setArr_eq _ _ _ (by rw [hsz, hl]; exact hm), hsz, flat_take hsz, show i * sz + sz = (i + 1) * sz by rw [Nat.succ_mul], flat_drop hsz, List.set_eq_take_append_cons_drop, if_pos hi, List.flatMap_append, List.flatMap_cons]
  simp
/-- one value stored in a row of values -/
theorem row_put (hsz : ∀ x, (enc x).length = sz) {w : World} {g : Nat} {t : TypeId} {L : List α} (h : w.heap[g]? = some (.cells (L.flatMap enc).toArray t (0, 0))) (i : Nat) (x : α) (hi : i < L.length) :
    (w.setCells g (i * sz) (enc x)).heap[g]? = some (.cells ((L.set i x).flatMap enc).toArray t (0, 0)) := by
  rw [row_setCells g t _ _ _ _ h, setArr_flat hsz L i x hi]
theorem take_put {L : List α} {i : Nat} {x : α} (hi : i < L.length) : (L.set i x).take (i + 1) = L.take i ++ [x] := by
  rw [List.take_add_one, List.getElem?_set_self hi, List.take_set_of_le (Nat.le_refl i)]; rfl
theorem row_len {w : World} {g : Nat} {t : TypeId} {c : Array Value} {f : Nat × Nat} (h : w.heap[g]? = some (.cells c t f)) : g < w.heap.size := (Array.getElem?_eq_some_iff.1 h).1
theorem row_there (hsz : ∀ x, (enc x).length = sz) {w : World} {g : Nat} {t : TypeId} {L : List α} (h : w.heap[g]? = some (.cells (L.flatMap enc).toArray t (0, 0))) (i : Nat) (hi : i < L.length) : w.there g (i * sz) sz := fun j hj => by
  have hl := flat_len hsz L
  have hm : i * sz + sz ≤ L.length * sz := by rw [← Nat.succ_mul]; exact Nat.mul_le_mul_right _ hi
  refine ⟨?_, ?_⟩
  · rw [cell_of_row w g _ _ t (0, 0) h, List.getElem?_toArray, List.getElem?_eq_getElem (by omega)]
    rfl
  · unfold World.frozen?; rw [h]; simp
/-- the maker as it is made -/
theorem made_state (w : World) (sz' aT iT tT mT : Nat) (tv : α → Value) (okv : α → Prop) :
    MkAt enc sz' aT iT tv okv ((((w.alloc (.cells #[.int .i64 1114112, .slice none 0 0, .slice none 0 0] tT)).alloc (.map #[] 0)).alloc (.map #[] 0)).alloc (.cells #[.pointer (some ⟨w.heap.size, 0, none⟩), .map (some (w.heap.size + 1)), .map (some (w.heap.size + 2))] mT))
      w.heap.size (w.heap.size + 4) w.heap.size (w.heap.size + 3) (w.heap.size + 1) (w.heap.size + 2) (.slice none 0 0) (.slice none 0 0) [] [] := by
  have k1 := mapFn_made (arrK enc) natV (okL okv) (w.alloc (.cells #[.int .i64 1114112, .slice none 0 0, .slice none 0 0] tT))
  have k2 := mapFn_made tv natV okv ((w.alloc (.cells #[.int .i64 1114112, .slice none 0 0, .slice none 0 0] tT)).alloc (.map #[] 0))
  have e1 : (w.alloc (.cells #[.int .i64 1114112, .slice none 0 0, .slice none 0 0] tT)).heap.size = w.heap.size + 1 := by simp
  have e2 : ((w.alloc (.cells #[.int .i64 1114112, .slice none 0 0, .slice none 0 0] tT)).alloc (.map #[] 0)).heap.size = w.heap.size + 2 := by simp
  rw [e1] at k1
  rw [e2] at k2
  refine ⟨{ t0 := by go_simp, t1 := by go_simp, t2 := by go_simp, f1 := by go_simp, f2 := by go_simp, m0 := by go_simp, m1 := by go_simp, m2 := by go_simp, o1 := World.ownsRow_nil _ _ _ _, o2 := World.ownsRow_nil _ _ _ _, sep := .inl rfl, bt := by omega, bm := by omega, bk := by omega, be := by omega, nbt := by omega, len := fun L h => by cases h }, ⟨_, k1.below ?_, fun L k h => by cases h⟩, ⟨_, k2.below ?_, fun L k h => by cases h⟩⟩
  · rw [show w.heap.size + 1 = w.heap.size + 1 from rfl]
    exact (((Below.refl _ _).alloc (by simp) _).alloc (by simp) _)
  · exact (Below.refl _ _).alloc (by simp) _
variable {aT iT : TypeId} {tv : α → Value} {okv : α → Prop} {w : World} {B0 B tb mb kb eb : Nat} {v1 v2 : Value} {ks : List Nat} {bl : List (List α)}
theorem MkAt.push1 {w1 : World} {g cap : Nat} {k : Nat} (h : MkAt enc sz aT iT tv okv w B0 B tb mb kb eb v1 v2 ks bl) (hg : w.grownBy w1 v1.ownBlock) (ho : w1.ownsRow B iT 1 (.slice (some ⟨g, 0, none⟩) (ks.length + 1) cap) (ks.length + 1) (ks.map natV ++ [natV k]))
    (hf : v1.ownBlock = some g ∨ w.heap.size ≤ g) : MkAt enc sz aT iT tv okv (w1.setCell ⟨tb, 1, none⟩ (.slice (some ⟨g, 0, none⟩) (ks.length + 1) cap)) B0 B tb mb kb eb (.slice (some ⟨g, 0, none⟩) (ks.length + 1) cap) v2 (ks ++ [k]) bl :=
  ⟨h.b.push1 hg ho hf,
    (h.kn.grown hg (fun e => by have := (h.b.o1.lt _ e.symm).1; have := h.b.bk.2; omega)).grown (setCell_grown _ _ _) (fun e => h.b.nbt.2.1 (by injection e with e; exact e.symm)),
    (h.ev.grown hg (fun e => by have := (h.b.o1.lt _ e.symm).1; have := h.b.be.2; omega)).grown (setCell_grown _ _ _) (fun e => h.b.nbt.2.2.1 (by injection e with e; exact e.symm))⟩
theorem MkAt.push2 {w1 : World} {g cap : Nat} {L : List α} (h : MkB enc sz aT iT w B0 B tb mb kb eb v1 v2 ks bl) (hkn : Known enc okv w kb (bl ++ [L])) (hev : Even tv okv w eb (bl ++ [L])) (hg : w.grownBy w1 v2.ownBlock) (ho : w1.ownsRow B aT (128 * sz) (.slice (some ⟨g, 0, none⟩) (bl.length + 1) cap) (bl.length + 1) (bl.flatMap (arrE enc) ++ arrE enc L))
    (hf : v2.ownBlock = some g ∨ w.heap.size ≤ g) (hL : L.length = 128) : MkAt enc sz aT iT tv okv (w1.setCell ⟨tb, 2, none⟩ (.slice (some ⟨g, 0, none⟩) (bl.length + 1) cap)) B0 B tb mb kb eb v1 (.slice (some ⟨g, 0, none⟩) (bl.length + 1) cap) ks (bl ++ [L]) :=
  ⟨h.push2 hg ho hf hL,
    (hkn.grown hg (fun e => by have := (h.o2.lt _ e.symm).1; have := h.bk.2; omega)).grown (setCell_grown _ _ _) (fun e => h.nbt.2.1 (by injection e with e; exact e.symm)),
    (hev.grown hg (fun e => by have := (h.o2.lt _ e.symm).1; have := h.be.2; omega)).grown (setCell_grown _ _ _) (fun e => h.nbt.2.2.1 (by injection e with e; exact e.symm))⟩
end Go.Proofs.YtkeainhjghdfcaaGreat

/- Worlds that differ in few blocks. No program is named here. -/
namespace Go.Proofs.YtkeainhjghdfcaaGreat
open Go.RowKit

/-- Only the blocks of P may have changed. -/
structure Kept (P : Nat → Prop) (w w' : World) : Prop where
  os : w'.os = w.os
  tape : w'.tape = w.tape
  output : w'.output = w.output
  size : w.heap.size ≤ w'.heap.size
  block : ∀ j, j < w.heap.size → ¬ P j → w'.heap[j]? = w.heap[j]?

theorem Kept.of_grown {P : Nat → Prop} {w w' : World} {r : Option Nat} (h : w.grownBy w' r) (hb : ∀ b, r = some b → P b) : Kept P w w' :=
  ⟨h.os, h.tape, h.output, h.size, fun j hj hn => h.block j hj (by intro e; exact hn (hb j e.symm))⟩
theorem Kept.of_below {P : Nat → Prop} {w w' : World} (h : Below w.heap.size w w') : Kept P w w' := ⟨h.os, h.tape, h.output, h.size, fun j hj _ => h.block j hj⟩
theorem Kept.trans {P : Nat → Prop} {w w1 w2 : World} (h : Kept P w w1) (k : Kept P w1 w2) : Kept P w w2 :=
  ⟨k.os.trans h.os, k.tape.trans h.tape, k.output.trans h.output, Nat.le_trans h.size k.size, fun j hj hn => (k.block j (Nat.lt_of_lt_of_le hj h.size) hn).trans (h.block j hj hn)⟩
theorem Kept.mono {P Q : Nat → Prop} {w w' : World} (h : Kept P w w') (hq : ∀ j, P j → Q j) : Kept Q w w' := ⟨h.os, h.tape, h.output, h.size, fun j hj hn => h.block j hj fun hp => hn (hq j hp)⟩
theorem Kept.below {P : Nat → Prop} {B : Nat} {w w' : World} (h : Kept P w w') (hB : B ≤ w.heap.size) (hP : ∀ j, P j → B ≤ j) : Below B w w' :=
  ⟨h.os, h.tape, h.output, h.size, fun j hj => h.block j (by omega) fun hp => by have := hP j hp; omega⟩
theorem Kept.refl (P : Nat → Prop) (w : World) : Kept P w w := ⟨rfl, rfl, rfl, Nat.le_refl _, fun _ _ _ => rfl⟩
theorem Kept.cell {P : Nat → Prop} {w w' : World} {a : Addr} {v : Value} (h : Kept P w w') (hc : w.cell? a = some v) (hn : ¬ P a.block) : w'.cell? a = some v :=
  (World.cell?_of_block (h.block _ (World.block_lt_of_cell? w _ hc) hn)).trans hc
/-- a change of new blocks alone is none of the old ones -/
theorem Kept.new {P : Nat → Prop} {w w1 w2 : World} (h : Kept P w w1) (k : Kept (fun j => P j ∨ w.heap.size ≤ j) w1 w2) : Kept P w w2 :=
  ⟨k.os.trans h.os, k.tape.trans h.tape, k.output.trans h.output, Nat.le_trans h.size k.size, fun j hj hn => (k.block j (Nat.lt_of_lt_of_le hj h.size) (by rintro (h1 | h1); exact hn h1; omega)).trans (h.block j hj hn)⟩
theorem kept_setCell {P : Nat → Prop} (w : World) (a : Addr) (u : Value) (h : P a.block) : Kept P w (w.setCell a u) :=
  ⟨rfl, rfl, rfl, by simp, fun j _ hn => Below.heap_setCell _ _ _ _ (fun e => hn (e ▸ h))⟩
end Go.Proofs.YtkeainhjghdfcaaGreat

/- The plain law of building tries. No program here. -/
namespace Go.Proofs.YtkeainhjghdfcaaGreat

/-- the first j blocks of a trie hold what g says -/
structure TrieIs {α : Type} (g : Int → α) (j : Nat) (ks : List Nat) (bl : List (List α)) : Prop where
  len : ks.length = j
  tie : ∀ m, m < j → ∃ k L, ks[m]? = some k ∧ bl[k]? = some L ∧ ∀ i : Nat, i < 128 → L[i]? = some (g (128 * (m : Int) + i))
/-- v is what the numbers have from 'at' up to 'upto' -/
structure Val {α : Type} (g : Int → α) (okv : α → Prop) (v : α) (upto i : Int) : Prop where
  ok : okv v
  top : upto ≤ 1114111
  same : ∀ r, i ≤ r → r ≤ upto → g r = v

variable {α : Type} {g : Int → α} {okv : α → Prop} {j : Nat} {ks : List Nat} {bl bl' : List (List α)}
theorem trieIs_nil (bl : List (List α)) : TrieIs g 0 [] bl := ⟨rfl, fun m h => by omega⟩
theorem TrieIs.more (h : TrieIs g j ks bl) (hb : ∀ (k : Nat) (M : List α), bl[k]? = some M → bl'[k]? = some M) : TrieIs g j ks bl' :=
  ⟨h.len, fun m hm => let ⟨k, L, h1, h2, h3⟩ := h.tie m hm; ⟨k, L, h1, hb k L h2, h3⟩⟩
theorem TrieIs.push (h : TrieIs g j ks bl) {k : Nat} {L : List α} (hk : bl[k]? = some L) (hL : ∀ i : Nat, i < 128 → L[i]? = some (g (128 * (j : Int) + i))) : TrieIs g (j + 1) (ks ++ [k]) bl := by
  refine ⟨by rw [List.length_append, h.len]; rfl, fun m hm => ?_⟩
  by_cases hmj : m < j
  · obtain ⟨q, M, h1, h2, h3⟩ := h.tie m hmj
    exact ⟨q, M, by rw [List.getElem?_append_left (by rw [h.len]; exact hmj)]; exact h1, h2, h3⟩
  · have : m = j := by omega
    subst this
    exact ⟨k, L, by rw [List.getElem?_append_right (by rw [h.len]; exact Nat.le_refl _), h.len, Nat.sub_self]; rfl, hk, hL⟩
theorem Val.later {v : α} {upto i i' : Int} (h : Val g okv v upto i) (hi : i ≤ i') : Val g okv v upto i' := ⟨h.ok, h.top, fun r h1 h2 => h.same r (by omega) h2⟩
theorem val_find {z : α} {l : List (Pc α)} (hz : okv z) (hl : ∀ p ∈ l, okv p.v) {i : Int} (hi : i ≤ 1114111) : Val (pv z l) okv (fndP z i l 1114111).1 (fndP z i l 1114111).2 i ∧ i ≤ (fndP z i l 1114111).2 := by
  obtain ⟨h1, h2, h3, h4⟩ := fndP_spec z i l 1114111 hi
  refine ⟨⟨?_, h3, fun r hr1 hr2 => by rw [h1]; exact h4 r hr1 hr2⟩, h2⟩
  rw [h1]
  unfold pv
  cases hf : l.find? (hasP i) with
  | none => exact hz
  | some p => exact hl p (List.mem_of_find?_eq_some hf)
/-- a block of one value -/
theorem Val.block {v : α} {upto : Int} {m : Nat} (h : Val g okv v upto (128 * (m : Int))) (hu : 128 * (m : Int) + 127 ≤ upto) : ∀ i : Nat, i < 128 → (List.replicate 128 v)[i]? = some (g (128 * (m : Int) + i)) := by
  intro i hi
  rw [List.getElem?_replicate, if_pos hi, h.same (128 * m + i) (by omega) (by omega)]
end Go.Proofs.YtkeainhjghdfcaaGreat

/- What tables of rows say, out of spans: plain lemmas. -/
namespace Go.Proofs.YtkeainhjghdfcaaGreat
open Go.RowKit

theorem TrieIs.congr {α : Type} {g g' : Int → α} {ks : List Nat} {bl : List (List α)} (h : TrieIs g 8704 ks bl) (hg : ∀ r, 0 ≤ r → r ≤ 1114111 → g r = g' r) : TrieIs g' 8704 ks bl :=
  ⟨h.len, fun m hm => let ⟨k, L, h1, h2, h3⟩ := h.tie m hm; ⟨k, L, h1, h2, fun i hi => by rw [← hg _ (by omega) (by omega)]; exact h3 i hi⟩⟩
/-- all values of rows can be held -/
def RowsOk (R : List Rw) : Prop := ∀ x ∈ R, (Lit.int .i64 x.a).wf = true ∧ (Lit.int .i64 x.b).wf = true

/-- pieces out of spans -/
def pcOf {α : Type} (val : Span → α) (S : List Span) : List (Pc α) := S.map fun s => ⟨s.f, s.t, val s⟩
theorem pcOf_snoc {α : Type} (val : Span → α) (S : List Span) (s : Span) : pcOf val (S ++ [s]) = pcOf val S ++ [⟨s.f, s.t, val s⟩] := by simp [pcOf]
theorem pv_pcOf {α : Type} (z : α) (val : Span → α) : ∀ (S : List Span) (r : Int), pv z (pcOf val S) r = match S.find? (hasS r) with
    | some s => val s
    | none => z
  | [], _ => rfl
  | s :: S, r => by
    have ih := pv_pcOf z val S r
    unfold pcOf pv at ih ⊢
    rw [List.map_cons, List.find?_cons, List.find?_cons]
    have e : hasP r (⟨s.f, s.t, val s⟩ : Pc α) = hasS r s := rfl
    rw [e]
    cases hasS r s with
    | true => rfl
    | false => exact ih
theorem span_of_row {S : List Span} {R : List Rw} {kind : Int} (hG : Good S) (hS : Says S R kind) {s : Span} (hs : s ∈ S) : ∃ x ∈ R, x.k = kind ∧ x.a = s.a ∧ x.b = s.b := by
  have hok := hG.ok s hs
  have h1 : ansS S s.f = some (s.a, s.b) := (ansS_some hG.ris.dis).2 ⟨s, hs, hasS_iff.2 ⟨by omega, hok.2.1⟩, rfl⟩
  rw [hS s.f] at h1
  unfold ansR fnd at h1
  rw [if_pos ⟨hok.1, by have := hok.2.1; have := hok.2.2; omega⟩] at h1
  cases hf : R.find? (hasR kind s.f) with
  | none => rw [hf] at h1; cases h1
  | some x =>
    rw [hf] at h1
    have e : (x.a, x.b) = (s.a, s.b) := by simpa using h1
    exact ⟨x, List.mem_of_find?_eq_some hf, (hasR_iff.1 (List.find?_some hf)).1, congrArg Prod.fst e, congrArg Prod.snd e⟩
theorem Says.ok {S : List Span} {R : List Rw} {kind : Int} (hG : Good S) (hS : Says S R kind) (hR : RowsOk R) : ∀ s ∈ S, (Lit.int .i64 s.a).wf = true ∧ (Lit.int .i64 s.b).wf = true := by
  intro s hs
  obtain ⟨x, hx, _, h1, h2⟩ := span_of_row hG hS hs
  rw [← h1, ← h2]
  exact hR x hx
/-- what a number has -/
theorem pv_says {α : Type} {S : List Span} {R : List Rw} {kind : Int} (hS : Says S R kind) (z : α) (val : Int → Int → α) (r : Int) : pv z (pcOf (fun s => val s.a s.b) S) r = match fnd R kind r with
    | some x => val x.a x.b
    | none => z := by
  rw [pv_pcOf]
  have h := hS r
  unfold ansS ansR at h
  cases h1 : S.find? (hasS r) with
  | none => cases h2 : fnd R kind r with
    | none => rfl
    | some x => rw [h1, h2] at h; cases h
  | some s => cases h2 : fnd R kind r with
    | none => rw [h1, h2] at h; cases h
    | some x =>
      rw [h1, h2] at h
      have e : (s.a, s.b) = (x.a, x.b) := by simpa using h
      show val s.a s.b = val x.a x.b
      have e1 : s.a = x.a := congrArg Prod.fst e
      have e2 : s.b = x.b := congrArg Prod.snd e
      rw [e1, e2]
theorem pv_ofA {S : List Span} {R : List Rw} {kind : Int} (hS : Says S R kind) (r : Int) : pv 0 (pcOf (fun s => s.a) S) r = ofA R kind r := pv_says hS 0 (fun a _ => a) r
theorem good_few_f {S : List Span} (hG : Good S) {α : Type} (val : Span → α) : ∀ p ∈ pcOf val S, p.f ≤ 4611686018427387904 := by
  intro p hp
  obtain ⟨s, hs, rfl⟩ := List.mem_map.1 hp
  have := hG.ok s hs
  unfold okS at this
  show s.f ≤ _
  omega
end Go.Proofs.YtkeainhjghdfcaaGreat

/- A trie as it is read. No program is named here. -/
namespace Go.Proofs.YtkeainhjghdfcaaGreat
open Go.RowKit

section
variable {α : Type} {enc : α → List Value} {sz : Nat}
/-- the trie at block tb holds g -/
def TrieAt (enc : α → List Value) (sz : Nat) (g : Int → α) (B : Nat) (w : World) (tb : Nat) : Prop :=
  ∃ v1 v2 ks bl, tb < B ∧ w.cell? ⟨tb, 0, none⟩ = some (.int .i64 1114112) ∧ w.cell? ⟨tb, 1, none⟩ = some v1 ∧ w.cell? ⟨tb, 2, none⟩ = some v2 ∧ Rd B w 1 v1 ks.length (ks.map natV) ∧ Rd B w (128 * sz) v2 bl.length (bl.flatMap (arrE enc)) ∧ (∀ L ∈ bl, L.length = 128) ∧ TrieIs g 8704 ks bl
theorem TrieAt.below {g : Int → α} {B B' : Nat} {w w' : World} {tb : Nat} (h : TrieAt enc sz g B w tb) (hb : Below B' w w') (hB : B ≤ B') : TrieAt enc sz g B w' tb := by
  obtain ⟨v1, v2, ks, bl, h0, h1, h2, h3, h4, h5, h6, h7⟩ := h
  have hl : tb < B' := Nat.lt_of_lt_of_le h0 hB
  exact ⟨v1, v2, ks, bl, h0, (World.cell?_of_block (hb.block tb hl)).trans h1, (World.cell?_of_block (hb.block tb hl)).trans h2, (World.cell?_of_block (hb.block tb hl)).trans h3, h4.below hb hB, h5.below hb hB, h6, h7⟩
theorem trieAt_of_build {aT iT : TypeId} {g : Int → α} {w : World} {B0 B tb mb kb eb : Nat} {v1 v2 : Value} {ks : List Nat} {bl : List (List α)} (h : MkB enc sz aT iT w B0 B tb mb kb eb v1 v2 ks bl) (ht : TrieIs g 8704 ks bl) : TrieAt enc sz g w.heap.size w tb :=
  ⟨v1, v2, ks, bl, World.block_lt_of_cell? w _ h.t0, h.t0, h.t1, h.t2, rd_of_owns h.o1, rd_of_owns h.o2, h.len, ht⟩
theorem trieAt_cells (hsz : ∀ x, (enc x).length = sz) {g : Int → α} {B : Nat} {w : World} {tb : Nat} (h : TrieAt enc sz g B w tb) {m r : Nat} (hm : m < 8704) (hr : r < 128) :
    ∃ b1 o1 n1 c1 b2 o2 n2 c2 k, w.cell? ⟨tb, 0, none⟩ = some (.int .i64 1114112) ∧ w.cell? ⟨tb, 1, none⟩ = some (.slice (some ⟨b1, o1, none⟩) n1 c1) ∧ w.cell? ⟨tb, 2, none⟩ = some (.slice (some ⟨b2, o2, none⟩) n2 c2) ∧ m < n1 ∧ w.cell? ⟨b1, o1 + m, none⟩ = some (.int .i64 ((k : Nat) : Int)) ∧ k < n2 ∧
      ∀ j u, (enc (g (128 * (m : Int) + r)))[j]? = some u → w.cell? ⟨b2, o2 + k * (128 * sz) + r * sz + j, none⟩ = some u := by
  obtain ⟨v1, v2, ks, bl, _, h1, h2, h3, ⟨a1, c1, rfl, _, _, _, h4⟩, ⟨a2, c2, rfl, _, _, _, h5⟩, h6, h7⟩ := h
  obtain ⟨k, L, hk, hL, hx⟩ := h7.tie m hm
  have hx := hx r hr
  have hm' := (List.getElem?_eq_some_iff.1 hk).1
  have hk' := (List.getElem?_eq_some_iff.1 hL).1
  obtain ⟨b1, o1, rfl, _, hc1⟩ := h4 (by omega)
  obtain ⟨b2, o2, rfl, _, hc2⟩ := h5 (by omega)
  refine ⟨b1, o1, _, c1, b2, o2, _, c2, k, h1, h2, h3, hm', hc1 m (natV k) (by rw [List.getElem?_map, hk]; rfl), hk', fun j u hu => ?_⟩
  have hlen : ∀ M ∈ bl, (arrE enc M).length = 128 * sz := fun M hM => by unfold arrE; rw [flat_len hsz, h6 M hM]
  have e1 := flat_get hsz L r _ j u hx hu
  have e2 : ∀ (S : Nat) (bl : List (List α)) (k : Nat), (∀ M ∈ bl, (arrE enc M).length = S) → bl[k]? = some L → ∀ q u, (arrE enc L)[q]? = some u → (bl.flatMap (arrE enc))[k * S + q]? = some u := by
    intro S bl
    induction bl with
    | nil => intro k _ h; simp at h
    | cons M bl ih =>
      intro k hl hk q u hq
      rw [List.flatMap_cons]
      cases k with
      | zero =>
        simp at hk; subst hk
        rw [Nat.zero_mul, Nat.zero_add, List.getElem?_append_left (List.getElem?_eq_some_iff.1 hq).1]; exact hq
      | succ k =>
        have e : (k + 1) * S + q = S + (k * S + q) := by rw [Nat.succ_mul]; omega
        rw [e, List.getElem?_append_right (by rw [hl M List.mem_cons_self]; omega), hl M List.mem_cons_self, Nat.add_sub_cancel_left]
        exact ih k (fun N hN => hl N (List.mem_cons_of_mem _ hN)) (by simpa using hk) q u hq
  have e3 := hc2 _ u (e2 _ bl k hlen hL _ u e1)
  rw [show o2 + k * (128 * sz) + r * sz + j = o2 + (k * (128 * sz) + (r * sz + j)) by omega]
  exact e3
end
end Go.Proofs.YtkeainhjghdfcaaGreat

/- Rows of values of several cells. No program is named here. -/
namespace Go.Proofs.YtkeainhjghdfcaaGreat
open Go.RowKit

section
variable {α : Type} {enc : α → List Value} {sz : Nat} {w : World} {g t : Nat} {okv : α → Prop} {L : List α}
/-- a row of values being filled -/
def RowG (enc : α → List Value) (w : World) (g t : Nat) (okv : α → Prop) (L : List α) : Prop := w.heap[g]? = some (.cells (L.flatMap enc).toArray t (0, 0)) ∧ okL okv L
theorem RowG.put (hsz : ∀ x, (enc x).length = sz) (h : RowG enc w g t okv L) {i : Nat} (x : α) (hi : i < 128) (hx : okv x) : RowG enc (w.setCells g (i * sz) (enc x)) g t okv (L.set i x) := by
  refine ⟨row_put hsz h.1 i x (by rw [h.2.1]; exact hi), by rw [List.length_set]; exact h.2.1, fun y hy => ?_⟩
  rcases List.mem_or_eq_of_mem_set hy with hy | hy
  · exact h.2.2 y hy
  · rw [hy]; exact hx
theorem RowG.there (hsz : ∀ x, (enc x).length = sz) (h : RowG enc w g t okv L) {i : Nat} (hi : i < 128) : w.there g (i * sz) sz := row_there hsz h.1 i (by rw [h.2.1]; exact hi)
theorem RowG.free (h : RowG enc w g t okv L) (i : Nat) : w.frozen? ⟨g, i, none⟩ = false := by
  unfold World.frozen?; rw [h.1]; simp
theorem RowG.cell (hsz : ∀ x, (enc x).length = sz) (h : RowG enc w g t okv L) {i : Nat} (hi : i < 128) (j : Nat) (hj : j < sz) : ∃ u, w.cell? ⟨g, i * sz + j, none⟩ = some u := by
  have hx : L[i]? = some (L[i]'(by rw [h.2.1]; exact hi)) := List.getElem?_eq_getElem _
  generalize L[i]'(by rw [h.2.1]; exact hi) = x at hx
  refine ⟨(enc x)[j]'(by rw [hsz]; exact hj), ?_⟩
  rw [cell_of_row w g (i * sz + j) _ t (0, 0) h.1]
  have := flat_get hsz L i x j _ hx (List.getElem?_eq_getElem (by rw [hsz]; exact hj))
  rw [List.getElem?_toArray]
  exact this
theorem setCells_below {B : Nat} {a : World} : ∀ (vs : List Value) (o : Nat) (w : World), Below B a w → B ≤ g → Below B a (w.setCells g o vs)
  | [], _, _, h, _ => h
  | v :: r, o, _, h, hg => setCells_below r (o + 1) _ (h.setCell hg v) hg
theorem RowG.later {w' : World} (h : RowG enc w g t okv L) (hb : w'.heap[g]? = w.heap[g]?) : RowG enc w' g t okv L := ⟨hb.trans h.1, h.2⟩
end
end Go.Proofs.YtkeainhjghdfcaaGreat

/- Maps whose entries bear stamps: an entry made first and stored later. No program is named here. -/
namespace Go.Proofs.YtkeainhjghdfcaaGreat
open Go.RowKit Go.Maps Go.WideShapes Go.ChangeMaps

section
variable {α β : Type} {ek : α → Value} {ev : β → Value} {ok : α → Prop} {P : Program} {k : TypeId}
def StampedAt (w : World) (b : Nat) : Prop := ∃ es clock, w.heap[b]? = some (.map es clock) ∧ MapKept.Stamped es clock
structure MapS (ek : α → Value) (ev : β → Value) (ok : α → Prop) (w : World) (b : Nat) (f : α → Option β) : Prop where
  fn : MapFn ek ev ok w b f
  st : StampedAt w b
theorem mapS_made (ek : α → Value) (ev : β → Value) (ok : α → Prop) (w : World) : MapS ek ev ok (w.alloc (.map #[] 0)) w.heap.size (fun _ => none) :=
  ⟨mapFn_made ek ev ok w, #[], 0, heap_alloc_new w _, by simp [MapKept.Stamped]⟩
theorem MapS.same {w w' : World} {b : Nat} {f : α → Option β} (h : MapS ek ev ok w b f) (hb : w'.heap[b]? = w.heap[b]?) : MapS ek ev ok w' b f :=
  ⟨h.fn.same hb, let ⟨es, c, h1, h2⟩ := h.st; ⟨es, c, hb.trans h1, h2⟩⟩
theorem MapS.below {w w' : World} {b : Nat} {f : α → Option β} (h : MapS ek ev ok w b f) (hb : Below w.heap.size w w') : MapS ek ev ok w' b f := h.same (hb.block b h.fn.lt)
theorem MapS.isMap {w : World} {b : Nat} {f : α → Option β} (h : MapS ek ev ok w b f) : ∃ es c, w.heap[b]? = some (.map es c) := let ⟨es, c, h1, _⟩ := h.st; ⟨es, c, h1⟩

variable [DecidableEq α]
theorem findIdx_push {es : Array MapEntry} {clock : Nat} (hs : ∀ x ∈ es.toList, x.born < clock) (key val : Value) : (es.push ⟨key, val, clock⟩).findIdx? (fun e => (e.born : Int) == (clock : Int)) = some es.size := by
  rw [Array.findIdx?_eq_some_iff_getElem]
  refine ⟨by simp, by simp, fun j hj => ?_⟩
  have h1 : (es.push ⟨key, val, clock⟩)[j]'(by simp; omega) = es[j] := Array.getElem_push_lt (by omega)
  rw [h1]
  have := hs es[j] (by simp)
  simp
  omega
theorem findIdx_born {es : Array MapEntry} {clock : Nat} (hs : MapKept.Stamped es clock) {j : Nat} {e0 : MapEntry} (hj : es[j]? = some e0) : es.findIdx? (fun e => (e.born : Int) == (e0.born : Int)) = some j := by
  obtain ⟨h1, h2⟩ := Array.getElem?_eq_some_iff.1 hj
  rw [Array.findIdx?_eq_some_iff_getElem]
  refine ⟨h1, by simp [h2], fun i hi => ?_⟩
  have hnd := hs.2.1
  rw [List.nodup_iff_pairwise_ne, List.pairwise_iff_getElem] at hnd
  have := hnd i j (by simp; omega) (by simp; omega) hi
  simp at this
  rw [h2] at this
  simp
  omega

theorem MapS.entry (E : KeyE P k ek ok) {w : World} {b : Nat} {f : α → Option β} (h : MapS ek ev ok w b f) {t e : TypeId} (ht : P.underlying t = some (.map k e)) {z : Value} (hz : (zeroValue e).run P w = .ok z w) (x : α) (hx : ok x) :
    ∃ v0 st w1, (Instr.mapEntry t (.map (some b)) (ek x)).run P w = .ok (.tuple #[v0, .int .i64 st]) w1 ∧ w.grownBy w1 (some b) ∧ w1.heap.size = w.heap.size ∧ (∃ es c, w1.heap[b]? = some (.map es c)) ∧
      ∀ (v : β) (w' : World), w'.heap[b]? = w1.heap[b]? → ∃ w2, (Instr.entryStore t (.map (some b)) (.int .i64 st) (ev v)).run P w' = .ok () w2 ∧ w'.grownBy w2 (some b) ∧ w2.heap.size = w'.heap.size ∧ MapS ek ev ok w2 b (fnPut f x v) := by
  obtain ⟨hfn, es, clock, hb, hs⟩ := h
  have hput := fun v => run_put E hfn ht x v hx
  obtain ⟨es', clock', hb', h1, h2, h3⟩ := hfn
  rw [hb] at hb'
  cases hb'
  obtain ⟨l, hl⟩ := E.lit x hx
  rcases E.K.find w hl es.toList (fun e he => by obtain ⟨a, c, ha, hk, _⟩ := h1 e he; rw [hk]; exact E.lit a ha) with ⟨g1, g2⟩ | ⟨j, e0, g1, g2, g3⟩
  · refine ⟨z, clock, setBlock w b (.map (es.push ⟨ek x, z, clock⟩) (clock + 1)), ?_, ⟨rfl, rfl, rfl, by simp [setBlock], fun i _ hi => heap_setBlock_other hb _ (fun e => hi (by rw [e]))⟩, by simp [setBlock], ⟨_, _, heap_setBlock_same hb _⟩, ?_⟩
    · simp [Instr.mapEntry, run_underlying ht, MapKept.run_getObj_map hb, E.K.check w false hl, g1, hz, MapKept.run_setObj_map _ hb, Result.andThen, setBlock, goInt]
    · intro v w' hw'
      rw [heap_setBlock_same hb _] at hw'
      refine ⟨setBlock w' b (.map (es.push ⟨ek x, ev v, clock⟩) (clock + 1)), ?_, ⟨rfl, rfl, rfl, by simp [setBlock], fun i _ hi => heap_setBlock_other hw' _ (fun e => hi (by rw [e]))⟩, by simp [setBlock], ?_, ?_⟩
      · have hm : (es.push ⟨ek x, z, clock⟩).modify es.size (fun e => { e with val := ev v }) = es.push ⟨ek x, ev v, clock⟩ := by
          refine (Array.toList_inj.1 ?_)
          rw [Array.toList_modify, Array.toList_push, Array.toList_push, modify_eq_set _ _ _ ⟨ek x, z, clock⟩ (by simp)]
          rw [List.set_append_right (h := by simp)]
          simp
        simp [Instr.entryStore, MapKept.run_getObj_map hw', asInt, asIntOf, findIdx_push hs.1, hm, MapKept.run_setObj_map _ hw', Result.andThen, setBlock]
      · obtain ⟨w3, hr3, hf3, _⟩ := hput v
        have e3 : w3 = setBlock w b (.map (es.push ⟨ek x, ev v, clock⟩) (clock + 1)) := by
          have : (Instr.mapUpdate t (.map (some b)) (ek x) (ev v)).run P w = .ok () (setBlock w b (.map (es.push ⟨ek x, ev v, clock⟩) (clock + 1))) := by
            simp [Instr.mapUpdate, run_underlying ht, MapKept.run_getObj_map hb, E.K.check w false hl, g1, MapKept.run_setObj_map _ hb, Result.andThen, setBlock]
          rw [this] at hr3
          injection hr3 with _ h4
          exact h4.symm
        subst e3
        exact hf3.same (by rw [heap_setBlock_same hw' _, heap_setBlock_same hb _])
      · exact ⟨_, _, heap_setBlock_same hw' _, MapKept.stamped_push hs g2⟩
  · have hj : es[j]? = some e0 := by simpa using g2
    have hst := E.K.stays w hl
    have hmod : es.modify j (fun e' => { e' with key := ek x }) = es := by
      refine (Array.toList_inj.1 ?_)
      rw [Array.toList_modify, modify_eq_set _ _ _ _ g2]
      have e1 : ({ e0 with key := ek x } : MapEntry) = e0 := by rw [← g3]
      rw [e1]
      obtain ⟨q1, q2⟩ := List.getElem?_eq_some_iff.1 g2
      rw [← q2, List.set_getElem_self]
    refine ⟨e0.val, e0.born, setBlock w b (.map es clock), ?_, ⟨rfl, rfl, rfl, by simp [setBlock], fun i _ hi => heap_setBlock_other hb _ (fun e => hi (by rw [e]))⟩, by simp [setBlock], ⟨_, _, heap_setBlock_same hb _⟩, ?_⟩
    · simp [Instr.mapEntry, run_underlying ht, MapKept.run_getObj_map hb, E.K.check w false hl, g1, hj, g3, hst, MapKept.run_setObj_map _ hb, Result.andThen, setBlock, goInt, hmod]
    · intro v w' hw'
      rw [heap_setBlock_same hb _] at hw'
      refine ⟨setBlock w' b (.map (es.modify j (fun e' => { e' with val := ev v })) clock), ?_, ⟨rfl, rfl, rfl, by simp [setBlock], fun i _ hi => heap_setBlock_other hw' _ (fun e => hi (by rw [e]))⟩, by simp [setBlock], ?_, ?_⟩
      · simp [Instr.entryStore, MapKept.run_getObj_map hw', asInt, asIntOf, findIdx_born hs hj, MapKept.run_setObj_map _ hw', Result.andThen, setBlock]
      · obtain ⟨w3, hr3, hf3, _⟩ := hput v
        have hm2 : es.modify j (fun e' => { e' with key := ek x, val := ev v }) = es.modify j (fun e' => { e' with val := ev v }) := by
          refine (Array.toList_inj.1 ?_)
          rw [Array.toList_modify, Array.toList_modify, modify_eq_set _ _ _ _ g2, modify_eq_set _ _ _ _ g2, ← g3]
        have e3 : w3 = setBlock w b (.map (es.modify j (fun e' => { e' with val := ev v })) clock) := by
          have : (Instr.mapUpdate t (.map (some b)) (ek x) (ev v)).run P w = .ok () (setBlock w b (.map (es.modify j (fun e' => { e' with key := ek x, val := ev v })) clock)) := by
            simp [Instr.mapUpdate, run_underlying ht, MapKept.run_getObj_map hb, E.K.check w false hl, g1, hj, g3, hst, MapKept.run_setObj_map _ hb, Result.andThen, setBlock]
          rw [this, hm2] at hr3
          injection hr3 with _ h4
          exact h4.symm
        subst e3
        exact hf3.same (by rw [heap_setBlock_same hw' _, heap_setBlock_same hb _])
      · exact ⟨_, _, heap_setBlock_same hw' _, MapKept.stamped_modify hs _ _ (fun _ _ => rfl) (fun _ _ _ => rfl)⟩
end
end Go.Proofs.YtkeainhjghdfcaaGreat

/- From a walk to a law's statement: the frame that all laws share; how arguments are opened. No program is named here. -/
namespace Go.Proofs.YtkeainhjghdfcaaGreat
open Go.ChangeShapes Go.WideShapes Go.ChangeAt Go.RowKit Go.Deep

theorem trodAll_len {H : Type} {enc : TypeId × Value → H} {P : Program} {w : World} {base : Nat} {spare : Nat → Bool} {held : Bool} : ∀ (ts : List TypeId) (vs : List Value) (ds : List (DataW H)) (ps : List MemPlace),
    DataW.TrodAll enc P w base spare held ts vs ds ps → ds.length = ts.length ∧ vs.length = ts.length := by
  intro ts
  induction ts with
  | nil => intro vs ds ps h; obtain ⟨rfl, rfl, rfl⟩ := trodAll_nil h; exact ⟨rfl, rfl⟩
  | cons t ts ih =>
    intro vs ds ps h
    obtain ⟨v, vs', d, ds', p, q, rfl, rfl, rfl, _, h2⟩ := trodAll_cons h
    obtain ⟨h3, h4⟩ := ih _ _ _ h2
    exact ⟨by simp [h3], by simp [h4]⟩

theorem trodAll_stays {H : Type} {enc : TypeId × Value → H} {P : Program} (hl : laidOutB P = true) {W W' : World} (hb : Below W.heap.size W W') : ∀ (ts : List TypeId) (vs : List Value) (ds : List (DataW H)) (ps : List MemPlace),
    (∀ t ∈ ts, P.readableRec t = true ∧ t < P.types.size) → DataW.TrodAll enc P W 0 (fun _ => true) true ts vs ds ps → (∀ x ∈ ps, x.block < W.heap.size) →
    DataW.TrodAll enc P W' 0 (fun b => decide (b < W.heap.size)) true ts vs ds ps := by
  intro ts
  induction ts with
  | nil => intro vs ds ps _ h _; obtain ⟨rfl, rfl, rfl⟩ := trodAll_nil h; exact trodAll_mk0
  | cons t ts ih =>
    intro vs ds ps ht h hlt
    obtain ⟨v, vs', d, ds', p, q, rfl, rfl, rfl, h1, h2⟩ := trodAll_cons h
    have ht0 := ht t List.mem_cons_self
    exact trodAll_cons_mk (Below.trod hl ht0.1 ht0.2 h1 hb (fun x hx => hlt x (List.mem_append_left _ hx)))
      (ih _ _ _ (fun t' h' => ht t' (List.mem_cons_of_mem _ h')) h2 (fun x hx => hlt x (List.mem_append_right _ hx)))

/-- What a law's walk has to show: whatever the arguments read as, the call returns true, and nothing that was there has turned. -/
def LawWalk (P : Program) (f : FuncId) (fn : Func) : Prop :=
  ∀ (H : Type) (enc : TypeId × Value → H) (W : World) (base : Nat) (args : Array Value) (ds : List (DataW H)) (ps : List MemPlace),
    (∀ (j : Nat) t v, fn.params[j]? = some t → args[j]? = some v → Value.okWide P W .any base t v) →
    DataW.TrodAll enc P W 0 (fun _ => true) true fn.params.toList args.toList ds ps → (∀ x ∈ ps, x.block < W.heap.size) →
    Calls P f args W fun e W' => e = .returned (.bool true) ∧ Below W.heap.size W W'

theorem lifted_of_walk {C : Checked} {os : Os} {f : FuncId} {fn : Func} {s : ChangeSpec} {H : Type} {enc : TypeId × Value → H} {tb : TypeId}
    (own : ownKnob C.prog.godebug = none) (started : os.Started) (noInit : C.prog.inits.idxOf? f = none) (hfn : C.prog.funcs[f]? = some fn)
    (witness : ∃ (w : World) (tape : Tape) (i : Input), w.os = os ∧ (w.forCall tape i).Shaped C.prog ∧ i.vars = [] ∧ Input.okWide C.prog (w.forCall tape i) .any w.heap.size f i ∧
      s.pre6 enc C.prog fn [] false (w.forCall tape i).memory i.args ∧ ({} : Assume).holds C.prog (lone (Frame.enter C.prog f i.args .normal) [] (w.forCall tape i)))
    (hl : laidOutB C.prog = true) (hts : ∀ t ∈ fn.params.toList, C.prog.readableRec t = true ∧ t < C.prog.types.size) (hres : fn.resultTypes = #[tb]) (hbool : C.prog.underlying tb = some .bool)
    (hvars : s.vars = []) (hspec : ∀ ds : List (DataW H), ds.length = fn.params.toList.length → s.fn H (ds ++ []) = { results := [.lit (.bool true)], args := ds, vars := [] })
    (walk : LawWalk C.prog f fn) :
    ReturnsInHanded {} C os f .any (s.pre6 enc C.prog fn [] false) (s.post enc C.prog fn false true false false) := by
  refine returnsInHanded_of_change own started noInit hfn witness ?_
  intro W base args ds gs before hval hW _ _
  have hW' := hW
  obtain ⟨p, q, hA, hV, hp, _, _⟩ := hW
  rw [hvars] at hV
  obtain ⟨rfl, rfl⟩ := trodVars_none hV
  have hp' : before = p := by simpa using hp
  subst hp'
  have hlen := (trodAll_len _ _ _ _ hA).1
  have hlt : ∀ x ∈ before, x.block < W.heap.size := fun x hx => by simpa using hW'.lt x hx
  refine (walk H enc W base args ds before hval hA hlt).mono ?_
  rintro e W' ⟨rfl, hB⟩
  refine ⟨_, rfl, ds, [], before, [], before, [], hW', ?_, ?_, ?_, hB.frame _, fun h => by cases h⟩
  · rw [hspec ds hlen, hres]
    exact trodAll_mk1 (shut_bool hbool true)
  · rw [hspec ds hlen]
    exact trodAll_stays hl hB _ _ _ _ hts hA hlt
  · rw [hspec ds hlen, hvars]
    exact rfl

/-! ### Opening arguments -/
/-- Whatever reads as type t has the cells of some y. -/
def Reads {α : Type} (P : Program) (t : TypeId) (enc : α → List Value) (ok : α → Prop) : Prop :=
  ∀ (H : Type) (enc0 : TypeId × Value → H) (w : World) (base : Nat) (spare : Nat → Bool) (held : Bool) (fuel : Nat) (cs : List Value) (x : DataW H × List MemPlace),
    DataW.trod enc0 P w base spare held fuel t cs = some x → ∃ y, cs = enc y ∧ ok y

theorem reads_int {P : Program} {t : TypeId} {k : IntKind} (ht : P.underlying t = some (.int k)) : Reads P t (fun n : Int => [.int k n]) (fun n => (Lit.int k n).wf = true) := by
  intro H enc0 w base spare held fuel cs x h
  obtain ⟨n, hn, _, hw⟩ := DataW.trod_int ht h
  exact ⟨n, hn, hw⟩
theorem list_of_all {α : Type} (Q : Nat → α → Prop) : ∀ n, (∀ i, i < n → ∃ x, Q i x) → ∃ l : List α, l.length = n ∧ ∀ i x, l[i]? = some x → Q i x := by
  intro n
  induction n with
  | zero => intro _; exact ⟨[], rfl, fun i x h => by simp at h⟩
  | succ n ih =>
    intro h
    obtain ⟨l, hl, hq⟩ := ih (fun i hi => h i (by omega))
    obtain ⟨x, hx⟩ := h n (by omega)
    refine ⟨l ++ [x], by simp [hl], fun i y hy => ?_⟩
    rcases Nat.lt_or_ge i n with hlt | hge
    · rw [List.getElem?_append_left (by omega)] at hy
      exact hq i y hy
    · have hi : i = n := by
        have := (List.getElem?_eq_some_iff.1 hy).1
        simp at this
        omega
      subst hi
      rw [List.getElem?_append_right (by omega)] at hy
      simp [hl] at hy
      rw [← hy]
      exact hx

theorem flat_index {α : Type} {enc : α → List Value} {sz : Nat} (hsz : ∀ x, (enc x).length = sz) : ∀ (l : List α) (j : Nat) (u : Value), (l.flatMap enc)[j]? = some u → ∃ i x, l[i]? = some x ∧ ∃ k, k < sz ∧ j = i * sz + k ∧ (enc x)[k]? = some u := by
  intro l
  induction l with
  | nil => intro j u h; simp at h
  | cons y l ih =>
    intro j u h
    rw [List.flatMap_cons] at h
    rcases Nat.lt_or_ge j sz with hlt | hge
    · rw [List.getElem?_append_left (by rw [hsz]; exact hlt)] at h
      exact ⟨0, y, rfl, j, hlt, by omega, h⟩
    · rw [List.getElem?_append_right (by rw [hsz]; exact hge), hsz] at h
      obtain ⟨i, x, hx, k, hk, he, hu⟩ := ih _ _ h
      exact ⟨i + 1, x, by simpa using hx, k, hk, by rw [Nat.succ_mul]; omega, hu⟩

end Go.Proofs.YtkeainhjghdfcaaGreat

/- The plain law of plans: the widths of columns, chunk by chunk, and element by element. -/
namespace Go.Proofs.YtkeainhjghdfcaaGreat

def maxL (zs : List Int) : Int := zs.foldl max 0
theorem maxL_snoc (zs : List Int) (z : Int) : maxL (zs ++ [z]) = max (maxL zs) z := by simp [maxL]
def chunk (zs : List Int) (rows c : Nat) : List Int := (zs.drop (c * rows)).take rows
def planL (zs : List Int) (rows : Nat) : List Int := (List.range ((zs.length + rows - 1) / rows)).map fun c => maxL (chunk zs rows c)

theorem ceil_div {n q m rows : Nat} (h : n = q * rows + m) (hm : m < rows) : (n + rows - 1) / rows = if m = 0 then q else q + 1 := by
  split
  · rename_i h0
    refine Nat.div_eq_of_lt_le ?_ ?_
    · omega
    · rw [Nat.succ_mul]; omega
  · refine Nat.div_eq_of_lt_le ?_ ?_
    · rw [Nat.succ_mul]; omega
    · rw [Nat.succ_mul, Nat.succ_mul]; omega

theorem planL_len (zs : List Int) (rows : Nat) : (planL zs rows).length = (zs.length + rows - 1) / rows := by simp [planL]

theorem chunk_snoc_before (zs : List Int) (z : Int) {rows c : Nat} (h : c * rows + rows ≤ zs.length) : chunk (zs ++ [z]) rows c = chunk zs rows c := by
  unfold chunk
  rw [List.drop_append_of_le_length (by omega), List.take_append_of_le_length (by simp; omega)]

theorem chunk_snoc_last (zs : List Int) (z : Int) {rows c : Nat} (h : c * rows ≤ zs.length) (h2 : zs.length < c * rows + rows) : chunk (zs ++ [z]) rows c = chunk zs rows c ++ [z] := by
  unfold chunk
  rw [List.drop_append_of_le_length h, List.take_append, List.take_of_length_le (by simp; omega), List.take_of_length_le (l := [z]) (by simp; omega)]

theorem planL_get (zs : List Int) (rows c : Nat) (h : c < (zs.length + rows - 1) / rows) : (planL zs rows)[c]? = some (maxL (chunk zs rows c)) := by
  unfold planL; rw [List.getElem?_map, List.getElem?_range h]; rfl

theorem plan_div (n rows : Nat) (hr : 0 < rows) : n = n / rows * rows + n % rows ∧ n % rows < rows := ⟨by rw [Nat.mul_comm]; exact (Nat.div_add_mod n rows).symm, Nat.mod_lt _ hr⟩

/-- One element more: a new column. -/
theorem planL_new (zs : List Int) (z : Int) (rows : Nat) (hr : 0 < rows) (hm : zs.length % rows = 0) :
    planL (zs ++ [z]) rows = planL zs rows ++ [max 0 z] ∧ (planL zs rows).length = zs.length / rows := by
  obtain ⟨h1, h2⟩ := plan_div zs.length rows hr
  have hl : (planL zs rows).length = zs.length / rows := by rw [planL_len, ceil_div h1 h2, if_pos hm]
  refine ⟨?_, hl⟩
  have hl2 : (planL (zs ++ [z]) rows).length = zs.length / rows + 1 := by
    rw [planL_len]
    have e : (zs ++ [z]).length + rows - 1 = zs.length + rows := by rw [List.length_append, List.length_singleton]; omega
    rw [e, Nat.add_div_right _ hr]
  generalize hq : zs.length / rows = q at *
  refine List.ext_getElem? fun c => ?_
  rcases Nat.lt_trichotomy c q with hc | hc | hc
  · rw [List.getElem?_append_left (by omega), planL_get _ _ _ (by rw [← planL_len]; omega), planL_get _ _ _ (by rw [← planL_len]; omega), chunk_snoc_before]
    have := Nat.mul_le_mul_right rows (show c + 1 ≤ q by omega)
    rw [Nat.succ_mul] at this
    omega
  · subst hc
    rw [List.getElem?_append_right (by omega), hl, Nat.sub_self, planL_get _ _ _ (by rw [← planL_len]; omega), chunk_snoc_last _ _ (by omega) (by omega), maxL_snoc]
    have : chunk zs rows c = [] := by unfold chunk; rw [List.drop_of_length_le (by omega), List.take_nil]
    rw [this]
    rfl
  · rw [List.getElem?_eq_none (by omega), List.getElem?_eq_none (by simp; omega)]

/-- One element more in the last column. -/
theorem planL_old (zs : List Int) (z : Int) (rows : Nat) (hr : 0 < rows) (hm : zs.length % rows ≠ 0) :
    ∃ x, (planL zs rows)[zs.length / rows]? = some x ∧ planL (zs ++ [z]) rows = (planL zs rows).set (zs.length / rows) (max x z) := by
  obtain ⟨h1, h2⟩ := plan_div zs.length rows hr
  have hl : (planL zs rows).length = zs.length / rows + 1 := by rw [planL_len, ceil_div h1 h2, if_neg hm]
  have hl2 : (planL (zs ++ [z]) rows).length = zs.length / rows + 1 := by
    rw [planL_len]
    have e : (zs ++ [z]).length + rows - 1 = zs.length + rows := by rw [List.length_append, List.length_singleton]; omega
    rw [e, Nat.add_div_right _ hr]
  generalize hq : zs.length / rows = q at *
  refine ⟨_, planL_get zs rows q (by rw [← planL_len]; omega), List.ext_getElem? fun c => ?_⟩
  rcases Nat.lt_trichotomy c q with hc | hc | hc
  · rw [List.getElem?_set_ne (by omega), planL_get _ _ _ (by rw [← planL_len]; omega), planL_get _ _ _ (by rw [← planL_len]; omega), chunk_snoc_before]
    have := Nat.mul_le_mul_right rows (show c + 1 ≤ q by omega)
    rw [Nat.succ_mul] at this
    omega
  · subst hc
    rw [List.getElem?_set_self (by omega), planL_get _ _ _ (by rw [← planL_len]; omega), chunk_snoc_last _ _ (by omega) (by omega), maxL_snoc]
  · rw [List.getElem?_eq_none (by omega), List.getElem?_eq_none (by simp; omega)]

theorem maxL_bd {B : Int} (hB : 0 ≤ B) : ∀ zs : List Int, (∀ z ∈ zs, z ≤ B) → 0 ≤ maxL zs ∧ maxL zs ≤ B := by
  intro zs
  have key : ∀ (l : List Int) (x : Int), 0 ≤ x → x ≤ B → (∀ z ∈ l, z ≤ B) → 0 ≤ l.foldl max x ∧ l.foldl max x ≤ B := by
    intro l
    induction l with
    | nil => intro x h1 h2 _; exact ⟨h1, h2⟩
    | cons y l ih =>
      intro x h1 h2 h3
      have hy := h3 y List.mem_cons_self
      exact ih (max x y) (by omega) (by omega) (fun z hz => h3 z (List.mem_cons_of_mem _ hz))
  exact key zs 0 (Int.le_refl _) hB

theorem planL_bd {B : Int} (hB : 0 ≤ B) (zs : List Int) (rows : Nat) (h : ∀ z ∈ zs, z ≤ B) : ∀ z ∈ planL zs rows, 0 ≤ z ∧ z ≤ B := by
  intro z hz
  unfold planL at hz
  obtain ⟨c, _, rfl⟩ := List.mem_map.1 hz
  exact maxL_bd hB _ (fun y hy => h y (List.mem_of_mem_drop (List.mem_of_mem_take hy)))
end Go.Proofs.YtkeainhjghdfcaaGreat

/- 'Total' of a plan; 'Same' of two lists that are the same. -/
namespace Go.Proofs.YtkeainhjghdfcaaGreat
open Go.RowKit

set_option maxRecDepth 100000 in
set_option maxHeartbeats 400000 in
theorem total_any (r : Int) (v : Value) (zs : List Int) (w : World) (hR : Ri w.heap.size w v zs) (hn : narrow zs) :
    Calls Tryz.prog 92 #[.agg #[.int .i64 r, v]] w fun e w' => e = .returned (.int .i64 (totalL zs)) ∧ Below w.heap.size w w' := by
  obtain ⟨a, cap, rfl, hcap, hmax, hxl, hcells⟩ := hR
  unfold maxLen at hmax
  have hlen := hn.1
  clear hxl
  go_enter Tryz.func92, Tryz.ntmps92
  go_wp2
  go_loop [3, 9] (fun n i => ∃ k : Nat, k ≤ zs.length ∧ i = .int .i64 k ∧ n = .int .i64 (partL zs k)) (fun _ i => zs.length - (intOf i).toNat)
  case atStart => exact ⟨0, Nat.zero_le _, rfl, rfl⟩
  case round =>
    obtain ⟨k, hk, rfl, rfl⟩ := hrel
    obtain ⟨s1, s2⟩ := sumL_bd hn k hk
    by_cases hlt : k < zs.length
    · obtain ⟨z, hz⟩ : ∃ z, zs[k]? = some z := ⟨zs[k], by simp [hlt]⟩
      obtain ⟨b, off, rfl, hbl, hc⟩ := hcells (by omega)
      obtain ⟨z1, z2⟩ := hn.2 z (List.mem_of_getElem? hz)
      have hd : w.cell? ⟨b, off + k, none⟩ = some (.int .i64 z) := hc _ _ (ints_get hz)
      have hp : partL zs (k + 1) = sumL (zs.take k) + z + 2 * (k : Int) := by unfold partL; rw [take_snoc' hz, sumL_snoc]; simp
      have hp0 : partL zs k = sumL (zs.take k) + 2 * ((k - 1 : Nat) : Int) := rfl
      generalize partL zs k = P at *
      generalize sumL (zs.take k) = S at *
      have HP := Lib.hid hp
      have hP1 : 0 ≤ P := by omega
      have hP2 : P ≤ 1152921504606846976 := by omega
      have HP0 := Lib.hid hp0
      clear hz hc hcells hp hp0
      by_cases h0 : (0 : Int) < k
      all_goals
        go_wp2
        go_round
        case rel => exact ⟨k + 1, by omega, by go_num, by rw [HP.out]; have := HP0.out; congr 1; omega⟩
        case measure => simp [intOf]; omega
    · have hkl : k = zs.length := by omega
      subst hkl
      have hT := Lib.hid (show partL zs zs.length = totalL zs by unfold partL totalL sumL; rw [List.take_length])
      clear hcells
      go_wp2
      go_ret
      exact ⟨ret_int hT.out, (Below.refl _ _).alloc (Nat.le_refl _) _⟩

set_option maxRecDepth 100000 in
set_option maxHeartbeats 400000 in
theorem sameInts_eq (v u : Value) (zs : List Int) (w : World) (hv : Ri w.heap.size w v zs) (hu : Ri w.heap.size w u zs) :
    Calls Tryz.prog 91 #[v, u] w fun e w' => e = .returned (.bool true) ∧ Below w.heap.size w w' := by
  obtain ⟨a, cap, rfl, hcap, hmax, hxl, hcells⟩ := hv
  obtain ⟨a', cap', rfl, hcap', hmax', hxl', hcells'⟩ := hu
  unfold maxLen at hmax hmax'
  clear hxl hxl'
  go_enter Tryz.func91, Tryz.ntmps91
  go_wp2
  go_loopw [5] (fun i wr => ∃ k : Nat, k ≤ zs.length ∧ i = .int .i64 k ∧ Below w.heap.size w wr) (fun i _ => zs.length - (intOf i).toNat)
  case atStart => exact ⟨0, Nat.zero_le _, rfl, Below.refl _ _⟩
  case round =>
    obtain ⟨k, hk, rfl, hB⟩ := hrel
    by_cases hlt : k < zs.length
    · obtain ⟨z, hz⟩ : ∃ z, zs[k]? = some z := ⟨zs[k], by simp [hlt]⟩
      obtain ⟨b, off, rfl, hbl, hc⟩ := hcells (by omega)
      obtain ⟨b', off', rfl, hbl', hc'⟩ := hcells' (by omega)
      have hd : wr.cell? ⟨b, off + k, none⟩ = some (.int .i64 z) := cell_later hB (hc _ _ (ints_get hz))
      have hd' : wr.cell? ⟨b', off' + k, none⟩ = some (.int .i64 z) := cell_later hB (hc' _ _ (ints_get hz))
      have hkl : (k : Int) < zs.length := by omega
      clear hcells hcells' hc hc' hz
      go_wp2
      go_quiet (fail)
      go_wp2
      go_roundw
      case rel => exact ⟨k + 1, by omega, by go_num, ⟨hB.os, hB.tape, hB.output, hB.size, hB.block⟩⟩
      case measure => simp [intOf]; omega
    · clear hcells hcells'
      go_wp2
      go_ret
      exact ⟨rfl, hB⟩
end Go.Proofs.YtkeainhjghdfcaaGreat

/- columns.plan: widths laid into so many rows. -/
namespace Go.Proofs.YtkeainhjghdfcaaGreat
open Go.RowKit

/-- The two variables of plan: the result's, and p, whose rows are known. -/
structure PlanF (w : World) (rows : Nat) (wr : World) : Prop where
  below : Below w.heap.size w wr
  size : w.heap.size + 2 ≤ wr.heap.size
  r0 : wr.cell? ⟨w.heap.size, 0, none⟩ = some (.int .i64 0)
  r1 : wr.cell? ⟨w.heap.size, 1, none⟩ = some (.slice none 0 0)
  f0 : wr.frozen? ⟨w.heap.size, 0, none⟩ = false
  f1 : wr.frozen? ⟨w.heap.size, 1, none⟩ = false
  p0 : wr.cell? ⟨w.heap.size + 1, 0, none⟩ = some (.int .i64 rows)
  g0 : wr.frozen? ⟨w.heap.size + 1, 0, none⟩ = false
  g1 : wr.frozen? ⟨w.heap.size + 1, 1, none⟩ = false

theorem PlanF.stays {w wr w1 : World} {rows : Nat} (h : PlanF w rows wr) (hb : Below (w.heap.size + 2) wr w1) : PlanF w rows w1 :=
  ⟨h.below.trans (hb.mono (by omega)), Nat.le_trans h.size hb.size, (hb.cell (p := ⟨w.heap.size, 0, none⟩) (by show w.heap.size < _; omega)).trans h.r0, (hb.cell (p := ⟨w.heap.size, 1, none⟩) (by show w.heap.size < _; omega)).trans h.r1,
    (hb.frozen (p := ⟨w.heap.size, 0, none⟩) (by show w.heap.size < _; omega)).trans h.f0, (hb.frozen (p := ⟨w.heap.size, 1, none⟩) (by show w.heap.size < _; omega)).trans h.f1,
    (hb.cell (p := ⟨w.heap.size + 1, 0, none⟩) (by show w.heap.size + 1 < _; omega)).trans h.p0,
    (hb.frozen (p := ⟨w.heap.size + 1, 0, none⟩) (by show w.heap.size + 1 < _; omega)).trans h.g0, (hb.frozen (p := ⟨w.heap.size + 1, 1, none⟩) (by show w.heap.size + 1 < _; omega)).trans h.g1⟩

theorem PlanF.setP {w wr : World} {rows : Nat} (h : PlanF w rows wr) (u : Value) : PlanF w rows (wr.setCell ⟨w.heap.size + 1, 1, none⟩ u) :=
  ⟨h.below.setCell (p := ⟨w.heap.size + 1, 1, none⟩) (by show w.heap.size ≤ w.heap.size + 1; omega) u, by simpa using h.size, (World.cell?_setCell_other _ _ _ _ (by simp)).trans h.r0, (World.cell?_setCell_other _ _ _ _ (by simp)).trans h.r1,
    (World.frozen?_setCell _ _ _ _).trans h.f0, (World.frozen?_setCell _ _ _ _).trans h.f1, (World.cell?_setCell_other _ _ _ _ (by simp)).trans h.p0, (World.frozen?_setCell _ _ _ _).trans h.g0, (World.frozen?_setCell _ _ _ _).trans h.g1⟩

theorem set_ints (zs : List Int) (k : Nat) (z : Int) : (ints zs).set k (.int .i64 z) = ints (zs.set k z) := by unfold ints; rw [List.map_set]

def PlanI (w : World) (rows : Nat) (zs : List Int) (k : Nat) (wr : World) : Prop :=
  PlanF w rows wr ∧ ∃ a cap, wr.cell? ⟨w.heap.size + 1, 1, none⟩ = some (.slice a (planL (zs.take k) rows).length cap) ∧
    wr.ownsRow (w.heap.size + 2) 3 1 (.slice a (planL (zs.take k) rows).length cap) (planL (zs.take k) rows).length (ints (planL (zs.take k) rows))

theorem planI_mk {w W : World} {rows : Nat} {zs M : List Int} {k : Nat} {gb n cap : Nat} (hF : PlanF w rows W) (hc : W.cell? ⟨w.heap.size + 1, 1, none⟩ = some (.slice (some ⟨gb, 0, none⟩) n cap))
    (hn : n = M.length) (ho : W.ownsRow (w.heap.size + 2) 3 1 (.slice (some ⟨gb, 0, none⟩) n cap) n (ints M)) (hM : planL (zs.take k) rows = M) : PlanI w rows zs k W := by
  subst hn
  subst hM
  exact ⟨hF, _, _, hc, ho⟩

/-- p's slice is written, then one of its cells. -/
theorem planI_two {w w1 : World} {rows : Nat} {zs L M : List Int} {k : Nat} {gb n cap q : Nat} {z : Int} {xs : List Value} (hF : PlanF w rows w1) (hsome : (w1.cell? ⟨w.heap.size + 1, 1, none⟩).isSome = true)
    (ho : w1.ownsRow (w.heap.size + 2) 3 1 (.slice (some ⟨gb, 0, none⟩) n cap) n xs) (hn : n = M.length) (hxs : xs = ints L) (hL : L.set q z = M) (hM : planL (zs.take k) rows = M) :
    PlanI w rows zs k ((w1.setCell ⟨w.heap.size + 1, 1, none⟩ (.slice (some ⟨gb, 0, none⟩) n cap)).setCell ⟨gb, q, none⟩ (.int .i64 z)) := by
  have hgb := ho.lt gb rfl
  have ho2 := (ownsRow_setCell_below ho (a := ⟨w.heap.size + 1, 1, none⟩) (by show w.heap.size + 1 < _; omega) (.slice (some ⟨gb, 0, none⟩) n cap)).stored q (.int .i64 z)
  refine planI_mk (M := M) (gb := gb) (cap := cap) ((hF.setP _).stays ((Below.refl _ _).setCell (p := ⟨gb, q, none⟩) hgb.1 _)) ?_ hn ?_ hM
  · rw [World.cell?_setCell_other _ _ _ _ (by intro e; injection e with e1; omega)]
    exact World.cell?_setCell_same' _ _ _ hsome
  · rw [← hL, ← set_ints, ← hxs]
    exact ho2.1

theorem planI_one {w w1 : World} {rows : Nat} {zs M : List Int} {k : Nat} {gb n cap : Nat} {xs : List Value} (hF : PlanF w rows w1) (hsome : (w1.cell? ⟨w.heap.size + 1, 1, none⟩).isSome = true)
    (ho : w1.ownsRow (w.heap.size + 2) 3 1 (.slice (some ⟨gb, 0, none⟩) n cap) n xs) (hn : n = M.length) (hxs : xs = ints M) (hM : planL (zs.take k) rows = M) :
    PlanI w rows zs k (w1.setCell ⟨w.heap.size + 1, 1, none⟩ (.slice (some ⟨gb, 0, none⟩) n cap)) := by
  have ho2 := ownsRow_setCell_below ho (a := ⟨w.heap.size + 1, 1, none⟩) (by show w.heap.size + 1 < _; omega) (.slice (some ⟨gb, 0, none⟩) n cap)
  exact planI_mk (M := M) (hF.setP _) (World.cell?_setCell_same' _ _ _ hsome) hn (by rw [← hxs]; exact ho2) hM

set_option maxRecDepth 100000 in
set_option maxHeartbeats 1000000 in
theorem plan_any (v : Value) (zs : List Int) (rows : Nat) (w : World) (hR : Ri w.heap.size w v zs) (hlen : zs.length ≤ 1048576) (hr : 0 < rows) (hr2 : rows ≤ 1048576) (hz : ∀ z ∈ zs, 0 ≤ z) :
    Calls Tryz.prog 133 #[v, .int .i64 rows] w fun e w' => ∃ vw, e = .returned (.agg #[.int .i64 rows, vw]) ∧ Below w.heap.size w w' ∧ w'.ownsRow w.heap.size 3 1 vw (planL zs rows).length (ints (planL zs rows)) := by
  obtain ⟨a, cap, rfl, hcap, hmax, hxl, hcells⟩ := hR
  unfold maxLen at hmax
  clear hxl
  go_enter Tryz.func133, Tryz.ntmps133
  go_wp2
  go_loopw [13] (fun i wr => ∃ k : Nat, k ≤ zs.length ∧ i = .int .i64 k ∧ PlanI w rows zs k wr) (fun i _ => zs.length - (intOf i).toNat)
  case atStart =>
    refine ⟨0, Nat.zero_le _, rfl, ⟨((Below.refl _ w).alloc (Nat.le_refl _) _).alloc (by simp) _, by simp, by go_simp, by go_simp, by go_simp, by go_simp, by go_simp, by go_simp, by go_simp⟩, ?_⟩
    have h0 : planL (zs.take 0) rows = [] := by
      unfold planL
      have : (([] : List Int).length + rows - 1) / rows = 0 := Nat.div_eq_of_lt (by simp; omega)
      simp only [List.take_zero, this, List.range_zero, List.map_nil]
    rw [h0]
    exact ⟨none, 0, by go_simp, World.ownsRow_nil _ _ _ _⟩
  case round =>
    obtain ⟨k, hk, rfl, hF, ap, capp, p1, ho⟩ := hrel
    obtain ⟨q, hq⟩ : ∃ q, q = k / rows := ⟨_, rfl⟩
    have hqk : q ≤ k := by rw [hq]; exact Nat.div_le_self _ _
    have hqi : (k : Int) / (rows : Int) = (q : Int) := by rw [hq]; rfl
    by_cases hlt : k < zs.length
    · obtain ⟨z, hzk⟩ : ∃ z, zs[k]? = some z := ⟨zs[k], by simp [hlt]⟩
      obtain ⟨b, off, rfl, hbl, hc⟩ := hcells (by omega)
      have hd : wr.cell? ⟨b, off + k, none⟩ = some (.int .i64 z) := cell_later hF.below (hc _ _ (ints_get hzk))
      have hz0 := hz z (List.mem_of_getElem? hzk)
      have hts := take_snoc' hzk
      have htl : (zs.take k).length = k := by simp; omega
      have hsz := hF.size
      by_cases hm : k % rows = 0
      · have hnew := planL_new (zs.take k) z rows hr (by rw [htl]; exact hm)
        rw [htl, ← hts, ← hq] at hnew
        obtain ⟨hn1, hn2⟩ := hnew
        have hmb : ((k : Int) % (rows : Int) == 0) = true := by simp; omega
        rw [hn2] at p1 ho
        obtain ⟨L, hL⟩ : ∃ L, L = planL (zs.take k) rows := ⟨_, rfl⟩
        rw [← hL] at ho hn1 hn2
        have HN := Lib.hid hn1
        have HL := Lib.hid hn2
        clear hn1 hn2 hL hc hcells hzk hz hts htl hm hq
        by_cases hcmp : 0 < z
        all_goals
          obtain ⟨g0, g1⟩ := (⟨hF.g0, hF.g1⟩ : _ ∧ _)
          go_wp2_with (at_builtin; refine wpList_app1 _ rfl (.tmp 23) _ _ rfl Ei _ _ _ rfl ho _ _ [.int .i64 0] rfl (by decide) rfl (one_int _) (by omega) hsz ?_; intro gb cap1 w1 ho1 hg1 hf1; have hb1 := below_app (Below.refl _ wr) hsz ho (Nat.le_refl _) hg1; have hF1 := hF.stays hb1; obtain ⟨g2, g3, p2, p3⟩ := (⟨hF1.g0, hF1.g1, (hb1.cell (p := ⟨w.heap.size + 1, 1, none⟩) (by show w.heap.size + 1 < _; omega)).trans p1, hF1.p0⟩ : _ ∧ _ ∧ _ ∧ _); have hlt1 := ho1.lt gb rfl; have c1 : w1.cell? ⟨gb, q, none⟩ = some (.int .i64 0) := (ho1.cellAt q (by omega)).trans (by rw [List.getElem?_append_right (by rw [ints_len, HL.out]; exact Nat.le_refl _)]; simp [ints_len, HL.out]); have c2 := ho1.frozenAt q; have hne : ¬ gb = w.heap.size + 1 := by omega)
        · refine ⟨⟨k + 1, by omega, by go_num, planI_two (L := L ++ [0]) hF1 (by rw [p2]; rfl) ho1 (by simp [HL.out]) (by rw [ints_snoc]) ?_ HN.out⟩, by simp [intOf]; omega⟩
          rw [List.set_append_right _ _ (by rw [HL.out]; exact Nat.le_refl _), HL.out, Nat.sub_self]
          simp; omega
        · refine ⟨⟨k + 1, by omega, by go_num, planI_one hF1 (by rw [p2]; rfl) ho1 (by simp [HL.out]) ?_ HN.out⟩, by simp [intOf]; omega⟩
          have : max 0 z = 0 := by omega
          rw [this, ints_snoc]
      · have hold := planL_old (zs.take k) z rows hr (by rw [htl]; exact hm)
        rw [htl, ← hts, ← hq] at hold
        obtain ⟨x, hx1, hx2⟩ := hold
        have hmb : ((k : Int) % (rows : Int) == 0) = false := by simp; omega
        generalize planL (zs.take k) rows = L at *
        have hql := (List.getElem?_eq_some_iff.1 hx1).1
        obtain ⟨gb, cap1, hv, hgb⟩ := ownBlock_of_owns ho (by omega)
        rw [hv] at p1 ho
        have c1 : wr.cell? ⟨gb, q, none⟩ = some (.int .i64 x) := (ho.cellAt q (by omega)).trans (ints_get hx1)
        have c2 := ho.frozenAt q
        have hlt1 := ho.lt gb rfl
        have hne : ¬ gb = w.heap.size + 1 := by omega
        have HN := Lib.hid hx2
        have HX := Lib.hid hx1
        clear hx1 hx2 hv hc hcells hzk hz hts htl hm hq
        by_cases hcmp : x < z
        · have HM := Lib.hid (show max x z = z by omega)
          obtain ⟨g0, g1⟩ := (⟨hF.g0, hF.g1⟩ : _ ∧ _)
          go_wp2
          refine ⟨⟨k + 1, by omega, by go_num, planI_mk (M := L.set q (max x z)) (gb := gb) (n := L.length) (cap := cap1) (hF.stays ((Below.refl _ _).setCell (p := ⟨gb, q, none⟩) hlt1.1 _)) ?_ (by simp) ?_ HN.out⟩, by simp [intOf]; omega⟩
          · rw [World.cell?_setCell_other _ _ _ _ (by intro e; injection e with e1; omega)]; exact p1
          · rw [HM.out, ← set_ints]
            exact (ho.stored q _).1
        · have HM := Lib.hid (show max x z = x by omega)
          obtain ⟨g0, g1⟩ := (⟨hF.g0, hF.g1⟩ : _ ∧ _)
          go_wp2
          refine ⟨⟨k + 1, by omega, by go_num, planI_mk (M := L.set q (max x z)) (gb := gb) (n := L.length) (cap := cap1) hF p1 (by simp) ?_ HN.out⟩, by simp [intOf]; omega⟩
          rw [HM.out]
          have : L.set q x = L := by
            refine List.ext_getElem? fun j => ?_
            by_cases hj : q = j
            · subst hj; rw [List.getElem?_set_self hql, HX.out]
            · rw [List.getElem?_set_ne hj]
          rw [this]
          exact ho
    · have hkl : k = zs.length := by omega
      subst hkl
      rw [List.take_length] at p1 ho
      clear hcells hq hqi
      obtain ⟨g0, g1, r0, r1, f0, f1, p0⟩ := (⟨hF.g0, hF.g1, hF.r0, hF.r1, hF.f0, hF.f1, hF.p0⟩ : _ ∧ _ ∧ _ ∧ _ ∧ _ ∧ _ ∧ _)
      obtain ⟨L, hL⟩ : ∃ L, L = planL zs rows := ⟨_, rfl⟩
      rw [← hL] at p1 ho
      have HL := Lib.hid hL
      have HO := Lib.hid ho
      clear ho hL
      go_wp2
      refine bodyPost_ret (v := .agg #[.int .i64 rows, .slice ap L.length capp]) (by simp [results, Tryz.results133, go_sem, r0, r1]) rfl ⟨_, rfl, (hF.below.setCell (p := ⟨w.heap.size, 0, none⟩) (Nat.le_refl _) _).setCell (p := ⟨w.heap.size, 1, none⟩) (Nat.le_refl _) _, ?_⟩
      have o1 := ownsRow_setCell_below HO.out (a := ⟨w.heap.size, 0, none⟩) (show w.heap.size < w.heap.size + 2 by omega) (.int .i64 rows)
      have o2 := ownsRow_setCell_below o1 (a := ⟨w.heap.size, 1, none⟩) (show w.heap.size < w.heap.size + 2 by omega) (.slice ap L.length capp)
      rw [← HL.out]
      exact owns_mono (base := w.heap.size + 2) o2 (show w.heap.size ≤ w.heap.size + 2 by omega)
end Go.Proofs.YtkeainhjghdfcaaGreat

/- The document's Plan. -/
namespace Go.Proofs.YtkeainhjghdfcaaGreat
open Go.RowKit

theorem ceil_iff (n rows c : Nat) (hr : 0 < rows) : c < (n + rows - 1) / rows ↔ c * rows < n := by
  rw [← Nat.succ_le_iff, Nat.le_div_iff_mul_le hr, Nat.succ_mul]
  omega

def partMax (zs : List Int) (frm j : Nat) : Int := maxL ((zs.drop frm).take j)
theorem partMax_snoc (zs : List Int) (frm j : Nat) (z : Int) (h : zs[frm + j]? = some z) : partMax zs frm (j + 1) = max (partMax zs frm j) z := by
  unfold partMax
  rw [take_snoc' (z := z) (by rw [List.getElem?_drop]; exact h), maxL_snoc]

set_option maxRecDepth 100000 in
set_option maxHeartbeats 1000000 in
theorem refPlan_any (v : Value) (zs : List Int) (rows : Nat) (w : World) (hR : Ri w.heap.size w v zs) (hlen : zs.length ≤ 1048576) (hr : 0 < rows) (hr2 : rows ≤ 1048576) :
    Calls Tryz.prog 42 #[v, .int .i64 rows] w fun e w' => ∃ vw, e = .returned vw ∧ Below w.heap.size w w' ∧ w'.ownsRow w.heap.size 3 1 vw (planL zs rows).length (ints (planL zs rows)) := by
  obtain ⟨a, cap, rfl, hcap, hmax, hxl, hcells⟩ := hR
  unfold maxLen at hmax
  clear hxl
  go_enter Tryz.func42, Tryz.ntmps42
  go_wp2
  go_loopw [5, 6] (fun vo fr wr => ∃ c : Nat, c ≤ (zs.length + rows - 1) / rows ∧ fr = .int .i64 ((c * rows : Nat) : Int) ∧ Below w.heap.size w wr ∧ wr.ownsRow w.heap.size 3 1 vo c (ints ((planL zs rows).take c))) (fun _ fr _ => zs.length + rows - (intOf fr).toNat)
  case atStart => exact ⟨0, Nat.zero_le _, by simp, Below.refl _ _, World.ownsRow_nil _ _ _ _⟩
  case round =>
    obtain ⟨c, hc, rfl, hB, ho⟩ := hrel
    have hBs := hB.size
    have hiff := ceil_iff zs.length rows c hr
    obtain ⟨f, hf⟩ : ∃ f, f = c * rows := ⟨_, rfl⟩
    rw [← hf] at hiff ⊢
    have HF := Lib.hid hf
    clear hf
    by_cases hlt : f < zs.length
    · have hcl : c < (zs.length + rows - 1) / rows := hiff.2 hlt
      have hcc : (zs.length + rows - 1) / rows ≤ zs.length + rows - 1 := Nat.div_le_self _ _
      have hpl := planL_get zs rows c hcl
      have HP := Lib.hid (take_snoc' hpl)
      clear hiff hpl
      obtain ⟨wo, rfl⟩ : ∃ wo : World, wo = wr := ⟨_, rfl⟩
      go_wp2
      go_loop [7, 8] (fun m i => ∃ j : Nat, j ≤ rows ∧ f + j ≤ zs.length ∧ i = .int .i64 ((f + j : Nat) : Int) ∧ m = .int .i64 (partMax zs f j)) (fun _ i => zs.length - (intOf i).toNat)
      case atStart => exact ⟨0, Nat.zero_le _, by omega, rfl, rfl⟩
      case round =>
        obtain ⟨j, hj1, hj2, rfl, rfl⟩ := hrel
        by_cases hin : j < rows ∧ f + j < zs.length
        · obtain ⟨hin1, hin2⟩ := hin
          obtain ⟨z, hzk⟩ : ∃ z, zs[f + j]? = some z := ⟨zs[f + j], by simp [hin2]⟩
          obtain ⟨b, off, rfl, hbl, hcq⟩ := hcells (by omega)
          have hd : wo.cell? ⟨b, off + (f + j), none⟩ = some (.int .i64 z) := cell_later hB (hcq _ _ (ints_get hzk))
          have HM := Lib.hid (partMax_snoc zs f j z hzk)
          clear hcells hcq hzk
          generalize partMax zs f j = m at *
          by_cases hcmp : m < z
          all_goals
            go_wp2
            go_round
            case rel => exact ⟨j + 1, by omega, by omega, by go_num, by rw [HM.out]; congr 1; omega⟩
            case measure => simp [intOf]; omega
        · have hfin := Lib.hid (show partMax zs f j = maxL (chunk zs rows c) by
            unfold partMax chunk
            rw [← HF.out]
            rcases (show j = rows ∨ f + j = zs.length by omega) with h | h
            · rw [h]
            · rw [List.take_of_length_le (by simp; omega), List.take_of_length_le (by simp; omega)])
          have HO := Lib.hid ho
          clear hcells
          by_cases hj : j < rows
          all_goals
            have hB' := HO.out
            go_wp2_with (at_builtin; refine wpList_app1 _ rfl (.tmp 40) _ _ rfl Ei _ _ _ rfl hB' _ _ [.int .i64 (partMax zs f j)] rfl (by decide) rfl (one_int _) (by omega) hB.size ?_; intro g1 cap1 w1 ho1 hg1 hf1; have hB1 := below_app hB hBs hB' (Nat.le_refl _) hg1)
            refine ⟨⟨c + 1, by omega, ?_, hB1, ?_⟩, by simp [intOf]; omega⟩
            · rw [Nat.succ_mul, ← HF.out]; go_num
            · rw [HP.out, ← ints_snoc, ← hfin.out]; exact ho1
    · have hcl : c = (zs.length + rows - 1) / rows := by
        have : ¬ c < (zs.length + rows - 1) / rows := fun h => hlt (hiff.1 h)
        omega
      have hpl : (planL zs rows).length = c := by rw [planL_len]; exact hcl.symm
      rw [List.take_of_length_le (by omega)] at ho
      have HO := Lib.hid ho
      have HL := Lib.hid hpl
      clear ho hcells hpl hcl hiff
      go_wp2
      go_ret
      exact ⟨u5, rfl, hB, by rw [HL.out]; exact HO.out⟩
end Go.Proofs.YtkeainhjghdfcaaGreat

/- Fit, and the document's Fit: the fewest rows. -/
namespace Go.Proofs.YtkeainhjghdfcaaGreat
open Go.RowKit

def isFit (zs : List Int) (cols : Int) (R : Nat) : Prop :=
  1 ≤ R ∧ R ≤ zs.length ∧ (∀ r, 1 ≤ r → r < R → cols < totalL (planL zs r)) ∧ (R < zs.length → totalL (planL zs R) ≤ cols)
theorem isFit_unique {zs : List Int} {cols : Int} {R S : Nat} (h : isFit zs cols R) (k : isFit zs cols S) : R = S := by
  obtain ⟨h1, h2, h3, h4⟩ := h
  obtain ⟨k1, k2, k3, k4⟩ := k
  rcases Nat.lt_trichotomy R S with hlt | he | hgt
  · have a := k3 R h1 hlt
    have b := h4 (by omega)
    omega
  · exact he
  · have a := h3 S k1 hgt
    have b := k4 (by omega)
    omega

theorem planL_narrow {zs : List Int} (h : narrow zs) (rows : Nat) (hr : 0 < rows) : narrow (planL zs rows) := by
  refine ⟨?_, fun z hz => planL_bd (by omega) zs rows (fun y hy => (h.2 y hy).2) z hz⟩
  rw [planL_len]
  have h1 := h.1
  refine Nat.le_trans ?_ h1
  rcases Nat.eq_zero_or_pos zs.length with h0 | h0
  · rw [h0, Nat.div_eq_of_lt (by omega)]; exact Nat.zero_le _
  · rw [← Nat.lt_succ_iff, Nat.div_lt_iff_lt_mul hr, Nat.succ_mul]
    have := Nat.mul_le_mul_left zs.length hr
    omega

structure FitF (w wr : World) : Prop where
  below : Below w.heap.size w wr
  size : w.heap.size + 1 ≤ wr.heap.size
  r0 : wr.cell? ⟨w.heap.size, 0, none⟩ = some (.int .i64 0)
  r1 : wr.cell? ⟨w.heap.size, 1, none⟩ = some (.slice none 0 0)
  f0 : wr.frozen? ⟨w.heap.size, 0, none⟩ = false
  f1 : wr.frozen? ⟨w.heap.size, 1, none⟩ = false
theorem FitF.stays {w wr w1 : World} (h : FitF w wr) (hb : Below wr.heap.size wr w1) : FitF w w1 := by
  have hs := h.size
  exact ⟨h.below.trans (hb.mono (by omega)), Nat.le_trans h.size hb.size, (hb.cell (p := ⟨w.heap.size, 0, none⟩) (by show w.heap.size < _; omega)).trans h.r0, (hb.cell (p := ⟨w.heap.size, 1, none⟩) (by show w.heap.size < _; omega)).trans h.r1,
    (hb.frozen (p := ⟨w.heap.size, 0, none⟩) (by show w.heap.size < _; omega)).trans h.f0, (hb.frozen (p := ⟨w.heap.size, 1, none⟩) (by show w.heap.size < _; omega)).trans h.f1⟩

/-- The result's two cells are written: what is owned lies elsewhere. -/
theorem fit_close {w W : World} {e n : Nat} {v x y : Value} {xs : List Value} (hF : FitF w W) {base : Nat} (ho : W.ownsRow base e 1 v n xs) (hb : w.heap.size < base) :
    Below w.heap.size w ((W.setCell ⟨w.heap.size, 0, none⟩ x).setCell ⟨w.heap.size, 1, none⟩ y) ∧ ((W.setCell ⟨w.heap.size, 0, none⟩ x).setCell ⟨w.heap.size, 1, none⟩ y).ownsRow w.heap.size e 1 v n xs :=
  ⟨(hF.below.setCell (p := ⟨w.heap.size, 0, none⟩) (Nat.le_refl _) _).setCell (p := ⟨w.heap.size, 1, none⟩) (Nat.le_refl _) _,
    owns_mono (ownsRow_setCell_below (ownsRow_setCell_below ho (a := ⟨w.heap.size, 0, none⟩) hb _) (a := ⟨w.heap.size, 1, none⟩) hb _) (Nat.le_of_lt hb)⟩

set_option maxRecDepth 100000 in
set_option maxHeartbeats 1000000 in
theorem fit_some (v : Value) (zs : List Int) (cols : Int) (w : World) (hR : Ri w.heap.size w v zs) (hn : narrow zs) (h0 : 0 < zs.length) :
    Calls Tryz.prog 88 #[v, .int .i64 cols] w fun e w' => ∃ (R : Nat) (vw : Value), e = .returned (.agg #[.int .i64 R, vw]) ∧ Below w.heap.size w w' ∧ isFit zs cols R ∧ w'.ownsRow w.heap.size 3 1 vw (planL zs R).length (ints (planL zs R)) := by
  have hR' := Lib.hid hR
  obtain ⟨a, cap, rfl, hcap, hmax, hxl, hcells⟩ := hR
  unfold maxLen at hmax
  clear hxl hcells
  have hlen := hn.1
  have hnz : ∀ z ∈ zs, 0 ≤ z := fun z hz => (hn.2 z hz).1
  have hb0 : ((zs.length : Int) == 0) = false := by simp; intro h; rw [h] at h0; simp at h0
  go_enter Tryz.func88, Tryz.ntmps88
  go_wp2
  go_loopw [5] (fun i wr => ∃ r : Nat, 1 ≤ r ∧ r ≤ zs.length ∧ i = .int .i64 r ∧ FitF w wr ∧ (∀ r', 1 ≤ r' → r' < r → cols < totalL (planL zs r'))) (fun i _ => zs.length - (intOf i).toNat)
  case atStart => exact ⟨1, Nat.le_refl _, h0, rfl, ⟨(Below.refl _ w).alloc (Nat.le_refl _) _, by simp, by go_simp, by go_simp, by go_simp, by go_simp⟩, fun r' h1 h2 => by omega⟩
  case round =>
    obtain ⟨r, hr1, hr2, rfl, hF, hall⟩ := hrel
    have HA := Lib.hid hall
    clear hall
    by_cases hlt : r < zs.length
    · go_wp2_with fail
      refine (plan_any _ zs r _ (hR'.out.below hF.below (Nat.le_refl _) |>.mono hF.below.size) hlen (by omega) (by omega) hnz).mono ?_
      rintro e w1 ⟨vw, rfl, hB1, ho⟩
      obtain ⟨va, vcap, rfl⟩ := slice_of_owns ho
      have hF1 := hF.stays hB1
      have hT := total_any r (.slice va (planL zs r).length vcap) (planL zs r)
      have hnar := planL_narrow hn r (by omega)
      have HO := Lib.hid ho
      clear ho
      by_cases hfit : totalL (planL zs r) ≤ cols
      · go_wp2_with fail
        refine (hT _ ((ri_of_owns (HO.out.alloc _)).mono (by simp)) hnar).mono ?_
        rintro e w2 ⟨rfl, hB2⟩
        have c0 : w2.cell? ⟨w1.heap.size, 0, none⟩ = some (.int .i64 r) := (hB2.cell (p := ⟨w1.heap.size, 0, none⟩) (by show w1.heap.size < _; simp)).trans (by go_simp)
        have c1 : w2.cell? ⟨w1.heap.size, 1, none⟩ = some (.slice va (planL zs r).length vcap) := (hB2.cell (p := ⟨w1.heap.size, 1, none⟩) (by show w1.heap.size < _; simp)).trans (by go_simp)
        have hB3 : Below w1.heap.size w1 w2 := ((Below.refl _ _).alloc (Nat.le_refl _) _).trans (hB2.mono (by simp))
        have hF2 := hF1.stays hB3
        obtain ⟨r0, r1, f0, f1⟩ := (⟨hF2.r0, hF2.r1, hF2.f0, hF2.f1⟩ : _ ∧ _ ∧ _ ∧ _)
        clear hT
        go_wp2
        have hcl := fit_close (x := .int .i64 r) (y := .slice va (planL zs r).length vcap) hF2 (owns_stays HO.out hB3) (by have := hF.size; omega)
        refine bodyPost_ret (v := .agg #[.int .i64 r, .slice va (planL zs r).length vcap]) (by simp [results, Tryz.results88, go_sem, r0, r1]) rfl ⟨r, _, rfl, hcl.1, ⟨hr1, hr2, HA.out, fun _ => hfit⟩, hcl.2⟩
      · go_wp2_with fail
        refine (hT _ ((ri_of_owns (HO.out.alloc _)).mono (by simp)) hnar).mono ?_
        rintro e w2 ⟨rfl, hB2⟩
        have c0 : w2.cell? ⟨w1.heap.size, 0, none⟩ = some (.int .i64 r) := (hB2.cell (p := ⟨w1.heap.size, 0, none⟩) (by show w1.heap.size < _; simp)).trans (by go_simp)
        have c1 : w2.cell? ⟨w1.heap.size, 1, none⟩ = some (.slice va (planL zs r).length vcap) := (hB2.cell (p := ⟨w1.heap.size, 1, none⟩) (by show w1.heap.size < _; simp)).trans (by go_simp)
        have hB3 : Below w1.heap.size w1 w2 := ((Below.refl _ _).alloc (Nat.le_refl _) _).trans (hB2.mono (by simp))
        have hF2 := hF1.stays hB3
        obtain ⟨r0, r1, f0, f1⟩ := (⟨hF2.r0, hF2.r1, hF2.f0, hF2.f1⟩ : _ ∧ _ ∧ _ ∧ _)
        clear hT
        go_wp2
        refine ⟨⟨r + 1, by omega, by omega, by go_num, hF2, ?_⟩, by simp [intOf]; omega⟩
        intro r' k1 k2
        rcases Nat.lt_or_ge r' r with k3 | k3
        · exact HA.out r' k1 k3
        · have : r' = r := by omega
          subst this
          omega
    · have hrl : r = zs.length := by omega
      subst hrl
      go_wp2_with fail
      refine (plan_any _ zs zs.length _ (hR'.out.below hF.below (Nat.le_refl _) |>.mono hF.below.size) hlen (by omega) (by omega) hnz).mono ?_
      rintro e w1 ⟨vw, rfl, hB1, ho⟩
      obtain ⟨va, vcap, rfl⟩ := slice_of_owns ho
      have hF1 := hF.stays hB1
      have HO := Lib.hid ho
      clear ho
      obtain ⟨r0, r1, f0, f1⟩ := (⟨hF1.r0, hF1.r1, hF1.f0, hF1.f1⟩ : _ ∧ _ ∧ _ ∧ _)
      go_wp2
      have hcl := fit_close (x := .int .i64 zs.length) (y := .slice va (planL zs zs.length).length vcap) hF1 HO.out (by have := hF.size; omega)
      refine bodyPost_ret (v := .agg #[.int .i64 zs.length, .slice va (planL zs zs.length).length vcap]) (by simp [results, Tryz.results88, go_sem, r0, r1]) rfl ⟨zs.length, _, rfl, hcl.1, ⟨hr1, hr2, HA.out, fun h => by omega⟩, hcl.2⟩

set_option maxRecDepth 100000 in
set_option maxHeartbeats 400000 in
theorem fit_nil (v : Value) (cols : Int) (w : World) (hR : Ri w.heap.size w v []) :
    Calls Tryz.prog 88 #[v, .int .i64 cols] w fun e w' => e = .returned (.agg #[.int .i64 0, .slice none 0 0]) ∧ Below w.heap.size w w' := by
  obtain ⟨a, cap, rfl, hcap, hmax, hxl, hcells⟩ := hR
  clear hxl hcells hmax hcap
  go_enter Tryz.func88, Tryz.ntmps88
  go_wp2
  exact bodyPost_ret (v := .agg #[.int .i64 0, .slice none 0 0]) (by simp [results, Tryz.results88, go_sem]) rfl ⟨rfl, (Below.refl _ w).alloc (Nat.le_refl _) _⟩

set_option maxRecDepth 100000 in
set_option maxHeartbeats 1000000 in
theorem refFit_some (v : Value) (zs : List Int) (cols : Int) (w : World) (hR : Ri w.heap.size w v zs) (hn : narrow zs) (h0 : 0 < zs.length) :
    Calls Tryz.prog 40 #[v, .int .i64 cols] w fun e w' => ∃ R : Nat, e = .returned (.int .i64 R) ∧ Below w.heap.size w w' ∧ isFit zs cols R := by
  have hR' := Lib.hid hR
  obtain ⟨a, cap, rfl, hcap, hmax, hxl, hcells⟩ := hR
  unfold maxLen at hmax
  clear hxl hcells
  have hlen := hn.1
  go_enter Tryz.func40, Tryz.ntmps40
  go_wp2
  go_loopw [5] (fun i wr => ∃ r : Nat, 1 ≤ r ∧ r ≤ zs.length ∧ i = .int .i64 r ∧ Below w.heap.size w wr ∧ (∀ r', 1 ≤ r' → r' < r → cols < totalL (planL zs r'))) (fun i _ => zs.length - (intOf i).toNat)
  case atStart => exact ⟨1, Nat.le_refl _, h0, rfl, Below.refl _ _, fun r' h1 h2 => by omega⟩
  case round =>
    obtain ⟨r, hr1, hr2, rfl, hB, hall⟩ := hrel
    have HA := Lib.hid hall
    clear hall
    by_cases hlt : r < zs.length
    · have hnar := planL_narrow hn r (by omega)
      by_cases hfit : totalL (planL zs r) ≤ cols
      all_goals
        go_wp2_with fail
        refine (refPlan_any _ zs r _ (hR'.out.below hB (Nat.le_refl _) |>.mono hB.size) hlen (by omega) (by omega)).mono ?_
        rintro e w1 ⟨vw, rfl, hB1, ho⟩
        go_wp2_with fail
        refine (refTotal_any _ (planL zs r) _ (ri_of_owns ho) hnar).mono ?_
        rintro e w2 ⟨rfl, rfl⟩
        have hB2 := below_trans' hB hB1
        clear ho
        go_wp2
      · go_ret
        exact ⟨r, rfl, hB2, hr1, hr2, HA.out, fun _ => hfit⟩
      · refine ⟨⟨r + 1, by omega, by omega, by go_num, hB2, ?_⟩, by simp [intOf]; omega⟩
        intro r' k1 k2
        rcases Nat.lt_or_ge r' r with k3 | k3
        · exact HA.out r' k1 k3
        · have : r' = r := by omega
          subst this
          omega
    · have hrl : r = zs.length := by omega
      subst hrl
      go_wp2
      go_ret
      exact ⟨zs.length, rfl, hB, hr1, hr2, HA.out, fun h => by omega⟩
end Go.Proofs.YtkeainhjghdfcaaGreat

/- Chapter 45's example; the walk of ColumnsFit. -/
namespace Go.Proofs.YtkeainhjghdfcaaGreat
open Go.RowKit

theorem fit123 {R : Nat} (h : isFit [1, 2, 3] 7 R) : R = 2 :=
  isFit_unique h ⟨by decide, by decide, fun r h1 h2 => by
    have : r = 1 := by omega
    subst this
    decide +kernel, fun _ => by decide +kernel⟩
theorem plan123 : planL [1, 2, 3] 2 = [2, 3] := by decide +kernel
theorem narrow123 : narrow [1, 2, 3] := ⟨by decide, by decide⟩
theorem narrow23 : narrow [2, 3] := ⟨by decide, by decide⟩
theorem total23 : totalL [2, 3] = 7 := by decide +kernel

theorem ri_lit (w : World) (zs : List Int) (n : Nat) (hn : n = zs.length) (hm : n ≤ maxLen) (cs : Array Value) (hcs : cs.toList = ints zs) (e : Nat) :
    Ri (w.alloc (.cells cs e)).heap.size (w.alloc (.cells cs e)) (.slice (some ⟨w.heap.size, 0, none⟩) n n) zs := by
  subst hn
  refine ⟨_, _, rfl, Nat.le_refl _, hm, by simp [ints_len], fun _ => ⟨_, _, rfl, by simp, fun j u hu => ?_⟩⟩
  rw [Nat.zero_add, cell_of_row _ w.heap.size j cs e (0, 0) (heap_alloc_new w _), ← Array.getElem?_toList, hcs]
  exact hu

set_option maxRecDepth 100000 in
set_option maxHeartbeats 400000 in
theorem awake45_any (w : World) : Calls Tryz.prog 38 #[] w fun e w' => e = .returned (.bool true) ∧ Below w.heap.size w w' := by
  go_enter Tryz.func38, Tryz.ntmps38
  go_wp2_with fail
  refine (fit_some _ [1, 2, 3] 7 _ (ri_lit w _ 3 rfl (by decide) _ rfl _) narrow123 (by decide)).mono ?_
  rintro e w1 ⟨R, vw, rfl, hB1, hfit, ho⟩
  obtain rfl := fit123 hfit
  rw [plan123] at ho
  obtain ⟨va, vcap, rfl⟩ := slice_of_owns ho
  have hB0 : Below w.heap.size w w1 := ((Below.refl _ w).alloc (Nat.le_refl _) _).trans (hB1.mono (by simp))
  clear hfit hB1
  have HO := Lib.hid ho
  clear ho
  go_wp2_with fail
  refine (sameInts_eq _ _ [2, 3] _ ?_ ?_).mono ?_
  · exact ri_of_owns ((HO.out.alloc _).alloc _)
  · simpa using ri_lit (w1.alloc (.cells #[.int .i64 2, .slice va 2 vcap] 152)) [2, 3] 2 rfl (by decide) #[.int .i64 2, .int .i64 3] rfl 3
  rintro e w2 ⟨rfl, hB2⟩
  have hb2 : Below w1.heap.size w1 w2 := (((Below.refl _ w1).alloc (Nat.le_refl _) _).alloc (by simp) _).trans (hB2.mono (by simp; omega))
  have c0 : w2.cell? ⟨w1.heap.size, 0, none⟩ = some (.int .i64 2) := (hB2.cell (p := ⟨w1.heap.size, 0, none⟩) (by show w1.heap.size < _; simp; omega)).trans (by go_simp)
  have c1 : w2.cell? ⟨w1.heap.size, 1, none⟩ = some (.slice va 2 vcap) := (hB2.cell (p := ⟨w1.heap.size, 1, none⟩) (by show w1.heap.size < _; simp; omega)).trans (by go_simp)
  go_wp2_with fail
  refine (total_any _ _ [2, 3] _ (ri_of_owns (owns_stays HO.out hb2)) narrow23).mono ?_
  rintro e w3 ⟨rfl, hB3⟩
  have ht : ((totalL [2, 3]) == 7) = true := by rw [total23]; rfl
  go_wp2
  go_ret
  exact ⟨rfl, below_trans' (below_trans' hB0 hb2) hB3⟩
end Go.Proofs.YtkeainhjghdfcaaGreat

/- Bytes read as scalars, plainly: the decoder and the document; what is put is read. No program is named here. -/
namespace Go.Proofs.YtkeainhjghdfcaaGreat

/-- a decoder: how many bytes more, so far, from where to where the next one may be, its value -/
structure Dc where
  nd : Int
  hv : Int
  lo : Int
  hi : Int
  vl : Int
def Dc0 : Dc := ⟨0, 0, 0, 0, 0⟩
/-- behind a first byte -/
def Dc1 (b : Int) : Dc := ⟨if b < 224 then 1 else if b < 240 then 2 else 3, 1, if b = 224 then 160 else if b = 240 then 144 else 128, if b = 237 then 159 else if b = 244 then 143 else 191, if b < 224 then b % 32 else if b < 240 then b % 16 else b % 8⟩
def fstD (b : Int) : Dc × List Int := if b < 128 then (Dc0, [b]) else if b < 194 ∨ 244 < b then (Dc0, [65533]) else (Dc1 b, [])
def fdD (d : Dc) (b : Int) : Dc × List Int :=
  if d.nd = 0 then fstD b else if b < d.lo ∨ d.hi < b then ((fstD b).1, 65533 :: (fstD b).2)
  else if d.nd = 1 then (Dc0, [d.vl * 64 + b % 64]) else (⟨d.nd - 1, d.hv + 1, 128, 191, d.vl * 64 + b % 64⟩, [])
def endD (d : Dc) : List Int := if d.nd = 0 then [] else [65533]
/-- what a decoder tells of bytes -/
def decS (d : Dc) : List Int → List Int
  | [] => endD d
  | b :: l => (fdD d b).2 ++ decS (fdD d b).1 l
def stD (d : Dc) : List Int → Dc
  | [] => d
  | b :: l => stD (fdD d b).1 l
def outD (d : Dc) : List Int → List Int
  | [] => []
  | b :: l => (fdD d b).2 ++ outD (fdD d b).1 l
theorem decS_out : ∀ (l : List Int) (d : Dc), decS d l = outD d l ++ endD (stD d l)
  | [], d => rfl
  | b :: l, d => by
    show (fdD d b).2 ++ decS (fdD d b).1 l = (fdD d b).2 ++ outD (fdD d b).1 l ++ endD (stD (fdD d b).1 l)
    rw [decS_out l, List.append_assoc]
section
variable {d : Dc} {b : Int} {l : List Int}
theorem dec_nil (h : d.nd ≠ 0) : decS d [] = [65533] := by unfold decS endD; rw [if_neg h]
theorem dec_0 (b : Int) (l : List Int) : decS Dc0 (b :: l) = (fstD b).2 ++ decS (fstD b).1 l := by
  show (fdD Dc0 b).2 ++ decS (fdD Dc0 b).1 l = _
  unfold fdD
  rw [if_pos (show Dc0.nd = 0 from rfl)]
theorem dec_bad (h : d.nd ≠ 0) (hb : b < d.lo ∨ d.hi < b) : decS d (b :: l) = 65533 :: decS Dc0 (b :: l) := by
  rw [dec_0]
  show (fdD d b).2 ++ decS (fdD d b).1 l = _
  unfold fdD
  rw [if_neg h, if_pos hb]
  rfl
theorem dec_last (h : d.nd = 1) (hb : ¬ (b < d.lo ∨ d.hi < b)) : decS d (b :: l) = (d.vl * 64 + b % 64) :: decS Dc0 l := by
  show (fdD d b).2 ++ decS (fdD d b).1 l = _
  unfold fdD
  rw [if_neg (by omega), if_neg hb, if_pos h]
  rfl
theorem dec_more (h : d.nd ≠ 0) (h1 : d.nd ≠ 1) (hb : ¬ (b < d.lo ∨ d.hi < b)) : decS d (b :: l) = decS ⟨d.nd - 1, d.hv + 1, 128, 191, d.vl * 64 + b % 64⟩ l := by
  show (fdD d b).2 ++ decS (fdD d b).1 l = _
  unfold fdD
  rw [if_neg h, if_neg hb, if_neg h1]
  rfl
theorem dec_low (h : b < 128) : decS Dc0 (b :: l) = b :: decS Dc0 l := by
  rw [dec_0]; unfold fstD; rw [if_pos h]; rfl
theorem dec_none (h : ¬ b < 128) (h1 : b < 194 ∨ 244 < b) : decS Dc0 (b :: l) = 65533 :: decS Dc0 l := by
  rw [dec_0]; unfold fstD; rw [if_neg h, if_pos h1]; rfl
theorem dec_one (h : ¬ b < 128) (h1 : ¬ (b < 194 ∨ 244 < b)) : decS Dc0 (b :: l) = decS (Dc1 b) l := by
  rw [dec_0]; unfold fstD; rw [if_neg h, if_neg h1]; rfl
end

/-- may a byte stand at a place of a row that begins so? -/
def mayB (c : Int) (i : Nat) (b : Int) : Bool :=
  if i = 0 then decide (c < 128) || (decide (194 ≤ c) && decide (c ≤ 244))
  else if i = 1 ∧ c = 224 then decide (160 ≤ b) && decide (b ≤ 191)
  else if i = 1 ∧ c = 237 then decide (128 ≤ b) && decide (b ≤ 159)
  else if i = 1 ∧ c = 240 then decide (144 ≤ b) && decide (b ≤ 191)
  else if i = 1 ∧ c = 244 then decide (128 ≤ b) && decide (b ≤ 143)
  else decide (128 ≤ b) && decide (b ≤ 191)
def longN (c : Int) : Nat := if c < 128 then 1 else if c < 224 then 2 else if c < 240 then 3 else 4
def rowGo (c : Int) : Nat → List Int → Nat
  | i, [] => i
  | i, b :: l => if i < longN c ∧ mayB c i b = true then rowGo c (i + 1) l else i
/-- how many bytes at the beginning are one of a row -/
def rowN (s : List Int) : Nat := rowGo (s.headD 0) 0 s
def wholeB (s : List Int) : Bool := decide (0 < rowN s) && decide (rowN s = longN (s.headD 0))
/-- of a whole row -/
def valN : List Int → Int
  | [] => 0
  | [c] => c
  | c :: l => l.foldl (fun v b => 64 * v + b - 128) (if l.length = 2 then c - 224 else if l.length = 3 then c - 240 else c - 192)
def docF : Nat → List Int → List Int
  | 0, _ => []
  | _ + 1, [] => []
  | n + 1, b :: l => (if wholeB (b :: l) = true then valN ((b :: l).take (rowN (b :: l))) else 65533) :: docF n ((b :: l).drop (max (rowN (b :: l)) 1))
/-- the document's scalars of bytes -/
def docD (s : List Int) : List Int := docF s.length s
theorem docF_fuel : ∀ (n m : Nat) (s : List Int), s.length ≤ n → s.length ≤ m → docF n s = docF m s
  | n, m, [], _, _ => by cases n <;> cases m <;> rfl
  | 0, m, b :: l, h, _ => by simp at h
  | n + 1, 0, b :: l, _, h => by simp at h
  | n + 1, m + 1, b :: l, h1, h2 => by
    simp only [List.length_cons] at h1 h2
    unfold docF
    rw [docF_fuel n m _ (by rw [List.length_drop, List.length_cons]; omega) (by rw [List.length_drop, List.length_cons]; omega)]
theorem docD_cons (b : Int) (l : List Int) : docD (b :: l) = (if wholeB (b :: l) = true then valN ((b :: l).take (rowN (b :: l))) else 65533) :: docD ((b :: l).drop (max (rowN (b :: l)) 1)) := by
  unfold docD
  show docF (l.length + 1) (b :: l) = _
  conv => lhs; unfold docF
  rw [docF_fuel l.length _ _ (by rw [List.length_drop, List.length_cons]; omega) (Nat.le_refl _)]
theorem rowGo_yes {c : Int} {i : Nat} {b : Int} {l : List Int} (h : i < longN c ∧ mayB c i b = true) : rowGo c i (b :: l) = rowGo c (i + 1) l := by
  conv => lhs; unfold rowGo
  rw [if_pos h]
theorem rowGo_no {c : Int} {i : Nat} {b : Int} {l : List Int} (h : ¬ (i < longN c ∧ mayB c i b = true)) : rowGo c i (b :: l) = i := by
  conv => lhs; unfold rowGo
  rw [if_neg h]
theorem rowGo_end (c : Int) (s : List Int) : rowGo c (longN c) s = longN c := by
  cases s with
  | nil => rfl
  | cons b l => exact rowGo_no (by omega)
theorem whole_of {b : Int} {l : List Int} {n : Nat} (h : rowN (b :: l) = n) : wholeB (b :: l) = (decide (0 < n) && decide (n = longN b)) := by
  unfold wholeB; rw [h]; rfl
theorem doc_bad {b : Int} {l : List Int} {n : Nat} (h : rowN (b :: l) = n) (hn : n < longN b) : docD (b :: l) = 65533 :: docD ((b :: l).drop (max n 1)) := by
  rw [docD_cons, whole_of h, h, if_neg (by simp; omega)]
theorem doc_whole {b : Int} {l : List Int} (h : rowN (b :: l) = longN b) : docD (b :: l) = valN ((b :: l).take (longN b)) :: docD ((b :: l).drop (longN b)) := by
  have h1 : 0 < longN b := by unfold longN; split; · omega
                              split; · omega
                              split <;> omega
  rw [docD_cons, whole_of h, h, if_pos (by simp; omega), Nat.max_eq_left (by omega)]
theorem row_1 {b : Int} (h : b < 128 ∨ (194 ≤ b ∧ b ≤ 244)) (l : List Int) : rowN (b :: l) = rowGo b 1 l := by
  unfold rowN
  refine rowGo_yes ⟨?_, ?_⟩
  · show 0 < longN b
    unfold longN; split; · omega
    split; · omega
    split <;> omega
  · unfold mayB; rw [if_pos rfl]; simp; omega
/-- may the second byte be it? -/
theorem may_1 {c b : Int} : mayB c 1 b = true ↔ ¬ (b < (Dc1 c).lo ∨ (Dc1 c).hi < b) := by
  unfold mayB Dc1
  rw [if_neg (by omega)]
  by_cases h1 : c = 224
  · subst h1; simp
  · rw [if_neg (fun h => h1 h.2)]
    by_cases h2 : c = 237
    · subst h2; simp
    · rw [if_neg (fun h => h2 h.2)]
      by_cases h3 : c = 240
      · subst h3; simp
      · rw [if_neg (fun h => h3 h.2)]
        by_cases h4 : c = 244
        · subst h4; simp
        · rw [if_neg (fun h => h4 h.2)]
          simp only [if_neg h1, if_neg h2, if_neg h3, if_neg h4, Bool.and_eq_true, decide_eq_true_eq]
          omega
theorem may_2 {c b : Int} {i : Nat} (hi : 2 ≤ i) : mayB c i b = true ↔ 128 ≤ b ∧ b ≤ 191 := by
  unfold mayB
  rw [if_neg (by omega), if_neg (by omega), if_neg (by omega), if_neg (by omega), if_neg (by omega), Bool.and_eq_true, decide_eq_true_eq, decide_eq_true_eq]
/-- what the decoder tells is what the document tells -/
theorem dec_doc : ∀ (n : Nat) (s : List Int), s.length ≤ n → (∀ x ∈ s, 0 ≤ x ∧ x ≤ 255) → decS Dc0 s = docD s
  | _, [], _, _ => rfl
  | 0, b :: l, h, _ => by simp at h
  | n + 1, b :: l, h, hb => by
    have hl : l.length ≤ n := by simpa using h
    have ih : ∀ t : List Int, (∃ k, 1 ≤ k ∧ t = (b :: l).drop k) → decS Dc0 t = docD t := by
      rintro t ⟨k, hk, rfl⟩
      refine dec_doc n _ (by rw [List.length_drop, List.length_cons]; omega) (fun x hx => hb x (List.mem_of_mem_drop hx))
    by_cases h1 : b < 128
    · rw [dec_low h1, doc_whole (by rw [row_1 (.inl h1), show longN b = 1 by unfold longN; rw [if_pos h1]]; have := rowGo_end b l; rw [show longN b = 1 by unfold longN; rw [if_pos h1]] at this; exact this), show longN b = 1 by unfold longN; rw [if_pos h1]]
      rw [ih l ⟨1, Nat.le_refl _, rfl⟩]
      rfl
    · by_cases h2 : b < 194 ∨ 244 < b
      · have hr : rowN (b :: l) = 0 := by
          unfold rowN
          refine rowGo_no fun h => ?_
          have h3 := h.2
          unfold mayB at h3
          rw [if_pos rfl, List.headD_cons] at h3
          simp at h3
          omega
        rw [dec_none h1 h2, doc_bad hr (by unfold longN; split; · omega
                                           split; · omega
                                           split <;> omega)]
        rw [ih l ⟨1, Nat.le_refl _, rfl⟩]
        rfl
      · have hr := row_1 (b := b) (.inr (by omega)) l
        rw [dec_one h1 h2]
        have hL : longN b = (Dc1 b).nd.toNat + 1 := by
          unfold longN Dc1
          rw [if_neg h1]
          split
          · rfl
          · split <;> rfl
        have hnd : (Dc1 b).nd = 1 ∨ (Dc1 b).nd = 2 ∨ (Dc1 b).nd = 3 := by
          unfold Dc1
          show (if b < 224 then (1 : Int) else if b < 240 then 2 else 3) = 1 ∨ _
          split
          · exact .inl rfl
          · split
            · exact .inr (.inl rfl)
            · exact .inr (.inr rfl)
        have hv : (Dc1 b).vl = if (Dc1 b).nd = 1 then b - 192 else if (Dc1 b).nd = 2 then b - 224 else b - 240 := by
          have := hb b List.mem_cons_self
          unfold Dc1
          show (if b < 224 then b % 32 else if b < 240 then b % 16 else b % 8) = if (if b < 224 then (1 : Int) else if b < 240 then 2 else 3) = 1 then b - 192 else if (if b < 224 then (1 : Int) else if b < 240 then 2 else 3) = 2 then b - 224 else b - 240
          by_cases h4 : b < 224
          · rw [if_pos h4, if_pos h4, if_pos rfl]; omega
          · rw [if_neg h4, if_neg h4]
            by_cases h5 : b < 240
            · rw [if_pos h5, if_pos h5, if_neg (by decide), if_pos rfl]; omega
            · rw [if_neg h5, if_neg h5, if_neg (by decide), if_neg (by decide)]; omega
        cases l with
        | nil =>
          rw [dec_nil (by omega), doc_bad (n := 1) hr (by omega)]
          rfl
        | cons b1 l =>
          have hb1 := hb b1 (by simp)
          by_cases m1 : mayB b 1 b1 = true
          · rw [rowGo_yes ⟨by omega, m1⟩] at hr
            rcases hnd with e | e | e
            · have hl2 : longN b = 2 := by rw [hL, e]; rfl
              rw [dec_last e (may_1.1 m1), doc_whole (by rw [hr]; have := rowGo_end b l; rw [hl2] at this ⊢; exact this), hl2]
              rw [ih l ⟨2, by omega, rfl⟩, hv, if_pos e]
              have : valN ((b :: b1 :: l).take 2) = 64 * (b - 192) + b1 - 128 := rfl
              rw [this]
              have := may_1.1 m1
              have hlh : 128 ≤ (Dc1 b).lo ∧ (Dc1 b).hi ≤ 191 := by
                unfold Dc1
                show 128 ≤ (if b = 224 then (160 : Int) else if b = 240 then 144 else 128) ∧ (if b = 237 then (159 : Int) else if b = 244 then 143 else 191) ≤ 191
                constructor
                · split; · decide
                  split <;> decide
                · split; · decide
                  split <;> decide
              rw [show (b - 192) * 64 + b1 % 64 = 64 * (b - 192) + b1 - 128 by omega]
              rfl
            all_goals
              have hlh : 128 ≤ (Dc1 b).lo ∧ (Dc1 b).hi ≤ 191 := by
                unfold Dc1
                show 128 ≤ (if b = 224 then (160 : Int) else if b = 240 then 144 else 128) ∧ (if b = 237 then (159 : Int) else if b = 244 then 143 else 191) ≤ 191
                constructor
                · split; · decide
                  split <;> decide
                · split; · decide
                  split <;> decide
              have m1' := may_1.1 m1
              rw [dec_more (by omega) (by omega) m1', hv]
              cases l with
              | nil =>
                rw [dec_nil (by show (Dc1 b).nd - 1 ≠ 0; omega), doc_bad (n := 2) hr (by omega)]
                rfl
              | cons b2 l =>
                by_cases m2 : 128 ≤ b2 ∧ b2 ≤ 191
                · rw [rowGo_yes ⟨by omega, (may_2 (Nat.le_refl _)).2 m2⟩] at hr
                  first
                    | (have hl3 : longN b = 3 := by rw [hL, e]; rfl
                       rw [dec_last (by show (Dc1 b).nd - 1 = 1; omega) (by show ¬ (b2 < 128 ∨ 191 < b2); omega), doc_whole (by rw [hr]; have := rowGo_end b l; rw [hl3] at this ⊢; exact this), hl3]
                       rw [ih l ⟨3, by omega, rfl⟩, if_neg (by omega), if_pos e]
                       have hval : valN ((b :: b1 :: b2 :: l).take 3) = 64 * (64 * (b - 224) + b1 - 128) + b2 - 128 := rfl
                       rw [hval]
                       rw [show ((b - 224) * 64 + b1 % 64) * 64 + b2 % 64 = 64 * (64 * (b - 224) + b1 - 128) + b2 - 128 by omega]
                       rfl)
                    | (rw [dec_more (by show (Dc1 b).nd - 1 ≠ 0; omega) (by show (Dc1 b).nd - 1 ≠ 1; omega) (by show ¬ (b2 < 128 ∨ 191 < b2); omega)]
                       cases l with
                       | nil =>
                         rw [dec_nil (by show (Dc1 b).nd - 1 - 1 ≠ 0; omega), doc_bad (n := 3) hr (by omega)]
                         rfl
                       | cons b3 l =>
                         by_cases m3 : 128 ≤ b3 ∧ b3 ≤ 191
                         · rw [rowGo_yes ⟨by omega, (may_2 (by omega)).2 m3⟩] at hr
                           have hl4 : longN b = 4 := by rw [hL, e]; rfl
                           rw [dec_last (by show (Dc1 b).nd - 1 - 1 = 1; omega) (by show ¬ (b3 < 128 ∨ 191 < b3); omega), doc_whole (by rw [hr]; have := rowGo_end b l; rw [hl4] at this ⊢; exact this), hl4]
                           rw [ih l ⟨4, by omega, rfl⟩, if_neg (by omega), if_neg (by omega)]
                           have hval : valN ((b :: b1 :: b2 :: b3 :: l).take 4) = 64 * (64 * (64 * (b - 240) + b1 - 128) + b2 - 128) + b3 - 128 := rfl
                           rw [hval]
                           rw [show (((b - 240) * 64 + b1 % 64) * 64 + b2 % 64) * 64 + b3 % 64 = 64 * (64 * (64 * (b - 240) + b1 - 128) + b2 - 128) + b3 - 128 by omega]
                           rfl
                         · rw [rowGo_no (fun h => m3 ((may_2 (by omega)).1 h.2))] at hr
                           rw [dec_bad (by show (Dc1 b).nd - 1 - 1 ≠ 0; omega) (by show b3 < 128 ∨ 191 < b3; omega), doc_bad (n := 3) hr (by omega), ih (b3 :: l) ⟨3, by omega, rfl⟩]
                           rfl)
                · rw [rowGo_no (fun h => m2 ((may_2 (Nat.le_refl _)).1 h.2))] at hr
                  rw [dec_bad (by show (Dc1 b).nd - 1 ≠ 0; omega) (by show b2 < 128 ∨ 191 < b2; omega), doc_bad (n := 2) hr (by omega), ih (b2 :: l) ⟨2, by omega, rfl⟩]
                  rfl
          · rw [rowGo_no (fun h => m1 h.2)] at hr
            have hbad : b1 < (Dc1 b).lo ∨ (Dc1 b).hi < b1 := by
              by_cases q : b1 < (Dc1 b).lo ∨ (Dc1 b).hi < b1
              · exact q
              · exact absurd (may_1.2 q) m1
            rw [dec_bad (by omega) hbad, doc_bad (n := 1) hr (by omega), ih (b1 :: l) ⟨1, by omega, rfl⟩]
            rfl
/-- a scalar's bytes are read as it -/
theorem dec_put {r : Int} (h : validB r = true) (l : List Int) : decS Dc0 (putN r ++ l) = r :: decS Dc0 l := by
  have hv := validB_iff.1 h
  unfold putN
  rw [fixR_ok h]
  split
  · rename_i h1
    exact dec_low h1
  · split
    · show decS Dc0 ((192 + r / 64) :: (128 + r % 64) :: l) = _
      have e1 : (Dc1 (192 + r / 64)).nd = 1 := by unfold Dc1; show (if _ then (1 : Int) else _) = 1; rw [if_pos (by omega)]
      have e2 : (Dc1 (192 + r / 64)).vl = r / 64 := by unfold Dc1; show (if _ then _ else _) = _; rw [if_pos (by omega)]; omega
      have e3 : ¬ ((128 + r % 64) < (Dc1 (192 + r / 64)).lo ∨ (Dc1 (192 + r / 64)).hi < (128 + r % 64)) := by
        unfold Dc1
        show ¬ ((128 + r % 64) < (if _ then (160 : Int) else if _ then 144 else 128) ∨ (if _ then (159 : Int) else if _ then 143 else 191) < (128 + r % 64))
        rw [if_neg (by omega), if_neg (by omega), if_neg (by omega), if_neg (by omega)]
        omega
      rw [dec_one (by omega) (by omega), dec_last e1 e3, e2, show r / 64 * 64 + (128 + r % 64) % 64 = r by omega]
    · split
      · show decS Dc0 ((224 + r / 4096) :: (128 + r / 64 % 64) :: (128 + r % 64) :: l) = _
        have e1 : (Dc1 (224 + r / 4096)).nd = 2 := by unfold Dc1; show (if _ then (1 : Int) else if _ then 2 else 3) = 2; rw [if_neg (by omega), if_pos (by omega)]
        have e2 : (Dc1 (224 + r / 4096)).vl = r / 4096 := by unfold Dc1; show (if _ then _ else if _ then _ else _) = _; rw [if_neg (by omega), if_pos (by omega)]; omega
        have e3 : ¬ ((128 + r / 64 % 64) < (Dc1 (224 + r / 4096)).lo ∨ (Dc1 (224 + r / 4096)).hi < (128 + r / 64 % 64)) := by
          unfold Dc1
          show ¬ ((128 + r / 64 % 64) < (if _ then (160 : Int) else if _ then 144 else 128) ∨ (if _ then (159 : Int) else if _ then 143 else 191) < (128 + r / 64 % 64))
          split
          · rw [if_neg (by omega), if_neg (by omega)]; omega
          · rw [if_neg (by omega)]
            split
            · omega
            · rw [if_neg (by omega)]; omega
        rw [dec_one (by omega) (by omega), dec_more (by omega) (by omega) e3, e2]
        rw [dec_last (by show (Dc1 (224 + r / 4096)).nd - 1 = 1; omega) (by show ¬ ((128 + r % 64) < 128 ∨ 191 < (128 + r % 64)); omega)]
        show ((r / 4096 * 64 + (128 + r / 64 % 64) % 64) * 64 + (128 + r % 64) % 64) :: _ = _
        rw [show (r / 4096 * 64 + (128 + r / 64 % 64) % 64) * 64 + (128 + r % 64) % 64 = r by omega]
      · show decS Dc0 ((240 + r / 262144) :: (128 + r / 4096 % 64) :: (128 + r / 64 % 64) :: (128 + r % 64) :: l) = _
        have e1 : (Dc1 (240 + r / 262144)).nd = 3 := by unfold Dc1; show (if _ then (1 : Int) else if _ then 2 else 3) = 3; rw [if_neg (by omega), if_neg (by omega)]
        have e2 : (Dc1 (240 + r / 262144)).vl = r / 262144 := by unfold Dc1; show (if _ then _ else if _ then _ else _) = _; rw [if_neg (by omega), if_neg (by omega)]; omega
        have e3 : ¬ ((128 + r / 4096 % 64) < (Dc1 (240 + r / 262144)).lo ∨ (Dc1 (240 + r / 262144)).hi < (128 + r / 4096 % 64)) := by
          unfold Dc1
          show ¬ ((128 + r / 4096 % 64) < (if _ then (160 : Int) else if _ then 144 else 128) ∨ (if _ then (159 : Int) else if _ then 143 else 191) < (128 + r / 4096 % 64))
          rw [if_neg (show ¬ 240 + r / 262144 = 224 by omega), if_neg (show ¬ 240 + r / 262144 = 237 by omega)]
          split
          · rw [if_neg (by omega)]; omega
          · split <;> omega
        rw [dec_one (by omega) (by omega), dec_more (by omega) (by omega) e3, e2]
        rw [dec_more (by show (Dc1 (240 + r / 262144)).nd - 1 ≠ 0; omega) (by show (Dc1 (240 + r / 262144)).nd - 1 ≠ 1; omega) (by show ¬ ((128 + r / 64 % 64) < 128 ∨ 191 < (128 + r / 64 % 64)); omega)]
        rw [dec_last (by show (Dc1 (240 + r / 262144)).nd - 1 - 1 = 1; omega) (by show ¬ ((128 + r % 64) < 128 ∨ 191 < (128 + r % 64)); omega)]
        show (((r / 262144 * 64 + (128 + r / 4096 % 64) % 64) * 64 + (128 + r / 64 % 64) % 64) * 64 + (128 + r % 64) % 64) :: _ = _
        rw [show ((r / 262144 * 64 + (128 + r / 4096 % 64) % 64) * 64 + (128 + r / 64 % 64) % 64) * 64 + (128 + r % 64) % 64 = r by omega]
/-- the bytes of scalars are read as these -/
theorem dec_enc : ∀ (l : List Int), (∀ r ∈ l, validB r = true) → decS Dc0 (encN l) = l
  | [], _ => rfl
  | r :: l, h => by
    show decS Dc0 ((r :: l).flatMap putN) = _
    rw [List.flatMap_cons, dec_put (h r List.mem_cons_self)]
    have := dec_enc l (fun x hx => h x (List.mem_cons_of_mem _ hx))
    unfold encN at this
    rw [this]
end Go.Proofs.YtkeainhjghdfcaaGreat
