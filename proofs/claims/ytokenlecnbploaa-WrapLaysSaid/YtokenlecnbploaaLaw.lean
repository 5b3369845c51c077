/- From a walk to a law's statement: the frame that all laws share; how arguments are opened. No program is named here. -/
import Derived.ProofKit
import Derived.OpenShut
import Derived.Deep.Slices
import Derived.Deep.Fields
import Derived.ChangeSame
import Derived.SizedLaws
import Derived.Test.YtokenlecnbploaaBase
namespace Go.Proofs.Ytokenlecnbploaa
open Go.ChangeShapes Go.WideShapes Go.ChangeAt Go.RowKit Go.Deep

theorem trodAll_len {H : Type} {enc : TypeId × Value → H} {P : Program} {w : World} {base : Nat} {spare : Nat → Bool} {held : Bool} : ∀ (ts : List TypeId) (vs : List Value) (ds : List (DataW H)) (ps : List MemPlace),
    DataW.TrodAll enc P w base spare held ts vs ds ps → ds.length = ts.length ∧ vs.length = ts.length := by
  intro ts
  induction ts with
  | nil => intro vs ds ps h; obtain ⟨rfl, rfl, rfl⟩ := trodAll_nil h; exact ⟨rfl, rfl⟩
  | cons t ts ih =>
    intro vs ds ps h
    obtain ⟨v, vs', d, ds', p, q, rfl, rfl, rfl, _, h2⟩ := trodAll_cons h
    obtain ⟨h3, h4⟩ := ih _ _ _ h2
    exact ⟨by simp [h3], by simp [h4]⟩

theorem trodAll_stays {H : Type} {enc : TypeId × Value → H} {P : Program} (hl : laidOutB P = true) {W W' : World} (hb : Below W.heap.size W W') : ∀ (ts : List TypeId) (vs : List Value) (ds : List (DataW H)) (ps : List MemPlace),
    (∀ t ∈ ts, P.readableRec t = true ∧ t < P.types.size) → DataW.TrodAll enc P W 0 (fun _ => true) true ts vs ds ps → (∀ x ∈ ps, x.block < W.heap.size) →
    DataW.TrodAll enc P W' 0 (fun b => decide (b < W.heap.size)) true ts vs ds ps := by
  intro ts
  induction ts with
  | nil => intro vs ds ps _ h _; obtain ⟨rfl, rfl, rfl⟩ := trodAll_nil h; exact trodAll_mk0
  | cons t ts ih =>
    intro vs ds ps ht h hlt
    obtain ⟨v, vs', d, ds', p, q, rfl, rfl, rfl, h1, h2⟩ := trodAll_cons h
    have ht0 := ht t List.mem_cons_self
    exact trodAll_cons_mk (Below.trod hl ht0.1 ht0.2 h1 hb (fun x hx => hlt x (List.mem_append_left _ hx)))
      (ih _ _ _ (fun t' h' => ht t' (List.mem_cons_of_mem _ h')) h2 (fun x hx => hlt x (List.mem_append_right _ hx)))

/-- What a law's walk has to show: whatever the arguments read as, the call returns true, and nothing that was there has turned. -/
def LawWalk (P : Program) (f : FuncId) (fn : Func) : Prop :=
  ∀ (H : Type) (enc : TypeId × Value → H) (W : World) (base : Nat) (args : Array Value) (ds : List (DataW H)) (ps : List MemPlace),
    (∀ (j : Nat) t v, fn.params[j]? = some t → args[j]? = some v → Value.okWide P W .any base t v) →
    DataW.TrodAll enc P W 0 (fun _ => true) true fn.params.toList args.toList ds ps → (∀ x ∈ ps, x.block < W.heap.size) →
    Calls P f args W fun e W' => e = .returned (.bool true) ∧ Below W.heap.size W W'

theorem lifted_of_walk {C : Checked} {os : Os} {f : FuncId} {fn : Func} {s : ChangeSpec} {H : Type} {enc : TypeId × Value → H} {tb : TypeId}
    (own : ownKnob C.prog.godebug = none) (started : os.Started) (noInit : C.prog.inits.idxOf? f = none) (hfn : C.prog.funcs[f]? = some fn)
    (witness : ∃ (w : World) (tape : Tape) (i : Input), w.os = os ∧ (w.forCall tape i).Shaped C.prog ∧ i.vars = [] ∧ Input.okWide C.prog (w.forCall tape i) .any w.heap.size f i ∧
      s.pre6 enc C.prog fn [] false (w.forCall tape i).memory i.args ∧ ({} : Assume).holds C.prog (lone (Frame.enter C.prog f i.args .normal) [] (w.forCall tape i)))
    (hl : laidOutB C.prog = true) (hts : ∀ t ∈ fn.params.toList, C.prog.readableRec t = true ∧ t < C.prog.types.size) (hres : fn.resultTypes = #[tb]) (hbool : C.prog.underlying tb = some .bool)
    (hvars : s.vars = []) (hspec : ∀ ds : List (DataW H), ds.length = fn.params.toList.length → s.fn H (ds ++ []) = { results := [.lit (.bool true)], args := ds, vars := [] })
    (walk : LawWalk C.prog f fn) :
    ReturnsInHanded {} C os f .any (s.pre6 enc C.prog fn [] false) (s.post enc C.prog fn false true false false) := by
  refine returnsInHanded_of_change own started noInit hfn witness ?_
  intro W base args ds gs before hval hW _ _
  have hW' := hW
  obtain ⟨p, q, hA, hV, hp, _, _⟩ := hW
  rw [hvars] at hV
  obtain ⟨rfl, rfl⟩ := trodVars_none hV
  have hp' : before = p := by simpa using hp
  subst hp'
  have hlen := (trodAll_len _ _ _ _ hA).1
  have hlt : ∀ x ∈ before, x.block < W.heap.size := fun x hx => by simpa using hW'.lt x hx
  refine (walk H enc W base args ds before hval hA hlt).mono ?_
  rintro e W' ⟨rfl, hB⟩
  refine ⟨_, rfl, ds, [], before, [], before, [], hW', ?_, ?_, ?_, hB.frame _, fun h => by cases h⟩
  · rw [hspec ds hlen, hres]
    exact trodAll_mk1 (shut_bool hbool true)
  · rw [hspec ds hlen]
    exact trodAll_stays hl hB _ _ _ _ hts hA hlt
  · rw [hspec ds hlen, hvars]
    exact rfl

/-! ### Opening arguments -/
/-- Whatever reads as type t has the cells of some y. -/
def Reads {α : Type} (P : Program) (t : TypeId) (enc : α → List Value) (ok : α → Prop) : Prop :=
  ∀ (H : Type) (enc0 : TypeId × Value → H) (w : World) (base : Nat) (spare : Nat → Bool) (held : Bool) (fuel : Nat) (cs : List Value) (x : DataW H × List MemPlace),
    DataW.trod enc0 P w base spare held fuel t cs = some x → ∃ y, cs = enc y ∧ ok y

theorem reads_int {P : Program} {t : TypeId} {k : IntKind} (ht : P.underlying t = some (.int k)) : Reads P t (fun n : Int => [.int k n]) (fun n => (Lit.int k n).wf = true) := by
  intro H enc0 w base spare held fuel cs x h
  obtain ⟨n, hn, _, hw⟩ := DataW.trod_int ht h
  exact ⟨n, hn, hw⟩
theorem reads_string {P : Program} {t : TypeId} (ht : P.underlying t = some .string) : Reads P t (fun s : ByteArray => [.string s]) (fun s => s.size ≤ maxLen) := by
  intro H enc0 w base spare held fuel cs x h
  obtain ⟨s, hs, _, hw⟩ := DataW.trod_string ht h
  exact ⟨s, hs, hw⟩
theorem reads_bool {P : Program} {t : TypeId} (ht : P.underlying t = some .bool) : Reads P t (fun b : Bool => [.bool b]) (fun _ => True) := by
  intro H enc0 w base spare held fuel cs x h
  obtain ⟨s, hs, _⟩ := DataW.trod_bool ht h
  exact ⟨s, hs, trivial⟩

theorem reads_struct2 {P : Program} {t : TypeId} {f0 f1 : Field} {α β : Type} {e0 : α → List Value} {e1 : β → List Value} {ok0 : α → Prop} {ok1 : β → Prop} {s0 s1 : Nat} (ht : P.underlying t = some (.struct #[f0, f1]))
    (h0 : Reads P f0.type e0 ok0) (h1 : Reads P f1.type e1 ok1) (o0 : f0.offset = 0) (o1 : f1.offset = s0) (c0 : P.cellsOf f0.type = s0) (c1 : P.cellsOf f1.type = s1) (ct : P.cellsOf t = s0 + s1) :
    Reads P t (fun y : α × β => e0 y.1 ++ e1 y.2) (fun y => ok0 y.1 ∧ ok1 y.2) := by
  intro H enc0 w base spare held fuel cs x h
  obtain ⟨xs, n, _, _, hlen, hxl, hf⟩ := DataW.trod_struct ht h
  have hxl2 : xs.length = 2 := hxl
  have a0 := hf 0 f0 rfl
  have a1 := hf 1 f1 rfl
  rw [o0, c0, List.getElem?_eq_getElem (by omega)] at a0
  rw [o1, c1, List.getElem?_eq_getElem (by omega)] at a1
  obtain ⟨y0, e0', k0⟩ := h0 _ _ _ _ _ _ _ _ _ a0
  obtain ⟨y1, e1', k1⟩ := h1 _ _ _ _ _ _ _ _ _ a1
  refine ⟨(y0, y1), ?_, k0, k1⟩
  show cs = e0 y0 ++ e1 y1
  rw [← e0', ← e1', List.drop_zero, List.take_of_length_le (l := cs.drop s0) (by simp; omega), List.take_append_drop]

theorem list_of_all {α : Type} (Q : Nat → α → Prop) : ∀ n, (∀ i, i < n → ∃ x, Q i x) → ∃ l : List α, l.length = n ∧ ∀ i x, l[i]? = some x → Q i x := by
  intro n
  induction n with
  | zero => intro _; exact ⟨[], rfl, fun i x h => by simp at h⟩
  | succ n ih =>
    intro h
    obtain ⟨l, hl, hq⟩ := ih (fun i hi => h i (by omega))
    obtain ⟨x, hx⟩ := h n (by omega)
    refine ⟨l ++ [x], by simp [hl], fun i y hy => ?_⟩
    rcases Nat.lt_or_ge i n with hlt | hge
    · rw [List.getElem?_append_left (by omega)] at hy
      exact hq i y hy
    · have hi : i = n := by
        have := (List.getElem?_eq_some_iff.1 hy).1
        simp at this
        omega
      subst hi
      rw [List.getElem?_append_right (by omega)] at hy
      simp [hl] at hy
      rw [← hy]
      exact hx

theorem flat_index {α : Type} {enc : α → List Value} {sz : Nat} (hsz : ∀ x, (enc x).length = sz) : ∀ (l : List α) (j : Nat) (u : Value), (l.flatMap enc)[j]? = some u → ∃ i x, l[i]? = some x ∧ ∃ k, k < sz ∧ j = i * sz + k ∧ (enc x)[k]? = some u := by
  intro l
  induction l with
  | nil => intro j u h; simp at h
  | cons y l ih =>
    intro j u h
    rw [List.flatMap_cons] at h
    rcases Nat.lt_or_ge j sz with hlt | hge
    · rw [List.getElem?_append_left (by rw [hsz]; exact hlt)] at h
      exact ⟨0, y, rfl, j, hlt, by omega, h⟩
    · rw [List.getElem?_append_right (by rw [hsz]; exact hge), hsz] at h
      obtain ⟨i, x, hx, k, hk, he, hu⟩ := ih _ _ h
      exact ⟨i + 1, x, by simpa using hx, k, hk, by rw [Nat.succ_mul]; omega, hu⟩

/-- A slice that came in, of elements that hold no addresses. -/
theorem rs_of_trod {H : Type} {enc0 : TypeId × Value → H} {P : Program} {W : World} {t e : TypeId} {sz : Nat} {α : Type} {enc : α → List Value} {ok : α → Prop} {v : Value} {d : DataW H} {p : List MemPlace} {spare : Nat → Bool} {r : Reach} {b0 : Nat}
    (ht : P.underlying t = some (.slice e)) (hC : P.cellsOf e = sz) (hsz : ∀ x, (enc x).length = sz) (hpos : 0 < sz) (hR : Reads P e enc ok) (hv : Value.okWide P W r b0 t v) (h : DataW.Trod enc0 P W 0 spare true t v d p) :
    ∃ l : List α, Rs W.heap.size W enc sz v l ∧ ∀ y ∈ l, ok y := by
  obtain ⟨a0, len, cap, rfl⟩ := okWide_slice ht hv
  obtain ⟨fuel, hf⟩ := h
  rcases open_slice ht hf with ⟨hcs, hx⟩ | ⟨a, len', cap', m, n, D, Pl, hcs, hb, hl, hm, hmm, hx, hi⟩
  · simp only [Value.cells, List.cons.injEq, Value.slice.injEq, and_true] at hcs
    obtain ⟨rfl, rfl, rfl⟩ := hcs
    exact ⟨[], Rd.nil _ _ _, fun y hy => by simp at hy⟩
  · simp only [Value.cells, List.cons.injEq, Value.slice.injEq, and_true] at hcs
    obtain ⟨rfl, rfl, rfl⟩ := hcs
    rw [hC] at hi
    obtain ⟨l, hlen, hq⟩ := list_of_all (fun i (y : α) => (∀ k u, (enc y)[k]? = some u → W.cell? (a.add (i * sz + k)) = some u) ∧ ok y) len (fun i hil => by
      have him : i < m := by rw [hmm]; split <;> omega
      obtain ⟨cs', hc, ht'⟩ := hi i him
      obtain ⟨_, hcl, hat⟩ := World.cells?_some hc
      obtain ⟨y, rfl, hok⟩ := hR _ _ _ _ _ _ _ _ _ ht'
      refine ⟨y, fun k u hu => ?_, hok⟩
      have hk := (List.getElem?_eq_some_iff.1 hu).1
      rw [← Go.Deep.add_add, hat k (by omega), hu])
    subst hlen
    refine ⟨l, ⟨some a, cap, rfl, hl, hm, flat_len hsz l, fun hn => ?_⟩, fun y hy => ?_⟩
    · obtain ⟨b, off, spot⟩ := a
      have h0 : l[0]? = some l[0] := List.getElem?_eq_getElem hn
      have hc0 := (hq 0 _ h0).1 0 ((enc l[0])[0]'(by rw [hsz]; exact hpos)) (List.getElem?_eq_getElem _)
      have hspot : spot = none := by simpa [Addr.add] using World.cell?_spot hc0
      subst hspot
      have hb : b < W.heap.size := by
        have := World.block_lt_of_cell? W _ hc0
        simpa [Addr.add] using this
      refine ⟨b, off, rfl, hb, fun j u hu => ?_⟩
      obtain ⟨i, x, hx, k, hk, rfl, hku⟩ := flat_index hsz l j u hu
      have := (hq i x hx).1 k u hku
      unfold Addr.add at this
      split at this
      · rename_i h0; rw [h0]; exact this
      · exact this
    · obtain ⟨i, hi'⟩ := List.mem_iff_getElem?.1 hy
      exact (hq i y hi').2
end Go.Proofs.Ytokenlecnbploaa
