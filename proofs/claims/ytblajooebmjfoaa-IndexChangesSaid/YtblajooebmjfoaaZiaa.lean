/- Joined texts: LawW. -/
import Derived.Test.YtblajooebmjfoaaZaaa
/- Opening slice arguments whose elements hold slices themselves. No program is named here. -/
namespace Go.Proofs.Ytblajooebmjfoaa
open Go.ChangeShapes Go.WideShapes Go.ChangeAt Go.RowKit Go.Deep

/-- Whatever reads as type t in the world W has the cells of some y. -/
def ReadsW {α : Type} (P : Program) (W : World) (t : TypeId) (enc : α → List Value) (ok : α → Prop) : Prop :=
  ∀ (H : Type) (enc0 : TypeId × Value → H) (spare : Nat → Bool) (fuel : Nat) (cs : List Value) (x : DataW H × List MemPlace),
    DataW.trod enc0 P W 0 spare true fuel t cs = some x → ∃ y, cs = enc y ∧ ok y
theorem Reads.inW {α : Type} {P : Program} {t : TypeId} {enc : α → List Value} {ok : α → Prop} (h : Reads P t enc ok) (W : World) : ReadsW P W t enc ok :=
  fun H e s f cs x hx => h H e W 0 s true f cs x hx
theorem readsW_slice {P : Program} {W : World} {t e : TypeId} {sz : Nat} {α : Type} {enc : α → List Value} {ok : α → Prop}
    (ht : P.underlying t = some (.slice e)) (hC : P.cellsOf e = sz) (hsz : ∀ x, (enc x).length = sz) (hpos : 0 < sz) (hR : ReadsW P W e enc ok) :
    ReadsW P W t (fun v : Value => [v]) (fun v => ∃ l : List α, Rs W.heap.size W enc sz v l ∧ ∀ y ∈ l, ok y) := by
  intro H enc0 spare fuel cs x hf
  rcases open_slice ht hf with ⟨hcs, hx⟩ | ⟨a, len, cap, m, n, D, Pl, hcs, hb, hl, hm, hmm, hx, hi⟩
  · exact ⟨_, hcs, [], Rd.nil _ _ _, fun y hy => by simp at hy⟩
  · refine ⟨_, hcs, ?_⟩
    rw [hC] at hi
    obtain ⟨l, hlen, hq⟩ := list_of_all (fun i (y : α) => (∀ k u, (enc y)[k]? = some u → W.cell? (a.add (i * sz + k)) = some u) ∧ ok y) len (fun i hil => by
      have him : i < m := by rw [hmm]; split <;> omega
      obtain ⟨cs', hc, ht'⟩ := hi i him
      obtain ⟨_, hcl, hat⟩ := World.cells?_some hc
      obtain ⟨y, rfl, hok⟩ := hR _ _ _ _ _ _ ht'
      refine ⟨y, fun k u hu => ?_, hok⟩
      have hk := (List.getElem?_eq_some_iff.1 hu).1
      rw [← Go.Deep.add_add, hat k (by omega), hu])
    subst hlen
    refine ⟨l, ⟨some a, cap, rfl, hl, hm, flat_len hsz l, fun hn => ?_⟩, fun y hy => ?_⟩
    · obtain ⟨b, off, spot⟩ := a
      have h0 : l[0]? = some l[0] := List.getElem?_eq_getElem hn
      have hc0 := (hq 0 _ h0).1 0 ((enc l[0])[0]'(by rw [hsz]; exact hpos)) (List.getElem?_eq_getElem _)
      have hspot : spot = none := by simpa [Addr.add] using World.cell?_spot hc0
      subst hspot
      have hb : b < W.heap.size := by
        have := World.block_lt_of_cell? W _ hc0
        simpa [Addr.add] using this
      refine ⟨b, off, rfl, hb, fun j u hu => ?_⟩
      obtain ⟨i, x, hx, k, hk, rfl, hku⟩ := flat_index hsz l j u hu
      have := (hq i x hx).1 k u hku
      unfold Addr.add at this
      split at this
      · rename_i h0; rw [h0]; exact this
      · exact this
    · obtain ⟨i, hi'⟩ := List.mem_iff_getElem?.1 hy
      exact (hq i y hi').2
/-- A slice that came in, of elements that may hold slices. -/
theorem rs_of_trodW {H : Type} {enc0 : TypeId × Value → H} {P : Program} {W : World} {t e : TypeId} {sz : Nat} {α : Type} {enc : α → List Value} {ok : α → Prop} {v : Value} {d : DataW H} {p : List MemPlace} {spare : Nat → Bool} {r : Reach} {b0 : Nat}
    (ht : P.underlying t = some (.slice e)) (hC : P.cellsOf e = sz) (hsz : ∀ x, (enc x).length = sz) (hpos : 0 < sz) (hR : ReadsW P W e enc ok) (hv : Value.okWide P W r b0 t v) (h : DataW.Trod enc0 P W 0 spare true t v d p) :
    ∃ l : List α, Rs W.heap.size W enc sz v l ∧ ∀ y ∈ l, ok y := by
  obtain ⟨a0, len, cap, rfl⟩ := okWide_slice ht hv
  obtain ⟨fuel, hf⟩ := h
  obtain ⟨u, hu, l, h1, h2⟩ := readsW_slice ht hC hsz hpos hR _ _ _ _ _ _ hf
  simp only [Value.cells, List.cons.injEq, and_true] at hu
  subst hu
  exact ⟨l, h1, h2⟩
/-- A struct of three cells. -/
theorem readsW_three {P : Program} {W : World} {t : TypeId} {f0 f1 f2 : Field} {α β γ : Type} {e0 : α → Value} {e1 : β → Value} {e2 : γ → Value} {ok0 : α → Prop} {ok1 : β → Prop} {ok2 : γ → Prop} (ht : P.underlying t = some (.struct #[f0, f1, f2]))
    (h0 : ReadsW P W f0.type (fun y => [e0 y]) ok0) (h1 : ReadsW P W f1.type (fun y => [e1 y]) ok1) (h2 : ReadsW P W f2.type (fun y => [e2 y]) ok2) (o0 : f0.offset = 0) (o1 : f1.offset = 1) (o2 : f2.offset = 2)
    (c0 : P.cellsOf f0.type = 1) (c1 : P.cellsOf f1.type = 1) (c2 : P.cellsOf f2.type = 1) (ct : P.cellsOf t = 3) :
    ReadsW P W t (fun y : α × β × γ => [e0 y.1, e1 y.2.1, e2 y.2.2]) (fun y => ok0 y.1 ∧ ok1 y.2.1 ∧ ok2 y.2.2) := by
  intro H enc0 spare fuel cs x h
  obtain ⟨xs, n, _, _, hlen, hxl, hf⟩ := DataW.trod_struct ht h
  have hxl2 : xs.length = 3 := hxl
  have a0 := hf 0 f0 rfl
  have a1 := hf 1 f1 rfl
  have a2 := hf 2 f2 rfl
  rw [List.getElem?_eq_getElem (by omega)] at a0 a1 a2
  rw [o0, c0] at a0
  rw [o1, c1] at a1
  rw [o2, c2] at a2
  obtain ⟨y0, k0, m0⟩ := h0 _ _ _ _ _ _ a0
  obtain ⟨y1, k1, m1⟩ := h1 _ _ _ _ _ _ a1
  obtain ⟨y2, k2, m2⟩ := h2 _ _ _ _ _ _ a2
  refine ⟨(y0, y1, y2), ?_, m0, m1, m2⟩
  rw [ct] at hlen
  match cs, hlen with
  | [b0, b1, b2], _ =>
    simp at k0 k1 k2
    rw [k0, k1, k2]
/-- A struct of three cells that came in by value. -/
theorem agg_of_trodW {H : Type} {enc0 : TypeId × Value → H} {P : Program} {W : World} {t : TypeId} {fs : Array Field} {α : Type} {enc : α → List Value} {ok : α → Prop} {v : Value} {d : DataW H} {p : List MemPlace} {spare : Nat → Bool} {r : Reach} {b0 : Nat}
    (ht : P.underlying t = some (.struct fs)) (hR : ReadsW P W t enc ok) (hv : Value.okWide P W r b0 t v) (h : DataW.Trod enc0 P W 0 spare true t v d p) : ∃ y, v = .agg (enc y).toArray ∧ ok y := by
  obtain ⟨cs, rfl, _⟩ := okWide_struct ht hv
  obtain ⟨fuel, hf⟩ := h
  obtain ⟨y, hy, hok⟩ := hR _ _ _ _ _ _ hf
  refine ⟨y, ?_, hok⟩
  have : cs.toList = enc y := hy
  rw [← this]
end Go.Proofs.Ytblajooebmjfoaa
