/- grid.Row: a row's cells, cloned. -/
import Derived.Test.YtokenlecnbploaaGridL
namespace Go.Proofs.Ytokenlecnbploaa
open Go.RowKit

/-- append of cells that lie anywhere. -/
theorem wpList_app2 {P : Program} (w : World) {ops : Array Oper} {rest : List Oper} {o : Oper} {act : Act} {Q : Exit → Act → World → Prop} (hgd : o.guard = none) (s x : Operand) (t : TypeId)
    (ho : o.op = .call { callee := .builtin .append, args := #[s, x], argTypes := #[t, t] })
    {base e size bytes : Nat} (E : ElemT P t e size bytes) (v : Value) (n : Nat) (xs : List Value) (hs : act.eval s = v) (hown : w.ownsRow base e size v n xs)
    (a : Addr) (m c : Nat) (news : List Value) (hx : act.eval x = .slice (some a) m c) (hm : 0 < m) (hl : news.length = m * size) (hnews : ∀ j u, news[j]? = some u → w.cell? (a.add j) = some u) (h1 : ∀ u ∈ news, u.oneCell' = true)
    (hbytes : (n + m) * bytes ≤ 140737488355328) (hbase : base ≤ w.heap.size)
    (h : ∀ g cap w', w'.ownsRow base e size (.slice (some ⟨g, 0, none⟩) (n + m) cap) (n + m) (xs ++ news) → w.grownBy w' v.ownBlock → (v.ownBlock = some g ∨ w.heap.size ≤ g) →
      wpList P ops Q rest (act.put o.dst (.slice (some ⟨g, 0, none⟩) (n + m) cap)) w') : wpList P ops Q (o :: rest) act w := by
  obtain ⟨g, cap, w', hr, h2, h3, h4⟩ := run_app (P := P) (ty := o.type) w E v n xs hown a m c news hm hl hnews h1 hbytes hbase
  refine wpList_plain hgd fun _ hK => ?_
  unfold Oper.wp execOp
  simp only [ho, resolve, invoke, builtin, Sem.run_bind, Sem.run_pure, Result.andThen_ok, List.map_toArray, List.map_cons, List.map_nil, hs, hx, hr]
  exact hK _ _ (h g cap w' h2 h3 h4)

theorem addr_off (b off j : Nat) : (⟨b, off, none⟩ : Addr).add j = ⟨b, off + j, none⟩ := by unfold Addr.add; split <;> simp_all

set_option maxRecDepth 100000 in
set_option maxHeartbeats 400000 in
theorem clone_cells (b off n cap : Nat) (xs : List Value) (w : World) (hn : 0 < n) (hl : xs.length = n * 2) (hsz : n ≤ 1073741824) (h1 : ∀ u ∈ xs, u.oneCell' = true)
    (hc : ∀ j u, xs[j]? = some u → w.cell? ⟨b, off + j, none⟩ = some u) :
    Calls Try.prog 53 #[.slice (some ⟨b, off, none⟩) n cap] w fun e w' => ∃ g c, e = .returned (.slice (some ⟨g, 0, none⟩) n c) ∧ w'.ownsRow w.heap.size 61 2 (.slice (some ⟨g, 0, none⟩) n c) n xs ∧ Below w.heap.size w w' := by
  have hnews : ∀ j u, xs[j]? = some u → (w.alloc (.cells #[] 61)).cell? ((⟨b, off, none⟩ : Addr).add j) = some u := by
    intro j u hu
    rw [addr_off]
    have hcu := hc j u hu
    exact (World.cell?_of_block (Below.heap_alloc _ _ _ (World.block_lt_of_cell? w _ hcu))).trans hcu
  have hnil := fun W : World => Lib.run_eql_slice_nil (P := Try.prog) W 77 61 (some ⟨b, off, none⟩) n cap 0 0 Try.underlying77
  have H1 := Lib.hid hnews
  have H2 := Lib.hid hl
  have H3 := Lib.hid h1
  clear hnews hl h1 hc
  go_enter Try.func53, Try.ntmps53
  go_wp2_with (at_builtin; refine wpList_app2 _ rfl _ _ _ rfl Egc _ 0 [] rfl (World.ownsRow_made w #[] 0 (Nat.le_refl _) (by unfold maxLen; omega) (by simp)) ⟨b, off, none⟩ n cap xs rfl hn H2.out H1.out H3.out (by omega) (by simp) ?_; intro g c w1 ho hg hf)
  have hB : Below w.heap.size w w1 := ((Below.refl _ _).alloc (Nat.le_refl _) _).grown hg (by simp) (fun k e => by cases e; exact Nat.le_refl _)
  have HO := Lib.hid ho
  clear ho hg hf
  go_ret
  have := HO.out
  simp only [Nat.zero_add, List.nil_append] at this
  exact ⟨g, c, by simp, this, hB⟩

theorem row_flat {m : Nat} {G : List (List Gl)} (hG : ∀ l ∈ G, l.length = m) {r : Nat} {l : List Gl} (hr : G[r]? = some l) (j : Nat) (u : Value) (h : (l.flatMap genc)[j]? = some u) : (G.flatten.flatMap genc)[r * m * 2 + j]? = some u := by
  obtain ⟨i, x, hx, k, hk, rfl, hu⟩ := flat_index genc_len l j u h
  have hi : i < m := by rw [← hG l (List.mem_of_getElem? hr)]; exact (List.getElem?_eq_some_iff.1 hx).1
  have h2 := (flat_at hG hr hi).trans hx
  have := flat_get genc_len G.flatten (r * m + i) x k u h2 hu
  rw [show r * m * 2 + (i * 2 + k) = (r * m + i) * 2 + k by omega]
  exact this

set_option maxRecDepth 100000 in
set_option maxHeartbeats 1000000 in
theorem row_some (gb lb m cap r : Nat) (G : List (List Gl)) (l : List Gl) (w : World) (hG : GridG w gb lb m cap G) (hr : G[r]? = some l) (hm : 0 < m) :
    Calls Try.prog 44 #[.pointer (some ⟨gb, 0, none⟩), .int .i64 r] w fun e w' => ∃ g c, e = .returned (.slice (some ⟨g, 0, none⟩) m c) ∧ w'.ownsRow w.heap.size 61 2 (.slice (some ⟨g, 0, none⟩) m c) m (l.flatMap genc) ∧ Below w.heap.size w w' := by
  obtain ⟨hl, hw, hrl⟩ := hG.row hr
  obtain ⟨q, hq⟩ : ∃ q, q = r * m := ⟨_, rfl⟩
  have hqm : q + m ≤ G.length * m := by rw [hq, ← Nat.succ_mul]; exact Nat.mul_le_mul_right _ hrl
  have hqi : (r : Int) * (m : Int) = (q : Int) := by rw [hq, Int.natCast_mul]
  have hqj : ((r : Int) + 1) * (m : Int) = (q : Int) + (m : Int) := by rw [Int.add_mul, hqi]; omega
  have hsm := hG.small
  have hcp := hG.grid.hcap
  have hcm := hG.grid.capm
  unfold maxLen at hcm
  have c0 := hG.grid.c0
  have c1 := hG.grid.c1
  have c2 := hG.grid.c2
  have hcl := clone_cells lb (q * 2) m (cap - q) (l.flatMap genc) w.drew hm (by rw [flat_len genc_len, hl]) (by omega) (fun u hu => by obtain ⟨x, _, hx⟩ := List.mem_flatMap.1 hu; exact genc_one x u hx)
    (fun j u hu => hG.grid.cells _ _ (by rw [hq]; exact row_flat hG.shape hr j u hu))
  have HC := Lib.hid hcl
  have e1 := IntWalk.i64_in (q : Int) (by omega)
  have e2 := IntWalk.i64_in ((r : Int) + 1) (by have : r < G.length := hrl; have : G.length ≤ G.length * m := Nat.le_mul_of_pos_right _ hm; omega)
  have e3 := IntWalk.i64_in ((q : Int) + (m : Int)) (by omega)
  have k0 : (0 : Int) ≤ (q : Int) := by omega
  have k1 : (q : Int) ≤ (q : Int) + (m : Int) := by omega
  have k2 : (q : Int) + (m : Int) ≤ (cap : Int) := by omega
  have k3 : ((q : Int) + (m : Int)).toNat = q + m := by omega
  have k4 : ¬ cap = q := by omega
  have hy := in_yes gb G.length m r 0 w c0 c1 (by omega) (by omega) (by omega) (by omega)
  have HY := Lib.hid hy
  clear hG hq hw hcl hr hl hy
  go_enter Try.func44, Try.ntmps44
  go_wp2_with (go_at_call 52; refine HY.out.mono ?_; rintro e w' ⟨rfl, rfl⟩)
  go_region_held3 (fun w' => w'.cell? ⟨gb, 2, none⟩ = some (.slice (some ⟨lb, 0, none⟩) (G.length * m) cap) ∧ w'.cell? ⟨gb, 1, none⟩ = some (.int .i64 m)) (first | exact ⟨p2, p1⟩ | go_keep) (first | (go_at_call 53; refine HC.out.mono ?_; rintro e w' ⟨g, c, rfl, ho, hB⟩; have p2 := cell_later hB (show w.drew.cell? _ = _ from c2); have p1 := cell_later hB (show w.drew.cell? _ = _ from c1)))
  have HO := Lib.hid ho
  have hB2 : Below w.heap.size w w' := ((Below.refl _ w).drew).trans hB
  clear ho hB
  go_wp2
  go_ret
  exact ⟨g, c, rfl, HO.out, hB2⟩
end Go.Proofs.Ytokenlecnbploaa
