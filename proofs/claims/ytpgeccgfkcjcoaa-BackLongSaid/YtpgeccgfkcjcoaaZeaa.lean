/- Joined texts: App2 BackH. -/
import Derived.Test.YtpgeccgfkcjcoaaZbac
import Derived.Test.YtpgeccgfkcjcoaaZdaa
/- Appending what lies anywhere; rows of scalars. -/
namespace Go.Proofs.Ytpgeccgfkcjcoaa
open Go.RowKit

/-- append of cells that lie anywhere. -/
theorem wpList_app2 {P : Program} (w : World) {ops : Array Oper} {rest : List Oper} {o : Oper} {act : Act} {Q : Exit → Act → World → Prop} (hgd : o.guard = none) (s x : Operand) (t : TypeId)
    (ho : o.op = .call { callee := .builtin .append, args := #[s, x], argTypes := #[t, t] })
    {base e size bytes : Nat} (E : ElemT P t e size bytes) (v : Value) (n : Nat) (xs : List Value) (hs : act.eval s = v) (hown : w.ownsRow base e size v n xs)
    (a : Addr) (m c : Nat) (news : List Value) (hx : act.eval x = .slice (some a) m c) (hm : 0 < m) (hl : news.length = m * size) (hnews : ∀ j u, news[j]? = some u → w.cell? (a.add j) = some u) (h1 : ∀ u ∈ news, u.oneCell' = true)
    (hbytes : (n + m) * bytes ≤ 140737488355328) (hbase : base ≤ w.heap.size)
    (h : ∀ g cap w', w'.ownsRow base e size (.slice (some ⟨g, 0, none⟩) (n + m) cap) (n + m) (xs ++ news) → w.grownBy w' v.ownBlock → (v.ownBlock = some g ∨ w.heap.size ≤ g) →
      wpList P ops Q rest (act.put o.dst (.slice (some ⟨g, 0, none⟩) (n + m) cap)) w') : wpList P ops Q (o :: rest) act w := by
  obtain ⟨g, cap, w', hr, h2, h3, h4⟩ := run_app (P := P) (ty := o.type) w E v n xs hown a m c news hm hl hnews h1 hbytes hbase
  refine wpList_plain hgd fun _ hK => ?_
  unfold Oper.wp execOp
  simp only [ho, resolve, invoke, builtin, Sem.run_bind, Sem.run_pure, Result.andThen_ok, List.map_toArray, List.map_cons, List.map_nil, hs, hx, hr]
  exact hK _ _ (h g cap w' h2 h3 h4)
theorem addr_off (b off j : Nat) : (⟨b, off, none⟩ : Addr).add j = ⟨b, off + j, none⟩ := by unfold Addr.add; split <;> simp_all
theorem runeE_one (l : List Int) : ∀ u ∈ l.flatMap runeE, u.oneCell' = true := by
  intro u hu
  obtain ⟨x, _, hx⟩ := List.mem_flatMap.1 hu
  simp [runeE] at hx; subst hx; rfl
theorem ER : ElemT Try.prog 22 21 1 4 := elemT_of (by kernel_rfl) (z := .int .i32 0) (by kernel_rfl) rfl (by decide) (by decide)
theorem ERR : ElemT Try.prog 33 22 1 24 := elemT_of (by kernel_rfl) (z := .slice none 0 0) (by kernel_rfl) rfl (by decide) (by decide)
theorem owns_lower {w : World} {b b' e size n : Nat} {v : Value} {xs : List Value} (h : w.ownsRow b e size v n xs) (hb : b' ≤ b) : w.ownsRow b' e size v n xs :=
  ⟨h.1, h.2.imp id fun ⟨g, cap, cur, e, hg, r⟩ => ⟨g, cap, cur, e, Nat.le_trans hb hg, r⟩⟩
end Go.Proofs.Ytpgeccgfkcjcoaa

/- BackLong: its walk. -/
namespace Go.Proofs.Ytpgeccgfkcjcoaa
open Go.RowKit

theorem and63 (n : Int) : bits .and .i64 n 63 = n % 64 := i64_and_mask 6 (by decide) n
/-- a row of the call's own that holds scalars, and its list -/
def OwnR (base : Nat) (w : World) (v : Value) (l : List Int) : Prop := w.ownsRow base 21 1 v l.length (l.flatMap runeE)
theorem runes_add {w : World} {b off n c : Nat} {l : List Int} (h : RunesIn w (.slice (some ⟨b, off, none⟩) n c) l) : ∀ j u, (l.flatMap runeE)[j]? = some u → w.cell? ((⟨b, off, none⟩ : Addr).add j) = some u := by
  intro j u hu
  obtain ⟨a, cap, hv, h1, h2, h3, h4⟩ := h
  cases hv
  have hn : 0 < l.length := by
    rcases Nat.eq_zero_or_pos l.length with h | h
    · rw [List.eq_nil_of_length_eq_zero h] at hu; simp at hu
    · exact h
  obtain ⟨b', off', e, hb, hq⟩ := h4 hn
  cases e
  rw [addr_off]
  exact hq j u hu
set_option maxRecDepth 100000 in
set_option maxHeartbeats 8000000 in
theorem backLong_any (k0 n0 a : Int) (w : World) (_ : -9223372036854775808 ≤ k0 ∧ k0 ≤ 9223372036854775807) (_ : -9223372036854775808 ≤ n0 ∧ n0 ≤ 9223372036854775807) (_ : -9223372036854775808 ≤ a ∧ a ≤ 9223372036854775807) :
    Calls Try.prog 4 #[.int .i64 k0, .int .i64 n0, .int .i64 a] w fun e w' => e = .returned (.bool true) ∧ Below w.heap.size w w' := by
  obtain ⟨R, HFc, hrows⟩ := apiRows_any
  have HF := Lib.hid HFc
  have HRows := Lib.hid hrows
  have HTk := Lib.hid HFc.seg.tab
  clear HFc hrows
  have e63 := and63 n0
  obtain ⟨n, hn⟩ : ∃ n : Nat, (n : Int) = n0 % 64 := ⟨(n0 % 64).toNat, Int.toNat_of_nonneg (Int.emod_nonneg _ (by decide))⟩
  have hn64 : n < 64 := by have := Int.emod_lt_of_pos n0 (show (0 : Int) < 64 by decide); omega
  rw [← hn] at e63
  have a_lt := Int.tmod_lt_of_pos k0 (show (0 : Int) < 7 by decide)
  have a_gt := Int.lt_tmod_of_pos k0 (show (0 : Int) < 7 by decide)
  obtain ⟨m, hm⟩ : ∃ m, m = k0.tmod 7 := ⟨_, rfl⟩
  rw [← hm] at a_lt a_gt
  have hm' := hm.symm
  clear hm hn
  have t1 := IntWalk.i64_in (m + 7) (by omega)
  have t2 : (m + 7).tmod 7 = (m + 7) % 7 := Int.tmod_eq_emod_of_nonneg (by omega)
  obtain ⟨k, hk⟩ : ∃ k : Nat, (k : Int) = (m + 7) % 7 := ⟨((m + 7) % 7).toNat, Int.toNat_of_nonneg (Int.emod_nonneg _ (by decide))⟩
  have hk7 : k < 7 := by have := Int.emod_lt_of_pos (m + 7) (show (0 : Int) < 7 by decide); omega
  rw [← hk] at t2
  have k1 : (0 : Int) ≤ (k : Int) := by omega
  have k2 : (k : Int) < 7 := by omega
  clear hk a_lt a_gt
  have hU0 : RunesIn ((((((((w.alloc (.cells #[.int .i32 127462] 21)).alloc (.cells #[.int .i32 2325, .int .i32 2381] 21)).alloc (.cells #[.int .i32 128104, .int .i32 8205] 21)).alloc (.cells #[.int .i32 128104, .int .i32 127995] 21)).alloc (.cells #[.int .i32 4352] 21)).alloc (.cells #[.int .i32 1536] 21)).alloc (.cells #[.int .i32 769] 21)).alloc (.cells #[.slice (some ⟨w.heap.size, 0, none⟩) 1 1, .slice (some ⟨w.heap.size + 1, 0, none⟩) 2 2, .slice (some ⟨w.heap.size + 1 + 1, 0, none⟩) 2 2, .slice (some ⟨w.heap.size + 1 + 1 + 1, 0, none⟩) 2 2, .slice (some ⟨w.heap.size + 1 + 1 + 1 + 1, 0, none⟩) 1 1, .slice (some ⟨w.heap.size + 1 + 1 + 1 + 1 + 1, 0, none⟩) 1 1, .slice (some ⟨w.heap.size + 1 + 1 + 1 + 1 + 1 + 1, 0, none⟩) 1 1] 22)) (.slice (some ⟨w.heap.size, 0, none⟩) 1 1) [127462] := by
    have h : RunesIn (w.alloc (.cells #[.int .i32 127462] 21)) (.slice (some ⟨w.heap.size, 0, none⟩) 1 1) [127462] := rs_lit runeE_len w _ 21 [127462] 1 rfl (by decide) rfl
    rw [show w.heap.size = w.heap.size by simp] at h
    exact h.below (below_new (below_new (below_new (below_new (below_new (below_new (below_new (.refl _ _) (.cells #[.int .i32 2325, .int .i32 2381] 21)) (.cells #[.int .i32 128104, .int .i32 8205] 21)) (.cells #[.int .i32 128104, .int .i32 127995] 21)) (.cells #[.int .i32 4352] 21)) (.cells #[.int .i32 1536] 21)) (.cells #[.int .i32 769] 21)) (.cells #[.slice (some ⟨w.heap.size, 0, none⟩) 1 1, .slice (some ⟨w.heap.size + 1, 0, none⟩) 2 2, .slice (some ⟨w.heap.size + 1 + 1, 0, none⟩) 2 2, .slice (some ⟨w.heap.size + 1 + 1 + 1, 0, none⟩) 2 2, .slice (some ⟨w.heap.size + 1 + 1 + 1 + 1, 0, none⟩) 1 1, .slice (some ⟨w.heap.size + 1 + 1 + 1 + 1 + 1, 0, none⟩) 1 1, .slice (some ⟨w.heap.size + 1 + 1 + 1 + 1 + 1 + 1, 0, none⟩) 1 1] 22))
  have hU1 : RunesIn ((((((((w.alloc (.cells #[.int .i32 127462] 21)).alloc (.cells #[.int .i32 2325, .int .i32 2381] 21)).alloc (.cells #[.int .i32 128104, .int .i32 8205] 21)).alloc (.cells #[.int .i32 128104, .int .i32 127995] 21)).alloc (.cells #[.int .i32 4352] 21)).alloc (.cells #[.int .i32 1536] 21)).alloc (.cells #[.int .i32 769] 21)).alloc (.cells #[.slice (some ⟨w.heap.size, 0, none⟩) 1 1, .slice (some ⟨w.heap.size + 1, 0, none⟩) 2 2, .slice (some ⟨w.heap.size + 1 + 1, 0, none⟩) 2 2, .slice (some ⟨w.heap.size + 1 + 1 + 1, 0, none⟩) 2 2, .slice (some ⟨w.heap.size + 1 + 1 + 1 + 1, 0, none⟩) 1 1, .slice (some ⟨w.heap.size + 1 + 1 + 1 + 1 + 1, 0, none⟩) 1 1, .slice (some ⟨w.heap.size + 1 + 1 + 1 + 1 + 1 + 1, 0, none⟩) 1 1] 22)) (.slice (some ⟨w.heap.size + 1, 0, none⟩) 2 2) [2325, 2381] := by
    have h : RunesIn ((w.alloc (.cells #[.int .i32 127462] 21)).alloc (.cells #[.int .i32 2325, .int .i32 2381] 21)) (.slice (some ⟨(w.alloc (.cells #[.int .i32 127462] 21)).heap.size, 0, none⟩) 2 2) [2325, 2381] := rs_lit runeE_len (w.alloc (.cells #[.int .i32 127462] 21)) _ 21 [2325, 2381] 2 rfl (by decide) rfl
    rw [show (w.alloc (.cells #[.int .i32 127462] 21)).heap.size = w.heap.size + 1 by simp] at h
    exact h.below (below_new (below_new (below_new (below_new (below_new (below_new (.refl _ _) (.cells #[.int .i32 128104, .int .i32 8205] 21)) (.cells #[.int .i32 128104, .int .i32 127995] 21)) (.cells #[.int .i32 4352] 21)) (.cells #[.int .i32 1536] 21)) (.cells #[.int .i32 769] 21)) (.cells #[.slice (some ⟨w.heap.size, 0, none⟩) 1 1, .slice (some ⟨w.heap.size + 1, 0, none⟩) 2 2, .slice (some ⟨w.heap.size + 1 + 1, 0, none⟩) 2 2, .slice (some ⟨w.heap.size + 1 + 1 + 1, 0, none⟩) 2 2, .slice (some ⟨w.heap.size + 1 + 1 + 1 + 1, 0, none⟩) 1 1, .slice (some ⟨w.heap.size + 1 + 1 + 1 + 1 + 1, 0, none⟩) 1 1, .slice (some ⟨w.heap.size + 1 + 1 + 1 + 1 + 1 + 1, 0, none⟩) 1 1] 22))
  have hU2 : RunesIn ((((((((w.alloc (.cells #[.int .i32 127462] 21)).alloc (.cells #[.int .i32 2325, .int .i32 2381] 21)).alloc (.cells #[.int .i32 128104, .int .i32 8205] 21)).alloc (.cells #[.int .i32 128104, .int .i32 127995] 21)).alloc (.cells #[.int .i32 4352] 21)).alloc (.cells #[.int .i32 1536] 21)).alloc (.cells #[.int .i32 769] 21)).alloc (.cells #[.slice (some ⟨w.heap.size, 0, none⟩) 1 1, .slice (some ⟨w.heap.size + 1, 0, none⟩) 2 2, .slice (some ⟨w.heap.size + 1 + 1, 0, none⟩) 2 2, .slice (some ⟨w.heap.size + 1 + 1 + 1, 0, none⟩) 2 2, .slice (some ⟨w.heap.size + 1 + 1 + 1 + 1, 0, none⟩) 1 1, .slice (some ⟨w.heap.size + 1 + 1 + 1 + 1 + 1, 0, none⟩) 1 1, .slice (some ⟨w.heap.size + 1 + 1 + 1 + 1 + 1 + 1, 0, none⟩) 1 1] 22)) (.slice (some ⟨w.heap.size + 1 + 1, 0, none⟩) 2 2) [128104, 8205] := by
    have h : RunesIn (((w.alloc (.cells #[.int .i32 127462] 21)).alloc (.cells #[.int .i32 2325, .int .i32 2381] 21)).alloc (.cells #[.int .i32 128104, .int .i32 8205] 21)) (.slice (some ⟨((w.alloc (.cells #[.int .i32 127462] 21)).alloc (.cells #[.int .i32 2325, .int .i32 2381] 21)).heap.size, 0, none⟩) 2 2) [128104, 8205] := rs_lit runeE_len ((w.alloc (.cells #[.int .i32 127462] 21)).alloc (.cells #[.int .i32 2325, .int .i32 2381] 21)) _ 21 [128104, 8205] 2 rfl (by decide) rfl
    rw [show ((w.alloc (.cells #[.int .i32 127462] 21)).alloc (.cells #[.int .i32 2325, .int .i32 2381] 21)).heap.size = w.heap.size + 1 + 1 by simp] at h
    exact h.below (below_new (below_new (below_new (below_new (below_new (.refl _ _) (.cells #[.int .i32 128104, .int .i32 127995] 21)) (.cells #[.int .i32 4352] 21)) (.cells #[.int .i32 1536] 21)) (.cells #[.int .i32 769] 21)) (.cells #[.slice (some ⟨w.heap.size, 0, none⟩) 1 1, .slice (some ⟨w.heap.size + 1, 0, none⟩) 2 2, .slice (some ⟨w.heap.size + 1 + 1, 0, none⟩) 2 2, .slice (some ⟨w.heap.size + 1 + 1 + 1, 0, none⟩) 2 2, .slice (some ⟨w.heap.size + 1 + 1 + 1 + 1, 0, none⟩) 1 1, .slice (some ⟨w.heap.size + 1 + 1 + 1 + 1 + 1, 0, none⟩) 1 1, .slice (some ⟨w.heap.size + 1 + 1 + 1 + 1 + 1 + 1, 0, none⟩) 1 1] 22))
  have hU3 : RunesIn ((((((((w.alloc (.cells #[.int .i32 127462] 21)).alloc (.cells #[.int .i32 2325, .int .i32 2381] 21)).alloc (.cells #[.int .i32 128104, .int .i32 8205] 21)).alloc (.cells #[.int .i32 128104, .int .i32 127995] 21)).alloc (.cells #[.int .i32 4352] 21)).alloc (.cells #[.int .i32 1536] 21)).alloc (.cells #[.int .i32 769] 21)).alloc (.cells #[.slice (some ⟨w.heap.size, 0, none⟩) 1 1, .slice (some ⟨w.heap.size + 1, 0, none⟩) 2 2, .slice (some ⟨w.heap.size + 1 + 1, 0, none⟩) 2 2, .slice (some ⟨w.heap.size + 1 + 1 + 1, 0, none⟩) 2 2, .slice (some ⟨w.heap.size + 1 + 1 + 1 + 1, 0, none⟩) 1 1, .slice (some ⟨w.heap.size + 1 + 1 + 1 + 1 + 1, 0, none⟩) 1 1, .slice (some ⟨w.heap.size + 1 + 1 + 1 + 1 + 1 + 1, 0, none⟩) 1 1] 22)) (.slice (some ⟨w.heap.size + 1 + 1 + 1, 0, none⟩) 2 2) [128104, 127995] := by
    have h : RunesIn ((((w.alloc (.cells #[.int .i32 127462] 21)).alloc (.cells #[.int .i32 2325, .int .i32 2381] 21)).alloc (.cells #[.int .i32 128104, .int .i32 8205] 21)).alloc (.cells #[.int .i32 128104, .int .i32 127995] 21)) (.slice (some ⟨(((w.alloc (.cells #[.int .i32 127462] 21)).alloc (.cells #[.int .i32 2325, .int .i32 2381] 21)).alloc (.cells #[.int .i32 128104, .int .i32 8205] 21)).heap.size, 0, none⟩) 2 2) [128104, 127995] := rs_lit runeE_len (((w.alloc (.cells #[.int .i32 127462] 21)).alloc (.cells #[.int .i32 2325, .int .i32 2381] 21)).alloc (.cells #[.int .i32 128104, .int .i32 8205] 21)) _ 21 [128104, 127995] 2 rfl (by decide) rfl
    rw [show (((w.alloc (.cells #[.int .i32 127462] 21)).alloc (.cells #[.int .i32 2325, .int .i32 2381] 21)).alloc (.cells #[.int .i32 128104, .int .i32 8205] 21)).heap.size = w.heap.size + 1 + 1 + 1 by simp] at h
    exact h.below (below_new (below_new (below_new (below_new (.refl _ _) (.cells #[.int .i32 4352] 21)) (.cells #[.int .i32 1536] 21)) (.cells #[.int .i32 769] 21)) (.cells #[.slice (some ⟨w.heap.size, 0, none⟩) 1 1, .slice (some ⟨w.heap.size + 1, 0, none⟩) 2 2, .slice (some ⟨w.heap.size + 1 + 1, 0, none⟩) 2 2, .slice (some ⟨w.heap.size + 1 + 1 + 1, 0, none⟩) 2 2, .slice (some ⟨w.heap.size + 1 + 1 + 1 + 1, 0, none⟩) 1 1, .slice (some ⟨w.heap.size + 1 + 1 + 1 + 1 + 1, 0, none⟩) 1 1, .slice (some ⟨w.heap.size + 1 + 1 + 1 + 1 + 1 + 1, 0, none⟩) 1 1] 22))
  have hU4 : RunesIn ((((((((w.alloc (.cells #[.int .i32 127462] 21)).alloc (.cells #[.int .i32 2325, .int .i32 2381] 21)).alloc (.cells #[.int .i32 128104, .int .i32 8205] 21)).alloc (.cells #[.int .i32 128104, .int .i32 127995] 21)).alloc (.cells #[.int .i32 4352] 21)).alloc (.cells #[.int .i32 1536] 21)).alloc (.cells #[.int .i32 769] 21)).alloc (.cells #[.slice (some ⟨w.heap.size, 0, none⟩) 1 1, .slice (some ⟨w.heap.size + 1, 0, none⟩) 2 2, .slice (some ⟨w.heap.size + 1 + 1, 0, none⟩) 2 2, .slice (some ⟨w.heap.size + 1 + 1 + 1, 0, none⟩) 2 2, .slice (some ⟨w.heap.size + 1 + 1 + 1 + 1, 0, none⟩) 1 1, .slice (some ⟨w.heap.size + 1 + 1 + 1 + 1 + 1, 0, none⟩) 1 1, .slice (some ⟨w.heap.size + 1 + 1 + 1 + 1 + 1 + 1, 0, none⟩) 1 1] 22)) (.slice (some ⟨w.heap.size + 1 + 1 + 1 + 1, 0, none⟩) 1 1) [4352] := by
    have h : RunesIn (((((w.alloc (.cells #[.int .i32 127462] 21)).alloc (.cells #[.int .i32 2325, .int .i32 2381] 21)).alloc (.cells #[.int .i32 128104, .int .i32 8205] 21)).alloc (.cells #[.int .i32 128104, .int .i32 127995] 21)).alloc (.cells #[.int .i32 4352] 21)) (.slice (some ⟨((((w.alloc (.cells #[.int .i32 127462] 21)).alloc (.cells #[.int .i32 2325, .int .i32 2381] 21)).alloc (.cells #[.int .i32 128104, .int .i32 8205] 21)).alloc (.cells #[.int .i32 128104, .int .i32 127995] 21)).heap.size, 0, none⟩) 1 1) [4352] := rs_lit runeE_len ((((w.alloc (.cells #[.int .i32 127462] 21)).alloc (.cells #[.int .i32 2325, .int .i32 2381] 21)).alloc (.cells #[.int .i32 128104, .int .i32 8205] 21)).alloc (.cells #[.int .i32 128104, .int .i32 127995] 21)) _ 21 [4352] 1 rfl (by decide) rfl
    rw [show ((((w.alloc (.cells #[.int .i32 127462] 21)).alloc (.cells #[.int .i32 2325, .int .i32 2381] 21)).alloc (.cells #[.int .i32 128104, .int .i32 8205] 21)).alloc (.cells #[.int .i32 128104, .int .i32 127995] 21)).heap.size = w.heap.size + 1 + 1 + 1 + 1 by simp] at h
    exact h.below (below_new (below_new (below_new (.refl _ _) (.cells #[.int .i32 1536] 21)) (.cells #[.int .i32 769] 21)) (.cells #[.slice (some ⟨w.heap.size, 0, none⟩) 1 1, .slice (some ⟨w.heap.size + 1, 0, none⟩) 2 2, .slice (some ⟨w.heap.size + 1 + 1, 0, none⟩) 2 2, .slice (some ⟨w.heap.size + 1 + 1 + 1, 0, none⟩) 2 2, .slice (some ⟨w.heap.size + 1 + 1 + 1 + 1, 0, none⟩) 1 1, .slice (some ⟨w.heap.size + 1 + 1 + 1 + 1 + 1, 0, none⟩) 1 1, .slice (some ⟨w.heap.size + 1 + 1 + 1 + 1 + 1 + 1, 0, none⟩) 1 1] 22))
  have hU5 : RunesIn ((((((((w.alloc (.cells #[.int .i32 127462] 21)).alloc (.cells #[.int .i32 2325, .int .i32 2381] 21)).alloc (.cells #[.int .i32 128104, .int .i32 8205] 21)).alloc (.cells #[.int .i32 128104, .int .i32 127995] 21)).alloc (.cells #[.int .i32 4352] 21)).alloc (.cells #[.int .i32 1536] 21)).alloc (.cells #[.int .i32 769] 21)).alloc (.cells #[.slice (some ⟨w.heap.size, 0, none⟩) 1 1, .slice (some ⟨w.heap.size + 1, 0, none⟩) 2 2, .slice (some ⟨w.heap.size + 1 + 1, 0, none⟩) 2 2, .slice (some ⟨w.heap.size + 1 + 1 + 1, 0, none⟩) 2 2, .slice (some ⟨w.heap.size + 1 + 1 + 1 + 1, 0, none⟩) 1 1, .slice (some ⟨w.heap.size + 1 + 1 + 1 + 1 + 1, 0, none⟩) 1 1, .slice (some ⟨w.heap.size + 1 + 1 + 1 + 1 + 1 + 1, 0, none⟩) 1 1] 22)) (.slice (some ⟨w.heap.size + 1 + 1 + 1 + 1 + 1, 0, none⟩) 1 1) [1536] := by
    have h : RunesIn ((((((w.alloc (.cells #[.int .i32 127462] 21)).alloc (.cells #[.int .i32 2325, .int .i32 2381] 21)).alloc (.cells #[.int .i32 128104, .int .i32 8205] 21)).alloc (.cells #[.int .i32 128104, .int .i32 127995] 21)).alloc (.cells #[.int .i32 4352] 21)).alloc (.cells #[.int .i32 1536] 21)) (.slice (some ⟨(((((w.alloc (.cells #[.int .i32 127462] 21)).alloc (.cells #[.int .i32 2325, .int .i32 2381] 21)).alloc (.cells #[.int .i32 128104, .int .i32 8205] 21)).alloc (.cells #[.int .i32 128104, .int .i32 127995] 21)).alloc (.cells #[.int .i32 4352] 21)).heap.size, 0, none⟩) 1 1) [1536] := rs_lit runeE_len (((((w.alloc (.cells #[.int .i32 127462] 21)).alloc (.cells #[.int .i32 2325, .int .i32 2381] 21)).alloc (.cells #[.int .i32 128104, .int .i32 8205] 21)).alloc (.cells #[.int .i32 128104, .int .i32 127995] 21)).alloc (.cells #[.int .i32 4352] 21)) _ 21 [1536] 1 rfl (by decide) rfl
    rw [show (((((w.alloc (.cells #[.int .i32 127462] 21)).alloc (.cells #[.int .i32 2325, .int .i32 2381] 21)).alloc (.cells #[.int .i32 128104, .int .i32 8205] 21)).alloc (.cells #[.int .i32 128104, .int .i32 127995] 21)).alloc (.cells #[.int .i32 4352] 21)).heap.size = w.heap.size + 1 + 1 + 1 + 1 + 1 by simp] at h
    exact h.below (below_new (below_new (.refl _ _) (.cells #[.int .i32 769] 21)) (.cells #[.slice (some ⟨w.heap.size, 0, none⟩) 1 1, .slice (some ⟨w.heap.size + 1, 0, none⟩) 2 2, .slice (some ⟨w.heap.size + 1 + 1, 0, none⟩) 2 2, .slice (some ⟨w.heap.size + 1 + 1 + 1, 0, none⟩) 2 2, .slice (some ⟨w.heap.size + 1 + 1 + 1 + 1, 0, none⟩) 1 1, .slice (some ⟨w.heap.size + 1 + 1 + 1 + 1 + 1, 0, none⟩) 1 1, .slice (some ⟨w.heap.size + 1 + 1 + 1 + 1 + 1 + 1, 0, none⟩) 1 1] 22))
  have hU6 : RunesIn ((((((((w.alloc (.cells #[.int .i32 127462] 21)).alloc (.cells #[.int .i32 2325, .int .i32 2381] 21)).alloc (.cells #[.int .i32 128104, .int .i32 8205] 21)).alloc (.cells #[.int .i32 128104, .int .i32 127995] 21)).alloc (.cells #[.int .i32 4352] 21)).alloc (.cells #[.int .i32 1536] 21)).alloc (.cells #[.int .i32 769] 21)).alloc (.cells #[.slice (some ⟨w.heap.size, 0, none⟩) 1 1, .slice (some ⟨w.heap.size + 1, 0, none⟩) 2 2, .slice (some ⟨w.heap.size + 1 + 1, 0, none⟩) 2 2, .slice (some ⟨w.heap.size + 1 + 1 + 1, 0, none⟩) 2 2, .slice (some ⟨w.heap.size + 1 + 1 + 1 + 1, 0, none⟩) 1 1, .slice (some ⟨w.heap.size + 1 + 1 + 1 + 1 + 1, 0, none⟩) 1 1, .slice (some ⟨w.heap.size + 1 + 1 + 1 + 1 + 1 + 1, 0, none⟩) 1 1] 22)) (.slice (some ⟨w.heap.size + 1 + 1 + 1 + 1 + 1 + 1, 0, none⟩) 1 1) [769] := by
    have h : RunesIn (((((((w.alloc (.cells #[.int .i32 127462] 21)).alloc (.cells #[.int .i32 2325, .int .i32 2381] 21)).alloc (.cells #[.int .i32 128104, .int .i32 8205] 21)).alloc (.cells #[.int .i32 128104, .int .i32 127995] 21)).alloc (.cells #[.int .i32 4352] 21)).alloc (.cells #[.int .i32 1536] 21)).alloc (.cells #[.int .i32 769] 21)) (.slice (some ⟨((((((w.alloc (.cells #[.int .i32 127462] 21)).alloc (.cells #[.int .i32 2325, .int .i32 2381] 21)).alloc (.cells #[.int .i32 128104, .int .i32 8205] 21)).alloc (.cells #[.int .i32 128104, .int .i32 127995] 21)).alloc (.cells #[.int .i32 4352] 21)).alloc (.cells #[.int .i32 1536] 21)).heap.size, 0, none⟩) 1 1) [769] := rs_lit runeE_len ((((((w.alloc (.cells #[.int .i32 127462] 21)).alloc (.cells #[.int .i32 2325, .int .i32 2381] 21)).alloc (.cells #[.int .i32 128104, .int .i32 8205] 21)).alloc (.cells #[.int .i32 128104, .int .i32 127995] 21)).alloc (.cells #[.int .i32 4352] 21)).alloc (.cells #[.int .i32 1536] 21)) _ 21 [769] 1 rfl (by decide) rfl
    rw [show ((((((w.alloc (.cells #[.int .i32 127462] 21)).alloc (.cells #[.int .i32 2325, .int .i32 2381] 21)).alloc (.cells #[.int .i32 128104, .int .i32 8205] 21)).alloc (.cells #[.int .i32 128104, .int .i32 127995] 21)).alloc (.cells #[.int .i32 4352] 21)).alloc (.cells #[.int .i32 1536] 21)).heap.size = w.heap.size + 1 + 1 + 1 + 1 + 1 + 1 by simp] at h
    exact h.below (below_new (.refl _ _) (.cells #[.slice (some ⟨w.heap.size, 0, none⟩) 1 1, .slice (some ⟨w.heap.size + 1, 0, none⟩) 2 2, .slice (some ⟨w.heap.size + 1 + 1, 0, none⟩) 2 2, .slice (some ⟨w.heap.size + 1 + 1 + 1, 0, none⟩) 2 2, .slice (some ⟨w.heap.size + 1 + 1 + 1 + 1, 0, none⟩) 1 1, .slice (some ⟨w.heap.size + 1 + 1 + 1 + 1 + 1, 0, none⟩) 1 1, .slice (some ⟨w.heap.size + 1 + 1 + 1 + 1 + 1 + 1, 0, none⟩) 1 1] 22))
  have hB8 : Below w.heap.size w ((((((((w.alloc (.cells #[.int .i32 127462] 21)).alloc (.cells #[.int .i32 2325, .int .i32 2381] 21)).alloc (.cells #[.int .i32 128104, .int .i32 8205] 21)).alloc (.cells #[.int .i32 128104, .int .i32 127995] 21)).alloc (.cells #[.int .i32 4352] 21)).alloc (.cells #[.int .i32 1536] 21)).alloc (.cells #[.int .i32 769] 21)).alloc (.cells #[.slice (some ⟨w.heap.size, 0, none⟩) 1 1, .slice (some ⟨w.heap.size + 1, 0, none⟩) 2 2, .slice (some ⟨w.heap.size + 1 + 1, 0, none⟩) 2 2, .slice (some ⟨w.heap.size + 1 + 1 + 1, 0, none⟩) 2 2, .slice (some ⟨w.heap.size + 1 + 1 + 1 + 1, 0, none⟩) 1 1, .slice (some ⟨w.heap.size + 1 + 1 + 1 + 1 + 1, 0, none⟩) 1 1, .slice (some ⟨w.heap.size + 1 + 1 + 1 + 1 + 1 + 1, 0, none⟩) 1 1] 22)) := below_new (below_new (below_new (below_new (below_new (below_new (below_new (below_new (.refl _ _) (.cells #[.int .i32 127462] 21)) (.cells #[.int .i32 2325, .int .i32 2381] 21)) (.cells #[.int .i32 128104, .int .i32 8205] 21)) (.cells #[.int .i32 128104, .int .i32 127995] 21)) (.cells #[.int .i32 4352] 21)) (.cells #[.int .i32 1536] 21)) (.cells #[.int .i32 769] 21)) (.cells #[.slice (some ⟨w.heap.size, 0, none⟩) 1 1, .slice (some ⟨w.heap.size + 1, 0, none⟩) 2 2, .slice (some ⟨w.heap.size + 1 + 1, 0, none⟩) 2 2, .slice (some ⟨w.heap.size + 1 + 1 + 1, 0, none⟩) 2 2, .slice (some ⟨w.heap.size + 1 + 1 + 1 + 1, 0, none⟩) 1 1, .slice (some ⟨w.heap.size + 1 + 1 + 1 + 1 + 1, 0, none⟩) 1 1, .slice (some ⟨w.heap.size + 1 + 1 + 1 + 1 + 1 + 1, 0, none⟩) 1 1] 22)
  have HU0 := Lib.hid hU0
  have HU1 := Lib.hid hU1
  have HU2 := Lib.hid hU2
  have HU3 := Lib.hid hU3
  have HU4 := Lib.hid hU4
  have HU5 := Lib.hid hU5
  have HU6 := Lib.hid hU6
  have HB8 := Lib.hid hB8
  clear hB8 hU0 hU1 hU2 hU3 hU4 hU5 hU6
  have hk' : k = 0 ∨ k = 1 ∨ k = 2 ∨ k = 3 ∨ k = 4 ∨ k = 5 ∨ k = 6 := by omega
  clear k1 k2 hk7
  rcases hk' with rfl | rfl | rfl | rfl | rfl | rfl | rfl
  · have HU := Lib.hid (show ∃ U : List Int, RunesIn ((((((((w.alloc (.cells #[.int .i32 127462] 21)).alloc (.cells #[.int .i32 2325, .int .i32 2381] 21)).alloc (.cells #[.int .i32 128104, .int .i32 8205] 21)).alloc (.cells #[.int .i32 128104, .int .i32 127995] 21)).alloc (.cells #[.int .i32 4352] 21)).alloc (.cells #[.int .i32 1536] 21)).alloc (.cells #[.int .i32 769] 21)).alloc (.cells #[.slice (some ⟨w.heap.size, 0, none⟩) 1 1, .slice (some ⟨w.heap.size + 1, 0, none⟩) 2 2, .slice (some ⟨w.heap.size + 1 + 1, 0, none⟩) 2 2, .slice (some ⟨w.heap.size + 1 + 1 + 1, 0, none⟩) 2 2, .slice (some ⟨w.heap.size + 1 + 1 + 1 + 1, 0, none⟩) 1 1, .slice (some ⟨w.heap.size + 1 + 1 + 1 + 1 + 1, 0, none⟩) 1 1, .slice (some ⟨w.heap.size + 1 + 1 + 1 + 1 + 1 + 1, 0, none⟩) 1 1] 22)) (.slice (some ⟨w.heap.size, 0, none⟩) 1 1) U ∧ RunesOk U ∧ U.length = 1 from ⟨_, HU0.out, fun x hx => by simp at hx; unfold I32; omega, rfl⟩)
    clear HU0 HU1 HU2 HU3 HU4 HU5 HU6
    go_enter Try.func4, Try.ntmps4
    go_upto_region 3 with fail
    generalize ((((((((w.alloc (.cells #[.int .i32 127462] 21)).alloc (.cells #[.int .i32 2325, .int .i32 2381] 21)).alloc (.cells #[.int .i32 128104, .int .i32 8205] 21)).alloc (.cells #[.int .i32 128104, .int .i32 127995] 21)).alloc (.cells #[.int .i32 4352] 21)).alloc (.cells #[.int .i32 1536] 21)).alloc (.cells #[.int .i32 769] 21)).alloc (.cells #[.slice (some ⟨w.heap.size, 0, none⟩) 1 1, .slice (some ⟨w.heap.size + 1, 0, none⟩) 2 2, .slice (some ⟨w.heap.size + 1 + 1, 0, none⟩) 2 2, .slice (some ⟨w.heap.size + 1 + 1 + 1, 0, none⟩) 2 2, .slice (some ⟨w.heap.size + 1 + 1 + 1 + 1, 0, none⟩) 1 1, .slice (some ⟨w.heap.size + 1 + 1 + 1 + 1 + 1, 0, none⟩) 1 1, .slice (some ⟨w.heap.size + 1 + 1 + 1 + 1 + 1 + 1, 0, none⟩) 1 1] 22)) = W at HU HB8 ⊢
    obtain ⟨U, hU, hUok, hUl⟩ := HU.out
    have HUr := Lib.hid hU
    have HUk := Lib.hid hUok
    clear HU hU hUok t1 t2 hm' e63
    have HO0 := Lib.hid (show (W.alloc (.cells #[.int .i32 97] 21)).ownsRow W.heap.size 21 1 (.slice (some ⟨W.heap.size, 0, none⟩) 1 1) 1 [.int .i32 97] from World.ownsRow_lit W #[.int .i32 97] 1 (Nat.le_refl _) (by unfold maxLen; omega) (by simp))
    have HB0 := Lib.hid (below1 W (.cells #[.int .i32 97] 21))
    go_wp2_with fail
    go_loopw [8, 9] (fun lv iv wr => ∃ (i : Nat) (L : List Int), i ≤ n ∧ iv = .int .i64 ((i : Nat) : Int) ∧ L.length ≤ 1 + 2 * i ∧ RunesOk L ∧ Below W.heap.size W wr ∧ wr.ownsRow W.heap.size 21 1 lv L.length (L.flatMap runeE)) (fun _ iv _ => n - (intOf iv).toNat)
    case atStart => exact ⟨0, [97], Nat.zero_le _, rfl, by simp, fun x hx => by simp at hx; unfold I32; omega, HB0.out, HO0.out⟩
    case round =>
      obtain ⟨i, L, hi, rfl, hLl, hLk, hB, hO⟩ := hrel
      have HB := Lib.hid hB
      have HLk := Lib.hid hLk
      have hbs := hB.size
      obtain ⟨pa, pc, rfl⟩ := slice_of_owns hO
      have HO := Lib.hid hO
      have HUw := Lib.hid (HUr.out.below HB.out)
      clear hB hO hLk
      by_cases hlt : i < n
      · have r0 : (i : Int) < (n : Int) := by omega
        have HNew := Lib.hid (runes_add HUw.out)
        have HFl := Lib.hid (show (U.flatMap runeE).length = 1 * 1 by rw [flat_len runeE_len, hUl])
        have HOn := Lib.hid (runeE_one U)
        go_wp2_with (at_builtin; refine wpList_app2 _ rfl (.tmp 33) (.tmp 34) _ rfl ER _ _ _ rfl HO.out _ 1 1 (U.flatMap runeE) rfl (by decide) HFl.out HNew.out HOn.out (by omega) hbs ?_; intro g c w7 ho7 hg7 hf7)
        have HB7 := Lib.hid (below_app HB.out hbs HO.out (Nat.le_refl _) hg7)
        have HO7 := Lib.hid ho7
        clear ho7 hg7 hf7
        go_wp2_with fail
        go_roundw
        case rel => exact ⟨i + 1, L ++ U, by omega, by go_num, by rw [List.length_append]; omega, fun x hx => by
                      rcases List.mem_append.1 hx with h | h
                      · exact HLk.out x h
                      · exact HUk.out x h, HB7.out, by
                      have ho := HO7.out
                      rw [List.length_append, List.flatMap_append, hUl]; exact ho⟩
        case measure => simp [intOf] <;> omega
      · have r0 : decide ((i : Int) < (n : Int)) = false := by rw [decide_eq_false_iff_not]; omega
        obtain ⟨u0, hu0⟩ : ∃ u0, U[0]? = some u0 := ⟨U[0]'(by omega), List.getElem?_eq_getElem (by omega)⟩
        obtain ⟨b', off', cap', hv, _, _, _, _, d0⟩ := rune_cell HUw.out hu0
        injection hv with e1 e2 e3
        cases e1
        clear e2 e3
        have HI0 := Lib.hid (HUk.out.get hu0)
        clear hu0
        go_wp2_with (at_builtin; refine wpList_app1 _ rfl (.tmp 36) (.tmp 40) _ rfl ER _ _ _ rfl HO.out 1 1 [.int .i32 u0] rfl (by decide) rfl (by intro u hu; simp at hu; subst hu; rfl) (by omega) hbs ?_; intro g c w7 ho7 hg7 hf7)
        have HB7 := Lib.hid (below_trans' HB8.out (below_app HB.out hbs HO.out (Nat.le_refl _) hg7))
        have HS7 := Lib.hid (show RunesIn w7 (.slice (some ⟨g, 0, none⟩) (L.length + 1) c) (L ++ [u0]) by
          have h := rd_of_owns ho7
          unfold RunesIn Rs
          rw [List.length_append, List.flatMap_append]
          exact h)
        have HOk := Lib.hid (show RunesOk (L ++ [u0]) from fun x hx => by
          rcases List.mem_append.1 hx with h | h
          · exact HLk.out x h
          · have : x = u0 := by simpa using h
            rw [this]; exact HI0.out)
        have hlen : (L ++ [u0]).length ≤ 1000000 := by rw [List.length_append]; simp; omega
        clear ho7 hg7 hf7 HB HLk HO HUw HO0 HB0 hbs hLl d0
        generalize L ++ [u0] = l at HS7 HOk hlen
        go_wp2_with fail
        refine (HRows.out w7).mono ?_
        rintro e w8 ⟨v, rfl, hB1, hR1⟩
        have HB1 := Lib.hid (below_trans' HB7.out hB1)
        have HR1 := Lib.hid hR1
        have HS1 := Lib.hid (HS7.out.below hB1)
        clear hB1 hR1 HB7 HS7
        go_wp2_with fail
        refine (build_tb v R w8 HR1.out HF.out.ok).mono ?_
        rintro e w2 ⟨tp, rfl, hB2, hT⟩
        have HT2 := Lib.hid hT
        have HR2 := Lib.hid (HR1.out.below hB2)
        have HS2 := Lib.hid (HS1.out.below hB2)
        have HB2 := Lib.hid (below_trans' HB1.out hB2)
        clear hB2 hT HB1 HR1 HS1
        go_wp2_with fail
        refine (floor_any a HTk.out HT2.out HS2.out HOk.out hlen).mono ?_
        rintro e w3 ⟨rfl, hB3⟩
        have HR3 := Lib.hid (HR2.out.below hB3)
        have HS3 := Lib.hid (HS2.out.below hB3)
        have HB3 := Lib.hid (below_trans' HB2.out hB3)
        clear hB3 HT2 HR2 HS2 HB2
        go_wp2_with fail
        refine (lfloor_any a HR3.out HS3.out HOk.out hlen).mono ?_
        rintro e w4 ⟨rfl, hB4⟩
        have HB4 := Lib.hid (below_trans' HB3.out hB4)
        clear hB4 HR3 HS3 HB3
        go_wp2_with fail
        refine (fin11 HB4.out).mono ?_
        rintro e w9 ⟨rfl, hB9⟩
        go_wp2_with fail
        go_ret
        exact ⟨rfl, hB9⟩
  · have HU := Lib.hid (show ∃ U : List Int, RunesIn ((((((((w.alloc (.cells #[.int .i32 127462] 21)).alloc (.cells #[.int .i32 2325, .int .i32 2381] 21)).alloc (.cells #[.int .i32 128104, .int .i32 8205] 21)).alloc (.cells #[.int .i32 128104, .int .i32 127995] 21)).alloc (.cells #[.int .i32 4352] 21)).alloc (.cells #[.int .i32 1536] 21)).alloc (.cells #[.int .i32 769] 21)).alloc (.cells #[.slice (some ⟨w.heap.size, 0, none⟩) 1 1, .slice (some ⟨w.heap.size + 1, 0, none⟩) 2 2, .slice (some ⟨w.heap.size + 1 + 1, 0, none⟩) 2 2, .slice (some ⟨w.heap.size + 1 + 1 + 1, 0, none⟩) 2 2, .slice (some ⟨w.heap.size + 1 + 1 + 1 + 1, 0, none⟩) 1 1, .slice (some ⟨w.heap.size + 1 + 1 + 1 + 1 + 1, 0, none⟩) 1 1, .slice (some ⟨w.heap.size + 1 + 1 + 1 + 1 + 1 + 1, 0, none⟩) 1 1] 22)) (.slice (some ⟨w.heap.size + 1, 0, none⟩) 2 2) U ∧ RunesOk U ∧ U.length = 2 from ⟨_, HU1.out, fun x hx => by simp at hx; unfold I32; omega, rfl⟩)
    clear HU0 HU1 HU2 HU3 HU4 HU5 HU6
    go_enter Try.func4, Try.ntmps4
    go_upto_region 3 with fail
    generalize ((((((((w.alloc (.cells #[.int .i32 127462] 21)).alloc (.cells #[.int .i32 2325, .int .i32 2381] 21)).alloc (.cells #[.int .i32 128104, .int .i32 8205] 21)).alloc (.cells #[.int .i32 128104, .int .i32 127995] 21)).alloc (.cells #[.int .i32 4352] 21)).alloc (.cells #[.int .i32 1536] 21)).alloc (.cells #[.int .i32 769] 21)).alloc (.cells #[.slice (some ⟨w.heap.size, 0, none⟩) 1 1, .slice (some ⟨w.heap.size + 1, 0, none⟩) 2 2, .slice (some ⟨w.heap.size + 1 + 1, 0, none⟩) 2 2, .slice (some ⟨w.heap.size + 1 + 1 + 1, 0, none⟩) 2 2, .slice (some ⟨w.heap.size + 1 + 1 + 1 + 1, 0, none⟩) 1 1, .slice (some ⟨w.heap.size + 1 + 1 + 1 + 1 + 1, 0, none⟩) 1 1, .slice (some ⟨w.heap.size + 1 + 1 + 1 + 1 + 1 + 1, 0, none⟩) 1 1] 22)) = W at HU HB8 ⊢
    obtain ⟨U, hU, hUok, hUl⟩ := HU.out
    have HUr := Lib.hid hU
    have HUk := Lib.hid hUok
    clear HU hU hUok t1 t2 hm' e63
    have HO0 := Lib.hid (show (W.alloc (.cells #[.int .i32 97] 21)).ownsRow W.heap.size 21 1 (.slice (some ⟨W.heap.size, 0, none⟩) 1 1) 1 [.int .i32 97] from World.ownsRow_lit W #[.int .i32 97] 1 (Nat.le_refl _) (by unfold maxLen; omega) (by simp))
    have HB0 := Lib.hid (below1 W (.cells #[.int .i32 97] 21))
    go_wp2_with fail
    go_loopw [8, 9] (fun lv iv wr => ∃ (i : Nat) (L : List Int), i ≤ n ∧ iv = .int .i64 ((i : Nat) : Int) ∧ L.length ≤ 1 + 2 * i ∧ RunesOk L ∧ Below W.heap.size W wr ∧ wr.ownsRow W.heap.size 21 1 lv L.length (L.flatMap runeE)) (fun _ iv _ => n - (intOf iv).toNat)
    case atStart => exact ⟨0, [97], Nat.zero_le _, rfl, by simp, fun x hx => by simp at hx; unfold I32; omega, HB0.out, HO0.out⟩
    case round =>
      obtain ⟨i, L, hi, rfl, hLl, hLk, hB, hO⟩ := hrel
      have HB := Lib.hid hB
      have HLk := Lib.hid hLk
      have hbs := hB.size
      obtain ⟨pa, pc, rfl⟩ := slice_of_owns hO
      have HO := Lib.hid hO
      have HUw := Lib.hid (HUr.out.below HB.out)
      clear hB hO hLk
      by_cases hlt : i < n
      · have r0 : (i : Int) < (n : Int) := by omega
        have HNew := Lib.hid (runes_add HUw.out)
        have HFl := Lib.hid (show (U.flatMap runeE).length = 2 * 1 by rw [flat_len runeE_len, hUl])
        have HOn := Lib.hid (runeE_one U)
        go_wp2_with (at_builtin; refine wpList_app2 _ rfl (.tmp 33) (.tmp 34) _ rfl ER _ _ _ rfl HO.out _ 2 2 (U.flatMap runeE) rfl (by decide) HFl.out HNew.out HOn.out (by omega) hbs ?_; intro g c w7 ho7 hg7 hf7)
        have HB7 := Lib.hid (below_app HB.out hbs HO.out (Nat.le_refl _) hg7)
        have HO7 := Lib.hid ho7
        clear ho7 hg7 hf7
        go_wp2_with fail
        go_roundw
        case rel => exact ⟨i + 1, L ++ U, by omega, by go_num, by rw [List.length_append]; omega, fun x hx => by
                      rcases List.mem_append.1 hx with h | h
                      · exact HLk.out x h
                      · exact HUk.out x h, HB7.out, by
                      have ho := HO7.out
                      rw [List.length_append, List.flatMap_append, hUl]; exact ho⟩
        case measure => simp [intOf] <;> omega
      · have r0 : decide ((i : Int) < (n : Int)) = false := by rw [decide_eq_false_iff_not]; omega
        obtain ⟨u0, hu0⟩ : ∃ u0, U[0]? = some u0 := ⟨U[0]'(by omega), List.getElem?_eq_getElem (by omega)⟩
        obtain ⟨b', off', cap', hv, _, _, _, _, d0⟩ := rune_cell HUw.out hu0
        injection hv with e1 e2 e3
        cases e1
        clear e2 e3
        have HI0 := Lib.hid (HUk.out.get hu0)
        clear hu0
        go_wp2_with (at_builtin; refine wpList_app1 _ rfl (.tmp 36) (.tmp 40) _ rfl ER _ _ _ rfl HO.out 1 1 [.int .i32 u0] rfl (by decide) rfl (by intro u hu; simp at hu; subst hu; rfl) (by omega) hbs ?_; intro g c w7 ho7 hg7 hf7)
        have HB7 := Lib.hid (below_trans' HB8.out (below_app HB.out hbs HO.out (Nat.le_refl _) hg7))
        have HS7 := Lib.hid (show RunesIn w7 (.slice (some ⟨g, 0, none⟩) (L.length + 1) c) (L ++ [u0]) by
          have h := rd_of_owns ho7
          unfold RunesIn Rs
          rw [List.length_append, List.flatMap_append]
          exact h)
        have HOk := Lib.hid (show RunesOk (L ++ [u0]) from fun x hx => by
          rcases List.mem_append.1 hx with h | h
          · exact HLk.out x h
          · have : x = u0 := by simpa using h
            rw [this]; exact HI0.out)
        have hlen : (L ++ [u0]).length ≤ 1000000 := by rw [List.length_append]; simp; omega
        clear ho7 hg7 hf7 HB HLk HO HUw HO0 HB0 hbs hLl d0
        generalize L ++ [u0] = l at HS7 HOk hlen
        go_wp2_with fail
        refine (HRows.out w7).mono ?_
        rintro e w8 ⟨v, rfl, hB1, hR1⟩
        have HB1 := Lib.hid (below_trans' HB7.out hB1)
        have HR1 := Lib.hid hR1
        have HS1 := Lib.hid (HS7.out.below hB1)
        clear hB1 hR1 HB7 HS7
        go_wp2_with fail
        refine (build_tb v R w8 HR1.out HF.out.ok).mono ?_
        rintro e w2 ⟨tp, rfl, hB2, hT⟩
        have HT2 := Lib.hid hT
        have HR2 := Lib.hid (HR1.out.below hB2)
        have HS2 := Lib.hid (HS1.out.below hB2)
        have HB2 := Lib.hid (below_trans' HB1.out hB2)
        clear hB2 hT HB1 HR1 HS1
        go_wp2_with fail
        refine (floor_any a HTk.out HT2.out HS2.out HOk.out hlen).mono ?_
        rintro e w3 ⟨rfl, hB3⟩
        have HR3 := Lib.hid (HR2.out.below hB3)
        have HS3 := Lib.hid (HS2.out.below hB3)
        have HB3 := Lib.hid (below_trans' HB2.out hB3)
        clear hB3 HT2 HR2 HS2 HB2
        go_wp2_with fail
        refine (lfloor_any a HR3.out HS3.out HOk.out hlen).mono ?_
        rintro e w4 ⟨rfl, hB4⟩
        have HB4 := Lib.hid (below_trans' HB3.out hB4)
        clear hB4 HR3 HS3 HB3
        go_wp2_with fail
        refine (fin11 HB4.out).mono ?_
        rintro e w9 ⟨rfl, hB9⟩
        go_wp2_with fail
        go_ret
        exact ⟨rfl, hB9⟩
  · have HU := Lib.hid (show ∃ U : List Int, RunesIn ((((((((w.alloc (.cells #[.int .i32 127462] 21)).alloc (.cells #[.int .i32 2325, .int .i32 2381] 21)).alloc (.cells #[.int .i32 128104, .int .i32 8205] 21)).alloc (.cells #[.int .i32 128104, .int .i32 127995] 21)).alloc (.cells #[.int .i32 4352] 21)).alloc (.cells #[.int .i32 1536] 21)).alloc (.cells #[.int .i32 769] 21)).alloc (.cells #[.slice (some ⟨w.heap.size, 0, none⟩) 1 1, .slice (some ⟨w.heap.size + 1, 0, none⟩) 2 2, .slice (some ⟨w.heap.size + 1 + 1, 0, none⟩) 2 2, .slice (some ⟨w.heap.size + 1 + 1 + 1, 0, none⟩) 2 2, .slice (some ⟨w.heap.size + 1 + 1 + 1 + 1, 0, none⟩) 1 1, .slice (some ⟨w.heap.size + 1 + 1 + 1 + 1 + 1, 0, none⟩) 1 1, .slice (some ⟨w.heap.size + 1 + 1 + 1 + 1 + 1 + 1, 0, none⟩) 1 1] 22)) (.slice (some ⟨w.heap.size + 1 + 1, 0, none⟩) 2 2) U ∧ RunesOk U ∧ U.length = 2 from ⟨_, HU2.out, fun x hx => by simp at hx; unfold I32; omega, rfl⟩)
    clear HU0 HU1 HU2 HU3 HU4 HU5 HU6
    go_enter Try.func4, Try.ntmps4
    go_upto_region 3 with fail
    generalize ((((((((w.alloc (.cells #[.int .i32 127462] 21)).alloc (.cells #[.int .i32 2325, .int .i32 2381] 21)).alloc (.cells #[.int .i32 128104, .int .i32 8205] 21)).alloc (.cells #[.int .i32 128104, .int .i32 127995] 21)).alloc (.cells #[.int .i32 4352] 21)).alloc (.cells #[.int .i32 1536] 21)).alloc (.cells #[.int .i32 769] 21)).alloc (.cells #[.slice (some ⟨w.heap.size, 0, none⟩) 1 1, .slice (some ⟨w.heap.size + 1, 0, none⟩) 2 2, .slice (some ⟨w.heap.size + 1 + 1, 0, none⟩) 2 2, .slice (some ⟨w.heap.size + 1 + 1 + 1, 0, none⟩) 2 2, .slice (some ⟨w.heap.size + 1 + 1 + 1 + 1, 0, none⟩) 1 1, .slice (some ⟨w.heap.size + 1 + 1 + 1 + 1 + 1, 0, none⟩) 1 1, .slice (some ⟨w.heap.size + 1 + 1 + 1 + 1 + 1 + 1, 0, none⟩) 1 1] 22)) = W at HU HB8 ⊢
    obtain ⟨U, hU, hUok, hUl⟩ := HU.out
    have HUr := Lib.hid hU
    have HUk := Lib.hid hUok
    clear HU hU hUok t1 t2 hm' e63
    have HO0 := Lib.hid (show (W.alloc (.cells #[.int .i32 97] 21)).ownsRow W.heap.size 21 1 (.slice (some ⟨W.heap.size, 0, none⟩) 1 1) 1 [.int .i32 97] from World.ownsRow_lit W #[.int .i32 97] 1 (Nat.le_refl _) (by unfold maxLen; omega) (by simp))
    have HB0 := Lib.hid (below1 W (.cells #[.int .i32 97] 21))
    go_wp2_with fail
    go_loopw [8, 9] (fun lv iv wr => ∃ (i : Nat) (L : List Int), i ≤ n ∧ iv = .int .i64 ((i : Nat) : Int) ∧ L.length ≤ 1 + 2 * i ∧ RunesOk L ∧ Below W.heap.size W wr ∧ wr.ownsRow W.heap.size 21 1 lv L.length (L.flatMap runeE)) (fun _ iv _ => n - (intOf iv).toNat)
    case atStart => exact ⟨0, [97], Nat.zero_le _, rfl, by simp, fun x hx => by simp at hx; unfold I32; omega, HB0.out, HO0.out⟩
    case round =>
      obtain ⟨i, L, hi, rfl, hLl, hLk, hB, hO⟩ := hrel
      have HB := Lib.hid hB
      have HLk := Lib.hid hLk
      have hbs := hB.size
      obtain ⟨pa, pc, rfl⟩ := slice_of_owns hO
      have HO := Lib.hid hO
      have HUw := Lib.hid (HUr.out.below HB.out)
      clear hB hO hLk
      by_cases hlt : i < n
      · have r0 : (i : Int) < (n : Int) := by omega
        have HNew := Lib.hid (runes_add HUw.out)
        have HFl := Lib.hid (show (U.flatMap runeE).length = 2 * 1 by rw [flat_len runeE_len, hUl])
        have HOn := Lib.hid (runeE_one U)
        go_wp2_with (at_builtin; refine wpList_app2 _ rfl (.tmp 33) (.tmp 34) _ rfl ER _ _ _ rfl HO.out _ 2 2 (U.flatMap runeE) rfl (by decide) HFl.out HNew.out HOn.out (by omega) hbs ?_; intro g c w7 ho7 hg7 hf7)
        have HB7 := Lib.hid (below_app HB.out hbs HO.out (Nat.le_refl _) hg7)
        have HO7 := Lib.hid ho7
        clear ho7 hg7 hf7
        go_wp2_with fail
        go_roundw
        case rel => exact ⟨i + 1, L ++ U, by omega, by go_num, by rw [List.length_append]; omega, fun x hx => by
                      rcases List.mem_append.1 hx with h | h
                      · exact HLk.out x h
                      · exact HUk.out x h, HB7.out, by
                      have ho := HO7.out
                      rw [List.length_append, List.flatMap_append, hUl]; exact ho⟩
        case measure => simp [intOf] <;> omega
      · have r0 : decide ((i : Int) < (n : Int)) = false := by rw [decide_eq_false_iff_not]; omega
        obtain ⟨u0, hu0⟩ : ∃ u0, U[0]? = some u0 := ⟨U[0]'(by omega), List.getElem?_eq_getElem (by omega)⟩
        obtain ⟨b', off', cap', hv, _, _, _, _, d0⟩ := rune_cell HUw.out hu0
        injection hv with e1 e2 e3
        cases e1
        clear e2 e3
        have HI0 := Lib.hid (HUk.out.get hu0)
        clear hu0
        go_wp2_with (at_builtin; refine wpList_app1 _ rfl (.tmp 36) (.tmp 40) _ rfl ER _ _ _ rfl HO.out 1 1 [.int .i32 u0] rfl (by decide) rfl (by intro u hu; simp at hu; subst hu; rfl) (by omega) hbs ?_; intro g c w7 ho7 hg7 hf7)
        have HB7 := Lib.hid (below_trans' HB8.out (below_app HB.out hbs HO.out (Nat.le_refl _) hg7))
        have HS7 := Lib.hid (show RunesIn w7 (.slice (some ⟨g, 0, none⟩) (L.length + 1) c) (L ++ [u0]) by
          have h := rd_of_owns ho7
          unfold RunesIn Rs
          rw [List.length_append, List.flatMap_append]
          exact h)
        have HOk := Lib.hid (show RunesOk (L ++ [u0]) from fun x hx => by
          rcases List.mem_append.1 hx with h | h
          · exact HLk.out x h
          · have : x = u0 := by simpa using h
            rw [this]; exact HI0.out)
        have hlen : (L ++ [u0]).length ≤ 1000000 := by rw [List.length_append]; simp; omega
        clear ho7 hg7 hf7 HB HLk HO HUw HO0 HB0 hbs hLl d0
        generalize L ++ [u0] = l at HS7 HOk hlen
        go_wp2_with fail
        refine (HRows.out w7).mono ?_
        rintro e w8 ⟨v, rfl, hB1, hR1⟩
        have HB1 := Lib.hid (below_trans' HB7.out hB1)
        have HR1 := Lib.hid hR1
        have HS1 := Lib.hid (HS7.out.below hB1)
        clear hB1 hR1 HB7 HS7
        go_wp2_with fail
        refine (build_tb v R w8 HR1.out HF.out.ok).mono ?_
        rintro e w2 ⟨tp, rfl, hB2, hT⟩
        have HT2 := Lib.hid hT
        have HR2 := Lib.hid (HR1.out.below hB2)
        have HS2 := Lib.hid (HS1.out.below hB2)
        have HB2 := Lib.hid (below_trans' HB1.out hB2)
        clear hB2 hT HB1 HR1 HS1
        go_wp2_with fail
        refine (floor_any a HTk.out HT2.out HS2.out HOk.out hlen).mono ?_
        rintro e w3 ⟨rfl, hB3⟩
        have HR3 := Lib.hid (HR2.out.below hB3)
        have HS3 := Lib.hid (HS2.out.below hB3)
        have HB3 := Lib.hid (below_trans' HB2.out hB3)
        clear hB3 HT2 HR2 HS2 HB2
        go_wp2_with fail
        refine (lfloor_any a HR3.out HS3.out HOk.out hlen).mono ?_
        rintro e w4 ⟨rfl, hB4⟩
        have HB4 := Lib.hid (below_trans' HB3.out hB4)
        clear hB4 HR3 HS3 HB3
        go_wp2_with fail
        refine (fin11 HB4.out).mono ?_
        rintro e w9 ⟨rfl, hB9⟩
        go_wp2_with fail
        go_ret
        exact ⟨rfl, hB9⟩
  · have HU := Lib.hid (show ∃ U : List Int, RunesIn ((((((((w.alloc (.cells #[.int .i32 127462] 21)).alloc (.cells #[.int .i32 2325, .int .i32 2381] 21)).alloc (.cells #[.int .i32 128104, .int .i32 8205] 21)).alloc (.cells #[.int .i32 128104, .int .i32 127995] 21)).alloc (.cells #[.int .i32 4352] 21)).alloc (.cells #[.int .i32 1536] 21)).alloc (.cells #[.int .i32 769] 21)).alloc (.cells #[.slice (some ⟨w.heap.size, 0, none⟩) 1 1, .slice (some ⟨w.heap.size + 1, 0, none⟩) 2 2, .slice (some ⟨w.heap.size + 1 + 1, 0, none⟩) 2 2, .slice (some ⟨w.heap.size + 1 + 1 + 1, 0, none⟩) 2 2, .slice (some ⟨w.heap.size + 1 + 1 + 1 + 1, 0, none⟩) 1 1, .slice (some ⟨w.heap.size + 1 + 1 + 1 + 1 + 1, 0, none⟩) 1 1, .slice (some ⟨w.heap.size + 1 + 1 + 1 + 1 + 1 + 1, 0, none⟩) 1 1] 22)) (.slice (some ⟨w.heap.size + 1 + 1 + 1, 0, none⟩) 2 2) U ∧ RunesOk U ∧ U.length = 2 from ⟨_, HU3.out, fun x hx => by simp at hx; unfold I32; omega, rfl⟩)
    clear HU0 HU1 HU2 HU3 HU4 HU5 HU6
    go_enter Try.func4, Try.ntmps4
    go_upto_region 3 with fail
    generalize ((((((((w.alloc (.cells #[.int .i32 127462] 21)).alloc (.cells #[.int .i32 2325, .int .i32 2381] 21)).alloc (.cells #[.int .i32 128104, .int .i32 8205] 21)).alloc (.cells #[.int .i32 128104, .int .i32 127995] 21)).alloc (.cells #[.int .i32 4352] 21)).alloc (.cells #[.int .i32 1536] 21)).alloc (.cells #[.int .i32 769] 21)).alloc (.cells #[.slice (some ⟨w.heap.size, 0, none⟩) 1 1, .slice (some ⟨w.heap.size + 1, 0, none⟩) 2 2, .slice (some ⟨w.heap.size + 1 + 1, 0, none⟩) 2 2, .slice (some ⟨w.heap.size + 1 + 1 + 1, 0, none⟩) 2 2, .slice (some ⟨w.heap.size + 1 + 1 + 1 + 1, 0, none⟩) 1 1, .slice (some ⟨w.heap.size + 1 + 1 + 1 + 1 + 1, 0, none⟩) 1 1, .slice (some ⟨w.heap.size + 1 + 1 + 1 + 1 + 1 + 1, 0, none⟩) 1 1] 22)) = W at HU HB8 ⊢
    obtain ⟨U, hU, hUok, hUl⟩ := HU.out
    have HUr := Lib.hid hU
    have HUk := Lib.hid hUok
    clear HU hU hUok t1 t2 hm' e63
    have HO0 := Lib.hid (show (W.alloc (.cells #[.int .i32 97] 21)).ownsRow W.heap.size 21 1 (.slice (some ⟨W.heap.size, 0, none⟩) 1 1) 1 [.int .i32 97] from World.ownsRow_lit W #[.int .i32 97] 1 (Nat.le_refl _) (by unfold maxLen; omega) (by simp))
    have HB0 := Lib.hid (below1 W (.cells #[.int .i32 97] 21))
    go_wp2_with fail
    go_loopw [8, 9] (fun lv iv wr => ∃ (i : Nat) (L : List Int), i ≤ n ∧ iv = .int .i64 ((i : Nat) : Int) ∧ L.length ≤ 1 + 2 * i ∧ RunesOk L ∧ Below W.heap.size W wr ∧ wr.ownsRow W.heap.size 21 1 lv L.length (L.flatMap runeE)) (fun _ iv _ => n - (intOf iv).toNat)
    case atStart => exact ⟨0, [97], Nat.zero_le _, rfl, by simp, fun x hx => by simp at hx; unfold I32; omega, HB0.out, HO0.out⟩
    case round =>
      obtain ⟨i, L, hi, rfl, hLl, hLk, hB, hO⟩ := hrel
      have HB := Lib.hid hB
      have HLk := Lib.hid hLk
      have hbs := hB.size
      obtain ⟨pa, pc, rfl⟩ := slice_of_owns hO
      have HO := Lib.hid hO
      have HUw := Lib.hid (HUr.out.below HB.out)
      clear hB hO hLk
      by_cases hlt : i < n
      · have r0 : (i : Int) < (n : Int) := by omega
        have HNew := Lib.hid (runes_add HUw.out)
        have HFl := Lib.hid (show (U.flatMap runeE).length = 2 * 1 by rw [flat_len runeE_len, hUl])
        have HOn := Lib.hid (runeE_one U)
        go_wp2_with (at_builtin; refine wpList_app2 _ rfl (.tmp 33) (.tmp 34) _ rfl ER _ _ _ rfl HO.out _ 2 2 (U.flatMap runeE) rfl (by decide) HFl.out HNew.out HOn.out (by omega) hbs ?_; intro g c w7 ho7 hg7 hf7)
        have HB7 := Lib.hid (below_app HB.out hbs HO.out (Nat.le_refl _) hg7)
        have HO7 := Lib.hid ho7
        clear ho7 hg7 hf7
        go_wp2_with fail
        go_roundw
        case rel => exact ⟨i + 1, L ++ U, by omega, by go_num, by rw [List.length_append]; omega, fun x hx => by
                      rcases List.mem_append.1 hx with h | h
                      · exact HLk.out x h
                      · exact HUk.out x h, HB7.out, by
                      have ho := HO7.out
                      rw [List.length_append, List.flatMap_append, hUl]; exact ho⟩
        case measure => simp [intOf] <;> omega
      · have r0 : decide ((i : Int) < (n : Int)) = false := by rw [decide_eq_false_iff_not]; omega
        obtain ⟨u0, hu0⟩ : ∃ u0, U[0]? = some u0 := ⟨U[0]'(by omega), List.getElem?_eq_getElem (by omega)⟩
        obtain ⟨b', off', cap', hv, _, _, _, _, d0⟩ := rune_cell HUw.out hu0
        injection hv with e1 e2 e3
        cases e1
        clear e2 e3
        have HI0 := Lib.hid (HUk.out.get hu0)
        clear hu0
        go_wp2_with (at_builtin; refine wpList_app1 _ rfl (.tmp 36) (.tmp 40) _ rfl ER _ _ _ rfl HO.out 1 1 [.int .i32 u0] rfl (by decide) rfl (by intro u hu; simp at hu; subst hu; rfl) (by omega) hbs ?_; intro g c w7 ho7 hg7 hf7)
        have HB7 := Lib.hid (below_trans' HB8.out (below_app HB.out hbs HO.out (Nat.le_refl _) hg7))
        have HS7 := Lib.hid (show RunesIn w7 (.slice (some ⟨g, 0, none⟩) (L.length + 1) c) (L ++ [u0]) by
          have h := rd_of_owns ho7
          unfold RunesIn Rs
          rw [List.length_append, List.flatMap_append]
          exact h)
        have HOk := Lib.hid (show RunesOk (L ++ [u0]) from fun x hx => by
          rcases List.mem_append.1 hx with h | h
          · exact HLk.out x h
          · have : x = u0 := by simpa using h
            rw [this]; exact HI0.out)
        have hlen : (L ++ [u0]).length ≤ 1000000 := by rw [List.length_append]; simp; omega
        clear ho7 hg7 hf7 HB HLk HO HUw HO0 HB0 hbs hLl d0
        generalize L ++ [u0] = l at HS7 HOk hlen
        go_wp2_with fail
        refine (HRows.out w7).mono ?_
        rintro e w8 ⟨v, rfl, hB1, hR1⟩
        have HB1 := Lib.hid (below_trans' HB7.out hB1)
        have HR1 := Lib.hid hR1
        have HS1 := Lib.hid (HS7.out.below hB1)
        clear hB1 hR1 HB7 HS7
        go_wp2_with fail
        refine (build_tb v R w8 HR1.out HF.out.ok).mono ?_
        rintro e w2 ⟨tp, rfl, hB2, hT⟩
        have HT2 := Lib.hid hT
        have HR2 := Lib.hid (HR1.out.below hB2)
        have HS2 := Lib.hid (HS1.out.below hB2)
        have HB2 := Lib.hid (below_trans' HB1.out hB2)
        clear hB2 hT HB1 HR1 HS1
        go_wp2_with fail
        refine (floor_any a HTk.out HT2.out HS2.out HOk.out hlen).mono ?_
        rintro e w3 ⟨rfl, hB3⟩
        have HR3 := Lib.hid (HR2.out.below hB3)
        have HS3 := Lib.hid (HS2.out.below hB3)
        have HB3 := Lib.hid (below_trans' HB2.out hB3)
        clear hB3 HT2 HR2 HS2 HB2
        go_wp2_with fail
        refine (lfloor_any a HR3.out HS3.out HOk.out hlen).mono ?_
        rintro e w4 ⟨rfl, hB4⟩
        have HB4 := Lib.hid (below_trans' HB3.out hB4)
        clear hB4 HR3 HS3 HB3
        go_wp2_with fail
        refine (fin11 HB4.out).mono ?_
        rintro e w9 ⟨rfl, hB9⟩
        go_wp2_with fail
        go_ret
        exact ⟨rfl, hB9⟩
  · have HU := Lib.hid (show ∃ U : List Int, RunesIn ((((((((w.alloc (.cells #[.int .i32 127462] 21)).alloc (.cells #[.int .i32 2325, .int .i32 2381] 21)).alloc (.cells #[.int .i32 128104, .int .i32 8205] 21)).alloc (.cells #[.int .i32 128104, .int .i32 127995] 21)).alloc (.cells #[.int .i32 4352] 21)).alloc (.cells #[.int .i32 1536] 21)).alloc (.cells #[.int .i32 769] 21)).alloc (.cells #[.slice (some ⟨w.heap.size, 0, none⟩) 1 1, .slice (some ⟨w.heap.size + 1, 0, none⟩) 2 2, .slice (some ⟨w.heap.size + 1 + 1, 0, none⟩) 2 2, .slice (some ⟨w.heap.size + 1 + 1 + 1, 0, none⟩) 2 2, .slice (some ⟨w.heap.size + 1 + 1 + 1 + 1, 0, none⟩) 1 1, .slice (some ⟨w.heap.size + 1 + 1 + 1 + 1 + 1, 0, none⟩) 1 1, .slice (some ⟨w.heap.size + 1 + 1 + 1 + 1 + 1 + 1, 0, none⟩) 1 1] 22)) (.slice (some ⟨w.heap.size + 1 + 1 + 1 + 1, 0, none⟩) 1 1) U ∧ RunesOk U ∧ U.length = 1 from ⟨_, HU4.out, fun x hx => by simp at hx; unfold I32; omega, rfl⟩)
    clear HU0 HU1 HU2 HU3 HU4 HU5 HU6
    go_enter Try.func4, Try.ntmps4
    go_upto_region 3 with fail
    generalize ((((((((w.alloc (.cells #[.int .i32 127462] 21)).alloc (.cells #[.int .i32 2325, .int .i32 2381] 21)).alloc (.cells #[.int .i32 128104, .int .i32 8205] 21)).alloc (.cells #[.int .i32 128104, .int .i32 127995] 21)).alloc (.cells #[.int .i32 4352] 21)).alloc (.cells #[.int .i32 1536] 21)).alloc (.cells #[.int .i32 769] 21)).alloc (.cells #[.slice (some ⟨w.heap.size, 0, none⟩) 1 1, .slice (some ⟨w.heap.size + 1, 0, none⟩) 2 2, .slice (some ⟨w.heap.size + 1 + 1, 0, none⟩) 2 2, .slice (some ⟨w.heap.size + 1 + 1 + 1, 0, none⟩) 2 2, .slice (some ⟨w.heap.size + 1 + 1 + 1 + 1, 0, none⟩) 1 1, .slice (some ⟨w.heap.size + 1 + 1 + 1 + 1 + 1, 0, none⟩) 1 1, .slice (some ⟨w.heap.size + 1 + 1 + 1 + 1 + 1 + 1, 0, none⟩) 1 1] 22)) = W at HU HB8 ⊢
    obtain ⟨U, hU, hUok, hUl⟩ := HU.out
    have HUr := Lib.hid hU
    have HUk := Lib.hid hUok
    clear HU hU hUok t1 t2 hm' e63
    have HO0 := Lib.hid (show (W.alloc (.cells #[.int .i32 97] 21)).ownsRow W.heap.size 21 1 (.slice (some ⟨W.heap.size, 0, none⟩) 1 1) 1 [.int .i32 97] from World.ownsRow_lit W #[.int .i32 97] 1 (Nat.le_refl _) (by unfold maxLen; omega) (by simp))
    have HB0 := Lib.hid (below1 W (.cells #[.int .i32 97] 21))
    go_wp2_with fail
    go_loopw [8, 9] (fun lv iv wr => ∃ (i : Nat) (L : List Int), i ≤ n ∧ iv = .int .i64 ((i : Nat) : Int) ∧ L.length ≤ 1 + 2 * i ∧ RunesOk L ∧ Below W.heap.size W wr ∧ wr.ownsRow W.heap.size 21 1 lv L.length (L.flatMap runeE)) (fun _ iv _ => n - (intOf iv).toNat)
    case atStart => exact ⟨0, [97], Nat.zero_le _, rfl, by simp, fun x hx => by simp at hx; unfold I32; omega, HB0.out, HO0.out⟩
    case round =>
      obtain ⟨i, L, hi, rfl, hLl, hLk, hB, hO⟩ := hrel
      have HB := Lib.hid hB
      have HLk := Lib.hid hLk
      have hbs := hB.size
      obtain ⟨pa, pc, rfl⟩ := slice_of_owns hO
      have HO := Lib.hid hO
      have HUw := Lib.hid (HUr.out.below HB.out)
      clear hB hO hLk
      by_cases hlt : i < n
      · have r0 : (i : Int) < (n : Int) := by omega
        have HNew := Lib.hid (runes_add HUw.out)
        have HFl := Lib.hid (show (U.flatMap runeE).length = 1 * 1 by rw [flat_len runeE_len, hUl])
        have HOn := Lib.hid (runeE_one U)
        go_wp2_with (at_builtin; refine wpList_app2 _ rfl (.tmp 33) (.tmp 34) _ rfl ER _ _ _ rfl HO.out _ 1 1 (U.flatMap runeE) rfl (by decide) HFl.out HNew.out HOn.out (by omega) hbs ?_; intro g c w7 ho7 hg7 hf7)
        have HB7 := Lib.hid (below_app HB.out hbs HO.out (Nat.le_refl _) hg7)
        have HO7 := Lib.hid ho7
        clear ho7 hg7 hf7
        go_wp2_with fail
        go_roundw
        case rel => exact ⟨i + 1, L ++ U, by omega, by go_num, by rw [List.length_append]; omega, fun x hx => by
                      rcases List.mem_append.1 hx with h | h
                      · exact HLk.out x h
                      · exact HUk.out x h, HB7.out, by
                      have ho := HO7.out
                      rw [List.length_append, List.flatMap_append, hUl]; exact ho⟩
        case measure => simp [intOf] <;> omega
      · have r0 : decide ((i : Int) < (n : Int)) = false := by rw [decide_eq_false_iff_not]; omega
        obtain ⟨u0, hu0⟩ : ∃ u0, U[0]? = some u0 := ⟨U[0]'(by omega), List.getElem?_eq_getElem (by omega)⟩
        obtain ⟨b', off', cap', hv, _, _, _, _, d0⟩ := rune_cell HUw.out hu0
        injection hv with e1 e2 e3
        cases e1
        clear e2 e3
        have HI0 := Lib.hid (HUk.out.get hu0)
        clear hu0
        go_wp2_with (at_builtin; refine wpList_app1 _ rfl (.tmp 36) (.tmp 40) _ rfl ER _ _ _ rfl HO.out 1 1 [.int .i32 u0] rfl (by decide) rfl (by intro u hu; simp at hu; subst hu; rfl) (by omega) hbs ?_; intro g c w7 ho7 hg7 hf7)
        have HB7 := Lib.hid (below_trans' HB8.out (below_app HB.out hbs HO.out (Nat.le_refl _) hg7))
        have HS7 := Lib.hid (show RunesIn w7 (.slice (some ⟨g, 0, none⟩) (L.length + 1) c) (L ++ [u0]) by
          have h := rd_of_owns ho7
          unfold RunesIn Rs
          rw [List.length_append, List.flatMap_append]
          exact h)
        have HOk := Lib.hid (show RunesOk (L ++ [u0]) from fun x hx => by
          rcases List.mem_append.1 hx with h | h
          · exact HLk.out x h
          · have : x = u0 := by simpa using h
            rw [this]; exact HI0.out)
        have hlen : (L ++ [u0]).length ≤ 1000000 := by rw [List.length_append]; simp; omega
        clear ho7 hg7 hf7 HB HLk HO HUw HO0 HB0 hbs hLl d0
        generalize L ++ [u0] = l at HS7 HOk hlen
        go_wp2_with fail
        refine (HRows.out w7).mono ?_
        rintro e w8 ⟨v, rfl, hB1, hR1⟩
        have HB1 := Lib.hid (below_trans' HB7.out hB1)
        have HR1 := Lib.hid hR1
        have HS1 := Lib.hid (HS7.out.below hB1)
        clear hB1 hR1 HB7 HS7
        go_wp2_with fail
        refine (build_tb v R w8 HR1.out HF.out.ok).mono ?_
        rintro e w2 ⟨tp, rfl, hB2, hT⟩
        have HT2 := Lib.hid hT
        have HR2 := Lib.hid (HR1.out.below hB2)
        have HS2 := Lib.hid (HS1.out.below hB2)
        have HB2 := Lib.hid (below_trans' HB1.out hB2)
        clear hB2 hT HB1 HR1 HS1
        go_wp2_with fail
        refine (floor_any a HTk.out HT2.out HS2.out HOk.out hlen).mono ?_
        rintro e w3 ⟨rfl, hB3⟩
        have HR3 := Lib.hid (HR2.out.below hB3)
        have HS3 := Lib.hid (HS2.out.below hB3)
        have HB3 := Lib.hid (below_trans' HB2.out hB3)
        clear hB3 HT2 HR2 HS2 HB2
        go_wp2_with fail
        refine (lfloor_any a HR3.out HS3.out HOk.out hlen).mono ?_
        rintro e w4 ⟨rfl, hB4⟩
        have HB4 := Lib.hid (below_trans' HB3.out hB4)
        clear hB4 HR3 HS3 HB3
        go_wp2_with fail
        refine (fin11 HB4.out).mono ?_
        rintro e w9 ⟨rfl, hB9⟩
        go_wp2_with fail
        go_ret
        exact ⟨rfl, hB9⟩
  · have HU := Lib.hid (show ∃ U : List Int, RunesIn ((((((((w.alloc (.cells #[.int .i32 127462] 21)).alloc (.cells #[.int .i32 2325, .int .i32 2381] 21)).alloc (.cells #[.int .i32 128104, .int .i32 8205] 21)).alloc (.cells #[.int .i32 128104, .int .i32 127995] 21)).alloc (.cells #[.int .i32 4352] 21)).alloc (.cells #[.int .i32 1536] 21)).alloc (.cells #[.int .i32 769] 21)).alloc (.cells #[.slice (some ⟨w.heap.size, 0, none⟩) 1 1, .slice (some ⟨w.heap.size + 1, 0, none⟩) 2 2, .slice (some ⟨w.heap.size + 1 + 1, 0, none⟩) 2 2, .slice (some ⟨w.heap.size + 1 + 1 + 1, 0, none⟩) 2 2, .slice (some ⟨w.heap.size + 1 + 1 + 1 + 1, 0, none⟩) 1 1, .slice (some ⟨w.heap.size + 1 + 1 + 1 + 1 + 1, 0, none⟩) 1 1, .slice (some ⟨w.heap.size + 1 + 1 + 1 + 1 + 1 + 1, 0, none⟩) 1 1] 22)) (.slice (some ⟨w.heap.size + 1 + 1 + 1 + 1 + 1, 0, none⟩) 1 1) U ∧ RunesOk U ∧ U.length = 1 from ⟨_, HU5.out, fun x hx => by simp at hx; unfold I32; omega, rfl⟩)
    clear HU0 HU1 HU2 HU3 HU4 HU5 HU6
    go_enter Try.func4, Try.ntmps4
    go_upto_region 3 with fail
    generalize ((((((((w.alloc (.cells #[.int .i32 127462] 21)).alloc (.cells #[.int .i32 2325, .int .i32 2381] 21)).alloc (.cells #[.int .i32 128104, .int .i32 8205] 21)).alloc (.cells #[.int .i32 128104, .int .i32 127995] 21)).alloc (.cells #[.int .i32 4352] 21)).alloc (.cells #[.int .i32 1536] 21)).alloc (.cells #[.int .i32 769] 21)).alloc (.cells #[.slice (some ⟨w.heap.size, 0, none⟩) 1 1, .slice (some ⟨w.heap.size + 1, 0, none⟩) 2 2, .slice (some ⟨w.heap.size + 1 + 1, 0, none⟩) 2 2, .slice (some ⟨w.heap.size + 1 + 1 + 1, 0, none⟩) 2 2, .slice (some ⟨w.heap.size + 1 + 1 + 1 + 1, 0, none⟩) 1 1, .slice (some ⟨w.heap.size + 1 + 1 + 1 + 1 + 1, 0, none⟩) 1 1, .slice (some ⟨w.heap.size + 1 + 1 + 1 + 1 + 1 + 1, 0, none⟩) 1 1] 22)) = W at HU HB8 ⊢
    obtain ⟨U, hU, hUok, hUl⟩ := HU.out
    have HUr := Lib.hid hU
    have HUk := Lib.hid hUok
    clear HU hU hUok t1 t2 hm' e63
    have HO0 := Lib.hid (show (W.alloc (.cells #[.int .i32 97] 21)).ownsRow W.heap.size 21 1 (.slice (some ⟨W.heap.size, 0, none⟩) 1 1) 1 [.int .i32 97] from World.ownsRow_lit W #[.int .i32 97] 1 (Nat.le_refl _) (by unfold maxLen; omega) (by simp))
    have HB0 := Lib.hid (below1 W (.cells #[.int .i32 97] 21))
    go_wp2_with fail
    go_loopw [8, 9] (fun lv iv wr => ∃ (i : Nat) (L : List Int), i ≤ n ∧ iv = .int .i64 ((i : Nat) : Int) ∧ L.length ≤ 1 + 2 * i ∧ RunesOk L ∧ Below W.heap.size W wr ∧ wr.ownsRow W.heap.size 21 1 lv L.length (L.flatMap runeE)) (fun _ iv _ => n - (intOf iv).toNat)
    case atStart => exact ⟨0, [97], Nat.zero_le _, rfl, by simp, fun x hx => by simp at hx; unfold I32; omega, HB0.out, HO0.out⟩
    case round =>
      obtain ⟨i, L, hi, rfl, hLl, hLk, hB, hO⟩ := hrel
      have HB := Lib.hid hB
      have HLk := Lib.hid hLk
      have hbs := hB.size
      obtain ⟨pa, pc, rfl⟩ := slice_of_owns hO
      have HO := Lib.hid hO
      have HUw := Lib.hid (HUr.out.below HB.out)
      clear hB hO hLk
      by_cases hlt : i < n
      · have r0 : (i : Int) < (n : Int) := by omega
        have HNew := Lib.hid (runes_add HUw.out)
        have HFl := Lib.hid (show (U.flatMap runeE).length = 1 * 1 by rw [flat_len runeE_len, hUl])
        have HOn := Lib.hid (runeE_one U)
        go_wp2_with (at_builtin; refine wpList_app2 _ rfl (.tmp 33) (.tmp 34) _ rfl ER _ _ _ rfl HO.out _ 1 1 (U.flatMap runeE) rfl (by decide) HFl.out HNew.out HOn.out (by omega) hbs ?_; intro g c w7 ho7 hg7 hf7)
        have HB7 := Lib.hid (below_app HB.out hbs HO.out (Nat.le_refl _) hg7)
        have HO7 := Lib.hid ho7
        clear ho7 hg7 hf7
        go_wp2_with fail
        go_roundw
        case rel => exact ⟨i + 1, L ++ U, by omega, by go_num, by rw [List.length_append]; omega, fun x hx => by
                      rcases List.mem_append.1 hx with h | h
                      · exact HLk.out x h
                      · exact HUk.out x h, HB7.out, by
                      have ho := HO7.out
                      rw [List.length_append, List.flatMap_append, hUl]; exact ho⟩
        case measure => simp [intOf] <;> omega
      · have r0 : decide ((i : Int) < (n : Int)) = false := by rw [decide_eq_false_iff_not]; omega
        obtain ⟨u0, hu0⟩ : ∃ u0, U[0]? = some u0 := ⟨U[0]'(by omega), List.getElem?_eq_getElem (by omega)⟩
        obtain ⟨b', off', cap', hv, _, _, _, _, d0⟩ := rune_cell HUw.out hu0
        injection hv with e1 e2 e3
        cases e1
        clear e2 e3
        have HI0 := Lib.hid (HUk.out.get hu0)
        clear hu0
        go_wp2_with (at_builtin; refine wpList_app1 _ rfl (.tmp 36) (.tmp 40) _ rfl ER _ _ _ rfl HO.out 1 1 [.int .i32 u0] rfl (by decide) rfl (by intro u hu; simp at hu; subst hu; rfl) (by omega) hbs ?_; intro g c w7 ho7 hg7 hf7)
        have HB7 := Lib.hid (below_trans' HB8.out (below_app HB.out hbs HO.out (Nat.le_refl _) hg7))
        have HS7 := Lib.hid (show RunesIn w7 (.slice (some ⟨g, 0, none⟩) (L.length + 1) c) (L ++ [u0]) by
          have h := rd_of_owns ho7
          unfold RunesIn Rs
          rw [List.length_append, List.flatMap_append]
          exact h)
        have HOk := Lib.hid (show RunesOk (L ++ [u0]) from fun x hx => by
          rcases List.mem_append.1 hx with h | h
          · exact HLk.out x h
          · have : x = u0 := by simpa using h
            rw [this]; exact HI0.out)
        have hlen : (L ++ [u0]).length ≤ 1000000 := by rw [List.length_append]; simp; omega
        clear ho7 hg7 hf7 HB HLk HO HUw HO0 HB0 hbs hLl d0
        generalize L ++ [u0] = l at HS7 HOk hlen
        go_wp2_with fail
        refine (HRows.out w7).mono ?_
        rintro e w8 ⟨v, rfl, hB1, hR1⟩
        have HB1 := Lib.hid (below_trans' HB7.out hB1)
        have HR1 := Lib.hid hR1
        have HS1 := Lib.hid (HS7.out.below hB1)
        clear hB1 hR1 HB7 HS7
        go_wp2_with fail
        refine (build_tb v R w8 HR1.out HF.out.ok).mono ?_
        rintro e w2 ⟨tp, rfl, hB2, hT⟩
        have HT2 := Lib.hid hT
        have HR2 := Lib.hid (HR1.out.below hB2)
        have HS2 := Lib.hid (HS1.out.below hB2)
        have HB2 := Lib.hid (below_trans' HB1.out hB2)
        clear hB2 hT HB1 HR1 HS1
        go_wp2_with fail
        refine (floor_any a HTk.out HT2.out HS2.out HOk.out hlen).mono ?_
        rintro e w3 ⟨rfl, hB3⟩
        have HR3 := Lib.hid (HR2.out.below hB3)
        have HS3 := Lib.hid (HS2.out.below hB3)
        have HB3 := Lib.hid (below_trans' HB2.out hB3)
        clear hB3 HT2 HR2 HS2 HB2
        go_wp2_with fail
        refine (lfloor_any a HR3.out HS3.out HOk.out hlen).mono ?_
        rintro e w4 ⟨rfl, hB4⟩
        have HB4 := Lib.hid (below_trans' HB3.out hB4)
        clear hB4 HR3 HS3 HB3
        go_wp2_with fail
        refine (fin11 HB4.out).mono ?_
        rintro e w9 ⟨rfl, hB9⟩
        go_wp2_with fail
        go_ret
        exact ⟨rfl, hB9⟩
  · have HU := Lib.hid (show ∃ U : List Int, RunesIn ((((((((w.alloc (.cells #[.int .i32 127462] 21)).alloc (.cells #[.int .i32 2325, .int .i32 2381] 21)).alloc (.cells #[.int .i32 128104, .int .i32 8205] 21)).alloc (.cells #[.int .i32 128104, .int .i32 127995] 21)).alloc (.cells #[.int .i32 4352] 21)).alloc (.cells #[.int .i32 1536] 21)).alloc (.cells #[.int .i32 769] 21)).alloc (.cells #[.slice (some ⟨w.heap.size, 0, none⟩) 1 1, .slice (some ⟨w.heap.size + 1, 0, none⟩) 2 2, .slice (some ⟨w.heap.size + 1 + 1, 0, none⟩) 2 2, .slice (some ⟨w.heap.size + 1 + 1 + 1, 0, none⟩) 2 2, .slice (some ⟨w.heap.size + 1 + 1 + 1 + 1, 0, none⟩) 1 1, .slice (some ⟨w.heap.size + 1 + 1 + 1 + 1 + 1, 0, none⟩) 1 1, .slice (some ⟨w.heap.size + 1 + 1 + 1 + 1 + 1 + 1, 0, none⟩) 1 1] 22)) (.slice (some ⟨w.heap.size + 1 + 1 + 1 + 1 + 1 + 1, 0, none⟩) 1 1) U ∧ RunesOk U ∧ U.length = 1 from ⟨_, HU6.out, fun x hx => by simp at hx; unfold I32; omega, rfl⟩)
    clear HU0 HU1 HU2 HU3 HU4 HU5 HU6
    go_enter Try.func4, Try.ntmps4
    go_upto_region 3 with fail
    generalize ((((((((w.alloc (.cells #[.int .i32 127462] 21)).alloc (.cells #[.int .i32 2325, .int .i32 2381] 21)).alloc (.cells #[.int .i32 128104, .int .i32 8205] 21)).alloc (.cells #[.int .i32 128104, .int .i32 127995] 21)).alloc (.cells #[.int .i32 4352] 21)).alloc (.cells #[.int .i32 1536] 21)).alloc (.cells #[.int .i32 769] 21)).alloc (.cells #[.slice (some ⟨w.heap.size, 0, none⟩) 1 1, .slice (some ⟨w.heap.size + 1, 0, none⟩) 2 2, .slice (some ⟨w.heap.size + 1 + 1, 0, none⟩) 2 2, .slice (some ⟨w.heap.size + 1 + 1 + 1, 0, none⟩) 2 2, .slice (some ⟨w.heap.size + 1 + 1 + 1 + 1, 0, none⟩) 1 1, .slice (some ⟨w.heap.size + 1 + 1 + 1 + 1 + 1, 0, none⟩) 1 1, .slice (some ⟨w.heap.size + 1 + 1 + 1 + 1 + 1 + 1, 0, none⟩) 1 1] 22)) = W at HU HB8 ⊢
    obtain ⟨U, hU, hUok, hUl⟩ := HU.out
    have HUr := Lib.hid hU
    have HUk := Lib.hid hUok
    clear HU hU hUok t1 t2 hm' e63
    have HO0 := Lib.hid (show (W.alloc (.cells #[.int .i32 97] 21)).ownsRow W.heap.size 21 1 (.slice (some ⟨W.heap.size, 0, none⟩) 1 1) 1 [.int .i32 97] from World.ownsRow_lit W #[.int .i32 97] 1 (Nat.le_refl _) (by unfold maxLen; omega) (by simp))
    have HB0 := Lib.hid (below1 W (.cells #[.int .i32 97] 21))
    go_wp2_with fail
    go_loopw [8, 9] (fun lv iv wr => ∃ (i : Nat) (L : List Int), i ≤ n ∧ iv = .int .i64 ((i : Nat) : Int) ∧ L.length ≤ 1 + 2 * i ∧ RunesOk L ∧ Below W.heap.size W wr ∧ wr.ownsRow W.heap.size 21 1 lv L.length (L.flatMap runeE)) (fun _ iv _ => n - (intOf iv).toNat)
    case atStart => exact ⟨0, [97], Nat.zero_le _, rfl, by simp, fun x hx => by simp at hx; unfold I32; omega, HB0.out, HO0.out⟩
    case round =>
      obtain ⟨i, L, hi, rfl, hLl, hLk, hB, hO⟩ := hrel
      have HB := Lib.hid hB
      have HLk := Lib.hid hLk
      have hbs := hB.size
      obtain ⟨pa, pc, rfl⟩ := slice_of_owns hO
      have HO := Lib.hid hO
      have HUw := Lib.hid (HUr.out.below HB.out)
      clear hB hO hLk
      by_cases hlt : i < n
      · have r0 : (i : Int) < (n : Int) := by omega
        have HNew := Lib.hid (runes_add HUw.out)
        have HFl := Lib.hid (show (U.flatMap runeE).length = 1 * 1 by rw [flat_len runeE_len, hUl])
        have HOn := Lib.hid (runeE_one U)
        go_wp2_with (at_builtin; refine wpList_app2 _ rfl (.tmp 33) (.tmp 34) _ rfl ER _ _ _ rfl HO.out _ 1 1 (U.flatMap runeE) rfl (by decide) HFl.out HNew.out HOn.out (by omega) hbs ?_; intro g c w7 ho7 hg7 hf7)
        have HB7 := Lib.hid (below_app HB.out hbs HO.out (Nat.le_refl _) hg7)
        have HO7 := Lib.hid ho7
        clear ho7 hg7 hf7
        go_wp2_with fail
        go_roundw
        case rel => exact ⟨i + 1, L ++ U, by omega, by go_num, by rw [List.length_append]; omega, fun x hx => by
                      rcases List.mem_append.1 hx with h | h
                      · exact HLk.out x h
                      · exact HUk.out x h, HB7.out, by
                      have ho := HO7.out
                      rw [List.length_append, List.flatMap_append, hUl]; exact ho⟩
        case measure => simp [intOf] <;> omega
      · have r0 : decide ((i : Int) < (n : Int)) = false := by rw [decide_eq_false_iff_not]; omega
        obtain ⟨u0, hu0⟩ : ∃ u0, U[0]? = some u0 := ⟨U[0]'(by omega), List.getElem?_eq_getElem (by omega)⟩
        obtain ⟨b', off', cap', hv, _, _, _, _, d0⟩ := rune_cell HUw.out hu0
        injection hv with e1 e2 e3
        cases e1
        clear e2 e3
        have HI0 := Lib.hid (HUk.out.get hu0)
        clear hu0
        go_wp2_with (at_builtin; refine wpList_app1 _ rfl (.tmp 36) (.tmp 40) _ rfl ER _ _ _ rfl HO.out 1 1 [.int .i32 u0] rfl (by decide) rfl (by intro u hu; simp at hu; subst hu; rfl) (by omega) hbs ?_; intro g c w7 ho7 hg7 hf7)
        have HB7 := Lib.hid (below_trans' HB8.out (below_app HB.out hbs HO.out (Nat.le_refl _) hg7))
        have HS7 := Lib.hid (show RunesIn w7 (.slice (some ⟨g, 0, none⟩) (L.length + 1) c) (L ++ [u0]) by
          have h := rd_of_owns ho7
          unfold RunesIn Rs
          rw [List.length_append, List.flatMap_append]
          exact h)
        have HOk := Lib.hid (show RunesOk (L ++ [u0]) from fun x hx => by
          rcases List.mem_append.1 hx with h | h
          · exact HLk.out x h
          · have : x = u0 := by simpa using h
            rw [this]; exact HI0.out)
        have hlen : (L ++ [u0]).length ≤ 1000000 := by rw [List.length_append]; simp; omega
        clear ho7 hg7 hf7 HB HLk HO HUw HO0 HB0 hbs hLl d0
        generalize L ++ [u0] = l at HS7 HOk hlen
        go_wp2_with fail
        refine (HRows.out w7).mono ?_
        rintro e w8 ⟨v, rfl, hB1, hR1⟩
        have HB1 := Lib.hid (below_trans' HB7.out hB1)
        have HR1 := Lib.hid hR1
        have HS1 := Lib.hid (HS7.out.below hB1)
        clear hB1 hR1 HB7 HS7
        go_wp2_with fail
        refine (build_tb v R w8 HR1.out HF.out.ok).mono ?_
        rintro e w2 ⟨tp, rfl, hB2, hT⟩
        have HT2 := Lib.hid hT
        have HR2 := Lib.hid (HR1.out.below hB2)
        have HS2 := Lib.hid (HS1.out.below hB2)
        have HB2 := Lib.hid (below_trans' HB1.out hB2)
        clear hB2 hT HB1 HR1 HS1
        go_wp2_with fail
        refine (floor_any a HTk.out HT2.out HS2.out HOk.out hlen).mono ?_
        rintro e w3 ⟨rfl, hB3⟩
        have HR3 := Lib.hid (HR2.out.below hB3)
        have HS3 := Lib.hid (HS2.out.below hB3)
        have HB3 := Lib.hid (below_trans' HB2.out hB3)
        clear hB3 HT2 HR2 HS2 HB2
        go_wp2_with fail
        refine (lfloor_any a HR3.out HS3.out HOk.out hlen).mono ?_
        rintro e w4 ⟨rfl, hB4⟩
        have HB4 := Lib.hid (below_trans' HB3.out hB4)
        clear hB4 HR3 HS3 HB3
        go_wp2_with fail
        refine (fin11 HB4.out).mono ?_
        rintro e w9 ⟨rfl, hB9⟩
        go_wp2_with fail
        go_ret
        exact ⟨rfl, hB9⟩
end Go.Proofs.Ytpgeccgfkcjcoaa
