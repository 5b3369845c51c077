/- Joined texts: RowsA. -/
import Derived.Laws.OwnMore
import Derived.Test.YtkeainhjghdfcaaGreatCwaa

/- rows.rest, rows.joined. -/
namespace Go.Proofs.YtkeainhjghdfcaaGreat
open Go.RowKit

def spenc (s : Span) : List Value := [.int .i64 s.f, .int .i64 s.t, .int .i64 s.a, .int .i64 s.b]
theorem spenc_len (s : Span) : (spenc s).length = 4 := rfl
theorem spenc_one (s : Span) : ∀ u ∈ spenc s, u.oneCell' = true := by intro u hu; simp [spenc] at hu; rcases hu with rfl | rfl | rfl | rfl <;> rfl
theorem Esp : ElemT Tryz.prog 120 123 4 32 := elemT_of (by kernel_rfl) (z := .agg #[.int .i64 0, .int .i64 0, .int .i64 0, .int .i64 0]) (by kernel_rfl) rfl (by decide) (by decide)
/-- v reads as the spans S. -/
def SpansIn (w : World) (v : Value) (S : List Span) : Prop := Rs w.heap.size w spenc 4 v S
theorem SpansIn.below {w w' : World} {v : Value} {S : List Span} (h : SpansIn w v S) (hb : Below w.heap.size w w') : SpansIn w' v S := (Rd.below h hb (Nat.le_refl _)).mono hb.size
/-- A slice of spans that the call owns. -/
def SpansOwn (w : World) (base : Nat) (v : Value) (S : List Span) : Prop := w.ownsRow base 123 4 v S.length (S.flatMap spenc)
theorem SpansOwn.row {w : World} {base : Nat} {v : Value} {S : List Span} (h : SpansOwn w base v S) : w.ownsRow base 123 4 v S.length (S.flatMap spenc) := h
theorem SpansOwn.in {w : World} {base : Nat} {v : Value} {S : List Span} (h : SpansOwn w base v S) : SpansIn w v S := rd_of_owns h

theorem grown_setCell (w : World) (a : Addr) (u : Value) : w.grownBy (w.setCell a u) (some a.block) :=
  ⟨rfl, rfl, rfl, by simp, fun k hk hne => Below.heap_setCell _ _ _ _ (fun e => hne (by rw [e]))⟩
theorem owns_setCell {w : World} {base e size n : Nat} {v : Value} {xs : List Value} (h : w.ownsRow base e size v n xs) {a : Addr} (ha : a.block < base) (u : Value) : (w.setCell a u).ownsRow base e size v n xs :=
  h.kept (grown_setCell w a u) (.inr fun e => by have := (h.lt _ e).1; omega)

/-- wpList_app1, the new cells' block by number. -/
theorem wpList_app3 {P : Program} (w : World) {ops : Array Oper} {rest : List Oper} {o : Oper} {act : Act} {Q : Exit → Act → World → Prop} (hgd : o.guard = none) (s x : Operand) (t : TypeId)
    (ho : o.op = .call { callee := .builtin .append, args := #[s, x], argTypes := #[t, t] })
    {base e size bytes : Nat} (E : ElemT P t e size bytes) (v : Value) (n : Nat) (xs : List Value) (hs : act.eval s = v) (hown : w.ownsRow base e size v n xs)
    (g0 m c : Nat) (hg0 : g0 = w.heap.size) (news : List Value) (hx : act.eval x = .slice (some ⟨g0, 0, none⟩) m c) (hm : 0 < m) (hl : news.length = m * size) (h1 : ∀ u ∈ news, u.oneCell' = true)
    (hbytes : (n + m) * bytes ≤ 140737488355328) (hbase : base ≤ w.heap.size)
    (h : ∀ g cap w', w'.ownsRow base e size (.slice (some ⟨g, 0, none⟩) (n + m) cap) (n + m) (xs ++ news) → w.grownBy w' v.ownBlock → (v.ownBlock = some g ∨ w.heap.size ≤ g) →
      wpList P ops Q rest (act.put o.dst (.slice (some ⟨g, 0, none⟩) (n + m) cap)) w') : wpList P ops Q (o :: rest) act (w.alloc (.cells news.toArray e)) := by
  subst hg0
  exact wpList_app1 w hgd s x t ho E v n xs hs hown m c news hx hm hl h1 hbytes hbase h


theorem box_facts (wr : World) (x : Span) (q : Nat) : (World.drewN (wr.alloc (.cells #[.int .i64 x.f, .int .i64 x.t, .int .i64 x.a, .int .i64 x.b] 123)) q).cell? ⟨wr.heap.size, 0, none⟩ = some (.int .i64 x.f) ∧ (World.drewN (wr.alloc (.cells #[.int .i64 x.f, .int .i64 x.t, .int .i64 x.a, .int .i64 x.b] 123)) q).cell? ⟨wr.heap.size, 1, none⟩ = some (.int .i64 x.t) ∧
    (World.drewN (wr.alloc (.cells #[.int .i64 x.f, .int .i64 x.t, .int .i64 x.a, .int .i64 x.b] 123)) q).cell? ⟨wr.heap.size, 2, none⟩ = some (.int .i64 x.a) ∧ (World.drewN (wr.alloc (.cells #[.int .i64 x.f, .int .i64 x.t, .int .i64 x.a, .int .i64 x.b] 123)) q).cell? ⟨wr.heap.size, 3, none⟩ = some (.int .i64 x.b) ∧
    Below wr.heap.size wr (World.drewN (wr.alloc (.cells #[.int .i64 x.f, .int .i64 x.t, .int .i64 x.a, .int .i64 x.b] 123)) q) :=
  ⟨by go_simp, by go_simp, by go_simp, by go_simp, below_dN ((Below.refl _ _).alloc (Nat.le_refl _) _) _⟩
theorem owns_cap {w : World} {base e size n : Nat} {a : Option Addr} {cap : Nat} {xs : List Value} (h : w.ownsRow base e size (.slice a n cap) n xs) : n ≤ cap ∧ cap ≤ maxLen := by
  rcases h.2 with ⟨hv, h0⟩ | ⟨g, cap', cur, hv, _, _, h4, h5, _⟩
  · cases hv; exact ⟨Nat.le_refl _, by unfold maxLen; omega⟩
  · cases hv; exact ⟨h4, h5⟩

theorem restL_length : ∀ (l : List Span) (s : Span), (restL s l).length ≤ l.length + 1 := by
  intro l
  induction l with
  | nil => intro s; unfold restL; split <;> simp
  | cons x l ih =>
    intro s
    unfold restL
    split
    · have := ih s; simp; omega
    · have := ih ⟨x.t + 1, s.t, s.a, s.b⟩
      rw [List.length_append]
      split <;> simp <;> omega

theorem restL_drop {s : Span} {S : List Span} {k : Nat} {x : Span} (hx : S[k]? = some x) : restL s (S.drop k) = if x.t < s.f ∨ s.t < x.f then restL s (S.drop (k + 1)) else (if s.f < x.f then [⟨s.f, x.f - 1, s.a, s.b⟩] else []) ++ restL ⟨x.t + 1, s.t, s.a, s.b⟩ (S.drop (k + 1)) := by
  obtain ⟨h1, h2⟩ := List.getElem?_eq_some_iff.1 hx
  rw [List.drop_eq_getElem_cons h1, h2]
  rfl

/-- the box of the parameter s -/
structure BoxS (w : World) (b : Nat) (s : Span) : Prop where
  c0 : w.cell? ⟨b, 0, none⟩ = some (.int .i64 s.f)
  c1 : w.cell? ⟨b, 1, none⟩ = some (.int .i64 s.t)
  c2 : w.cell? ⟨b, 2, none⟩ = some (.int .i64 s.a)
  c3 : w.cell? ⟨b, 3, none⟩ = some (.int .i64 s.b)
  f0 : w.frozen? ⟨b, 0, none⟩ = false
theorem BoxS.same {w w' : World} {b : Nat} {s : Span} (h : BoxS w b s) (hb : w'.heap[b]? = w.heap[b]?) : BoxS w' b s :=
  ⟨(World.cell?_of_block (a := ⟨b, 0, none⟩) hb).trans h.c0, (World.cell?_of_block (a := ⟨b, 1, none⟩) hb).trans h.c1, (World.cell?_of_block (a := ⟨b, 2, none⟩) hb).trans h.c2, (World.cell?_of_block (a := ⟨b, 3, none⟩) hb).trans h.c3, (World.frozen?_of_block (a := ⟨b, 0, none⟩) hb).trans h.f0⟩
theorem BoxS.lt {w : World} {b : Nat} {s : Span} (h : BoxS w b s) : b < w.heap.size := World.block_lt_of_cell? w _ h.c0
theorem BoxS.alloc {w : World} {b : Nat} {s : Span} (h : BoxS w b s) (o : Obj) : BoxS (w.alloc o) b s := h.same (Below.heap_alloc _ _ _ h.lt)
theorem BoxS.set {w : World} {b : Nat} {s : Span} (h : BoxS w b s) (n : Int) : BoxS (w.setCell ⟨b, 0, none⟩ (.int .i64 n)) b ⟨n, s.t, s.a, s.b⟩ := by
  have h0 := h.c0
  have h1 := h.c1
  have h2 := h.c2
  have h3 := h.c3
  have hf := h.f0
  have hl := h.lt
  exact ⟨by go_simp, by go_simp, by go_simp, by go_simp, by go_simp⟩

theorem span_cells {w : World} {v : Value} {S : List Span} (hR : SpansIn w v S) {k : Nat} {x : Span} (hx : S[k]? = some x) : ∃ b off cap, v = .slice (some ⟨b, off, none⟩) S.length cap ∧ cap ≤ maxLen ∧ S.length ≤ cap ∧ k < S.length ∧
    w.cell? ⟨b, off + k * 4, none⟩ = some (.int .i64 x.f) ∧ w.cell? ⟨b, off + k * 4 + 1, none⟩ = some (.int .i64 x.t) ∧ w.cell? ⟨b, off + k * 4 + 2, none⟩ = some (.int .i64 x.a) ∧ w.cell? ⟨b, off + k * 4 + 3, none⟩ = some (.int .i64 x.b) := by
  obtain ⟨a, cap, rfl, hcap, hmax, hxl, hcells⟩ := hR
  have hk := (List.getElem?_eq_some_iff.1 hx).1
  obtain ⟨b, off, rfl, hbl, hcq⟩ := hcells (by omega)
  exact ⟨b, off, cap, rfl, hmax, hcap, hk, flat_cell spenc_len hcq hx 0 rfl, flat_cell spenc_len hcq hx 1 rfl, flat_cell spenc_len hcq hx 2 rfl, flat_cell spenc_len hcq hx 3 rfl⟩

set_option maxRecDepth 100000 in
set_option maxHeartbeats 1000000 in
theorem rest_any (v : Value) (S : List Span) (s0 : Span) (w : World) (hR : SpansIn w v S) (hS : ∀ x ∈ S, okS x) (hl : S.length ≤ 1073741824) :
    Calls Tryz.prog 112 #[.agg #[.int .i64 s0.f, .int .i64 s0.t, .int .i64 s0.a, .int .i64 s0.b], v] w fun e w' => ∃ v', e = .returned v' ∧ SpansOwn w' w.heap.size v' (restL s0 S) ∧ Below w.heap.size w w' := by
  have HR := Lib.hid hR
  obtain ⟨a, cap, rfl, hcap, hmax, _, _⟩ := hR
  unfold maxLen at hmax
  have HS := Lib.hid hS
  have hlen := restL_length S s0
  have HL := Lib.hid hlen
  clear hS hlen
  go_enter Tryz.func112, Tryz.ntmps112
  go_wp2
  have HB0 := Lib.hid ((Below.refl w.heap.size w).alloc (Nat.le_refl _) (.cells #[.int .i64 s0.f, .int .i64 s0.t, .int .i64 s0.a, .int .i64 s0.b] 123))
  have HX0 := Lib.hid (show BoxS (w.alloc (.cells #[.int .i64 s0.f, .int .i64 s0.t, .int .i64 s0.a, .int .i64 s0.b] 123)) w.heap.size s0 from ⟨by go_simp, by go_simp, by go_simp, by go_simp, by go_simp⟩)
  go_loopw [5, 7, 10] (fun v _ i wr => ∃ (k : Nat) (s : Span) (out : List Span), k ≤ S.length ∧ i = .int .i64 ((k : Nat) : Int) ∧ Below w.heap.size w wr ∧ BoxS wr w.heap.size s ∧ SpansOwn wr (w.heap.size + 1) v out ∧ out ++ restL s (S.drop k) = restL s0 S ∧ s.a = s0.a ∧ s.b = s0.b ∧ s.t = s0.t) (fun _ _ i _ => S.length - (intOf i).toNat)
  case atStart => exact ⟨0, s0, [], Nat.zero_le _, rfl, HB0.out, HX0.out, World.ownsRow_nil _ _ _ _, rfl, rfl, rfl, rfl⟩
  case round =>
    obtain ⟨k, s, out, hk, rfl, hB, hX, hO, hE, ea, eb, et⟩ := hrel
    have hol : out.length ≤ S.length + 1 := by have := HL.out; have := congrArg List.length hE; rw [List.length_append] at this; omega
    have HO := Lib.hid hO
    have HE := Lib.hid hE
    have HB := Lib.hid hB
    have HX := Lib.hid hX
    have HAB := Lib.hid (And.intro ea (And.intro eb et))
    have hbs := hB.size
    obtain ⟨c0, c1, c2, c3, f0⟩ := hX
    have hwb := HX.out.lt
    clear hO hE hB ea eb et
    by_cases hlt : k < S.length
    · obtain ⟨x, hx⟩ : ∃ x, S[k]? = some x := ⟨S[k], List.getElem?_eq_getElem hlt⟩
      obtain ⟨b, off, cap', hv, _, _, _, d0, d1, d2, d3⟩ := span_cells (HR.out.below HB.out) hx
      cases hv
      have hox := HS.out x (List.mem_of_getElem? hx)
      have HD := Lib.hid (restL_drop (s := s) hx)
      unfold okS at hox
      obtain ⟨o1, o2, o3⟩ := hox
      clear hx
      by_cases h1 : x.t < s.f
      · go_wp2
        go_roundw
        case rel => exact ⟨k + 1, s, out, by omega, by go_num, HB.out.alloc hbs _, HX.out.alloc _, HO.out.alloc _, by have := HE.out; rw [HD.out, if_pos (.inl h1)] at this; exact this, HAB.out⟩
        case measure => simp [intOf]; omega
      · by_cases h2 : s.t < x.f
        · go_wp2
          go_roundw
          case rel => exact ⟨k + 1, s, out, by omega, by go_num, HB.out.alloc hbs _, HX.out.alloc _, HO.out.alloc _, by have := HE.out; rw [HD.out, if_pos (.inr h2)] at this; exact this, HAB.out⟩
          case measure => simp [intOf]; omega
        · by_cases h3 : s.f < x.f
          · have e1 := IntWalk.i64_in (x.f - 1) (by omega)
            have HHE := Lib.hid (show (out ++ [⟨s.f, x.f - 1, s.a, s.b⟩]) ++ restL ⟨x.t + 1, s.t, s.a, s.b⟩ (S.drop (k + 1)) = restL s0 S by have := HE.out; rw [HD.out, if_neg (by omega), if_pos h3] at this; rw [List.append_assoc]; exact this)
            go_wp2_with (at_builtin; refine wpList_app3 _ rfl (.tmp 31) _ _ rfl Esp _ _ _ rfl (HO.out.row.alloc _) (wr.heap.size + 1) _ _ (by simp) (spenc ⟨s.f, x.f - 1, s.a, s.b⟩) rfl (by decide) rfl (spenc_one _) (by omega) (by simp <;> omega) ?_; intro g1 cap1 w1 ho1 hg1 hf1; have hvb := fun j e => (HO.out.lt j e); have X1 := (HX.out.alloc (.cells #[.int .i64 x.f, .int .i64 x.t, .int .i64 x.a, .int .i64 x.b] 123)).same (hg1.block _ (by simp <;> omega) (fun e => by have := hvb _ e.symm; omega)); have hX1 := Lib.hid X1; obtain ⟨y0, y1, y2, y3, g0⟩ := X1; have xt : w1.cell? ⟨wr.heap.size, 1, none⟩ = some (.int .i64 x.t) := hg1.cell (by go_simp) (fun e => by have := hvb _ e.symm; simp at this))
            have hB1 := Lib.hid (below_app (HB.out.alloc hbs (.cells #[.int .i64 x.f, .int .i64 x.t, .int .i64 x.a, .int .i64 x.b] 123)) (by simp <;> omega) (HO.out.alloc _) (by omega) hg1)
            have HO1 := Lib.hid ho1
            have hwg : w.heap.size ≠ g1 := by have := (ho1.lt g1 rfl).1; omega
            clear ho1 hg1 hf1
            go_roundw
            case rel => exact ⟨k + 1, ⟨x.t + 1, s.t, s.a, s.b⟩, out ++ [⟨s.f, x.f - 1, s.a, s.b⟩], by omega, by go_num, hB1.out.setCell (Nat.le_refl _) _, hX1.out.set _, by unfold SpansOwn; rw [flat_snoc, List.length_append]; exact owns_setCell HO1.out (by simp) _, HHE.out, HAB.out⟩
            case measure => simp [intOf]; omega
          · go_wp2
            go_roundw
            case rel => exact ⟨k + 1, ⟨x.t + 1, s.t, s.a, s.b⟩, out, by omega, by go_num, (HB.out.setCell (by simp) _).alloc (by simp <;> omega) _, (HX.out.set _).alloc _, World.ownsRow.alloc (owns_setCell HO.out (by simp) _) _, by have := HE.out; rw [HD.out, if_neg (by omega), if_neg h3] at this; exact this, HAB.out⟩
            case measure => simp [intOf]; omega
    · have hkn : k = S.length := by omega
      have HE2 := Lib.hid (show out ++ (if s.f ≤ s.t then [s] else []) = restL s0 S by have := HE.out; rw [hkn, List.drop_length] at this; exact this)
      clear hkn
      by_cases h1 : s.f ≤ s.t
      · have HE3 := Lib.hid (show out ++ [s] = restL s0 S by have := HE2.out; rw [if_pos h1] at this; exact this)
        go_wp2_with (at_builtin; refine wpList_app3 _ rfl (.tmp 54) _ _ rfl Esp _ _ _ rfl HO.out.row wr.heap.size _ _ rfl (spenc s) rfl (by decide) rfl (spenc_one _) (by omega) (by omega) ?_; intro g1 cap1 w1 ho1 hg1 hf1)
        have hB1 := Lib.hid (below_app HB.out hbs HO.out (by omega) hg1)
        have HO1 := Lib.hid (owns_mono ho1 (Nat.le_succ w.heap.size))
        clear ho1 hg1 hf1
        go_ret
        exact ⟨_, rfl, by rw [← HE3.out]; unfold SpansOwn; rw [flat_snoc, List.length_append]; exact HO1.out, hB1.out⟩
      · have HE3 := Lib.hid (show out = restL s0 S by have := HE2.out; rw [if_neg h1, List.append_nil] at this; exact this)
        go_wp2
        go_ret
        exact ⟨_, rfl, by rw [← HE3.out]; exact owns_mono HO.out (Nat.le_succ w.heap.size), HB.out⟩

theorem flat_last_set (o : List Span) (y : Span) (t : Int) : ((o ++ [y]).flatMap spenc).set (o.length * 4 + 1) (.int .i64 t) = (o ++ [(⟨y.f, t, y.a, y.b⟩ : Span)]).flatMap spenc := by
  have hl := flat_len spenc_len o
  rw [flat_snoc, flat_snoc, List.set_append_right _ _ (by omega), hl, show o.length * 4 + 1 - o.length * 4 = 1 by omega]
  rfl

theorem joinL_take {S : List Span} {k : Nat} {x : Span} (hx : S[k]? = some x) : joinL (S.take (k + 1)) = joinStep (joinL (S.take k)) x := by
  rw [List.take_add_one, hx, Option.toList_some, joinL_snoc]
theorem joinStep_length (out : List Span) (x : Span) : (joinStep out x).length ≤ out.length + 1 := by
  unfold joinStep
  cases h : out.getLast? with
  | none => simp
  | some y =>
    dsimp only
    split
    · have : out ≠ [] := fun e => by rw [e] at h; simp at h
      have := List.length_pos_iff.2 this
      rw [List.length_append, List.length_dropLast, List.length_singleton]
      omega
    · simp
theorem joinL_length : ∀ (S : List Span) (k : Nat), (joinL (S.take k)).length ≤ k := by
  intro S k
  induction k with
  | zero => simp [joinL]
  | succ k ih =>
    by_cases h : k < S.length
    · have hx := List.getElem?_eq_getElem h
      rw [joinL_take hx]
      have := joinStep_length (joinL (S.take k)) S[k]
      omega
    · rw [List.take_of_length_le (by omega)]
      rw [List.take_of_length_le (by omega)] at ih
      omega

set_option maxRecDepth 100000 in
set_option maxHeartbeats 1000000 in
theorem joined_any (v : Value) (S : List Span) (w : World) (hR : SpansIn w v S) (hS : ∀ x ∈ S, okS x) (hl : S.length ≤ 1073741824) :
    Calls Tryz.prog 114 #[v] w fun e w' => ∃ v', e = .returned v' ∧ SpansOwn w' w.heap.size v' (joinL S) ∧ Below w.heap.size w w' := by
  have HR := Lib.hid hR
  obtain ⟨a, cap, rfl, hcap, hmax, _, _⟩ := hR
  unfold maxLen at hmax
  have HS := Lib.hid hS
  clear hS
  go_enter Tryz.func114, Tryz.ntmps114
  go_wp2
  go_loopw [3, 5, 6, 9] (fun v _ _ i wr => ∃ k : Nat, k ≤ S.length ∧ i = .int .i64 ((k : Nat) : Int) ∧ Below w.heap.size w wr ∧ SpansOwn wr w.heap.size v (joinL (S.take k)) ∧ ∀ x ∈ joinL (S.take k), okS x) (fun _ _ _ i _ => S.length - (intOf i).toNat)
  case atStart => exact ⟨0, Nat.zero_le _, rfl, .refl _ _, World.ownsRow_nil _ _ _ _, by simp [joinL]⟩
  case round =>
    obtain ⟨k, hk, rfl, hB, hO, hok⟩ := hrel
    have hjl := joinL_length S k
    have HO := Lib.hid hO
    have HB := Lib.hid hB
    have HOK := Lib.hid hok
    have hbs := hB.size
    clear hO hB hok
    by_cases hlt : k < S.length
    · obtain ⟨x, hx⟩ : ∃ x, S[k]? = some x := ⟨S[k], List.getElem?_eq_getElem hlt⟩
      obtain ⟨b, off, cap', hv, _, _, _, d0, d1, d2, d3⟩ := span_cells (HR.out.below HB.out) hx
      cases hv
      have hox := HS.out x (List.mem_of_getElem? hx)
      have HJ := Lib.hid (joinL_take hx)
      have HOX := Lib.hid hox
      unfold okS at hox
      obtain ⟨o1, o2, o3⟩ := hox
      clear hx
      generalize joinL (S.take k) = out at *
      cases hg : out.getLast? with
      | none =>
        have hon : out = [] := List.getLast?_eq_none_iff.1 hg
        subst hon
        have HJ2 := Lib.hid (show joinL (S.take (k + 1)) = [] ++ [x] by rw [HJ.out]; rfl)
        have hown := HO.out.row
        have hu3 : ∃ a c, u3 = .slice a 0 c := slice_of_owns hown
        obtain ⟨ua, uc, rfl⟩ := hu3
        have HO2 := Lib.hid hown
        have e0 : ((0 : Nat) : Int) - 1 = -1 := by omega
        clear hg HJ hown
        go_wp2
        go_quiet (fail)
        have hbf := box_facts wr x nq
        generalize World.drewN (wr.alloc (.cells #[.int .i64 x.f, .int .i64 x.t, .int .i64 x.a, .int .i64 x.b] 123)) nq = W at hbf ⊢
        obtain ⟨w0, w1, w2, w3, hWB⟩ := hbf
        have HWO := Lib.hid (owns_stays HO2.out hWB)
        have HWB := Lib.hid (HB.out.trans (hWB.mono HB.out.size))
        have hws := hWB.size
        clear hWB d0 d1 d2 d3
        go_wp2_with (at_builtin; refine wpList_app3 _ rfl (.tmp 55) _ _ rfl Esp _ _ _ rfl HWO.out W.heap.size _ _ rfl (spenc x) rfl (by decide) rfl (spenc_one _) (by omega) (by omega) ?_; intro g1 cap1 v1 ho1 hg1 hf1)
        have HB1 := Lib.hid (below_app HWB.out (by omega) HWO.out (Nat.le_refl _) hg1)
        have HO1 := Lib.hid ho1
        clear ho1 hg1 hf1
        go_roundw
        case rel => exact ⟨k + 1, by omega, by go_num, HB1.out, by rw [HJ2.out]; unfold SpansOwn; rw [flat_snoc, List.length_append]; exact HO1.out, by rw [HJ2.out]; intro z hz; rcases List.mem_append.1 hz with hz | hz; exact HOK.out z hz; cases List.mem_singleton.1 hz; exact HOX.out⟩
        case measure => simp [intOf]; omega
      | some y =>
        have hout : out = out.dropLast ++ [y] := by obtain ⟨o, ho⟩ := List.getLast?_eq_some_iff.1 hg; rw [ho, List.dropLast_concat]
        have HJ3 := Lib.hid (show joinL (S.take (k + 1)) = if y.t + 1 = x.f ∧ y.a = x.a ∧ y.b = x.b then out.dropLast ++ [⟨y.f, x.t, y.a, y.b⟩] else out ++ [x] by rw [HJ.out]; unfold joinStep; rw [hg])
        generalize out.dropLast = o at *
        subst hout
        clear hg HJ
        have hoy := HOK.out y (by simp)
        unfold okS at hoy
        obtain ⟨y1, y2, y3⟩ := hoy
        obtain ⟨n, hn⟩ : ∃ n, n = o.length := ⟨_, rfl⟩
        have hol : (o ++ [y]).length = n + 1 := by rw [List.length_append, hn]; rfl
        have hown := HO.out.row
        rw [hol] at hown hjl
        obtain ⟨g, gc, rfl, hgb, hgs⟩ := ownBlock_of_owns hown (by omega)
        have hcap := owns_cap hown
        have hc := fun q u (hu : (spenc y)[q]? = some u) => (hown.cells (g := g) rfl (n * 4 + q) u (flat_get spenc_len (o ++ [y]) n y q u (by rw [hn, List.getElem?_append_right (Nat.le_refl _)]; simp) hu))
        simp only [addr_add] at hc
        have z1 : wr.cell? ⟨g, n * 4 + 1, none⟩ = some (.int .i64 y.t) := hc 1 _ rfl
        have z2 : wr.cell? ⟨g, n * 4 + 2, none⟩ = some (.int .i64 y.a) := hc 2 _ rfl
        have z3 : wr.cell? ⟨g, n * 4 + 3, none⟩ = some (.int .i64 y.b) := hc 3 _ rfl
        have z4 : wr.frozen? ⟨g, n * 4 + 1, none⟩ = false := hown.frozenAt _
        have HO2 := Lib.hid hown
        have HN := Lib.hid hn
        have e1 := IntWalk.i64_in (n : Int) (by omega)
        have e2 := IntWalk.i64_in (y.t + 1) (by omega)
        have hn0 : (0 : Int) ≤ (n : Int) := by omega
        clear hown hn hc
        have HOL := Lib.hid hol
        clear hol
        by_cases h1 : y.t + 1 = x.f
        · have q1 : (y.t + 1 == x.f) = true := by simpa using h1
          by_cases h2 : y.a = x.a
          · have q2 : (y.a == x.a) = true := by simpa using h2
            by_cases h3 : y.b = x.b
            · have q3 : (y.b == x.b) = true := by simpa using h3
              have HJ2 := Lib.hid (show joinL (S.take (k + 1)) = o ++ [⟨y.f, x.t, y.a, y.b⟩] by rw [HJ3.out, if_pos ⟨h1, h2, h3⟩])
              have hyx : y.f ≤ x.t := by omega
              clear h1 h2 h3
              go_wp2
              go_quiet (fail)
              have hbf := box_facts wr x nq
              generalize World.drewN (wr.alloc (.cells #[.int .i64 x.f, .int .i64 x.t, .int .i64 x.a, .int .i64 x.b] 123)) nq = W at hbf ⊢
              obtain ⟨w0, w1, w2, w3, hWB⟩ := hbf
              have HWO := Lib.hid (owns_stays HO2.out hWB)
              have HWB := Lib.hid (HB.out.trans (hWB.mono HB.out.size))
              have hws := hWB.size
              have z5 : W.frozen? ⟨g, n * 4 + 1, none⟩ = false := HWO.out.frozenAt _
              have z6 : W.cell? ⟨g, n * 4 + 1, none⟩ = some (.int .i64 y.t) := cell_later hWB z1
              have HST := Lib.hid (HWO.out.stored (n * 4 + 1) (.int .i64 x.t))
              have HFS := Lib.hid (flat_last_set o y x.t)
              clear hWB d0 d1 d2 d3 z1 z2 z3 z4
              go_wp2
              go_roundw
              case rel => exact ⟨k + 1, by omega, by go_num, HWB.out.setCell hgb _, by rw [HJ2.out]; unfold SpansOwn; rw [← HFS.out, List.length_append, ← HN.out]; exact HST.out.1, by rw [HJ2.out]; intro z hz; rcases List.mem_append.1 hz with hz | hz; exact HOK.out z (List.mem_append_left _ hz); cases List.mem_singleton.1 hz; unfold okS; dsimp only; omega⟩
              case measure => simp [intOf]; omega
            · have q3 : (y.b == x.b) = false := by simpa using h3
              have HJ2 := Lib.hid (show joinL (S.take (k + 1)) = (o ++ [y]) ++ [x] by rw [HJ3.out, if_neg (fun h => h3 h.2.2)])
              clear h1 h2 h3
              go_wp2
              go_quiet (fail)
              have hbf := box_facts wr x nq
              generalize World.drewN (wr.alloc (.cells #[.int .i64 x.f, .int .i64 x.t, .int .i64 x.a, .int .i64 x.b] 123)) nq = W at hbf ⊢
              obtain ⟨w0, w1, w2, w3, hWB⟩ := hbf
              have HWO := Lib.hid (owns_stays HO2.out hWB)
              have HWB := Lib.hid (HB.out.trans (hWB.mono HB.out.size))
              have hws := hWB.size
              clear hWB d0 d1 d2 d3 z1 z2 z3 z4
              go_wp2_with (at_builtin; refine wpList_app3 _ rfl (.tmp 55) _ _ rfl Esp _ _ _ rfl HWO.out W.heap.size _ _ rfl (spenc x) rfl (by decide) rfl (spenc_one _) (by omega) (by omega) ?_; intro g1 cap1 v1 ho1 hg1 hf1)
              have HB1 := Lib.hid (below_app HWB.out (by omega) HWO.out (Nat.le_refl _) hg1)
              have HO1 := Lib.hid ho1
              clear ho1 hg1 hf1
              go_roundw
              case rel => exact ⟨k + 1, by omega, by go_num, HB1.out, by rw [HJ2.out]; unfold SpansOwn; rw [flat_snoc, List.length_append, HOL.out]; exact HO1.out, by rw [HJ2.out]; intro z hz; rcases List.mem_append.1 hz with hz | hz; exact HOK.out z hz; cases List.mem_singleton.1 hz; exact HOX.out⟩
              case measure => simp [intOf]; omega
          · have q2 : (y.a == x.a) = false := by simpa using h2
            have HJ2 := Lib.hid (show joinL (S.take (k + 1)) = (o ++ [y]) ++ [x] by rw [HJ3.out, if_neg (fun h => h2 h.2.1)])
            clear h1 h2
            go_wp2
            go_quiet (fail)
            have hbf := box_facts wr x nq
            generalize World.drewN (wr.alloc (.cells #[.int .i64 x.f, .int .i64 x.t, .int .i64 x.a, .int .i64 x.b] 123)) nq = W at hbf ⊢
            obtain ⟨w0, w1, w2, w3, hWB⟩ := hbf
            have HWO := Lib.hid (owns_stays HO2.out hWB)
            have HWB := Lib.hid (HB.out.trans (hWB.mono HB.out.size))
            have hws := hWB.size
            clear hWB d0 d1 d2 d3 z1 z2 z3 z4
            go_wp2_with (at_builtin; refine wpList_app3 _ rfl (.tmp 55) _ _ rfl Esp _ _ _ rfl HWO.out W.heap.size _ _ rfl (spenc x) rfl (by decide) rfl (spenc_one _) (by omega) (by omega) ?_; intro g1 cap1 v1 ho1 hg1 hf1)
            have HB1 := Lib.hid (below_app HWB.out (by omega) HWO.out (Nat.le_refl _) hg1)
            have HO1 := Lib.hid ho1
            clear ho1 hg1 hf1
            go_roundw
            case rel => exact ⟨k + 1, by omega, by go_num, HB1.out, by rw [HJ2.out]; unfold SpansOwn; rw [flat_snoc, List.length_append, HOL.out]; exact HO1.out, by rw [HJ2.out]; intro z hz; rcases List.mem_append.1 hz with hz | hz; exact HOK.out z hz; cases List.mem_singleton.1 hz; exact HOX.out⟩
            case measure => simp [intOf]; omega
        · have HJ2 := Lib.hid (show joinL (S.take (k + 1)) = (o ++ [y]) ++ [x] by rw [HJ3.out, if_neg (fun h => h1 h.1)])
          have q1 : (y.t + 1 == x.f) = false := by simpa using h1
          clear h1
          go_wp2
          go_quiet (fail)
          have hbf := box_facts wr x nq
          generalize World.drewN (wr.alloc (.cells #[.int .i64 x.f, .int .i64 x.t, .int .i64 x.a, .int .i64 x.b] 123)) nq = W at hbf ⊢
          obtain ⟨w0, w1, w2, w3, hWB⟩ := hbf
          have HWO := Lib.hid (owns_stays HO2.out hWB)
          have HWB := Lib.hid (HB.out.trans (hWB.mono HB.out.size))
          have hws := hWB.size
          clear hWB d0 d1 d2 d3 z1 z2 z3 z4
          go_wp2_with (at_builtin; refine wpList_app3 _ rfl (.tmp 55) _ _ rfl Esp _ _ _ rfl HWO.out W.heap.size _ _ rfl (spenc x) rfl (by decide) rfl (spenc_one _) (by omega) (by omega) ?_; intro g1 cap1 v1 ho1 hg1 hf1)
          have HB1 := Lib.hid (below_app HWB.out (by omega) HWO.out (Nat.le_refl _) hg1)
          have HO1 := Lib.hid ho1
          clear ho1 hg1 hf1
          go_roundw
          case rel => exact ⟨k + 1, by omega, by go_num, HB1.out, by rw [HJ2.out]; unfold SpansOwn; rw [flat_snoc, List.length_append, HOL.out]; exact HO1.out, by rw [HJ2.out]; intro z hz; rcases List.mem_append.1 hz with hz | hz; exact HOK.out z hz; cases List.mem_singleton.1 hz; exact HOX.out⟩
          case measure => simp [intOf]; omega
    · have hkn : k = S.length := by omega
      subst hkn
      have HT := Lib.hid (show S.take S.length = S by simp)
      go_wp2
      go_ret
      exact ⟨_, rfl, by have := HO.out; rw [HT.out] at this; exact this, HB.out⟩
end Go.Proofs.YtkeainhjghdfcaaGreat
