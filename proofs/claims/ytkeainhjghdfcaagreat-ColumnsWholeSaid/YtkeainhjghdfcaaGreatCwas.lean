/- Joined texts: TabA TabC. -/
import Derived.Laws.StructEq
import Derived.Test.YtkeainhjghdfcaaGreatCwar
import Derived.Test.YtkeainhjghdfcaaGreatCwad
import Derived.Test.YtkeainhjghdfcaaGreatCwak
import Derived.Test.YtkeainhjghdfcaaGreatCwam
import Derived.Test.YtkeainhjghdfcaaGreatCwab

/- Tables: what they tell. -/
namespace Go.Proofs.YtkeainhjghdfcaaGreat
open Go.RowKit

def pairR (R : List Rw) (r : Int) : Pr := match fnd R 2 r with
  | some x => (wrap32 x.a, wrap32 x.b)
  | none => (0, 0)
def pairOk (R : List Rw) (r : Int) : Bool := decide (pairR R r ≠ (0, 0))
def outT (R : List Rw) (r : Int) : Bool := pairOk R r && (decide ((pairR R r).2 = 0) || decide (ofA R 3 r = 1) || decide (ofA R 1 r ≠ 0) || decide (ofA R 1 (pairR R r).1 ≠ 0))
theorem fnd_out {R : List Rw} {k r : Int} (h : ¬ (0 ≤ r ∧ r < 1114112)) : fnd R k r = none := by
  unfold fnd
  rw [if_neg (by omega)]
theorem ofA_get (R : List Rw) (k r : Int) : (if 0 ≤ r ∧ r < 1114112 then ofA R k r else 0) = ofA R k r := by
  by_cases h : 0 ≤ r ∧ r < 1114112
  · rw [if_pos h]
  · rw [if_neg h]; unfold ofA; rw [fnd_out h]
theorem pairR_get (R : List Rw) (r : Int) : (if 0 ≤ r ∧ r < 1114112 then pairR R r else ((0, 0) : Pr)) = pairR R r := by
  by_cases h : 0 ≤ r ∧ r < 1114112
  · rw [if_pos h]
  · rw [if_neg h]; unfold pairR; rw [fnd_out h]
theorem flgR_get (R : List Rw) (r : Int) : (if 0 ≤ r ∧ r < 1114112 then flgR R r else noFlg) = flgR R r := by
  by_cases h : 0 ≤ r ∧ r < 1114112
  · rw [if_pos h]
  · rw [if_neg h]; unfold flgR ofA; rw [fnd_out h, fnd_out h, fnd_out h, fnd_out h]; rfl
theorem wrap32_rng (n : Int) : -2147483648 ≤ wrap32 n ∧ wrap32 n ≤ 2147483647 := by unfold wrap32; omega
theorem pairR_rng (R : List Rw) (r : Int) : (-2147483648 ≤ (pairR R r).1 ∧ (pairR R r).1 ≤ 2147483647) ∧ (-2147483648 ≤ (pairR R r).2 ∧ (pairR R r).2 ≤ 2147483647) := by
  unfold pairR
  cases fnd R 2 r with
  | none => exact ⟨⟨by decide, by decide⟩, ⟨by decide, by decide⟩⟩
  | some x => exact ⟨wrap32_rng _, wrap32_rng _⟩

theorem run_field1 {P : Program} (w : World) {t : TypeId} {fs : Array Field} (h : P.underlying t = some (.struct fs)) {i : Nat} {f : Field} (hf : fs[i]? = some f) (ha : ∀ w, (isAgg f.type).run P w = .ok false w) {cs : Array Value} {v : Value} (hv : cs[f.offset]? = some v) : (Instr.field t (.agg cs) i).run P w = .ok v w := by
  simp [Instr.field, run_underlying h, hf, asAgg, part, ha, hv]

structure TabT (R : List Rw) (B : Nat) (w : World) (tp cb gb jb fb pb : Nat) : Prop where
  c0 : w.cell? ⟨tp, 0, none⟩ = some (.pointer (some ⟨cb, 0, none⟩))
  c1 : w.cell? ⟨tp, 1, none⟩ = some (.pointer (some ⟨gb, 0, none⟩))
  c2 : w.cell? ⟨tp, 2, none⟩ = some (.pointer (some ⟨jb, 0, none⟩))
  c3 : w.cell? ⟨tp, 3, none⟩ = some (.pointer (some ⟨fb, 0, none⟩))
  c4 : w.cell? ⟨tp, 4, none⟩ = some (.pointer (some ⟨pb, 0, none⟩))
  lt : tp < B
  t0 : TrieAt ienc1 1 (ofA R 1) B w cb
  t1 : TrieAt ienc1 1 (ofA R 4) B w gb
  t2 : TrieAt ienc1 1 (ofA R 6) B w jb
  t3 : TrieAt fenc 4 (flgR R) B w fb
  t4 : TrieAt penc 2 (pairR R) B w pb
theorem TabT.below {R : List Rw} {B B' : Nat} {w w' : World} {tp cb gb jb fb pb : Nat} (h : TabT R B w tp cb gb jb fb pb) (hb : Below B' w w') (hB : B ≤ B') : TabT R B w' tp cb gb jb fb pb := by
  have hl : tp < B' := Nat.lt_of_lt_of_le h.lt hB
  have hc : ∀ i v, w.cell? ⟨tp, i, none⟩ = some v → w'.cell? ⟨tp, i, none⟩ = some v := fun i v e => (World.cell?_of_block (hb.block tp hl)).trans e
  exact ⟨hc _ _ h.c0, hc _ _ h.c1, hc _ _ h.c2, hc _ _ h.c3, hc _ _ h.c4, h.lt, h.t0.below hb hB, h.t1.below hb hB, h.t2.below hb hB, h.t3.below hb hB, h.t4.below hb hB⟩

section
variable {R : List Rw} {B : Nat} {w : World} {tp cb gb jb fb pb : Nat}
set_option maxRecDepth 100000 in
theorem class_any (h : TabT R B w tp cb gb jb fb pb) (r : Int) (b1 : -2147483648 ≤ r) (b2 : r ≤ 2147483647) :
    Calls Tryz.prog 120 #[.pointer (some ⟨tp, 0, none⟩), .int .i32 r] w fun e w' => e = .returned (.int .i64 (ofA R 1 r)) ∧ Below w.heap.size w w' := by
  have hc := h.c0
  have HT := Lib.hid h.t0
  have e1 := IntWalk.i64_in r (by omega)
  go_enter Tryz.func120, Tryz.ntmps120
  go_wp2_with fail
  refine (get_int (ofA R 1) B cb r w HT.out).mono ?_
  rintro e w' ⟨rfl, n, rfl⟩
  rw [ofA_get]
  go_wp2_with fail
  go_ret
  exact ⟨rfl, below_dN (.refl _ _) n⟩
theorem eq_two (w : World) {t q : TypeId} (hq : Tryz.prog.underlying q = some (.int .i32)) (ha : ∀ w, (isAgg q).run Tryz.prog w = .ok false w) (ht : Tryz.prog.underlying t = some (.struct (Tryz.prog.fieldsOf t))) (hp : Tryz.prog.stoodInHeld t = false) (f0 f1 : Field) (hf : (Tryz.prog.fieldsOf t).toList = [f0, f1]) (n0 : f0.name ≠ "_") (n1 : f1.name ≠ "_") (y0 : f0.type = q) (y1 : f1.type = q) (o0 : f0.offset = 0) (o1 : f1.offset = 1) (a b c d : Int) :
    (Op.equalIn 10000 t (.agg #[.int .i32 a, .int .i32 b]) (.agg #[.int .i32 c, .int .i32 d])).run Tryz.prog w = .ok (decide ((a, b) = (c, d))) w := by
  rw [run_equalIn_agg _ _ _ _ _ ht hp, hf]
  have he : ∀ (x y : Int) (w : World), (Op.equalIn 9999 q (.int .i32 x) (.int .i32 y)).run Tryz.prog w = .ok (x == y) w := fun x y w => run_equalIn_int w 9998 q .i32 .i32 x y hq
  simp only [Op.eqFields, y0, y1, o0, o1]
  rw [if_pos n0, if_pos n1]
  simp [part, ha, he]
  by_cases hs : a = c
  · subst hs
    by_cases hd : b = d
    · subst hd; simp
    · simp [hd]
  · simp [hs]
set_option maxRecDepth 100000 in
theorem eq_pair (w : World) (a b c d : Int) : (Op.equalIn 10000 125 (.agg #[.int .i32 a, .int .i32 b]) (.agg #[.int .i32 c, .int .i32 d])).run Tryz.prog w = .ok (decide ((a, b) = (c, d))) w :=
  eq_two w Tryz.underlying21 Tryz.isAgg21 (by kernel_rfl) (by kernel_rfl) _ _ rfl (by decide) (by decide) rfl rfl rfl rfl a b c d
set_option maxRecDepth 100000 in
theorem pair_any (h : TabT R B w tp cb gb jb fb pb) (hB : B ≤ w.heap.size) (r : Int) (b1 : -2147483648 ≤ r) (b2 : r ≤ 2147483647) :
    Calls Tryz.prog 118 #[.pointer (some ⟨tp, 0, none⟩), .int .i32 r] w fun e w' => e = .returned (.tuple #[.int .i32 (pairR R r).1, .int .i32 (pairR R r).2, .bool (pairOk R r)]) ∧ Below w.heap.size w w' := by
  have hc := h.c4
  have HT := Lib.hid h.t4
  have e1 := IntWalk.i64_in r (by omega)
  have HOk := Lib.hid (show pairOk R r = decide (pairR R r ≠ (0, 0)) from rfl)
  go_enter Tryz.func118, Tryz.ntmps118
  go_wp2_with fail
  refine (get_pair (pairR R) B pb r w HT.out hB).mono ?_
  rintro e w' ⟨rfl, hB1⟩
  rw [pairR_get]
  have HB1 := Lib.hid hB1
  clear hB1
  generalize hp : pairR R r = p at HOk ⊢
  generalize hb' : pairOk R r = b at HOk ⊢
  have HP := Lib.hid hp
  have HBq := Lib.hid hb'
  clear hp hb'
  unfold aggP
  have hq := fun w => eq_pair w p.1 p.2 0 0
  have hb : (!decide ((p.1, p.2) = ((0, 0) : Int × Int))) = b := by rw [HOk.out]; exact (decide_not (p := p = ((0, 0) : Int × Int))).symm
  generalize (decide ((p.1, p.2) = ((0, 0) : Int × Int))) = c at hq hb
  go_wp2_with fail
  go_quiet (fail)
  go_wp2_with fail
  go_ret3
  exact ⟨by rw [HP.out, HBq.out]; rfl, below_dN (HB1.out.alloc HB1.out.size _) nq⟩
theorem outT_eq (R : List Rw) (r : Int) : outT R r = (pairOk R r && (decide ((pairR R r).2 = 0) || ((flgR R r).out || (decide (ofA R 1 r ≠ 0) || decide (ofA R 1 (pairR R r).1 ≠ 0))))) := by
  unfold outT flgR
  simp only [Bool.or_assoc]
theorem ret_b {a b : Bool} (h : a = b) : Ending.returned (.bool a) = .returned (.bool b) := by rw [h]
set_option maxRecDepth 100000 in
set_option maxHeartbeats 1000000 in
theorem out_any (h : TabT R B w tp cb gb jb fb pb) (hB : B ≤ w.heap.size) (r : Int) (b1 : -2147483648 ≤ r) (b2 : r ≤ 2147483647) :
    Calls Tryz.prog 70 #[.pointer (some ⟨tp, 0, none⟩), .int .i32 r] w fun e w' => e = .returned (.bool (outT R r)) ∧ Below w.heap.size w w' := by
  have HO := Lib.hid (outT_eq R r)
  have hrng := pairR_rng R r
  have e1 := IntWalk.i64_in r (by omega)
  have H := Lib.hid h
  go_enter Tryz.func70, Tryz.ntmps70
  go_wp2_with fail
  refine (pair_any h hB r b1 b2).mono ?_
  rintro e w1 ⟨rfl, hB1⟩
  have HT1 := Lib.hid (h.below hB1 hB)
  have HB1 := Lib.hid hB1
  have hs1 : B ≤ w1.heap.size := Nat.le_trans hB hB1.size
  have hc3 := HT1.out.c3
  clear hB1 h
  obtain ⟨hr1, hr2⟩ := hrng
  generalize pairR R r = p at HO hr1 hr2 ⊢
  cases hok : pairOk R r with
  | false =>
    rw [hok] at HO
    clear hok
    go_wp2_with fail
    go_ret
    exact ⟨ret_b (by rw [HO.out]; rfl), HB1.out⟩
  | true =>
    rw [hok] at HO
    clear hok
    by_cases hb0 : p.2 = 0
    · have q0 : (p.2 == 0) = true := by simpa using hb0
      rw [decide_eq_true hb0] at HO
      clear hb0
      go_wp2_with fail
      go_ret
      exact ⟨ret_b (by rw [HO.out]; rfl), HB1.out⟩
    · have q0 : (p.2 == 0) = false := by simpa using hb0
      rw [decide_eq_false hb0] at HO
      clear hb0
      go_wp2_with fail
      refine (get_flags (flgR R) B fb r w1 HT1.out.t3 hs1).mono ?_
      rintro e w2 ⟨rfl, hB2⟩
      rw [flgR_get]
      have HT2 := Lib.hid (HT1.out.below hB2 hs1)
      have HB2 := Lib.hid (below_trans' HB1.out hB2)
      have hs2 : B ≤ w2.heap.size := Nat.le_trans hs1 hB2.size
      unfold aggF
      clear hB2
      generalize flgR R r = fl at HO ⊢
      cases hfl : fl.out with
      | true =>
        rw [hfl] at HO
        go_wp2_with fail
        refine upon_run (run_field1 w2 Tryz.underlying194 rfl Tryz.isAgg4 rfl) ?_
        clear hfl
        go_wp2_with fail
        go_ret
        exact ⟨ret_b (by rw [HO.out]; rfl), HB2.out⟩
      | false =>
        rw [hfl] at HO
        go_wp2_with fail
        refine upon_run (run_field1 w2 Tryz.underlying194 rfl Tryz.isAgg4 rfl) ?_
        clear hfl
        go_wp2_with fail
        refine (class_any HT2.out r b1 b2).mono ?_
        rintro e w3 ⟨rfl, hB3⟩
        have HT3 := Lib.hid (HT2.out.below hB3 hs2)
        have HB3 := Lib.hid (below_trans' HB2.out hB3)
        have hs3 : B ≤ w3.heap.size := Nat.le_trans hs2 hB3.size
        clear hB3
        by_cases hc : ofA R 1 r = 0
        · have q1 : (ofA R 1 r == 0) = true := by simpa using hc
          rw [show decide (ofA R 1 r ≠ 0) = false by simp [hc]] at HO
          go_wp2_with fail
          refine (class_any HT3.out p.1 (by omega) (by omega)).mono ?_
          rintro e w4 ⟨rfl, hB4⟩
          have HB4 := Lib.hid (below_trans' HB3.out hB4)
          clear hB4
          by_cases hd : ofA R 1 p.1 = 0
          · have q2 : (ofA R 1 p.1 == 0) = true := by simpa using hd
            rw [show decide (ofA R 1 p.1 ≠ 0) = false by simp [hd]] at HO
            go_wp2_with fail
            go_ret
            exact ⟨ret_b (by rw [HO.out]; simp), HB4.out⟩
          · have q2 : (ofA R 1 p.1 == 0) = false := by simpa using hd
            rw [show decide (ofA R 1 p.1 ≠ 0) = true by simp [hd]] at HO
            go_wp2_with fail
            go_ret
            exact ⟨ret_b (by rw [HO.out]; simp [bne, q2]), HB4.out⟩
        · have q1 : (ofA R 1 r == 0) = false := by simpa using hc
          rw [show decide (ofA R 1 r ≠ 0) = true by simp [hc]] at HO
          go_wp2_with fail
          go_ret
          exact ⟨ret_b (by rw [HO.out]; first | rfl | simp [bne, q1, hc]), HB3.out⟩
end
end Go.Proofs.YtkeainhjghdfcaaGreat

/- Cells kept while maps change; what is made of pairs, number by number. -/
namespace Go.Proofs.YtkeainhjghdfcaaGreat
open Go.RowKit

/-- all cells are as they were -/
def CK (w w' : World) : Prop := ∀ (a : Addr) (v : Value), w.cell? a = some v → w'.cell? a = some v
theorem CK.refl (w : World) : CK w w := fun _ _ h => h
theorem CK.trans {w w1 w2 : World} (h : CK w w1) (k : CK w1 w2) : CK w w2 := fun a v e => k a v (h a v e)
theorem ck_below {w w' : World} (h : Below w.heap.size w w') : CK w w' := fun a _ e => (World.cell?_of_block (h.block a.block (World.block_lt_of_cell? w a e))).trans e
theorem ck_map {w w' : World} {b : Nat} (hm : ∃ es c, w.heap[b]? = some (.map es c)) (h : w.grownBy w' (some b)) : CK w w' := fun a v e => by
  have hl := World.block_lt_of_cell? w a e
  by_cases hb : a.block = b
  · obtain ⟨es, c, hm⟩ := hm
    unfold World.cell? at e
    rw [hb, hm] at e
    cases e
  · exact (World.cell?_of_block (h.block a.block hl (fun e => hb (by injection e)))).trans e
theorem Rd.ck {B sz n : Nat} {w w' : World} {v : Value} {xs : List Value} (h : Rd B w sz v n xs) (hc : CK w w') : Rd B w' sz v n xs := by
  obtain ⟨a, cap, rfl, h1, h2, h3, h4⟩ := h
  exact ⟨a, cap, rfl, h1, h2, h3, fun hn => let ⟨b, off, e, hb, hq⟩ := h4 hn; ⟨b, off, e, hb, fun j u hu => hc _ _ (hq j u hu)⟩⟩
theorem TrieAt.ck {α : Type} {enc : α → List Value} {sz : Nat} {g : Int → α} {B : Nat} {w w' : World} {tb : Nat} (h : TrieAt enc sz g B w tb) (hc : CK w w') : TrieAt enc sz g B w' tb := by
  obtain ⟨v1, v2, ks, bl, h0, h1, h2, h3, h4, h5, h6, h7⟩ := h
  exact ⟨v1, v2, ks, bl, h0, hc _ _ h1, hc _ _ h2, hc _ _ h3, h4.ck hc, h5.ck hc, h6, h7⟩
/-- all cells but those that hold nil are as they were -/
def CKn (w w' : World) : Prop := ∀ (a : Addr) (v : Value), w.cell? a = some v → v ≠ .pointer none → w'.cell? a = some v
theorem ckn_set {w : World} {a : Addr} {v : Value} (h : w.cell? a = some (.pointer none)) : CKn w (w.setCell a v) := fun b u hb hn => by
  by_cases e : a = b
  · subst e
    rw [h] at hb
    cases hb
    exact absurd rfl hn
  · rw [World.cell?_setCell_other _ _ _ _ (fun h => e h)]; exact hb
theorem Rd.ckn {B sz n : Nat} {w w' : World} {v : Value} {xs : List Value} (h : Rd B w sz v n xs) (hc : CKn w w') (hx : ∀ u ∈ xs, u ≠ .pointer none) : Rd B w' sz v n xs := by
  obtain ⟨a, cap, rfl, h1, h2, h3, h4⟩ := h
  exact ⟨a, cap, rfl, h1, h2, h3, fun hn => let ⟨b, off, e, hb, hq⟩ := h4 hn; ⟨b, off, e, hb, fun j u hu => hc _ _ (hq j u hu) (hx u (List.mem_of_getElem? hu))⟩⟩
theorem TrieAt.ckn {α : Type} {enc : α → List Value} {sz : Nat} {g : Int → α} {B : Nat} {w w' : World} {tb : Nat} (h : TrieAt enc sz g B w tb) (hc : CKn w w') (he : ∀ x, ∀ u ∈ enc x, u ≠ .pointer none) : TrieAt enc sz g B w' tb := by
  obtain ⟨v1, v2, ks, bl, h0, h1, h2, h3, h4, h5, h6, h7⟩ := h
  have e1 : v1 ≠ .pointer none := by obtain ⟨a, c, rfl, _⟩ := h4; intro e; cases e
  have e2 : v2 ≠ .pointer none := by obtain ⟨a, c, rfl, _⟩ := h5; intro e; cases e
  refine ⟨v1, v2, ks, bl, h0, hc _ _ h1 (fun e => by cases e), hc _ _ h2 e1, hc _ _ h3 e2, h4.ckn hc ?_, h5.ckn hc ?_, h6, h7⟩
  · intro u hu
    obtain ⟨k, _, rfl⟩ := List.mem_map.1 hu
    intro e; cases e
  · intro u hu
    obtain ⟨L, _, hL⟩ := List.mem_flatMap.1 hu
    obtain ⟨x, _, hx⟩ := List.mem_flatMap.1 hL
    exact he x u hx
theorem ienc1_nn (x : Int) : ∀ u ∈ ienc1 x, u ≠ .pointer none := by intro u hu; simp [ienc1] at hu; subst hu; intro e; cases e
theorem penc_nn (x : Pr) : ∀ u ∈ penc x, u ≠ .pointer none := by intro u hu; simp [penc] at hu; rcases hu with rfl | rfl <;> (intro e; cases e)
theorem fenc_nn (x : Flg) : ∀ u ∈ fenc x, u ≠ .pointer none := by intro u hu; simp [fenc] at hu; rcases hu with rfl | rfl | rfl | rfl <;> (intro e; cases e)
theorem spenc_nn (S : List Span) : ∀ u ∈ S.flatMap spenc, u ≠ .pointer none := by
  intro u hu
  obtain ⟨s, _, hs⟩ := List.mem_flatMap.1 hu
  simp [spenc] at hs
  rcases hs with rfl | rfl | rfl | rfl <;> (intro e; cases e)
theorem TrieAt.mono {α : Type} {enc : α → List Value} {sz : Nat} {g : Int → α} {B B' : Nat} {w : World} {tb : Nat} (h : TrieAt enc sz g B w tb) (hB : B ≤ B') : TrieAt enc sz g B' w tb := by
  obtain ⟨v1, v2, ks, bl, h0, h1, h2, h3, h4, h5, h6, h7⟩ := h
  exact ⟨v1, v2, ks, bl, Nat.lt_of_lt_of_le h0 hB, h1, h2, h3, h4.mono hB, h5.mono hB, h6, h7⟩
theorem TabT.ck {R : List Rw} {B : Nat} {w w' : World} {tp cb gb jb fb pb : Nat} (h : TabT R B w tp cb gb jb fb pb) (hc : CK w w') : TabT R B w' tp cb gb jb fb pb :=
  ⟨hc _ _ h.c0, hc _ _ h.c1, hc _ _ h.c2, hc _ _ h.c3, hc _ _ h.c4, h.lt, h.t0.ck hc, h.t1.ck hc, h.t2.ck hc, h.t3.ck hc, h.t4.ck hc⟩

theorem TabT.mono {R : List Rw} {B B' : Nat} {w : World} {tp cb gb jb fb pb : Nat} (h : TabT R B w tp cb gb jb fb pb) (hB : B ≤ B') : TabT R B' w tp cb gb jb fb pb :=
  ⟨h.c0, h.c1, h.c2, h.c3, h.c4, Nat.lt_of_lt_of_le h.lt hB, h.t0.mono hB, h.t1.mono hB, h.t2.mono hB, h.t3.mono hB, h.t4.mono hB⟩
/-- there is a row of pairs for r -/
def dom (R : List Rw) (r : Int) : Prop := ∃ x, fnd R 2 r = some x
structure MadeOn (R : List Rw) (cur : Int) (f : Pr → Option Int) (g : Int → Option Bool) : Prop where
  f : ∀ x r, f x = some r ↔ dom R r ∧ r < cur ∧ pairR R r = x ∧ outT R r = false ∧ ∀ r', dom R r' → r' < r → pairR R r' = x → outT R r' = true
  g : ∀ y b, g y = some b ↔ b = true ∧ ∃ r, dom R r ∧ r < cur ∧ (pairR R r).2 = y ∧ outT R r = false
theorem madeOn_zero (R : List Rw) : MadeOn R 0 (fun _ => none) (fun _ => none) := by
  have hd : ∀ r, dom R r → 0 ≤ r := fun r ⟨x, hx⟩ => by
    unfold fnd at hx
    split at hx
    · rename_i h; exact h.1
    · cases hx
  refine ⟨fun x r => ⟨fun h => (by cases h), fun ⟨h1, h2, _⟩ => by have := hd r h1; omega⟩, fun y b => ⟨fun h => (by cases h), fun ⟨_, r, h1, h2, _⟩ => by have := hd r h1; omega⟩⟩
theorem MadeOn.skip {R : List Rw} {cur cur' : Int} {f : Pr → Option Int} {g : Int → Option Bool} (h : MadeOn R cur f g) (hc : cur ≤ cur') (hn : ∀ r, cur ≤ r → r < cur' → ¬ dom R r) : MadeOn R cur' f g := by
  have hl : ∀ r, dom R r → (r < cur ↔ r < cur') := fun r hr => ⟨fun h => by omega, fun h => by
    rcases Int.lt_or_le r cur with h1 | h1
    · exact h1
    · exact absurd hr (hn r h1 h)⟩
  refine ⟨fun x r => (h.f x r).trans ?_, fun y b => (h.g y b).trans ?_⟩
  · constructor
    · rintro ⟨h1, h2, h3⟩; exact ⟨h1, (hl r h1).1 h2, h3⟩
    · rintro ⟨h1, h2, h3⟩; exact ⟨h1, (hl r h1).2 h2, h3⟩
  · constructor
    · rintro ⟨h0, r, h1, h2, h3⟩; exact ⟨h0, r, h1, (hl r h1).1 h2, h3⟩
    · rintro ⟨h0, r, h1, h2, h3⟩; exact ⟨h0, r, h1, (hl r h1).2 h2, h3⟩
/-- r adds nothing: it is out, or its pair is there already -/
theorem MadeOn.pass {R : List Rw} {cur : Int} {f : Pr → Option Int} {g : Int → Option Bool} (h : MadeOn R cur f g) (hp : outT R cur = true ∨ ∃ r, f (pairR R cur) = some r) : MadeOn R (cur + 1) f g := by
  refine ⟨fun x r => (h.f x r).trans ?_, fun y b => (h.g y b).trans ?_⟩
  · constructor
    · rintro ⟨h1, h2, h3⟩; exact ⟨h1, by omega, h3⟩
    · rintro ⟨h1, h2, h3, h4, h5⟩
      refine ⟨h1, ?_, h3, h4, h5⟩
      by_cases hr : r = cur
      · subst hr
        rcases hp with hp | ⟨r0, hr0⟩
        · rw [hp] at h4; cases h4
        · obtain ⟨a1, a2, a3, a4, _⟩ := (h.f _ _).1 hr0
          have := h5 r0 a1 a2 (a3.trans h3)
          rw [this] at a4; cases a4
      · omega
  · constructor
    · rintro ⟨h0, r, h1, h2, h3⟩; exact ⟨h0, r, h1, by omega, h3⟩
    · rintro ⟨h0, r, h1, h2, h3, h4⟩
      by_cases hr : r = cur
      · subst hr
        rcases hp with hp | ⟨r0, hr0⟩
        · rw [hp] at h4; cases h4
        · obtain ⟨a1, a2, a3, a4, _⟩ := (h.f _ _).1 hr0
          exact ⟨h0, r0, a1, a2, by rw [a3]; exact h3, a4⟩
      · exact ⟨h0, r, h1, by omega, h3, h4⟩
theorem MadeOn.put {R : List Rw} {cur : Int} {f : Pr → Option Int} {g : Int → Option Bool} (h : MadeOn R cur f g) (hd : dom R cur) (ho : outT R cur = false) (hf : f (pairR R cur) = none) : MadeOn R (cur + 1) (fnPut f (pairR R cur) cur) (fnPut g (pairR R cur).2 true) := by
  have hno : ∀ r', dom R r' → r' < cur → pairR R r' = pairR R cur → outT R r' = true := by
    -- the least one that is not out would be in f
    have key : ∀ n : Nat, ∀ r' : Int, r'.toNat ≤ n → 0 ≤ r' → dom R r' → r' < cur → pairR R r' = pairR R cur → outT R r' = true := by
      intro n
      induction n with
      | zero =>
        intro r' hn h0 h1 h2 h3
        cases ho' : outT R r' with
        | true => rfl
        | false =>
          have : f (pairR R cur) = some r' := (h.f _ _).2 ⟨h1, h2, h3, ho', fun q hq hql _ => by
            obtain ⟨x, hx⟩ := hq
            unfold fnd at hx
            split at hx
            · rename_i hr; omega
            · cases hx⟩
          rw [hf] at this; cases this
      | succ n ih =>
        intro r' hn h0 h1 h2 h3
        cases ho' : outT R r' with
        | true => rfl
        | false =>
          have : f (pairR R cur) = some r' := (h.f _ _).2 ⟨h1, h2, h3, ho', fun q hq hql hqp => by
            have hq0 : 0 ≤ q := by
              obtain ⟨x, hx⟩ := hq
              unfold fnd at hx
              split at hx
              · rename_i hr; exact hr.1
              · cases hx
            exact ih q (by omega) hq0 hq (by omega) hqp⟩
          rw [hf] at this; cases this
    intro r' h1 h2 h3
    have hq0 : 0 ≤ r' := by
      obtain ⟨x, hx⟩ := h1
      unfold fnd at hx
      split at hx
      · rename_i hr; exact hr.1
      · cases hx
    exact key r'.toNat r' (Nat.le_refl _) hq0 h1 h2 h3
  refine ⟨fun x r => ?_, fun y b => ?_⟩
  · by_cases hx : x = pairR R cur
    · subst hx
      rw [fnPut_same]
      constructor
      · intro e
        cases e
        exact ⟨hd, by omega, rfl, ho, hno⟩
      · rintro ⟨h1, h2, h3, h4, h5⟩
        by_cases hr : r = cur
        · rw [hr]
        · have := hno r h1 (by omega) h3
          rw [this] at h4; cases h4
    · rw [fnPut_other _ _ hx, h.f x r]
      constructor
      · rintro ⟨h1, h2, h3⟩; exact ⟨h1, by omega, h3⟩
      · rintro ⟨h1, h2, h3, h4⟩
        refine ⟨h1, ?_, h3, h4⟩
        by_cases hr : r = cur
        · subst hr; exact absurd h3.symm hx
        · omega
  · by_cases hy : y = (pairR R cur).2
    · subst hy
      rw [fnPut_same]
      constructor
      · intro e
        cases e
        exact ⟨rfl, cur, hd, by omega, rfl, ho⟩
      · rintro ⟨h0, _⟩; rw [h0]
    · rw [fnPut_other _ _ hy, h.g y b]
      constructor
      · rintro ⟨h0, r, h1, h2, h3⟩; exact ⟨h0, r, h1, by omega, h3⟩
      · rintro ⟨h0, r, h1, h2, h3, h4⟩
        refine ⟨h0, r, h1, ?_, h3, h4⟩
        by_cases hr : r = cur
        · subst hr; exact absurd h3.symm hy
        · omega
theorem dom_iff {S : List Span} {R : List Rw} (hS : Says S R 2) (r : Int) : dom R r ↔ ∃ s ∈ S, s.f ≤ r ∧ r ≤ s.t := by
  have h := hS r
  unfold ansS ansR at h
  constructor
  · rintro ⟨x, hx⟩
    rw [hx] at h
    cases hf : S.find? (hasS r) with
    | none => rw [hf] at h; cases h
    | some s => exact ⟨s, List.mem_of_find?_eq_some hf, hasS_iff.1 (List.find?_some hf)⟩
  · rintro ⟨s, hs, h1, h2⟩
    cases hx : fnd R 2 r with
    | some x => exact ⟨x, hx⟩
    | none =>
      rw [hx] at h
      cases hf : S.find? (hasS r) with
      | none =>
        rw [List.find?_eq_none] at hf
        exact absurd (hasS_iff.2 ⟨h1, h2⟩) (hf s hs)
      | some s' => rw [hf] at h; cases h
end Go.Proofs.YtkeainhjghdfcaaGreat
