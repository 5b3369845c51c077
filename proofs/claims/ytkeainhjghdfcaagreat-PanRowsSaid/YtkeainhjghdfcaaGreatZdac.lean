/- Joined texts: DecB DecC GlyS PanA PanB PanD. -/
import Derived.Lib.ConvBytes
import Derived.Test.YtkeainhjghdfcaaGreatZdab
import Derived.Test.YtkeainhjghdfcaaGreatZaaa
import Derived.Test.YtkeainhjghdfcaaGreatZcaa
import Derived.Test.YtkeainhjghdfcaaGreatZdaa
/- utf: a decoder takes a byte. -/
namespace Go.Proofs.YtkeainhjghdfcaaGreat
open Go.RowKit

/-- states that a decoder may be in -/
structure DcOk (d : Dc) : Prop where
  nd : 0 ≤ d.nd ∧ d.nd ≤ 3
  hv : 0 ≤ d.hv ∧ d.nd + d.hv ≤ 4
  vl : 0 ≤ d.vl ∧ (d.nd = 3 → d.vl < 8) ∧ (d.nd = 2 → d.vl < 512) ∧ (d.nd = 1 → d.vl < 32768)
theorem dcOk_of {nd hv lo hi vl : Int} (h1 : 0 ≤ nd ∧ nd ≤ 3) (h2 : 0 ≤ hv ∧ nd + hv ≤ 4) (h3 : 0 ≤ vl ∧ (nd = 3 → vl < 8) ∧ (nd = 2 → vl < 512) ∧ (nd = 1 → vl < 32768)) : DcOk ⟨nd, hv, lo, hi, vl⟩ := ⟨h1, h2, h3⟩
theorem dcOk_0 : DcOk Dc0 := dcOk_of (by omega) (by omega) (by omega)
theorem dcOk_first {b : Int} (_h0 : 0 ≤ b) (_h1 : b ≤ 255) : DcOk (fstD b).1 := by
  unfold fstD
  split
  · exact dcOk_0
  · split
    · exact dcOk_0
    · show DcOk (Dc1 b)
      unfold Dc1
      by_cases c1 : b < 224
      · rw [if_pos c1, if_pos c1]
        exact dcOk_of (by omega) (by omega) (by omega)
      · rw [if_neg c1, if_neg c1]
        by_cases c2 : b < 240
        · rw [if_pos c2, if_pos c2]
          exact dcOk_of (by omega) (by omega) (by omega)
        · rw [if_neg c2, if_neg c2]
          exact dcOk_of (by omega) (by omega) (by omega)
theorem dcOk_feed {d : Dc} (hd : DcOk d) {b : Int} (h0 : 0 ≤ b) (h1 : b ≤ 255) : DcOk (fdD d b).1 := by
  unfold fdD
  split
  · exact dcOk_first h0 h1
  · split
    · exact dcOk_first h0 h1
    · split
      · exact dcOk_0
      · obtain ⟨n1, n2⟩ := hd.nd
        obtain ⟨v1, v2⟩ := hd.hv
        obtain ⟨u1, u2, u3, u4⟩ := hd.vl
        refine ⟨⟨?_, ?_⟩, ⟨?_, ?_⟩, ⟨?_, ?_, ?_, ?_⟩⟩
        · show 0 ≤ d.nd - 1; omega
        · show d.nd - 1 ≤ 3; omega
        · show 0 ≤ d.hv + 1; omega
        · show d.nd - 1 + (d.hv + 1) ≤ 4; omega
        · show 0 ≤ d.vl * 64 + b % 64; omega
        · show d.nd - 1 = 3 → _; omega
        · show d.nd - 1 = 2 → d.vl * 64 + b % 64 < 512
          intro h
          have := u2 (by omega)
          omega
        · show d.nd - 1 = 1 → d.vl * 64 + b % 64 < 32768
          intro h
          have := u3 (by omega)
          omega
theorem oper_app_rd {P : Program} (w : World) {o : Oper} {act : Act} {K : Act → World → Prop} {Q : Exit → Act → World → Prop} (s x : Operand) (t : TypeId)
    (ho : o.op = .call { callee := .builtin .append, args := #[s, x], argTypes := #[t, t] })
    {base e size bytes B : Nat} (E : ElemT P t e size bytes) (v : Value) (n : Nat) (xs : List Value) (hs : act.eval s = v) (hown : w.ownsRow base e size v n xs)
    (u : Value) (m : Nat) (news : List Value) (hx : act.eval x = u) (hR : Rd B w size u m news) (h1 : ∀ u ∈ news, u.oneCell' = true)
    (hbytes : (n + m) * bytes ≤ 140737488355328) (hbase : base ≤ w.heap.size)
    (h : ∀ v' w', w'.ownsRow base e size v' (n + m) (xs ++ news) → w.grownBy w' v.ownBlock → K (act.put o.dst v') w') : o.wp P act w K Q := by
  obtain ⟨v', w', hr, h2, h3⟩ := run_app_rd (P := P) (ty := o.type) w E v n xs hown u m news hR h1 hbytes hbase
  unfold Oper.wp execOp
  simp only [ho, resolve, invoke, builtin, Sem.run_bind, Sem.run_pure, Result.andThen_ok, List.map_toArray, List.map_cons, List.map_nil, hs, hx, hr]
  exact h v' w' h2 h3
theorem range_far {w : World} {p b i : Nat} {u : Value} {xs : List Value} (h : w.rangeAt p 0 xs) (hne : p ≠ b) : (w.setCell ⟨b, i, none⟩ u).rangeAt p 0 xs := fun j x hx =>
  (World.cell?_setCell_other _ _ _ _ (fun e => hne (by injection e with e1; first | exact e1 | exact e1.symm))).trans (h j x hx)
theorem range_stays {w w' : World} {p : Nat} {xs : List Value} (h : w.rangeAt p 0 xs) (hb : w'.heap[p]? = w.heap[p]?) : w'.rangeAt p 0 xs := fun j x hx => (World.cell?_of_block hb).trans (h j x hx)
end Go.Proofs.YtkeainhjghdfcaaGreat

/- utf: End, Decode. (Printed by gen_decode.py.) -/
namespace Go.Proofs.YtkeainhjghdfcaaGreat
open Go.RowKit Go.Lib

/-- a string's bytes as numbers -/
def bytesN (s : ByteArray) : List Int := s.data.toList.map fun b => ((b.toNat : Nat) : Int)
theorem bytesN_len (s : ByteArray) : (bytesN s).length = s.size := by unfold bytesN; rw [List.length_map]; rfl
theorem bytesN_rng (s : ByteArray) : ∀ x ∈ bytesN s, 0 ≤ x ∧ x ≤ 255 := by
  intro x hx
  obtain ⟨b, _, rfl⟩ := List.mem_map.1 hx
  have := b.toNat_lt
  omega
theorem bytesN_get (s : ByteArray) {k : Nat} (hk : k < s.size) : (bytesN s)[k]? = some (((s.data.toList.getD k 0).toNat : Nat) : Int) := by
  have hl : k < s.data.toList.length := hk
  unfold bytesN
  rw [List.getElem?_map, List.getElem?_eq_getElem hl, List.getD_eq_getElem?_getD, List.getElem?_eq_getElem hl]
  rfl
theorem fdD_len (d : Dc) (b : Int) : (fdD d b).2.length ≤ 2 := by
  have h1 : (fstD b).2.length ≤ 1 := by unfold fstD; split <;> (try split) <;> simp
  unfold fdD
  split
  · omega
  · split
    · simp; omega
    · split <;> simp
theorem outD_len : ∀ (l : List Int) (d : Dc), (outD d l).length ≤ 2 * l.length
  | [], _ => by simp [outD]
  | b :: l, d => by
    have h1 := outD_len l (fdD d b).1
    have h2 := fdD_len d b
    show ((fdD d b).2 ++ outD (fdD d b).1 l).length ≤ _
    rw [List.length_append, List.length_cons]
    omega
theorem endD_len (d : Dc) : (endD d).length ≤ 1 := by unfold endD; split <;> simp
theorem decS_len (l : List Int) : (decS Dc0 l).length ≤ 2 * l.length + 1 := by
  have h1 := outD_len l Dc0
  have h2 := endD_len (stD Dc0 l)
  rw [decS_out, List.length_append]
  omega
theorem stD_ok : ∀ (l : List Int) (d : Dc), DcOk d → (∀ x ∈ l, 0 ≤ x ∧ x ≤ 255) → DcOk (stD d l)
  | [], _, h, _ => h
  | b :: l, _, h, hb => stD_ok l _ (dcOk_feed h (hb b List.mem_cons_self).1 (hb b List.mem_cons_self).2) (fun x hx => hb x (List.mem_cons_of_mem _ hx))
theorem row_set5 {w : World} {b : Nat} {t : TypeId} {a0 a1 a2 a3 a4 : Value} (h : w.heap[b]? = some (.cells #[a0, a1, a2, a3, a4] t (0, 0))) (x0 x1 x2 x3 x4 : Value) :
    (((((w.setCell ⟨b, 0, none⟩ x0).setCell ⟨b, 1, none⟩ x1).setCell ⟨b, 2, none⟩ x2).setCell ⟨b, 3, none⟩ x3).setCell ⟨b, 4, none⟩ x4).heap[b]? = some (.cells #[x0, x1, x2, x3, x4] t (0, 0)) :=
  heap_setCell_same _ _ _ _ _ _ (heap_setCell_same _ _ _ _ _ _ (heap_setCell_same _ _ _ _ _ _ (heap_setCell_same _ _ _ _ _ _ (heap_setCell_same _ _ _ _ _ _ h))))
theorem bytesWorld_below (w : World) (e : TypeId) (s : ByteArray) : Below w.heap.size w (bytesWorld w e s) :=
  ⟨by simp [bytesWorld, World.freeze, World.alloc, World.drew, -World.alloc_eq, -World.drew_eq], by simp [bytesWorld, World.freeze, World.alloc, World.drew, -World.alloc_eq, -World.drew_eq], by simp [bytesWorld, World.freeze, World.alloc, World.drew, -World.alloc_eq, -World.drew_eq],
    by rw [bytesWorld_size]; omega, fun j hj => bytesWorld_at_old w e s j hj⟩
end Go.Proofs.YtkeainhjghdfcaaGreat

/- glyph.Read, the document's Right. -/
namespace Go.Proofs.YtkeainhjghdfcaaGreat
open Go.RowKit

theorem fstD_rng {b : Int} (h0 : 0 ≤ b) (h1 : b ≤ 255) : ∀ x ∈ (fstD b).2, 0 ≤ x ∧ x ≤ 2097151 := by
  intro x hx
  unfold fstD at hx
  split at hx
  · simp at hx; omega
  · split at hx
    · simp at hx; omega
    · simp at hx
theorem fdD_rng {d : Dc} (hd : DcOk d) {b : Int} (h0 : 0 ≤ b) (h1 : b ≤ 255) : ∀ x ∈ (fdD d b).2, 0 ≤ x ∧ x ≤ 2097151 := by
  intro x hx
  unfold fdD at hx
  split at hx
  · exact fstD_rng h0 h1 x hx
  · split at hx
    · simp only [List.mem_cons] at hx
      rcases hx with rfl | hx
      · omega
      · exact fstD_rng h0 h1 x hx
    · split at hx
      · rename_i h2
        have := hd.vl
        simp at hx
        omega
      · simp at hx
theorem decS_rng : ∀ (l : List Int) (d : Dc), DcOk d → (∀ x ∈ l, 0 ≤ x ∧ x ≤ 255) → ∀ x ∈ decS d l, 0 ≤ x ∧ x ≤ 2097151
  | [], d, _, _ => by
    intro x hx
    unfold decS endD at hx
    split at hx <;> simp at hx
    omega
  | b :: l, d, hd, hb => by
    intro x hx
    have hb0 := hb b List.mem_cons_self
    rcases List.mem_append.1 (show x ∈ (fdD d b).2 ++ decS (fdD d b).1 l from hx) with h | h
    · exact fdD_rng hd hb0.1 hb0.2 x h
    · exact decS_rng l _ (dcOk_feed hd hb0.1 hb0.2) (fun y hy => hb y (List.mem_cons_of_mem _ hy)) x h
theorem decS_ok (s : ByteArray) : RunesOk (decS Dc0 (bytesN s)) := fun x hx => by
  have := decS_rng (bytesN s) Dc0 dcOk_0 (bytesN_rng s) x hx
  unfold I32
  omega
/-- what a terminal takes scalars for -/
def rdG (R : List Rw) (c : List Int) : Gy := (enc c, ((widN R c : Nat) : Int))
def readG (R : List Rw) (l : List Int) : List Gy := (clus (tabOf R) l).map (rdG R)
section
variable {R : List Rw} {w : World} {tp : Nat}
end
section
variable {w : World} {sv : Value} {s : List Int}
theorem fix_snoc {k : Nat} {x : Int} (hx : s[k]? = some x) : (s.take (k + 1)).map fixR = (s.take k).map fixR ++ [fixR x] := by
  rw [List.take_add_one, hx, List.map_append]; rfl
theorem right_ok (l : List Int) : ∀ x ∈ l.map fixR, validB x = true := by
  intro x hx
  obtain ⟨y, _, rfl⟩ := List.mem_map.1 hx
  unfold fixR
  split
  · assumption
  · decide
end
end Go.Proofs.YtkeainhjghdfcaaGreat

/- pan: columns of glyphs. -/
namespace Go.Proofs.YtkeainhjghdfcaaGreat
open Go.RowKit

/-- columns of glyphs -/
def wdL (G : List Gy) : List Int := G.map (·.2)
theorem wdL_len (G : List Gy) : (wdL G).length = G.length := List.length_map _
theorem wdL_get {G : List Gy} {k : Nat} {x : Gy} (h : G[k]? = some x) : (wdL G)[k]? = some x.2 := by unfold wdL; rw [List.getElem?_map, h]; rfl
theorem wdL_sub (G : List Gy) (i j : Nat) : wdL ((G.take j).drop i) = ((wdL G).take j).drop i := by unfold wdL; rw [List.map_drop, List.map_take]
theorem sW_all (ws : List Int) : sW ws 0 ws.length = ws.sum := by unfold sW; rw [List.take_length, List.drop_zero]
theorem wdA_get {ws : List Int} {k : Nat} {x : Int} (h : ws[k]? = some x) : wdA ws k = x := by unfold wdA; rw [h]; rfl
theorem gly_part {w : World} {a : Option Addr} {cap : Nat} {G : List Gy} (h : GlyIn w (.slice a G.length cap) G) {i j : Nat} (hij : i ≤ j) (hj : j ≤ G.length) :
    GlyIn w (.slice (if cap = i then a else a.map (·.add (i * 2))) (j - i) (cap - i)) ((G.take j).drop i) := by
  obtain ⟨a', cap', hv, h1, h2, h3, h4⟩ := h
  cases hv
  have hl : ((G.take j).drop i).length = j - i := by rw [List.length_drop, List.length_take]; omega
  refine ⟨_, cap - i, by rw [hl], by omega, by omega, flat_len gyE_len _, fun hn => ?_⟩
  rw [hl] at hn
  obtain ⟨b, off, rfl, hb, hc⟩ := h4 (by omega)
  refine ⟨b, off + i * 2, ?_, hb, fun q u hu => ?_⟩
  · rw [if_neg (by omega), Option.map_some, addr_off]
  · obtain ⟨p, x, hx, k, hk, rfl, hku⟩ := flat_index gyE_len _ q u hu
    rw [List.getElem?_drop, List.getElem?_take] at hx
    split at hx
    · have h5 := flat_get gyE_len G (i + p) x k u hx hku
      have h6 := hc _ _ h5
      rw [show off + i * 2 + (p * 2 + k) = off + ((i + p) * 2 + k) by rw [Nat.add_mul]; omega]
      exact h6
    · cases hx
section
variable {w : World} {v : Value} {G : List Gy}
set_option maxRecDepth 100000 in
theorem pwidth_any (h : GlyIn w v G) (hw : W12 (wdL G)) (hl : G.length ≤ 100000) : Calls Tryz.prog 47 #[v] w fun e w' => e = .returned (.int .i64 ((wdL G).sum)) ∧ Below w.heap.size w w' := by
  obtain ⟨a, cap, rfl, hc1, hc2⟩ := gly_shape h
  unfold maxLen at hc2
  have HG := Lib.hid h
  have HW := Lib.hid hw
  clear h hw
  go_enter Tryz.func47, Tryz.ntmps47
  go_wp2_with fail
  go_loopw [3, 8] (fun nv iv wr => ∃ k : Nat, k ≤ G.length ∧ iv = .int .i64 (k : Int) ∧ nv = .int .i64 (sW (wdL G) 0 k) ∧ Below w.heap.size w wr) (fun _ iv _ => G.length - (intOf iv).toNat)
  case atStart => exact ⟨0, Nat.zero_le _, rfl, by rw [sW_self], .refl _ _⟩
  case round =>
    obtain ⟨k, hk, rfl, rfl, hB⟩ := hrel
    have HB := Lib.hid hB
    have hr := sW_rng HW.out 0 k
    rw [wdL_len] at hr
    by_cases hlt : k < G.length
    · obtain ⟨x, hx⟩ : ∃ x, G[k]? = some x := ⟨G[k], List.getElem?_eq_getElem hlt⟩
      obtain ⟨b, off, cap', hv, _, _, _, z0, z1⟩ := gly_cells (HG.out.below hB) hx
      cases hv
      have hn := sW_snoc (ws := wdL G) (a := 0) (b := k) (Nat.zero_le _) (by rw [wdL_len]; exact hlt)
      rw [wdA_get (wdL_get hx)] at hn
      have hw2 := wdA_rng HW.out k
      rw [wdA_get (wdL_get hx)] at hw2
      have HN := Lib.hid hn
      obtain ⟨x1, x2⟩ := x
      dsimp only at z0 z1 hw2 hn
      generalize sW (wdL G) 0 k = n at hr HN ⊢
      have s0 : (k : Int) < (G.length : Int) := by omega
      have s1 : (0 : Int) ≤ (k : Int) := by omega
      have e1 := IntWalk.i64_in ((k : Int) + 1) (by omega)
      have e2 := IntWalk.i64_in (n + x2) (by omega)
      clear hB hx hn hlt
      go_wp2_with fail
      go_roundw
      case rel => exact ⟨k + 1, by omega, by go_num, by rw [HN.out], HB.out.alloc HB.out.size _⟩
      case measure => simp [intOf] <;> omega
    · have hke : k = G.length := by omega
      have HE := Lib.hid (show sW (wdL G) 0 k = (wdL G).sum by rw [hke, ← wdL_len, sW_all])
      clear hB hlt hr
      have s0 : ¬ k < G.length := by omega
      go_wp2_with fail
      go_ret
      exact ⟨by rw [← HE.out]; rfl, HB.out⟩
set_option maxRecDepth 100000 in
theorem pwide_any (h : GlyIn w v G) {at' : Nat} (hat : at' ≤ G.length) (_hl : G.length ≤ 100000) : Calls Tryz.prog 48 #[v, .int .i64 (at' : Int)] w fun e w' => e = .returned (.int .i64 (wdA (wdL G) at')) ∧ w' = w := by
  by_cases hlt : at' < G.length
  · obtain ⟨x, hx⟩ : ∃ x, G[at']? = some x := ⟨G[at'], List.getElem?_eq_getElem hlt⟩
    obtain ⟨b, off, cap', rfl, _, _, _, z0, z1⟩ := gly_cells h hx
    have HN := Lib.hid (wdA_get (wdL_get hx))
    obtain ⟨x1, x2⟩ := x
    dsimp only at z0 z1
    have s0 : (at' : Int) < (G.length : Int) := by omega
    have s1 : (0 : Int) ≤ (at' : Int) := by omega
    clear hx h hlt
    go_enter Tryz.func48, Tryz.ntmps48
    go_wp2_with fail
    go_ret
    exact ⟨by rw [HN.out]; rfl, rfl⟩
  · obtain ⟨a, cap, rfl, hc1, hc2⟩ := gly_shape h
    have hke : at' = G.length := by omega
    have HN := Lib.hid (show wdA (wdL G) at' = 1 by rw [hke, ← wdL_len, wdA_end])
    have s0 : ¬ at' < G.length := hlt
    clear h hlt
    go_enter Tryz.func48, Tryz.ntmps48
    go_wp2_with fail
    go_ret
    exact ⟨by rw [HN.out]; rfl, rfl⟩
end
end Go.Proofs.YtkeainhjghdfcaaGreat

/- pan.Choose: its walk. (Printed by gen_choose.py.) -/
namespace Go.Proofs.YtkeainhjghdfcaaGreat
open Go.RowKit

/-- what is shown, as a value -/
def shV (s : ShP) : Value := .agg #[.int .i64 (s.fr : Int), .int .i64 (s.tu : Int), .bool s.ah, .bool s.be, .int .i64 s.col]
theorem gly_head {w : World} {a : Option Addr} {cap : Nat} {G : List Gy} (h : GlyIn w (.slice a G.length cap) G) {j : Nat} (hj : j ≤ G.length) : GlyIn w (.slice a j cap) (G.take j) := by
  obtain ⟨a', cap', hv, h1, h2, h3, h4⟩ := h
  cases hv
  have hl : (G.take j).length = j := by rw [List.length_take]; omega
  refine ⟨a, cap, by rw [hl], by omega, h2, flat_len gyE_len _, fun hn => ?_⟩
  obtain ⟨b, off, rfl, hb, hc⟩ := h4 (by omega)
  refine ⟨b, off, rfl, hb, fun q u hu => ?_⟩
  obtain ⟨p, x, hx, k, hk, rfl, hku⟩ := flat_index gyE_len _ q u hu
  rw [List.getElem?_take] at hx
  split at hx
  · exact hc _ _ (flat_get gyE_len G p x k u hx hku)
  · cases hx
theorem wdL_head (G : List Gy) (j : Nat) : (wdL (G.take j)).sum = sW (wdL G) 0 j := by unfold wdL sW; rw [List.map_take, List.drop_zero]
theorem wdL_mid (G : List Gy) (i j : Nat) : (wdL ((G.take j).drop i)).sum = sW (wdL G) i j := by rw [wdL_sub]; rfl
theorem w12_mid {G : List Gy} (h : W12 (wdL G)) (i j : Nat) : W12 (wdL ((G.take j).drop i)) := by rw [wdL_sub]; exact h.sub i j
theorem w12_head {G : List Gy} (h : W12 (wdL G)) (j : Nat) : W12 (wdL (G.take j)) := by have := w12_mid h 0 j; rwa [List.drop_zero] at this
theorem gly_slc (a : Option Addr) (n cap i j : Nat) (hij : i ≤ j) (hj : j ≤ cap) {x y : Int} (hx : x = (i : Int)) (hy : y = (j : Int)) (w : World) :
    (Instr.slice 23 (.slice a n cap) (some (.int .i64 x)) (some (.int .i64 y)) none).run Tryz.prog w = .ok (.slice (if cap = i then a else a.map (·.add (i * 2))) (j - i) (cap - i)) w := by
  obtain ⟨t, hi, hz, hs, hb⟩ := info_parts (show (Tryz.prog.info? 97).map (fun i => (i.zero, i.size, i.bytes)) = some (some (.agg #[.string ⟨#[]⟩, .int .i64 0]), 2, 24) by kernel_rfl)
  subst hx
  subst hy
  have he : Tryz.prog.elem 23 = 97 := by kernel_rfl
  rw [run_slice_lh w 23 a n cap (by rw [he]; exact Tryz.underlying23) .i64 .i64 _ _ (by omega) (by omega) (by omega), he]
  simp [sizeOf, typeInfo, hi, hs, sliced]
/-- the result's cells (h), those that are made (p) -/
structure ShW (wr : World) (h p : Nat) (fr tt : Nat) (ah be : Bool) (col : Int) : Prop where
  hp : h < p
  hs : p < wr.heap.size
  r : wr.heap[h]? = some (.cells #[.int .i64 0, .int .i64 0, .bool false, .bool false, .int .i64 0] 27 (0, 0))
  t : wr.heap[p]? = some (.cells #[.int .i64 (fr : Int), .int .i64 (tt : Int), .bool ah, .bool be, .int .i64 col] 27 (0, 0))
section
variable {wr wr' : World} {h p fr tt : Nat} {ah be : Bool} {col : Int}
theorem ShW.later (H : ShW wr h p fr tt ah be col) (hB : Below wr.heap.size wr wr') : ShW wr' h p fr tt ah be col :=
  have hs := H.hs
  have hp := H.hp
  ⟨hp, Nat.lt_of_lt_of_le hs hB.size, (hB.block h (by omega)).trans H.r, (hB.block p (by omega)).trans H.t⟩
theorem ShW.put (H : ShW wr h p fr tt ah be col) (i : Nat) (u : Value) {fr' tt' : Nat} {ah' be' : Bool} {col' : Int}
    (he : some (Obj.cells ((#[.int .i64 (fr : Int), .int .i64 (tt : Int), .bool ah, .bool be, .int .i64 col] : Array Value).setIfInBounds i u) 27 (0, 0)) = some (.cells #[.int .i64 (fr' : Int), .int .i64 (tt' : Int), .bool ah', .bool be', .int .i64 col'] 27 (0, 0))) :
    ShW (wr.setCell ⟨p, i, none⟩ u) h p fr' tt' ah' be' col' :=
  have hs := H.hs
  have hp := H.hp
  have hg := setCell_grown wr ⟨p, i, none⟩ u
  ⟨hp, Nat.lt_of_lt_of_le hs hg.size, (hg.block h (by omega) (by intro e; simp at e; omega)).trans H.r, (heap_setCell_same _ _ _ _ _ _ H.t).trans he⟩
theorem ShW.below (H : ShW wr h p fr tt ah be col) {W : World} (hB : Below h W wr) (i : Nat) (u : Value) : Below h W (wr.setCell ⟨p, i, none⟩ u) :=
  have hp := H.hp
  hB.setCell (by show h ≤ p; omega) u
end
theorem cho_eq {ws : List Int} {at' : Nat} {cols room col : Int} {ah : Bool} {fr : Nat} (hfit : ¬ sW ws 0 ws.length + 1 ≤ cols) (hah : ah = decide (cols - 1 < sW ws 0 at' + wdA ws at')) (hfr : fr = if ah = true then frF ws at' (cols - 2) at' 0 else 0)
    (hroom : room = if ah = true then cols - 1 else cols) (hcol : col = cols - room + sW ws fr at') : choF ws at' cols = if sW ws fr ws.length + 1 ≤ room then ⟨fr, ws.length, ah, false, col⟩ else ⟨fr, toF ws fr (room - 1) (ws.length - fr) fr, ah, true, col⟩ := by
  unfold choF
  rw [if_neg hfit, ← hah]
  dsimp only
  rw [← hfr, ← hroom, ← hcol]
/-- cells of the one that is made -/
def frOf (w : World) (p i : Nat) : Nat := match w.cell? ⟨p, i, none⟩ with
  | some v => (intOf v).toNat
  | none => 0
theorem ShW.fr' {wr : World} {h p fr tt : Nat} {ah be : Bool} {col : Int} (H : ShW wr h p fr tt ah be col) : frOf wr p 0 = fr := by
  unfold frOf; rw [row_cells (i := 0) H.t rfl]; rfl
theorem ShW.tu' {wr : World} {h p fr tt : Nat} {ah be : Bool} {col : Int} (H : ShW wr h p fr tt ah be col) : frOf wr p 1 = tt := by
  unfold frOf; rw [row_cells (i := 1) H.t rfl]; rfl
theorem GlyIn.set {w : World} {v : Value} {G : List Gy} {B p i : Nat} {u : Value} (h : Rs B w gyE 2 v G) (hB : B ≤ p) : Rs B (w.setCell ⟨p, i, none⟩ u) gyE 2 v G :=
  Rd.below h ((Below.refl B w).setCell (by show B ≤ p; exact hB) u) (Nat.le_refl _)
section
variable {w : World} {v : Value} {G : List Gy}
set_option maxRecDepth 100000 in
set_option maxHeartbeats 16000000 in
theorem choose_yes (h : GlyIn w v G) (hw : W12 (wdL G)) (hl : G.length ≤ 1000) {at' : Nat} (hat : at' ≤ G.length) {cols : Int} (hc : 4 ≤ cols) (hc2 : cols ≤ 9223372036854775807) :
    Calls Tryz.prog 13 #[v, .int .i64 (at' : Int), .int .i64 cols] w fun e w' => e = .returned (.tuple #[shV (choF (wdL G) at' cols), .bool true]) ∧ Below w.heap.size w w' := by
  obtain ⟨a, cap, rfl, hc1, hc3⟩ := gly_shape h
  unfold maxLen at hc3
  have HG := Lib.hid h
  have HW := Lib.hid hw
  have g0 : decide (cols < 4) = false := decide_eq_false (by omega)
  have g1 : ¬ G.length < at' := by omega
  have k0 : (at' : Int) ≤ (cap : Int) := by omega
  have k1 : (0 : Int) ≤ (at' : Int) := by omega
  have g2 : decide ((at' : Int) < 0) = false := decide_eq_false (by omega)
  have e1 := IntWalk.i64_in (cols - 1) (by omega)
  have e2 := IntWalk.i64_in (cols - 2) (by omega)
  have hb0 := below1 w (.cells #[.int .i64 0, .int .i64 0, .bool false, .bool false, .int .i64 0] 27)
  have hr0 := heap_alloc_new w (.cells #[.int .i64 0, .int .i64 0, .bool false, .bool false, .int .i64 0] 27)
  have hz0 : (w.alloc (.cells #[.int .i64 0, .int .i64 0, .bool false, .bool false, .int .i64 0] 27)).heap.size = w.heap.size + 1 := by simp
  clear h hw
  go_enter Tryz.func13, Tryz.ntmps13
  go_upto_region 3 with fail
  generalize w.alloc (.cells #[.int .i64 0, .int .i64 0, .bool false, .bool false, .int .i64 0] 27) = w1 at hb0 hr0 hz0 ⊢
  obtain ⟨hh, hhe⟩ : ∃ hh, w.heap.size = hh := ⟨_, rfl⟩
  have HH := Lib.hid hhe
  have HG1 := Lib.hid (HG.out.below hb0)
  rw [hhe] at hb0 hr0 hz0 ⊢
  have HB1 := Lib.hid hb0
  have HR1 := Lib.hid hr0
  have hs1 : hh ≤ w1.heap.size := by omega
  clear hb0 hr0 hhe HG
  go_wp2_with fail
  refine (pwidth_any HG1.out HW.out (by omega)).mono ?_
  rintro e w2 ⟨rfl, hB2⟩
  have HB2 := Lib.hid (HB1.out.trans (hB2.mono hs1))
  have HR2 := Lib.hid ((hB2.block _ (row_len HR1.out)).trans HR1.out)
  have HG2 := Lib.hid (HG1.out.below hB2)
  have hs2 := hB2.size
  clear hB2 HB1 HR1 HG1
  go_wp2_with fail
  refine (pwide_any HG2.out (Nat.le_refl _) (by omega)).mono ?_
  rintro e w3 ⟨rfl, rfl⟩
  have hwe : wdA (wdL G) G.length = 1 := by rw [← wdL_len]; exact wdA_end _
  have hsr := sW_rng HW.out 0 G.length
  rw [wdL_len] at hsr
  have hsm : (wdL G).sum = sW (wdL G) 0 G.length := by rw [← wdL_len, sW_all]
  rw [hwe, hsm]
  have HSm := Lib.hid hsm
  have e3 := IntWalk.i64_in (sW (wdL G) 0 G.length + 1) (by omega)
  have hwd := wdA_rng HW.out at'
  have hsa := sW_rng HW.out 0 at'
  rw [wdL_len] at hsa
  clear hwe hsm
  by_cases hfit : sW (wdL G) 0 G.length + 1 ≤ cols
  · have HC := Lib.hid (show choF (wdL G) at' cols = ⟨0, G.length, false, false, sW (wdL G) 0 at'⟩ by unfold choF; rw [wdL_len, if_pos hfit])
    go_wp2_with fail
    refine (pwidth_any (gly_head HG2.out hat) (w12_head HW.out at') (by rw [List.length_take]; omega)).mono ?_
    rintro e w4 ⟨rfl, hB4⟩
    rw [wdL_head]
    have hr4 := (hB4.block _ (row_len HR2.out)).trans HR2.out
    have HB4 := Lib.hid (HB2.out.trans (hB4.mono (by omega)))
    have z0 := row_cells (i := 0) hr4 rfl
    have zw0 := row_warm hr4 0
    have z1 := row_cells (i := 1) hr4 rfl
    have zw1 := row_warm hr4 1
    have z2 := row_cells (i := 2) hr4 rfl
    have zw2 := row_warm hr4 2
    have z3 := row_cells (i := 3) hr4 rfl
    have zw3 := row_warm hr4 3
    have z4 := row_cells (i := 4) hr4 rfl
    have zw4 := row_warm hr4 4
    clear hr4 hB4 HR2
    go_wp2_with fail
    refine ret_cell_tmp (x := .bool true) (ad := ⟨hh, 0, none⟩) rfl rfl rfl (run_loadVar_mid _ _ 0 _ [.int .i64 0, .int .i64 (G.length : Int), .bool false, .bool false, .int .i64 (sW (wdL G) 0 at')] _ (range5' (by go_simp) (by go_simp) (by go_simp) (by go_simp) (by go_simp)) Tryz.underlying27 rfl (by kernel_rfl)) rfl ?_
    rw [HC.out, HH.out]
    exact ⟨rfl, (((((HB4.out).setCell (by show hh ≤ hh; omega) _).setCell (by show hh ≤ hh; omega) _).setCell (by show hh ≤ hh; omega) _).setCell (by show hh ≤ hh; omega) _).setCell (by show hh ≤ hh; omega) _⟩
  · have hfit2 : decide (sW (wdL G) 0 G.length + 1 ≤ cols) = false := decide_eq_false hfit
    have hb3 := below1 w3 (.cells #[.int .i64 0, .int .i64 0, .bool false, .bool false, .int .i64 0] 27)
    have hn3 := heap_alloc_new w3 (.cells #[.int .i64 0, .int .i64 0, .bool false, .bool false, .int .i64 0] 27)
    have hlt2 := row_len HR2.out
    have HS3 := Lib.hid (show ShW (w3.alloc (.cells #[.int .i64 0, .int .i64 0, .bool false, .bool false, .int .i64 0] 27)) hh w3.heap.size 0 0 false false 0 from ⟨hlt2, by simp, (hb3.block _ (row_len HR2.out)).trans HR2.out, hn3⟩)
    have HGp := Lib.hid (show Rs w3.heap.size (w3.alloc (.cells #[.int .i64 0, .int .i64 0, .bool false, .bool false, .int .i64 0] 27)) gyE 2 (.slice a G.length cap) G from Rd.below HG2.out hb3 (Nat.le_refl _))
    have HB3 := Lib.hid (HB2.out.alloc (by omega) (.cells #[.int .i64 0, .int .i64 0, .bool false, .bool false, .int .i64 0] 27))
    clear hb3 hn3 HR2 HG2 HB2
    go_upto_region 7 with fail
    generalize w3.alloc (.cells #[.int .i64 0, .int .i64 0, .bool false, .bool false, .int .i64 0] 27) = w4 at HS3 HGp HB3 ⊢
    generalize w3.heap.size = p at HS3 HGp hs2 hlt2 ⊢
    have hp4 := HS3.out.hp
    have hs4 := HS3.out.hs
    have HG4 := Lib.hid (show GlyIn w4 (.slice a G.length cap) G from Rd.mono HGp.out (by omega))
    go_wp2_with fail
    refine (pwidth_any (gly_head HG4.out hat) (w12_head HW.out at') (by rw [List.length_take]; omega)).mono ?_
    rintro e w5 ⟨rfl, hB5⟩
    rw [wdL_head]
    have HS5 := Lib.hid (HS3.out.later hB5)
    have HB5 := Lib.hid (HB3.out.trans (hB5.mono (by omega)))
    have HGq := Lib.hid (Rd.below HGp.out hB5 (by omega))
    have hs5 := HS5.out.hs
    have HG5 := Lib.hid (show GlyIn w5 (.slice a G.length cap) G from Rd.mono HGq.out (by omega))
    clear hB5 HS3 HB3 HGp HG4
    go_wp2_with fail
    refine (pwide_any HG5.out hat (by omega)).mono ?_
    rintro e w6 ⟨rfl, rfl⟩
    have e4 := IntWalk.i64_in (sW (wdL G) 0 at' + wdA (wdL G) at') (by omega)
    by_cases hov : cols - 1 < sW (wdL G) 0 at' + wdA (wdL G) at'
    · have hov2 : sW (wdL G) 0 at' + wdA (wdL G) at' > cols - 1 := hov
      have y0 := row_cells (i := 0) HS5.out.t rfl
      have yw0 := row_warm HS5.out.t 0
      have y1 := row_cells (i := 1) HS5.out.t rfl
      have yw1 := row_warm HS5.out.t 1
      have y2 := row_cells (i := 2) HS5.out.t rfl
      have yw2 := row_warm HS5.out.t 2
      have y3 := row_cells (i := 3) HS5.out.t rfl
      have yw3 := row_warm HS5.out.t 3
      have y4 := row_cells (i := 4) HS5.out.t rfl
      have yw4 := row_warm HS5.out.t 4
      have HS7 := Lib.hid (show ShW (w6.setCell ⟨p, 2, none⟩ (.bool true)) hh p 0 0 true false 0 from HS5.out.put 2 _ rfl)
      have HB7 := Lib.hid (HS5.out.below HB5.out 2 (.bool true))
      have HG7 := Lib.hid (show Rs p (w6.setCell ⟨p, 2, none⟩ (.bool true)) gyE 2 (.slice a G.length cap) G from GlyIn.set HGq.out (Nat.le_refl _))
      go_wp2_with fail
      clear HS5 HB5 HGq HG5 y0 yw0 y1 yw1 y2 yw2 y3 yw3 y4 yw4
      generalize (w6.setCell ⟨p, 2, none⟩ (.bool true)) = w7 at HS7 HB7 HG7 ⊢
      go_loopw [] (fun wr => ∃ f : Nat, f ≤ at' ∧ ShW wr hh p f 0 true false 0 ∧ Below hh w wr ∧ Rs p wr gyE 2 (.slice a G.length cap) G ∧ frF (wdL G) at' (cols - 2) (at' - f) f = frF (wdL G) at' (cols - 2) at' 0) (fun wr => at' - frOf wr p 0)
      case atStart => exact ⟨0, Nat.zero_le _, HS7.out, HB7.out, HG7.out, rfl⟩
      case round =>
        rename World => wa
        obtain ⟨f, hfa, hS, hB, hG, hF⟩ := hrel
        have HS := Lib.hid hS
        have HB := Lib.hid hB
        have HGq := Lib.hid hG
        have HF := Lib.hid hF
        have HFr := Lib.hid hS.fr'
        have hsa1 := hS.hs
        have y0 := row_cells (i := 0) hS.t rfl
        have yw0 := row_warm hS.t 0
        have y1 := row_cells (i := 1) hS.t rfl
        have yw1 := row_warm hS.t 1
        have y2 := row_cells (i := 2) hS.t rfl
        have yw2 := row_warm hS.t 2
        have y3 := row_cells (i := 3) hS.t rfl
        have yw3 := row_warm hS.t 3
        have y4 := row_cells (i := 4) hS.t rfl
        have yw4 := row_warm hS.t 4
        clear hS hB hG hF
        obtain ⟨a', ha'⟩ : ∃ a', (if cap = f then a else Option.map (fun x => x.add (f * 2)) a) = a' := ⟨_, rfl⟩
        have hgm := gly_part (show GlyIn wa (.slice a G.length cap) G from Rd.mono HGq.out (by omega)) (i := f) (j := at') hfa hat
        rw [ha'] at hgm
        have hslc := fun w => gly_slc a G.length cap f at' hfa (by omega) (x := (f : Int)) (y := (at' : Int)) rfl rfl w
        rw [ha'] at hslc
        have hsm := sW_rng HW.out f at'
        rw [wdL_len] at hsm
        have e8 := IntWalk.i64_in ((f : Int) + 1) (by omega)
        have e9 := IntWalk.i64_in (sW (wdL G) f at' + wdA (wdL G) at') (by omega)
        go_wp2_with fail
        refine (pwidth_any hgm (w12_mid HW.out f at') (by rw [List.length_drop, List.length_take]; omega)).mono ?_
        rintro e wb ⟨rfl, hBb⟩
        rw [wdL_mid]
        have HSb := Lib.hid (HS.out.later hBb)
        have HBb := Lib.hid (HB.out.trans (hBb.mono (by omega)))
        have HGb := Lib.hid (Rd.below HGq.out hBb (by omega))
        have hsb := HSb.out.hs
        have hgw := (show GlyIn wb (.slice a G.length cap) G from Rd.mono HGb.out (by omega))
        clear hBb HS HB HGq hgm y0 yw0 y1 yw1 y2 yw2 y3 yw3 y4 yw4
        go_wp2_with fail
        refine (pwide_any hgw hat (by omega)).mono ?_
        rintro e wc ⟨rfl, rfl⟩
        clear hgw
        by_cases hgt : cols - 2 < sW (wdL G) f at' + wdA (wdL G) at'
        · have hgt2 : sW (wdL G) f at' + wdA (wdL G) at' > cols - 2 := hgt
          have hgo := fr_go HW.out (m := cols - 2) (by omega) hfa hgt
          have HN := Lib.hid (show frF (wdL G) at' (cols - 2) (at' - (f + 1)) (f + 1) = frF (wdL G) at' (cols - 2) at' 0 by rw [← HF.out, hgo.2])
          have hfl := hgo.1
          have y0 := row_cells (i := 0) HSb.out.t rfl
          have yw0 := row_warm HSb.out.t 0
          have y1 := row_cells (i := 1) HSb.out.t rfl
          have yw1 := row_warm HSb.out.t 1
          have y2 := row_cells (i := 2) HSb.out.t rfl
          have yw2 := row_warm HSb.out.t 2
          have y3 := row_cells (i := 3) HSb.out.t rfl
          have yw3 := row_warm HSb.out.t 3
          have y4 := row_cells (i := 4) HSb.out.t rfl
          have yw4 := row_warm HSb.out.t 4
          clear hgo hslc
          go_wp2_with fail
          go_roundw
          case rel => exact ⟨f + 1, by omega, HSb.out.put 0 _ rfl, HSb.out.below HBb.out 0 _, GlyIn.set HGb.out (Nat.le_refl _), HN.out⟩
          case measure => rw [(HSb.out.put (fr' := f + 1) (tt' := 0) (ah' := true) (be' := false) (col' := 0) 0 (.int .i64 ((f : Int) + 1)) rfl).fr', HFr.out]; omega
        · have hgt2 : decide (sW (wdL G) f at' + wdA (wdL G) at' > cols - 2) = false := decide_eq_false (by omega)
          have HCE := Lib.hid (show choF (wdL G) at' cols = if sW (wdL G) f G.length + 1 ≤ cols - 1 then ⟨f, G.length, true, false, 1 + sW (wdL G) f at'⟩ else ⟨f, toF (wdL G) f (cols - 1 - 1) (G.length - f) f, true, true, 1 + sW (wdL G) f at'⟩ by
            have := cho_eq (ws := wdL G) (at' := at') (cols := cols) (room := cols - 1) (col := 1 + sW (wdL G) f at') (ah := true) (fr := f) (by rw [wdL_len]; omega) (decide_eq_true hov).symm (by rw [if_pos rfl, ← HF.out, fr_stop hgt]) rfl (by omega)
            rw [wdL_len] at this
            exact this)
          have e7 : IntKind.i64.wrap (cols - (cols - 1)) = 1 := by rw [show cols - (cols - 1) = 1 by omega]; rfl
          have HS := HSb
          have HB := HBb
          have HGq := HGb
          clear HSb HBb HGb hslc ha' hgt
          have y0 := row_cells (i := 0) HS.out.t rfl
          have yw0 := row_warm HS.out.t 0
          have y1 := row_cells (i := 1) HS.out.t rfl
          have yw1 := row_warm HS.out.t 1
          have y2 := row_cells (i := 2) HS.out.t rfl
          have yw2 := row_warm HS.out.t 2
          have y3 := row_cells (i := 3) HS.out.t rfl
          have yw3 := row_warm HS.out.t 3
          have y4 := row_cells (i := 4) HS.out.t rfl
          have yw4 := row_warm HS.out.t 4
          obtain ⟨a', ha'⟩ : ∃ a', (if cap = f then a else Option.map (fun x => x.add (f * 2)) a) = a' := ⟨_, rfl⟩
          have k2 : (f : Int) ≤ (at' : Int) := by omega
          have k3 : (0 : Int) ≤ (f : Int) := by omega
          have k4 : (f : Int) ≤ (G.length : Int) := by omega
          have hgm := gly_part (show GlyIn wc (.slice a G.length cap) G from Rd.mono HGq.out (by omega)) (i := f) (j := at') (by omega) hat
          rw [ha'] at hgm
          have hsm := sW_rng HW.out f at'
          rw [wdL_len] at hsm
          have hsl := sW_rng HW.out f G.length
          rw [wdL_len] at hsl
          have e6 := IntWalk.i64_in (1 + sW (wdL G) f at') (by omega)
          have e6' := IntWalk.i64_in (sW (wdL G) f G.length + 1) (by omega)
          have e6'' := IntWalk.i64_in (cols - 1 - 1) (by omega)
          go_wp2_with fail
          refine (pwidth_any hgm (w12_mid HW.out f at') (by rw [List.length_drop, List.length_take]; omega)).mono ?_
          rintro e w8 ⟨rfl, hB8⟩
          rw [wdL_mid]
          have HS8 := Lib.hid (HS.out.later hB8)
          have HB8 := Lib.hid (HB.out.trans (hB8.mono (by omega)))
          have HG8 := Lib.hid (Rd.below HGq.out hB8 (by omega))
          clear hB8 HS HB HGq hgm y0 yw0 y1 yw1 y2 yw2 y3 yw3 y4 yw4
          have hs8 := HS8.out.hs
          have y0 := row_cells (i := 0) HS8.out.t rfl
          have yw0 := row_warm HS8.out.t 0
          have y1 := row_cells (i := 1) HS8.out.t rfl
          have yw1 := row_warm HS8.out.t 1
          have y2 := row_cells (i := 2) HS8.out.t rfl
          have yw2 := row_warm HS8.out.t 2
          have y3 := row_cells (i := 3) HS8.out.t rfl
          have yw3 := row_warm HS8.out.t 3
          have y4 := row_cells (i := 4) HS8.out.t rfl
          have yw4 := row_warm HS8.out.t 4
          go_upto_region 15 with fail
          have HS9 := Lib.hid (show ShW (w8.setCell ⟨p, 4, none⟩ (.int .i64 (1 + sW (wdL G) f at'))) hh p f 0 true false (1 + sW (wdL G) f at') from HS8.out.put 4 _ rfl)
          have HB9 := Lib.hid (HS8.out.below HB8.out 4 (.int .i64 (1 + sW (wdL G) f at')))
          have HG9 := Lib.hid (show Rs p (w8.setCell ⟨p, 4, none⟩ (.int .i64 (1 + sW (wdL G) f at'))) gyE 2 (.slice a G.length cap) G from GlyIn.set HG8.out (Nat.le_refl _))
          clear HS8 HB8 HG8 hs8 y0 yw0 y1 yw1 y2 yw2 y3 yw3 y4 yw4
          generalize w8.setCell ⟨p, 4, none⟩ (.int .i64 (1 + sW (wdL G) f at')) = w9 at HS9 HB9 HG9 ⊢
          have hs9 := HS9.out.hs
          have y0 := row_cells (i := 0) HS9.out.t rfl
          have yw0 := row_warm HS9.out.t 0
          have y1 := row_cells (i := 1) HS9.out.t rfl
          have yw1 := row_warm HS9.out.t 1
          have y2 := row_cells (i := 2) HS9.out.t rfl
          have yw2 := row_warm HS9.out.t 2
          have y3 := row_cells (i := 3) HS9.out.t rfl
          have yw3 := row_warm HS9.out.t 3
          have y4 := row_cells (i := 4) HS9.out.t rfl
          have yw4 := row_warm HS9.out.t 4
          have hgm := gly_part (show GlyIn w9 (.slice a G.length cap) G from Rd.mono HG9.out (by omega)) (i := f) (j := G.length) (by omega) (Nat.le_refl _)
          rw [ha'] at hgm
          go_wp2_with fail
          refine (pwidth_any hgm (w12_mid HW.out f G.length) (by rw [List.length_drop, List.length_take]; omega)).mono ?_
          rintro e w10 ⟨rfl, hB10⟩
          rw [wdL_mid]
          have HS10 := Lib.hid (HS9.out.later hB10)
          have HB10 := Lib.hid (HB9.out.trans (hB10.mono (by omega)))
          have HG10 := Lib.hid (Rd.below HG9.out hB10 (by omega))
          clear hB10 HS9 HB9 HG9 hgm y0 yw0 y1 yw1 y2 yw2 y3 yw3 y4 yw4
          have hs10 := HS10.out.hs
          have y0 := row_cells (i := 0) HS10.out.t rfl
          have yw0 := row_warm HS10.out.t 0
          have y1 := row_cells (i := 1) HS10.out.t rfl
          have yw1 := row_warm HS10.out.t 1
          have y2 := row_cells (i := 2) HS10.out.t rfl
          have yw2 := row_warm HS10.out.t 2
          have y3 := row_cells (i := 3) HS10.out.t rfl
          have yw3 := row_warm HS10.out.t 3
          have y4 := row_cells (i := 4) HS10.out.t rfl
          have yw4 := row_warm HS10.out.t 4
          have u0 := row_cells (i := 0) HS10.out.r rfl
          have uw0 := row_warm HS10.out.r 0
          have u1 := row_cells (i := 1) HS10.out.r rfl
          have uw1 := row_warm HS10.out.r 1
          have u2 := row_cells (i := 2) HS10.out.r rfl
          have uw2 := row_warm HS10.out.r 2
          have u3 := row_cells (i := 3) HS10.out.r rfl
          have uw3 := row_warm HS10.out.r 3
          have u4 := row_cells (i := 4) HS10.out.r rfl
          have uw4 := row_warm HS10.out.r 4
          by_cases hft : sW (wdL G) f G.length + 1 ≤ cols - 1
          · have HC := Lib.hid (show choF (wdL G) at' cols = ⟨f, G.length, true, false, 1 + sW (wdL G) f at'⟩ by rw [HCE.out, if_pos hft])
            go_wp2_with fail
            refine ret_cell_tmp (x := .bool true) (ad := ⟨hh, 0, none⟩) rfl rfl rfl (run_loadVar_mid _ _ 0 _ [.int .i64 (f : Int), .int .i64 (G.length : Int), .bool true, .bool false, .int .i64 (1 + sW (wdL G) f at')] _ (range5' (by go_simp) (by go_simp) (by go_simp) (by go_simp) (by go_simp)) Tryz.underlying27 rfl (by kernel_rfl)) rfl ?_
            rw [HC.out, HH.out]
            exact ⟨rfl, (((((HS10.out.below HB10.out 1 _).setCell (by show hh ≤ hh; omega) _).setCell (by show hh ≤ hh; omega) _).setCell (by show hh ≤ hh; omega) _).setCell (by show hh ≤ hh; omega) _).setCell (by show hh ≤ hh; omega) _⟩
          · have hft2 : decide (sW (wdL G) f G.length + 1 ≤ cols - 1) = false := decide_eq_false hft
            have HCF := Lib.hid (show choF (wdL G) at' cols = ⟨f, toF (wdL G) f (cols - 1 - 1) (G.length - f) f, true, true, 1 + sW (wdL G) f at'⟩ by rw [HCE.out, if_neg hft])
            go_wp2_with fail
            have HS11 := Lib.hid (show ShW ((w10.setCell ⟨p, 3, none⟩ (.bool true)).setCell ⟨p, 1, none⟩ (.int .i64 (f : Int))) hh p f f true true (1 + sW (wdL G) f at') from (show ShW (w10.setCell ⟨p, 3, none⟩ (.bool true)) hh p f 0 true true (1 + sW (wdL G) f at') from HS10.out.put 3 _ rfl).put 1 _ rfl)
            have HB11 := Lib.hid (show Below hh w ((w10.setCell ⟨p, 3, none⟩ (.bool true)).setCell ⟨p, 1, none⟩ (.int .i64 (f : Int))) from (HS10.out.below HB10.out 3 _).setCell (by show hh ≤ p; omega) _)
            have HG11 := Lib.hid (show Rs p ((w10.setCell ⟨p, 3, none⟩ (.bool true)).setCell ⟨p, 1, none⟩ (.int .i64 (f : Int))) gyE 2 (.slice a G.length cap) G from GlyIn.set (GlyIn.set HG10.out (Nat.le_refl _)) (Nat.le_refl _))
            clear HS10 HB10 HG10 hs10 y0 yw0 y1 yw1 y2 yw2 y3 yw3 y4 yw4 u0 uw0 u1 uw1 u2 uw2 u3 uw3 u4 uw4 hft hft2
            generalize ((w10.setCell ⟨p, 3, none⟩ (.bool true)).setCell ⟨p, 1, none⟩ (.int .i64 (f : Int))) = w11 at HS11 HB11 HG11 ⊢
            go_loopw [] (fun wr => ∃ q : Nat, f ≤ q ∧ q ≤ G.length ∧ ShW wr hh p f q true true (1 + sW (wdL G) f at') ∧ Below hh w wr ∧ Rs p wr gyE 2 (.slice a G.length cap) G ∧ toF (wdL G) f (cols - 1 - 1) (G.length - q) q = toF (wdL G) f (cols - 1 - 1) (G.length - f) f) (fun wr => G.length - frOf wr p 1)
            case atStart => exact ⟨f, Nat.le_refl _, by omega, HS11.out, HB11.out, HG11.out, rfl⟩
            case round =>
              rename World => w12
              obtain ⟨q, hq1, hq2, hS, hB, hG, hT⟩ := hrel
              have HS := Lib.hid hS
              have HB := Lib.hid hB
              have HGq := Lib.hid hG
              have HT := Lib.hid hT
              have hs12 := hS.hs
              have HTo := Lib.hid hS.tu'
              have y0 := row_cells (i := 0) hS.t rfl
              have yw0 := row_warm hS.t 0
              have y1 := row_cells (i := 1) hS.t rfl
              have yw1 := row_warm hS.t 1
              have y2 := row_cells (i := 2) hS.t rfl
              have yw2 := row_warm hS.t 2
              have y3 := row_cells (i := 3) hS.t rfl
              have yw3 := row_warm hS.t 3
              have y4 := row_cells (i := 4) hS.t rfl
              have yw4 := row_warm hS.t 4
              clear hS hB hG hT
              have e8 := IntWalk.i64_in ((q : Int) + 1) (by omega)
              have e9 := IntWalk.i64_in (cols - 1 - 1) (by omega)
              by_cases hlt : q < G.length
              · have s0 : (q : Int) < (G.length : Int) := by omega
                have s1 : (0 : Int) ≤ (q : Int) + 1 := by omega
                have s2 : ((q : Int) + 1).toNat = q + 1 := by omega
                have s3 : (f : Int) ≤ (q : Int) + 1 := by omega
                have s4 : (q : Int) + 1 ≤ (cap : Int) := by omega
                have hgm := gly_part (show GlyIn w12 (.slice a G.length cap) G from Rd.mono HGq.out (by omega)) (i := f) (j := q + 1) (by omega) (by omega)
                rw [ha'] at hgm
                have hslc := fun w => gly_slc a G.length cap f (q + 1) (by omega) (by omega) (x := (f : Int)) (y := (q : Int) + 1) rfl (by omega) w
                rw [ha'] at hslc
                have hsq := sW_rng HW.out f (q + 1)
                rw [wdL_len] at hsq
                go_wp2_with fail
                refine (pwidth_any hgm (w12_mid HW.out f (q + 1)) (by rw [List.length_drop, List.length_take]; omega)).mono ?_
                rintro e w13 ⟨rfl, hB13⟩
                rw [wdL_mid]
                have HS13 := Lib.hid (HS.out.later hB13)
                have HB13 := Lib.hid (HB.out.trans (hB13.mono (by omega)))
                have HG13 := Lib.hid (Rd.below HGq.out hB13 (by omega))
                clear hB13 HS HB HGq hgm y0 yw0 y1 yw1 y2 yw2 y3 yw3 y4 yw4
                have y0 := row_cells (i := 0) HS13.out.t rfl
                have yw0 := row_warm HS13.out.t 0
                have y1 := row_cells (i := 1) HS13.out.t rfl
                have yw1 := row_warm HS13.out.t 1
                have y2 := row_cells (i := 2) HS13.out.t rfl
                have yw2 := row_warm HS13.out.t 2
                have y3 := row_cells (i := 3) HS13.out.t rfl
                have yw3 := row_warm HS13.out.t 3
                have y4 := row_cells (i := 4) HS13.out.t rfl
                have yw4 := row_warm HS13.out.t 4
                have u0 := row_cells (i := 0) HS13.out.r rfl
                have uw0 := row_warm HS13.out.r 0
                have u1 := row_cells (i := 1) HS13.out.r rfl
                have uw1 := row_warm HS13.out.r 1
                have u2 := row_cells (i := 2) HS13.out.r rfl
                have uw2 := row_warm HS13.out.r 2
                have u3 := row_cells (i := 3) HS13.out.r rfl
                have uw3 := row_warm HS13.out.r 3
                have u4 := row_cells (i := 4) HS13.out.r rfl
                have uw4 := row_warm HS13.out.r 4
                have hs13 := HS13.out.hs
                by_cases hle : sW (wdL G) f (q + 1) ≤ cols - 1 - 1
                · have HN := Lib.hid (show toF (wdL G) f (cols - 1 - 1) (G.length - (q + 1)) (q + 1) = toF (wdL G) f (cols - 1 - 1) (G.length - f) f by rw [← HT.out]; have := to_go (ws := wdL G) (fr := f) (m := cols - 1 - 1) (t := q) (by rw [wdL_len]; exact hlt) hle; rw [wdL_len] at this; exact this.symm)
                  clear hlt
                  go_wp2_with fail
                  go_roundw
                  case rel => exact ⟨q + 1, by omega, by omega, HS13.out.put 1 _ rfl, HS13.out.below HB13.out 1 _, GlyIn.set HG13.out (Nat.le_refl _), HN.out⟩
                  case measure => rw [(HS13.out.put (fr' := f) (tt' := q + 1) (ah' := true) (be' := true) (col' := 1 + sW (wdL G) f at') 1 (.int .i64 ((q : Int) + 1)) rfl).tu', HTo.out]; omega
                · have hle2 : decide (sW (wdL G) f (q + 1) ≤ cols - 1 - 1) = false := decide_eq_false hle
                  have HC := Lib.hid (show choF (wdL G) at' cols = ⟨f, q, true, true, 1 + sW (wdL G) f at'⟩ by rw [HCF.out, ← HT.out, to_stop hle])
                  clear hlt
                  go_wp2_with fail
                  refine ret_cell_tmp (x := .bool true) (ad := ⟨hh, 0, none⟩) rfl rfl rfl (run_loadVar_mid _ _ 0 _ [.int .i64 (f : Int), .int .i64 (q : Int), .bool true, .bool true, .int .i64 (1 + sW (wdL G) f at')] _ (range5' (by go_simp) (by go_simp) (by go_simp) (by go_simp) (by go_simp)) Tryz.underlying27 rfl (by kernel_rfl)) rfl ?_
                  rw [HC.out, HH.out]
                  exact ⟨rfl, (((((HB13.out).setCell (by show hh ≤ hh; omega) _).setCell (by show hh ≤ hh; omega) _).setCell (by show hh ≤ hh; omega) _).setCell (by show hh ≤ hh; omega) _).setCell (by show hh ≤ hh; omega) _⟩
              · have hqe : q = G.length := by omega
                have HC := Lib.hid (show choF (wdL G) at' cols = ⟨f, G.length, true, true, 1 + sW (wdL G) f at'⟩ by rw [HCF.out, ← HT.out, hqe]; have := to_end (ws := wdL G) (fr := f) (m := cols - 1 - 1) G.length (by rw [wdL_len]; exact Nat.le_refl _); rw [wdL_len] at this; rw [this])
                subst hqe
                have u0 := row_cells (i := 0) HS.out.r rfl
                have uw0 := row_warm HS.out.r 0
                have u1 := row_cells (i := 1) HS.out.r rfl
                have uw1 := row_warm HS.out.r 1
                have u2 := row_cells (i := 2) HS.out.r rfl
                have uw2 := row_warm HS.out.r 2
                have u3 := row_cells (i := 3) HS.out.r rfl
                have uw3 := row_warm HS.out.r 3
                have u4 := row_cells (i := 4) HS.out.r rfl
                have uw4 := row_warm HS.out.r 4
                go_wp2_with fail
                refine ret_cell_tmp (x := .bool true) (ad := ⟨hh, 0, none⟩) rfl rfl rfl (run_loadVar_mid _ _ 0 _ [.int .i64 (f : Int), .int .i64 (G.length : Int), .bool true, .bool true, .int .i64 (1 + sW (wdL G) f at')] _ (range5' (by go_simp) (by go_simp) (by go_simp) (by go_simp) (by go_simp)) Tryz.underlying27 rfl (by kernel_rfl)) rfl ?_
                rw [HC.out, HH.out]
                exact ⟨rfl, (((((HB.out).setCell (by show hh ≤ hh; omega) _).setCell (by show hh ≤ hh; omega) _).setCell (by show hh ≤ hh; omega) _).setCell (by show hh ≤ hh; omega) _).setCell (by show hh ≤ hh; omega) _⟩
    · have hov2 : decide (sW (wdL G) 0 at' + wdA (wdL G) at' > cols - 1) = false := decide_eq_false (by omega)
      obtain ⟨f, hf⟩ : ∃ f : Nat, f = 0 := ⟨_, rfl⟩
      have HF := Lib.hid hf
      have HS := Lib.hid (show ShW w6 hh p f 0 false false 0 by rw [hf]; exact HS5.out)
      have HB := HB5
      have hfa : f ≤ at' := by omega
      have HCE := Lib.hid (show choF (wdL G) at' cols = if sW (wdL G) f G.length + 1 ≤ cols then ⟨f, G.length, false, false, sW (wdL G) f at'⟩ else ⟨f, toF (wdL G) f (cols - 1) (G.length - f) f, false, true, sW (wdL G) f at'⟩ by
        have := cho_eq (ws := wdL G) (at' := at') (cols := cols) (room := cols) (col := sW (wdL G) f at') (ah := false) (fr := f) (by rw [wdL_len]; omega) (decide_eq_false hov).symm (by rw [hf]; rfl) rfl (by omega)
        rw [wdL_len] at this
        exact this)
      clear HS5 HB5 HG5 hf
      have y0 := row_cells (i := 0) HS.out.t rfl
      have yw0 := row_warm HS.out.t 0
      have y1 := row_cells (i := 1) HS.out.t rfl
      have yw1 := row_warm HS.out.t 1
      have y2 := row_cells (i := 2) HS.out.t rfl
      have yw2 := row_warm HS.out.t 2
      have y3 := row_cells (i := 3) HS.out.t rfl
      have yw3 := row_warm HS.out.t 3
      have y4 := row_cells (i := 4) HS.out.t rfl
      have yw4 := row_warm HS.out.t 4
      obtain ⟨a', ha'⟩ : ∃ a', (if cap = f then a else Option.map (fun x => x.add (f * 2)) a) = a' := ⟨_, rfl⟩
      have k2 : (f : Int) ≤ (at' : Int) := by omega
      have k3 : (0 : Int) ≤ (f : Int) := by omega
      have k4 : (f : Int) ≤ (G.length : Int) := by omega
      have hgm := gly_part (show GlyIn w6 (.slice a G.length cap) G from Rd.mono HGq.out (by omega)) (i := f) (j := at') (by omega) hat
      rw [ha'] at hgm
      have hsm := sW_rng HW.out f at'
      rw [wdL_len] at hsm
      have hsl := sW_rng HW.out f G.length
      rw [wdL_len] at hsl
      have e6 := IntWalk.i64_in (sW (wdL G) f at') (by omega)
      have e6' := IntWalk.i64_in (sW (wdL G) f G.length + 1) (by omega)
      have e6'' := IntWalk.i64_in (cols - 1 - 1) (by omega)
      go_wp2_with fail
      refine (pwidth_any hgm (w12_mid HW.out f at') (by rw [List.length_drop, List.length_take]; omega)).mono ?_
      rintro e w8 ⟨rfl, hB8⟩
      rw [wdL_mid]
      have HS8 := Lib.hid (HS.out.later hB8)
      have HB8 := Lib.hid (HB.out.trans (hB8.mono (by omega)))
      have HG8 := Lib.hid (Rd.below HGq.out hB8 (by omega))
      clear hB8 HS HB HGq hgm y0 yw0 y1 yw1 y2 yw2 y3 yw3 y4 yw4
      have hs8 := HS8.out.hs
      have y0 := row_cells (i := 0) HS8.out.t rfl
      have yw0 := row_warm HS8.out.t 0
      have y1 := row_cells (i := 1) HS8.out.t rfl
      have yw1 := row_warm HS8.out.t 1
      have y2 := row_cells (i := 2) HS8.out.t rfl
      have yw2 := row_warm HS8.out.t 2
      have y3 := row_cells (i := 3) HS8.out.t rfl
      have yw3 := row_warm HS8.out.t 3
      have y4 := row_cells (i := 4) HS8.out.t rfl
      have yw4 := row_warm HS8.out.t 4
      go_upto_region 15 with fail
      have HS9 := Lib.hid (show ShW (w8.setCell ⟨p, 4, none⟩ (.int .i64 (sW (wdL G) f at'))) hh p f 0 false false (sW (wdL G) f at') from HS8.out.put 4 _ rfl)
      have HB9 := Lib.hid (HS8.out.below HB8.out 4 (.int .i64 (sW (wdL G) f at')))
      have HG9 := Lib.hid (show Rs p (w8.setCell ⟨p, 4, none⟩ (.int .i64 (sW (wdL G) f at'))) gyE 2 (.slice a G.length cap) G from GlyIn.set HG8.out (Nat.le_refl _))
      clear HS8 HB8 HG8 hs8 y0 yw0 y1 yw1 y2 yw2 y3 yw3 y4 yw4
      generalize w8.setCell ⟨p, 4, none⟩ (.int .i64 (sW (wdL G) f at')) = w9 at HS9 HB9 HG9 ⊢
      have hs9 := HS9.out.hs
      have y0 := row_cells (i := 0) HS9.out.t rfl
      have yw0 := row_warm HS9.out.t 0
      have y1 := row_cells (i := 1) HS9.out.t rfl
      have yw1 := row_warm HS9.out.t 1
      have y2 := row_cells (i := 2) HS9.out.t rfl
      have yw2 := row_warm HS9.out.t 2
      have y3 := row_cells (i := 3) HS9.out.t rfl
      have yw3 := row_warm HS9.out.t 3
      have y4 := row_cells (i := 4) HS9.out.t rfl
      have yw4 := row_warm HS9.out.t 4
      have hgm := gly_part (show GlyIn w9 (.slice a G.length cap) G from Rd.mono HG9.out (by omega)) (i := f) (j := G.length) (by omega) (Nat.le_refl _)
      rw [ha'] at hgm
      go_wp2_with fail
      refine (pwidth_any hgm (w12_mid HW.out f G.length) (by rw [List.length_drop, List.length_take]; omega)).mono ?_
      rintro e w10 ⟨rfl, hB10⟩
      rw [wdL_mid]
      have HS10 := Lib.hid (HS9.out.later hB10)
      have HB10 := Lib.hid (HB9.out.trans (hB10.mono (by omega)))
      have HG10 := Lib.hid (Rd.below HG9.out hB10 (by omega))
      clear hB10 HS9 HB9 HG9 hgm y0 yw0 y1 yw1 y2 yw2 y3 yw3 y4 yw4
      have hs10 := HS10.out.hs
      have y0 := row_cells (i := 0) HS10.out.t rfl
      have yw0 := row_warm HS10.out.t 0
      have y1 := row_cells (i := 1) HS10.out.t rfl
      have yw1 := row_warm HS10.out.t 1
      have y2 := row_cells (i := 2) HS10.out.t rfl
      have yw2 := row_warm HS10.out.t 2
      have y3 := row_cells (i := 3) HS10.out.t rfl
      have yw3 := row_warm HS10.out.t 3
      have y4 := row_cells (i := 4) HS10.out.t rfl
      have yw4 := row_warm HS10.out.t 4
      have u0 := row_cells (i := 0) HS10.out.r rfl
      have uw0 := row_warm HS10.out.r 0
      have u1 := row_cells (i := 1) HS10.out.r rfl
      have uw1 := row_warm HS10.out.r 1
      have u2 := row_cells (i := 2) HS10.out.r rfl
      have uw2 := row_warm HS10.out.r 2
      have u3 := row_cells (i := 3) HS10.out.r rfl
      have uw3 := row_warm HS10.out.r 3
      have u4 := row_cells (i := 4) HS10.out.r rfl
      have uw4 := row_warm HS10.out.r 4
      by_cases hft : sW (wdL G) f G.length + 1 ≤ cols
      · have HC := Lib.hid (show choF (wdL G) at' cols = ⟨f, G.length, false, false, sW (wdL G) f at'⟩ by rw [HCE.out, if_pos hft])
        go_wp2_with fail
        refine ret_cell_tmp (x := .bool true) (ad := ⟨hh, 0, none⟩) rfl rfl rfl (run_loadVar_mid _ _ 0 _ [.int .i64 (f : Int), .int .i64 (G.length : Int), .bool false, .bool false, .int .i64 (sW (wdL G) f at')] _ (range5' (by go_simp) (by go_simp) (by go_simp) (by go_simp) (by go_simp)) Tryz.underlying27 rfl (by kernel_rfl)) rfl ?_
        rw [HC.out, HH.out]
        exact ⟨rfl, (((((HS10.out.below HB10.out 1 _).setCell (by show hh ≤ hh; omega) _).setCell (by show hh ≤ hh; omega) _).setCell (by show hh ≤ hh; omega) _).setCell (by show hh ≤ hh; omega) _).setCell (by show hh ≤ hh; omega) _⟩
      · have hft2 : decide (sW (wdL G) f G.length + 1 ≤ cols) = false := decide_eq_false hft
        have HCF := Lib.hid (show choF (wdL G) at' cols = ⟨f, toF (wdL G) f (cols - 1) (G.length - f) f, false, true, sW (wdL G) f at'⟩ by rw [HCE.out, if_neg hft])
        go_wp2_with fail
        have HS11 := Lib.hid (show ShW ((w10.setCell ⟨p, 3, none⟩ (.bool true)).setCell ⟨p, 1, none⟩ (.int .i64 (f : Int))) hh p f f false true (sW (wdL G) f at') from (show ShW (w10.setCell ⟨p, 3, none⟩ (.bool true)) hh p f 0 false true (sW (wdL G) f at') from HS10.out.put 3 _ rfl).put 1 _ rfl)
        have HB11 := Lib.hid (show Below hh w ((w10.setCell ⟨p, 3, none⟩ (.bool true)).setCell ⟨p, 1, none⟩ (.int .i64 (f : Int))) from (HS10.out.below HB10.out 3 _).setCell (by show hh ≤ p; omega) _)
        have HG11 := Lib.hid (show Rs p ((w10.setCell ⟨p, 3, none⟩ (.bool true)).setCell ⟨p, 1, none⟩ (.int .i64 (f : Int))) gyE 2 (.slice a G.length cap) G from GlyIn.set (GlyIn.set HG10.out (Nat.le_refl _)) (Nat.le_refl _))
        clear HS10 HB10 HG10 hs10 y0 yw0 y1 yw1 y2 yw2 y3 yw3 y4 yw4 u0 uw0 u1 uw1 u2 uw2 u3 uw3 u4 uw4 hft hft2
        generalize ((w10.setCell ⟨p, 3, none⟩ (.bool true)).setCell ⟨p, 1, none⟩ (.int .i64 (f : Int))) = w11 at HS11 HB11 HG11 ⊢
        go_loopw [] (fun wr => ∃ q : Nat, f ≤ q ∧ q ≤ G.length ∧ ShW wr hh p f q false true (sW (wdL G) f at') ∧ Below hh w wr ∧ Rs p wr gyE 2 (.slice a G.length cap) G ∧ toF (wdL G) f (cols - 1) (G.length - q) q = toF (wdL G) f (cols - 1) (G.length - f) f) (fun wr => G.length - frOf wr p 1)
        case atStart => exact ⟨f, Nat.le_refl _, by omega, HS11.out, HB11.out, HG11.out, rfl⟩
        case round =>
          rename World => w12
          obtain ⟨q, hq1, hq2, hS, hB, hG, hT⟩ := hrel
          have HS := Lib.hid hS
          have HB := Lib.hid hB
          have HGq := Lib.hid hG
          have HT := Lib.hid hT
          have hs12 := hS.hs
          have HTo := Lib.hid hS.tu'
          have y0 := row_cells (i := 0) hS.t rfl
          have yw0 := row_warm hS.t 0
          have y1 := row_cells (i := 1) hS.t rfl
          have yw1 := row_warm hS.t 1
          have y2 := row_cells (i := 2) hS.t rfl
          have yw2 := row_warm hS.t 2
          have y3 := row_cells (i := 3) hS.t rfl
          have yw3 := row_warm hS.t 3
          have y4 := row_cells (i := 4) hS.t rfl
          have yw4 := row_warm hS.t 4
          clear hS hB hG hT
          have e8 := IntWalk.i64_in ((q : Int) + 1) (by omega)
          have e9 := IntWalk.i64_in (cols - 1) (by omega)
          by_cases hlt : q < G.length
          · have s0 : (q : Int) < (G.length : Int) := by omega
            have s1 : (0 : Int) ≤ (q : Int) + 1 := by omega
            have s2 : ((q : Int) + 1).toNat = q + 1 := by omega
            have s3 : (f : Int) ≤ (q : Int) + 1 := by omega
            have s4 : (q : Int) + 1 ≤ (cap : Int) := by omega
            have hgm := gly_part (show GlyIn w12 (.slice a G.length cap) G from Rd.mono HGq.out (by omega)) (i := f) (j := q + 1) (by omega) (by omega)
            rw [ha'] at hgm
            have hslc := fun w => gly_slc a G.length cap f (q + 1) (by omega) (by omega) (x := (f : Int)) (y := (q : Int) + 1) rfl (by omega) w
            rw [ha'] at hslc
            have hsq := sW_rng HW.out f (q + 1)
            rw [wdL_len] at hsq
            go_wp2_with fail
            refine (pwidth_any hgm (w12_mid HW.out f (q + 1)) (by rw [List.length_drop, List.length_take]; omega)).mono ?_
            rintro e w13 ⟨rfl, hB13⟩
            rw [wdL_mid]
            have HS13 := Lib.hid (HS.out.later hB13)
            have HB13 := Lib.hid (HB.out.trans (hB13.mono (by omega)))
            have HG13 := Lib.hid (Rd.below HGq.out hB13 (by omega))
            clear hB13 HS HB HGq hgm y0 yw0 y1 yw1 y2 yw2 y3 yw3 y4 yw4
            have y0 := row_cells (i := 0) HS13.out.t rfl
            have yw0 := row_warm HS13.out.t 0
            have y1 := row_cells (i := 1) HS13.out.t rfl
            have yw1 := row_warm HS13.out.t 1
            have y2 := row_cells (i := 2) HS13.out.t rfl
            have yw2 := row_warm HS13.out.t 2
            have y3 := row_cells (i := 3) HS13.out.t rfl
            have yw3 := row_warm HS13.out.t 3
            have y4 := row_cells (i := 4) HS13.out.t rfl
            have yw4 := row_warm HS13.out.t 4
            have u0 := row_cells (i := 0) HS13.out.r rfl
            have uw0 := row_warm HS13.out.r 0
            have u1 := row_cells (i := 1) HS13.out.r rfl
            have uw1 := row_warm HS13.out.r 1
            have u2 := row_cells (i := 2) HS13.out.r rfl
            have uw2 := row_warm HS13.out.r 2
            have u3 := row_cells (i := 3) HS13.out.r rfl
            have uw3 := row_warm HS13.out.r 3
            have u4 := row_cells (i := 4) HS13.out.r rfl
            have uw4 := row_warm HS13.out.r 4
            have hs13 := HS13.out.hs
            by_cases hle : sW (wdL G) f (q + 1) ≤ cols - 1
            · have HN := Lib.hid (show toF (wdL G) f (cols - 1) (G.length - (q + 1)) (q + 1) = toF (wdL G) f (cols - 1) (G.length - f) f by rw [← HT.out]; have := to_go (ws := wdL G) (fr := f) (m := cols - 1) (t := q) (by rw [wdL_len]; exact hlt) hle; rw [wdL_len] at this; exact this.symm)
              clear hlt
              go_wp2_with fail
              go_roundw
              case rel => exact ⟨q + 1, by omega, by omega, HS13.out.put 1 _ rfl, HS13.out.below HB13.out 1 _, GlyIn.set HG13.out (Nat.le_refl _), HN.out⟩
              case measure => rw [(HS13.out.put (fr' := f) (tt' := q + 1) (ah' := false) (be' := true) (col' := sW (wdL G) f at') 1 (.int .i64 ((q : Int) + 1)) rfl).tu', HTo.out]; omega
            · have hle2 : decide (sW (wdL G) f (q + 1) ≤ cols - 1) = false := decide_eq_false hle
              have HC := Lib.hid (show choF (wdL G) at' cols = ⟨f, q, false, true, sW (wdL G) f at'⟩ by rw [HCF.out, ← HT.out, to_stop hle])
              clear hlt
              go_wp2_with fail
              refine ret_cell_tmp (x := .bool true) (ad := ⟨hh, 0, none⟩) rfl rfl rfl (run_loadVar_mid _ _ 0 _ [.int .i64 (f : Int), .int .i64 (q : Int), .bool false, .bool true, .int .i64 (sW (wdL G) f at')] _ (range5' (by go_simp) (by go_simp) (by go_simp) (by go_simp) (by go_simp)) Tryz.underlying27 rfl (by kernel_rfl)) rfl ?_
              rw [HC.out, HH.out]
              exact ⟨rfl, (((((HB13.out).setCell (by show hh ≤ hh; omega) _).setCell (by show hh ≤ hh; omega) _).setCell (by show hh ≤ hh; omega) _).setCell (by show hh ≤ hh; omega) _).setCell (by show hh ≤ hh; omega) _⟩
          · have hqe : q = G.length := by omega
            have HC := Lib.hid (show choF (wdL G) at' cols = ⟨f, G.length, false, true, sW (wdL G) f at'⟩ by rw [HCF.out, ← HT.out, hqe]; have := to_end (ws := wdL G) (fr := f) (m := cols - 1) G.length (by rw [wdL_len]; exact Nat.le_refl _); rw [wdL_len] at this; rw [this])
            subst hqe
            have u0 := row_cells (i := 0) HS.out.r rfl
            have uw0 := row_warm HS.out.r 0
            have u1 := row_cells (i := 1) HS.out.r rfl
            have uw1 := row_warm HS.out.r 1
            have u2 := row_cells (i := 2) HS.out.r rfl
            have uw2 := row_warm HS.out.r 2
            have u3 := row_cells (i := 3) HS.out.r rfl
            have uw3 := row_warm HS.out.r 3
            have u4 := row_cells (i := 4) HS.out.r rfl
            have uw4 := row_warm HS.out.r 4
            go_wp2_with fail
            refine ret_cell_tmp (x := .bool true) (ad := ⟨hh, 0, none⟩) rfl rfl rfl (run_loadVar_mid _ _ 0 _ [.int .i64 (f : Int), .int .i64 (G.length : Int), .bool false, .bool true, .int .i64 (sW (wdL G) f at')] _ (range5' (by go_simp) (by go_simp) (by go_simp) (by go_simp) (by go_simp)) Tryz.underlying27 rfl (by kernel_rfl)) rfl ?_
            rw [HC.out, HH.out]
            exact ⟨rfl, (((((HB.out).setCell (by show hh ≤ hh; omega) _).setCell (by show hh ≤ hh; omega) _).setCell (by show hh ≤ hh; omega) _).setCell (by show hh ≤ hh; omega) _).setCell (by show hh ≤ hh; omega) _⟩
end
end Go.Proofs.YtkeainhjghdfcaaGreat

/- pan.Row: its walk. -/
namespace Go.Proofs.YtkeainhjghdfcaaGreat
open Go.RowKit

/-- glyphs put one behind the other: the row, the column -/
def rowK (X : List Gy) (r0 : List Gl) (c0 : Nat) : Nat → List Gl × Nat
  | 0 => (r0, c0)
  | n + 1 => (putRow (rowK X r0 c0 n).1 (rowK X r0 c0 n).2 (X.getD n (⟨#[]⟩, 0)), (rowK X r0 c0 n).2 + (X.getD n (⟨#[]⟩, 0)).2.toNat)
theorem rowK_col {X : List Gy} (hw : W12 (wdL X)) (r0 : List Gl) (c0 : Nat) : ∀ n, n ≤ X.length → ((rowK X r0 c0 n).2 : Int) = c0 + sW (wdL X) 0 n
  | 0, _ => by rw [sW_self]; show (c0 : Int) = _; omega
  | n + 1, h => by
    have ih := rowK_col hw r0 c0 n (by omega)
    have hx : X[n]? = some X[n] := List.getElem?_eq_getElem (by omega)
    have hs := sW_snoc (ws := wdL X) (Nat.zero_le n) (by rw [wdL_len]; omega)
    have hr := wdA_rng hw n
    rw [wdA_get (wdL_get hx)] at hs hr
    show (((rowK X r0 c0 n).2 + (X.getD n (⟨#[]⟩, 0)).2.toNat : Nat) : Int) = _
    rw [List.getD_eq_getElem?_getD, hx]
    show (((rowK X r0 c0 n).2 + (X[n]).2.toNat : Nat) : Int) = _
    omega
theorem rowK_len {X : List Gy} {r0 : List Gl} {c0 : Nat} : ∀ n, (rowK X r0 c0 n).1.length = r0.length
  | 0 => rfl
  | n + 1 => by show (putRow _ _ _).length = _; rw [putRow_len]; exact rowK_len n
/-- the row that is shown -/
def rowG (G : List Gy) (s : ShP) (cols : Nat) : List Gl :=
  let r0 := if s.ah = true then putRow (List.replicate cols blankC) 0 (⟨#[60]⟩, 1) else List.replicate cols blankC
  let X := (G.take s.tu).drop s.fr
  let r1 := (rowK X r0 (if s.ah = true then 1 else 0) X.length).1
  if s.be = true then putRow r1 (cols - 1) (⟨#[62]⟩, 1) else r1
theorem gput_any {w : World} {gb lb m cap c : Nat} {l : List Gl} {x : Gl} (hG : GridG w gb lb m cap [l]) (hx : x.2 = 1 ∨ x.2 = 2) (hc : (c : Int) + x.2 ≤ (m : Int)) :
    Calls Tryz.prog 63 #[.pointer (some ⟨gb, 0, none⟩), .int .i64 0, .int .i64 (c : Int), .agg #[.string x.1, .int .i64 x.2]] w fun e w' => e = .returned (.bool true) ∧ w.grownBy w' (some lb) ∧ GridG w' gb lb m cap [putRow l c x] := by
  rcases hx with h | h
  · exact put_one gb lb m cap 0 c [l] l x w hG rfl (by omega) h
  · exact put_two gb lb m cap 0 c [l] l x w hG rfl (by omega) h
section
variable {R : List Rw} {s : List Int} {w : World} {sv : Value} {tp : Nat}
set_option maxRecDepth 100000 in
set_option maxHeartbeats 16000000 in
theorem prow_yes (H : (tabOf R).Ok) (hT : Tb R w tp) (hs : RunesIn w sv s) (ok : RunesOk s) (hl : s.length ≤ 100) (cursor : Int) {cols : Nat} (hc : 4 ≤ cols) (hc2 : cols ≤ 1000) :
    Calls Tryz.prog 18 #[.pointer (some ⟨tp, 0, none⟩), sv, .int .i64 cursor, .int .i64 (cols : Int)] w fun e w' => ∃ g c, e = .returned (.tuple #[.slice (some ⟨g, 0, none⟩) cols c, .int .i64 (choF (wdL (lineG R (clus (tabOf R) s))) (aheadG R (clus (tabOf R) s) (ahd (starts (tabOf R) s) cursor)) (cols : Int)).col, .bool true]) ∧ Below w.heap.size w w' ∧
      w'.ownsRow w.heap.size 48 2 (.slice (some ⟨g, 0, none⟩) cols c) cols ((rowG (lineG R (clus (tabOf R) s)) (choF (wdL (lineG R (clus (tabOf R) s))) (aheadG R (clus (tabOf R) s) (ahd (starts (tabOf R) s) cursor)) (cols : Int)) cols).flatMap genc) := by
  have HT := Lib.hid hT
  have HS := Lib.hid hs
  have HOk := Lib.hid ok
  obtain ⟨sl, scap, rfl, _, _, _⟩ := runes_cells hs
  have HLn := Lib.hid (line_any hT hs ok (by omega))
  have hgl := lineG_take_le R s (clus (tabOf R) s).length
  rw [List.take_length] at hgl
  have hgw : W12 (wdL (lineG R (clus (tabOf R) s))) := by
    intro x hx
    obtain ⟨g, hg, rfl⟩ := List.mem_map.1 hx
    exact (lineG_ok R g hg).1
  have hki : ahd (starts (tabOf R) s) cursor ≤ (clus (tabOf R) s).length := by rw [← starts_clus H]; exact ahd_le _ _
  have hag := atsL_get (R := R) (LL := clus (tabOf R) s) (n := (clus (tabOf R) s).length + 1) (k := ahd (starts (tabOf R) s) cursor) (by omega)
  have hal : aheadG R (clus (tabOf R) s) (ahd (starts (tabOf R) s) cursor) ≤ (lineG R (clus (tabOf R) s)).length := by
    have e1 : (lineG R ((clus (tabOf R) s).take (ahd (starts (tabOf R) s) cursor) ++ (clus (tabOf R) s).drop (ahd (starts (tabOf R) s) cursor))).length = (lineG R (clus (tabOf R) s)).length := by rw [List.take_append_drop]
    unfold lineG at e1
    rw [List.flatMap_append, List.length_append] at e1
    unfold aheadG lineG
    omega
  have HSt := Lib.hid (fun (W : World) (h1 : Tb R W tp) (h2 : RunesIn W (.slice sl s.length scap) s) => starts_any H h1 h2 ok (by omega))
  have HSo := Lib.hid (starts_sorted (tabOf R) s)
  have hsl : (starts (tabOf R) s).length ≤ 1000000 := by rw [starts_clus H]; have : (clus (tabOf R) s).length ≤ s.length := clusN_len (tabOf R) s.length s; omega
  generalize lineG R (clus (tabOf R) s) = G at HLn hgl hgw hal ⊢
  generalize aheadG R (clus (tabOf R) s) (ahd (starts (tabOf R) s) cursor) = at' at hag hal ⊢
  generalize atsL R (clus (tabOf R) s) ((clus (tabOf R) s).length + 1) = A at HLn hag
  have hsee := cho_sees hgw (at' := at') (cols := (cols : Int)) (by rw [wdL_len]; exact hal) (by omega)
  have HChoose := Lib.hid (fun (W : World) (v : Value) (h : GlyIn W v G) => choose_yes h hgw (by omega) hal (cols := (cols : Int)) (by omega) (by omega))
  generalize hsh : choF (wdL G) at' (cols : Int) = sh at hsee HChoose ⊢
  have HW := Lib.hid hgw
  have HAg := Lib.hid hag
  clear hT hs hsh hgw
  go_enter Tryz.func18, Tryz.ntmps18
  go_wp2_with fail
  refine HLn.out.mono ?_
  rintro e w1 ⟨gu, ga, rfl, hB1, hG1, hA1⟩
  have HB1 := Lib.hid hB1
  have HT1 := Lib.hid (HT.out.below hB1)
  have HS1 := Lib.hid (HS.out.below hB1)
  have HG1 := Lib.hid hG1
  have HA1 := Lib.hid hA1
  clear hB1 hG1 hA1 HLn HT HS
  go_wp2_with fail
  refine (HSt.out _ HT1.out HS1.out).mono ?_
  rintro e w2 ⟨su, rfl, hB2, hS2⟩
  have HB2 := Lib.hid (below_trans' HB1.out hB2)
  have HG2 := Lib.hid (HG1.out.below hB2)
  have HA2 := Lib.hid (HA1.out.below hB2)
  have HS2 := Lib.hid hS2
  clear hB2 hS2 HT1 HS1 HG1 HA1 HB1 HSt
  go_wp2_with fail
  refine (bsi_any su _ cursor w2 HS2.out HSo.out hsl).mono ?_
  rintro e w3 ⟨rfl, hB3, _⟩
  have HB3 := Lib.hid (below_trans' HB2.out hB3)
  have HG3 := Lib.hid (HG2.out.below hB3)
  obtain ⟨ab, aoff, acap, hv, _, _, hak, _, d0⟩ := int_cell (HA2.out.below hB3) HAg.out
  cases hv
  generalize ahd (starts (tabOf R) s) cursor = ki at HAg hki hak d0 ⊢
  clear hB3 HS2 HG2 HA2 HB2
  have k0 : (ki : Int) < (A.length : Int) := by omega
  have k1 : (0 : Int) ≤ (ki : Int) := by omega
  obtain ⟨ga', gc, rfl, hg1, hg2⟩ := gly_shape HG3.out
  unfold maxLen at hg2
  go_wp2_with fail
  refine (HChoose.out _ _ HG3.out).mono ?_
  rintro e w4 ⟨rfl, hB4⟩
  obtain ⟨fr, tt, ah, be, col⟩ := sh
  dsimp only at hsee
  obtain ⟨h1, h2, h3, ha1, hb1, hb2, h4, hc3, h5⟩ := hsee
  have HRm := Lib.hid h5
  clear ha1 hb1 hb2 h4 hc3 h5
  rw [wdL_len] at h3
  unfold shV
  have HB4 := Lib.hid (below_trans' HB3.out hB4)
  have HG4 := Lib.hid (HG3.out.below hB4)
  have hb5 := below1 w4 (.cells #[.int .i64 (fr : Int), .int .i64 (tt : Int), .bool ah, .bool be, .int .i64 col] 27)
  have HB5 := Lib.hid (below_new HB4.out (.cells #[.int .i64 (fr : Int), .int .i64 (tt : Int), .bool ah, .bool be, .int .i64 col] 27))
  have hn5 := heap_alloc_new w4 (.cells #[.int .i64 (fr : Int), .int .i64 (tt : Int), .bool ah, .bool be, .int .i64 col] 27)
  have HG5 := Lib.hid (HG4.out.below hb5)
  have hz5 : (w4.alloc (.cells #[.int .i64 (fr : Int), .int .i64 (tt : Int), .bool ah, .bool be, .int .i64 col] 27)).heap.size = w4.heap.size + 1 := by simp
  clear hB4 HB3 HG3 HB4 HG4 hb5 d0 HChoose
  go_upto_region 4 with fail
  generalize w4.alloc (.cells #[.int .i64 (fr : Int), .int .i64 (tt : Int), .bool ah, .bool be, .int .i64 col] 27) = w5 at HB5 hn5 HG5 hz5 ⊢
  generalize w4.heap.size = p at hn5 hz5 ⊢
  go_wp2_with fail
  refine (new_some 1 cols w5 (by omega) (by omega) (by omega) hc2).mono ?_
  rintro e w6 ⟨gb, lb, rfl, hgb, hlb, hB6, hGG⟩
  have hGG : GridG w6 gb lb cols (1 * cols) [List.replicate cols blankC] := hGG
  have HX5 := gly_part HG5.out (i := fr) (j := tt) (by omega) h3
  have hsw := HB5.out.size
  have hp5 : p < w5.heap.size := row_len hn5
  have hslc := fun w => gly_slc ga' G.length gc fr tt (by omega) (by omega) (x := (fr : Int)) (y := (tt : Int)) rfl rfl w
  obtain ⟨xa, hxa⟩ : ∃ xa, (if gc = fr then ga' else Option.map (fun x => x.add (fr * 2)) ga') = xa := ⟨_, rfl⟩
  rw [hxa] at hslc HX5
  obtain ⟨X, hX⟩ : ∃ X, X = (G.take tt).drop fr := ⟨_, rfl⟩
  have hXw : W12 (wdL X) := by rw [hX]; exact w12_mid HW.out fr tt
  have hXl : tt - fr = X.length := by rw [hX, List.length_drop, List.length_take]; omega
  have hXs : sW (wdL X) 0 X.length = sW (wdL G) fr tt := by rw [← wdL_len, sW_all, hX, wdL_mid]
  rw [← hX, hXl] at HX5
  rw [hXl] at hslc
  have HXx := Lib.hid hX
  have HXw := Lib.hid hXw
  have HXg := Lib.hid HX5
  have hrm := HRm.out
  rw [← hXs] at hrm
  have HN5 := Lib.hid hn5
  have HB56 := Lib.hid hB6
  have HGG := Lib.hid hGG
  clear hB6 hn5 HG5 HX5 hX hxa hXw hGG hXs hXl HRm
  cases ah
  · have HBW := HB56
    have HGr := HGG
    have y0 := cell_later HBW.out (row_cells (i := 0) HN5.out rfl)
    have y1 := cell_later HBW.out (row_cells (i := 1) HN5.out rfl)
    have y2 := cell_later HBW.out (row_cells (i := 2) HN5.out rfl)
    have y3 := cell_later HBW.out (row_cells (i := 3) HN5.out rfl)
    have y4 := cell_later HBW.out (row_cells (i := 4) HN5.out rfl)
    go_upto_region 11 with fail
    obtain ⟨r0, hr0⟩ : ∃ r0, r0 = List.replicate cols blankC := ⟨_, rfl⟩
    rw [← hr0] at HGr
    have hr0l : r0.length = cols := by rw [hr0]; simp
    have HR0 := Lib.hid hr0
    have HR0l := Lib.hid hr0l
    clear hr0 hr0l
    have hcl := fun k hk => rowK_col HXw.out r0 0 k hk
    have HCl := Lib.hid hcl
    have hsm := fun k => sW_rng HXw.out 0 k
    clear hcl
    go_wp2_with fail
    go_loopw [18, 65] (fun cv iv wr => ∃ k : Nat, k ≤ X.length ∧ iv = .int .i64 (k : Int) ∧ cv = .int .i64 (((rowK X r0 0 k).2 : Nat) : Int) ∧ Below w5.heap.size w5 wr ∧ GridG wr gb lb cols (1 * cols) [(rowK X r0 0 k).1]) (fun _ iv _ => X.length - (intOf iv).toNat)
    case atStart => exact ⟨0, Nat.zero_le _, rfl, rfl, HBW.out, HGr.out⟩
    case round =>
      obtain ⟨k, hk, rfl, rfl, hB, hG⟩ := hrel
      have HB := Lib.hid hB
      have HGk := Lib.hid hG
      have hck := HCl.out k hk
      by_cases hlt : k < X.length
      · obtain ⟨x, hx⟩ : ∃ x, X[k]? = some x := ⟨X[k], List.getElem?_eq_getElem hlt⟩
        obtain ⟨b, off, cap', hv, _, _, hbw, z0, z1⟩ := gly_cells HXg.out hx
        cases hv
        have z0 := cell_later hB z0
        have z1 := cell_later hB z1
        have hx2 : X.getD k (⟨#[]⟩, 0) = x := by rw [List.getD_eq_getElem?_getD, hx]; rfl
        have hrow : rowK X r0 0 (k + 1) = (putRow (rowK X r0 0 k).1 (rowK X r0 0 k).2 x, (rowK X r0 0 k).2 + x.2.toNat) := by
          show (putRow _ _ (X.getD k (⟨#[]⟩, 0)), _ + (X.getD k (⟨#[]⟩, 0)).2.toNat) = _
          rw [hx2]
        have hxw : x.2 = 1 ∨ x.2 = 2 := HXw.out x.2 (List.mem_map.2 ⟨x, List.mem_of_getElem? hx, rfl⟩)
        have hsn := sW_snoc (ws := wdL X) (Nat.zero_le k) (by rw [wdL_len]; exact hlt)
        rw [wdA_get (wdL_get hx)] at hsn
        have hsp := sW_split HXw.out (a := 0) (b := k + 1) (c := X.length) (Nat.zero_le _) (by omega) (by rw [wdL_len]; exact Nat.le_refl _)
        have hsr := sW_rng HXw.out (k + 1) X.length
        have hle : (((rowK X r0 0 k).2 : Nat) : Int) + x.2 ≤ (cols : Int) := by rw [hck]; cases be <;> simp at hrm <;> omega
        have HRow := Lib.hid hrow
        generalize rowK X r0 0 k = rk at HGk HRow hle ⊢
        obtain ⟨rk1, rk2⟩ := rk
        dsimp only at HGk HRow hle ⊢
        obtain ⟨x1, x2⟩ := x
        dsimp only at z0 z1 hxw hle HRow
        have hwr := hB.size
        have s0 : (k : Int) < (X.length : Int) := by omega
        have s1 : (0 : Int) ≤ (k : Int) := by omega
        have e1 := IntWalk.i64_in ((k : Int) + 1) (by omega)
        have e2 := IntWalk.i64_in ((rk2 : Int) + x2) (by omega)
        clear hB hG hx hx2 hrow hsn hsp hsr hlt hck
        have hsh := HGk.out.shape rk1 (List.mem_singleton.2 rfl)
        have hgl1 := HGk.out.grid.glt
        have hll1 := HGk.out.grid.llt (k := 0) (by simp; omega)
        have HGa := Lib.hid (HGk.out.grown (w' := wr.alloc (.cells #[.string x1, .int .i64 x2] 97)) (Below.heap_alloc wr _ gb hgl1) (Below.heap_alloc wr _ lb hll1))
        have hnq := heap_alloc_new wr (.cells #[.string x1, .int .i64 x2] 97)
        have HBa := Lib.hid (HB.out.alloc hwr (.cells #[.string x1, .int .i64 x2] 97))
        have hza : (wr.alloc (.cells #[.string x1, .int .i64 x2] 97)).heap.size = wr.heap.size + 1 := by simp
        go_wp2_with fail
        refine (gput_any (x := (x1, x2)) HGa.out hxw hle).mono ?_
        rintro e w7 ⟨rfl, hg7, hG7⟩
        have hq7 := (hg7.block wr.heap.size (by omega) (by intro e; injection e with e; omega)).trans hnq
        have q1 := row_cells (i := 1) hq7 rfl
        have HB7 := Lib.hid (HBa.out.grown hg7 (by omega) (fun b e => by injection e with e; omega))
        have HG7 := Lib.hid hG7
        clear hq7 hg7 hG7 hnq HGa HBa HB HGk z0 z1 y0 y1 y2 y3 y4
        go_wp2_with fail
        go_roundw
        case rel => exact ⟨k + 1, by omega, by go_num, by rw [HRow.out]; show _ = Value.int .i64 ((rk2 + x2.toNat : Nat) : Int); rw [show ((rk2 + x2.toNat : Nat) : Int) = (rk2 : Int) + x2 by omega], HB7.out, by rw [HRow.out]; exact HG7.out⟩
        case measure => simp [intOf] <;> omega
      · have hke : k = X.length := by omega
        subst hke
        have s0 : ¬ X.length < X.length := hlt
        have y0 := cell_later hB (row_cells (i := 0) HN5.out rfl)
        have y1 := cell_later hB (row_cells (i := 1) HN5.out rfl)
        have y2 := cell_later hB (row_cells (i := 2) HN5.out rfl)
        have y3 := cell_later hB (row_cells (i := 3) HN5.out rfl)
        have y4 := cell_later hB (row_cells (i := 4) HN5.out rfl)
        have hwr := hB.size
        have hle : (((rowK X r0 0 X.length).2 : Nat) : Int) ≤ (cols : Int) := by rw [hck]; cases be <;> simp at hrm <;> omega
        clear hck hlt hle
        cases be
        · have HRG := Lib.hid (show rowG G ⟨fr, tt, false, false, col⟩ cols = (rowK X r0 0 X.length).1 by rw [HR0.out, HXx.out]; rfl)
          have y4 := cell_later HB.out (row_cells (i := 4) HN5.out rfl)
          have hwz := HB.out.size
          go_upto_region 19 with fail
          refine wp_region_held_drew (S := fun w' => w'.cell? ⟨p, 4, none⟩ = some (.int .i64 col)) (by kernel_rfl) y4 (fun hHeld => ?_)
          refine hd_take 0 rfl (by kernel_rfl) (by kernel_rfl) (by kernel_rfl) (fun _ _ _ h => h) (by rfl) (by intro w hSw; (try dsimp only at hSw); go_simp; first | done | with_reducible rfl) hHeld ?_
          try simp only [Act.put, List.setIfInBounds_toArray, List.set_cons_zero, List.set_cons_succ]
          refine hd_take 2 rfl (by kernel_rfl) (by kernel_rfl) (by kernel_rfl) (fun _ _ _ h => h) (by rfl) (by intro w hSw; (try dsimp only at hSw); go_simp; first | done | with_reducible rfl) hHeld ?_
          try simp only [Act.put, List.setIfInBounds_toArray, List.set_cons_zero, List.set_cons_succ]
          refine hd_take 3 rfl (by kernel_rfl) (by kernel_rfl) (by kernel_rfl) (fun _ _ _ h => h) (by rfl) (by intro w hSw; (try dsimp only at hSw); go_simp; first | done | with_reducible rfl) hHeld ?_
          try simp only [Act.put, List.setIfInBounds_toArray, List.set_cons_zero, List.set_cons_succ]
          refine hd_step 1 (by kernel_rfl) rfl (fun K hK => ?_)
          go_simp
          go_at_call 64
          refine (row_some gb lb cols (1 * cols) 0 [(rowK X r0 0 X.length).1] ((rowK X r0 0 X.length).1) wr.drew (show GridG wr.drew gb lb cols (1 * cols) [(rowK X r0 0 X.length).1] from HGk.out.grown rfl rfl) rfl (by omega)).mono ?_
          rintro e w9 ⟨g9, c9, rfl, hO9, hB9⟩
          have HO9 := Lib.hid hO9
          have HB9 := Lib.hid (below_trans' HB5.out ((below_dN HB.out 1).trans (hB9.mono hwz)))
          have d9 := cell_later hB9 (show wr.drew.cell? _ = _ from y4)
          clear hO9 hB9
          refine hK.out _ _ d9 (fun hHeld => ?_)
          clear hK K
          try simp only [Act.put, List.setIfInBounds_toArray, List.set_cons_zero, List.set_cons_succ]
          refine hd_take 4 rfl (by kernel_rfl) (by kernel_rfl) (by kernel_rfl) (fun _ _ _ h => h) (by rfl) (by intro w hSw; (try dsimp only at hSw); go_simp; first | done | with_reducible rfl) hHeld ?_
          try simp only [Act.put, List.setIfInBounds_toArray, List.set_cons_zero, List.set_cons_succ]
          refine hd_take 5 rfl (by kernel_rfl) (by kernel_rfl) (by kernel_rfl) (fun _ _ _ h => h) (by rfl) (by intro w hSw; (try dsimp only at hSw); go_simp; first | done | with_reducible rfl) hHeld ?_
          try simp only [Act.put, List.setIfInBounds_toArray, List.set_cons_zero, List.set_cons_succ]
          refine hd_take 6 rfl (by kernel_rfl) (by kernel_rfl) (by kernel_rfl) (fun _ _ _ h => h) (by rfl) (by intro w hSw; (try dsimp only at hSw); go_simp; first | done | with_reducible rfl) hHeld ?_
          try simp only [Act.put, List.setIfInBounds_toArray, List.set_cons_zero, List.set_cons_succ]
          refine wpAnyH_done (by kernel_rfl) ?_ _
          clear hHeld
          go_wp2_with fail
          go_ret3
          exact ⟨_, _, rfl, HB9.out, by rw [HRG.out]; exact owns_lower HO9.out (Nat.le_trans hsw hwz)⟩
        · have hic := IntWalk.i64_in ((cols : Int) - 1) (by omega)
          have hcm : (((cols - 1 : Nat) : Nat) : Int) = (cols : Int) - 1 := by omega
          go_wp2_with fail
          rw [← hcm]
          refine (gput_any (c := cols - 1) (x := (⟨#[62]⟩, 1)) HGk.out (Or.inl rfl) (by show ((cols - 1 : Nat) : Int) + 1 ≤ _; omega)).mono ?_
          rintro e w8 ⟨rfl, hg8, hG8⟩
          have hG8 : GridG w8 gb lb cols (1 * cols) [putRow (rowK X r0 0 X.length).1 (cols - 1) (⟨#[62]⟩, 1)] := hG8
          have HG8 := Lib.hid hG8
          have HB8 := Lib.hid (HB.out.grown hg8 (by omega) (fun b e => by injection e with e; omega))
          clear hg8 hG8 y0 y1 y2 y3 y4 HGk HB hB hG
          have HRG := Lib.hid (show rowG G ⟨fr, tt, false, true, col⟩ cols = (putRow (rowK X r0 0 X.length).1 (cols - 1) (⟨#[62]⟩, 1)) by rw [HR0.out, HXx.out]; rfl)
          have y4 := cell_later HB8.out (row_cells (i := 4) HN5.out rfl)
          have hwz := HB8.out.size
          go_upto_region 19 with fail
          refine wp_region_held_drew (S := fun w' => w'.cell? ⟨p, 4, none⟩ = some (.int .i64 col)) (by kernel_rfl) y4 (fun hHeld => ?_)
          refine hd_take 0 rfl (by kernel_rfl) (by kernel_rfl) (by kernel_rfl) (fun _ _ _ h => h) (by rfl) (by intro w hSw; (try dsimp only at hSw); go_simp; first | done | with_reducible rfl) hHeld ?_
          try simp only [Act.put, List.setIfInBounds_toArray, List.set_cons_zero, List.set_cons_succ]
          refine hd_take 2 rfl (by kernel_rfl) (by kernel_rfl) (by kernel_rfl) (fun _ _ _ h => h) (by rfl) (by intro w hSw; (try dsimp only at hSw); go_simp; first | done | with_reducible rfl) hHeld ?_
          try simp only [Act.put, List.setIfInBounds_toArray, List.set_cons_zero, List.set_cons_succ]
          refine hd_take 3 rfl (by kernel_rfl) (by kernel_rfl) (by kernel_rfl) (fun _ _ _ h => h) (by rfl) (by intro w hSw; (try dsimp only at hSw); go_simp; first | done | with_reducible rfl) hHeld ?_
          try simp only [Act.put, List.setIfInBounds_toArray, List.set_cons_zero, List.set_cons_succ]
          refine hd_step 1 (by kernel_rfl) rfl (fun K hK => ?_)
          go_simp
          go_at_call 64
          refine (row_some gb lb cols (1 * cols) 0 [(putRow (rowK X r0 0 X.length).1 (cols - 1) (⟨#[62]⟩, 1))] ((putRow (rowK X r0 0 X.length).1 (cols - 1) (⟨#[62]⟩, 1))) w8.drew (show GridG w8.drew gb lb cols (1 * cols) [(putRow (rowK X r0 0 X.length).1 (cols - 1) (⟨#[62]⟩, 1))] from HG8.out.grown rfl rfl) rfl (by omega)).mono ?_
          rintro e w9 ⟨g9, c9, rfl, hO9, hB9⟩
          have HO9 := Lib.hid hO9
          have HB9 := Lib.hid (below_trans' HB5.out ((below_dN HB8.out 1).trans (hB9.mono hwz)))
          have d9 := cell_later hB9 (show w8.drew.cell? _ = _ from y4)
          clear hO9 hB9
          refine hK.out _ _ d9 (fun hHeld => ?_)
          clear hK K
          try simp only [Act.put, List.setIfInBounds_toArray, List.set_cons_zero, List.set_cons_succ]
          refine hd_take 4 rfl (by kernel_rfl) (by kernel_rfl) (by kernel_rfl) (fun _ _ _ h => h) (by rfl) (by intro w hSw; (try dsimp only at hSw); go_simp; first | done | with_reducible rfl) hHeld ?_
          try simp only [Act.put, List.setIfInBounds_toArray, List.set_cons_zero, List.set_cons_succ]
          refine hd_take 5 rfl (by kernel_rfl) (by kernel_rfl) (by kernel_rfl) (fun _ _ _ h => h) (by rfl) (by intro w hSw; (try dsimp only at hSw); go_simp; first | done | with_reducible rfl) hHeld ?_
          try simp only [Act.put, List.setIfInBounds_toArray, List.set_cons_zero, List.set_cons_succ]
          refine hd_take 6 rfl (by kernel_rfl) (by kernel_rfl) (by kernel_rfl) (fun _ _ _ h => h) (by rfl) (by intro w hSw; (try dsimp only at hSw); go_simp; first | done | with_reducible rfl) hHeld ?_
          try simp only [Act.put, List.setIfInBounds_toArray, List.set_cons_zero, List.set_cons_succ]
          refine wpAnyH_done (by kernel_rfl) ?_ _
          clear hHeld
          go_wp2_with fail
          go_ret3
          exact ⟨_, _, rfl, HB9.out, by rw [HRG.out]; exact owns_lower HO9.out (Nat.le_trans hsw hwz)⟩
  · have y2 := cell_later HB56.out (row_cells (i := 2) HN5.out rfl)
    go_wp2_with fail
    refine (gput_any (c := 0) (x := (⟨#[60]⟩, 1)) HGG.out (Or.inl rfl) (by show ((0 : Nat) : Int) + 1 ≤ _; omega)).mono ?_
    rintro e w66 ⟨rfl, hg8, hG8⟩
    have hG8 : GridG w66 gb lb cols (1 * cols) [putRow (List.replicate cols blankC) 0 (⟨#[60]⟩, 1)] := hG8
    have HGr := Lib.hid hG8
    have HBW := Lib.hid (HB56.out.grown hg8 (by have := HB56.out.size; omega) (fun b e => by injection e with e; omega))
    clear hg8 hG8 y2 HGG HB56
    have y0 := cell_later HBW.out (row_cells (i := 0) HN5.out rfl)
    have y1 := cell_later HBW.out (row_cells (i := 1) HN5.out rfl)
    have y2 := cell_later HBW.out (row_cells (i := 2) HN5.out rfl)
    have y3 := cell_later HBW.out (row_cells (i := 3) HN5.out rfl)
    have y4 := cell_later HBW.out (row_cells (i := 4) HN5.out rfl)
    go_upto_region 11 with fail
    obtain ⟨r0, hr0⟩ : ∃ r0, r0 = putRow (List.replicate cols blankC) 0 (⟨#[60]⟩, 1) := ⟨_, rfl⟩
    rw [← hr0] at HGr
    have hr0l : r0.length = cols := by rw [hr0]; simp [putRow_len]
    have HR0 := Lib.hid hr0
    have HR0l := Lib.hid hr0l
    clear hr0 hr0l
    have hcl := fun k hk => rowK_col HXw.out r0 1 k hk
    have HCl := Lib.hid hcl
    have hsm := fun k => sW_rng HXw.out 0 k
    clear hcl
    go_wp2_with fail
    go_loopw [18, 65] (fun cv iv wr => ∃ k : Nat, k ≤ X.length ∧ iv = .int .i64 (k : Int) ∧ cv = .int .i64 (((rowK X r0 1 k).2 : Nat) : Int) ∧ Below w5.heap.size w5 wr ∧ GridG wr gb lb cols (1 * cols) [(rowK X r0 1 k).1]) (fun _ iv _ => X.length - (intOf iv).toNat)
    case atStart => exact ⟨0, Nat.zero_le _, rfl, rfl, HBW.out, HGr.out⟩
    case round =>
      obtain ⟨k, hk, rfl, rfl, hB, hG⟩ := hrel
      have HB := Lib.hid hB
      have HGk := Lib.hid hG
      have hck := HCl.out k hk
      by_cases hlt : k < X.length
      · obtain ⟨x, hx⟩ : ∃ x, X[k]? = some x := ⟨X[k], List.getElem?_eq_getElem hlt⟩
        obtain ⟨b, off, cap', hv, _, _, hbw, z0, z1⟩ := gly_cells HXg.out hx
        cases hv
        have z0 := cell_later hB z0
        have z1 := cell_later hB z1
        have hx2 : X.getD k (⟨#[]⟩, 0) = x := by rw [List.getD_eq_getElem?_getD, hx]; rfl
        have hrow : rowK X r0 1 (k + 1) = (putRow (rowK X r0 1 k).1 (rowK X r0 1 k).2 x, (rowK X r0 1 k).2 + x.2.toNat) := by
          show (putRow _ _ (X.getD k (⟨#[]⟩, 0)), _ + (X.getD k (⟨#[]⟩, 0)).2.toNat) = _
          rw [hx2]
        have hxw : x.2 = 1 ∨ x.2 = 2 := HXw.out x.2 (List.mem_map.2 ⟨x, List.mem_of_getElem? hx, rfl⟩)
        have hsn := sW_snoc (ws := wdL X) (Nat.zero_le k) (by rw [wdL_len]; exact hlt)
        rw [wdA_get (wdL_get hx)] at hsn
        have hsp := sW_split HXw.out (a := 0) (b := k + 1) (c := X.length) (Nat.zero_le _) (by omega) (by rw [wdL_len]; exact Nat.le_refl _)
        have hsr := sW_rng HXw.out (k + 1) X.length
        have hle : (((rowK X r0 1 k).2 : Nat) : Int) + x.2 ≤ (cols : Int) := by rw [hck]; cases be <;> simp at hrm <;> omega
        have HRow := Lib.hid hrow
        generalize rowK X r0 1 k = rk at HGk HRow hle ⊢
        obtain ⟨rk1, rk2⟩ := rk
        dsimp only at HGk HRow hle ⊢
        obtain ⟨x1, x2⟩ := x
        dsimp only at z0 z1 hxw hle HRow
        have hwr := hB.size
        have s0 : (k : Int) < (X.length : Int) := by omega
        have s1 : (0 : Int) ≤ (k : Int) := by omega
        have e1 := IntWalk.i64_in ((k : Int) + 1) (by omega)
        have e2 := IntWalk.i64_in ((rk2 : Int) + x2) (by omega)
        clear hB hG hx hx2 hrow hsn hsp hsr hlt hck
        have hsh := HGk.out.shape rk1 (List.mem_singleton.2 rfl)
        have hgl1 := HGk.out.grid.glt
        have hll1 := HGk.out.grid.llt (k := 0) (by simp; omega)
        have HGa := Lib.hid (HGk.out.grown (w' := wr.alloc (.cells #[.string x1, .int .i64 x2] 97)) (Below.heap_alloc wr _ gb hgl1) (Below.heap_alloc wr _ lb hll1))
        have hnq := heap_alloc_new wr (.cells #[.string x1, .int .i64 x2] 97)
        have HBa := Lib.hid (HB.out.alloc hwr (.cells #[.string x1, .int .i64 x2] 97))
        have hza : (wr.alloc (.cells #[.string x1, .int .i64 x2] 97)).heap.size = wr.heap.size + 1 := by simp
        go_wp2_with fail
        refine (gput_any (x := (x1, x2)) HGa.out hxw hle).mono ?_
        rintro e w7 ⟨rfl, hg7, hG7⟩
        have hq7 := (hg7.block wr.heap.size (by omega) (by intro e; injection e with e; omega)).trans hnq
        have q1 := row_cells (i := 1) hq7 rfl
        have HB7 := Lib.hid (HBa.out.grown hg7 (by omega) (fun b e => by injection e with e; omega))
        have HG7 := Lib.hid hG7
        clear hq7 hg7 hG7 hnq HGa HBa HB HGk z0 z1 y0 y1 y2 y3 y4
        go_wp2_with fail
        go_roundw
        case rel => exact ⟨k + 1, by omega, by go_num, by rw [HRow.out]; show _ = Value.int .i64 ((rk2 + x2.toNat : Nat) : Int); rw [show ((rk2 + x2.toNat : Nat) : Int) = (rk2 : Int) + x2 by omega], HB7.out, by rw [HRow.out]; exact HG7.out⟩
        case measure => simp [intOf] <;> omega
      · have hke : k = X.length := by omega
        subst hke
        have s0 : ¬ X.length < X.length := hlt
        have y0 := cell_later hB (row_cells (i := 0) HN5.out rfl)
        have y1 := cell_later hB (row_cells (i := 1) HN5.out rfl)
        have y2 := cell_later hB (row_cells (i := 2) HN5.out rfl)
        have y3 := cell_later hB (row_cells (i := 3) HN5.out rfl)
        have y4 := cell_later hB (row_cells (i := 4) HN5.out rfl)
        have hwr := hB.size
        have hle : (((rowK X r0 1 X.length).2 : Nat) : Int) ≤ (cols : Int) := by rw [hck]; cases be <;> simp at hrm <;> omega
        clear hck hlt hle
        cases be
        · have HRG := Lib.hid (show rowG G ⟨fr, tt, true, false, col⟩ cols = (rowK X r0 1 X.length).1 by rw [HR0.out, HXx.out]; rfl)
          have y4 := cell_later HB.out (row_cells (i := 4) HN5.out rfl)
          have hwz := HB.out.size
          go_upto_region 19 with fail
          refine wp_region_held_drew (S := fun w' => w'.cell? ⟨p, 4, none⟩ = some (.int .i64 col)) (by kernel_rfl) y4 (fun hHeld => ?_)
          refine hd_take 0 rfl (by kernel_rfl) (by kernel_rfl) (by kernel_rfl) (fun _ _ _ h => h) (by rfl) (by intro w hSw; (try dsimp only at hSw); go_simp; first | done | with_reducible rfl) hHeld ?_
          try simp only [Act.put, List.setIfInBounds_toArray, List.set_cons_zero, List.set_cons_succ]
          refine hd_take 2 rfl (by kernel_rfl) (by kernel_rfl) (by kernel_rfl) (fun _ _ _ h => h) (by rfl) (by intro w hSw; (try dsimp only at hSw); go_simp; first | done | with_reducible rfl) hHeld ?_
          try simp only [Act.put, List.setIfInBounds_toArray, List.set_cons_zero, List.set_cons_succ]
          refine hd_take 3 rfl (by kernel_rfl) (by kernel_rfl) (by kernel_rfl) (fun _ _ _ h => h) (by rfl) (by intro w hSw; (try dsimp only at hSw); go_simp; first | done | with_reducible rfl) hHeld ?_
          try simp only [Act.put, List.setIfInBounds_toArray, List.set_cons_zero, List.set_cons_succ]
          refine hd_step 1 (by kernel_rfl) rfl (fun K hK => ?_)
          go_simp
          go_at_call 64
          refine (row_some gb lb cols (1 * cols) 0 [(rowK X r0 1 X.length).1] ((rowK X r0 1 X.length).1) wr.drew (show GridG wr.drew gb lb cols (1 * cols) [(rowK X r0 1 X.length).1] from HGk.out.grown rfl rfl) rfl (by omega)).mono ?_
          rintro e w9 ⟨g9, c9, rfl, hO9, hB9⟩
          have HO9 := Lib.hid hO9
          have HB9 := Lib.hid (below_trans' HB5.out ((below_dN HB.out 1).trans (hB9.mono hwz)))
          have d9 := cell_later hB9 (show wr.drew.cell? _ = _ from y4)
          clear hO9 hB9
          refine hK.out _ _ d9 (fun hHeld => ?_)
          clear hK K
          try simp only [Act.put, List.setIfInBounds_toArray, List.set_cons_zero, List.set_cons_succ]
          refine hd_take 4 rfl (by kernel_rfl) (by kernel_rfl) (by kernel_rfl) (fun _ _ _ h => h) (by rfl) (by intro w hSw; (try dsimp only at hSw); go_simp; first | done | with_reducible rfl) hHeld ?_
          try simp only [Act.put, List.setIfInBounds_toArray, List.set_cons_zero, List.set_cons_succ]
          refine hd_take 5 rfl (by kernel_rfl) (by kernel_rfl) (by kernel_rfl) (fun _ _ _ h => h) (by rfl) (by intro w hSw; (try dsimp only at hSw); go_simp; first | done | with_reducible rfl) hHeld ?_
          try simp only [Act.put, List.setIfInBounds_toArray, List.set_cons_zero, List.set_cons_succ]
          refine hd_take 6 rfl (by kernel_rfl) (by kernel_rfl) (by kernel_rfl) (fun _ _ _ h => h) (by rfl) (by intro w hSw; (try dsimp only at hSw); go_simp; first | done | with_reducible rfl) hHeld ?_
          try simp only [Act.put, List.setIfInBounds_toArray, List.set_cons_zero, List.set_cons_succ]
          refine wpAnyH_done (by kernel_rfl) ?_ _
          clear hHeld
          go_wp2_with fail
          go_ret3
          exact ⟨_, _, rfl, HB9.out, by rw [HRG.out]; exact owns_lower HO9.out (Nat.le_trans hsw hwz)⟩
        · have hic := IntWalk.i64_in ((cols : Int) - 1) (by omega)
          have hcm : (((cols - 1 : Nat) : Nat) : Int) = (cols : Int) - 1 := by omega
          go_wp2_with fail
          rw [← hcm]
          refine (gput_any (c := cols - 1) (x := (⟨#[62]⟩, 1)) HGk.out (Or.inl rfl) (by show ((cols - 1 : Nat) : Int) + 1 ≤ _; omega)).mono ?_
          rintro e w8 ⟨rfl, hg8, hG8⟩
          have hG8 : GridG w8 gb lb cols (1 * cols) [putRow (rowK X r0 1 X.length).1 (cols - 1) (⟨#[62]⟩, 1)] := hG8
          have HG8 := Lib.hid hG8
          have HB8 := Lib.hid (HB.out.grown hg8 (by omega) (fun b e => by injection e with e; omega))
          clear hg8 hG8 y0 y1 y2 y3 y4 HGk HB hB hG
          have HRG := Lib.hid (show rowG G ⟨fr, tt, true, true, col⟩ cols = (putRow (rowK X r0 1 X.length).1 (cols - 1) (⟨#[62]⟩, 1)) by rw [HR0.out, HXx.out]; rfl)
          have y4 := cell_later HB8.out (row_cells (i := 4) HN5.out rfl)
          have hwz := HB8.out.size
          go_upto_region 19 with fail
          refine wp_region_held_drew (S := fun w' => w'.cell? ⟨p, 4, none⟩ = some (.int .i64 col)) (by kernel_rfl) y4 (fun hHeld => ?_)
          refine hd_take 0 rfl (by kernel_rfl) (by kernel_rfl) (by kernel_rfl) (fun _ _ _ h => h) (by rfl) (by intro w hSw; (try dsimp only at hSw); go_simp; first | done | with_reducible rfl) hHeld ?_
          try simp only [Act.put, List.setIfInBounds_toArray, List.set_cons_zero, List.set_cons_succ]
          refine hd_take 2 rfl (by kernel_rfl) (by kernel_rfl) (by kernel_rfl) (fun _ _ _ h => h) (by rfl) (by intro w hSw; (try dsimp only at hSw); go_simp; first | done | with_reducible rfl) hHeld ?_
          try simp only [Act.put, List.setIfInBounds_toArray, List.set_cons_zero, List.set_cons_succ]
          refine hd_take 3 rfl (by kernel_rfl) (by kernel_rfl) (by kernel_rfl) (fun _ _ _ h => h) (by rfl) (by intro w hSw; (try dsimp only at hSw); go_simp; first | done | with_reducible rfl) hHeld ?_
          try simp only [Act.put, List.setIfInBounds_toArray, List.set_cons_zero, List.set_cons_succ]
          refine hd_step 1 (by kernel_rfl) rfl (fun K hK => ?_)
          go_simp
          go_at_call 64
          refine (row_some gb lb cols (1 * cols) 0 [(putRow (rowK X r0 1 X.length).1 (cols - 1) (⟨#[62]⟩, 1))] ((putRow (rowK X r0 1 X.length).1 (cols - 1) (⟨#[62]⟩, 1))) w8.drew (show GridG w8.drew gb lb cols (1 * cols) [(putRow (rowK X r0 1 X.length).1 (cols - 1) (⟨#[62]⟩, 1))] from HG8.out.grown rfl rfl) rfl (by omega)).mono ?_
          rintro e w9 ⟨g9, c9, rfl, hO9, hB9⟩
          have HO9 := Lib.hid hO9
          have HB9 := Lib.hid (below_trans' HB5.out ((below_dN HB8.out 1).trans (hB9.mono hwz)))
          have d9 := cell_later hB9 (show w8.drew.cell? _ = _ from y4)
          clear hO9 hB9
          refine hK.out _ _ d9 (fun hHeld => ?_)
          clear hK K
          try simp only [Act.put, List.setIfInBounds_toArray, List.set_cons_zero, List.set_cons_succ]
          refine hd_take 4 rfl (by kernel_rfl) (by kernel_rfl) (by kernel_rfl) (fun _ _ _ h => h) (by rfl) (by intro w hSw; (try dsimp only at hSw); go_simp; first | done | with_reducible rfl) hHeld ?_
          try simp only [Act.put, List.setIfInBounds_toArray, List.set_cons_zero, List.set_cons_succ]
          refine hd_take 5 rfl (by kernel_rfl) (by kernel_rfl) (by kernel_rfl) (fun _ _ _ h => h) (by rfl) (by intro w hSw; (try dsimp only at hSw); go_simp; first | done | with_reducible rfl) hHeld ?_
          try simp only [Act.put, List.setIfInBounds_toArray, List.set_cons_zero, List.set_cons_succ]
          refine hd_take 6 rfl (by kernel_rfl) (by kernel_rfl) (by kernel_rfl) (fun _ _ _ h => h) (by rfl) (by intro w hSw; (try dsimp only at hSw); go_simp; first | done | with_reducible rfl) hHeld ?_
          try simp only [Act.put, List.setIfInBounds_toArray, List.set_cons_zero, List.set_cons_succ]
          refine wpAnyH_done (by kernel_rfl) ?_ _
          clear hHeld
          go_wp2_with fail
          go_ret3
          exact ⟨_, _, rfl, HB9.out, by rw [HRG.out]; exact owns_lower HO9.out (Nat.le_trans hsw hwz)⟩
end
end Go.Proofs.YtkeainhjghdfcaaGreat
