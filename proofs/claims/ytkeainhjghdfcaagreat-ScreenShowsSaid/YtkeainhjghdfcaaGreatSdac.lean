/- Joined texts: RefC RefD RefE GridI GridJ GridK GridL CatG StrE ColA Mk. -/
import Derived.Test.YtkeainhjghdfcaaGreatRows
import Derived.Laws.Concat
import Derived.Deep.QuietTactic
import Derived.BigQuiet
import Derived.IntWalk
import Derived.Laws.MakeOwn
import Derived.Laws.Rows
import Derived.Test.YtkeainhjghdfcaaGreatSdab
import Derived.Test.YtkeainhjghdfcaaGreatSdaa

/- The document's grid: Put. -/
namespace Go.Proofs.YtkeainhjghdfcaaGreat
open Go.RowKit

theorem refIn_yes' (B ob m cap : Nat) (rb rc : Nat → Nat) (G : List (List Gl)) (r c : Int) (w : World) (hG : RefAt w B ob rb rc m G) (h1 : 0 ≤ r) (h2 : r < G.length) (h3 : 0 ≤ c) (h4 : c < m) :
    Calls Tryz.prog 121 #[.slice (some ⟨ob, 0, none⟩) G.length cap, .int .i64 r, .int .i64 c] w fun e w' => e = .returned (.bool true) ∧ w = w' :=
  refIn_yes ob G.length m cap (rb r.toNat) (rc r.toNat) r c w h1 h2 h3 h4 (hG.outer _ (by omega))
theorem refIn_no' (B ob m cap : Nat) (rb rc : Nat → Nat) (G : List (List Gl)) (r c : Int) (w : World) (hG : RefAt w B ob rb rc m G) (h : ¬ (0 ≤ r ∧ r < G.length ∧ 0 ≤ c ∧ c < m)) :
    Calls Tryz.prog 121 #[.slice (some ⟨ob, 0, none⟩) G.length cap, .int .i64 r, .int .i64 c] w fun e w' => e = .returned (.bool false) ∧ w = w' :=
  refIn_no ob G.length m cap rb rc r c w hG.outer h

theorem grown_drew {w w' : World} {r : Option Nat} (h : w.grownBy w' r) : w.grownBy w'.drew r := ⟨h.os, h.tape, h.output, h.size, h.block⟩

set_option maxRecDepth 100000 in
set_option maxHeartbeats 1000000 in
theorem refPut_no (B ob m cap : Nat) (rb rc : Nat → Nat) (G : List (List Gl)) (r c d : Int) (t : ByteArray) (w : World) (hob : ob < w.heap.size) (hG : RefAt w B ob rb rc m G) (h : ¬ roomy G.length m r c d) :
    Calls Tryz.prog 73 #[.slice (some ⟨ob, 0, none⟩) G.length cap, .int .i64 r, .int .i64 c, .agg #[.string t, .int .i64 d]] w fun e w' => e = .returned (.bool false) ∧ Below w.heap.size w w' := by
  have hsm := hG.small
  have hGx : RefAt (w.alloc (.cells #[.string t, .int .i64 d] 81)) B ob rb rc m G := hG.same (Below.heap_alloc _ _ _ hob) fun r hr => Below.heap_alloc _ _ _ (hG.row (List.getElem?_eq_getElem hr)).2.2.2.2.2.2.1
  generalize hn : G.length = n at *
  unfold roomy at h
  by_cases h1 : 0 ≤ r ∧ r < n ∧ 0 ≤ c ∧ c < m
  · have h2 : (d ≠ 1 ∧ d ≠ 2) ∨ (d = 2 ∧ c + 1 = m) := by omega
    rcases h2 with ⟨h2, h3⟩ | ⟨h2, h3⟩
    · go_enter Tryz.func73, Tryz.ntmps73
      go_wp2_with fail
      subst hn
      refine (refIn_yes' B ob m cap rb rc G _ _ _ hGx h1.1 h1.2.1 h1.2.2.1 h1.2.2.2).mono ?_
      rintro e w' ⟨rfl, rfl⟩
      go_wp2
      go_ret
      exact ⟨rfl, (Below.refl _ _).alloc (Nat.le_refl _) _⟩
    · subst h2
      obtain ⟨q1, q2, q3, q4⟩ := h1
      go_enter Tryz.func73, Tryz.ntmps73
      go_wp2_with fail
      subst hn
      refine (refIn_yes' B ob m cap rb rc G _ _ _ hGx q1 q2 q3 q4).mono ?_
      rintro e w' ⟨rfl, rfl⟩
      go_wp2_with fail
      refine (refIn_no' B ob m cap rb rc G _ _ _ hGx (by omega)).mono ?_
      rintro e w' ⟨rfl, rfl⟩
      go_wp2
      go_ret
      exact ⟨rfl, (Below.refl _ _).alloc (Nat.le_refl _) _⟩
  · go_enter Tryz.func73, Tryz.ntmps73
    go_wp2_with fail
    subst hn
    refine (refIn_no' B ob m cap rb rc G _ _ _ hGx h1).mono ?_
    rintro e w' ⟨rfl, rfl⟩
    go_wp2
    go_ret
    exact ⟨rfl, (Below.refl _ _).alloc (Nat.le_refl _) _⟩

set_option maxRecDepth 100000 in
set_option maxHeartbeats 1000000 in
theorem refPut_one (B ob m cap : Nat) (rb rc : Nat → Nat) (G : List (List Gl)) (r c : Nat) (l : List Gl) (x : Gl) (w : World) (hG : RefAt w B ob rb rc m G) (hr : G[r]? = some l) (hc : c < m) (hx : x.2 = 1) :
    Calls Tryz.prog 73 #[.slice (some ⟨ob, 0, none⟩) G.length cap, .int .i64 r, .int .i64 c, .agg #[.string x.1, .int .i64 x.2]] w fun e w' => e = .returned (.bool true) ∧ w.grownBy w' (some (rb r)) ∧ RefAt w' B ob rb rc m (G.set r (putRow l c x)) := by
  obtain ⟨hl, hw, hrl, ho, hR, hne, hlb, hob⟩ := hG.row hr
  obtain ⟨t, d⟩ := x
  dsimp only at hx ⊢
  subst hx
  have hput : putRow l c (t, 1) = (looseRow l c).set c (t, 1) := by unfold putRow; rw [if_neg (show ¬ (1 : Int) = 2 by decide)]
  have HP := Lib.hid hput
  have hwp : wfRow (putRow l c (t, 1)) := wf_put hw (by omega) (.inl rfl)
  have hsm := hG.small
  have hfew := hG.few
  have hGx : RefAt (w.alloc (.cells #[.string t, .int .i64 1] 81)) B ob rb rc m G := hG.same (Below.heap_alloc _ _ _ hob) fun r hr => Below.heap_alloc _ _ _ (hG.row (List.getElem?_eq_getElem hr)).2.2.2.2.2.2.1
  have HG := Lib.hid hG
  clear hput hG
  go_enter Tryz.func73, Tryz.ntmps73
  go_wp2_with fail
  refine (refIn_yes' B ob m cap rb rc G _ _ _ hGx (by omega) (by omega) (by omega) (by omega)).mono ?_
  rintro e w' ⟨rfl, rfl⟩
  have hr0 : (0 : Int) ≤ (r : Int) := by omega
  have hr1 : (r : Int) < (G.length : Int) := by omega
  have hc0 : (0 : Int) ≤ (c : Int) := by omega
  have hc1 : (c : Int) < (m : Int) := by omega
  go_wp2_with fail
  refine (rloose_any (rb r) m (rc r) c l _ (hR.same (Below.heap_alloc _ _ _ hlb)) hl hw hc hsm).mono ?_
  rintro e w2 ⟨rfl, hg2, hR2⟩
  have ho2 : w2.cell? ⟨ob, r, none⟩ = some (.slice (some ⟨rb r, 0, none⟩) m (rc r)) := grown_cell hg2 (by go_simp) (by exact fun e => hne e.symm)
  have x0 : w2.cell? ⟨w.heap.size, 0, none⟩ = some (.string t) := grown_cell hg2 (by go_simp) (by show w.heap.size ≠ rb r; omega)
  have x1 : w2.cell? ⟨w.heap.size, 1, none⟩ = some (.int .i64 1) := grown_cell hg2 (by go_simp) (by show w.heap.size ≠ rb r; omega)
  have hgw : w.grownBy w2 (some (rb r)) := ⟨hg2.os, hg2.tape, hg2.output, Nat.le_trans (by simp) hg2.size, fun j hj hn => (hg2.block j (by simp; omega) hn).trans (Below.heap_alloc _ _ _ hj)⟩
  obtain ⟨s0, s1, v0, v1, hlb2⟩ := hR2.facts (k := c) (by rw [looseRow_len]; omega)
  have hnx : ¬ w.heap.size = rb r := by omega
  have hnx' : ¬ rb r = w.heap.size := by omega
  have hnx2 : ¬ ob = rb r := fun e => hne e.symm
  have hnx3 : ¬ rb r = ob := hne
  clear hg2 hGx
  go_wp2
  go_region_held3 (fun w' => w'.cell? ⟨ob, r, none⟩ = some (.slice (some ⟨rb r, 0, none⟩) m (rc r)) ∧ w'.cell? ⟨w.heap.size, 0, none⟩ = some (.string t) ∧ w'.cell? ⟨w.heap.size, 1, none⟩ = some (.int .i64 1)) (go_keep) (first | fail)
  go_wp2
  go_ret
  have hp := hR2.put0 (k := c) (by rw [looseRow_len]; omega) (t, 1)
  have hg3 : w.grownBy _ (some (rb r)) := grown_trans hgw hp.2
  have hg4 := grown_drew hg3
  refine ⟨rfl, hg4, HG.out.set hrl hg4 ?_ (by rw [putRow_len]; exact hl) hwp⟩
  rw [HP.out]
  exact hp.1.same rfl

set_option maxRecDepth 100000 in
set_option maxHeartbeats 1000000 in
theorem refPut_two (B ob m cap : Nat) (rb rc : Nat → Nat) (G : List (List Gl)) (r c : Nat) (l : List Gl) (x : Gl) (w : World) (hG : RefAt w B ob rb rc m G) (hr : G[r]? = some l) (hcw : c + 1 < m) (hx : x.2 = 2) :
    Calls Tryz.prog 73 #[.slice (some ⟨ob, 0, none⟩) G.length cap, .int .i64 r, .int .i64 c, .agg #[.string x.1, .int .i64 x.2]] w fun e w' => e = .returned (.bool true) ∧ w.grownBy w' (some (rb r)) ∧ RefAt w' B ob rb rc m (G.set r (putRow l c x)) := by
  have hc : c < m := by omega
  obtain ⟨hl, hw, hrl, ho, hR, hne, hlb, hob⟩ := hG.row hr
  obtain ⟨t, d⟩ := x
  dsimp only at hx ⊢
  subst hx
  have hput : putRow l c (t, 2) = ((looseRow (looseRow l c) (c + 1)).set (c + 1) zeroC).set c (t, 2) := by unfold putRow; rw [if_pos rfl]
  have HP := Lib.hid hput
  have hwp : wfRow (putRow l c (t, 2)) := wf_put hw (by omega) (.inr ⟨rfl, by omega⟩)
  have hsm := hG.small
  have hfew := hG.few
  have hGx : RefAt (w.alloc (.cells #[.string t, .int .i64 2] 81)) B ob rb rc m G := hG.same (Below.heap_alloc _ _ _ hob) fun r hr => Below.heap_alloc _ _ _ (hG.row (List.getElem?_eq_getElem hr)).2.2.2.2.2.2.1
  have HG := Lib.hid hG
  clear hput hG
  go_enter Tryz.func73, Tryz.ntmps73
  go_wp2_with fail
  refine (refIn_yes' B ob m cap rb rc G _ _ _ hGx (by omega) (by omega) (by omega) (by omega)).mono ?_
  rintro e w' ⟨rfl, rfl⟩
  go_wp2_with fail
  refine (refIn_yes' B ob m cap rb rc G _ _ _ hGx (by omega) (by omega) (by omega) (by omega)).mono ?_
  rintro e w' ⟨rfl, rfl⟩
  have hr0 : (0 : Int) ≤ (r : Int) := by omega
  have hr1 : (r : Int) < (G.length : Int) := by omega
  have hc0 : (0 : Int) ≤ (c : Int) := by omega
  have hc1 : (c : Int) < (m : Int) := by omega
  go_wp2_with fail
  refine (rloose_any (rb r) m (rc r) c l _ (hR.same (Below.heap_alloc _ _ _ hlb)) hl hw hc hsm).mono ?_
  rintro e w2 ⟨rfl, hg2, hR2⟩
  have ho2 : w2.cell? ⟨ob, r, none⟩ = some (.slice (some ⟨rb r, 0, none⟩) m (rc r)) := grown_cell hg2 (by go_simp) (by exact fun e => hne e.symm)
  have x0 : w2.cell? ⟨w.heap.size, 0, none⟩ = some (.string t) := grown_cell hg2 (by go_simp) (by show w.heap.size ≠ rb r; omega)
  have x1 : w2.cell? ⟨w.heap.size, 1, none⟩ = some (.int .i64 2) := grown_cell hg2 (by go_simp) (by show w.heap.size ≠ rb r; omega)
  have hgw : w.grownBy w2 (some (rb r)) := ⟨hg2.os, hg2.tape, hg2.output, Nat.le_trans (by simp) hg2.size, fun j hj hn => (hg2.block j (by simp; omega) hn).trans (Below.heap_alloc _ _ _ hj)⟩
  have hnx : ¬ w.heap.size = rb r := by omega
  have hnx' : ¬ rb r = w.heap.size := by omega
  have hnx2 : ¬ ob = rb r := fun e => hne e.symm
  have hnx3 : ¬ rb r = ob := hne
  clear hg2 hGx
  have hlb2 := hR2.lt (k := c) (by rw [looseRow_len]; omega)
  have hwl := wf_loose hw (k := c) (by omega)
  have hj0 : (0 : Int) ≤ (c : Int) + 1 := by omega
  have hj1 : (c : Int) + 1 < (m : Int) := by omega
  have hj3 : ((c : Int) + 1).toNat = c + 1 := by omega
  have e1 := IntWalk.i64_in ((c : Int) + 1) (by omega)
  go_wp2_with fail
  refine (rloose_any (rb r) m (rc r) (c + 1) (looseRow l c) _ hR2 (by rw [looseRow_len]; exact hl) hwl hcw hsm).mono ?_
  rintro e w3 ⟨rfl, hg3, hR3⟩
  have ho3 : w3.cell? ⟨ob, r, none⟩ = some (.slice (some ⟨rb r, 0, none⟩) m (rc r)) := grown_cell hg3 ho2 (by exact fun e => hne e.symm)
  have y0 : w3.cell? ⟨w.heap.size, 0, none⟩ = some (.string t) := grown_cell hg3 x0 (by show w.heap.size ≠ rb r; omega)
  have y1 : w3.cell? ⟨w.heap.size, 1, none⟩ = some (.int .i64 2) := grown_cell hg3 x1 (by show w.heap.size ≠ rb r; omega)
  have hgw3 := grown_trans hgw hg3
  obtain ⟨s0, s1, v0, v1, hlb3⟩ := hR3.facts (k := c + 1) (by rw [looseRow_len, looseRow_len]; omega)
  clear ho2 x0 x1 hg3
  go_wp2
  have h4 := hR3.put0 (k := c + 1) (by rw [looseRow_len, looseRow_len]; omega) zeroC
  dsimp only [zeroC] at h4
  generalize (w3.setCell ⟨rb r, (c + 1) * 2, none⟩ (Value.string ⟨#[]⟩)).setCell ⟨rb r, (c + 1) * 2 + 1, none⟩ (Value.int .i64 0) = W4 at h4 ⊢
  obtain ⟨hR4, g4⟩ := h4
  have hR4' : RRow W4 (rb r) ((looseRow (looseRow l c) (c + 1)).set (c + 1) zeroC) := hR4
  have ho2 : W4.cell? ⟨ob, r, none⟩ = some (.slice (some ⟨rb r, 0, none⟩) m (rc r)) := grown_cell g4 ho3 (by exact fun e => hne e.symm)
  have x0 : W4.cell? ⟨w.heap.size, 0, none⟩ = some (.string t) := grown_cell g4 y0 (by show w.heap.size ≠ rb r; omega)
  have x1 : W4.cell? ⟨w.heap.size, 1, none⟩ = some (.int .i64 2) := grown_cell g4 y1 (by show w.heap.size ≠ rb r; omega)
  have hgw4 := grown_trans hgw3 g4
  have hcl : c < ((looseRow (looseRow l c) (c + 1)).set (c + 1) zeroC).length := by rw [List.length_set, looseRow_len, looseRow_len]; omega
  clear s0 s1 v0 v1 ho3 y0 y1 hR4 g4
  obtain ⟨s0, s1, v0, v1, hlb4⟩ := hR4'.facts hcl
  go_region_held3 (fun w' => w'.cell? ⟨ob, r, none⟩ = some (.slice (some ⟨rb r, 0, none⟩) m (rc r)) ∧ w'.cell? ⟨w.heap.size, 0, none⟩ = some (.string t) ∧ w'.cell? ⟨w.heap.size, 1, none⟩ = some (.int .i64 2)) (go_keep) (first | fail)
  go_wp2
  go_ret
  have hp := hR4'.put0 hcl (t, 2)
  have hg5 : w.grownBy _ (some (rb r)) := grown_drew (grown_trans hgw4 hp.2)
  refine ⟨rfl, hg5, HG.out.set hrl hg5 ?_ (by rw [putRow_len]; exact hl) hwp⟩
  rw [HP.out]
  exact hp.1.same rfl
end Go.Proofs.YtkeainhjghdfcaaGreat

/- The document's grid: New. -/
namespace Go.Proofs.YtkeainhjghdfcaaGreat
open Go.RowKit

theorem Erc : ElemT Tryz.prog 44 49 2 24 := elemT_of (by kernel_rfl) (z := .agg #[.string ⟨#[]⟩, .int .i64 0]) (by kernel_rfl) rfl (by decide) (by decide)
theorem Err : ElemT Tryz.prog 63 44 1 24 := elemT_of (by kernel_rfl) (z := .slice none 0 0) (by kernel_rfl) rfl (by decide) (by decide)

def rowVal (m : Nat) (p : Nat × Nat) : Value := .slice (some ⟨p.1, 0, none⟩) m p.2

structure RNew (w wr : World) (m r : Nat) (vo : Value) (rs : List (Nat × Nat)) : Prop where
  len : rs.length = r
  own : wr.ownsRow w.heap.size 44 1 vo r (rs.map (rowVal m))
  below : Below w.heap.size w wr
  rows : ∀ p ∈ rs, RRow wr p.1 (List.replicate m blankC) ∧ w.heap.size ≤ p.1 ∧ p.1 < wr.heap.size ∧ vo.ownBlock ≠ some p.1
  nodup : (rs.map (·.1)).Nodup

theorem RNew.snoc {w wr wi w1 : World} {m r g cap lb lc : Nat} {vo : Value} {rs : List (Nat × Nat)} (h : RNew w wr m r vo rs) (hb : Below wr.heap.size wr wi) 
    (hrow : wi.ownsRow wr.heap.size 49 2 (.slice (some ⟨lb, 0, none⟩) m lc) m ((List.replicate m blankC).flatMap genc))
    (ho : w1.ownsRow w.heap.size 44 1 (.slice (some ⟨g, 0, none⟩) (r + 1) cap) (r + 1) (rs.map (rowVal m) ++ [.slice (some ⟨lb, 0, none⟩) m lc]))
    (hg : wi.grownBy w1 vo.ownBlock) (hf : vo.ownBlock = some g ∨ wi.heap.size ≤ g) : RNew w w1 m (r + 1) (.slice (some ⟨g, 0, none⟩) (r + 1) cap) (rs ++ [(lb, lc)]) := by
  have hsz := h.below.size
  have hlt := hrow.lt lb rfl
  have hbs := hb.size
  have hB1 : Below w.heap.size w wi := h.below.trans (hb.mono hsz)
  have hv : ∀ b, vo.ownBlock = some b → w.heap.size ≤ b ∧ b < wr.heap.size := fun b hb => h.own.lt b hb
  have hgs := hg.size
  refine ⟨by simp [h.len], by simpa [rowVal] using ho, hB1.grown hg (by omega) (fun k hk => (hv k hk).1), ?_, ?_⟩
  · intro p hp
    rcases List.mem_append.1 hp with hp | hp
    · obtain ⟨h1, h2, h3, h4⟩ := h.rows p hp
      refine ⟨(h1.same (hb.block _ h3)).same (hg.block _ (by omega) (fun e => h4 e.symm)), h2, by omega, ?_⟩
      show (some g : Option Nat) ≠ some p.1
      rcases hf with hf | hf
      · rw [← hf]; exact h4
      · intro e; injection e with e; omega
    · simp only [List.mem_singleton] at hp
      subst hp
      dsimp only
      have hne : vo.ownBlock ≠ some lb := by intro e; have := hv lb e; omega
      refine ⟨RRow.same (w := wi) ⟨fun j u hu => ?_, fun j => hrow.frozenAt j⟩ (hg.block _ hlt.2 (fun e => hne e.symm)), by omega, by omega, ?_⟩
      · have hj := (List.getElem?_eq_some_iff.1 hu).1
        rw [flat_len genc_len, List.length_replicate] at hj
        exact (hrow.cellAt j hj).trans hu
      · show (some g : Option Nat) ≠ some lb
        rcases hf with hf | hf
        · rw [← hf]; exact hne
        · intro e; injection e with e; omega
  · rw [List.map_append, List.nodup_append]
    refine ⟨h.nodup, by simp, ?_⟩
    intro a ha b hb' hab
    simp only [List.map_cons, List.map_nil, List.mem_singleton] at hb'
    subst hb'
    obtain ⟨p, hp, rfl⟩ := List.mem_map.1 ha
    have := (h.rows p hp).2.2.1
    omega

theorem RNew.fin {w wr : World} {m r g cap : Nat} {rs : List (Nat × Nat)} (h : RNew w wr m r (.slice (some ⟨g, 0, none⟩) r cap) rs) (hm : 0 < m) (hm2 : m ≤ 1000) (hr : 0 < r) (hr2 : r ≤ 500) :
    RefAt wr w.heap.size g (fun i => (rs.getD i (0, 0)).1) (fun i => (rs.getD i (0, 0)).2) m (List.replicate r (List.replicate m blankC)) := by
  have hg := h.own.lt g rfl
  have hlen := h.len
  have hget : ∀ i, i < r → ∃ p, rs[i]? = some p ∧ rs.getD i (0, 0) = p := by
    intro i hi
    refine ⟨rs[i]'(by omega), List.getElem?_eq_getElem _, ?_⟩
    rw [List.getD_eq_getElem?_getD, List.getElem?_eq_getElem (by omega)]; rfl
  refine ⟨?_, ?_, ?_, ?_, ?_, ?_, ?_, hg.1, hm, by omega, by rw [List.length_replicate]; omega⟩
  · intro i hi
    rw [List.length_replicate] at hi
    obtain ⟨p, hp, hpe⟩ := hget i hi
    have hc := h.own.cells (g := g) rfl i (rowVal m p) (by rw [List.getElem?_map, hp]; rfl)
    rw [addr_add] at hc
    rw [hpe]
    exact hc
  · intro i l hl
    rw [List.getElem?_replicate] at hl
    split at hl
    · rename_i hi
      obtain rfl := Option.some.inj hl
      obtain ⟨p, hp, hpe⟩ := hget i hi
      rw [hpe]
      exact (h.rows p (List.mem_of_getElem? hp)).1
    · cases hl
  · intro l hl; rw [(List.mem_replicate.1 hl).2]; simp
  · intro l hl; rw [(List.mem_replicate.1 hl).2]; exact wf_blank m
  · intro i hi e
    rw [List.length_replicate] at hi
    obtain ⟨p, hp, hpe⟩ := hget i hi
    rw [hpe] at e
    exact (h.rows p (List.mem_of_getElem? hp)).2.2.2 (by rw [e]; rfl)
  · intro i j hi hj e
    rw [List.length_replicate] at hi hj
    obtain ⟨p, hp, hpe⟩ := hget i hi
    obtain ⟨q, hq, hqe⟩ := hget j hj
    rw [hpe, hqe] at e
    refine (List.getElem?_inj (l := rs.map (·.1)) (by simpa [hlen] using hi) h.nodup).1 ?_
    rw [List.getElem?_map, List.getElem?_map, hp, hq]
    simpa using e
  · intro i hi
    rw [List.length_replicate] at hi
    obtain ⟨p, hp, hpe⟩ := hget i hi
    rw [hpe]
    exact (h.rows p (List.mem_of_getElem? hp)).2.1

theorem one_cell (t : ByteArray) (d : Int) : ∀ u ∈ [Value.string t, Value.int .i64 d], u.oneCell' = true := by intro u hu; simp at hu; rcases hu with rfl | rfl <;> rfl
theorem one_row (m : Nat) (p : Nat × Nat) : ∀ u ∈ [rowVal m p], u.oneCell' = true := by intro u hu; simp at hu; subst hu; rfl
theorem blanks_snoc (k : Nat) : (List.replicate k blankC).flatMap genc ++ [.string ⟨#[32]⟩, .int .i64 1] = (List.replicate (k + 1) blankC).flatMap genc := by
  rw [List.replicate_succ', List.flatMap_append]; rfl

set_option maxRecDepth 100000 in
set_option maxHeartbeats 1000000 in
theorem refNew_some (n m : Nat) (w : World) (h1 : 1 ≤ n) (h2 : n ≤ 500) (h3 : 2 ≤ m) (h4 : m ≤ 1000) :
    Calls Tryz.prog 72 #[.int .i64 n, .int .i64 m] w fun e w' => ∃ ob cap rb rc, e = .returned (.slice (some ⟨ob, 0, none⟩) n cap) ∧ Below w.heap.size w w' ∧ RefAt w' w.heap.size ob rb rc m (List.replicate n (List.replicate m blankC)) := by
  have q1 : decide ((n : Int) < 1) = false := decide_eq_false (by omega)
  have q2 : decide ((500 : Int) < n) = false := decide_eq_false (by omega)
  have q3 : decide ((m : Int) < 2) = false := decide_eq_false (by omega)
  have q4 : decide ((1000 : Int) < m) = false := decide_eq_false (by omega)
  go_enter Tryz.func72, Tryz.ntmps72
  go_wp2
  go_loopw [5, 6] (fun vo i wr => ∃ r rs, r ≤ n ∧ i = .int .i64 ((r : Nat) : Int) ∧ RNew w wr m r vo rs) (fun _ i _ => n - (intOf i).toNat)
  case atStart => exact ⟨0, [], Nat.zero_le _, rfl, rfl, World.ownsRow_nil _ _ _ _, Below.refl _ _, by simp, by simp⟩
  case round =>
    obtain ⟨r, rs, hr, rfl, hN⟩ := hrel
    have hsz := hN.below.size
    obtain ⟨sa, sc, rfl⟩ := slice_of_owns hN.own
    by_cases hlt : r < n
    · obtain ⟨wo, rfl⟩ : ∃ wo : World, wo = wr := ⟨_, rfl⟩
      have HN := Lib.hid hN
      clear hN
      go_wp2
      go_loopw [7, 8] (fun vl j wi => ∃ k : Nat, k ≤ m ∧ j = .int .i64 ((k : Nat) : Int) ∧ Below wo.heap.size wo wi ∧ wi.ownsRow wo.heap.size 49 2 vl k ((List.replicate k blankC).flatMap genc)) (fun _ j _ => m - (intOf j).toNat)
      case atStart => exact ⟨0, Nat.zero_le _, rfl, Below.refl _ _, World.ownsRow_nil _ _ _ _⟩
      case round =>
        obtain ⟨k, hk, rfl, hB, ho⟩ := hrel
        have hBs := hB.size
        obtain ⟨ta, tc, rfl⟩ := slice_of_owns ho
        by_cases hlt2 : k < m
        · go_wp2_with fail
          refine (rblank_any _).mono ?_
          rintro e w' ⟨rfl, rfl⟩
          have ho' := ho.alloc (.cells #[.string ⟨#[32]⟩, .int .i64 1] 49)
          have hB' : Below wo.heap.size wo _ := hB.alloc hBs (.cells #[.string ⟨#[32]⟩, .int .i64 1] 49)
          have HS := Lib.hid (blanks_snoc k)
          generalize wr.alloc (.cells #[.string ⟨#[32]⟩, .int .i64 1] 49) = wx at ho' hB' ⊢
          have hBx := hB'.size
          clear ho hB hBs
          go_wp2_with (at_builtin; refine wpList_app1 _ rfl (.tmp 33) _ _ rfl Erc _ _ _ rfl ho' _ _ [.string ⟨#[32]⟩, .int .i64 1] rfl (by decide) rfl (one_cell _ _) (by omega) hBx ?_; intro g1 cap1 w1 ho1 hg1 hf1; have hB1 := below_app hB' hBx ho' (Nat.le_refl _) hg1)
          rw [HS.out] at ho1
          exact ⟨⟨k + 1, by omega, by go_num, hB1, ho1⟩, by simp [intOf]; omega⟩
        · have hkm : k = m := by omega
          subst hkm
          obtain ⟨lb, lc, hv, hlb, hlb2⟩ := ownBlock_of_owns ho (by omega)
          simp only [Value.slice.injEq, true_and] at hv
          obtain ⟨rfl, rfl⟩ := hv
          have HO := Lib.hid ho
          have hown := owns_stays HN.out.own hB
          clear ho
          go_wp2_with (at_builtin; refine wpList_app1 _ rfl (.tmp 37) _ _ rfl Err _ _ _ rfl hown _ _ [.slice (some ⟨lb, 0, none⟩) k tc] rfl (by decide) rfl (one_row k (lb, tc)) (by omega) (by omega) ?_; intro g1 cap1 w1 ho1 hg1 hf1; have hN1 := HN.out.snoc hB HO.out ho1 hg1 hf1)
          exact ⟨⟨r + 1, _, by omega, by go_num, hN1⟩, by simp [intOf]; omega⟩
    · have hrn : r = n := by omega
      subst hrn
      obtain ⟨g, gc, hv, hgb, hgl⟩ := ownBlock_of_owns hN.own (by omega)
      simp only [Value.slice.injEq, true_and] at hv
      obtain ⟨rfl, rfl⟩ := hv
      have HN := Lib.hid hN
      clear hN
      go_wp2
      go_ret
      exact ⟨g, sc, _, _, rfl, HN.out.below, HN.out.fin (by omega) h4 (by omega) h2⟩
end Go.Proofs.YtkeainhjghdfcaaGreat

/- Deeds in both grids: the contracts in one form each. -/
namespace Go.Proofs.YtkeainhjghdfcaaGreat
open Go.RowKit

instance (n m : Nat) (r c d : Int) : Decidable (roomy n m r c d) := by unfold roomy; infer_instance

def rowAt (G : List (List Gl)) (r : Nat) : List Gl := G.getD r []
theorem get_rowAt {G : List (List Gl)} {r : Nat} (h : r < G.length) : G[r]? = some (rowAt G r) := by unfold rowAt; rw [List.getD_eq_getElem?_getD, List.getElem?_eq_getElem h]; rfl

def putG (G : List (List Gl)) (m : Nat) (r c : Int) (x : Gl) : List (List Gl) := if roomy G.length m r c x.2 then G.set r.toNat (putRow (rowAt G r.toNat) c.toNat x) else G
theorem putG_len (G : List (List Gl)) (m : Nat) (r c : Int) (x : Gl) : (putG G m r c x).length = G.length := by unfold putG; split <;> simp
theorem Kept.of_grown1 {P : Nat → Prop} {w w' : World} {b : Nat} (h : w.grownBy w' (some b)) (hb : P b) : Kept P w w' :=
  .of_grown h fun c e => by injection e with e; exact e ▸ hb

theorem GridG.llt {w : World} {gb lb m cap : Nat} {G : List (List Gl)} (h : GridG w gb lb m cap G) (hn : 0 < G.length) (hm : 0 < m) : lb < w.heap.size :=
  h.grid.llt (h.index (get_rowAt hn) hm).1
theorem GridG.kept {w w' : World} {gb lb m cap : Nat} {G : List (List Gl)} (h : GridG w gb lb m cap G) (hn : 0 < G.length) (hm : 0 < m) {P : Nat → Prop} (hk : Kept P w w') (h1 : ¬ P gb) (h2 : ¬ P lb) : GridG w' gb lb m cap G :=
  h.grown (hk.block _ h.grid.glt h1) (hk.block _ (h.llt hn hm) h2)
theorem RefAt.kept {w w' : World} {B ob m : Nat} {rb rc : Nat → Nat} {G : List (List Gl)} (h : RefAt w B ob rb rc m G) (hn : 0 < G.length) {P : Nat → Prop} (hk : Kept P w w') (h1 : ¬ P ob) (h2 : ∀ i, i < G.length → ¬ P (rb i)) : RefAt w' B ob rb rc m G := by
  have hob : ob < w.heap.size := World.block_lt_of_cell? w _ (h.outer 0 hn)
  exact h.same (hk.block _ hob h1) fun i hi => hk.block _ (h.row (get_rowAt hi)).2.2.2.2.2.2.1 (h2 i hi)
theorem grownBy_of_below {w w' : World} {r : Option Nat} (h : Below w.heap.size w w') : w.grownBy w' r := ⟨h.os, h.tape, h.output, h.size, fun j hj _ => h.block j hj⟩

/-- blocks of rows -/
def Rows (n : Nat) (rb : Nat → Nat) (j : Nat) : Prop := ∃ i, i < n ∧ j = rb i
theorem GridG.m_small {w : World} {gb lb m cap : Nat} {G : List (List Gl)} (h : GridG w gb lb m cap G) (hn : 0 < G.length) : m ≤ 1073741824 :=
  Nat.le_trans (Nat.le_mul_of_pos_left _ hn) h.small

theorem gdput_any (gb lb m cap : Nat) (G : List (List Gl)) (r c : Int) (x : Gl) (w : World) (hG : GridG w gb lb m cap G) (hn : 0 < G.length) (hm : 0 < m) :
    Calls Tryz.prog 63 #[.pointer (some ⟨gb, 0, none⟩), .int .i64 r, .int .i64 c, .agg #[.string x.1, .int .i64 x.2]] w fun e w' => e = .returned (.bool (decide (roomy G.length m r c x.2))) ∧ w.grownBy w' (some lb) ∧ GridG w' gb lb m cap (putG G m r c x) := by
  by_cases h : roomy G.length m r c x.2
  · have h0 := h
    unfold roomy at h
    obtain ⟨h1, h2, h3, h4, h5⟩ := h
    have er : ((r.toNat : Nat) : Int) = r := by omega
    have ec : ((c.toNat : Nat) : Int) = c := by omega
    have hget := get_rowAt (G := G) (r := r.toNat) (by omega)
    have hp : putG G m r c x = G.set r.toNat (putRow (rowAt G r.toNat) c.toNat x) := by unfold putG; rw [if_pos h0]
    rw [hp, decide_eq_true h0]
    rcases h5 with h5 | ⟨h5, h6⟩
    · have := put_one gb lb m cap r.toNat c.toNat G _ x w hG hget (by omega) h5
      rw [er, ec] at this
      exact this
    · have := put_two gb lb m cap r.toNat c.toNat G _ x w hG hget (by omega) h5
      rw [er, ec] at this
      exact this
  · have hp : putG G m r c x = G := by unfold putG; rw [if_neg h]
    rw [hp, decide_eq_false h]
    refine (put_no gb G.length m r c x.2 x.1 w hG.grid.c0 hG.grid.c1 (hG.m_small hn) h).mono ?_
    rintro e w' ⟨rfl, hB⟩
    exact ⟨rfl, grownBy_of_below hB, hG.kept hn hm (P := fun _ => False) (.of_below hB) id id⟩

theorem refPut_any (B ob m cap : Nat) (rb rc : Nat → Nat) (G : List (List Gl)) (r c : Int) (x : Gl) (w : World) (hG : RefAt w B ob rb rc m G) (hn : 0 < G.length) :
    Calls Tryz.prog 73 #[.slice (some ⟨ob, 0, none⟩) G.length cap, .int .i64 r, .int .i64 c, .agg #[.string x.1, .int .i64 x.2]] w fun e w' => e = .returned (.bool (decide (roomy G.length m r c x.2))) ∧ Kept (Rows G.length rb) w w' ∧ RefAt w' B ob rb rc m (putG G m r c x) := by
  by_cases h : roomy G.length m r c x.2
  · have h0 := h
    unfold roomy at h
    obtain ⟨h1, h2, h3, h4, h5⟩ := h
    have er : ((r.toNat : Nat) : Int) = r := by omega
    have ec : ((c.toNat : Nat) : Int) = c := by omega
    have hget := get_rowAt (G := G) (r := r.toNat) (by omega)
    have hp : putG G m r c x = G.set r.toNat (putRow (rowAt G r.toNat) c.toNat x) := by unfold putG; rw [if_pos h0]
    rw [hp, decide_eq_true h0]
    rcases h5 with h5 | ⟨h5, h6⟩
    · have := refPut_one B ob m cap rb rc G r.toNat c.toNat _ x w hG hget (by omega) h5
      rw [er, ec] at this
      refine this.mono ?_
      rintro e w' ⟨rfl, hg, hR⟩
      exact ⟨rfl, .of_grown1 hg ⟨r.toNat, by omega, rfl⟩, hR⟩
    · have := refPut_two B ob m cap rb rc G r.toNat c.toNat _ x w hG hget (by omega) h5
      rw [er, ec] at this
      refine this.mono ?_
      rintro e w' ⟨rfl, hg, hR⟩
      exact ⟨rfl, .of_grown1 hg ⟨r.toNat, by omega, rfl⟩, hR⟩
  · have hp : putG G m r c x = G := by unfold putG; rw [if_neg h]
    rw [hp, decide_eq_false h]
    have hob : ob < w.heap.size := World.block_lt_of_cell? w _ (hG.outer 0 hn)
    refine (refPut_no B ob m cap rb rc G r c x.2 x.1 w hob hG h).mono ?_
    rintro e w' ⟨rfl, hB⟩
    exact ⟨rfl, .of_below hB, hG.kept hn (P := fun _ => False) (.of_below hB) id fun _ _ => id⟩

end Go.Proofs.YtkeainhjghdfcaaGreat

/- law27.does. -/
namespace Go.Proofs.YtkeainhjghdfcaaGreat
open Go.RowKit

structure Dd where
  k : Int
  r : Int
  c : Int
  x : Gl
def putty (d : Dd) : Prop := d.k = 0 ∨ d.k = 1 ∨ d.k = 2
instance (d : Dd) : Decidable (putty d) := by unfold putty; infer_instance
end Go.Proofs.YtkeainhjghdfcaaGreat

/- Texts of glyphs, one behind the other. No program is named here. -/
namespace Go.Proofs.YtkeainhjghdfcaaGreat
open Go.RowKit

/-- texts one behind the other -/
def catG (b0 : ByteArray) (G : List Gy) : ByteArray := G.foldl (fun b g => b ++ g.1) b0
theorem catG_snoc (b0 : ByteArray) (G : List Gy) (g : Gy) : catG b0 (G ++ [g]) = catG b0 G ++ g.1 := by unfold catG; rw [List.foldl_append]; rfl
end Go.Proofs.YtkeainhjghdfcaaGreat

/- Rows of strings; an operation whose guard says no. -/
namespace Go.Proofs.YtkeainhjghdfcaaGreat
open Go.RowKit

theorem EStr : ElemT Tryz.prog 69 9 1 16 := elemT_of (by kernel_rfl) (z := .string ⟨#[]⟩) (by kernel_rfl) rfl (by decide) (by decide)
def strE (s : ByteArray) : List Value := [.string s]
theorem strE_one (s : ByteArray) : ∀ u ∈ strE s, u.oneCell' = true := by intro u hu; simp [strE] at hu; subst hu; rfl
theorem empty_toList : (⟨#[]⟩ : ByteArray).toList = [] := by decide +kernel
/-- a guarded operation whose guard says no -/
theorem hd_skip {P : Program} {md : Region.Mode} {l : List Oper} {Q : Exit → Act → World → Prop} {S : World → Prop} {fuel : Nat} {listed : Array Bool} {a : Act} {w : World} (i : Nat) {oi : Oper} (hi : l[i]? = some oi)
    (hs : Region.noSelect l.toArray = true) (hf : Region.free md l.toArray listed i = true) (hr : (Region.ready md l.toArray listed).contains i = true)
    (hQ : ∀ c a w, Q (.panic c) (a.put oi.dst undef) w → Q (.panic c) a w) (hw : Region.wanted oi (yielded l.toArray a.tmps) = false) (hS : S w)
    (h : wpAnyH P md l.toArray Q S fuel (listed.setIfInBounds i true) (a.put oi.dst undef) w) : wpAnyH P md l.toArray Q S (fuel + 1) listed a w :=
  wpAnyH_take (by simpa using hi) hs hf hr hQ (.inr ⟨hw, rfl⟩) hS h
end Go.Proofs.YtkeainhjghdfcaaGreat

/- Slices that are made whole: rows of numbers, of strings; what a store leaves of them. -/
namespace Go.Proofs.YtkeainhjghdfcaaGreat
open Go.RowKit

/-- block b holds just these values -/
def RowB (w : World) (b : Nat) (t : TypeId) (xs : List Value) : Prop := w.heap[b]? = some (.cells xs.toArray t (0, 0))
theorem RowB.lt {w : World} {b : Nat} {t : TypeId} {xs : List Value} (h : RowB w b t xs) : b < w.heap.size := (Array.getElem?_eq_some_iff.1 h).1
theorem RowB.cell {w : World} {b : Nat} {t : TypeId} {xs : List Value} (h : RowB w b t xs) {i : Nat} {v : Value} (hi : xs[i]? = some v) : w.cell? ⟨b, i, none⟩ = some v := by
  rw [cell_of_row _ _ i _ _ _ h]; simpa using hi
theorem RowB.below {w w' : World} {b : Nat} {t : TypeId} {xs : List Value} (h : RowB w b t xs) (hb : Below w.heap.size w w') : RowB w' b t xs := (hb.block b h.lt).trans h
theorem RowB.set {w : World} {b : Nat} {t : TypeId} {xs : List Value} (h : RowB w b t xs) (i : Nat) (v : Value) : RowB (w.setCell ⟨b, i, none⟩ v) b t (xs.set i v) := by
  have := heap_setCell_same w b i xs.toArray t v h
  rw [List.setIfInBounds_toArray] at this
  exact this
theorem RowB.other {w : World} {b c i : Nat} {t : TypeId} {xs : List Value} {v : Value} (h : RowB w b t xs) (hn : b ≠ c) : RowB (w.setCell ⟨c, i, none⟩ v) b t xs := (Below.heap_setCell w _ v b hn).trans h
/-- strings as values -/
def strs (l : List ByteArray) : List Value := l.map .string
theorem strs_get {l : List ByteArray} {k : Nat} {t : ByteArray} (h : l[k]? = some t) : (strs l)[k]? = some (.string t) := by simp [strs, h]
theorem strs_flat (l : List ByteArray) : l.flatMap strE = strs l := by
  induction l with
  | nil => rfl
  | cons x l ih => rw [List.flatMap_cons, ih]; rfl
/-- a slice of strings reads as l -/
def StrsIn (w : World) (v : Value) (l : List ByteArray) : Prop := Rd w.heap.size w 1 v l.length (strs l)
theorem StrsIn.below {w w' : World} {v : Value} {l : List ByteArray} (h : StrsIn w v l) (hb : Below w.heap.size w w') : StrsIn w' v l := (Rd.below h hb (Nat.le_refl _)).mono hb.size
theorem strs_of_owns {w : World} {base n : Nat} {e : TypeId} {v : Value} {l : List ByteArray} (h : w.ownsRow base e 1 v n (l.flatMap strE)) (hn : n = l.length) : StrsIn w v l := by
  subst hn
  rw [strs_flat] at h
  exact rd_of_owns h
theorem strs_shape {w : World} {v : Value} {l : List ByteArray} (h : StrsIn w v l) : ∃ a cap, v = .slice a l.length cap ∧ l.length ≤ cap ∧ cap ≤ maxLen := by
  obtain ⟨a, cap, rfl, h1, h2, _⟩ := h
  exact ⟨a, cap, rfl, h1, h2⟩
theorem strs_cell {w : World} {v : Value} {l : List ByteArray} (h : StrsIn w v l) {k : Nat} {t : ByteArray} (hx : l[k]? = some t) : ∃ b off cap, v = .slice (some ⟨b, off, none⟩) l.length cap ∧ k < l.length ∧ l.length ≤ cap ∧ cap ≤ maxLen ∧ b < w.heap.size ∧ w.cell? ⟨b, off + k, none⟩ = some (.string t) := by
  obtain ⟨a, cap, rfl, h1, h2, _, h4⟩ := h
  have hk := (List.getElem?_eq_some_iff.1 hx).1
  obtain ⟨b, off, rfl, hb, hq⟩ := h4 (by omega)
  exact ⟨b, off, cap, rfl, hk, h1, h2, hb, hq k _ (strs_get hx)⟩
end Go.Proofs.YtkeainhjghdfcaaGreat
