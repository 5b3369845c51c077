/- the document's Lay. -/
import Derived.Test.YtokenlecnbploaaWrapS
namespace Go.Proofs.Ytokenlecnbploaa
open Go.RowKit

theorem refPut_n {B ob m cap n : Nat} {rb rc : Nat → Nat} {G : List (List Gl)} {r c : Int} {x : Gl} {w : World} (hG : RefAt w B ob rb rc m G) (hn : 0 < n) (hGn : G.length = n) :
    Calls Try.prog 50 #[.slice (some ⟨ob, 0, none⟩) n cap, .int .i64 r, .int .i64 c, .agg #[.string x.1, .int .i64 x.2]] w fun e w' => ∃ b, e = .returned (.bool b) ∧ Kept (Rows n rb) w w' ∧ RefAt w' B ob rb rc m (putG G m r c x) := by
  subst hGn
  refine (refPut_any B ob m cap rb rc G r c x w hG hn).mono ?_
  rintro e w' ⟨rfl, h1, h2⟩
  exact ⟨_, rfl, h1, h2⟩

set_option maxRecDepth 100000 in
set_option maxHeartbeats 1000000 in
theorem refLay_some (n m : Nat) (top : Int) (v : Value) (l : List Gl) (w : World) (hR : Rs w.heap.size w genc 2 v l) (hlen : l.length ≤ 100) (ht : thin l) (h1 : 1 ≤ n) (h2 : n ≤ 500) (h3 : 2 ≤ m) (h4 : m ≤ 1000) (t1 : -1000 ≤ top) (t2 : top ≤ 1000) :
    Calls Try.prog 38 #[v, .int .i64 n, .int .i64 m, .int .i64 top] w fun e w' => ∃ ob cap rb rc, e = .returned (.slice (some ⟨ob, 0, none⟩) n cap) ∧ Below w.heap.size w w' ∧ RefAt w' w.heap.size ob rb rc m (layG m top m l (List.replicate n (List.replicate m blankC)) l.length) := by
  obtain ⟨a, cap, rfl, hcap, hmax, hxl, hcells⟩ := id hR
  have HRs := Lib.hid hR
  have HT := Lib.hid ht
  have HCl := Lib.hid hcells
  unfold maxLen at hmax
  clear hR ht hxl hcells
  go_enter Try.func38, Try.ntmps38
  go_wp2_with fail
  refine (refNew_some n m w h1 h2 h3 h4).mono ?_
  rintro e w1 ⟨ob, ocap, rb, rc, rfl, hB1, hH1⟩
  have HB1 := Lib.hid hB1
  have HH1 := Lib.hid hH1
  clear hB1 hH1
  go_wp2_with fail
  refine (refPlace_any _ l m w1 ((HRs.out.below HB1.out (Nat.le_refl _)).mono HB1.out.size) (by omega) (by omega) HT.out).mono ?_
  rintro e w2 ⟨vs, rfl, hB2, hs⟩
  have hsl : (spotsL m l).length = l.length + 1 := by rw [spotsL_len, if_neg (by omega)]
  obtain ⟨sg, scap, rfl, hsg, hsg2⟩ := ownBlock_of_owns hs (by omega)
  have hsc : ∀ k, k ≤ l.length → w2.cell? ⟨sg, k * 2, none⟩ = some (.int .i64 (itemAt m l k).1) ∧ w2.cell? ⟨sg, k * 2 + 1, none⟩ = some (.int .i64 (itemAt m l k).2) := by
    intro k hk
    have h2 := getElem?_spots (cols := m) (l := l) (by omega) hk
    have e0 := hs.cells (g := sg) rfl _ _ (flat_get senc_len _ k _ 0 _ h2 rfl)
    have e1 := hs.cells (g := sg) rfl _ _ (flat_get senc_len _ k _ 1 _ h2 rfl)
    rw [addr_add] at e0 e1
    exact ⟨e0, e1⟩
  rw [hsl]
  have hrw : ∀ i, i < n → rb i < w1.heap.size ∧ w.heap.size ≤ rb i := fun i hi => ⟨(HH1.out.row (get_rowAt (r := i) (by rw [List.length_replicate]; exact hi))).2.2.2.2.2.2.1, HH1.out.base i (by rw [List.length_replicate]; exact hi)⟩
  have HRW := Lib.hid hrw
  have HB2 := Lib.hid (below_trans' HB1.out hB2)
  have HH2 := Lib.hid (HH1.out.kept (by rw [List.length_replicate]; omega) (P := fun _ => False) (.of_below hB2) id (fun _ _ => id))
  have HSC := Lib.hid hsc
  have hs2 := hB2.size
  have hn0 : (0 : Int) < (n : Int) := by omega
  clear hs hsl hsc hB2 hrw
  go_wp2_with fail
  go_loopw [11] (fun i wr => ∃ k : Nat, k ≤ l.length ∧ i = .int .i64 ((k : Nat) : Int) ∧ Below w.heap.size w wr ∧ w2.heap.size ≤ wr.heap.size ∧ (∀ b o u, b < w2.heap.size → ¬ Rows n rb b → w2.cell? ⟨b, o, none⟩ = some u → wr.cell? ⟨b, o, none⟩ = some u) ∧ RefAt wr w.heap.size ob rb rc m (layG m top m l (List.replicate n (List.replicate m blankC)) k)) (fun i _ => l.length - (intOf i).toNat)
  case atStart => exact ⟨0, Nat.zero_le _, rfl, HB2.out, Nat.le_refl _, fun b o u _ _ h => h, HH2.out⟩
  case round =>
    obtain ⟨k, hk, rfl, hB, hsz, hst, hG⟩ := hrel
    by_cases hkl : k < l.length
    · obtain ⟨p1, p2⟩ := HSC.out k (by omega)
      obtain ⟨b1, b2, b3⟩ := itemAt_bd m (by omega) l HT.out k (by omega)
      have hsr : ¬ Rows n rb sg := by rintro ⟨i, hi, e⟩; have := (HRW.out i hi).1; omega
      have r1 := hst _ _ _ hsg2 hsr p1
      have r2 := hst _ _ _ hsg2 hsr p2
      have HSR := Lib.hid hsr
      have HG := Lib.hid hG
      have HB := Lib.hid hB
      have HST := Lib.hid hst
      clear p1 p2 hG hB hst hsr
      generalize hit : itemAt m l k = it at r1 r2 b1 b2 b3
      obtain ⟨row, col⟩ := it
      dsimp only at r1 r2 b1 b2 b3
      have HIT := Lib.hid hit
      clear hit
      have q1 : (0 : Int) ≤ (k : Int) := by omega
      have q2 : (k : Int) < (l.length : Int) + 1 := by omega
      have q3 : (k : Int) < ((l.length + 1 : Nat) : Int) := by omega
      by_cases htop : top ≤ row
      · obtain ⟨g, hg⟩ : ∃ g, l[k]? = some g := ⟨l[k], by simp [hkl]⟩
        obtain ⟨b, off, rfl, hbl, hcq⟩ := HCl.out (by omega)
        have t0 : wr.cell? ⟨b, off + k * 2, none⟩ = some (.string g.1) := cell_later HB.out (flat_cell genc_len hcq hg 0 rfl)
        have t1 : wr.cell? ⟨b, off + k * 2 + 1, none⟩ = some (.int .i64 g.2) := cell_later HB.out (flat_cell genc_len hcq hg 1 rfl)
        have hstep : layG m top m l (List.replicate n (List.replicate m blankC)) (k + 1) = putG (layG m top m l (List.replicate n (List.replicate m blankC)) k) m (row - top) col g := by
          show layStep _ _ _ _ _ _ = _
          unfold layStep
          rw [HIT.out, if_pos htop, List.getD_eq_getElem?_getD, hg]; rfl
        have HP := Lib.hid hstep
        have e1 := IntWalk.i64_in (row - top) (by omega)
        have hbr : ¬ Rows n rb b := by rintro ⟨i, hi, e⟩; have := (HRW.out i hi).2; omega
        have HBR := Lib.hid hbr
        have hput := fun q => refPut_n (n := n) (cap := ocap) (r := row - top) (c := col) (x := g) (show RefAt (wr.drewN q) w.heap.size ob rb rc m _ from HG.out.same rfl fun _ _ => rfl) (by omega) ((layG_len _ _ _ _ _ _).trans (by rw [List.length_replicate]))
        have HPut := Lib.hid hput
        obtain ⟨t, d⟩ := g
        dsimp only at t0 t1
        clear hg hcq hstep hput hbr
        go_wp2_with fail
        go_region_held3 (fun w' => w'.cell? ⟨sg, k * 2, none⟩ = some (.int .i64 row) ∧ w'.cell? ⟨sg, k * 2 + 1, none⟩ = some (.int .i64 col) ∧ w'.cell? ⟨b, off + k * 2, none⟩ = some (.string t) ∧ w'.cell? ⟨b, off + k * 2 + 1, none⟩ = some (.int .i64 d))
          (first | exact ⟨x0, x1, x2, x3⟩ | exact ⟨r1, r2, t0, t1⟩ | go_keep)
          (first | (go_at_call 50; refine (HPut.out 1).mono ?_; rintro e w4 ⟨bb, rfl, hg4, hG4⟩; have x0 := hg4.cell (show (wr.drewN 1).cell? _ = _ from r1) HSR.out; have x1 := hg4.cell (show (wr.drewN 1).cell? _ = _ from r2) HSR.out; have x2 := hg4.cell (show (wr.drewN 1).cell? _ = _ from t0) HBR.out; have x3 := hg4.cell (show (wr.drewN 1).cell? _ = _ from t1) HBR.out))
        all_goals
          have hB4 : Below w.heap.size w w4 := HB.out.trans ((⟨hg4.os, hg4.tape, hg4.output, hg4.size, hg4.block⟩ : Kept (Rows n rb) wr w4).below HB.out.size (by rintro j ⟨i, hi, rfl⟩; exact (HRW.out i hi).2))
          have hst4 : ∀ b o u, b < w2.heap.size → ¬ Rows n rb b → w2.cell? ⟨b, o, none⟩ = some u → w4.cell? ⟨b, o, none⟩ = some u := fun b o u h1 h2 h3 => hg4.cell (show (wr.drewN 1).cell? _ = _ from HST.out b o u h1 h2 h3) h2
          have hsz4 : w2.heap.size ≤ w4.heap.size := Nat.le_trans hsz hg4.size
          rw [← HP.out] at hG4
          have HG4 := Lib.hid hG4
          have HST4 := Lib.hid hst4
          clear hG4 hst4 hg4 x0 x1 x2 x3 r1 r2 t0 t1
          go_wp2
          go_roundw
          case rel => exact ⟨k + 1, by omega, by go_num, hB4, hsz4, HST4.out, HG4.out⟩
          case measure => simp [intOf]; omega
      · have hstep : layG m top m l (List.replicate n (List.replicate m blankC)) (k + 1) = layG m top m l (List.replicate n (List.replicate m blankC)) k := by
          show layStep _ _ _ _ _ _ = _
          unfold layStep
          rw [HIT.out, if_neg htop]
        have HP := Lib.hid hstep
        clear hstep
        go_wp2
        go_roundw
        case rel => exact ⟨k + 1, by omega, by go_num, HB.out, hsz, HST.out, by rw [HP.out]; exact HG.out⟩
        case measure => simp [intOf]; omega
    · have hkeq : k = l.length := by omega
      subst hkeq
      have HG := Lib.hid hG
      clear hG hst
      go_wp2
      go_ret
      exact ⟨ob, ocap, rb, rc, rfl, hB, HG.out⟩
end Go.Proofs.Ytokenlecnbploaa
