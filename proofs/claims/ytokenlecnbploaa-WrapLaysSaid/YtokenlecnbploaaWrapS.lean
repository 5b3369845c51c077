/- wrap.Lay, and the document's. -/
import Derived.Test.YtokenlecnbploaaWrapN
import Derived.Test.YtokenlecnbploaaGridS
namespace Go.Proofs.Ytokenlecnbploaa
open Go.RowKit

def layStep (cols top : Int) (m : Nat) (l : List Gl) (G : List (List Gl)) (k : Nat) : List (List Gl) :=
  if top ≤ (itemAt cols l k).1 then putG G m ((itemAt cols l k).1 - top) (itemAt cols l k).2 (l.getD k (default, 0)) else G
def layG (cols top : Int) (m : Nat) (l : List Gl) (G0 : List (List Gl)) : Nat → List (List Gl)
  | 0 => G0
  | k + 1 => layStep cols top m l (layG cols top m l G0 k) k
theorem layStep_len (cols top : Int) (m : Nat) (l : List Gl) (G : List (List Gl)) (k : Nat) : (layStep cols top m l G k).length = G.length := by
  unfold layStep; split
  · exact putG_len ..
  · rfl
theorem layG_len (cols top : Int) (m : Nat) (l : List Gl) (G0 : List (List Gl)) (k : Nat) : (layG cols top m l G0 k).length = G0.length := by
  induction k with
  | zero => rfl
  | succ k ih => unfold layG; rw [layStep_len, ih]
theorem itemAt_bd (cols : Int) (hc : 2 ≤ cols) (l : List Gl) (ht : thin l) (k : Nat) (hk : k ≤ l.length) : 0 ≤ (itemAt cols l k).1 ∧ (itemAt cols l k).1 ≤ k + 1 ∧ 0 ≤ (itemAt cols l k).2 := by
  obtain ⟨h1, h2, h3, h4, h5⟩ := stAt_bd cols hc l ht k hk
  unfold itemAt place
  split
  · split
    · exact ⟨by dsimp only; omega, by dsimp only; omega, by dsimp only; omega⟩
    · exact ⟨h1, by omega, h3⟩
  · split
    · exact ⟨by dsimp only; omega, by dsimp only; omega, by dsimp only; omega⟩
    · exact ⟨h1, by omega, h3⟩

theorem GridG.drewN {w : World} {gb lb m cap : Nat} {G : List (List Gl)} (h : GridG w gb lb m cap G) (q : Nat) : GridG (w.drewN q) gb lb m cap G := h.grown rfl rfl

set_option maxRecDepth 100000 in
set_option maxHeartbeats 1000000 in
theorem lay_some (n m : Nat) (top : Int) (v : Value) (l : List Gl) (w : World) (hR : Rs w.heap.size w genc 2 v l) (hlen : l.length ≤ 100) (ht : thin l) (h1 : 1 ≤ n) (h2 : n ≤ 500) (h3 : 2 ≤ m) (h4 : m ≤ 1000) (t1 : -1000 ≤ top) (t2 : top ≤ 1000) :
    Calls Try.prog 37 #[v, .int .i64 n, .int .i64 m, .int .i64 top] w fun e w' => ∃ gb lb, e = .returned (.pointer (some ⟨gb, 0, none⟩)) ∧ w.heap.size ≤ gb ∧ w.heap.size ≤ lb ∧ Below w.heap.size w w' ∧ GridG w' gb lb m (n * m) (layG m top m l (List.replicate n (List.replicate m blankC)) l.length) := by
  obtain ⟨a, cap, rfl, hcap, hmax, hxl, hcells⟩ := id hR
  have HRs := Lib.hid hR
  have HT := Lib.hid ht
  have HCl := Lib.hid hcells
  unfold maxLen at hmax
  clear hR ht hxl hcells
  go_enter Try.func37, Try.ntmps37
  go_wp2_with fail
  refine (new_some n m w h1 h2 h3 h4).mono ?_
  rintro e w1 ⟨gb, lb, rfl, hgb, hlb, hB1, hG1⟩
  have HB1 := Lib.hid hB1
  have HG1 := Lib.hid hG1
  clear hB1 hG1
  go_wp2_with fail
  refine (place_any _ l m w1 ((HRs.out.below HB1.out (Nat.le_refl _)).mono HB1.out.size) (by omega) (by omega) HT.out).mono ?_
  rintro e w2 ⟨vs, rfl, hB2, hs, _⟩
  have hsl : (spotsL m l).length = l.length + 1 := by rw [spotsL_len, if_neg (by omega)]
  obtain ⟨sg, scap, rfl, hsg, hsg2⟩ := ownBlock_of_owns hs (by omega)
  have hsc : ∀ k, k ≤ l.length → w2.cell? ⟨sg, k * 2, none⟩ = some (.int .i64 (itemAt m l k).1) ∧ w2.cell? ⟨sg, k * 2 + 1, none⟩ = some (.int .i64 (itemAt m l k).2) := by
    intro k hk
    have h2 := getElem?_spots (cols := m) (l := l) (by omega) hk
    have e0 := hs.cells (g := sg) rfl _ _ (flat_get senc_len _ k _ 0 _ h2 rfl)
    have e1 := hs.cells (g := sg) rfl _ _ (flat_get senc_len _ k _ 1 _ h2 rfl)
    rw [addr_add] at e0 e1
    exact ⟨e0, e1⟩
  rw [hsl]
  have HB2 := Lib.hid (below_trans' HB1.out hB2)
  have HG2 := Lib.hid (HG1.out.kept (by rw [List.length_replicate]; omega) (by omega) (P := fun _ => False) (.of_below hB2) id id)
  have HSC := Lib.hid hsc
  have hs2 := hB2.size
  have hlt1 := HG1.out.grid.glt
  have hlt2 := HG1.out.llt (by rw [List.length_replicate]; omega) (by omega)
  clear hs hsl hsc hB2
  go_wp2_with fail
  go_loopw [10, 11, 21] (fun _ _ i wr => ∃ k : Nat, k ≤ l.length + 1 ∧ i = .int .i64 ((k : Nat) : Int) ∧ Below w.heap.size w wr ∧ w2.heap.size ≤ wr.heap.size ∧ (∀ b o u, b < w2.heap.size → b ≠ lb → w2.cell? ⟨b, o, none⟩ = some u → wr.cell? ⟨b, o, none⟩ = some u) ∧ GridG wr gb lb m (n * m) (layG m top m l (List.replicate n (List.replicate m blankC)) (min k l.length))) (fun _ _ i _ => l.length + 1 - (intOf i).toNat)
  case atStart => exact ⟨0, Nat.zero_le _, rfl, HB2.out, Nat.le_refl _, fun b o u _ _ h => h, by rw [Nat.zero_min]; exact HG2.out⟩
  case round =>
    obtain ⟨k, hk, rfl, hB, hsz, hst, hG⟩ := hrel
    by_cases hlt : k < l.length + 1
    · obtain ⟨p1, p2⟩ := HSC.out k (by omega)
      obtain ⟨b1, b2, b3⟩ := itemAt_bd m (by omega) l HT.out k (by omega)
      have r1 := hst _ _ _ hsg2 (by omega) p1
      have r2 := hst _ _ _ hsg2 (by omega) p2
      have HG := Lib.hid hG
      have HB := Lib.hid hB
      have HST := Lib.hid hst
      clear p1 p2 hG hB hst
      by_cases hkl : k < l.length
      · generalize hit : itemAt m l k = it at r1 r2 b1 b2 b3
        obtain ⟨row, col⟩ := it
        dsimp only at r1 r2 b1 b2 b3
        have HIT := Lib.hid hit
        clear hit
        by_cases htop : top ≤ row
        · obtain ⟨g, hg⟩ : ∃ g, l[k]? = some g := ⟨l[k], by simp [hkl]⟩
          obtain ⟨b, off, rfl, hbl, hcq⟩ := HCl.out (by omega)
          have t0 : wr.cell? ⟨b, off + k * 2, none⟩ = some (.string g.1) := cell_later HB.out (flat_cell genc_len hcq hg 0 rfl)
          have t1 : wr.cell? ⟨b, off + k * 2 + 1, none⟩ = some (.int .i64 g.2) := cell_later HB.out (flat_cell genc_len hcq hg 1 rfl)
          have hstep : layG m top m l (List.replicate n (List.replicate m blankC)) (k + 1) = putG (layG m top m l (List.replicate n (List.replicate m blankC)) k) m (row - top) col g := by
            show layStep _ _ _ _ _ _ = _
            unfold layStep
            rw [HIT.out, if_pos htop, List.getD_eq_getElem?_getD, hg]; rfl
          have HP := Lib.hid hstep
          have HMk := Lib.hid (show min k l.length = k by omega)
          have HMk1 := Lib.hid (show min (k + 1) l.length = k + 1 by omega)
          have hWB : ∀ o, Below wr.heap.size wr (wr.alloc o).drew := fun o => ((Below.refl _ _).alloc (Nat.le_refl _) o).drew
          have HWB := Lib.hid hWB
          have hgl := HG.out.grid.glt
          have e1 := IntWalk.i64_in (row - top) (by omega)
          have hlbw : ¬ wr.heap.size = lb := by have := HG.out.llt (by rw [layG_len, List.length_replicate]; omega) (by omega); omega
          have hblb : ¬ b = lb := by omega
          obtain ⟨t, d⟩ := g
          dsimp only at t0 t1
          clear hg hcq hstep hWB
          go_wp2_with fail
          have hWB := HWB.out (.cells #[.int .i64 row, .int .i64 col] 31)
          have c0 : (wr.alloc (.cells #[.int .i64 row, .int .i64 col] 31)).drew.cell? ⟨wr.heap.size, 0, none⟩ = some (.int .i64 row) := by go_simp
          have c1 : (wr.alloc (.cells #[.int .i64 row, .int .i64 col] 31)).drew.cell? ⟨wr.heap.size, 1, none⟩ = some (.int .i64 col) := by go_simp
          have t0' := cell_later hWB t0
          have t1' := cell_later hWB t1
          have hGW := HG.out.kept (by rw [layG_len, List.length_replicate]; omega) (by omega) (P := fun _ => False) (.of_below hWB) id id
          have hput := put_any gb lb m (n * m) _ (row - top) col (t, d) _ hGW (by rw [layG_len, List.length_replicate]; omega) (by omega)
          have HPut := Lib.hid hput
          clear hput hGW
          generalize hW : wr.alloc (.cells #[.int .i64 row, .int .i64 col] 31) = W at hWB c0 c1 t0' t1' HPut ⊢
          clear hW
          have c0' : W.cell? ⟨wr.heap.size, 0, none⟩ = some (.int .i64 row) := c0
          have c1' : W.cell? ⟨wr.heap.size, 1, none⟩ = some (.int .i64 col) := c1
          have t0'' : W.cell? ⟨b, off + k * 2, none⟩ = some (.string t) := t0'
          have t1'' : W.cell? ⟨b, off + k * 2 + 1, none⟩ = some (.int .i64 d) := t1'
          clear t0 t1
          go_region_held3 (fun w' => w'.cell? ⟨wr.heap.size, 0, none⟩ = some (.int .i64 row) ∧ w'.cell? ⟨wr.heap.size, 1, none⟩ = some (.int .i64 col) ∧ w'.cell? ⟨b, off + k * 2, none⟩ = some (.string t) ∧ w'.cell? ⟨b, off + k * 2 + 1, none⟩ = some (.int .i64 d))
            (first | exact ⟨q0, q1, q2, q3⟩ | exact ⟨c0, c1, t0', t1'⟩ | exact ⟨c0', c1', t0'', t1''⟩ | go_keep)
            (first | (go_at_call 45; refine HPut.out.mono ?_; rintro e w4 ⟨rfl, hg4, hG4⟩; have kp := Kept.of_grown (P := fun j => j = lb) hg4 rfl; have q0 := kp.cell c0 hlbw; have q1 := kp.cell c1 hlbw; have q2 := kp.cell t0' hblb; have q3 := kp.cell t1' hblb))
          have hB4 : Below w.heap.size w w4 := (HB.out.trans (hWB.mono HB.out.size)).grown hg4 (Nat.le_trans HB.out.size hWB.size) (fun j e => by cases e; exact hlb)
          have hst4 : ∀ b o u, b < w2.heap.size → b ≠ lb → w2.cell? ⟨b, o, none⟩ = some u → w4.cell? ⟨b, o, none⟩ = some u := fun b o u h1 h2 h3 => kp.cell (cell_later hWB (HST.out b o u h1 h2 h3)) h2
          have hsz4 : w2.heap.size ≤ w4.heap.size := Nat.le_trans hsz (Nat.le_trans hWB.size hg4.size)
          rw [HMk.out, ← HP.out] at hG4
          have HG4 := Lib.hid hG4
          have HST4 := Lib.hid hst4
          clear hG4 hst4 hg4 kp q0 q1 q2 q3 c0 c1 t0' t1' c0' c1' t0'' t1'' hWB
          go_wp2
          go_roundw
          case rel => exact ⟨k + 1, by omega, by go_num, hB4, hsz4, HST4.out, by rw [HMk1.out]; exact HG4.out⟩
          case measure => simp [intOf]; omega
        · have hstep : layG m top m l (List.replicate n (List.replicate m blankC)) (k + 1) = layG m top m l (List.replicate n (List.replicate m blankC)) k := by
            show layStep _ _ _ _ _ _ = _
            unfold layStep
            rw [HIT.out, if_neg htop]
          have HP := Lib.hid hstep
          have HMk := Lib.hid (show min k l.length = k by omega)
          have HMk1 := Lib.hid (show min (k + 1) l.length = k + 1 by omega)
          have hWB := Lib.hid (fun o => (Below.refl wr.heap.size wr).alloc (Nat.le_refl _) o)
          have hGW := Lib.hid (fun o => HG.out.kept (w' := wr.alloc o) (by rw [layG_len, List.length_replicate]; omega) (by omega) (P := fun _ => False) (.of_below (hWB.out o)) id id)
          clear hstep
          go_wp2
          go_roundw
          case rel => exact ⟨k + 1, by omega, by go_num, HB.out.trans ((hWB.out _).mono HB.out.size), Nat.le_trans hsz (hWB.out _).size, fun b o u h1 h2 h3 => cell_later (hWB.out _) (HST.out b o u h1 h2 h3), by rw [HMk1.out, HP.out]; have := hGW.out (.cells #[.int .i64 row, .int .i64 col] 31); rw [HMk.out] at this; exact this⟩
          case measure => simp [intOf]; omega
      · have hkeq : k = l.length := by omega
        have HMk := Lib.hid (show min k l.length = l.length by omega)
        have HMk1 := Lib.hid (show min (k + 1) l.length = l.length by omega)
        have hWB := Lib.hid (fun o => (Below.refl wr.heap.size wr).alloc (Nat.le_refl _) o)
        have hGW := Lib.hid (fun o => HG.out.kept (w' := wr.alloc o) (by rw [layG_len, List.length_replicate]; omega) (by omega) (P := fun _ => False) (.of_below (hWB.out o)) id id)
        generalize itemAt m l k = it at r1 r2 b1 b2 b3
        obtain ⟨row, col⟩ := it
        dsimp only at r1 r2 b1 b2 b3
        clear hkeq
        go_wp2
        go_roundw
        case rel => exact ⟨k + 1, by omega, by go_num, HB.out.trans ((hWB.out _).mono HB.out.size), Nat.le_trans hsz (hWB.out _).size, fun b o u h1 h2 h3 => cell_later (hWB.out _) (HST.out b o u h1 h2 h3), by rw [HMk1.out]; have := hGW.out (.cells #[.int .i64 row, .int .i64 col] 31); rw [HMk.out] at this; exact this⟩
        case measure => simp [intOf]; omega
    · have HMk := Lib.hid (show min k l.length = l.length by omega)
      have HG := Lib.hid hG
      clear hG hst
      go_wp2
      go_ret
      exact ⟨gb, lb, rfl, hgb, hlb, hB, by have := HG.out; rw [HMk.out] at this; exact this⟩
end Go.Proofs.Ytokenlecnbploaa
