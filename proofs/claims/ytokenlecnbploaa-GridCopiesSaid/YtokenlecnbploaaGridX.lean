/- Copies of grids; the document's grids compared. -/
import Derived.Test.YtokenlecnbploaaGridW
namespace Go.Proofs.Ytokenlecnbploaa
open Go.RowKit

set_option maxRecDepth 100000 in
set_option maxHeartbeats 1000000 in
theorem copy_some (gb lb m cap : Nat) (G : List (List Gl)) (w : World) (hG : GridG w gb lb m cap G) (hn : 0 < G.length) (hm : 0 < m) :
    Calls Try.prog 39 #[.pointer (some ⟨gb, 0, none⟩)] w fun e w' => ∃ gb' lb' cap', e = .returned (.pointer (some ⟨gb', 0, none⟩)) ∧ w.heap.size ≤ gb' ∧ w.heap.size ≤ lb' ∧ Below w.heap.size w w' ∧ GridG w' gb' lb' m cap' G := by
  have c0 := hG.grid.c0
  have c1 := hG.grid.c1
  have c2 := hG.grid.c2
  have hln := hG.grid.len
  have hsm := hG.small
  have hsh := hG.shape
  have hwf := hG.wf
  have hgl := hG.grid.glt
  have hpos : 0 < G.length * m := Nat.mul_pos hn hm
  have hcl := fun q => clone_cells lb 0 (G.length * m) cap (G.flatten.flatMap genc) (World.drewN w q) hpos (by rw [flat_len genc_len, hln]) hsm (fun u hu => by obtain ⟨x, _, hx⟩ := List.mem_flatMap.1 hu; exact genc_one x u hx)
    (fun j u hu => by rw [Nat.zero_add]; exact hG.grid.cells _ _ hu)
  have HC := Lib.hid hcl
  have HS := Lib.hid hsh
  have HW := Lib.hid hwf
  have HL := Lib.hid hln
  clear hG hcl hln hsh hwf
  go_enter Try.func39, Try.ntmps39
  go_wp2
  go_region_held3 (fun w' => w'.cell? ⟨gb, 0, none⟩ = some (.int .i64 G.length) ∧ w'.cell? ⟨gb, 1, none⟩ = some (.int .i64 m) ∧ w'.cell? ⟨gb, 2, none⟩ = some (.slice (some ⟨lb, 0, none⟩) (G.length * m) cap)) (first | exact ⟨p0, p1, p2⟩ | go_keep) (first | (go_at_call 53; refine (HC.out 1).mono ?_; rintro e w' ⟨g, c, rfl, ho, hB⟩; have p0 := cell_later hB (show (w.drewN 1).cell? _ = _ from c0); have p1 := cell_later hB (show (w.drewN 1).cell? _ = _ from c1); have p2 := cell_later hB (show (w.drewN 1).cell? _ = _ from c2)))
  all_goals
    have hcm : G.length * m ≤ c ∧ c ≤ maxLen := by
      rcases ho.2 with ⟨hv, _⟩ | ⟨g', cap', cur, hv, _, _, h4, h5, _⟩
      · cases hv
      · cases hv; exact ⟨h4, h5⟩
    have hgl := (ho.lt g rfl).2
    have hgb := (ho.lt g rfl).1
    have hB1 : Below w.heap.size w w' := ⟨hB.os, hB.tape, hB.output, hB.size, hB.block⟩
    have hB2 := below_new hB1 (.cells #[.int .i64 G.length, .int .i64 m, .slice (some ⟨g, 0, none⟩) (G.length * m) c] 85)
    have hG0 : GridG (w'.alloc (.cells #[.int .i64 G.length, .int .i64 m, .slice (some ⟨g, 0, none⟩) (G.length * m) c] 85)) w'.heap.size g m c G :=
      ⟨gridAt_mk (ho.alloc _) (fun j u hu => hu) (by go_simp) (by go_simp) (by go_simp) (by omega) HL.out hcm.1 hcm.2, HS.out, HW.out, hsm⟩
    have HB2 := Lib.hid hB2
    have HG0 := Lib.hid hG0
    have hs1 := hB1.size
    clear ho hB hB1 hB2 hG0 p0 p1 p2
    go_wp2
    go_ret
    exact ⟨_, g, c, rfl, hs1, hgb, HB2.out, HG0.out⟩

set_option maxRecDepth 100000 in
set_option maxHeartbeats 1000000 in
theorem sameRow_any (b1 c1 b2 c2 n : Nat) (xs ys : List Gl) (w : World) (hx : xs.length = n) (hy : ys.length = n) (hn : n ≤ 1073741824) (h1 : RowAt w b1 xs) (h2 : RowAt w b2 ys) :
    Calls Try.prog 55 #[.slice (some ⟨b1, 0, none⟩) n c1, .slice (some ⟨b2, 0, none⟩) n c2] w fun e w' => e = .returned (.bool (decide (xs = ys))) ∧ ∃ q, w' = w.drewN q := by
  have e0 : decide (xs = ys) = sameFrom xs ys 0 := by unfold sameFrom; simp
  rw [e0]
  have HX := Lib.hid hx
  have HY := Lib.hid hy
  have H1 := Lib.hid (fun (k : Nat) (x : Gl) hk => And.intro (h1.text (k := k) (x := x) hk) (h1.width (k := k) (x := x) hk))
  have H2 := Lib.hid (fun (k : Nat) (x : Gl) hk => And.intro (h2.text (k := k) (x := x) hk) (h2.width (k := k) (x := x) hk))
  have HE := Lib.hid (fun (k : Nat) x y hx hy => sameFrom_step (xs := xs) (ys := ys) (k := k) (x := x) (y := y) hx hy)
  have HZ : sameFrom xs ys n = true := by unfold sameFrom; rw [List.drop_of_length_le (by omega), List.drop_of_length_le (by omega)]; simp
  have HZ' := Lib.hid HZ
  clear hx hy h1 h2 e0 HZ
  go_enter Try.func55, Try.ntmps55
  go_wp2
  go_loopw [5] (fun i wr => ∃ k : Nat, k ≤ n ∧ i = .int .i64 ((k : Nat) : Int) ∧ sameFrom xs ys 0 = sameFrom xs ys k ∧ ∃ q, wr = w.drewN q) (fun i _ => n - (intOf i).toNat)
  case atStart => exact ⟨0, Nat.zero_le _, rfl, rfl, 0, rfl⟩
  case round =>
    obtain ⟨k, hk, rfl, hs, q, rfl⟩ := hrel
    have HS := Lib.hid hs
    clear hs
    by_cases hlt : k < n
    · obtain ⟨x, hx⟩ : ∃ x, xs[k]? = some x := ⟨xs[k]'(by rw [HX.out]; exact hlt), List.getElem?_eq_getElem _⟩
      obtain ⟨y, hy⟩ : ∃ y, ys[k]? = some y := ⟨ys[k]'(by rw [HY.out]; exact hlt), List.getElem?_eq_getElem _⟩
      obtain ⟨a1, a2⟩ := H1.out k x hx
      obtain ⟨b3, b4⟩ := H2.out k y hy
      have HK := Lib.hid (HE.out k x y hx hy)
      have hq := fun w => neq_rcell x y w
      have q1 : (0 : Int) ≤ (k : Int) := by omega
      have q2 : (k : Int) < (n : Int) := by omega
      clear hx hy
      by_cases hxy : x = y
      · have hf : decide (x = y) = true := by simpa using hxy
        rw [hf] at hq HK
        clear hxy hf
        go_wp2
        go_quiet (fail)
        go_wp2
        go_roundw
        case rel => exact ⟨k + 1, by omega, by go_num, by rw [HS.out, HK.out]; rfl, _, rfl⟩
        case measure => simp [intOf]; omega
      · have hf : decide (x = y) = false := by simpa using hxy
        rw [hf] at hq HK
        clear hxy hf
        go_wp2
        go_quiet (fail)
        go_wp2
        go_ret
        exact ⟨ret_bool (by rw [HS.out, HK.out]; rfl), _, World.drewN_drewN _ _ _⟩
    · have hkn : k = n := by omega
      subst hkn
      go_wp2
      go_ret
      exact ⟨ret_bool (by rw [HS.out, HZ'.out]), _, rfl⟩

def gridFrom (G H : List (List Gl)) (k : Nat) : Bool := decide (G.drop k = H.drop k)
theorem gridFrom_step {xs ys : List (List Gl)} {k : Nat} {x y : List Gl} (hx : xs[k]? = some x) (hy : ys[k]? = some y) : gridFrom xs ys k = (decide (x = y) && gridFrom xs ys (k + 1)) := by
  obtain ⟨h1, e1⟩ := List.getElem?_eq_some_iff.1 hx
  obtain ⟨h2, e2⟩ := List.getElem?_eq_some_iff.1 hy
  unfold gridFrom
  rw [List.drop_eq_getElem_cons h1, List.drop_eq_getElem_cons h2, e1, e2]
  simp

theorem RefAt.drewN {w : World} {B ob m : Nat} {rb rc : Nat → Nat} {G : List (List Gl)} (h : RefAt w B ob rb rc m G) (q : Nat) : RefAt (w.drewN q) B ob rb rc m G := h.same rfl fun _ _ => rfl

set_option maxRecDepth 100000 in
set_option maxHeartbeats 1000000 in
theorem refSame_any (B ob ocap B' ob' ocap' m : Nat) (rb rc rb' rc' : Nat → Nat) (G H : List (List Gl)) (w : World) (hG : RefAt w B ob rb rc m G) (hH : RefAt w B' ob' rb' rc' m H) (hl : H.length = G.length) :
    Calls Try.prog 41 #[.slice (some ⟨ob, 0, none⟩) G.length ocap, .slice (some ⟨ob', 0, none⟩) G.length ocap'] w fun e w' => e = .returned (.bool (decide (G = H))) ∧ ∃ q, w' = w.drewN q := by
  have e0 : decide (G = H) = gridFrom G H 0 := by unfold gridFrom; simp
  rw [e0]
  obtain ⟨n, hn⟩ : ∃ n, n = G.length := ⟨_, rfl⟩
  have hfew := hG.few
  have hsm := hG.small
  rw [← hn] at hl hfew ⊢
  have H1 := Lib.hid (fun (k : Nat) (hk : k < n) => hG.outer k (by omega))
  have H2 := Lib.hid (fun (k : Nat) (hk : k < n) => hH.outer k (by omega))
  have HR := Lib.hid (fun (k q : Nat) (hk : k < n) => sameRow_any (rb k) (rc k) (rb' k) (rc' k) m _ _ (w.drewN q) ((hG.drewN q).row (get_rowAt (r := k) (by omega))).1 ((hH.drewN q).row (get_rowAt (r := k) (by omega))).1 hsm ((hG.drewN q).row (get_rowAt (r := k) (by omega))).2.2.2.2.1 ((hH.drewN q).row (get_rowAt (r := k) (by omega))).2.2.2.2.1)
  have HE := Lib.hid (fun (k : Nat) (hk : k < n) => gridFrom_step (get_rowAt (G := G) (r := k) (by omega)) (get_rowAt (G := H) (r := k) (by omega)))
  have HZ : gridFrom G H n = true := by unfold gridFrom; rw [List.drop_of_length_le (by omega), List.drop_of_length_le (by omega)]; simp
  have HZ' := Lib.hid HZ
  have HN := Lib.hid hn
  clear hG hH hl e0 HZ hn
  go_enter Try.func41, Try.ntmps41
  go_wp2
  go_loopw [5] (fun i wr => ∃ k : Nat, k ≤ n ∧ i = .int .i64 ((k : Nat) : Int) ∧ gridFrom G H 0 = gridFrom G H k ∧ ∃ q, wr = w.drewN q) (fun i _ => n - (intOf i).toNat)
  case atStart => exact ⟨0, Nat.zero_le _, rfl, rfl, 0, rfl⟩
  case round =>
    obtain ⟨k, hk, rfl, hs, q, hwr⟩ := hrel
    have HS := Lib.hid hs
    have HQ := Lib.hid hwr
    clear hs
    by_cases hlt : k < n
    · have a1 : wr.cell? ⟨ob, k, none⟩ = some (.slice (some ⟨rb k, 0, none⟩) m (rc k)) := by rw [hwr]; exact H1.out k hlt
      have a2 : wr.cell? ⟨ob', k, none⟩ = some (.slice (some ⟨rb' k, 0, none⟩) m (rc' k)) := by rw [hwr]; exact H2.out k hlt
      have HK := Lib.hid (HE.out k hlt)
      have hcall := fun q' => HR.out k (q + q') hlt
      simp only [← World.drewN_drewN] at hcall
      rw [← hwr] at hcall
      clear hwr
      have q1 : (0 : Int) ≤ (k : Int) := by omega
      have q2 : (k : Int) < (n : Int) := by omega
      by_cases hxy : rowAt G k = rowAt H k
      · have hf : decide (rowAt G k = rowAt H k) = true := decide_eq_true hxy
        rw [hf] at hcall HK
        have HC := Lib.hid hcall
        clear hxy hf hcall
        go_wp2
        go_quiet ((go_at_call 55; exact Calls.quiet_of (HC.out _)))
        go_wp2
        go_roundw
        case rel => exact ⟨k + 1, by omega, by go_num, by rw [HS.out, HK.out]; rfl, _, by rw [HQ.out, World.drewN_drewN]⟩
        case measure => simp [intOf]; omega
      · have hf : decide (rowAt G k = rowAt H k) = false := decide_eq_false hxy
        rw [hf] at hcall HK
        have HC := Lib.hid hcall
        clear hxy hf hcall
        go_wp2
        go_quiet ((go_at_call 55; exact Calls.quiet_of (HC.out _)))
        go_wp2
        go_ret
        exact ⟨ret_bool (by rw [HS.out, HK.out]; rfl), _, by rw [HQ.out, World.drewN_drewN]⟩
    · have hkn : k = n := by omega
      subst hkn
      clear hwr
      go_wp2
      go_ret
      exact ⟨ret_bool (by rw [HS.out, HZ'.out]), _, HQ.out⟩
end Go.Proofs.Ytokenlecnbploaa
