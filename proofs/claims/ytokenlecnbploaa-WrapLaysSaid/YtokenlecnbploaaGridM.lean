/- The walk of GridWide. -/
import Derived.Test.YtokenlecnbploaaGridL
import Derived.Test.YtokenlecnbploaaOpen
namespace Go.Proofs.Ytokenlecnbploaa
open Go.RowKit

def denc (d : Dd) : List Value := [.int .i64 d.k, .int .i64 d.r, .int .i64 d.c, .string d.x.1, .int .i64 d.x.2]
theorem denc_len (d : Dd) : (denc d).length = 5 := rfl

theorem wide_zero {l : List Gl} (h : wfRow l) (h0 : 0 < l.length) : (cellAt l 0).2 ≠ 0 := by
  have := h 0 h0
  unfold fine at this
  intro e
  rcases this with ⟨_, _, h1, _⟩ | h1 | ⟨h1, _⟩ <;> omega
theorem wide_no {l : List Gl} (h : wfRow l) {c : Nat} (hc : c + 1 < l.length) (hp : (cellAt l c).2 ≠ 2) : (cellAt l (c + 1)).2 ≠ 0 := by
  have := h (c + 1) hc
  unfold fine at this
  intro e
  rcases this with ⟨_, _, _, h2⟩ | h1 | ⟨h1, _⟩
  · exact hp (by simpa using h2)
  · omega
  · omega
theorem wide_yes {l : List Gl} (h : wfRow l) {c : Nat} (hc : c + 1 < l.length) (hp : (cellAt l c).2 = 2) : (cellAt l (c + 1)).2 = 0 ∧ (cellAt l (c + 1)).1 = ⟨#[]⟩ := by
  have h0 := h c (by omega)
  unfold fine at h0
  have e : (cellAt l (c + 1)).2 = 0 := by
    rcases h0 with ⟨h1, _⟩ | h1 | ⟨_, _, h3⟩
    · omega
    · omega
    · exact h3
  have := h (c + 1) hc
  unfold fine at this
  rcases this with ⟨_, h1, _⟩ | h1 | ⟨h1, _⟩
  · exact ⟨e, h1⟩
  · omega
  · omega
theorem wide_last {l : List Gl} (h : wfRow l) {m : Nat} (hl : l.length = m) (hm : 0 < m) : (cellAt l (m - 1)).2 ≠ 2 := by
  have := h (m - 1) (by omega)
  unfold fine at this
  intro e
  rcases this with ⟨h1, _⟩ | h1 | ⟨_, h2, _⟩ <;> omega

theorem field_w (t : ByteArray) (d : Int) (w : World) : Sem.run Try.prog (Instr.field 61 (.agg #[.string t, .int .i64 d]) 1) w = .ok (.int .i64 d) w := by rfl
theorem field_t (t : ByteArray) (d : Int) (w : World) : Sem.run Try.prog (Instr.field 61 (.agg #[.string t, .int .i64 d]) 0) w = .ok (.string t) w := by rfl

theorem at_nat (gb lb m cap r c : Nat) (G : List (List Gl)) (w : World) (hG : GridG w gb lb m cap G) (hr : r < G.length) (hc : c < m) (hm : 0 < m) :
    Calls Try.prog 32 #[.pointer (some ⟨gb, 0, none⟩), .int .i64 r, .int .i64 c] w fun e w' => e = .returned (.agg #[.string (cellAt (rowAt G r) c).1, .int .i64 (cellAt (rowAt G r) c).2]) ∧ Below w.heap.size w w' ∧ GridG w' gb lb m cap G := by
  refine (at_some gb lb m cap r c G _ w hG (get_rowAt hr) hc).mono ?_
  rintro e w' ⟨rfl, hB⟩
  exact ⟨rfl, hB, hG.kept (by omega) hm (P := fun _ => False) (.of_below hB) id id⟩

set_option maxRecDepth 100000 in
set_option maxHeartbeats 1000000 in
theorem gridWide_any (rows cols : Int) (v : Value) (l : List Dd) (w : World) (hR : Rs w.heap.size w denc 5 v l) :
    Calls Try.prog 8 #[.int .i64 rows, .int .i64 cols, v] w fun e w' => e = .returned (.bool true) ∧ Below w.heap.size w w' := by
  obtain ⟨a, cap0, rfl, hcap, hmax, hxl, hcells⟩ := hR
  unfold maxLen at hmax
  obtain ⟨n, hn⟩ : ∃ n : Nat, 1 + rows % 4 = (n : Int) := ⟨(1 + rows % 4).toNat, by omega⟩
  obtain ⟨m, hm⟩ : ∃ m : Nat, 2 + cols % 8 = (m : Int) := ⟨(2 + cols % 8).toNat, by omega⟩
  have n1 : 1 ≤ n := by omega
  have n2 : n ≤ 4 := by omega
  have m1 : 2 ≤ m := by omega
  have m2 : m ≤ 9 := by omega
  have hb3 := and3 rows
  have hb7 := and7 cols
  have e1 := IntWalk.i64_in (1 + rows % 4) (by omega)
  have e2 := IntWalk.i64_in (2 + cols % 8) (by omega)
  have HC := Lib.hid hcells
  clear hxl hcells
  go_enter Try.func8, Try.ntmps8
  go_wp2_with fail
  refine (new_some n m w n1 (by omega) m1 (by omega)).mono ?_
  rintro e w1 ⟨gb, lb, rfl, hgb, hlb, hB1, hG1⟩
  go_wp2_with fail
  refine (refNew_some n m w1 n1 (by omega) m1 (by omega)).mono ?_
  rintro e w2 ⟨ob, ocap, rb, rc, rfl, hB2, hH2⟩
  have hl1 : 0 < (List.replicate n (List.replicate m blankC)).length := by rw [List.length_replicate]; omega
  have hglt := hG1.grid.glt
  have hllt := hG1.llt hl1 (by omega)
  have ha : Apart gb lb ob n rb := ⟨fun e => by have := hH2.hob; omega, fun e => by have := hH2.hob; omega, fun i hi e => by have := hH2.base i (by rw [List.length_replicate]; exact hi); omega, fun i hi e => by have := hH2.base i (by rw [List.length_replicate]; exact hi); omega⟩
  have hG2 := hG1.kept hl1 (by omega) (P := fun _ => False) (.of_below hB2) id id
  have hB02 := below_trans' hB1 hB2
  have hbase : ∀ j, j = lb ∨ Rows n rb j → w.heap.size ≤ j := by
    rintro j (rfl | ⟨i, hi, rfl⟩)
    · exact hlb
    · have := hH2.base i (by rw [List.length_replicate]; exact hi)
      have := hB1.size
      omega
  have HA := Lib.hid ha
  have HBs := Lib.hid hbase
  have HGx := Lib.hid hG2
  have HHx := Lib.hid hH2
  have HB02 := Lib.hid hB02
  clear hG1 hH2 hG2 hl1 hB1 hB2 hB02 ha hbase hb3 hb7 e1 e2
  go_wp2_with fail
  go_loopw [9] (fun i wr => ∃ k G H, k ≤ l.length ∧ k ≤ 40 ∧ i = .int .i64 ((k : Nat) : Int) ∧ Below w.heap.size w wr ∧ GridG wr gb lb m (n * m) G ∧ RefAt wr w1.heap.size ob rb rc m H ∧ G.length = n ∧ H.length = n) (fun i _ => l.length - (intOf i).toNat)
  case atStart => exact ⟨0, _, _, Nat.zero_le _, by omega, rfl, HB02.out, HGx.out, HHx.out, by simp, by simp⟩
  case round =>
    obtain ⟨k, G, H, hk1, hk2, rfl, hB, hG, hH, hGn, hHn⟩ := hrel
    by_cases hlt : k < l.length ∧ k < 40
    · obtain ⟨hlt1, hlt2⟩ := hlt
      obtain ⟨d, hd⟩ : ∃ d, l[k]? = some d := ⟨l[k], by simp [hlt1]⟩
      obtain ⟨b, off, rfl, hbl, hcq⟩ := HC.out (by omega)
      have d0 : wr.cell? ⟨b, off + k * 5, none⟩ = some (.int .i64 d.k) := cell_later hB (flat_cell denc_len hcq hd 0 rfl)
      have q40 : decide ((k : Int) < 40) = true := decide_eq_true (by omega)
      have d1 : wr.cell? ⟨b, off + k * 5 + 1, none⟩ = some (.int .i64 d.r) := cell_later hB (flat_cell denc_len hcq hd 1 rfl)
      have d2 : wr.cell? ⟨b, off + k * 5 + 2, none⟩ = some (.int .i64 d.c) := cell_later hB (flat_cell denc_len hcq hd 2 rfl)
      have d3 : wr.cell? ⟨b, off + k * 5 + 3, none⟩ = some (.string d.x.1) := cell_later hB (flat_cell denc_len hcq hd 3 rfl)
      have d4 : wr.cell? ⟨b, off + k * 5 + 4, none⟩ = some (.int .i64 d.x.2) := cell_later hB (flat_cell denc_len hcq hd 4 rfl)
      have hcall := does_any gb lb m (n * m) w1.heap.size ob m ocap rb rc G H d wr hG hH (by omega) (by omega) (by omega) (by rw [hHn]; exact HA.out)
      rw [hHn, hGn] at hcall
      have hl' : (doG G m d).length = n := (doG_len G m d).trans hGn
      have hl2' : (doG H m d).length = n := (doG_len H m d).trans hHn
      have HX := Lib.hid hcall
      have HY := Lib.hid hl'
      have HZ := Lib.hid hl2'
      have hBs := hB.size
      clear hcall hl' hl2' hG hH hGn hHn hcq hd
      go_wp2_with fail
      refine HX.out.mono ?_
      rintro e w3 ⟨rfl, hD⟩
      obtain ⟨hK, hG3, hH3⟩ := hD
      have hB3 : Below w.heap.size w w3 := hB.trans (hK.below hBs HBs.out)
      have HG3 := Lib.hid hG3
      have HH3 := Lib.hid hH3
      clear hG3 hH3 hK d0 d1 d2 d3 d4
      go_wp2
      go_roundw
      case rel => exact ⟨k + 1, _, _, by omega, by omega, by go_num, hB3, HG3.out, HH3.out, HY.out, HZ.out⟩
      case measure => simp [intOf]; omega
    · have hBs := hB.size
      have c0 := hG.grid.c0
      have c1 := hG.grid.c1
      rw [hGn] at c0
      have hstay : ∀ w', Below wr.heap.size wr w' → GridG w' gb lb m (n * m) G := fun w' h => hG.kept (by omega) (by omega) (P := fun _ => False) (.of_below h) id id
      have HS := Lib.hid hstay
      have HN := Lib.hid hGn
      have HW := Lib.hid hG.wf
      have HSh := Lib.hid hG.shape
      clear hstay hG hH hGn hHn
      by_cases hlt1 : k < l.length
      · have q40 : decide ((k : Int) < 40) = false := decide_eq_false (by omega)
        go_wp2_with fail
        refine (size_some gb n m wr c0 c1).mono ?_
        rintro e w3 ⟨rfl, hB3⟩
        have hG3 := HS.out w3 hB3
        have hB03 := below_trans' hB hB3
        have HB3 := Lib.hid hB03
        have HG3 := Lib.hid hG3
        clear c0 c1 hB3 hG3 hB03 hB hBs
        go_wp2_with fail
        go_loopw [12] (fun i wi => ∃ r : Nat, r ≤ n ∧ i = .int .i64 ((r : Nat) : Int) ∧ Below w.heap.size w wi ∧ GridG wi gb lb m (n * m) G) (fun i _ => n - (intOf i).toNat)
        case atStart => exact ⟨0, Nat.zero_le _, rfl, HB3.out, HG3.out⟩
        case round =>
          obtain ⟨r, hr, rfl, hBr, hGr⟩ := hrel
          by_cases hrn : r < n
          · have hget := get_rowAt (G := G) (r := r) (by rw [HN.out]; exact hrn)
            have hwl := HW.out _ (List.mem_of_getElem? hget)
            have hll := HSh.out _ (List.mem_of_getElem? hget)
            have HWL := Lib.hid hwl
            have HLL := Lib.hid hll
            have HGr := Lib.hid hGr
            clear hwl hll hget hGr
            obtain ⟨wo, rfl⟩ : ∃ wo : World, wo = wr := ⟨_, rfl⟩
            go_wp2_with fail
            go_loopw [13] (fun i wj => ∃ c : Nat, c ≤ m ∧ i = .int .i64 ((c : Nat) : Int) ∧ Below w.heap.size w wj ∧ GridG wj gb lb m (n * m) G) (fun i _ => m - (intOf i).toNat)
            case atStart => exact ⟨0, Nat.zero_le _, rfl, hBr, HGr.out⟩
            case round =>
              obtain ⟨c, hc, rfl, hBc, hGc⟩ := hrel
              by_cases hcm : c < m
              · have hat := at_nat gb lb m (n * m) r c G
                rcases Nat.eq_zero_or_pos c with h0 | h0
                · subst h0
                  have hz := wide_zero HWL.out (by rw [HLL.out]; omega)
                  have HGc := Lib.hid hGc
                  have HAt := Lib.hid hat
                  clear hat hGc
                  go_wp2_with fail
                  refine (HAt.out _ HGc.out (by rw [HN.out]; exact hrn) hcm (by omega)).mono ?_
                  rintro e w4 ⟨rfl, hB4, hG4⟩
                  have HB4 := Lib.hid (below_trans' hBc hB4)
                  have HG4 := Lib.hid hG4
                  clear hB4 hG4 HAt
                  generalize cellAt (rowAt G r) 0 = x at hz ⊢
                  obtain ⟨xt, xd⟩ := x
                  dsimp only at hz ⊢
                  have hzb : (xd == 0) = false := by simpa using hz
                  have hf := field_w xt xd w4
                  go_wp2
                  go_roundw
                  case rel => exact ⟨1, by omega, by go_num, HB4.out, HG4.out⟩
                  case measure => simp [intOf]; omega
                · obtain ⟨p, rfl⟩ : ∃ p, c = p + 1 := ⟨c - 1, by omega⟩
                  have HGc := Lib.hid hGc
                  have hp0 : (0 : Int) < (p : Int) + 1 := by omega
                  have e1 := IntWalk.i64_in ((p : Int) + 1 - 1) (by omega)
                  have e2 : (p : Int) + 1 - 1 = (p : Int) := by omega
                  have HA1 := Lib.hid (at_nat gb lb m (n * m) r p G)
                  have HA2 := Lib.hid (at_nat gb lb m (n * m) r (p + 1) G)
                  have HNo := Lib.hid (wide_no HWL.out (c := p) (by rw [HLL.out]; omega))
                  have HYes := Lib.hid (wide_yes HWL.out (c := p) (by rw [HLL.out]; omega))
                  clear hGc hat
                  rw [e2] at e1
                  generalize hx : cellAt (rowAt G r) p = x at HNo HYes
                  obtain ⟨xt, xd⟩ := x
                  generalize hy : cellAt (rowAt G r) (p + 1) = y at HNo HYes
                  obtain ⟨yt, yd⟩ := y
                  have hc1 : ∀ w', GridG w' gb lb m (n * m) G → Calls Try.prog 32 #[.pointer (some ⟨gb, 0, none⟩), .int .i64 r, .int .i64 (p : Int)] w' fun e w'' => e = .returned (.agg #[.string xt, .int .i64 xd]) ∧ Below w'.heap.size w' w'' ∧ GridG w'' gb lb m (n * m) G := by
                    intro w' h
                    have := HA1.out w' h (by rw [HN.out]; exact hrn) (by omega) (by omega)
                    rw [hx] at this; exact this
                  have hc2 : ∀ w', GridG w' gb lb m (n * m) G → Calls Try.prog 32 #[.pointer (some ⟨gb, 0, none⟩), .int .i64 r, .int .i64 ((p : Int) + 1)] w' fun e w'' => e = .returned (.agg #[.string yt, .int .i64 yd]) ∧ Below w'.heap.size w' w'' ∧ GridG w'' gb lb m (n * m) G := by
                    intro w' h
                    have := HA2.out w' h (by rw [HN.out]; exact hrn) hcm (by omega)
                    rw [hy, Int.natCast_add] at this; exact this
                  have H1 := Lib.hid hc1
                  have H2 := Lib.hid hc2
                  clear hc1 hc2 hx hy HA1 HA2
                  by_cases hxd : xd = 2
                  · obtain ⟨hy0, hy1⟩ := HYes.out hxd
                    dsimp only at hy0 hy1
                    subst hxd hy0 hy1
                    clear HNo HYes
                    have f1 := fun w => field_w xt 2 w
                    have f2 := fun w => field_w ⟨#[]⟩ 0 w
                    have f3 := fun w => field_t ⟨#[]⟩ 0 w
                    go_wp2_with fail
                    refine (H1.out _ HGc.out).mono ?_
                    rintro e w4 ⟨rfl, hB4, hG4⟩
                    go_wp2_with fail
                    refine (H2.out _ hG4).mono ?_
                    rintro e w5 ⟨rfl, hB5, hG5⟩
                    go_wp2_with fail
                    refine (H2.out _ hG5).mono ?_
                    rintro e w6 ⟨rfl, hB6, hG6⟩
                    have HB6 := Lib.hid (below_trans' (below_trans' (below_trans' hBc hB4) hB5) hB6)
                    have HG6 := Lib.hid hG6
                    clear hB4 hB5 hB6 hG4 hG5 hG6
                    go_wp2
                    go_roundw
                    case rel => exact ⟨p + 2, by omega, by go_num, HB6.out, HG6.out⟩
                    case measure => simp [intOf]; omega
                  · have hyd := HNo.out hxd
                    dsimp only at hyd
                    clear HNo HYes
                    have hxb : (xd == 2) = false := by simpa using hxd
                    have hyb : (yd == 0) = false := by simpa using hyd
                    have f1 := fun w => field_w xt xd w
                    have f2 := fun w => field_w yt yd w
                    go_wp2_with fail
                    refine (H1.out _ HGc.out).mono ?_
                    rintro e w4 ⟨rfl, hB4, hG4⟩
                    go_wp2_with fail
                    refine (H2.out _ hG4).mono ?_
                    rintro e w5 ⟨rfl, hB5, hG5⟩
                    have HB6 := Lib.hid (below_trans' (below_trans' hBc hB4) hB5)
                    have HG6 := Lib.hid hG5
                    clear hB4 hB5 hG4 hG5
                    go_wp2
                    go_roundw
                    case rel => exact ⟨p + 2, by omega, by go_num, HB6.out, HG6.out⟩
                    case measure => simp [intOf]; omega
              · have hcm' : c = m := by omega
                subst hcm'
                have HGc := Lib.hid hGc
                have hz := wide_last HWL.out HLL.out (by omega)
                have e1 := IntWalk.i64_in ((c : Int) - 1) (by omega)
                have e2 : (c : Int) - 1 = ((c - 1 : Nat) : Int) := by omega
                have HAt := Lib.hid (at_nat gb lb c (n * c) r (c - 1) G)
                clear hGc
                go_wp2_with fail
                refine (HAt.out _ HGc.out (by rw [HN.out]; exact hrn) (by omega) (by omega)).mono ?_
                rintro e w4 ⟨rfl, hB4, hG4⟩
                have HB4 := Lib.hid (below_trans' hBc hB4)
                have HG4 := Lib.hid hG4
                clear hB4 hG4 HAt
                generalize cellAt (rowAt G r) (c - 1) = x at hz ⊢
                obtain ⟨xt, xd⟩ := x
                dsimp only at hz ⊢
                have hzb : (xd == 2) = false := by simpa using hz
                have hf := field_w xt xd w4
                go_wp2
                go_roundw
                case rel => exact ⟨r + 1, by omega, by go_num, HB4.out, HG4.out⟩
                case measure => simp [intOf]; omega
          · have hrn' : r = n := by omega
            subst hrn'
            have HGr := Lib.hid hGr
            clear hGr
            go_wp2_with fail
            refine (awake27_any _).mono ?_
            rintro e w4 ⟨rfl, hB4⟩
            go_wp2
            go_ret
            exact ⟨rfl, below_trans' hBr hB4⟩
      · have q41 : ¬ ((k : Int) < (l.length : Int)) := by omega
        go_wp2_with fail
        refine (size_some gb n m wr c0 c1).mono ?_
        rintro e w3 ⟨rfl, hB3⟩
        have hG3 := HS.out w3 hB3
        have hB03 := below_trans' hB hB3
        have HB3 := Lib.hid hB03
        have HG3 := Lib.hid hG3
        clear c0 c1 hB3 hG3 hB03 hB hBs
        go_wp2_with fail
        go_loopw [12] (fun i wi => ∃ r : Nat, r ≤ n ∧ i = .int .i64 ((r : Nat) : Int) ∧ Below w.heap.size w wi ∧ GridG wi gb lb m (n * m) G) (fun i _ => n - (intOf i).toNat)
        case atStart => exact ⟨0, Nat.zero_le _, rfl, HB3.out, HG3.out⟩
        case round =>
          obtain ⟨r, hr, rfl, hBr, hGr⟩ := hrel
          by_cases hrn : r < n
          · have hget := get_rowAt (G := G) (r := r) (by rw [HN.out]; exact hrn)
            have hwl := HW.out _ (List.mem_of_getElem? hget)
            have hll := HSh.out _ (List.mem_of_getElem? hget)
            have HWL := Lib.hid hwl
            have HLL := Lib.hid hll
            have HGr := Lib.hid hGr
            clear hwl hll hget hGr
            obtain ⟨wo, rfl⟩ : ∃ wo : World, wo = wr := ⟨_, rfl⟩
            go_wp2_with fail
            go_loopw [13] (fun i wj => ∃ c : Nat, c ≤ m ∧ i = .int .i64 ((c : Nat) : Int) ∧ Below w.heap.size w wj ∧ GridG wj gb lb m (n * m) G) (fun i _ => m - (intOf i).toNat)
            case atStart => exact ⟨0, Nat.zero_le _, rfl, hBr, HGr.out⟩
            case round =>
              obtain ⟨c, hc, rfl, hBc, hGc⟩ := hrel
              by_cases hcm : c < m
              · have hat := at_nat gb lb m (n * m) r c G
                rcases Nat.eq_zero_or_pos c with h0 | h0
                · subst h0
                  have hz := wide_zero HWL.out (by rw [HLL.out]; omega)
                  have HGc := Lib.hid hGc
                  have HAt := Lib.hid hat
                  clear hat hGc
                  go_wp2_with fail
                  refine (HAt.out _ HGc.out (by rw [HN.out]; exact hrn) hcm (by omega)).mono ?_
                  rintro e w4 ⟨rfl, hB4, hG4⟩
                  have HB4 := Lib.hid (below_trans' hBc hB4)
                  have HG4 := Lib.hid hG4
                  clear hB4 hG4 HAt
                  generalize cellAt (rowAt G r) 0 = x at hz ⊢
                  obtain ⟨xt, xd⟩ := x
                  dsimp only at hz ⊢
                  have hzb : (xd == 0) = false := by simpa using hz
                  have hf := field_w xt xd w4
                  go_wp2
                  go_roundw
                  case rel => exact ⟨1, by omega, by go_num, HB4.out, HG4.out⟩
                  case measure => simp [intOf]; omega
                · obtain ⟨p, rfl⟩ : ∃ p, c = p + 1 := ⟨c - 1, by omega⟩
                  have HGc := Lib.hid hGc
                  have hp0 : (0 : Int) < (p : Int) + 1 := by omega
                  have e1 := IntWalk.i64_in ((p : Int) + 1 - 1) (by omega)
                  have e2 : (p : Int) + 1 - 1 = (p : Int) := by omega
                  have HA1 := Lib.hid (at_nat gb lb m (n * m) r p G)
                  have HA2 := Lib.hid (at_nat gb lb m (n * m) r (p + 1) G)
                  have HNo := Lib.hid (wide_no HWL.out (c := p) (by rw [HLL.out]; omega))
                  have HYes := Lib.hid (wide_yes HWL.out (c := p) (by rw [HLL.out]; omega))
                  clear hGc hat
                  rw [e2] at e1
                  generalize hx : cellAt (rowAt G r) p = x at HNo HYes
                  obtain ⟨xt, xd⟩ := x
                  generalize hy : cellAt (rowAt G r) (p + 1) = y at HNo HYes
                  obtain ⟨yt, yd⟩ := y
                  have hc1 : ∀ w', GridG w' gb lb m (n * m) G → Calls Try.prog 32 #[.pointer (some ⟨gb, 0, none⟩), .int .i64 r, .int .i64 (p : Int)] w' fun e w'' => e = .returned (.agg #[.string xt, .int .i64 xd]) ∧ Below w'.heap.size w' w'' ∧ GridG w'' gb lb m (n * m) G := by
                    intro w' h
                    have := HA1.out w' h (by rw [HN.out]; exact hrn) (by omega) (by omega)
                    rw [hx] at this; exact this
                  have hc2 : ∀ w', GridG w' gb lb m (n * m) G → Calls Try.prog 32 #[.pointer (some ⟨gb, 0, none⟩), .int .i64 r, .int .i64 ((p : Int) + 1)] w' fun e w'' => e = .returned (.agg #[.string yt, .int .i64 yd]) ∧ Below w'.heap.size w' w'' ∧ GridG w'' gb lb m (n * m) G := by
                    intro w' h
                    have := HA2.out w' h (by rw [HN.out]; exact hrn) hcm (by omega)
                    rw [hy, Int.natCast_add] at this; exact this
                  have H1 := Lib.hid hc1
                  have H2 := Lib.hid hc2
                  clear hc1 hc2 hx hy HA1 HA2
                  by_cases hxd : xd = 2
                  · obtain ⟨hy0, hy1⟩ := HYes.out hxd
                    dsimp only at hy0 hy1
                    subst hxd hy0 hy1
                    clear HNo HYes
                    have f1 := fun w => field_w xt 2 w
                    have f2 := fun w => field_w ⟨#[]⟩ 0 w
                    have f3 := fun w => field_t ⟨#[]⟩ 0 w
                    go_wp2_with fail
                    refine (H1.out _ HGc.out).mono ?_
                    rintro e w4 ⟨rfl, hB4, hG4⟩
                    go_wp2_with fail
                    refine (H2.out _ hG4).mono ?_
                    rintro e w5 ⟨rfl, hB5, hG5⟩
                    go_wp2_with fail
                    refine (H2.out _ hG5).mono ?_
                    rintro e w6 ⟨rfl, hB6, hG6⟩
                    have HB6 := Lib.hid (below_trans' (below_trans' (below_trans' hBc hB4) hB5) hB6)
                    have HG6 := Lib.hid hG6
                    clear hB4 hB5 hB6 hG4 hG5 hG6
                    go_wp2
                    go_roundw
                    case rel => exact ⟨p + 2, by omega, by go_num, HB6.out, HG6.out⟩
                    case measure => simp [intOf]; omega
                  · have hyd := HNo.out hxd
                    dsimp only at hyd
                    clear HNo HYes
                    have hxb : (xd == 2) = false := by simpa using hxd
                    have hyb : (yd == 0) = false := by simpa using hyd
                    have f1 := fun w => field_w xt xd w
                    have f2 := fun w => field_w yt yd w
                    go_wp2_with fail
                    refine (H1.out _ HGc.out).mono ?_
                    rintro e w4 ⟨rfl, hB4, hG4⟩
                    go_wp2_with fail
                    refine (H2.out _ hG4).mono ?_
                    rintro e w5 ⟨rfl, hB5, hG5⟩
                    have HB6 := Lib.hid (below_trans' (below_trans' hBc hB4) hB5)
                    have HG6 := Lib.hid hG5
                    clear hB4 hB5 hG4 hG5
                    go_wp2
                    go_roundw
                    case rel => exact ⟨p + 2, by omega, by go_num, HB6.out, HG6.out⟩
                    case measure => simp [intOf]; omega
              · have hcm' : c = m := by omega
                subst hcm'
                have HGc := Lib.hid hGc
                have hz := wide_last HWL.out HLL.out (by omega)
                have e1 := IntWalk.i64_in ((c : Int) - 1) (by omega)
                have e2 : (c : Int) - 1 = ((c - 1 : Nat) : Int) := by omega
                have HAt := Lib.hid (at_nat gb lb c (n * c) r (c - 1) G)
                clear hGc
                go_wp2_with fail
                refine (HAt.out _ HGc.out (by rw [HN.out]; exact hrn) (by omega) (by omega)).mono ?_
                rintro e w4 ⟨rfl, hB4, hG4⟩
                have HB4 := Lib.hid (below_trans' hBc hB4)
                have HG4 := Lib.hid hG4
                clear hB4 hG4 HAt
                generalize cellAt (rowAt G r) (c - 1) = x at hz ⊢
                obtain ⟨xt, xd⟩ := x
                dsimp only at hz ⊢
                have hzb : (xd == 2) = false := by simpa using hz
                have hf := field_w xt xd w4
                go_wp2
                go_roundw
                case rel => exact ⟨r + 1, by omega, by go_num, HB4.out, HG4.out⟩
                case measure => simp [intOf]; omega
          · have hrn' : r = n := by omega
            subst hrn'
            have HGr := Lib.hid hGr
            clear hGr
            go_wp2_with fail
            refine (awake27_any _).mono ?_
            rintro e w4 ⟨rfl, hB4⟩
            go_wp2
            go_ret
            exact ⟨rfl, below_trans' hBr hB4⟩
end Go.Proofs.Ytokenlecnbploaa
