/- Joined texts: UnitB. -/
import Derived.Test.YthlpelfogplomaaGreatZfaa
import Derived.Test.YthlpelfogplomaaGreatZaaa
/- units.Of: its walk. -/
namespace Go.Proofs.YthlpelfogplomaaGreat
open Go.RowKit

section
variable {R : List Rw} {s : List Int} {w : World} {sv : Value} {tp : Nat}
theorem range1 {w : World} {b : Nat} {u : Value} (h0 : w.cell? ⟨b, 0, none⟩ = some u) : w.rangeAt b 0 [u] := fun j x hx => by
  match j with
  | 0 => simp at hx; subst hx; simpa using h0
  | _ + 1 => simp at hx
theorem gly_apart {w : World} {v : Value} {l : List Gy} (h : GlyIn w v l) {b : Nat} {cs : Array Value} {t : TypeId} (hc : w.heap[b]? = some (.cells cs t (0, 0))) (hcs : ∀ (i : Nat) (u : Value), cs[i]? = some u → ∃ n : Int, u = Value.int .i64 n) {k : Nat} {x : Gy} (hx : l[k]? = some x) :
    ∃ g off cap, v = .slice (some ⟨g, off, none⟩) l.length cap ∧ g < w.heap.size ∧ g ≠ b ∧ w.cell? ⟨g, off + k * 2, none⟩ = some (.string x.1) ∧ w.cell? ⟨g, off + k * 2 + 1, none⟩ = some (.int .i64 x.2) := by
  obtain ⟨g, off, cap, rfl, _, _, hg, d0, d1⟩ := gly_cells h hx
  refine ⟨g, off, cap, rfl, hg, fun e => ?_, d0, d1⟩
  subst e
  rw [cell_of_row _ _ _ _ _ _ hc] at d0
  obtain ⟨n, hn⟩ := hcs _ _ (by simpa using d0)
  cases hn
set_option maxRecDepth 100000 in
set_option maxHeartbeats 16000000 in
theorem uof_any (H : (tabOf R).Ok) (hT : Tb R w tp) (hs : RunesIn w sv s) (ok : RunesOk s) (hl : s.length ≤ 100000) :
    Calls Tryz.prog 61 #[.pointer (some ⟨tp, 0, none⟩), sv] w fun e w' => ∃ u, e = .returned u ∧ Below w.heap.size w w' ∧ MapIn w' u (PLs R s) := by
  have HT := Lib.hid hT
  have HS := Lib.hid hs
  have HOk := Lib.hid ok
  have HTk := Lib.hid H
  have HSt := Lib.hid (fun (W : World) (h1 : Tb R W tp) (h2 : RunesIn W sv s) => starts_own H h1 h2 ok (by omega))
  have hSl := starts_len (tabOf R) s
  obtain ⟨S, hS⟩ : ∃ S, S = starts (tabOf R) s := ⟨_, rfl⟩
  rw [← hS] at HSt hSl
  have HSe := Lib.hid hS
  obtain ⟨sl, cap, rfl, hcap, hmax, _⟩ := runes_cells hs
  unfold maxLen at hmax
  obtain ⟨ip, hip, hzp, hsp, hbp⟩ := info_parts (show (Tryz.prog.info? 122).map (fun i => (i.zero, i.size, i.bytes)) = some (some (.agg #[.int .i64 0, .int .i64 0, .int .i64 0, .int .i64 0, .int .i64 0]), 5, 40) by kernel_rfl)
  have mk := run_make (P := Tryz.prog) (w.alloc (.cells #[.slice none 0 0] 119)) 117 122 ip (.agg #[.int .i64 0, .int .i64 0, .int .i64 0, .int .i64 0, .int .i64 0]) Tryz.underlying117 hip hzp .i64 .i64 0 ((s.length : Int) + 1) (by omega) (by omega) (by rw [hbp]; omega) (by omega)
  rw [hsp] at mk
  have e0 := IntWalk.i64_in ((s.length : Int) + 1) (by omega)
  clear hT hs ok H hS hip hzp hsp hbp
  go_enter Tryz.func61, Tryz.ntmps61
  go_wp2_with fail
  have HU0 := Lib.hid (UW.start w (s.length + 1) (madeCells #[.int .i64 0, .int .i64 0, .int .i64 0, .int .i64 0, .int .i64 0] ((s.length + 1) * 5)) (by simp [madeCells]) (by unfold maxLen; omega))
  generalize ((((w.alloc (.cells #[.slice none 0 0] 119)).alloc (.cells (madeCells #[.int .i64 0, .int .i64 0, .int .i64 0, .int .i64 0, .int .i64 0] ((s.length + 1) * 5)) 122)).alloc (.cells #[.slice (some ⟨w.heap.size + 1, 0, none⟩) 0 (s.length + 1)] 119)).alloc (.cells #[.int .i64 0, .int .i64 0, .int .i64 0, .int .i64 0, .int .i64 0] 122)).alloc (.cells #[.int .i64 0, .int .i64 0, .int .i64 0, .int .i64 0, .int .i64 0] 122) = w5 at HU0 ⊢
  obtain ⟨h, hh⟩ : ∃ h, w.heap.size = h := ⟨_, rfl⟩
  have HH := Lib.hid hh
  rw [hh] at HU0 ⊢
  clear hh mk
  have HBw5 := Lib.hid (show Below w.heap.size w w5 by rw [HH.out]; exact HU0.out.below)
  refine (HSt.out w5 (HT.out.below HBw5.out) (HS.out.below HBw5.out)).mono ?_
  rintro e w6 ⟨su, rfl, hB6, hO6⟩
  have HU6 := Lib.hid (HU0.out.later hB6)
  have HI6 := Lib.hid (show IntsIn w6 su S from ints_of_owns hO6)
  obtain ⟨sa, sc, rfl⟩ := slice_of_owns hO6
  have HO6 := Lib.hid hO6
  have HU6a := Lib.hid (show h + 5 ≤ w5.heap.size from HU0.out.hs)
  have HBw6 := Lib.hid (show Below w.heap.size w w6 by rw [HH.out]; exact HU6.out.below)
  clear hB6 hO6 HSt HU0 HBw5
  go_wp2_with fail
  rw [show h + 1 + 1 + 1 + 1 = h + 4 from rfl, show h + 1 + 1 + 1 = h + 3 from rfl, show h + 1 + 1 = h + 2 from rfl]
  have HO6' := Lib.hid (owns_mono HO6.out (base' := h + 5) HU6a.out)
  clear HO6 HI6
  go_loopw [25] (fun iv wr => ∃ (k a : Nat) (mv : Value) (L : List Ps) (p q : Ps), k ≤ S.length ∧ iv = .int .i64 ((k : Nat) : Int) ∧ UW w wr h mv L p q ∧ wr.ownsRow (h + 5) 3 1 (.slice sa S.length sc) S.length (S.flatMap nE) ∧ (S[k]? = some a ∨ (k = S.length ∧ a = s.length)) ∧ L = (PLs R s).take a ∧ p = ((a : Int), (bytesTo s a : Int), (unitsTo s a : Int), (k : Int), colsTo R s k)) (fun iv _ => S.length - (intOf iv).toNat)
  case atStart =>
    have h0 : S[0]? = some 0 ∨ (0 = S.length ∧ 0 = s.length) := by
      rw [HSe.out]
      by_cases he : s = []
      · subst he; exact .inr ⟨by rw [starts_nil]; rfl, rfl⟩
      · exact .inl (starts_zero _ he)
    exact ⟨0, 0, _, _, _, _, Nat.zero_le _, rfl, HU6.out, HO6'.out, h0, rfl, by simp [bytesTo, unitsTo, colsTo, lineG, wdG]⟩
  case round =>
    obtain ⟨k, a, mv, L, p, q, hk, rfl, hU, hO, ha, hL, hp⟩ := hrel
    have HUr := Lib.hid hU
    have HOr := Lib.hid hO
    have HL := Lib.hid hL
    have HP := Lib.hid hp
    have HBr := Lib.hid (show Below w.heap.size w wr by rw [HH.out]; exact hU.below)
    by_cases hlt : k < S.length
    · have hka : S[k]? = some a := ha.resolve_right (by omega)
      have HKa := Lib.hid hka
      have hkS : (starts (tabOf R) s)[k]? = some a := by rw [← HSe.out]; exact hka
      have hab := begAt_lt ((starts_mem (tabOf R) s a).1 (List.mem_of_getElem? hkS))
      have HIr := Lib.hid (show IntsIn wr (.slice sa S.length sc) S from ints_of_owns hO)
      obtain ⟨b0, off, _, hv, _, _, _, _, d0⟩ := int_cell HIr.out hka
      cases hv
      obtain ⟨b, hb⟩ : ∃ b, b = nxt (tabOf R) s a := ⟨_, rfl⟩
      have hgt : a < b := by rw [hb]; exact nxt_gt _ hab
      have hNx := start_next HTk.out hkS
      rw [← hb, ← HSe.out] at hNx
      have HNx := Lib.hid hNx
      have hble : b ≤ s.length := by
        rcases Nat.lt_or_ge (k + 1) S.length with h1 | h1
        · have h2 := hNx.1 h1
          rw [HSe.out] at h2
          exact Nat.le_of_lt (begAt_lt ((starts_mem (tabOf R) s b).1 (List.mem_of_getElem? h2)))
        · exact Nat.le_of_eq (hNx.2 (by omega))
      have HCl := Lib.hid (show (clus (tabOf R) s)[k]? = some ((s.drop a).take (b - a)) by
        have h1 := clus_get HTk.out hkS
        rw [show nx (tabOf R) (s.drop a) = b - a by rw [hb]; unfold nxt; omega] at h1
        exact h1)
      have r0 : (k : Int) < (S.length : Int) := by omega
      have e1 := IntWalk.i64_in ((k : Int) + 1) (by omega)
      have r2 : (0 : Int) ≤ (k : Int) + 1 := by omega
      have r3 : ((k : Int) + 1).toNat = k + 1 := by omega
      have HBn := Lib.hid hb
      clear hka hkS hU hO ha hL hp hNx hb
      by_cases hk1 : k + 1 < S.length
      case' neg =>
        have r1 : decide ((k : Int) + 1 < (S.length : Int)) = false := decide_eq_false (by omega)
        have hbs : ((s.length : Nat) : Int) = (b : Int) := by rw [HNx.out.2 (by omega)]
        go_upto_region 10 with fail
        clear hbs r1
      case' pos =>
        have r1 : (k : Int) + 1 < (S.length : Int) := by omega
        obtain ⟨_, _, _, hv, _, _, _, _, d1⟩ := int_cell HIr.out (HNx.out.1 hk1)
        cases hv
        go_upto_region 10 with fail
        clear d1 r1
      all_goals
        go_wp2_with fail
        clear d0 r0 e1 r2 r3
        go_loopw [12] (fun iv wr => ∃ (i : Nat) (mv : Value) (L : List Ps) (p q : Ps), a ≤ i ∧ i ≤ b ∧ iv = .int .i64 ((i : Nat) : Int) ∧ UW w wr h mv L p q ∧ wr.ownsRow (h + 5) 3 1 (.slice (some ⟨b0, off, none⟩) S.length sc) S.length (S.flatMap nE) ∧ L = (PLs R s).take i ∧ p = plc R s k a i ∧ (a < i → q.2.2.2.1 = (k : Int) + 1 ∧ q.2.2.2.2 = colsTo R s (k + 1))) (fun iv _ => b - (intOf iv).toNat)
        case atStart => exact ⟨a, mv, L, p, q, Nat.le_refl _, Nat.le_of_lt hgt, rfl, HUr.out, HOr.out, HL.out, by rw [HP.out]; unfold plc; rw [if_pos rfl], fun h => absurd h (by omega)⟩
        case round =>
          clear HL HP HUr HOr HBr HIr
          obtain ⟨i, mv, L, p, q, hai, hib, rfl, hU, hO, hL, hp, hq⟩ := hrel
          have HUr := Lib.hid hU
          have HOr := Lib.hid hO
          have HL := Lib.hid hL
          have HP := Lib.hid hp
          have HQ := Lib.hid hq
          obtain ⟨ma, mc, rfl⟩ := slice_of_owns hU.own
          have hLl : L.length = i := by rw [hL]; exact PLs_take_len (by omega)
          clear hO hL hp hq
          by_cases hlb : i < b
          · obtain ⟨x, hx⟩ : ∃ x, s[i]? = some x := ⟨s[i], List.getElem?_eq_getElem (by omega)⟩
            have HX := Lib.hid hx
            have HIx := Lib.hid (HOk.out.get hx)
            have x0 := row_cells (i := 0) hU.pm rfl
            have y0 := row_cells (i := 0) hU.pp rfl
            have y1 := row_cells (i := 1) hU.pp rfl
            have y2 := row_cells (i := 2) hU.pp rfl
            have y3 := row_cells (i := 3) hU.pp rfl
            have y4 := row_cells (i := 4) hU.pp rfl
            have hbs := hU.hs
            have hbig : (L.length + 1) * 40 ≤ 140737488355328 := by omega
            have s1 : (i : Int) < (b : Int) := by omega
            have HLl := Lib.hid hLl
            have hbs1 : h + 1 ≤ wr.heap.size := by omega
            clear hx hU hLl
            obtain ⟨p0, p1, p2, p3, p4⟩ := p
            go_upto_region 14 with (at_builtin; go_loud (refine wpList_app1 (base := h + 1) _ rfl (.tmp 49) (.tmp 51) _ rfl EP _ _ _ rfl HUr.out.own 1 1 (psE (p0, p1, p2, p3, p4)) rfl (by decide) rfl (psE_one _) hbig hbs1 ?_); intro g cp7 w7 ho7 hg7 hf7; have HU7 := Lib.hid (HUr.out.push ho7 hg7 hf7); have HO7 := Lib.hid (owns_store (owns_kept_types HUr.out.own HOr.out (by decide) hg7) (b := h + 2) (i := 0) (u := .slice (some ⟨g, 0, none⟩) (L.length + 1) cp7) (by omega)); have x7 := row_cells (i := 0) ((hg7.block (h + 2) (by omega) (fun e => by rcases HUr.out.sep (h + 2) e.symm with h1 | h1 <;> omega)).trans HUr.out.pm) rfl; have z7 := row_warm ((hg7.block (h + 2) (by omega) (fun e => by rcases HUr.out.sep (h + 2) e.symm with h1 | h1 <;> omega)).trans HUr.out.pm) 0; have hbs7 : h + 5 ≤ w7.heap.size := Nat.le_trans HUr.out.hs hg7.size; clear ho7 hg7 hf7)
            generalize w7.setCell ⟨h + 2, 0, none⟩ (.slice (some ⟨g, 0, none⟩) (L.length + 1) cp7) = w8 at HU7 HO7 ⊢
            have HPb := Lib.hid (show (p0 = (i : Int)) ∧ p1 = (bytesTo s i : Int) ∧ p2 = (unitsTo s i : Int) ∧ p3 = (if i = a then (k : Int) else (k : Int) + 1) ∧ p4 = colsTo R s k by
              have h1 := HP.out
              unfold plc at h1
              simpa only [Prod.mk.injEq] using h1)
            have hby := bytesTo_le s i (by omega)
            have hun := unitsTo_le s i (by omega)
            have hp0 := HPb.out.1
            have hp1 := HPb.out.2.1
            have hp2 := HPb.out.2.2.1
            have g0 := IntWalk.i64_in (p0 + 1) (by omega)
            have hsx := sizeN_rng x
            have g1 := IntWalk.i64_in (p1 + ((sizeN x : Nat) : Int)) (by omega)
            have g2 := IntWalk.i64_in (p2 + 1) (by omega)
            have g3 := IntWalk.i64_in (p2 + 1 + 1) (by omega)
            clear x0 y0 y1 y2 y3 y4 x7 z7 hp0 hp1 hp2 hby hun hbig hbs hbs1
            have y0 := row_cells (i := 0) HU7.out.pp rfl
            have z0 := row_warm HU7.out.pp 0
            go_upto_region 15 with fail
            have HU9 := Lib.hid (HU7.out.setP 0 (.int .i64 (p0 + 1)) (p0 + 1, p1, p2, p3, p4) rfl)
            have HO9 := Lib.hid (owns_store HO7.out (b := h + 3) (i := 0) (u := .int .i64 (p0 + 1)) (by omega))
            generalize w8.setCell ⟨h + 3, 0, none⟩ (.int .i64 (p0 + 1)) = w9 at HU9 HO9 ⊢
            clear y0 z0 g0 HU7 HO7
            have y1 := row_cells (i := 1) HU9.out.pp rfl
            have z1 := row_warm HU9.out.pp 1
            have HBw9 := Lib.hid (show Below w.heap.size w w9 by rw [HH.out]; exact HU9.out.below)
            obtain ⟨rb, roff, _, hv, _, _, _, hrb, l0⟩ := rune_cell (HS.out.below HBw9.out) HX.out
            cases hv
            have hrne : rb ≠ h + 3 := by
              obtain ⟨rb', roff', _, hv, _, _, _, hrb', _⟩ := rune_cell HS.out HX.out
              cases hv
              have := HH.out
              omega
            have k1 : (0 : Int) ≤ (i : Int) := by omega
            have k2 : (i : Int) < (s.length : Int) := by omega
            refine wp_region_held_drew (S := fun w' => w'.cell? ⟨rb, roff + i, none⟩ = some (.int .i32 x)) (by kernel_rfl) l0 (fun hHeld => ?_)
            refine hd_take 0 rfl (by kernel_rfl) (by kernel_rfl) (by kernel_rfl) (fun _ _ _ h => h) (by rfl) (by intro w hSw; (try dsimp only at hSw); go_simp; first | done | with_reducible rfl) hHeld ?_
            try simp only [Act.put, List.setIfInBounds_toArray, List.set_cons_zero, List.set_cons_succ]
            refine hd_take 2 rfl (by kernel_rfl) (by kernel_rfl) (by kernel_rfl) (fun _ _ _ h => h) (by rfl) (by intro w hSw; (try dsimp only at hSw); go_simp; first | done | with_reducible rfl) hHeld ?_
            try simp only [Act.put, List.setIfInBounds_toArray, List.set_cons_zero, List.set_cons_succ]
            refine hd_take 3 rfl (by kernel_rfl) (by kernel_rfl) (by kernel_rfl) (fun _ _ _ h => h) (by rfl) (by intro w hSw; (try dsimp only at hSw); go_simp; first | done | with_reducible rfl) hHeld ?_
            try simp only [Act.put, List.setIfInBounds_toArray, List.set_cons_zero, List.set_cons_succ]
            refine hd_take 4 rfl (by kernel_rfl) (by kernel_rfl) (by kernel_rfl) (fun _ _ _ h => h) (by rfl) (by intro w hSw; (try dsimp only at hSw); go_simp; first | done | with_reducible rfl) hHeld ?_
            try simp only [Act.put, List.setIfInBounds_toArray, List.set_cons_zero, List.set_cons_succ]
            refine hd_take 5 rfl (by kernel_rfl) (by kernel_rfl) (by kernel_rfl) (fun _ _ _ h => h) (by rfl) (by intro w hSw; (try dsimp only at hSw); go_simp; first | done | with_reducible rfl) hHeld ?_
            try simp only [Act.put, List.setIfInBounds_toArray, List.set_cons_zero, List.set_cons_succ]
            refine hd_two 1 6 (by kernel_rfl) rfl rfl (fun K hK => ?_) (fun K hK => ?_)
            case' refine_1 =>
              go_simp
              refine hK.out _ _ l0 (fun hHeld => ?_)
              clear hK K
              try simp only [Act.put, List.setIfInBounds_toArray, List.set_cons_zero, List.set_cons_succ]
              refine hd_step 6 (by kernel_rfl) rfl (fun K hK => ?_)
              go_simp
              go_at_call 108
              refine (usize_any x _).mono ?_
              rintro e w' ⟨rfl, rfl⟩
              go_wp2_with fail
              refine hK.out _ _ l0 (fun hHeld => ?_)
              clear hK K
              try simp only [Act.put, List.setIfInBounds_toArray, List.set_cons_zero, List.set_cons_succ]
            case' refine_2 =>
              go_simp
              go_at_call 108
              refine (usize_any x _).mono ?_
              rintro e w' ⟨rfl, rfl⟩
              go_wp2_with fail
              refine hK.out _ _ l0 (fun hHeld => ?_)
              clear hK K
              try simp only [Act.put, List.setIfInBounds_toArray, List.set_cons_zero, List.set_cons_succ]
              refine hd_step 1 (by kernel_rfl) rfl (fun K hK => ?_)
              go_simp
              refine hK.out _ _ l0 (fun hHeld => ?_)
              clear hK K
              try simp only [Act.put, List.setIfInBounds_toArray, List.set_cons_zero, List.set_cons_succ]
            all_goals
              refine hd_step 7 (by kernel_rfl) rfl (fun K hK => ?_)
              go_simp
              refine hK.out _ _ l0 (fun hHeld => ?_)
              clear hK K
              try simp only [Act.put, List.setIfInBounds_toArray, List.set_cons_zero, List.set_cons_succ]
              refine hd_take 8 rfl (by kernel_rfl) (by kernel_rfl) (by kernel_rfl) (fun _ _ _ h => h) (by rfl) (by intro w hSw; (try dsimp only at hSw); go_simp; first | done | with_reducible rfl) hHeld ?_
              try simp only [Act.put, List.setIfInBounds_toArray, List.set_cons_zero, List.set_cons_succ]
              refine hd_step 9 (by kernel_rfl) rfl (fun K hK => ?_)
              go_simp
              refine hK.out _ _ ((World.cell?_setCell_other _ _ _ _ (fun e => hrne (by injection e with e1; first | exact e1 | exact e1.symm))).trans l0) (fun hHeld => ?_)
              clear hK K
              try simp only [Act.put, List.setIfInBounds_toArray, List.set_cons_zero, List.set_cons_succ]
              refine wpAnyH_done (by kernel_rfl) ?_ _
              have hd10 : Below (w9.setCell ⟨h + 3, 1, none⟩ (.int .i64 (p1 + ((sizeN x : Nat) : Int)))).heap.size (w9.setCell ⟨h + 3, 1, none⟩ (.int .i64 (p1 + ((sizeN x : Nat) : Int)))) (w9.setCell ⟨h + 3, 1, none⟩ (.int .i64 (p1 + ((sizeN x : Nat) : Int)))).drew := below_dN (Below.refl _ _) 1
              have HU10 := Lib.hid ((HU9.out.setP 1 (.int .i64 (p1 + ((sizeN x : Nat) : Int))) (p0 + 1, p1 + ((sizeN x : Nat) : Int), p2, p3, p4) rfl).later hd10)
              have HO10 := Lib.hid (owns_stays (owns_store HO9.out (b := h + 3) (i := 1) (u := .int .i64 (p1 + ((sizeN x : Nat) : Int))) (by omega)) hd10)
              clear hd10 hHeld y1 z1 g1 HU9 HO9 l0 hrb hrne HBw9
              generalize (w9.setCell ⟨h + 3, 1, none⟩ (.int .i64 (p1 + ((sizeN x : Nat) : Int)))).drew = w10 at HU10 HO10 ⊢
              have y2 := row_cells (i := 2) HU10.out.pp rfl
              have z2 := row_warm HU10.out.pp 2
              go_upto_region 17 with fail
              have HU11 := Lib.hid (HU10.out.setP 2 (.int .i64 (p2 + 1)) (p0 + 1, p1 + ((sizeN x : Nat) : Int), p2 + 1, p3, p4) rfl)
              have HO11 := Lib.hid (owns_store HO10.out (b := h + 3) (i := 2) (u := .int .i64 (p2 + 1)) (by omega))
              generalize w10.setCell ⟨h + 3, 2, none⟩ (.int .i64 (p2 + 1)) = w11 at HU11 HO11 ⊢
              clear y2 z2 g2 HU10 HO10
              have HBw11 := Lib.hid (show Below w.heap.size w w11 by rw [HH.out]; exact HU11.out.below)
              obtain ⟨_, _, _, hv, _, _, _, _, l0⟩ := rune_cell (HS.out.below HBw11.out) HX.out
              cases hv
              have y2 := row_cells (i := 2) HU11.out.pp rfl
              have z2 := row_warm HU11.out.pp 2
              by_cases hx1 : x > 65535
              case' neg =>
                have q1 : decide (x > 65535) = false := decide_eq_false hx1
                have HUn := Lib.hid (show unN x = 1 by unfold unN; rw [if_neg (by omega)])
                clear hx1
                go_upto_region 19 with fail
                have HU12 := HU11
                have HO12 := HO11
                generalize w11 = w12 at HU12 HO12 ⊢
                have HP2 := Lib.hid (show p2 + 1 = (unitsTo s (i + 1) : Int) by rw [unitsTo_succ HX.out, HUn.out]; have := HPb.out.2.2.1; omega)
                generalize p2 + 1 = P2 at HU12 HP2
                clear HU11 HO11 HUn y2 z2 g3
              case' pos =>
                go_wp2_with fail
                refine (valid_any x w11).mono ?_
                rintro e w' ⟨rfl, rfl⟩
                by_cases hvx : validB x = true
                case' neg =>
                  rw [Bool.eq_false_iff.2 hvx]
                  have HUn := Lib.hid (show unN x = 1 by unfold unN; rw [if_neg (by intro h1; exact hvx h1.2)])
                  clear hvx hx1
                  go_upto_region 19 with fail
                  have HU12 := HU11
                  have HO12 := HO11
                  generalize w11 = w12 at HU12 HO12 ⊢
                  have HP2 := Lib.hid (show p2 + 1 = (unitsTo s (i + 1) : Int) by rw [unitsTo_succ HX.out, HUn.out]; have := HPb.out.2.2.1; omega)
                  generalize p2 + 1 = P2 at HU12 HP2
                  clear HU11 HO11 HUn y2 z2 g3
                case' pos =>
                  rw [hvx]
                  have HUn := Lib.hid (show unN x = 2 by unfold unN; rw [if_pos ⟨hx1, hvx⟩])
                  clear hvx hx1
                  go_upto_region 19 with fail
                  have HU12 := Lib.hid (HU11.out.setP 2 (.int .i64 (p2 + 1 + 1)) (p0 + 1, p1 + ((sizeN x : Nat) : Int), p2 + 1 + 1, p3, p4) rfl)
                  have HO12 := Lib.hid (owns_store HO11.out (b := h + 3) (i := 2) (u := .int .i64 (p2 + 1 + 1)) (by omega))
                  have HP2 := Lib.hid (show p2 + 1 + 1 = (unitsTo s (i + 1) : Int) by rw [unitsTo_succ HX.out, HUn.out]; have := HPb.out.2.2.1; omega)
                  generalize w11.setCell ⟨h + 3, 2, none⟩ (.int .i64 (p2 + 1 + 1)) = w12 at HU12 HO12 ⊢
                  generalize p2 + 1 + 1 = P2 at HU12 HP2
                  clear HU11 HO11 HUn y2 z2 g3
              all_goals
                obtain ⟨q0, qq1, qq2, q3, q4⟩ := q
                by_cases hia : i = a
                case' neg =>
                  have u1 : ((i : Int) == (a : Int)) = false := by simpa using (show ¬ (i : Int) = (a : Int) by omega)
                  have HQ3 := Lib.hid (HQ.out (by omega)).1
                  have HQ4 := Lib.hid (HQ.out (by omega)).2
                  have y3 := row_cells (i := 3) HU12.out.pp rfl
                  have z3 := row_warm HU12.out.pp 3
                  have n3 := row_cells (i := 3) HU12.out.pn rfl
                  clear hia
                  go_upto_region 12 with fail
                  go_wp2_with fail
                  go_roundw
                  case rel =>
                    have hpl : L ++ [(p0, p1, p2, p3, p4)] = (PLs R s).take (i + 1) := by
                      rw [PLs_take (by omega), ← HL.out, PL_at (k := k) (a := a) (by rw [← HSe.out]; exact HKa.out) hai (by omega) (fun b' hb' => by
                        rw [← HSe.out] at hb'
                        have h1 := HNx.out.1 (List.getElem?_eq_some_iff.1 hb').1
                        rw [h1] at hb'; cases hb'; exact hlb), ← HP.out]
                    have hps : (p0 + 1, p1 + ((sizeN x : Nat) : Int), P2, q3, p4) = plc R s k a (i + 1) := by
                      have h0 := HPb.out.1
                      have h1 := HPb.out.2.1
                      have h4 := HPb.out.2.2.2.2
                      have h2 := HP2.out
                      have h3 : q3 = (k : Int) + 1 := HQ3.out
                      unfold plc
                      rw [if_neg (by omega), bytesTo_succ HX.out, h0, h1, h2, h3, h4]
                      simp
                    exact ⟨i + 1, _, _, _, _, by omega, by omega, by go_num, HU12.out.setP 3 _ (p0 + 1, p1 + ((sizeN x : Nat) : Int), P2, q3, p4) rfl, owns_store HO12.out (by omega), hpl, hps, fun _ => ⟨HQ3.out, HQ4.out⟩⟩
                  case measure => simp [intOf] <;> omega
                case' pos =>
                  have u1 : ((i : Int) == (a : Int)) = true := by simp [hia]
                  have hp3 : p3 = (k : Int) := by have h1 := HPb.out.2.2.2.1; rw [if_pos hia] at h1; exact h1
                  have hp4 : p4 = colsTo R s k := HPb.out.2.2.2.2
                  subst hp3
                  have g5 := IntWalk.i64_in ((k : Int) + 1) (by omega)
                  have HIA := Lib.hid hia
                  obtain ⟨P1, hP1⟩ : ∃ P1, P1 = p1 + ((sizeN x : Nat) : Int) := ⟨_, rfl⟩
                  rw [← hP1] at HU12
                  have HP1 := Lib.hid hP1
                  have y0 := row_cells (i := 0) HU12.out.pp rfl
                  have y1 := row_cells (i := 1) HU12.out.pp rfl
                  have y2 := row_cells (i := 2) HU12.out.pp rfl
                  have y3 := row_cells (i := 3) HU12.out.pp rfl
                  have y4 := row_cells (i := 4) HU12.out.pp rfl
                  have v0 := row_warm HU12.out.pn 0
                  have v1 := row_warm HU12.out.pn 1
                  have v2 := row_warm HU12.out.pn 2
                  have v3 := row_warm HU12.out.pn 3
                  have v4 := row_warm HU12.out.pn 4
                  have n0 := row_cells (i := 0) HU12.out.pn rfl
                  have n1 := row_cells (i := 1) HU12.out.pn rfl
                  have n2 := row_cells (i := 2) HU12.out.pn rfl
                  have n3 := row_cells (i := 3) HU12.out.pn rfl
                  have n4 := row_cells (i := 4) HU12.out.pn rfl
                  clear hia hP1 hp4
                  go_upto_region 21 with fail
                  have HU13 := Lib.hid (((((HU12.out.setN 0 (.int .i64 (p0 + 1)) (p0 + 1, qq1, qq2, q3, q4) rfl).setN 1 (.int .i64 P1) (p0 + 1, P1, qq2, q3, q4) rfl).setN 2 (.int .i64 P2) (p0 + 1, P1, P2, q3, q4) rfl).setN 3 (.int .i64 (k : Int)) (p0 + 1, P1, P2, (k : Int), q4) rfl).setN 4 (.int .i64 p4) (p0 + 1, P1, P2, (k : Int), p4) rfl)
                  have HO13 := Lib.hid (owns_store (owns_store (owns_store (owns_store (owns_store HO12.out (b := h + 4) (i := 0) (u := .int .i64 (p0 + 1)) (by omega)) (b := h + 4) (i := 1) (u := .int .i64 P1) (by omega)) (b := h + 4) (i := 2) (u := .int .i64 P2) (by omega)) (b := h + 4) (i := 3) (u := .int .i64 (k : Int)) (by omega)) (b := h + 4) (i := 4) (u := .int .i64 p4) (by omega))
                  generalize ((((w12.setCell ⟨h + 4, 0, none⟩ (.int .i64 (p0 + 1))).setCell ⟨h + 4, 1, none⟩ (.int .i64 P1)).setCell ⟨h + 4, 2, none⟩ (.int .i64 P2)).setCell ⟨h + 4, 3, none⟩ (.int .i64 (k : Int))).setCell ⟨h + 4, 4, none⟩ (.int .i64 p4) = w13 at HU13 HO13 ⊢
                  clear y0 y1 y2 y3 y4 v0 v1 v2 v3 v4 n0 n1 n2 n3 n4 HU12 HO12
                  have n3 := row_cells (i := 3) HU13.out.pn rfl
                  have v3 := row_warm HU13.out.pn 3
                  go_upto_region 22 with fail
                  have HU14 := Lib.hid (HU13.out.setN 3 (.int .i64 ((k : Int) + 1)) (p0 + 1, P1, P2, (k : Int) + 1, p4) rfl)
                  have HO14 := Lib.hid (owns_store HO13.out (b := h + 4) (i := 3) (u := .int .i64 ((k : Int) + 1)) (by omega))
                  generalize w13.setCell ⟨h + 4, 3, none⟩ (.int .i64 ((k : Int) + 1)) = w14 at HU14 HO14 ⊢
                  clear n3 v3 HU13 HO13
                  have HBw14 := Lib.hid (show Below w.heap.size w w14 by rw [HH.out]; exact HU14.out.below)
                  obtain ⟨rb', roff', cap', hv, _, hcapl, _, hrb, l0⟩ := rune_cell (HS.out.below HBw14.out) HX.out
                  cases hv
                  have hlc : ((s.take b).drop a).length = b - a := by rw [List.length_drop, List.length_take]; omega
                  have HGof := Lib.hid (gof_any (HT.out.below HBw14.out) (runes_sub (HS.out.below HBw14.out) (i := a) (j := b) (by omega) hble hrb) ((HOk.out.take b).drop a) (by omega))
                  obtain ⟨G, hG⟩ : ∃ G, G = glOf R ((s.take b).drop a) := ⟨_, rfl⟩
                  rw [← hG] at HGof
                  have HGe := Lib.hid hG
                  have r0 : (0 : Int) ≤ (a : Int) := by omega
                  have r1 : (a : Int) ≤ (b : Int) := by omega
                  have r2 : (b : Int) ≤ (cap : Int) := by omega
                  have r3 : ((b : Int) - (a : Int)).toNat = b - a := by omega
                  have r4 : ((cap : Int) - (a : Int)).toNat = cap - a := by omega
                  have r5 : ¬ a = cap := by omega
                  clear hG hlc l0
                  go_wp2_with fail
                  refine HGof.out.mono ?_
                  rintro e w15 ⟨gu, rfl, hB15, hG15⟩
                  have HU15 := Lib.hid (HU14.out.later hB15)
                  have HO15 := Lib.hid (owns_stays HO14.out hB15)
                  have HG15 := Lib.hid hG15
                  obtain ⟨ga, gc, rfl, hg1, hg2⟩ := gly_shape hG15
                  unfold maxLen at hg2
                  have hGl : G.length ≤ 2 * s.length := by
                    have h1 := lineG_le R [(s.take b).drop a]
                    have h2 : lineG R [(s.take b).drop a] = G := by rw [HGe.out]; simp [lineG]
                    rw [h2] at h1
                    have h3 : ((s.take b).drop a).length ≤ s.length := by rw [List.length_drop, List.length_take]; omega
                    have h4 : ([(s.take b).drop a] : List (List Int)).flatten.length = ((s.take b).drop a).length := by simp
                    omega
                  have HGo := Lib.hid (show ∀ g ∈ G, g.2 = 1 ∨ g.2 = 2 from fun g hg => (lineG_ok R (LL := [(s.take b).drop a]) g (by rw [HGe.out] at hg; simpa [lineG] using hg)).1)
                  have hp4 : 0 ≤ p4 ∧ p4 ≤ 4 * s.length := by
                    have h1 := HPb.out.2.2.2.2
                    have h2 := wdG_rng (L := lineG R ((clus (tabOf R) s).take k)) (fun g hg => (lineG_ok R g hg).1)
                    have h3 := lineG_take_le R s k
                    have h4 : p4 = wdG (lineG R ((clus (tabOf R) s).take k)) := h1
                    omega
                  have HP4 := Lib.hid hp4
                  clear hB15 hG15 HGof HU14 HO14 HBw14 r0 r1 r2 r3 r4 r5 hp4
                  go_wp2_with fail
                  go_loopw [102] (fun iv wr2 => ∃ (m : Nat) (q' : Ps), m ≤ G.length ∧ iv = .int .i64 ((m : Nat) : Int) ∧ UW w wr2 h (.slice (some ⟨g, 0, none⟩) (L.length + 1) cp7) (L ++ [(p0, p1, p2, (k : Int), p4)]) (p0 + 1, P1, P2, (k : Int), p4) q' ∧ wr2.ownsRow (h + 5) 3 1 (.slice (some ⟨b0, off, none⟩) S.length sc) S.length (S.flatMap nE) ∧ Kept (fun j => j = h + 4) w15 wr2 ∧ q' = (p0 + 1, P1, P2, (k : Int) + 1, p4 + wdG (G.take m))) (fun iv _ => G.length - (intOf iv).toNat)
                  case atStart => exact ⟨0, _, Nat.zero_le _, rfl, HU15.out, HO15.out, Kept.refl _ _, by simp [wdG]⟩
                  case round =>
                    obtain ⟨m, q', hm, rfl, hU, hO, hK, hq⟩ := hrel
                    subst hq
                    have HUm := Lib.hid hU
                    have HOm := Lib.hid hO
                    have HKm := Lib.hid hK
                    have hwr := wdG_rng (L := G.take m) (fun g hg => HGo.out g (List.mem_of_mem_take hg))
                    rw [List.length_take] at hwr
                    have hp4 := HP4.out
                    clear hO hK
                    by_cases hlt : m < G.length
                    · obtain ⟨y, hy⟩ : ∃ y, G[m]? = some y := ⟨G[m], List.getElem?_eq_getElem hlt⟩
                      have hyo := HGo.out y (List.mem_of_getElem? hy)
                      have HN := Lib.hid (show wdG (G.take (m + 1)) = wdG (G.take m) + y.2 by rw [take_snoc hy, wdG_app, wdG_one])
                      obtain ⟨y1, y2⟩ := y
                      have hy2 : y2 = 1 ∨ y2 = 2 := hyo
                      obtain ⟨gb, goff, gcap, hv, hgb, hgne, d0, d1⟩ := gly_apart HG15.out HU15.out.pn (fun j u hu => by
                        match j with
                        | 0 => exact ⟨_, (Option.some.inj hu).symm⟩
                        | 1 => exact ⟨_, (Option.some.inj hu).symm⟩
                        | 2 => exact ⟨_, (Option.some.inj hu).symm⟩
                        | 3 => exact ⟨_, (Option.some.inj hu).symm⟩
                        | 4 => exact ⟨_, (Option.some.inj hu).symm⟩
                        | j + 5 => simp at hu) hy
                      cases hv
                      have d0 := HKm.out.cell d0 hgne
                      have d1 := HKm.out.cell d1 hgne
                      obtain ⟨W0, hW0⟩ : ∃ W0, W0 = wdG (G.take m) := ⟨_, rfl⟩
                      rw [← hW0] at HUm hwr HN
                      have e2 := IntWalk.i64_in (p4 + W0 + y2) (by omega)
                      have e3 := IntWalk.i64_in ((m : Int) + 1) (by omega)
                      have s2 : (m : Int) < (G.length : Int) := by omega
                      clear hy hyo hU hwr hlt hW0
                      go_upto_region 25 with fail
                      have hb := below1 wr (.cells #[.string y1, .int .i64 y2] 111)
                      have g1 := row_cells (i := 1) (heap_alloc_new wr (.cells #[.string y1, .int .i64 y2] 111)) rfl
                      have HUa := Lib.hid (HUm.out.later hb)
                      have HOa := Lib.hid (owns_stays HOm.out hb)
                      have HKa := Lib.hid (HKm.out.trans (Kept.of_below hb))
                      generalize wr.alloc (.cells #[.string y1, .int .i64 y2] 111) = w16 at g1 HUa HOa HKa ⊢
                      have n4 := row_cells (i := 4) HUa.out.pn rfl
                      have v4 := row_warm HUa.out.pn 4
                      clear hb d0 d1 HUm HOm HKm
                      go_wp2_with fail
                      go_roundw
                      case rel => exact ⟨m + 1, _, by omega, by go_num, HUa.out.setN 4 (.int .i64 (p4 + W0 + y2)) (p0 + 1, P1, P2, (k : Int) + 1, p4 + W0 + y2) rfl, owns_store HOa.out (by omega), HKa.out.trans (kept_setCell _ _ _ rfl), by rw [HN.out]; simp [Int.add_assoc]⟩
                      case measure => simp [intOf] <;> omega
                    · have hme : m = G.length := by omega
                      subst hme
                      rw [List.take_length] at HUm hU
                      have s2 : decide ((G.length : Int) < (G.length : Int)) = false := by simp
                      have n3 := row_cells (i := 3) hU.pn rfl
                      have y3 := row_cells (i := 3) hU.pp rfl
                      have z3 := row_warm hU.pp 3
                      clear hU hwr hlt
                      go_upto_region 12 with fail
                      go_wp2_with fail
                      go_roundw
                      case rel =>
                        have hpl : L ++ [(p0, p1, p2, (k : Int), p4)] = (PLs R s).take (i + 1) := by
                          rw [PLs_take (by omega), ← HL.out, PL_at (k := k) (a := a) (by rw [← HSe.out]; exact HKa.out) hai (by omega) (fun b' hb' => by
                            rw [← HSe.out] at hb'
                            have h1 := HNx.out.1 (List.getElem?_eq_some_iff.1 hb').1
                            rw [h1] at hb'; cases hb'; exact hlb), ← HP.out]
                        have hps : (p0 + 1, P1, P2, (k : Int) + 1, p4) = plc R s k a (i + 1) := by
                          have h0 := HPb.out.1
                          have h1 := HPb.out.2.1
                          have h4 := HPb.out.2.2.2.2
                          have h2 := HP2.out
                          have h5 := HP1.out
                          unfold plc
                          rw [if_neg (by omega), bytesTo_succ HX.out, h5, h0, h1, h2, h4]
                          simp
                        have hq4 : p4 + wdG G = colsTo R s (k + 1) := by
                          rw [colsTo_succ R HCl.out, ← List.drop_take, ← HGe.out]
                          have h4 := HPb.out.2.2.2.2
                          rw [h4]
                        exact ⟨i + 1, _, _, _, _, by omega, by omega, by go_num, HUm.out.setP 3 _ (p0 + 1, P1, P2, (k : Int) + 1, p4) rfl, owns_store HOm.out (by omega), hpl, hps, fun _ => ⟨rfl, hq4⟩⟩
                      case measure => simp [intOf] <;> omega
          · have hie : i = b := by omega
            subst hie
            have s1 : decide ((i : Int) < (i : Int)) = false := decide_eq_false (by omega)
            have HQ3 := Lib.hid (HQ.out hgt).1
            have HQ4 := Lib.hid (HQ.out hgt).2
            obtain ⟨p0, p1, p2, p3, p4⟩ := p
            obtain ⟨q0, qq1, qq2, q3, q4⟩ := q
            have n4 := row_cells (i := 4) hU.pn rfl
            have y4 := row_cells (i := 4) hU.pp rfl
            have z4 := row_warm hU.pp 4
            clear hlb hU
            have e1 := IntWalk.i64_in ((k : Int) + 1) (by omega)
            go_wp2_with fail
            go_roundw
            case rel =>
              have hpe : (p0, p1, p2, p3, q4) = ((i : Int), (bytesTo s i : Int), (unitsTo s i : Int), ((k + 1 : Nat) : Int), colsTo R s (k + 1)) := by
                have h1 := HP.out
                unfold plc at h1
                rw [if_neg (by omega)] at h1
                simp only [Prod.mk.injEq] at h1
                have h2 : q4 = colsTo R s (k + 1) := HQ4.out
                rw [h1.1, h1.2.1, h1.2.2.1, h1.2.2.2.1, h2]
                simp
              have hn : S[k + 1]? = some i ∨ (k + 1 = S.length ∧ i = s.length) := by
                rcases Nat.lt_or_ge (k + 1) S.length with h1 | h1
                · exact .inl (HNx.out.1 h1)
                · exact .inr ⟨by omega, HNx.out.2 (by omega)⟩
              exact ⟨k + 1, i, _, _, _, _, by omega, by go_num, HUr.out.setP 4 _ (p0, p1, p2, p3, q4) rfl, owns_store HOr.out (by omega), hn, HL.out, hpe⟩
            case measure => simp [intOf] <;> omega
    · have hke : k = S.length := by omega
      have hae : a = s.length := by
        rcases ha with h1 | h1
        · have := (List.getElem?_eq_some_iff.1 h1).1; omega
        · exact h1.2
      subst hae
      have s1 : decide ((k : Int) < (S.length : Int)) = false := decide_eq_false (by omega)
      obtain ⟨ma, mc, rfl⟩ := slice_of_owns hU.own
      have hLl : L.length = s.length := by rw [hL]; exact PLs_take_len (by omega)
      have x0 := row_cells (i := 0) hU.pm rfl
      have y0 := row_cells (i := 0) hU.pp rfl
      have y1 := row_cells (i := 1) hU.pp rfl
      have y2 := row_cells (i := 2) hU.pp rfl
      have y3 := row_cells (i := 3) hU.pp rfl
      have y4 := row_cells (i := 4) hU.pp rfl
      have hbig : (L.length + 1) * 40 ≤ 140737488355328 := by omega
      have hbs := hU.hs
      have hbs1 : h + 1 ≤ wr.heap.size := by omega
      obtain ⟨p0, p1, p2, p3, p4⟩ := p
      have HLl := Lib.hid hLl
      clear hlt hU hO ha hL hp hLl
      go_upto_region 31 with (at_builtin; go_loud (refine wpList_app1 (base := h + 1) _ rfl (.tmp 121) (.tmp 123) _ rfl EP _ _ _ rfl HUr.out.own 1 1 (psE (p0, p1, p2, p3, p4)) rfl (by decide) rfl (psE_one _) hbig hbs1 ?_); intro g cp7 w7 ho7 hg7 hf7; have HU7 := Lib.hid (HUr.out.push ho7 hg7 hf7); have x7 := row_cells (i := 0) ((hg7.block (h + 2) (by omega) (fun e => by rcases HUr.out.sep (h + 2) e.symm with h1 | h1 <;> omega)).trans HUr.out.pm) rfl; have z7 := row_warm ((hg7.block (h + 2) (by omega) (fun e => by rcases HUr.out.sep (h + 2) e.symm with h1 | h1 <;> omega)).trans HUr.out.pm) 0; have hbs7 : h + 5 ≤ w7.heap.size := Nat.le_trans HUr.out.hs hg7.size; clear ho7 hg7 hf7)
      generalize w7.setCell ⟨h + 2, 0, none⟩ (.slice (some ⟨g, 0, none⟩) (L.length + 1) cp7) = w8 at HU7 ⊢
      clear x0 y0 y1 y2 y3 y4 x7 z7 hbs7
      have r0 := row_cells (i := 0) HU7.out.r rfl
      have f0 := row_warm HU7.out.r 0
      have m0 := row_cells (i := 0) HU7.out.pm rfl
      go_wp2_with fail
      refine ret_cell1 (ad := ⟨h, 0, none⟩) rfl rfl (run_loadVar_mid _ _ 0 _ [.slice (some ⟨g, 0, none⟩) (L.length + 1) cp7] _ (range1 (by go_simp)) Tryz.underlying119 rfl (by kernel_rfl)) rfl ?_
      have hkc : k = (clus (tabOf R) s).length := by rw [hke, HSe.out]; exact starts_clus HTk.out
      have hpe : (p0, p1, p2, p3, p4) = PL R s s.length := by rw [PL_end HTk.out, ← hkc]; exact HP.out
      have hLe : L ++ [(p0, p1, p2, p3, p4)] = PLs R s := by
        have h1 := PLs_take (R := R) (s := s) (i := s.length) (Nat.le_refl _)
        rw [List.take_of_length_le (by rw [PLs_len]; exact Nat.le_refl _)] at h1
        rw [h1, hpe, HL.out]
      have hBB : Below w.heap.size w (w8.setCell ⟨h, 0, none⟩ (.slice (some ⟨g, 0, none⟩) (L.length + 1) cp7)) := by rw [HH.out]; exact HU7.out.below.setCell (Nat.le_refl _) _
      have ho := owns_store HU7.out.own (b := h) (i := 0) (u := .slice (some ⟨g, 0, none⟩) (L.length + 1) cp7) (by omega)
      rw [hLe] at ho
      exact ⟨_, rfl, hBB, _, rfl, rd_of_owns ho⟩
end
end Go.Proofs.YthlpelfogplomaaGreat
