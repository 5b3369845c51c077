/- Joined texts: TrieF. -/
import Derived.Deep.RegionHeld3
import Derived.Test.YtkeainhjghdfcaaGreatCwad

/- trie.find at pairs. -/
namespace Go.Proofs.YtkeainhjghdfcaaGreat
open Go.RowKit


theorem results_cell_tmp {P : Program} {fn : Func} {t u : Tmp} {ty : TypeId} (h : fn.results = #[.cell t ty, .tmp u]) (tmps : Array Value) (w : World) {ad : Addr} {v : Value} (ht : tmps.getD t undef = .pointer (some ad)) (hl : (loadVar ty ad).run P w = .ok v w) :
    (results fn tmps).run P w = .ok (.tuple #[v, tmps.getD u undef]) w := by
  have ht' : tmps[t]?.getD undef = .pointer (some ad) := by simpa using ht
  simp [results, h, ht', hl, asAddr, Result.andThen]
theorem ret_cell_tmp {P : Program} {fn : Func} {R : Ending → World → Prop} {a : Act} {w : World} {t u : Tmp} {ty : TypeId} {ad : Addr} {v x : Value} (h : fn.results = #[.cell t ty, .tmp u]) (ht : a.tmps.getD t undef = .pointer (some ad)) (hx : a.tmps.getD u undef = x) (hl : (loadVar ty ad).run P w = .ok v w) (hd : a.defers = []) (hR : R (.returned (.tuple #[v, x])) w) : bodyPost P fn R .ret a w :=
  bodyPost_ret (results_cell_tmp h a.tmps w ht hl) hd (by rw [hx]; exact hR)
theorem range2 {w : World} {b : Nat} {u v : Value} (h0 : w.cell? ⟨b, 0, none⟩ = some u) (h1 : w.cell? ⟨b, 1, none⟩ = some v) : w.rangeAt b 0 [u, v] := fun j x hx => by
  match j with
  | 0 => simp at hx; subst hx; exact h0
  | 1 => simp at hx; subst hx; exact h1
  | j + 2 => simp at hx
set_option maxRecDepth 100000 in
set_option maxHeartbeats 1000000 in
theorem find_pair (v : Value) (l : List (Pc Pr)) (z1 z2 i last0 : Int) (w : World) (hR : Rs w.heap.size w ppenc 4 v l) (hi : 0 ≤ i) (hb : ∀ p ∈ l, p.f ≤ 4611686018427387904) :
    Calls Tryz.prog 115 #[v, .agg #[.int .i32 z1, .int .i32 z2], .int .i64 i, .int .i64 last0] w fun e w' => e = .returned (.tuple #[aggP (fndP (z1, z2) i l last0).1, .int .i64 (fndP (z1, z2) i l last0).2]) ∧ Below w.heap.size w w' := by
  obtain ⟨a, cap, rfl, hcap, hmax, _, hcells⟩ := hR
  unfold maxLen at hmax
  have HC := Lib.hid hcells
  have HBd := Lib.hid hb
  clear hcells hb
  go_enter Tryz.func115, Tryz.ntmps115
  go_wp2
  have z0 : ((w.alloc (.cells #[.int .i32 z1, .int .i32 z2] 125)).alloc (.cells #[.int .i32 0, .int .i32 0] 125)).cell? ⟨w.heap.size, 0, none⟩ = some (.int .i32 z1) := by go_simp
  have z1' : ((w.alloc (.cells #[.int .i32 z1, .int .i32 z2] 125)).alloc (.cells #[.int .i32 0, .int .i32 0] 125)).cell? ⟨w.heap.size, 1, none⟩ = some (.int .i32 z2) := by go_simp
  have r0 : ((w.alloc (.cells #[.int .i32 z1, .int .i32 z2] 125)).alloc (.cells #[.int .i32 0, .int .i32 0] 125)).heap[w.heap.size + 1]? = some (.cells #[.int .i32 0, .int .i32 0] 125 (0, 0)) := by
    have := heap_alloc_new (w.alloc (.cells #[.int .i32 z1, .int .i32 z2] 125)) (.cells #[.int .i32 0, .int .i32 0] 125)
    rwa [show (w.alloc (.cells #[.int .i32 z1, .int .i32 z2] 125)).heap.size = w.heap.size + 1 by simp] at this
  have hW := ((Below.refl w.heap.size w).alloc (Nat.le_refl _) (.cells #[.int .i32 z1, .int .i32 z2] 125)).alloc (by simp) (.cells #[.int .i32 0, .int .i32 0] 125)
  have hWs : ((w.alloc (.cells #[.int .i32 z1, .int .i32 z2] 125)).alloc (.cells #[.int .i32 0, .int .i32 0] 125)).heap.size = w.heap.size + 2 := by simp
  generalize (w.alloc (.cells #[.int .i32 z1, .int .i32 z2] 125)).alloc (.cells #[.int .i32 0, .int .i32 0] 125) = W at z0 z1' r0 hW hWs ⊢
  have Z0 := Lib.hid z0
  have Z1 := Lib.hid z1'
  have R0 := Lib.hid r0
  have HW := Lib.hid hW
  clear z0 z1' r0 hW
  go_loopw [3, 11, 14, 18, 35] (fun lv _ iv _ _ wr => ∃ (k : Nat) (last : Int), k ≤ l.length ∧ iv = .int .i64 ((k : Nat) : Int) ∧ lv = .int .i64 last ∧ Below W.heap.size W wr ∧ fndP (z1, z2) i (l.drop k) last = fndP (z1, z2) i l last0) (fun _ _ iv _ _ _ => l.length - (intOf iv).toNat)
  case atStart => exact ⟨0, last0, Nat.zero_le _, rfl, rfl, .refl _ _, rfl⟩
  case round =>
    obtain ⟨k, last, hk, rfl, rfl, hB, hE⟩ := hrel
    have HB := Lib.hid hB
    have HE := Lib.hid hE
    have hbs := hB.size
    have c0 : wr.cell? ⟨w.heap.size, 0, none⟩ = some (.int .i32 z1) := cell_later hB Z0.out
    have c1 : wr.cell? ⟨w.heap.size, 1, none⟩ = some (.int .i32 z2) := cell_later hB Z1.out
    have rr : wr.heap[w.heap.size + 1]? = some (.cells #[.int .i32 0, .int .i32 0] 125 (0, 0)) := (hB.block _ (by omega)).trans R0.out
    have e0 : wr.cell? ⟨w.heap.size + 1, 0, none⟩ = some (.int .i32 0) := by rw [cell_of_row _ _ 0 _ _ _ rr]; rfl
    have e1' : wr.cell? ⟨w.heap.size + 1, 1, none⟩ = some (.int .i32 0) := by rw [cell_of_row _ _ 1 _ _ _ rr]; rfl
    have g0 : wr.frozen? ⟨w.heap.size + 1, 0, none⟩ = false := by unfold World.frozen?; rw [rr]; simp
    have g1 : wr.frozen? ⟨w.heap.size + 1, 1, none⟩ = false := by unfold World.frozen?; rw [rr]; simp
    clear hB hE rr
    by_cases hlt : k < l.length
    · obtain ⟨p, hp⟩ : ∃ p, l[k]? = some p := ⟨l[k], List.getElem?_eq_getElem hlt⟩
      obtain ⟨b, off, rfl, hbl, hcq⟩ := HC.out (by omega)
      have hbW := below_trans' HW.out HB.out
      have d0 : wr.cell? ⟨b, off + k * 4, none⟩ = some (.int .i64 p.f) := cell_later hbW (flat_cell ppenc_len hcq hp 0 rfl)
      have d1 : wr.cell? ⟨b, off + k * 4 + 1, none⟩ = some (.int .i64 p.t) := cell_later hbW (flat_cell ppenc_len hcq hp 1 rfl)
      have d2 : wr.cell? ⟨b, off + k * 4 + 2, none⟩ = some (.int .i32 p.v.1) := cell_later hbW (flat_cell ppenc_len hcq hp 2 rfl)
      have d3 : wr.cell? ⟨b, off + k * 4 + 3, none⟩ = some (.int .i32 p.v.2) := cell_later hbW (flat_cell ppenc_len hcq hp 3 rfl)
      have hpb := HBd.out p (List.mem_of_getElem? hp)
      have HD := Lib.hid (fndP_drop (z := (z1, z2)) (i := i) (last := last) hp)
      clear hcq hp hbW
      by_cases h1 : p.f ≤ i
      · by_cases h2 : i ≤ p.t
        · have HR := Lib.hid (show fndP (z1, z2) i l last0 = (p.v, min p.t last) by rw [← HE.out, HD.out, if_pos ⟨h1, h2⟩])
          go_wp2
          have s1 : (wr.alloc (.cells #[.int .i64 p.f, .int .i64 p.t, .int .i32 p.v.1, .int .i32 p.v.2] 127)).cell? ⟨wr.heap.size, 1, none⟩ = some (.int .i64 p.t) := by go_simp
          have s2 : (wr.alloc (.cells #[.int .i64 p.f, .int .i64 p.t, .int .i32 p.v.1, .int .i32 p.v.2] 127)).cell? ⟨wr.heap.size, 2, none⟩ = some (.int .i32 p.v.1) := by go_simp
          have s3 : (wr.alloc (.cells #[.int .i64 p.f, .int .i64 p.t, .int .i32 p.v.1, .int .i32 p.v.2] 127)).cell? ⟨wr.heap.size, 3, none⟩ = some (.int .i32 p.v.2) := by go_simp
          have hlr : w.heap.size + 1 < wr.heap.size := World.block_lt_of_cell? wr _ e0
          have t0 : (wr.alloc (.cells #[.int .i64 p.f, .int .i64 p.t, .int .i32 p.v.1, .int .i32 p.v.2] 127)).cell? ⟨w.heap.size + 1, 0, none⟩ = some (.int .i32 0) := (World.cell?_of_block (Below.heap_alloc _ _ _ hlr)).trans e0
          have t1 : (wr.alloc (.cells #[.int .i64 p.f, .int .i64 p.t, .int .i32 p.v.1, .int .i32 p.v.2] 127)).cell? ⟨w.heap.size + 1, 1, none⟩ = some (.int .i32 0) := (World.cell?_of_block (Below.heap_alloc _ _ _ hlr)).trans e1'
          have y0 : (wr.alloc (.cells #[.int .i64 p.f, .int .i64 p.t, .int .i32 p.v.1, .int .i32 p.v.2] 127)).frozen? ⟨w.heap.size + 1, 0, none⟩ = false := (World.frozen?_of_block (a := ⟨w.heap.size + 1, 0, none⟩) (Below.heap_alloc _ _ _ hlr)).trans g0
          have y1 : (wr.alloc (.cells #[.int .i64 p.f, .int .i64 p.t, .int .i32 p.v.1, .int .i32 p.v.2] 127)).frozen? ⟨w.heap.size + 1, 1, none⟩ = false := (World.frozen?_of_block (a := ⟨w.heap.size + 1, 1, none⟩) (Below.heap_alloc _ _ _ hlr)).trans g1
          have HB3 := Lib.hid (below_trans' HW.out (below_trans' HB.out ((Below.refl wr.heap.size wr).alloc (Nat.le_refl _) (.cells #[.int .i64 p.f, .int .i64 p.t, .int .i32 p.v.1, .int .i32 p.v.2] 127))))
          have hne : ¬ w.heap.size + 1 = wr.heap.size := by omega
          clear d0 d1 d2 d3 e0 e1' g0 g1 c0 c1 h1 h2
          generalize wr.alloc (.cells #[.int .i64 p.f, .int .i64 p.t, .int .i32 p.v.1, .int .i32 p.v.2] 127) = W2 at s1 s2 s3 t0 t1 y0 y1 HB3 ⊢
          go_region_held3 (fun w' => w'.cell? ⟨wr.heap.size, 1, none⟩ = some (.int .i64 p.t) ∧ w'.cell? ⟨wr.heap.size, 2, none⟩ = some (.int .i32 p.v.1) ∧ w'.cell? ⟨wr.heap.size, 3, none⟩ = some (.int .i32 p.v.2)) (first | exact ⟨(World.cell?_setCell_other _ _ _ _ (fun e => hne (congrArg Addr.block e))).trans ((World.cell?_setCell_other _ _ _ _ (fun e => hne (congrArg Addr.block e))).trans s1), (World.cell?_setCell_other _ _ _ _ (fun e => hne (congrArg Addr.block e))).trans ((World.cell?_setCell_other _ _ _ _ (fun e => hne (congrArg Addr.block e))).trans s2), (World.cell?_setCell_other _ _ _ _ (fun e => hne (congrArg Addr.block e))).trans ((World.cell?_setCell_other _ _ _ _ (fun e => hne (congrArg Addr.block e))).trans s3)⟩ | go_keep) (fail)
          all_goals go_wp2_with fail
          all_goals refine ret_cell_tmp (x := .int .i64 (min p.t last)) (ad := ⟨w.heap.size + 1, 0, none⟩) rfl rfl rfl (run_loadVar_mid _ _ 0 _ [.int .i32 p.v.1, .int .i32 p.v.2] _ (range2 (by go_simp) (by go_simp)) Tryz.underlying125 rfl (by kernel_rfl)) rfl ⟨by rw [HR.out]; rfl, below_dN ((HB3.out.setCell (by simp) _).setCell (by simp) _) 1⟩
        · have HN := Lib.hid (show fndP (z1, z2) i (l.drop (k + 1)) last = fndP (z1, z2) i l last0 by rw [← HE.out, HD.out, if_neg (fun h => h2 h.2), if_neg (fun h => by omega)])
          go_wp2
          go_roundw
          case rel => exact ⟨k + 1, last, by omega, by go_num, rfl, HB.out.alloc hbs _, HN.out⟩
          case measure => simp [intOf]; omega
      · by_cases h2 : p.f ≤ last
        · have HN := Lib.hid (show fndP (z1, z2) i (l.drop (k + 1)) (p.f - 1) = fndP (z1, z2) i l last0 by rw [← HE.out, HD.out, if_neg (fun h => h1 h.1), if_pos ⟨by omega, h2⟩])
          have q1 := IntWalk.i64_in (p.f - 1) (by omega)
          have h3 : i < p.f := by omega
          clear h1
          go_wp2
          go_roundw
          case rel => exact ⟨k + 1, p.f - 1, by omega, by go_num, rfl, HB.out.alloc hbs _, HN.out⟩
          case measure => simp [intOf]; omega
        · have HN := Lib.hid (show fndP (z1, z2) i (l.drop (k + 1)) last = fndP (z1, z2) i l last0 by rw [← HE.out, HD.out, if_neg (fun h => h1 h.1), if_neg (fun h => h2 h.2)])
          have h3 : i < p.f := by omega
          clear h1
          go_wp2
          go_roundw
          case rel => exact ⟨k + 1, last, by omega, by go_num, rfl, HB.out.alloc hbs _, HN.out⟩
          case measure => simp [intOf]; omega
    · have HR := Lib.hid (show fndP (z1, z2) i l last0 = ((z1, z2), last) by rw [← HE.out, List.drop_of_length_le (by omega)]; rfl)
      have HB3 := Lib.hid (below_trans' HW.out HB.out)
      go_wp2_with fail
      all_goals refine ret_cell_tmp (x := .int .i64 last) (ad := ⟨w.heap.size + 1, 0, none⟩) rfl rfl rfl (run_loadVar_mid _ _ 0 _ [.int .i32 z1, .int .i32 z2] _ (range2 (by go_simp) (by go_simp)) Tryz.underlying125 rfl (by kernel_rfl)) rfl ⟨by rw [HR.out]; rfl, ((HB3.out.setCell (by simp) _).setCell (by simp) _)⟩
end Go.Proofs.YtkeainhjghdfcaaGreat
