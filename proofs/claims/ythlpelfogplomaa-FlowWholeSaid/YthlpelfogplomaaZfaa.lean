/- Joined texts: FlowH. -/
import Derived.Test.YthlpelfogplomaaZeaa
import Derived.Test.YthlpelfogplomaaZcaa
/- FlowWhole: its walk. -/
namespace Go.Proofs.Ythlpelfogplomaa
open Go.RowKit

theorem flat_upto (LL : List (List Int)) (e : Nat) : LL.flatten.take (szL (LL.take e)) = (LL.take e).flatten := by
  have h : LL.flatten = (LL.take e).flatten ++ (LL.drop e).flatten := by rw [← List.flatten_append, List.take_append_drop]
  rw [h, szL_flat, List.take_left]
theorem flat_part {LL : List (List Int)} {c : Nat} {cl : List Int} (h : LL[c]? = some cl) : (LL.flatten.take (szL (LL.take (c + 1)))).drop (szL (LL.take c)) = cl := by
  have e : LL.take (c + 1) = LL.take c ++ [cl] := by rw [List.take_add_one, h]; rfl
  rw [flat_upto, e, List.flatten_append, szL_flat, List.drop_left]
  simp
section
variable {R : List Rw} {s : List Int}
theorem szL_bd (H : (tabOf R).Ok) : ∀ {e : Nat}, e ≤ (clus (tabOf R) s).length → szL ((clus (tabOf R) s).take e) = bd (starts (tabOf R) s) s.length e
  | 0, _ => by rw [bd_zero bds_of]; rfl
  | e + 1, h => by
    obtain ⟨c, hc⟩ : ∃ c, (clus (tabOf R) s)[e]? = some c := ⟨_, List.getElem?_eq_getElem (by omega)⟩
    rw [szL_snoc _ hc, szL_bd H (by omega), (clus_bd H hc).2]
theorem isB_row (H : (tabOf R).Ok) {e : Nat} (he : e ≤ (clus (tabOf R) s).length) : isB (tabOf R) s (szL ((clus (tabOf R) s).take e)) = true := by
  rw [szL_bd H he]
  unfold isB
  rw [← starts_clus H] at he
  rcases Nat.lt_or_ge e (starts (tabOf R) s).length with h | h
  · obtain ⟨a, ha⟩ := at_some h
    rw [bd_some ha, (starts_mem (tabOf R) s a).1 (List.mem_of_getElem? ha)]
    simp
  · have : e = (starts (tabOf R) s).length := by omega
    rw [this, bd_end]
    simp
end
theorem hd_not {P : Program} {md : Region.Mode} {l : List Oper} {Q : Exit → Act → World → Prop} {S : World → Prop} {fuel : Nat} {listed : Array Bool} {a : Act} {w : World} (i : Nat) {oi : Oper} (hi : l[i]? = some oi)
    (hs : Region.noSelect l.toArray = true) (hf : Region.free md l.toArray listed i = true) (hr : (Region.ready md l.toArray listed).contains i = true)
    (hQ : ∀ c a w, Q (.panic c) (a.put oi.dst undef) w → Q (.panic c) a w) (hw : Region.wanted oi (yielded l.toArray a.tmps) = false) (hS : S w)
    (h : wpAnyH P md l.toArray Q S fuel (listed.setIfInBounds i true) (a.put oi.dst undef) w) : wpAnyH P md l.toArray Q S (fuel + 1) listed a w :=
  wpAnyH_take (by simpa using hi) hs hf hr hQ (.inr ⟨hw, rfl⟩) hS h
set_option maxRecDepth 100000 in
set_option maxHeartbeats 8000000 in
theorem flowWhole_any (v0 : Value) (l0 : List Int) (cols : Int) (w : World) (hl : RunesIn w v0 l0) (hok : RunesOk l0) :
    Calls Try.prog 3 #[v0, .int .i64 cols] w fun e w' => e = .returned (.bool true) ∧ Below w.heap.size w w' := by
  obtain ⟨R, HFc, hrows⟩ := apiRows_any
  have HF := Lib.hid HFc
  have HRows := Lib.hid hrows
  have HTk := Lib.hid HFc.seg.tab
  have HFew := Lib.hid (few_any hl 60)
  clear HFc hrows hl
  obtain ⟨l, hll⟩ : ∃ l, l = l0.take 60 := ⟨_, rfl⟩
  rw [← hll] at HFew
  have HOk := Lib.hid (show RunesOk l by rw [hll]; exact hok.take 60)
  have hlen : l.length ≤ 60 := by rw [hll, List.length_take]; omega
  clear hll hok
  go_enter Try.func3, Try.ntmps3
  go_wp2_with fail
  refine HFew.out.mono ?_
  rintro e w' ⟨⟨sv, rfl, hS⟩, rfl⟩
  have HS := Lib.hid hS
  obtain ⟨sl, cap, rfl, hcap, hmx, hcells⟩ := runes_cells hS
  unfold maxLen at hmx
  have HCells := Lib.hid hcells
  clear hS HFew hcells
  go_wp2_with fail
  refine (HRows.out w).mono ?_
  rintro e w1 ⟨v, rfl, hB1, hR1⟩
  have HB1 := Lib.hid hB1
  have HR1 := Lib.hid hR1
  have HS1 := Lib.hid (HS.out.below hB1)
  clear hB1 hR1 HS
  go_wp2_with fail
  refine (build_tb v R w1 HR1.out HF.out.ok).mono ?_
  rintro e w2 ⟨tp, rfl, hB2, hT⟩
  have HT2 := Lib.hid hT
  have HR2 := Lib.hid (HR1.out.below hB2)
  have HS2 := Lib.hid (HS1.out.below hB2)
  have HB2 := Lib.hid (below_trans' HB1.out hB2)
  clear hB2 hT HB1 HR1 HS1
  go_wp2_with fail
  refine (fof_any cols HT2.out HS2.out HOk.out (by omega)).mono ?_
  rintro e w3 ⟨u, rfl, hB3, hX⟩
  have hCh := rowsFl_all R cols (clus (tabOf R) l)
  generalize rowsFl R cols (clus (tabOf R) l) 0 = L at hX hCh
  have hcl := chain_len hCh
  have hLL : (clus (tabOf R) l).length ≤ l.length := clusN_len (tabOf R) l.length l
  have HX := Lib.hid hX
  have HCh := Lib.hid hCh
  have HR3 := Lib.hid (HR2.out.below hB3)
  have HS3 := Lib.hid (HS2.out.below hB3)
  have HB3 := Lib.hid (below_trans' HB2.out hB3)
  have hLlen : L.length ≤ 60 := by omega
  obtain ⟨ra, rc, rfl, _, hrm⟩ := r3_shape hX
  unfold maxLen at hrm
  clear hB3 hX HB2 HT2 HS2 HR2 hCh hcl hLL
  go_wp2_with fail
  go_loopw [7, 8] (fun av iv wr => ∃ (k c : Nat), k ≤ L.length ∧ av = .int .i64 ((szL ((clus (tabOf R) l).take c) : Nat) : Int) ∧ iv = .int .i64 ((k : Nat) : Int) ∧ Below w3.heap.size w3 wr ∧ ChainR R cols (clus (tabOf R) l) c (L.drop k)) (fun _ iv _ => L.length - (intOf iv).toNat)
  case atStart => exact ⟨0, 0, Nat.zero_le _, rfl, rfl, .refl _ _, HCh.out⟩
  case round =>
    obtain ⟨k, c, hk, rfl, rfl, hB, hCk⟩ := hrel
    have HB := Lib.hid hB
    have hSz : szL (clus (tabOf R) l) = l.length := by rw [szL_flat, clus_flat (tabOf R) l.length l (Nat.le_refl _)]
    by_cases hlt : k < L.length
    · obtain ⟨r, hr⟩ : ∃ r, L[k]? = some r := ⟨L[k], List.getElem?_eq_getElem hlt⟩
      obtain ⟨e, h1, h2, h3, h4, h5⟩ := chain_cons hCk hr
      have hne := fun c (h : c ∈ clus (tabOf R) l) => (clus_ne (tabOf R) l.length l (Nat.le_refl _) c h).1
      have hlt2 := szL_lt hne h1 h2
      have hle := szL_take_le (clus (tabOf R) l) e
      have HIs := Lib.hid (isB_row (s := l) HTk.out h2)
      have HCe := Lib.hid h5
      have hOne : e = c + 1 → clus (tabOf R) ((l.take (szL ((clus (tabOf R) l).take e))).drop (szL ((clus (tabOf R) l).take c))) = [(l.take (szL ((clus (tabOf R) l).take e))).drop (szL ((clus (tabOf R) l).take c))] := fun he => by
        obtain ⟨cl, hcl⟩ : ∃ cl, (clus (tabOf R) l)[c]? = some cl := ⟨_, List.getElem?_eq_getElem (by omega)⟩
        have hf := flat_part hcl
        rw [clus_flat (tabOf R) l.length l (Nat.le_refl _), ← he] at hf
        rw [hf]
        exact clus_one HTk.out hcl
      have HOne := Lib.hid hOne
      obtain ⟨b, off, _, hv, _, _, _, _, d0, d1, d2⟩ := r3_cells (Rw3In.below HX.out hB) hr
      cases hv
      obtain ⟨r0, r1, r2⟩ := r
      obtain ⟨F, hF⟩ : ∃ F, F = szL ((clus (tabOf R) l).take c) := ⟨_, rfl⟩
      obtain ⟨T, hT⟩ : ∃ T, T = szL ((clus (tabOf R) l).take e) := ⟨_, rfl⟩
      rw [← hF, ← hT] at h3 hlt2 HOne
      rw [← hT] at hle HIs
      rw [← hF]
      have HT := Lib.hid hT
      cases h3
      dsimp only at d0 d1 d2 h4
      generalize shW R (((clus (tabOf R) l).drop c).take (e - c)) = wd at d2 h4
      have hTl : T ≤ l.length := by omega
      obtain ⟨sb, soff, hsl, hsb, _⟩ := HCells.out (by omega)
      subst hsl
      have HIsC := Lib.hid (is_any T (HR3.out.below hB) (HS3.out.below hB) HOk.out hTl (by omega))
      rw [HIs.out] at HIsC
      have q0 : ((F : Int) != (F : Int)) = false := by simp
      have q1 : decide ((T : Int) ≤ (F : Int)) = false := decide_eq_false (by omega)
      have q1n : ¬ T ≤ F := by omega
      have q2 : decide ((T : Int) > (l.length : Int)) = false := decide_eq_false (by omega)
      have q2n : ¬ l.length < T := by omega
      have s0 : (k : Int) < (L.length : Int) := by omega
      have s1 : (0 : Int) ≤ (k : Int) := by omega
      have e2 := IntWalk.i64_in ((k : Int) + 1) (by omega)
      have H4 := Lib.hid h4
      clear hr h5 hCk hB hF hT hlt hSz hOne hne h4
      go_wp2_with fail
      refine HIsC.out.mono ?_
      rintro e' w5 ⟨rfl, hB5⟩
      have d0 := cell_later hB5 d0
      have d1 := cell_later hB5 d1
      have d2 := cell_later hB5 d2
      have HB5 := Lib.hid (HB.out.trans (hB5.mono HB.out.size))
      have HR5 := Lib.hid (HR3.out.below HB5.out)
      have HS5 := Lib.hid (HS3.out.below HB5.out)
      have hsb5 : sb < w5.heap.size := by
        have h1 := HB3.out.size
        have h2 := HB5.out.size
        omega
      clear hB5 HB HIsC q0 q1 q1n q2 q2n
      go_upto_region 10 with fail
      by_cases hw : wd ≤ cols
      case' pos =>
        have g0 : decide (wd > cols) = false := decide_eq_false (by omega)
        clear hw
        refine wp_region_held_drew (S := fun w' => w'.cell? ⟨b, off + k * 3, none⟩ = some (.int .i64 (F : Int)) ∧ w'.cell? ⟨b, off + k * 3 + 1, none⟩ = some (.int .i64 (T : Int)) ∧ w'.cell? ⟨b, off + k * 3 + 2, none⟩ = some (.int .i64 wd)) (by kernel_rfl) ⟨d0, d1, d2⟩ (fun hHeld => ?_)
        refine hd_take 0 rfl (by kernel_rfl) (by kernel_rfl) (by kernel_rfl) (fun _ _ _ h => h) (by rfl) (by intro w hSw; (try dsimp only at hSw); obtain ⟨hs1, hs2, hs3⟩ := hSw; go_simp; first | done | with_reducible rfl) hHeld ?_
        try simp only [Act.put, List.setIfInBounds_toArray, List.set_cons_zero, List.set_cons_succ]
        refine hd_take 1 rfl (by kernel_rfl) (by kernel_rfl) (by kernel_rfl) (fun _ _ _ h => h) (by rfl) (by intro w hSw; (try dsimp only at hSw); obtain ⟨hs1, hs2, hs3⟩ := hSw; go_simp; first | done | with_reducible rfl) hHeld ?_
        try simp only [Act.put, List.setIfInBounds_toArray, List.set_cons_zero, List.set_cons_succ]
        refine hd_take 2 rfl (by kernel_rfl) (by kernel_rfl) (by kernel_rfl) (fun _ _ _ h => h) (by rfl) (by intro w hSw; (try dsimp only at hSw); obtain ⟨hs1, hs2, hs3⟩ := hSw; go_simp; first | done | with_reducible rfl) hHeld ?_
        try simp only [Act.put, List.setIfInBounds_toArray, List.set_cons_zero, List.set_cons_succ]
        refine hd_take 3 rfl (by kernel_rfl) (by kernel_rfl) (by kernel_rfl) (fun _ _ _ h => h) (by rfl) (by intro w hSw; (try dsimp only at hSw); obtain ⟨hs1, hs2, hs3⟩ := hSw; go_simp; first | done | with_reducible rfl) hHeld ?_
        try simp only [Act.put, List.setIfInBounds_toArray, List.set_cons_zero, List.set_cons_succ]
        refine hd_take 4 rfl (by kernel_rfl) (by kernel_rfl) (by kernel_rfl) (fun _ _ _ h => h) (by rfl) (by intro w hSw; (try dsimp only at hSw); obtain ⟨hs1, hs2, hs3⟩ := hSw; go_simp; first | done | with_reducible rfl) hHeld ?_
        try simp only [Act.put, List.setIfInBounds_toArray, List.set_cons_zero, List.set_cons_succ]
        refine hd_take 5 rfl (by kernel_rfl) (by kernel_rfl) (by kernel_rfl) (fun _ _ _ h => h) (by rfl) (by intro w hSw; (try dsimp only at hSw); obtain ⟨hs1, hs2, hs3⟩ := hSw; go_simp; first | done | with_reducible rfl) hHeld ?_
        try simp only [Act.put, List.setIfInBounds_toArray, List.set_cons_zero, List.set_cons_succ]
        refine hd_take 6 rfl (by kernel_rfl) (by kernel_rfl) (by kernel_rfl) (fun _ _ _ h => h) (by rfl) (by intro w hSw; (try dsimp only at hSw); obtain ⟨hs1, hs2, hs3⟩ := hSw; go_simp; first | done | with_reducible rfl) hHeld ?_
        try simp only [Act.put, List.setIfInBounds_toArray, List.set_cons_zero, List.set_cons_succ]
        refine hd_take 7 rfl (by kernel_rfl) (by kernel_rfl) (by kernel_rfl) (fun _ _ _ h => h) (by rfl) (by intro w hSw; (try dsimp only at hSw); obtain ⟨hs1, hs2, hs3⟩ := hSw; go_simp; first | done | with_reducible rfl) hHeld ?_
        try simp only [Act.put, List.setIfInBounds_toArray, List.set_cons_zero, List.set_cons_succ]
        refine hd_not 8 rfl (by kernel_rfl) (by kernel_rfl) (by kernel_rfl) (fun _ _ _ h => h) (by rfl) hHeld ?_
        try simp only [Act.put, List.setIfInBounds_toArray, List.set_cons_zero, List.set_cons_succ]
        refine hd_not 9 rfl (by kernel_rfl) (by kernel_rfl) (by kernel_rfl) (fun _ _ _ h => h) (by rfl) hHeld ?_
        try simp only [Act.put, List.setIfInBounds_toArray, List.set_cons_zero, List.set_cons_succ]
        refine hd_not 10 rfl (by kernel_rfl) (by kernel_rfl) (by kernel_rfl) (fun _ _ _ h => h) (by rfl) hHeld ?_
        try simp only [Act.put, List.setIfInBounds_toArray, List.set_cons_zero, List.set_cons_succ]
        refine hd_not 11 rfl (by kernel_rfl) (by kernel_rfl) (by kernel_rfl) (fun _ _ _ h => h) (by rfl) hHeld ?_
        try simp only [Act.put, List.setIfInBounds_toArray, List.set_cons_zero, List.set_cons_succ]
        refine hd_not 12 rfl (by kernel_rfl) (by kernel_rfl) (by kernel_rfl) (fun _ _ _ h => h) (by rfl) hHeld ?_
        try simp only [Act.put, List.setIfInBounds_toArray, List.set_cons_zero, List.set_cons_succ]
        refine hd_not 13 rfl (by kernel_rfl) (by kernel_rfl) (by kernel_rfl) (fun _ _ _ h => h) (by rfl) hHeld ?_
        try simp only [Act.put, List.setIfInBounds_toArray, List.set_cons_zero, List.set_cons_succ]
        refine hd_not 14 rfl (by kernel_rfl) (by kernel_rfl) (by kernel_rfl) (fun _ _ _ h => h) (by rfl) hHeld ?_
        try simp only [Act.put, List.setIfInBounds_toArray, List.set_cons_zero, List.set_cons_succ]
        refine hd_not 15 rfl (by kernel_rfl) (by kernel_rfl) (by kernel_rfl) (fun _ _ _ h => h) (by rfl) hHeld ?_
        try simp only [Act.put, List.setIfInBounds_toArray, List.set_cons_zero, List.set_cons_succ]
        refine hd_not 16 rfl (by kernel_rfl) (by kernel_rfl) (by kernel_rfl) (fun _ _ _ h => h) (by rfl) hHeld ?_
        try simp only [Act.put, List.setIfInBounds_toArray, List.set_cons_zero, List.set_cons_succ]
        refine hd_not 17 rfl (by kernel_rfl) (by kernel_rfl) (by kernel_rfl) (fun _ _ _ h => h) (by rfl) hHeld ?_
        try simp only [Act.put, List.setIfInBounds_toArray, List.set_cons_zero, List.set_cons_succ]
        refine hd_not 18 rfl (by kernel_rfl) (by kernel_rfl) (by kernel_rfl) (fun _ _ _ h => h) (by rfl) hHeld ?_
        try simp only [Act.put, List.setIfInBounds_toArray, List.set_cons_zero, List.set_cons_succ]
        refine hd_not 19 rfl (by kernel_rfl) (by kernel_rfl) (by kernel_rfl) (fun _ _ _ h => h) (by rfl) hHeld ?_
        try simp only [Act.put, List.setIfInBounds_toArray, List.set_cons_zero, List.set_cons_succ]
        refine hd_not 20 rfl (by kernel_rfl) (by kernel_rfl) (by kernel_rfl) (fun _ _ _ h => h) (by rfl) hHeld ?_
        try simp only [Act.put, List.setIfInBounds_toArray, List.set_cons_zero, List.set_cons_succ]
        refine hd_not 21 rfl (by kernel_rfl) (by kernel_rfl) (by kernel_rfl) (fun _ _ _ h => h) (by rfl) hHeld ?_
        try simp only [Act.put, List.setIfInBounds_toArray, List.set_cons_zero, List.set_cons_succ]
        refine hd_not 22 rfl (by kernel_rfl) (by kernel_rfl) (by kernel_rfl) (fun _ _ _ h => h) (by rfl) hHeld ?_
        try simp only [Act.put, List.setIfInBounds_toArray, List.set_cons_zero, List.set_cons_succ]
        refine hd_not 23 rfl (by kernel_rfl) (by kernel_rfl) (by kernel_rfl) (fun _ _ _ h => h) (by rfl) hHeld ?_
        try simp only [Act.put, List.setIfInBounds_toArray, List.set_cons_zero, List.set_cons_succ]
        refine hd_take 24 rfl (by kernel_rfl) (by kernel_rfl) (by kernel_rfl) (fun _ _ _ h => h) (by rfl) (by intro w hSw; (try dsimp only at hSw); obtain ⟨hs1, hs2, hs3⟩ := hSw; go_simp; first | done | with_reducible rfl) hHeld ?_
        try simp only [Act.put, List.setIfInBounds_toArray, List.set_cons_zero, List.set_cons_succ]
        refine wpAnyH_done (by kernel_rfl) ?_ _
        have HB6 := Lib.hid (show Below w3.heap.size w3 w5.drew from below_dN HB5.out 1)
        have f1 : w5.drew.cell? ⟨b, off + k * 3 + 1, none⟩ = some (.int .i64 (T : Int)) := d1
        clear hHeld d0 d1 d2 HR5 HS5 HB5 hsb5
        generalize w5.drew = w6 at HB6 f1 ⊢
      case' neg =>
        have g0 : wd > cols := by omega
        have hcl1 := HOne.out (H4.out.resolve_left hw)
        have HSub := Lib.hid (show RunesIn (w5.drewN 1) (.slice (some ⟨sb, soff + F, none⟩) (T - F) (cap - F)) ((l.take T).drop F) from runes_sub HS5.out (i := F) (j := T) (by omega) hTl hsb5)
        have HOks := Lib.hid ((HOk.out.take T).drop F)
        have hsl : ((l.take T).drop F).length ≤ 60 := by rw [List.length_drop, List.length_take]; omega
        have HClu := Lib.hid (rclusters_any HTk.out (HR5.out.drewN 1) HSub.out HOks.out (by omega))
        rw [hcl1] at HClu
        have s3 : (0 : Int) ≤ (F : Int) := by omega
        have s4 : (F : Int) ≤ (T : Int) := by omega
        have s5 : (T : Int) ≤ (cap : Int) := by omega
        have s6 : ¬ cap = F := by omega
        clear hw hcl1 HSub HOks hsl
        go_region_held3 (fun w' => w'.cell? ⟨b, off + k * 3, none⟩ = some (.int .i64 (F : Int)) ∧ w'.cell? ⟨b, off + k * 3 + 1, none⟩ = some (.int .i64 (T : Int)) ∧ w'.cell? ⟨b, off + k * 3 + 2, none⟩ = some (.int .i64 wd)) (first | exact ⟨f0, f1, f2⟩ | exact ⟨d0, d1, d2⟩ | go_keep)
          (first
            | (go_at_call 15; refine HClu.out.mono ?_; rintro e' w6 ⟨tu, rfl, hB6, hX6⟩; obtain ⟨ta, tcap, hv, _, _⟩ := texts_shape hX6; have hv' : tu = .slice ta 1 tcap := hv; subst hv'; have f0 := cell_later hB6 (show (w5.drewN 1).cell? _ = _ from d0); have f1 := cell_later hB6 (show (w5.drewN 1).cell? _ = _ from d1); have f2 := cell_later hB6 (show (w5.drewN 1).cell? _ = _ from d2); have HB6 := Lib.hid ((below_dN HB5.out 1).trans (hB6.mono (below_dN HB5.out 1).size)); clear hB6 hX6 hv)
            | fail)
      all_goals
        go_wp2_with fail
        go_roundw
        case rel => exact ⟨k + 1, e, by omega, by rw [← HT.out], by go_num, HB6.out, HCe.out⟩
        case measure => simp [intOf] <;> omega
    · have hke : k = L.length := by omega
      have hce := chain_end hCk (by omega)
      have HBe := Lib.hid (below_trans' HB3.out HB.out)
      rw [hce, List.take_length, hSz]
      have s0 : ¬ k < L.length := hlt
      clear hCk hB hce hke hlt hk hSz
      go_wp2_with fail
      refine (fin49 HBe.out).mono ?_
      rintro e w9 ⟨rfl, hB9⟩
      go_wp2_with fail
      go_ret
      exact ⟨rfl, hB9⟩
end Go.Proofs.Ythlpelfogplomaa
