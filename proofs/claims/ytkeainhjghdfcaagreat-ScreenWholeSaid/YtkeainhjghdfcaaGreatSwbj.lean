/- Joined texts: ScrE. -/
import Derived.Test.YtkeainhjghdfcaaGreatSwbh
import Derived.Test.YtkeainhjghdfcaaGreatSwbe
import Derived.Test.YtkeainhjghdfcaaGreatSwae
import Derived.Test.YtkeainhjghdfcaaGreatSwaa

/- The view that the laws take: its walk. -/
namespace Go.Proofs.YtkeainhjghdfcaaGreat
open Go.RowKit

/-- parts that are not too long, nor too many -/
def fewP (P : List (List Int)) : List (List Int) := (P.take 4).map (·.take 20)
theorem fewP_len (P : List (List Int)) : (fewP P).length ≤ 4 := by unfold fewP; rw [List.length_map, List.length_take]; omega
theorem fewP_ok {P : List (List Int)} (h : ∀ p ∈ P, RunesOk p) : ∀ p ∈ fewP P, RunesOk p ∧ p.length ≤ 20 := by
  intro p hp
  obtain ⟨q, hq, rfl⟩ := List.mem_map.1 hp
  exact ⟨(h q (List.mem_of_mem_take hq)).take 20, by rw [List.length_take]; omega⟩
set_option maxRecDepth 100000 in
set_option maxHeartbeats 8000000 in
/-- the cells of the view that is taken -/
theorem few29_own {P : List (List Int)} {s : List Int} {w0 w : World} {pv sv : Value} (h0 : Below w0.heap.size w0 w) (hP : TextsIn w0 pv P) (hs : RunesIn w0 sv s) (c : Int) :
    Calls Tryz.prog 21 #[.agg #[pv, sv, .int .i64 c]] w fun e w' => ∃ pv' sv', e = .returned (.agg #[pv', sv', .int .i64 c]) ∧ Below w.heap.size w w' ∧ ∃ vs : List Value, w'.ownsRow w.heap.size 35 1 pv' vs.length vs ∧ vs.length = (fewP P).length ∧ (∀ (i : Nat) (u : Value) (l : List Int), vs[i]? = some u → (fewP P)[i]? = some l → RunesIn w0 u l) ∧ RunesIn w0 sv' (s.take 100) := by
  obtain ⟨sl, scap, rfl, _, _, _⟩ := runes_cells hs
  have HS100 := Lib.hid (show RunesIn w0 (.slice sl (min 100 s.length) scap) (s.take 100) from few_runes hs 100)
  obtain ⟨us, hus0, hel⟩ := id hP
  have hus := (Rd.below hus0 h0 (Nat.le_refl _)).mono h0.size
  have H0 := Lib.hid h0
  have hs := hs.below h0
  obtain ⟨pa, pcap, rfl, hp1, hp2, hul, hcell⟩ := hus
  unfold maxLen at hp2
  have hul : us.length = P.length := by omega
  have HEl := Lib.hid hel
  have HCell := Lib.hid hcell
  have hba := below1 w (.cells #[.slice pa P.length pcap, .slice sl s.length scap, .int .i64 c] 53)
  have hna := heap_alloc_new w (.cells #[.slice pa P.length pcap, .slice sl s.length scap, .int .i64 c] 53)
  have hbb := below1 (w.alloc (.cells #[.slice pa P.length pcap, .slice sl s.length scap, .int .i64 c] 53)) (.cells #[.slice none 0 0, .slice none 0 0, .int .i64 0] 53)
  have hnb := heap_alloc_new (w.alloc (.cells #[.slice pa P.length pcap, .slice sl s.length scap, .int .i64 c] 53)) (.cells #[.slice none 0 0, .slice none 0 0, .int .i64 0] 53)
  have hza : (w.alloc (.cells #[.slice pa P.length pcap, .slice sl s.length scap, .int .i64 c] 53)).heap.size = w.heap.size + 1 := by simp
  have hzb : ((w.alloc (.cells #[.slice pa P.length pcap, .slice sl s.length scap, .int .i64 c] 53)).alloc (.cells #[.slice none 0 0, .slice none 0 0, .int .i64 0] 53)).heap.size = w.heap.size + 2 := by simp
  rw [hza] at hbb hnb
  have hB1 := hba.trans (hbb.mono (by omega))
  have HB1 := Lib.hid hB1
  have HNV := Lib.hid ((hbb.block _ (by omega)).trans hna)
  have HNR := Lib.hid hnb
  have HS1 := Lib.hid (hs.below hB1)
  clear hP hs hel hcell hus0 h0 hba hbb hna hnb hB1 hza
  go_enter Tryz.func21, Tryz.ntmps21
  go_upto_region 1 with fail
  generalize (w.alloc (.cells #[.slice pa P.length pcap, .slice sl s.length scap, .int .i64 c] 53)).alloc (.cells #[.slice none 0 0, .slice none 0 0, .int .i64 0] 53) = w1 at HB1 HNV HNR HS1 hzb ⊢
  have y1 := row_cells (i := 1) HNV.out rfl
  have y2 := row_cells (i := 2) HNV.out rfl
  have hvl := row_len HNV.out
  have yy1 : (w1.drew.alloc (.cells #[.slice none 0 0, .slice none 0 0, .int .i64 0] 53)).cell? ⟨w.heap.size, 1, none⟩ = some (.slice sl s.length scap) := cell_later (show Below w1.heap.size w1 (w1.drew.alloc (.cells #[.slice none 0 0, .slice none 0 0, .int .i64 0] 53)) from (below_dN (.refl _ _) 1).alloc (Nat.le_refl _) _) y1
  have yy2 : (w1.drew.alloc (.cells #[.slice none 0 0, .slice none 0 0, .int .i64 0] 53)).cell? ⟨w.heap.size, 2, none⟩ = some (.int .i64 c) := cell_later (show Below w1.heap.size w1 (w1.drew.alloc (.cells #[.slice none 0 0, .slice none 0 0, .int .i64 0] 53)) from (below_dN (.refl _ _) 1).alloc (Nat.le_refl _) _) y2
  have hrwA : RunesIn w1.drew (.slice sl s.length scap) s := HS1.out
  have hrwB : RunesIn (w1.drew.alloc (.cells #[.slice none 0 0, .slice none 0 0, .int .i64 0] 53)) (.slice sl s.length scap) s := HS1.out.below ((below_dN (.refl _ _) 1).alloc (Nat.le_refl _) _)
  have HFA := Lib.hid (few_at (n := 100) hrwA)
  have HFB := Lib.hid (few_at (n := 100) hrwB)
  clear hrwA hrwB
  refine wp_region_held_drew (S := fun w' => w'.cell? ⟨w.heap.size, 1, none⟩ = some (.slice sl s.length scap) ∧ w'.cell? ⟨w.heap.size, 2, none⟩ = some (.int .i64 c)) (by kernel_rfl) ⟨y1, y2⟩ (fun hHeld => ?_)
  refine hd_take 0 rfl (by kernel_rfl) (by kernel_rfl) (by kernel_rfl) (fun _ _ _ h => h) (by rfl) (by intro w hSw; (try dsimp only at hSw); obtain ⟨hs1, hs2⟩ := hSw; go_simp; first | done | with_reducible rfl) hHeld ?_
  try simp only [Act.put, List.setIfInBounds_toArray, List.set_cons_zero, List.set_cons_succ]
  refine hd_take 1 rfl (by kernel_rfl) (by kernel_rfl) (by kernel_rfl) (fun _ _ _ h => h) (by rfl) (by intro w hSw; (try dsimp only at hSw); obtain ⟨hs1, hs2⟩ := hSw; go_simp; first | done | with_reducible rfl) hHeld ?_
  try simp only [Act.put, List.setIfInBounds_toArray, List.set_cons_zero, List.set_cons_succ]
  refine hd_take 3 rfl (by kernel_rfl) (by kernel_rfl) (by kernel_rfl) (fun _ _ _ h => h) (by rfl) (by intro w hSw; (try dsimp only at hSw); obtain ⟨hs1, hs2⟩ := hSw; go_simp; first | done | with_reducible rfl) hHeld ?_
  try simp only [Act.put, List.setIfInBounds_toArray, List.set_cons_zero, List.set_cons_succ]
  refine hd_take 4 rfl (by kernel_rfl) (by kernel_rfl) (by kernel_rfl) (fun _ _ _ h => h) (by rfl) (by intro w hSw; (try dsimp only at hSw); obtain ⟨hs1, hs2⟩ := hSw; go_simp; first | done | with_reducible rfl) hHeld ?_
  try simp only [Act.put, List.setIfInBounds_toArray, List.set_cons_zero, List.set_cons_succ]
  refine hd_two 2 6 (by kernel_rfl) rfl rfl (fun K hK => ?_) (fun K hK => ?_)
  case' refine_1 =>
    go_simp
    go_at_call 16
    refine HFA.out.mono ?_
    rintro e w2 ⟨rfl, rfl⟩
    go_wp2_with fail
    refine hK.out _ _ ⟨y1, y2⟩ (fun hHeld => ?_)
    clear hK K
    try simp only [Act.put, List.setIfInBounds_toArray, List.set_cons_zero, List.set_cons_succ]
    refine hd_take 5 rfl (by kernel_rfl) (by kernel_rfl) (by kernel_rfl) (fun _ _ _ h => h) (by rfl) (by intro w hSw; (try dsimp only at hSw); obtain ⟨hs1, hs2⟩ := hSw; go_simp; first | done | with_reducible rfl) hHeld ?_
    try simp only [Act.put, List.setIfInBounds_toArray, List.set_cons_zero, List.set_cons_succ]
    refine hd_step 6 (by kernel_rfl) rfl (fun K hK => ?_)
    go_simp
    refine hK.out _ _ ⟨yy1, yy2⟩ (fun hHeld => ?_)
    clear hK K
    try simp only [Act.put, List.setIfInBounds_toArray, List.set_cons_zero, List.set_cons_succ]
  case' refine_2 =>
    go_simp
    refine hK.out _ _ ⟨yy1, yy2⟩ (fun hHeld => ?_)
    clear hK K
    try simp only [Act.put, List.setIfInBounds_toArray, List.set_cons_zero, List.set_cons_succ]
    refine hd_step 2 (by kernel_rfl) rfl (fun K hK => ?_)
    go_simp
    go_at_call 16
    refine HFB.out.mono ?_
    rintro e w2 ⟨rfl, rfl⟩
    go_wp2_with fail
    refine hK.out _ _ ⟨yy1, yy2⟩ (fun hHeld => ?_)
    clear hK K
    try simp only [Act.put, List.setIfInBounds_toArray, List.set_cons_zero, List.set_cons_succ]
    refine hd_take 5 rfl (by kernel_rfl) (by kernel_rfl) (by kernel_rfl) (fun _ _ _ h => h) (by rfl) (by intro w hSw; (try dsimp only at hSw); obtain ⟨hs1, hs2⟩ := hSw; go_simp; first | done | with_reducible rfl) hHeld ?_
    try simp only [Act.put, List.setIfInBounds_toArray, List.set_cons_zero, List.set_cons_succ]
  all_goals
    refine hd_step 7 (by kernel_rfl) rfl (fun K hK => ?_)
    have hrz : (w1.alloc (.cells #[.slice none 0 0, .slice none 0 0, .int .i64 0] 53)).drew.heap[w.heap.size + 2]? = some (.cells #[.slice none 0 0, .slice none 0 0, .int .i64 0] 53 (0, 0)) := by rw [← hzb]; exact heap_alloc_new w1.drew (.cells #[.slice none 0 0, .slice none 0 0, .int .i64 0] 53)
    have z0 := row_cells (i := 0) hrz rfl
    have z1 := row_cells (i := 1) hrz rfl
    have z2 := row_cells (i := 2) hrz rfl
    have zw0 := row_warm hrz 0
    have zw1 := row_warm hrz 1
    have zw2 := row_warm hrz 2
    go_simp
    have yz1 : (w1.alloc (.cells #[.slice none 0 0, .slice sl (min 100 s.length) scap, .int .i64 c] 53)).drew.cell? ⟨w.heap.size, 1, none⟩ = some (.slice sl s.length scap) := cell_later (show Below w1.heap.size w1 (w1.drew.alloc (.cells #[.slice none 0 0, .slice sl (min 100 s.length) scap, .int .i64 c] 53)) from (below_dN (.refl _ _) 1).alloc (Nat.le_refl _) _) y1
    have yz2 : (w1.alloc (.cells #[.slice none 0 0, .slice sl (min 100 s.length) scap, .int .i64 c] 53)).drew.cell? ⟨w.heap.size, 2, none⟩ = some (.int .i64 c) := cell_later (show Below w1.heap.size w1 (w1.drew.alloc (.cells #[.slice none 0 0, .slice sl (min 100 s.length) scap, .int .i64 c] 53)) from (below_dN (.refl _ _) 1).alloc (Nat.le_refl _) _) y2
    refine hK.out _ _ ⟨yz1, yz2⟩ (fun hHeld => ?_)
    clear hK K
    try simp only [Act.put, List.setIfInBounds_toArray, List.set_cons_zero, List.set_cons_succ]
    refine wpAnyH_done (by kernel_rfl) ?_ _
    have hn3 : (w1.alloc (.cells #[.slice none 0 0, .slice sl (min 100 s.length) scap, .int .i64 c] 53)).drew.heap[w.heap.size + 2]? = some (.cells #[.slice none 0 0, .slice sl (min 100 s.length) scap, .int .i64 c] 53 (0, 0)) := by rw [← hzb]; exact heap_alloc_new w1.drew (.cells #[.slice none 0 0, .slice sl (min 100 s.length) scap, .int .i64 c] 53)
    have hb3 : Below w1.heap.size w1 (w1.alloc (.cells #[.slice none 0 0, .slice sl (min 100 s.length) scap, .int .i64 c] 53)).drew := (below_dN (.refl _ _) 1).alloc (Nat.le_refl _) _
    clear hHeld hrz z0 z1 z2 zw0 zw1 zw2 yy1 yy2 yz1 yz2 HFA HFB
    generalize (w1.alloc (.cells #[.slice none 0 0, .slice sl (min 100 s.length) scap, .int .i64 c] 53)).drew = w3 at hn3 hb3 ⊢
    have hz3 := row_len hn3
    have HB3 := Lib.hid (HB1.out.trans (hb3.mono (by omega)))
    have HV3 := Lib.hid ((hb3.block _ hvl).trans HNV.out)
    have HR3 := Lib.hid ((hb3.block _ (row_len HNR.out)).trans HNR.out)
    have HN3 := Lib.hid hn3
    have hs3 := HB3.out.size
    clear hb3 hn3 y1 y2 HB1 HNV HNR HS1 hvl
    clear hzb
    go_wp2_with fail
    go_loopw [4] (fun iv wr => ∃ (k : Nat) (pv' : Value) (vs : List Value), k ≤ P.length ∧ k ≤ 4 ∧ iv = .int .i64 ((k : Nat) : Int) ∧ Below (w.heap.size + 2) w3 wr ∧ wr.heap[(w.heap.size + 2)]? = some (.cells #[pv', .slice sl (min 100 s.length) scap, .int .i64 c] 53 (0, 0)) ∧ wr.ownsRow ((w.heap.size + 2) + 1) 35 1 pv' vs.length vs ∧ vs = (us.take k).map (fewV 20)) (fun iv _ => P.length - (intOf iv).toNat)
    case atStart => exact ⟨0, _, [], Nat.zero_le _, Nat.zero_le _, rfl, .refl _ _, HN3.out, World.ownsRow_nil _ _ _ _, rfl⟩
    case round =>
      obtain ⟨k, pv', vs, hk, hk4, rfl, hB, hOu, hOw, hVs⟩ := hrel
      have HBl := Lib.hid hB
      have HOu := Lib.hid hOu
      have HOw := Lib.hid hOw
      have HVs := Lib.hid hVs
      have hbs := hB.size
      have hvl : vs.length = k := by rw [hVs, List.length_map, List.length_take, hul]; omega
      have HVl := Lib.hid hvl
      have hvs4 : vs.length ≤ 4 := by omega
      clear hvl
      obtain ⟨oa, oc, rfl⟩ := slice_of_owns hOw
      have y0 := row_cells (i := 0) ((hB.block w.heap.size (by omega)).trans HV3.out) rfl
      clear hB hOu hOw hVs
      by_cases hlt : k < P.length ∧ k < 4
      · obtain ⟨hlt, hlt4⟩ := hlt
        obtain ⟨p, hp⟩ : ∃ p, P[k]? = some p := ⟨P[k], List.getElem?_eq_getElem hlt⟩
        obtain ⟨cu, hcu⟩ : ∃ cu, us[k]? = some cu := ⟨us[k]'(by omega), List.getElem?_eq_getElem (by omega)⟩
        have hpr := (HEl.out k cu p hcu hp).below H0.out
        obtain ⟨ca, cc, rfl, _, _, _⟩ := runes_cells hpr
        obtain ⟨b, off, rfl, hbw, hq⟩ := HCell.out (by omega)
        have hBw : Below w.heap.size w wr := HB3.out.trans (HBl.out.mono (by omega))
        have d0 := cell_later hBw (hq k _ hcu)
        have HPd := Lib.hid (show RunesIn wr.drew (.slice ca p.length cc) p from hpr.below (below_dN hBw 1))
        have HVn := Lib.hid (show vs ++ [.slice ca (min 20 p.length) cc] = (us.take (k + 1)).map (fewV 20) by rw [List.take_add_one, hcu, List.map_append, ← HVs.out]; rfl)
        have s0 : (k : Int) < (P.length : Int) := by omega
        have s1 : (0 : Int) ≤ (k : Int) := by omega
        have s2 : (k : Int) < 4 := by omega
        have e1 := IntWalk.i64_in ((k : Int) + 1) (by omega)
        have hbig : (vs.length + 1) * 24 ≤ 140737488355328 := by omega
        have u0 := row_cells (i := 0) HOu.out rfl
        have ho2 : (w.heap.size + 2) < wr.heap.size := row_len HOu.out
        have ya0 : (wr.drew.alloc (.cells #[.slice ca (min 20 p.length) cc] 35)).cell? ⟨w.heap.size, 0, none⟩ = some (.slice (some ⟨b, off, none⟩) P.length pcap) := (World.cell?_of_block (Below.heap_alloc wr.drew _ _ (by show w.heap.size < wr.heap.size; omega))).trans y0
        have da0 : (wr.drew.alloc (.cells #[.slice ca (min 20 p.length) cc] 35)).cell? ⟨b, off + k, none⟩ = some (.slice ca p.length cc) := (World.cell?_of_block (Below.heap_alloc wr.drew _ _ (by show b < wr.heap.size; omega))).trans d0
        have ua0 : (wr.drew.alloc (.cells #[.slice ca (min 20 p.length) cc] 35)).cell? ⟨(w.heap.size + 2), 0, none⟩ = some (.slice oa vs.length oc) := (World.cell?_of_block (Below.heap_alloc wr.drew _ _ ho2)).trans u0
        clear hp hcu hpr hq hBw hlt hlt4
        go_upto_region 5 with fail
        refine wp_region_held_drew (S := fun w' => w'.cell? ⟨w.heap.size, 0, none⟩ = some (.slice (some ⟨b, off, none⟩) P.length pcap) ∧ w'.cell? ⟨b, off + k, none⟩ = some (.slice ca p.length cc)) (by kernel_rfl) ⟨y0, d0⟩ (fun hHeld => ?_)
        refine hd_take 0 rfl (by kernel_rfl) (by kernel_rfl) (by kernel_rfl) (fun _ _ _ h => h) (by rfl) (by intro w hSw; (try dsimp only at hSw); obtain ⟨hs1, hs2⟩ := hSw; go_simp; first | done | with_reducible rfl) hHeld ?_
        try simp only [Act.put, List.setIfInBounds_toArray, List.set_cons_zero, List.set_cons_succ]
        refine hd_take 2 rfl (by kernel_rfl) (by kernel_rfl) (by kernel_rfl) (fun _ _ _ h => h) (by rfl) (by intro w hSw; (try dsimp only at hSw); obtain ⟨hs1, hs2⟩ := hSw; go_simp; first | done | with_reducible rfl) hHeld ?_
        try simp only [Act.put, List.setIfInBounds_toArray, List.set_cons_zero, List.set_cons_succ]
        refine hd_take 3 rfl (by kernel_rfl) (by kernel_rfl) (by kernel_rfl) (fun _ _ _ h => h) (by rfl) (by intro w hSw; (try dsimp only at hSw); obtain ⟨hs1, hs2⟩ := hSw; go_simp; first | done | with_reducible rfl) hHeld ?_
        try simp only [Act.put, List.setIfInBounds_toArray, List.set_cons_zero, List.set_cons_succ]
        refine hd_take 4 rfl (by kernel_rfl) (by kernel_rfl) (by kernel_rfl) (fun _ _ _ h => h) (by rfl) (by intro w hSw; (try dsimp only at hSw); obtain ⟨hs1, hs2⟩ := hSw; go_simp; first | done | with_reducible rfl) hHeld ?_
        try simp only [Act.put, List.setIfInBounds_toArray, List.set_cons_zero, List.set_cons_succ]
        refine hd_take 5 rfl (by kernel_rfl) (by kernel_rfl) (by kernel_rfl) (fun _ _ _ h => h) (by rfl) (by intro w hSw; (try dsimp only at hSw); obtain ⟨hs1, hs2⟩ := hSw; go_simp; first | done | with_reducible rfl) hHeld ?_
        try simp only [Act.put, List.setIfInBounds_toArray, List.set_cons_zero, List.set_cons_succ]
        refine hd_take 6 rfl (by kernel_rfl) (by kernel_rfl) (by kernel_rfl) (fun _ _ _ h => h) (by rfl) (by intro w hSw; (try dsimp only at hSw); obtain ⟨hs1, hs2⟩ := hSw; go_simp; first | done | with_reducible rfl) hHeld ?_
        try simp only [Act.put, List.setIfInBounds_toArray, List.set_cons_zero, List.set_cons_succ]
        refine hd_two 1 7 (by kernel_rfl) rfl rfl (fun K hK => ?_) (fun K hK => ?_)
        case' refine_1 =>
          go_simp
          refine hK.out _ _ ⟨y0, d0⟩ (fun hHeld => ?_)
          clear hK K
          try simp only [Act.put, List.setIfInBounds_toArray, List.set_cons_zero, List.set_cons_succ]
          refine hd_step 7 (by kernel_rfl) rfl (fun K hK => ?_)
          go_simp
          go_at_call 16
          refine (few_at (n := 20) HPd.out).mono ?_
          rintro e w4 ⟨rfl, rfl⟩
          go_wp2_with fail
          refine hK.out _ _ ⟨y0, d0⟩ (fun hHeld => ?_)
          clear hK K
          try simp only [Act.put, List.setIfInBounds_toArray, List.set_cons_zero, List.set_cons_succ]
          refine hd_step 8 (by kernel_rfl) rfl (fun K hK => ?_)
          go_simp
          refine hK.out _ _ ⟨ya0, da0⟩ (fun hHeld => ?_)
          clear hK K
          try simp only [Act.put, List.setIfInBounds_toArray, List.set_cons_zero, List.set_cons_succ]
        case' refine_2 =>
          go_simp
          go_at_call 16
          refine (few_at (n := 20) HPd.out).mono ?_
          rintro e w4 ⟨rfl, rfl⟩
          go_wp2_with fail
          refine hK.out _ _ ⟨y0, d0⟩ (fun hHeld => ?_)
          clear hK K
          try simp only [Act.put, List.setIfInBounds_toArray, List.set_cons_zero, List.set_cons_succ]
          refine hd_two 1 8 (by kernel_rfl) rfl rfl (fun K hK => ?_) (fun K hK => ?_)
          case' refine_1 =>
            go_simp
            refine hK.out _ _ ⟨y0, d0⟩ (fun hHeld => ?_)
            clear hK K
            try simp only [Act.put, List.setIfInBounds_toArray, List.set_cons_zero, List.set_cons_succ]
            refine hd_step 8 (by kernel_rfl) rfl (fun K hK => ?_)
            go_simp
            refine hK.out _ _ ⟨ya0, da0⟩ (fun hHeld => ?_)
            clear hK K
            try simp only [Act.put, List.setIfInBounds_toArray, List.set_cons_zero, List.set_cons_succ]
          case' refine_2 =>
            go_simp
            refine hK.out _ _ ⟨ya0, da0⟩ (fun hHeld => ?_)
            clear hK K
            try simp only [Act.put, List.setIfInBounds_toArray, List.set_cons_zero, List.set_cons_succ]
            refine hd_step 1 (by kernel_rfl) rfl (fun K hK => ?_)
            go_simp
            refine hK.out _ _ ⟨ya0, da0⟩ (fun hHeld => ?_)
            clear hK K
            try simp only [Act.put, List.setIfInBounds_toArray, List.set_cons_zero, List.set_cons_succ]
        all_goals
          refine hd_step 9 (by kernel_rfl) rfl (fun K hK => ?_)
          rw [if_pos (by rfl)]
          show Oper.wp Tryz.prog _ _ (wr.drew.alloc (.cells #[.slice ca (min 20 p.length) cc] 35)) _ _
          refine oper_app1 (base := (w.heap.size + 2) + 1) wr.drew (.tmp 23) (.tmp 30) _ (by rfl) ERR (.slice oa vs.length oc) vs.length vs (by rfl) (show wr.drew.ownsRow ((w.heap.size + 2) + 1) 35 1 (.slice oa vs.length oc) vs.length vs from HOw.out) 1 1 [.slice ca (min 20 p.length) cc] (by rfl) (by decide) rfl (by intro u hu; simp at hu; subst hu; rfl) hbig (by show (w.heap.size + 2) + 1 ≤ wr.heap.size; omega) ?_
          intro g cp7 w7 ho7 hg7 hf7
          have hbo : ∀ j, (Value.slice oa vs.length oc).ownBlock = some j → (w.heap.size + 2) + 1 ≤ j := fun j e => (HOw.out.lt j e).1
          have hk7 : Below ((w.heap.size + 2) + 1) wr w7 := (below_dN (.refl _ _) 1).grown hg7 (by show (w.heap.size + 2) + 1 ≤ wr.heap.size; omega) hbo
          have hq7 := (hk7.block (w.heap.size + 2) (by omega)).trans HOu.out
          have x0 := row_cells (i := 0) hq7 rfl
          have xw0 := row_warm hq7 0
          have z0 : w7.cell? ⟨w.heap.size, 0, none⟩ = some (.slice (some ⟨b, off, none⟩) P.length pcap) := (World.cell?_of_block (hk7.block _ (by show w.heap.size < (w.heap.size + 2) + 1; omega))).trans y0
          have z1 : w7.cell? ⟨b, off + k, none⟩ = some (.slice ca p.length cc) := (World.cell?_of_block (hk7.block _ (by show b < (w.heap.size + 2) + 1; omega))).trans d0
          refine hK.out _ _ ⟨z0, z1⟩ (fun hHeld => ?_)
          clear hK K
          try simp only [Act.put, List.setIfInBounds_toArray, List.set_cons_zero, List.set_cons_succ]
          refine hd_take 10 rfl (by kernel_rfl) (by kernel_rfl) (by kernel_rfl) (fun _ _ _ h => h) (by rfl) (by intro w hSw; (try dsimp only at hSw); obtain ⟨hs1, hs2⟩ := hSw; go_simp; first | done | with_reducible rfl) hHeld ?_
          try simp only [Act.put, List.setIfInBounds_toArray, List.set_cons_zero, List.set_cons_succ]
          refine hd_step 11 (by kernel_rfl) rfl (fun K hK => ?_)
          go_simp
          have hne1 : w.heap.size ≠ (w.heap.size + 2) := by omega
          have hne2 : b ≠ (w.heap.size + 2) := by omega
          refine hK.out _ _ ⟨(World.cell?_setCell_other _ _ _ _ (fun e => hne1 (by injection e with e1; first | exact e1 | exact e1.symm))).trans z0, (World.cell?_setCell_other _ _ _ _ (fun e => hne2 (by injection e with e1; first | exact e1 | exact e1.symm))).trans z1⟩ (fun hHeld => ?_)
          clear hK K
          try simp only [Act.put, List.setIfInBounds_toArray, List.set_cons_zero, List.set_cons_succ]
          refine wpAnyH_done (by kernel_rfl) ?_ _
          have HB8 := Lib.hid (show Below (w.heap.size + 2) w3 (w7.setCell ⟨(w.heap.size + 2), 0, none⟩ (.slice (some ⟨g, 0, none⟩) (vs.length + 1) cp7)) from (HBl.out.trans ((hk7.mono (Nat.le_succ (w.heap.size + 2))))).setCell (Nat.le_refl _) _)
          have HOu8 := Lib.hid (show (w7.setCell ⟨(w.heap.size + 2), 0, none⟩ (.slice (some ⟨g, 0, none⟩) (vs.length + 1) cp7)).heap[(w.heap.size + 2)]? = some (.cells #[.slice (some ⟨g, 0, none⟩) (vs.length + 1) cp7, .slice sl (min 100 s.length) scap, .int .i64 c] 53 (0, 0)) from heap_setCell_same _ _ _ _ _ _ hq7)
          have HOw8 := Lib.hid (show (w7.setCell ⟨(w.heap.size + 2), 0, none⟩ (.slice (some ⟨g, 0, none⟩) (vs.length + 1) cp7)).ownsRow ((w.heap.size + 2) + 1) 35 1 (.slice (some ⟨g, 0, none⟩) (vs.length + 1) cp7) (vs.length + 1) (vs ++ [.slice ca (min 20 p.length) cc]) from owns_store ho7 (Nat.lt_succ_self (w.heap.size + 2)))
          clear hHeld z0 z1 y0 d0 ya0 da0 x0 xw0 hq7 hk7 hbo ho7 hg7 hf7 HOw HOu HBl
          go_wp2_with fail
          go_roundw
          case rel => exact ⟨k + 1, _, vs ++ [.slice ca (min 20 p.length) cc], by omega, by omega, by go_num, HB8.out, HOu8.out, by rw [List.length_append]; exact HOw8.out, HVn.out⟩
          case measure => simp [intOf] <;> omega
      · have hke : k = min 4 P.length := by omega
        have h2 : (¬ (k : Int) < (P.length : Int)) ∨ ((k : Int) < (P.length : Int) ∧ ¬ (k : Int) < 4) := by omega
        have HT := Lib.hid (show us.take k = us.take 4 by
          by_cases h : k < P.length
          · rw [show k = 4 by omega]
          · rw [List.take_of_length_le (by omega), List.take_of_length_le (i := 4) (by omega)])
        have hqo : w.heap.size + 1 < (w.heap.size + 2) := by omega
        have hr := (HBl.out.block (w.heap.size + 1) hqo).trans HR3.out
        have r0 := row_cells (i := 0) hr rfl
        have r1 := row_cells (i := 1) hr rfl
        have r2 := row_cells (i := 2) hr rfl
        have rw0 := row_warm hr 0
        have rw1 := row_warm hr 1
        have rw2 := row_warm hr 2
        have u0 := row_cells (i := 0) HOu.out rfl
        have u1 := row_cells (i := 1) HOu.out rfl
        have u2 := row_cells (i := 2) HOu.out rfl
        have HBw := Lib.hid (show Below w.heap.size w wr from HB3.out.trans (HBl.out.mono (by omega)))
        have hoa : w.heap.size ≤ w.heap.size + 1 := by omega
        have hvw : ∀ (W : World), Kept (fun j => j = w.heap.size + 1) wr W → W.ownsRow w.heap.size 35 1 (.slice oa vs.length oc) vs.length vs := by
          intro W hk
          exact owns_lower (HOw.out.kept (show wr.grownBy W (some (w.heap.size + 1)) from ⟨hk.os, hk.tape, hk.output, hk.size, fun j hj hn => hk.block j hj (by intro e; exact hn (by rw [e]))⟩) (by
            rcases hob : (Value.slice oa vs.length oc).ownBlock with _ | j
            · exact .inl rfl
            · refine .inr (fun e => ?_)
              have := (HOw.out.lt j hob).1
              injection e with e
              omega)) (by omega)
        have hln : vs.length = (fewP P).length := by rw [HVl.out]; unfold fewP; rw [List.length_map, List.length_take]; omega
        have HLn := Lib.hid hln
        have hel2 : ∀ (i : Nat) (u : Value) (l : List Int), vs[i]? = some u → (fewP P)[i]? = some l → RunesIn w0 u l := by
          intro i u l hu hl
          unfold fewP at hl
          rw [List.getElem?_map, List.getElem?_take] at hl
          rw [HVs.out, HT.out, List.getElem?_map, List.getElem?_take] at hu
          split at hl
          · rename_i hi
            rw [if_pos hi] at hu
            rcases hp : P[i]? with _ | p
            · rw [hp] at hl; cases hl
            · rcases hc : us[i]? with _ | q
              · rw [hc] at hu; cases hu
              · rw [hp] at hl
                rw [hc] at hu
                cases hl
                cases hu
                exact few_runes (HEl.out i q p hc hp) 20
          · cases hl
        have HEl2 := Lib.hid hel2
        clear hln hel2
        have HVw := Lib.hid hvw
        clear hvw hr hlt
        rcases h2 with s0 | ⟨s0, s1⟩
        all_goals
          go_wp2_with fail
          refine ret_cell1 (ad := ⟨w.heap.size + 1, 0, none⟩) rfl rfl (run_loadVar_mid _ _ 0 _ [.slice oa vs.length oc, .slice sl (min 100 s.length) scap, .int .i64 c] _ (range3s (by go_simp) (by go_simp) (by go_simp)) Tryz.underlying53 rfl (by kernel_rfl)) rfl ?_
          have hB9 := ((HBw.out.setCell (show w.heap.size ≤ (⟨w.heap.size + 1, 0, none⟩ : Addr).block from hoa) (.slice oa vs.length oc)).setCell (show w.heap.size ≤ (⟨w.heap.size + 1, 1, none⟩ : Addr).block from hoa) (.slice sl (min 100 s.length) scap)).setCell (show w.heap.size ≤ (⟨w.heap.size + 1, 2, none⟩ : Addr).block from hoa) (.int .i64 c)
          exact ⟨_, _, rfl, hB9, vs, HVw.out _ kept_three, HLn.out, HEl2.out, HS100.out⟩
end Go.Proofs.YtkeainhjghdfcaaGreat
