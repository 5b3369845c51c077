/- Joined texts: UnitL. -/
import Derived.Test.YtblajooebmjfoaaGreatZfaa
import Derived.Test.YtblajooebmjfoaaGreatZeac
/- UnitsAt: its walk. -/
namespace Go.Proofs.YtblajooebmjfoaaGreat
open Go.RowKit

theorem endP_PLs' {R : List Rw} {s : List Int} : endP (PLs R s) = PL R s s.length := by
  unfold endP
  rw [PLs_len, Nat.add_sub_cancel, PLs_get (Nat.le_refl _)]
  rfl
set_option maxRecDepth 100000 in
set_option maxHeartbeats 8000000 in
theorem unitsAt_any (v0 : Value) (l0 : List Int) (kind n : Int) (w : World) (hl : RunesIn w v0 l0) (hok : RunesOk l0) :
    Calls Tryz.prog 4 #[v0, .int .i64 kind, .int .i64 n] w fun e w' => e = .returned (.bool true) ∧ Below w.heap.size w w' := by
  obtain ⟨R, HFc, hrows⟩ := apiRows_any
  have HF := Lib.hid HFc
  have HRows := Lib.hid hrows
  have HTk := Lib.hid HFc.seg.tab
  have HFew := Lib.hid (few_any hl 40)
  clear HFc hrows hl
  obtain ⟨l, hll⟩ : ∃ l, l = l0.take 40 := ⟨_, rfl⟩
  rw [← hll] at HFew
  have HOk := Lib.hid (show RunesOk l by rw [hll]; exact hok.take 40)
  have hlen : l.length ≤ 40 := by rw [hll, List.length_take]; omega
  clear hll hok
  go_enter Tryz.func4, Tryz.ntmps4
  go_wp2_with fail
  refine HFew.out.mono ?_
  rintro e w' ⟨⟨sv, rfl, hS⟩, rfl⟩
  have HS := Lib.hid hS
  obtain ⟨sl, cap, rfl, _, _, _⟩ := runes_cells hS
  clear hS HFew
  go_wp2_with fail
  refine (HRows.out w).mono ?_
  rintro e w1 ⟨v, rfl, hB1, hR1⟩
  have HB1 := Lib.hid hB1
  have HR1 := Lib.hid hR1
  have HS1 := Lib.hid (HS.out.below hB1)
  clear hB1 hR1 HS
  go_wp2_with fail
  refine (build_tb v R w1 HR1.out HF.out.ok).mono ?_
  rintro e w2 ⟨tp, rfl, hB2, hT⟩
  have HT2 := Lib.hid hT
  have HR2 := Lib.hid (HR1.out.below hB2)
  have HS2 := Lib.hid (HS1.out.below hB2)
  have HB2 := Lib.hid (below_trans' HB1.out hB2)
  clear hB2 hT HB1 HR1 HS1
  go_wp2_with fail
  refine (uof_any HTk.out HT2.out HS2.out HOk.out (by omega)).mono ?_
  rintro e w3 ⟨u, rfl, hB3, hM⟩
  have HPw := Lib.hid (PLs_mono (s := l) HTk.out)
  have hLl : (PLs R l).length ≤ 1114112 := by rw [PLs_len]; omega
  have HZ0 := Lib.hid (show (PLs R l)[0]? = some noP by rw [PLs_get (Nat.zero_le _), PL_zero])
  have HAll := Lib.hid (fun (W : World) (h1 : RowsIn W v R) (h2 : RunesIn W (.slice sl l.length cap) l) => rall_any HTk.out h1 h2 HOk.out (by omega))
  have hLen : (PLs R l).length = l.length + 1 := PLs_len
  have HEx := Lib.hid (show (PLs R l)[l.length]? = some (endP (PLs R l)) by rw [endP_PLs', PLs_get (Nat.le_refl _)])
  generalize PLs R l = L at hM HPw hLl HZ0 HAll hLen HEx
  have HM3 := Lib.hid hM
  obtain ⟨mv, rfl, hR⟩ := hM
  obtain ⟨sa, sc, he, _, _⟩ := ps_shape hR
  rw [hLen] at he
  subst he
  have hb4 := below1 w3 (.cells #[.slice sa (l.length + 1) sc] 41)
  have C0 := Lib.hid (row_cells (i := 0) (heap_alloc_new w3 (.cells #[.slice sa (l.length + 1) sc] 41)) rfl)
  have HM4 := Lib.hid (HM3.out.below hb4)
  have HR4 := Lib.hid ((HR2.out.below hB3).below hb4)
  have HS4 := Lib.hid ((HS2.out.below hB3).below hb4)
  have HB4 := Lib.hid (below_trans' (below_trans' HB2.out hB3) hb4)
  clear hB3 HB2 HR2 HS2 HT2 hR hb4 HM3
  go_wp2_with fail
  generalize w3.alloc (.cells #[.slice sa (l.length + 1) sc] 41) = w4 at C0 HM4 HR4 HS4 HB4 ⊢
  generalize w3.heap.size = xb at C0 ⊢
  refine (HAll.out w4 HR4.out HS4.out).mono ?_
  rintro e w5 ⟨au, rfl, hB5, hA⟩
  have c0 := cell_later hB5 C0.out
  have HA5 := Lib.hid hA
  have HM5 := Lib.hid (HM4.out.below hB5)
  have HB5 := Lib.hid (below_trans' HB4.out hB5)
  clear hB5 HB4 HR4 HS4 HAll HM4 C0 hA
  go_wp2_with fail
  refine (uat_any kind n HM5.out HPw.out hLl).mono ?_
  rintro e w6 ⟨rfl, hB6⟩
  obtain ⟨p, hp⟩ : ∃ p, p = atP L kind n := ⟨_, rfl⟩
  have HP := Lib.hid hp
  rw [← hp]
  obtain ⟨o, ho⟩ : ∃ o, o = kindOk kind := ⟨_, rfl⟩
  have HO := Lib.hid ho
  rw [← ho]
  obtain ⟨p0, p1, p2, p3, p4⟩ := p
  unfold psV
  have hb7 := below1 w6 (.cells #[.int .i64 p0, .int .i64 p1, .int .i64 p2, .int .i64 p3, .int .i64 p4] 46)
  have HRp := Lib.hid (heap_alloc_new w6 (.cells #[.int .i64 p0, .int .i64 p1, .int .i64 p2, .int .i64 p3, .int .i64 p4] 46))
  have c0 := cell_later hb7 (cell_later hB6 c0)
  have HA7 := Lib.hid ((PsIn.below HA5.out hB6).below hb7)
  have HM7 := Lib.hid ((HM5.out.below hB6).below hb7)
  have HB7 := Lib.hid (below_trans' (below_trans' HB5.out hB6) hb7)
  clear hB6 hb7 HB5 HA5 HM5 hp ho
  go_wp2_with fail
  generalize w6.alloc (.cells #[.int .i64 p0, .int .i64 p1, .int .i64 p2, .int .i64 p3, .int .i64 p4] 46) = w7 at c0 HRp HA7 HM7 HB7 ⊢
  generalize w6.heap.size = pb at HRp ⊢
  refine (rat_any kind n HA7.out HPw.out HZ0.out hLl).mono ?_
  rintro e w8 ⟨rfl, hB8⟩
  rw [← HP.out, ← HO.out]
  unfold psV
  have hb9 := below1 w8 (.cells #[.int .i64 p0, .int .i64 p1, .int .i64 p2, .int .i64 p3, .int .i64 p4] 45)
  have hrq := heap_alloc_new w8 (.cells #[.int .i64 p0, .int .i64 p1, .int .i64 p2, .int .i64 p3, .int .i64 p4] 45)
  have hrp8 := (hB8.block _ (row_len HRp.out)).trans HRp.out
  have hrp := (hb9.block _ (row_len hrp8)).trans hrp8
  have c0 := cell_later hb9 (cell_later hB8 c0)
  have HA9 := Lib.hid ((PsIn.below HA7.out hB8).below hb9)
  have HM9 := Lib.hid ((HM7.out.below hB8).below hb9)
  have HB9 := Lib.hid (below_trans' (below_trans' HB7.out hB8) hb9)
  clear hB8 hb9 HB7 HA7 HM7 HRp hrp8 HP HO
  go_upto_region 7 with fail
  generalize w8.alloc (.cells #[.int .i64 p0, .int .i64 p1, .int .i64 p2, .int .i64 p3, .int .i64 p4] 45) = w9 at c0 hrq hrp HA9 HM9 HB9 ⊢
  generalize w8.heap.size = qb at hrq ⊢
  obtain ⟨E, hE⟩ : ∃ E, E = endP L := ⟨_, rfl⟩
  rw [← hE] at HEx
  have HE := Lib.hid hE
  clear hE
  obtain ⟨E0, E1, E2, E3, E4⟩ := E
  obtain ⟨ab, aoff, acap, hv, _, _, _, _, a0, a1, a2, a3, a4⟩ := ps_cells HA9.out HEx.out
  subst hv
  have y0 := row_cells (i := 0) hrp rfl
  have y1 := row_cells (i := 1) hrp rfl
  have y2 := row_cells (i := 2) hrp rfl
  have y3 := row_cells (i := 3) hrp rfl
  have y4 := row_cells (i := 4) hrp rfl
  have z0 := row_cells (i := 0) hrq rfl
  have z1 := row_cells (i := 1) hrq rfl
  have z2 := row_cells (i := 2) hrq rfl
  have z3 := row_cells (i := 3) hrq rfl
  have z4 := row_cells (i := 4) hrq rfl
  have s0 : (l.length : Int) < (L.length : Int) := by omega
  have s1 : (0 : Int) ≤ (l.length : Int) := by omega
  have t1 := fun W : World => eqin_arr5 45 (by kernel_rfl) (p0, p1, p2, p3, p4) (p0, p1, p2, p3, p4) W
  have t2 := fun W : World => eqin_arr5 45 (by kernel_rfl) (E0, E1, E2, E3, E4) (E0, E1, E2, E3, E4) W
  simp only [decide_true] at t1 t2
  have HLen := Lib.hid (fun (W : World) (h : MapIn W (.agg #[.slice sa (l.length + 1) sc]) L) => ulen_any h)
  rw [← HE.out] at HLen
  unfold psV at HLen
  clear hrp hrq hLen
  go_region_held3 (fun w' => w'.cell? ⟨xb, 0, none⟩ = some (.slice sa (l.length + 1) sc) ∧ w'.cell? ⟨pb, 0, none⟩ = some (.int .i64 p0) ∧ w'.cell? ⟨pb, 1, none⟩ = some (.int .i64 p1) ∧ w'.cell? ⟨pb, 2, none⟩ = some (.int .i64 p2) ∧ w'.cell? ⟨pb, 3, none⟩ = some (.int .i64 p3) ∧ w'.cell? ⟨pb, 4, none⟩ = some (.int .i64 p4) ∧ w'.cell? ⟨qb, 0, none⟩ = some (.int .i64 p0) ∧ w'.cell? ⟨qb, 1, none⟩ = some (.int .i64 p1) ∧ w'.cell? ⟨qb, 2, none⟩ = some (.int .i64 p2) ∧ w'.cell? ⟨qb, 3, none⟩ = some (.int .i64 p3) ∧ w'.cell? ⟨qb, 4, none⟩ = some (.int .i64 p4) ∧ w'.cell? ⟨ab, aoff + l.length * 5, none⟩ = some (.int .i64 E0) ∧ w'.cell? ⟨ab, aoff + l.length * 5 + 1, none⟩ = some (.int .i64 E1) ∧ w'.cell? ⟨ab, aoff + l.length * 5 + 2, none⟩ = some (.int .i64 E2) ∧ w'.cell? ⟨ab, aoff + l.length * 5 + 3, none⟩ = some (.int .i64 E3) ∧ w'.cell? ⟨ab, aoff + l.length * 5 + 4, none⟩ = some (.int .i64 E4)) (first | exact HSB.out | exact HSA.out | exact ⟨c0, y0, y1, y2, y3, y4, z0, z1, z2, z3, z4, a0, a1, a2, a3, a4⟩ | go_keep)
    (first
      | (go_at_call 23; refine (HLen.out _ (show MapIn (w9.drewN 1) _ _ from HM9.out)).mono ?_; rintro e w10 ⟨rfl, hB10⟩; have HSA := Lib.hid (show _ ∧ _ ∧ _ ∧ _ ∧ _ ∧ _ ∧ _ ∧ _ ∧ _ ∧ _ ∧ _ ∧ _ ∧ _ ∧ _ ∧ _ ∧ _ from ⟨cell_later hB10 (show (w9.drewN 1).cell? _ = _ from c0), cell_later hB10 (show (w9.drewN 1).cell? _ = _ from y0), cell_later hB10 (show (w9.drewN 1).cell? _ = _ from y1), cell_later hB10 (show (w9.drewN 1).cell? _ = _ from y2), cell_later hB10 (show (w9.drewN 1).cell? _ = _ from y3), cell_later hB10 (show (w9.drewN 1).cell? _ = _ from y4), cell_later hB10 (show (w9.drewN 1).cell? _ = _ from z0), cell_later hB10 (show (w9.drewN 1).cell? _ = _ from z1), cell_later hB10 (show (w9.drewN 1).cell? _ = _ from z2), cell_later hB10 (show (w9.drewN 1).cell? _ = _ from z3), cell_later hB10 (show (w9.drewN 1).cell? _ = _ from z4), cell_later hB10 (show (w9.drewN 1).cell? _ = _ from a0), cell_later hB10 (show (w9.drewN 1).cell? _ = _ from a1), cell_later hB10 (show (w9.drewN 1).cell? _ = _ from a2), cell_later hB10 (show (w9.drewN 1).cell? _ = _ from a3), cell_later hB10 (show (w9.drewN 1).cell? _ = _ from a4)⟩); have HB10 := Lib.hid (below_trans' (below_dN HB9.out 1) hB10); clear hB10)
      | (go_at_call 24; refine (awake41_any w10).mono ?_; rintro e w11 ⟨rfl, hB11⟩; obtain ⟨b0, b1, b2, b3, b4, b5, b6, b7, b8, b9, b10, b11, b12, b13, b14, b15⟩ := HSA.out; have HSB := Lib.hid (show _ ∧ _ ∧ _ ∧ _ ∧ _ ∧ _ ∧ _ ∧ _ ∧ _ ∧ _ ∧ _ ∧ _ ∧ _ ∧ _ ∧ _ ∧ _ from ⟨cell_later hB11 b0, cell_later hB11 b1, cell_later hB11 b2, cell_later hB11 b3, cell_later hB11 b4, cell_later hB11 b5, cell_later hB11 b6, cell_later hB11 b7, cell_later hB11 b8, cell_later hB11 b9, cell_later hB11 b10, cell_later hB11 b11, cell_later hB11 b12, cell_later hB11 b13, cell_later hB11 b14, cell_later hB11 b15⟩); have HB11 := Lib.hid (below_trans' HB10.out hB11); clear hB11 b0 b1 b2 b3 b4 b5 b6 b7 b8 b9 b10 b11 b12 b13 b14 b15)
      | fail)
  all_goals
    go_wp2_with fail
    go_ret
    exact ⟨rfl, HB11.out⟩
end Go.Proofs.YtblajooebmjfoaaGreat
