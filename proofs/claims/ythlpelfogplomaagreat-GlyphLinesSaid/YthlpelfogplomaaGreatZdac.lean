/- Joined texts: DecB DecC GlyS. -/
import Derived.Lib.ConvBytes
import Derived.Test.YthlpelfogplomaaGreatZdab
import Derived.Test.YthlpelfogplomaaGreatZaaa
import Derived.Test.YthlpelfogplomaaGreatZcaa
import Derived.Test.YthlpelfogplomaaGreatZdaa
/- utf: a decoder takes a byte. -/
namespace Go.Proofs.YthlpelfogplomaaGreat
open Go.RowKit

/-- states that a decoder may be in -/
structure DcOk (d : Dc) : Prop where
  nd : 0 ≤ d.nd ∧ d.nd ≤ 3
  hv : 0 ≤ d.hv ∧ d.nd + d.hv ≤ 4
  vl : 0 ≤ d.vl ∧ (d.nd = 3 → d.vl < 8) ∧ (d.nd = 2 → d.vl < 512) ∧ (d.nd = 1 → d.vl < 32768)
theorem dcOk_of {nd hv lo hi vl : Int} (h1 : 0 ≤ nd ∧ nd ≤ 3) (h2 : 0 ≤ hv ∧ nd + hv ≤ 4) (h3 : 0 ≤ vl ∧ (nd = 3 → vl < 8) ∧ (nd = 2 → vl < 512) ∧ (nd = 1 → vl < 32768)) : DcOk ⟨nd, hv, lo, hi, vl⟩ := ⟨h1, h2, h3⟩
theorem dcOk_0 : DcOk Dc0 := dcOk_of (by omega) (by omega) (by omega)
theorem dcOk_first {b : Int} (_h0 : 0 ≤ b) (_h1 : b ≤ 255) : DcOk (fstD b).1 := by
  unfold fstD
  split
  · exact dcOk_0
  · split
    · exact dcOk_0
    · show DcOk (Dc1 b)
      unfold Dc1
      by_cases c1 : b < 224
      · rw [if_pos c1, if_pos c1]
        exact dcOk_of (by omega) (by omega) (by omega)
      · rw [if_neg c1, if_neg c1]
        by_cases c2 : b < 240
        · rw [if_pos c2, if_pos c2]
          exact dcOk_of (by omega) (by omega) (by omega)
        · rw [if_neg c2, if_neg c2]
          exact dcOk_of (by omega) (by omega) (by omega)
theorem dcOk_feed {d : Dc} (hd : DcOk d) {b : Int} (h0 : 0 ≤ b) (h1 : b ≤ 255) : DcOk (fdD d b).1 := by
  unfold fdD
  split
  · exact dcOk_first h0 h1
  · split
    · exact dcOk_first h0 h1
    · split
      · exact dcOk_0
      · obtain ⟨n1, n2⟩ := hd.nd
        obtain ⟨v1, v2⟩ := hd.hv
        obtain ⟨u1, u2, u3, u4⟩ := hd.vl
        refine ⟨⟨?_, ?_⟩, ⟨?_, ?_⟩, ⟨?_, ?_, ?_, ?_⟩⟩
        · show 0 ≤ d.nd - 1; omega
        · show d.nd - 1 ≤ 3; omega
        · show 0 ≤ d.hv + 1; omega
        · show d.nd - 1 + (d.hv + 1) ≤ 4; omega
        · show 0 ≤ d.vl * 64 + b % 64; omega
        · show d.nd - 1 = 3 → _; omega
        · show d.nd - 1 = 2 → d.vl * 64 + b % 64 < 512
          intro h
          have := u2 (by omega)
          omega
        · show d.nd - 1 = 1 → d.vl * 64 + b % 64 < 32768
          intro h
          have := u3 (by omega)
          omega
theorem oper_app_rd {P : Program} (w : World) {o : Oper} {act : Act} {K : Act → World → Prop} {Q : Exit → Act → World → Prop} (s x : Operand) (t : TypeId)
    (ho : o.op = .call { callee := .builtin .append, args := #[s, x], argTypes := #[t, t] })
    {base e size bytes B : Nat} (E : ElemT P t e size bytes) (v : Value) (n : Nat) (xs : List Value) (hs : act.eval s = v) (hown : w.ownsRow base e size v n xs)
    (u : Value) (m : Nat) (news : List Value) (hx : act.eval x = u) (hR : Rd B w size u m news) (h1 : ∀ u ∈ news, u.oneCell' = true)
    (hbytes : (n + m) * bytes ≤ 140737488355328) (hbase : base ≤ w.heap.size)
    (h : ∀ v' w', w'.ownsRow base e size v' (n + m) (xs ++ news) → w.grownBy w' v.ownBlock → K (act.put o.dst v') w') : o.wp P act w K Q := by
  obtain ⟨v', w', hr, h2, h3⟩ := run_app_rd (P := P) (ty := o.type) w E v n xs hown u m news hR h1 hbytes hbase
  unfold Oper.wp execOp
  simp only [ho, resolve, invoke, builtin, Sem.run_bind, Sem.run_pure, Result.andThen_ok, List.map_toArray, List.map_cons, List.map_nil, hs, hx, hr]
  exact h v' w' h2 h3
theorem range_far {w : World} {p b i : Nat} {u : Value} {xs : List Value} (h : w.rangeAt p 0 xs) (hne : p ≠ b) : (w.setCell ⟨b, i, none⟩ u).rangeAt p 0 xs := fun j x hx =>
  (World.cell?_setCell_other _ _ _ _ (fun e => hne (by injection e with e1; first | exact e1 | exact e1.symm))).trans (h j x hx)
theorem range_stays {w w' : World} {p : Nat} {xs : List Value} (h : w.rangeAt p 0 xs) (hb : w'.heap[p]? = w.heap[p]?) : w'.rangeAt p 0 xs := fun j x hx => (World.cell?_of_block hb).trans (h j x hx)
set_option maxRecDepth 100000 in
set_option maxHeartbeats 8000000 in
theorem feed_any (d : Dc) (hd : DcOk d) (b : Int) (h0 : 0 ≤ b) (h1 : b ≤ 255) (w : World) : Calls Tryz.prog 100 #[dcV d, .int .u8 b] w (FdPost (fdD d b) w) := by
  have HOk := Lib.hid hd
  obtain ⟨n1, n2⟩ := hd.nd
  obtain ⟨v1, v2⟩ := hd.hv
  obtain ⟨u1, u2, u3, u4⟩ := hd.vl
  obtain ⟨nd, hv, lo, hi, vl⟩ := d
  dsimp only at n1 n2 v1 v2 u1 u2 u3 u4
  have HF := Lib.hid (first_any b h0 h1)
  clear hd
  unfold dcV
  dsimp only
  by_cases c0 : nd = 0
  · subst c0
    have HD := Lib.hid (show fdD ⟨0, hv, lo, hi, vl⟩ b = fstD b by unfold fdD; rw [if_pos rfl])
    go_enter Tryz.func100, Tryz.ntmps100
    go_wp2_with fail
    have hb2 := Lib.hid (((Below.refl w.heap.size w).alloc (Nat.le_refl _) (.cells #[.int .i64 0, .int .i64 hv, .int .u8 lo, .int .u8 hi, .int .i32 vl] 191)).alloc (by simp) (.cells #[.int .i64 0, .int .i64 0, .int .u8 0, .int .u8 0, .int .i32 0] 191))
    have hr2 := Lib.hid (show ((w.alloc (.cells #[.int .i64 0, .int .i64 hv, .int .u8 lo, .int .u8 hi, .int .i32 vl] 191)).alloc (.cells #[.int .i64 0, .int .i64 0, .int .u8 0, .int .u8 0, .int .i32 0] 191)).heap[w.heap.size + 1]? = some (.cells #[.int .i64 0, .int .i64 0, .int .u8 0, .int .u8 0, .int .i32 0] 191 (0, 0)) by
      have h := heap_alloc_new (w.alloc (.cells #[.int .i64 0, .int .i64 hv, .int .u8 lo, .int .u8 hi, .int .i32 vl] 191)) (.cells #[.int .i64 0, .int .i64 0, .int .u8 0, .int .u8 0, .int .i32 0] 191)
      rwa [show (w.alloc (.cells #[.int .i64 0, .int .i64 hv, .int .u8 lo, .int .u8 hi, .int .i32 vl] 191)).heap.size = w.heap.size + 1 by simp] at h)
    have hz2 : ((w.alloc (.cells #[.int .i64 0, .int .i64 hv, .int .u8 lo, .int .u8 hi, .int .i32 vl] 191)).alloc (.cells #[.int .i64 0, .int .i64 0, .int .u8 0, .int .u8 0, .int .i32 0] 191)).heap.size = w.heap.size + 2 := by simp
    generalize ((w.alloc (.cells #[.int .i64 0, .int .i64 hv, .int .u8 lo, .int .u8 hi, .int .i32 vl] 191)).alloc (.cells #[.int .i64 0, .int .i64 0, .int .u8 0, .int .u8 0, .int .i32 0] 191)) = w2 at hb2 hr2 hz2 ⊢
    refine (HF.out w2).mono ?_
    rintro e w3 ⟨u, rfl, hB3, hU3⟩
    have HB3 := Lib.hid (hb2.out.trans (hB3.mono hb2.out.size))
    have HU3 := Lib.hid hU3
    have hr3 := (hB3.block _ (row_len hr2.out)).trans hr2.out
    have z0 := row_cells (i := 0) hr3 rfl
    have zw0 := row_warm hr3 0
    have z1 := row_cells (i := 1) hr3 rfl
    have zw1 := row_warm hr3 1
    have z2 := row_cells (i := 2) hr3 rfl
    have zw2 := row_warm hr3 2
    have z3 := row_cells (i := 3) hr3 rfl
    have zw3 := row_warm hr3 3
    have z4 := row_cells (i := 4) hr3 rfl
    have zw4 := row_warm hr3 4
    clear hB3 hU3 hr3 hr2 hb2
    unfold dcV
    obtain ⟨p, hp⟩ : ∃ p, p = fstD b := ⟨_, rfl⟩
    rw [← hp] at HD HU3 ⊢
    clear hp HF
    obtain ⟨p, l⟩ := p
    dsimp only at HU3 ⊢
    go_wp2_with fail
    refine ret_cell_tmp (x := u) (ad := ⟨w.heap.size + 1, 0, none⟩) rfl rfl rfl (run_loadVar_mid _ _ 0 _ [.int .i64 p.nd, .int .i64 p.hv, .int .u8 p.lo, .int .u8 p.hi, .int .i32 p.vl] _ (range5' (by go_simp) (by go_simp) (by go_simp) (by go_simp) (by go_simp)) Tryz.underlying191 rfl (by kernel_rfl)) rfl ?_
    rw [HD.out]
    exact ⟨_, rfl, (((((HB3.out).setCell (by show w.heap.size ≤ w.heap.size + 1; omega) _).setCell (by show w.heap.size ≤ w.heap.size + 1; omega) _).setCell (by show w.heap.size ≤ w.heap.size + 1; omega) _).setCell (by show w.heap.size ≤ w.heap.size + 1; omega) _).setCell (by show w.heap.size ≤ w.heap.size + 1; omega) _, owns_lower (owns_store (owns_store (owns_store (owns_store (owns_store HU3.out (by omega)) (by omega)) (by omega)) (by omega)) (by omega)) (by omega)⟩
  have g0 : (nd == 0) = false := by simpa using c0
  by_cases cb : b < lo ∨ hi < b
  · have HD := Lib.hid (show fdD ⟨nd, hv, lo, hi, vl⟩ b = ((fstD b).1, 65533 :: (fstD b).2) by unfold fdD; rw [if_neg c0, if_pos cb])
    have cb2 : b < lo ∨ (decide (b < lo) = false ∧ b > hi) := by
      by_cases h : b < lo
      · exact .inl h
      · exact .inr ⟨decide_eq_false h, by omega⟩
    clear cb
    rcases cb2 with q1 | ⟨q1, q2⟩
    all_goals
      go_enter Tryz.func100, Tryz.ntmps100
      go_wp2_with fail
      have hb2 := Lib.hid (((Below.refl w.heap.size w).alloc (Nat.le_refl _) (.cells #[.int .i64 nd, .int .i64 hv, .int .u8 lo, .int .u8 hi, .int .i32 vl] 191)).alloc (by simp) (.cells #[.int .i64 0, .int .i64 0, .int .u8 0, .int .u8 0, .int .i32 0] 191))
      have hr2 := Lib.hid (show ((w.alloc (.cells #[.int .i64 nd, .int .i64 hv, .int .u8 lo, .int .u8 hi, .int .i32 vl] 191)).alloc (.cells #[.int .i64 0, .int .i64 0, .int .u8 0, .int .u8 0, .int .i32 0] 191)).heap[w.heap.size + 1]? = some (.cells #[.int .i64 0, .int .i64 0, .int .u8 0, .int .u8 0, .int .i32 0] 191 (0, 0)) by
        have h := heap_alloc_new (w.alloc (.cells #[.int .i64 nd, .int .i64 hv, .int .u8 lo, .int .u8 hi, .int .i32 vl] 191)) (.cells #[.int .i64 0, .int .i64 0, .int .u8 0, .int .u8 0, .int .i32 0] 191)
        rwa [show (w.alloc (.cells #[.int .i64 nd, .int .i64 hv, .int .u8 lo, .int .u8 hi, .int .i32 vl] 191)).heap.size = w.heap.size + 1 by simp] at h)
      have hz2 : ((w.alloc (.cells #[.int .i64 nd, .int .i64 hv, .int .u8 lo, .int .u8 hi, .int .i32 vl] 191)).alloc (.cells #[.int .i64 0, .int .i64 0, .int .u8 0, .int .u8 0, .int .i32 0] 191)).heap.size = w.heap.size + 2 := by simp
      generalize ((w.alloc (.cells #[.int .i64 nd, .int .i64 hv, .int .u8 lo, .int .u8 hi, .int .i32 vl] 191)).alloc (.cells #[.int .i64 0, .int .i64 0, .int .u8 0, .int .u8 0, .int .i32 0] 191)) = w2 at hb2 hr2 hz2 ⊢
      refine (HF.out w2).mono ?_
      rintro e w3 ⟨u, rfl, hB3, hU3⟩
      have HB3 := Lib.hid (hb2.out.trans (hB3.mono hb2.out.size))
      have HU3 := Lib.hid hU3
      have hr3 := (hB3.block _ (row_len hr2.out)).trans hr2.out
      unfold dcV
      obtain ⟨p, hp⟩ : ∃ p, p = fstD b := ⟨_, rfl⟩
      rw [← hp] at HD HU3 ⊢
      have hpl : p.2.length ≤ 1 := by rw [hp]; unfold fstD; split <;> (try split) <;> simp
      clear hp HF
      obtain ⟨p, l⟩ := p
      dsimp only at HU3 HD hpl ⊢
      have hs3 := hB3.size
      have hb4 := below1 w3 (.cells #[.int .i64 p.nd, .int .i64 p.hv, .int .u8 p.lo, .int .u8 p.hi, .int .i32 p.vl] 191)
      have HB4 := Lib.hid (HB3.out.alloc HB3.out.size (.cells #[.int .i64 p.nd, .int .i64 p.hv, .int .u8 p.lo, .int .u8 p.hi, .int .i32 p.vl] 191))
      have HU4 := Lib.hid (owns_stays HU3.out hb4)
      have hr4 := (hb4.block _ (row_len hr3)).trans hr3
      have hn4 := heap_alloc_new w3 (.cells #[.int .i64 p.nd, .int .i64 p.hv, .int .u8 p.lo, .int .u8 p.hi, .int .i32 p.vl] 191)
      have hlt3 := row_len hr3
      have hz4 : (w3.alloc (.cells #[.int .i64 p.nd, .int .i64 p.hv, .int .u8 p.lo, .int .u8 p.hi, .int .i32 p.vl] 191)).heap.size = w3.heap.size + 1 := by simp
      clear hB3 hU3 hr3 hr2 hb2 HB3 HU3 hb4
      go_upto_region 5 with fail
      generalize w3.alloc (.cells #[.int .i64 p.nd, .int .i64 p.hv, .int .u8 p.lo, .int .u8 p.hi, .int .i32 p.vl] 191) = w4 at HB4 HU4 hr4 hn4 hz4 ⊢
      generalize w3.heap.size = pb at hn4 hz4 hlt3 hs3 ⊢
      have hin : w4.rangeAt pb 0 [.int .i64 p.nd, .int .i64 p.hv, .int .u8 p.lo, .int .u8 p.hi, .int .i32 p.vl] := range5' (row_cells (i := 0) hn4 rfl) (row_cells (i := 1) hn4 rfl) (row_cells (i := 2) hn4 rfl) (row_cells (i := 3) hn4 rfl) (row_cells (i := 4) hn4 rfl)
      refine wp_region_held_drew (S := fun w' => w'.rangeAt pb 0 [.int .i64 p.nd, .int .i64 p.hv, .int .u8 p.lo, .int .u8 p.hi, .int .i32 p.vl]) (by kernel_rfl) hin (fun hHeld => ?_)
      refine hd_long 0 rfl (by kernel_rfl) (by kernel_rfl) (by kernel_rfl) _ _ rfl pb 0 rfl #[.int .i64 p.nd, .int .i64 p.hv, .int .u8 p.lo, .int .u8 p.hi, .int .i32 p.vl] _ (fun w' h => h) (fun _ _ _ h => h) (by rfl) Tryz.underlying191 rfl (by kernel_rfl) hHeld ?_
      try simp only [Act.put, List.setIfInBounds_toArray, List.set_cons_zero, List.set_cons_succ]
      refine hd_take 2 rfl (by kernel_rfl) (by kernel_rfl) (by kernel_rfl) (fun _ _ _ h => h) (by rfl) (by intro w hSw; (try dsimp only at hSw); go_simp; first | done | with_reducible rfl) hHeld ?_
      try simp only [Act.put, List.setIfInBounds_toArray, List.set_cons_zero, List.set_cons_succ]
      have hs5 : (w4.drew.alloc (.cells #[.int .i32 65533] 21)).rangeAt pb 0 [.int .i64 p.nd, .int .i64 p.hv, .int .u8 p.lo, .int .u8 p.hi, .int .i32 p.vl] := range_stays (w := w4.drew) hin (Below.heap_alloc w4.drew _ pb (by show pb < w4.heap.size; omega))
      refine hd_step 1 (by kernel_rfl) rfl (fun K hK => ?_)
      go_simp
      refine hK.out _ _ hs5 (fun hHeld => ?_)
      clear hK K
      try simp only [Act.put, List.setIfInBounds_toArray, List.set_cons_zero, List.set_cons_succ]
      have hb5 := below1 w4.drew (.cells #[.int .i32 65533] 21)
      have HU5 := Lib.hid (rd_of_owns (owns_stays (show w4.drew.ownsRow w2.heap.size 21 1 u l.length (l.flatMap runeE) from HU4.out) hb5))
      have hq : w4.drew.heap.size = pb + 1 := hz4
      have hol := owns_lit w4.drew #[.int .i32 65533] 21 (base := w.heap.size + 2) (size := 1) (n := 1) rfl (by decide) (by show w.heap.size + 2 ≤ w4.heap.size; omega)
      rw [hq] at hol
      have HO5 := Lib.hid hol
      clear hol hq
      have hr5 := (hb5.block (w.heap.size + 1) (by show w.heap.size + 1 < w4.heap.size; omega)).trans (show w4.drew.heap[w.heap.size + 1]? = _ from hr4)
      have HB5 := Lib.hid ((below_dN HB4.out 1).trans (hb5.mono (by show w.heap.size ≤ w4.heap.size; omega)))
      have hz5 : (w4.drew.alloc (.cells #[.int .i32 65533] 21)).heap.size = pb + 2 := by show (w4.alloc _).heap.size = _; simp; omega
      refine hd_step 3 (by kernel_rfl) rfl (fun K hK => ?_)
      rw [if_pos (by rfl)]
      show Oper.wp Tryz.prog _ _ (w4.drew.alloc (.cells #[.int .i32 65533] 21)) _ _
      generalize hg : w4.drew.alloc (.cells #[.int .i32 65533] 21) = w5 at hs5 HU5 HO5 hr5 HB5 hz5 ⊢
      refine oper_app_rd (base := w.heap.size + 2) w5 (.tmp 31) (.tmp 32) _ (by rfl) ER (.slice (some ⟨pb + 1, 0, none⟩) 1 1) 1 _ (by rfl) HO5.out u l.length (l.flatMap runeE) (by rfl) HU5.out (runeE_one _) (by omega) (by omega) ?_
      intro v6 w6 ho6 hg6
      have hob : ∀ b, (Value.slice (some ⟨pb + 1, 0, none⟩) 1 1).ownBlock = some b → pb < b := fun b e => by
        have e2 : pb + 1 = b := by simpa [Value.ownBlock] using e
        omega
      have hk6 := Kept.of_grown (P := fun j => pb < j) hg6 hob
      have hs6 : w6.rangeAt pb 0 [.int .i64 p.nd, .int .i64 p.hv, .int .u8 p.lo, .int .u8 p.hi, .int .i32 p.vl] := range_stays hs5 (hk6.block pb (by omega) (by omega))
      have hr6 := (hk6.block (w.heap.size + 1) (by omega) (by omega)).trans hr5
      have HB6 := Lib.hid (HB5.out.trans (hk6.below (B := w.heap.size) (by omega) (fun j hj => by omega)))
      have HO6 := Lib.hid ho6
      have z0 := row_cells (i := 0) hr6 rfl
      have zw0 := row_warm hr6 0
      have z1 := row_cells (i := 1) hr6 rfl
      have zw1 := row_warm hr6 1
      have z2 := row_cells (i := 2) hr6 rfl
      have zw2 := row_warm hr6 2
      have z3 := row_cells (i := 3) hr6 rfl
      have zw3 := row_warm hr6 3
      have z4 := row_cells (i := 4) hr6 rfl
      have zw4 := row_warm hr6 4
      clear ho6 hg6 hob hk6 hr6 hr5 HB5 HO5 HU5 hg hr4 hn4 HU4 HB4 hs5 hin
      refine hK.out _ _ hs6 (fun hHeld => ?_)
      clear hK K
      try simp only [Act.put, List.setIfInBounds_toArray, List.set_cons_zero, List.set_cons_succ]
      refine hd_step 4 (by kernel_rfl) rfl (fun K hK => ?_)
      go_simp
      refine hK.out _ _ (range_far (range_far (range_far (range_far (range_far hs6 (by omega)) (by omega)) (by omega)) (by omega)) (by omega)) (fun hHeld => ?_)
      clear hK K
      try simp only [Act.put, List.setIfInBounds_toArray, List.set_cons_zero, List.set_cons_succ]
      refine hd_take 5 rfl (by kernel_rfl) (by kernel_rfl) (by kernel_rfl) (fun _ _ _ h => h) (by rfl) (by intro w hSw; (try dsimp only at hSw); go_simp; first | done | with_reducible rfl) hHeld ?_
      try simp only [Act.put, List.setIfInBounds_toArray, List.set_cons_zero, List.set_cons_succ]
      refine wpAnyH_done (by kernel_rfl) ?_ _
      clear hHeld hs6
      go_wp2_with fail
      refine ret_cell_tmp (x := v6) (ad := ⟨w.heap.size + 1, 0, none⟩) rfl rfl rfl (run_loadVar_mid _ _ 0 _ [.int .i64 p.nd, .int .i64 p.hv, .int .u8 p.lo, .int .u8 p.hi, .int .i32 p.vl] _ (range5' (by go_simp) (by go_simp) (by go_simp) (by go_simp) (by go_simp)) Tryz.underlying191 rfl (by kernel_rfl)) rfl ?_
      rw [HD.out]
      exact ⟨_, rfl, (((((HB6.out).setCell (by show w.heap.size ≤ w.heap.size + 1; omega) _).setCell (by show w.heap.size ≤ w.heap.size + 1; omega) _).setCell (by show w.heap.size ≤ w.heap.size + 1; omega) _).setCell (by show w.heap.size ≤ w.heap.size + 1; omega) _).setCell (by show w.heap.size ≤ w.heap.size + 1; omega) _, by rw [List.length_cons, show l.length + 1 = 1 + l.length from Nat.add_comm _ _]; exact owns_lower (b := w.heap.size + 2) (owns_store (owns_store (owns_store (owns_store (owns_store HO6.out (by omega)) (by omega)) (by omega)) (by omega)) (by omega)) (by omega)⟩
  have q1 : decide (b < lo) = false := decide_eq_false (by omega)
  have q2 : decide (b > hi) = false := decide_eq_false (by omega)
  have a63 := and63u b h0 h1
  have e0 : IntKind.i32.wrap (b % 64) = b % 64 := by rw [IntKind.wrap_i32]; omega
  have esh : IntKind.i32.wrap (vl * 64) = vl * 64 := by rw [IntKind.wrap_i32]; omega
  have eor := or64 vl (b % 64) u1 (by omega) (by omega) (by omega)
  have en := IntWalk.i64_in (nd - 1) (by omega)
  have eh := IntWalk.i64_in (hv + 1) (by omega)
  by_cases c1 : nd = 1
  · subst c1
    have HD := Lib.hid (show fdD ⟨1, hv, lo, hi, vl⟩ b = (Dc0, [vl * 64 + b % 64]) by unfold fdD; rw [if_neg c0, if_neg cb, if_pos rfl])
    clear cb c0 HF
    go_enter Tryz.func100, Tryz.ntmps100
    go_wp2_with fail
    go_region
    go_wp2_with fail
    have hn : ((w.alloc (.cells #[.int .i64 0, .int .i64 (hv + 1), .int .u8 128, .int .u8 191, .int .i32 (vl * 64 + b % 64)] 191)).alloc (.cells #[.int .i64 0, .int .i64 0, .int .u8 0, .int .u8 0, .int .i32 0] 191)).heap.size = w.heap.size + 1 + 1 := by simp
    have hol := owns_lit ((w.alloc (.cells #[.int .i64 0, .int .i64 (hv + 1), .int .u8 128, .int .u8 191, .int .i32 (vl * 64 + b % 64)] 191)).alloc (.cells #[.int .i64 0, .int .i64 0, .int .u8 0, .int .u8 0, .int .i32 0] 191)) #[.int .i32 (vl * 64 + b % 64)] 21 (base := w.heap.size) (size := 1) (n := 1) rfl (by decide) (by simp; omega)
    rw [hn] at hol
    refine ret_cell_tmp (x := .slice (some ⟨w.heap.size + 1 + 1, 0, none⟩) 1 1) (ad := ⟨w.heap.size + 1, 0, none⟩) rfl rfl rfl (run_loadVar_mid _ _ 0 _ [.int .i64 0, .int .i64 0, .int .u8 0, .int .u8 0, .int .i32 0] _ (range5' (by go_simp) (by go_simp) (by go_simp) (by go_simp) (by go_simp)) Tryz.underlying191 rfl (by kernel_rfl)) rfl ?_
    rw [HD.out]
    exact ⟨_, rfl, below_dN ((((Below.refl w.heap.size w).alloc (Nat.le_refl _) _).alloc (by simp) _).alloc (by simp; omega) _) 1, hol⟩
  · have g1 : (nd - 1 == 0) = false := by simp; omega
    have HD := Lib.hid (show fdD ⟨nd, hv, lo, hi, vl⟩ b = (⟨nd - 1, hv + 1, 128, 191, vl * 64 + b % 64⟩, []) by unfold fdD; rw [if_neg c0, if_neg cb, if_neg c1])
    clear cb HF
    go_enter Tryz.func100, Tryz.ntmps100
    go_wp2_with fail
    refine ret_cell_tmp (x := .slice none 0 0) (ad := ⟨w.heap.size + 1, 0, none⟩) rfl rfl rfl (run_loadVar_mid _ _ 0 _ [.int .i64 (nd - 1), .int .i64 (hv + 1), .int .u8 128, .int .u8 191, .int .i32 (vl * 64 + b % 64)] _ (range5' (by go_simp) (by go_simp) (by go_simp) (by go_simp) (by go_simp)) Tryz.underlying191 rfl (by kernel_rfl)) rfl ?_
    rw [HD.out]
    exact ⟨_, rfl, ((Below.refl w.heap.size w).alloc (Nat.le_refl _) _).alloc (by simp) _, World.ownsRow_nil _ _ _ _⟩
end Go.Proofs.YthlpelfogplomaaGreat

/- utf: End, Decode. (Printed by gen_decode.py.) -/
namespace Go.Proofs.YthlpelfogplomaaGreat
open Go.RowKit Go.Lib

set_option maxRecDepth 100000 in
theorem dend_any (d : Dc) (w : World) : Calls Tryz.prog 101 #[dcV d] w fun e w' => ∃ u, e = .returned u ∧ Below w.heap.size w w' ∧ w'.ownsRow w.heap.size 21 1 u (endD d).length ((endD d).flatMap runeE) := by
  obtain ⟨nd, hv, lo, hi, vl⟩ := d
  unfold dcV
  dsimp only
  by_cases c : nd = 0
  · subst c
    have HE := Lib.hid (show endD ⟨0, hv, lo, hi, vl⟩ = [] by unfold endD; rw [if_pos rfl])
    go_enter Tryz.func101, Tryz.ntmps101
    go_wp2_with fail
    go_ret
    exact ⟨_, rfl, (Below.refl _ w).alloc (Nat.le_refl _) _, by rw [HE.out]; exact World.ownsRow_nil _ _ _ _⟩
  · have g0 : (nd == 0) = false := by simpa using c
    have HE := Lib.hid (show endD ⟨nd, hv, lo, hi, vl⟩ = [65533] by unfold endD; rw [if_neg c])
    clear c
    go_enter Tryz.func101, Tryz.ntmps101
    go_wp2_with fail
    go_ret
    have hn : (w.alloc (.cells #[.int .i64 nd, .int .i64 hv, .int .u8 lo, .int .u8 hi, .int .i32 vl] 191)).heap.size = w.heap.size + 1 := by simp
    have hol := owns_lit (w.alloc (.cells #[.int .i64 nd, .int .i64 hv, .int .u8 lo, .int .u8 hi, .int .i32 vl] 191)) #[.int .i32 65533] 21 (base := w.heap.size) (size := 1) (n := 1) rfl (by decide) (by simp)
    rw [hn] at hol
    exact ⟨_, rfl, ((Below.refl _ w).alloc (Nat.le_refl _) _).alloc (by simp) _, by rw [HE.out]; exact hol⟩
/-- a string's bytes as numbers -/
def bytesN (s : ByteArray) : List Int := s.data.toList.map fun b => ((b.toNat : Nat) : Int)
theorem bytesN_len (s : ByteArray) : (bytesN s).length = s.size := by unfold bytesN; rw [List.length_map]; rfl
theorem bytesN_rng (s : ByteArray) : ∀ x ∈ bytesN s, 0 ≤ x ∧ x ≤ 255 := by
  intro x hx
  obtain ⟨b, _, rfl⟩ := List.mem_map.1 hx
  have := b.toNat_lt
  omega
theorem bytesN_get (s : ByteArray) {k : Nat} (hk : k < s.size) : (bytesN s)[k]? = some (((s.data.toList.getD k 0).toNat : Nat) : Int) := by
  have hl : k < s.data.toList.length := hk
  unfold bytesN
  rw [List.getElem?_map, List.getElem?_eq_getElem hl, List.getD_eq_getElem?_getD, List.getElem?_eq_getElem hl]
  rfl
theorem fdD_len (d : Dc) (b : Int) : (fdD d b).2.length ≤ 2 := by
  have h1 : (fstD b).2.length ≤ 1 := by unfold fstD; split <;> (try split) <;> simp
  unfold fdD
  split
  · omega
  · split
    · simp; omega
    · split <;> simp
theorem outD_len : ∀ (l : List Int) (d : Dc), (outD d l).length ≤ 2 * l.length
  | [], _ => by simp [outD]
  | b :: l, d => by
    have h1 := outD_len l (fdD d b).1
    have h2 := fdD_len d b
    show ((fdD d b).2 ++ outD (fdD d b).1 l).length ≤ _
    rw [List.length_append, List.length_cons]
    omega
theorem endD_len (d : Dc) : (endD d).length ≤ 1 := by unfold endD; split <;> simp
theorem decS_len (l : List Int) : (decS Dc0 l).length ≤ 2 * l.length + 1 := by
  have h1 := outD_len l Dc0
  have h2 := endD_len (stD Dc0 l)
  rw [decS_out, List.length_append]
  omega
theorem stD_ok : ∀ (l : List Int) (d : Dc), DcOk d → (∀ x ∈ l, 0 ≤ x ∧ x ≤ 255) → DcOk (stD d l)
  | [], _, h, _ => h
  | b :: l, _, h, hb => stD_ok l _ (dcOk_feed h (hb b List.mem_cons_self).1 (hb b List.mem_cons_self).2) (fun x hx => hb x (List.mem_cons_of_mem _ hx))
theorem row_set5 {w : World} {b : Nat} {t : TypeId} {a0 a1 a2 a3 a4 : Value} (h : w.heap[b]? = some (.cells #[a0, a1, a2, a3, a4] t (0, 0))) (x0 x1 x2 x3 x4 : Value) :
    (((((w.setCell ⟨b, 0, none⟩ x0).setCell ⟨b, 1, none⟩ x1).setCell ⟨b, 2, none⟩ x2).setCell ⟨b, 3, none⟩ x3).setCell ⟨b, 4, none⟩ x4).heap[b]? = some (.cells #[x0, x1, x2, x3, x4] t (0, 0)) :=
  heap_setCell_same _ _ _ _ _ _ (heap_setCell_same _ _ _ _ _ _ (heap_setCell_same _ _ _ _ _ _ (heap_setCell_same _ _ _ _ _ _ (heap_setCell_same _ _ _ _ _ _ h))))
/-- a decoder's row -/
def dcRow (d : Dc) : Obj := .cells #[.int .i64 d.nd, .int .i64 d.hv, .int .u8 d.lo, .int .u8 d.hi, .int .i32 d.vl] 191 (0, 0)
/-- where a decoding has come to: the decoder (h), the bytes (h + 1), what was told above -/
structure DcW (wr : World) (h : Nat) (s : ByteArray) (k : Nat) (ov : Value) : Prop where
  hs : h + 2 ≤ wr.heap.size
  r : wr.heap[h]? = some (dcRow (stD Dc0 ((bytesN s).take k)))
  by' : ∀ j, j < s.size → wr.cell? ⟨h + 1, j, none⟩ = some (.int .u8 (((s.data.toList.getD j 0).toNat : Nat) : Int))
  own : wr.ownsRow (h + 2) 21 1 ov (outD Dc0 ((bytesN s).take k)).length ((outD Dc0 ((bytesN s).take k)).flatMap runeE)
theorem DcW.later {wr wr' : World} {h k : Nat} {s : ByteArray} {ov : Value} (H : DcW wr h s k ov) (hB : Below wr.heap.size wr wr') : DcW wr' h s k ov :=
  have hs := H.hs
  ⟨Nat.le_trans hs hB.size, (hB.block h (by omega)).trans H.r, fun j hj => (World.cell?_of_block (hB.block (h + 1) (by omega))).trans (H.by' j hj), owns_stays H.own hB⟩
theorem bytesWorld_below (w : World) (e : TypeId) (s : ByteArray) : Below w.heap.size w (bytesWorld w e s) :=
  ⟨by simp [bytesWorld, World.freeze, World.alloc, World.drew, -World.alloc_eq, -World.drew_eq], by simp [bytesWorld, World.freeze, World.alloc, World.drew, -World.alloc_eq, -World.drew_eq], by simp [bytesWorld, World.freeze, World.alloc, World.drew, -World.alloc_eq, -World.drew_eq],
    by rw [bytesWorld_size]; omega, fun j hj => bytesWorld_at_old w e s j hj⟩
set_option maxRecDepth 100000 in
set_option maxHeartbeats 8000000 in
theorem decode_any (s : ByteArray) (hs : s.size ≤ 100000000) (w : World) : Calls Tryz.prog 55 #[.string s] w fun e w' => ∃ u, e = .returned u ∧ Below w.heap.size w w' ∧ w'.ownsRow w.heap.size 21 1 u (decS Dc0 (bytesN s)).length ((decS Dc0 (bytesN s)).flatMap runeE) := by
  have cv := Go.Lib.run_convert_string_bytes (P := Tryz.prog) (w.alloc (.cells #[.int .i64 0, .int .i64 0, .int .u8 0, .int .u8 0, .int .i32 0] 191)) 9 192 5 s Tryz.underlying9 Tryz.underlying192 Tryz.underlying5
  have hn : (w.alloc (.cells #[.int .i64 0, .int .i64 0, .int .u8 0, .int .u8 0, .int .i32 0] 191)).heap.size = w.heap.size + 1 := by simp
  have hb0 := below1 w (.cells #[.int .i64 0, .int .i64 0, .int .u8 0, .int .u8 0, .int .i32 0] 191)
  have hr0 := heap_alloc_new w (.cells #[.int .i64 0, .int .i64 0, .int .u8 0, .int .u8 0, .int .i32 0] 191)
  go_enter Tryz.func55, Tryz.ntmps55
  go_upto_region 3 with fail
  generalize w.alloc (.cells #[.int .i64 0, .int .i64 0, .int .u8 0, .int .u8 0, .int .i32 0] 191) = w1 at cv hn hb0 hr0 ⊢
  have hbn := bytesWorld_size w1 5 s
  have hbo := bytesWorld_at_old w1 5 s
  have hbc := bytesWorld_cell w1 5 s
  have hbB := bytesWorld_below w1 5 s
  rw [hn] at cv hbc
  generalize bytesWorld w1 5 s = w2 at cv hbn hbo hbc hbB
  obtain ⟨h, hh⟩ : ∃ h, w.heap.size = h := ⟨_, rfl⟩
  have HH := Lib.hid hh
  rw [hh] at cv hn hb0 hr0 hbc ⊢
  clear hh
  have HW0 := Lib.hid (show DcW w2 h s 0 (.slice none 0 0) from ⟨by omega, (hbo h (by omega)).trans hr0, hbc, World.ownsRow_nil _ _ _ _⟩)
  have HB0 := Lib.hid (show Below h w w2 from hb0.trans (hbB.mono (by omega)))
  clear hb0 hr0 hbn hbo hbc hbB
  go_wp2_with fail
  clear cv
  go_loopw [4, 12] (fun ov iv wr => ∃ k : Nat, k ≤ s.size ∧ iv = .int .i64 ((k : Nat) : Int) ∧ Below h w wr ∧ DcW wr h s k ov) (fun _ iv _ => s.size - (intOf iv).toNat)
  case atStart => exact ⟨0, Nat.zero_le _, rfl, HB0.out, HW0.out⟩
  case round =>
    obtain ⟨k, hk, rfl, hB, hW⟩ := hrel
    have HB := Lib.hid hB
    have HW := Lib.hid hW
    have hhs := hW.hs
    obtain ⟨pa, pc, rfl⟩ := slice_of_owns hW.own
    obtain ⟨d, hd⟩ : ∃ d, d = stD Dc0 ((bytesN s).take k) := ⟨_, rfl⟩
    have HDd := Lib.hid hd
    have hrow : wr.heap[h]? = some (dcRow d) := by rw [hd]; exact hW.r
    have hrow : wr.heap[h]? = some (.cells #[.int .i64 d.nd, .int .i64 d.hv, .int .u8 d.lo, .int .u8 d.hi, .int .i32 d.vl] 191 (0, 0)) := hrow
    have r0 := row_cells (i := 0) hrow rfl
    have r1 := row_cells (i := 1) hrow rfl
    have r2 := row_cells (i := 2) hrow rfl
    have r3 := row_cells (i := 3) hrow rfl
    have r4 := row_cells (i := 4) hrow rfl
    have hol := outD_len ((bytesN s).take k) Dc0
    have hbl : ((bytesN s).take k).length ≤ 100000000 := by rw [List.length_take, bytesN_len]; omega
    have hdok : DcOk d := by rw [hd]; exact stD_ok _ _ dcOk_0 (fun x hx => bytesN_rng s x (List.mem_of_mem_take hx))
    by_cases hlt : k < s.size
    · have hg := bytesN_get s hlt
      have hby := hW.by' k hlt
      obtain ⟨b, hb⟩ : ∃ b : Int, b = (((s.data.toList.getD k 0).toNat : Nat) : Int) := ⟨_, rfl⟩
      rw [← hb] at hg hby
      have hbr := bytesN_rng s b (List.mem_of_getElem? hg)
      have hst : stD Dc0 ((bytesN s).take (k + 1)) = (fdD d b).1 := by rw [List.take_add_one, hg, hd]; exact stD_snoc _ _ _
      have hou : outD Dc0 ((bytesN s).take (k + 1)) = outD Dc0 ((bytesN s).take k) ++ (fdD d b).2 := by rw [List.take_add_one, hg, hd]; exact outD_snoc _ _ _
      have hfl := fdD_len d b
      have HFeed := Lib.hid (feed_any d hdok b hbr.1 hbr.2)
      have HSt := Lib.hid hst
      have HOu := Lib.hid hou
      obtain ⟨o, ho⟩ : ∃ o, o = outD Dc0 ((bytesN s).take k) := ⟨_, rfl⟩
      have HOo := Lib.hid ho
      have hown := hW.own
      rw [← ho] at hown hol ⊢
      have HOw := Lib.hid hown
      have s0 : (k : Int) < (s.size : Int) := by omega
      have s1 : (0 : Int) ≤ (k : Int) := by omega
      have e1 := IntWalk.i64_in ((k : Int) + 1) (by omega)
      clear hB hW hb hst hou hg hlt hdok hd ho hown hrow
      go_wp2_with fail
      refine (HFeed.out wr).mono ?_
      rintro e w3 ⟨u, rfl, hB3, hU3⟩
      have HW3 := Lib.hid (HW.out.later hB3)
      have HB3 := Lib.hid (HB.out.trans (hB3.mono (by omega)))
      have HU3 := Lib.hid hU3
      have HOw3 := Lib.hid (owns_stays HOw.out hB3)
      have hs3 := hB3.size
      unfold dcV
      obtain ⟨p, hp⟩ : ∃ p, p = fdD d b := ⟨_, rfl⟩
      rw [← hp] at HSt HOu HU3 hfl ⊢
      clear hp HFeed hB3 hU3 r0 r1 r2 r3 r4 hby HW HB HOw
      obtain ⟨p, l⟩ := p
      dsimp only at HU3 HSt HOu hfl ⊢
      have hb4 := below1 w3 (.cells #[.int .i64 p.nd, .int .i64 p.hv, .int .u8 p.lo, .int .u8 p.hi, .int .i32 p.vl] 191)
      have HW4 := Lib.hid (HW3.out.later hb4)
      have HB4 := Lib.hid (HB3.out.alloc (by omega) (.cells #[.int .i64 p.nd, .int .i64 p.hv, .int .u8 p.lo, .int .u8 p.hi, .int .i32 p.vl] 191))
      have HU4 := Lib.hid (owns_stays HU3.out hb4)
      have HOw4 := Lib.hid (owns_stays HOw3.out hb4)
      have hn4 := heap_alloc_new w3 (.cells #[.int .i64 p.nd, .int .i64 p.hv, .int .u8 p.lo, .int .u8 p.hi, .int .i32 p.vl] 191)
      have hz4 : (w3.alloc (.cells #[.int .i64 p.nd, .int .i64 p.hv, .int .u8 p.lo, .int .u8 p.hi, .int .i32 p.vl] 191)).heap.size = w3.heap.size + 1 := by simp
      have hpo : ∀ b, (Value.slice pa o.length pc).ownBlock = some b → b < w3.heap.size := fun b e => (HOw3.out.lt b e).2
      clear hb4 HW3 HB3 HU3 HOw3
      go_upto_region 7 with fail
      generalize w3.alloc (.cells #[.int .i64 p.nd, .int .i64 p.hv, .int .u8 p.lo, .int .u8 p.hi, .int .i32 p.vl] 191) = w4 at HW4 HB4 HU4 HOw4 hn4 hz4 ⊢
      generalize w3.heap.size = pb at hn4 hz4 hs3 hpo ⊢
      have hin : w4.rangeAt pb 0 [.int .i64 p.nd, .int .i64 p.hv, .int .u8 p.lo, .int .u8 p.hi, .int .i32 p.vl] := range5' (row_cells (i := 0) hn4 rfl) (row_cells (i := 1) hn4 rfl) (row_cells (i := 2) hn4 rfl) (row_cells (i := 3) hn4 rfl) (row_cells (i := 4) hn4 rfl)
      have hbig : (o.length + l.length) * 4 ≤ 140737488355328 := by omega
      clear hn4
      refine wp_region_held_drew (S := fun w' => w'.rangeAt pb 0 [.int .i64 p.nd, .int .i64 p.hv, .int .u8 p.lo, .int .u8 p.hi, .int .i32 p.vl]) (by kernel_rfl) hin (fun hHeld => ?_)
      refine hd_long 0 rfl (by kernel_rfl) (by kernel_rfl) (by kernel_rfl) _ _ rfl pb 0 rfl #[.int .i64 p.nd, .int .i64 p.hv, .int .u8 p.lo, .int .u8 p.hi, .int .i32 p.vl] _ (fun w' h => h) (fun _ _ _ h => h) (by rfl) Tryz.underlying191 rfl (by kernel_rfl) hHeld ?_
      try simp only [Act.put, List.setIfInBounds_toArray, List.set_cons_zero, List.set_cons_succ]
      refine hd_take 1 rfl (by kernel_rfl) (by kernel_rfl) (by kernel_rfl) (fun _ _ _ h => h) (by rfl) (by intro w hSw; (try dsimp only at hSw); go_simp; first | done | with_reducible rfl) hHeld ?_
      try simp only [Act.put, List.setIfInBounds_toArray, List.set_cons_zero, List.set_cons_succ]
      refine hd_take 2 rfl (by kernel_rfl) (by kernel_rfl) (by kernel_rfl) (fun _ _ _ h => h) (by rfl) (by intro w hSw; (try dsimp only at hSw); go_simp; first | done | with_reducible rfl) hHeld ?_
      try simp only [Act.put, List.setIfInBounds_toArray, List.set_cons_zero, List.set_cons_succ]
      refine hd_step 3 (by kernel_rfl) rfl (fun K hK => ?_)
      rw [if_pos (by rfl)]
      refine oper_app_rd (base := h + 2) w4.drew (.tmp 23) (.tmp 24) _ (by rfl) ER (.slice pa o.length pc) o.length (o.flatMap runeE) (by rfl) (show w4.drew.ownsRow (h + 2) 21 1 (.slice pa o.length pc) o.length (o.flatMap runeE) from HOw4.out) u l.length (l.flatMap runeE) (by rfl) (show Rd w4.heap.size w4.drew 1 u l.length (l.flatMap runeE) from rd_of_owns HU4.out) (runeE_one _) hbig (by show h + 2 ≤ w4.heap.size; omega) ?_
      intro v6 w6 ho6 hg6
      have hg6' : w4.grownBy w6 (Value.slice pa o.length pc).ownBlock := ⟨hg6.os, hg6.tape, hg6.output, hg6.size, hg6.block⟩
      have hpo2 : ∀ b, (Value.slice pa o.length pc).ownBlock = some b → h + 2 ≤ b := fun b e => (HOw4.out.lt b e).1
      have hs6 : w6.rangeAt pb 0 [.int .i64 p.nd, .int .i64 p.hv, .int .u8 p.lo, .int .u8 p.hi, .int .i32 p.vl] := range_stays hin (hg6'.block pb (by omega) (fun e => by have := hpo pb e.symm; omega))
      have hr6 : w6.heap[h]? = some (dcRow (stD Dc0 ((bytesN s).take k))) := (hg6'.block h (by omega) (fun e => by have := hpo2 h e.symm; omega)).trans HW4.out.r
      have hby6 : ∀ j, j < s.size → w6.cell? ⟨h + 1, j, none⟩ = some (.int .u8 (((s.data.toList.getD j 0).toNat : Nat) : Int)) := fun j hj => (World.cell?_of_block (hg6'.block (h + 1) (by omega) (fun e => by have := hpo2 _ e.symm; omega))).trans (HW4.out.by' j hj)
      rw [← HDd.out] at hr6
      have hr6 : w6.heap[h]? = some (.cells #[.int .i64 d.nd, .int .i64 d.hv, .int .u8 d.lo, .int .u8 d.hi, .int .i32 d.vl] 191 (0, 0)) := hr6
      have HB6 := Lib.hid (HB4.out.grown hg6' (by omega) (fun b e => by have := hpo2 b e; omega))
      have hz6 := hg6'.size
      have HW8 := Lib.hid (show DcW (((((w6.setCell ⟨h, 0, none⟩ (.int .i64 p.nd)).setCell ⟨h, 1, none⟩ (.int .i64 p.hv)).setCell ⟨h, 2, none⟩ (.int .u8 p.lo)).setCell ⟨h, 3, none⟩ (.int .u8 p.hi)).setCell ⟨h, 4, none⟩ (.int .i32 p.vl)) h s (k + 1) v6 from
        ⟨by simp; omega, by rw [HSt.out]; exact row_set5 hr6 _ _ _ _ _, fun j hj => ((((World.cell?_setCell_other _ _ _ _ (by simp)).trans (World.cell?_setCell_other _ _ _ _ (by simp))).trans (World.cell?_setCell_other _ _ _ _ (by simp))).trans (World.cell?_setCell_other _ _ _ _ (by simp))).trans ((World.cell?_setCell_other _ _ _ _ (by simp)).trans (hby6 j hj)),
          by rw [HOu.out, ← HOo.out, List.length_append, List.flatMap_append]; exact owns_store (owns_store (owns_store (owns_store (owns_store ho6 (by omega)) (by omega)) (by omega)) (by omega)) (by omega)⟩)
      have z0 := row_cells (i := 0) hr6 rfl
      have zw0 := row_warm hr6 0
      have z1 := row_cells (i := 1) hr6 rfl
      have zw1 := row_warm hr6 1
      have z2 := row_cells (i := 2) hr6 rfl
      have zw2 := row_warm hr6 2
      have z3 := row_cells (i := 3) hr6 rfl
      have zw3 := row_warm hr6 3
      have z4 := row_cells (i := 4) hr6 rfl
      have zw4 := row_warm hr6 4
      clear ho6 hg6 hg6' hpo hpo2 hr6 hby6 HOw4 HU4 HW4 HB4 hin
      refine hK.out _ _ hs6 (fun hHeld => ?_)
      clear hK K
      try simp only [Act.put, List.setIfInBounds_toArray, List.set_cons_zero, List.set_cons_succ]
      refine hd_step 4 (by kernel_rfl) rfl (fun K hK => ?_)
      go_simp
      refine hK.out _ _ (range_far (range_far (range_far (range_far (range_far hs6 (by omega)) (by omega)) (by omega)) (by omega)) (by omega)) (fun hHeld => ?_)
      clear hK K
      try simp only [Act.put, List.setIfInBounds_toArray, List.set_cons_zero, List.set_cons_succ]
      refine hd_take 5 rfl (by kernel_rfl) (by kernel_rfl) (by kernel_rfl) (fun _ _ _ h => h) (by rfl) (by intro w hSw; (try dsimp only at hSw); go_simp; first | done | with_reducible rfl) hHeld ?_
      try simp only [Act.put, List.setIfInBounds_toArray, List.set_cons_zero, List.set_cons_succ]
      refine wpAnyH_done (by kernel_rfl) ?_ _
      clear hHeld hs6
      go_wp2_with fail
      go_roundw
      case rel => exact ⟨k + 1, by omega, by go_num, ((((HB6.out.setCell (by show h ≤ h; omega) _).setCell (by show h ≤ h; omega) _).setCell (by show h ≤ h; omega) _).setCell (by show h ≤ h; omega) _).setCell (by show h ≤ h; omega) _, HW8.out⟩
      case measure => simp [intOf] <;> omega
    · have hke : (bytesN s).take k = bytesN s := List.take_of_length_le (by rw [bytesN_len]; omega)
      have hke2 : k = s.size := by omega
      rw [hke] at hd hol hbl ⊢
      have hown := hW.own
      rw [hke] at hown
      have HOw := Lib.hid hown
      have HRes := Lib.hid (show decS Dc0 (bytesN s) = outD Dc0 (bytesN s) ++ endD d by rw [decS_out, hd])
      have hel := endD_len d
      have s0 : ¬ k < s.size := hlt
      clear hB hW hown hd hke hrow hdok
      go_wp2_with fail
      refine (dend_any d wr).mono ?_
      rintro e w3 ⟨u, rfl, hB3, hU3⟩
      have HU3 := Lib.hid (rd_of_owns hU3)
      have HOw3 := Lib.hid (owns_stays HOw.out hB3)
      have HB3 := Lib.hid (HB.out.trans (hB3.mono (by omega)))
      have hs3 := hB3.size
      have hbs3 : h + 2 ≤ w3.heap.size := by omega
      have hbig : ((outD Dc0 (bytesN s)).length + (endD d).length) * 4 ≤ 140737488355328 := by omega
      clear hB3 hU3 r0 r1 r2 r3 r4 HOw HB HW
      go_wp2_with (at_builtin; go_loud (refine wpList_app_rd (base := h + 2) _ rfl (.tmp 27) (.tmp 29) _ rfl ER _ _ _ rfl HOw3.out _ _ _ rfl HU3.out (runeE_one _) hbig hbs3 ?_); intro v5 w5 ho5 hg5; have HB5 := Lib.hid (below_app HB3.out (by omega) HOw3.out (by omega) hg5); have HO5 := Lib.hid ho5; clear ho5 hg5)
      go_ret
      exact ⟨_, rfl, by rw [HH.out]; exact HB5.out, by rw [HRes.out, List.length_append, List.flatMap_append, HH.out]; exact owns_lower HO5.out (by omega)⟩
end Go.Proofs.YthlpelfogplomaaGreat

/- glyph.Read, the document's Right. -/
namespace Go.Proofs.YthlpelfogplomaaGreat
open Go.RowKit

theorem fstD_rng {b : Int} (h0 : 0 ≤ b) (h1 : b ≤ 255) : ∀ x ∈ (fstD b).2, 0 ≤ x ∧ x ≤ 2097151 := by
  intro x hx
  unfold fstD at hx
  split at hx
  · simp at hx; omega
  · split at hx
    · simp at hx; omega
    · simp at hx
theorem fdD_rng {d : Dc} (hd : DcOk d) {b : Int} (h0 : 0 ≤ b) (h1 : b ≤ 255) : ∀ x ∈ (fdD d b).2, 0 ≤ x ∧ x ≤ 2097151 := by
  intro x hx
  unfold fdD at hx
  split at hx
  · exact fstD_rng h0 h1 x hx
  · split at hx
    · simp only [List.mem_cons] at hx
      rcases hx with rfl | hx
      · omega
      · exact fstD_rng h0 h1 x hx
    · split at hx
      · rename_i h2
        have := hd.vl
        simp at hx
        omega
      · simp at hx
theorem decS_rng : ∀ (l : List Int) (d : Dc), DcOk d → (∀ x ∈ l, 0 ≤ x ∧ x ≤ 255) → ∀ x ∈ decS d l, 0 ≤ x ∧ x ≤ 2097151
  | [], d, _, _ => by
    intro x hx
    unfold decS endD at hx
    split at hx <;> simp at hx
    omega
  | b :: l, d, hd, hb => by
    intro x hx
    have hb0 := hb b List.mem_cons_self
    rcases List.mem_append.1 (show x ∈ (fdD d b).2 ++ decS (fdD d b).1 l from hx) with h | h
    · exact fdD_rng hd hb0.1 hb0.2 x h
    · exact decS_rng l _ (dcOk_feed hd hb0.1 hb0.2) (fun y hy => hb y (List.mem_cons_of_mem _ hy)) x h
theorem decS_ok (s : ByteArray) : RunesOk (decS Dc0 (bytesN s)) := fun x hx => by
  have := decS_rng (bytesN s) Dc0 dcOk_0 (bytesN_rng s) x hx
  unfold I32
  omega
/-- what a terminal takes scalars for -/
def rdG (R : List Rw) (c : List Int) : Gy := (enc c, ((widN R c : Nat) : Int))
def readG (R : List Rw) (l : List Int) : List Gy := (clus (tabOf R) l).map (rdG R)
section
variable {R : List Rw} {w : World} {tp : Nat}
set_option maxRecDepth 100000 in
set_option maxHeartbeats 8000000 in
theorem gread_any (hT : Tb R w tp) (s : ByteArray) (hl : s.size ≤ 400000) :
    Calls Tryz.prog 18 #[.pointer (some ⟨tp, 0, none⟩), .string s] w fun e w' => ∃ u, e = .returned u ∧ Below w.heap.size w w' ∧ GlyIn w' u (readG R (decS Dc0 (bytesN s))) := by
  have HT := Lib.hid hT
  have hdl := decS_len (bytesN s)
  rw [bytesN_len] at hdl
  have HOk := Lib.hid (decS_ok s)
  have HDe := Lib.hid (decode_any s (by omega) w)
  generalize decS Dc0 (bytesN s) = l at hdl HOk HDe ⊢
  have HCl := Lib.hid (fun (W : World) (v : Value) (h1 : Tb R W tp) (h2 : RunesIn W v l) => clusters_any h1 h2 HOk.out (by omega))
  have HNe := Lib.hid (clus_ne (tabOf R) l.length l (Nat.le_refl _))
  have HMem := Lib.hid (clus_mem (tabOf R) l.length l (Nat.le_refl _))
  have hLl : (clus (tabOf R) l).length ≤ l.length := clusN_len (tabOf R) l.length l
  unfold readG
  generalize clus (tabOf R) l = LL at HCl HNe HMem hLl ⊢
  clear hT
  go_enter Tryz.func18, Tryz.ntmps18
  go_wp2_with fail
  refine HDe.out.mono ?_
  rintro e w1 ⟨u, rfl, hB1, hU1⟩
  have HB1 := Lib.hid hB1
  have HT1 := Lib.hid (HT.out.below hB1)
  have HU1 := Lib.hid (show RunesIn w1 u l from rd_of_owns hU1)
  clear hB1 hU1 HDe HT
  go_wp2_with fail
  refine (HCl.out _ _ HT1.out HU1.out).mono ?_
  rintro e w2 ⟨v, rfl, hB2, hX2⟩
  have HB2 := Lib.hid (below_trans' HB1.out hB2)
  have HT2 := Lib.hid (HT1.out.below hB2)
  have HX := Lib.hid hX2
  obtain ⟨ta, tcap, rfl, ht1, ht2⟩ := texts_shape hX2
  unfold maxLen at ht2
  clear hB2 hX2 HB1 HT1 HU1 HCl
  go_wp2_with fail
  go_loopw [5, 13] (fun ov iv wr => ∃ (k : Nat) (G : List Gy), k ≤ LL.length ∧ iv = .int .i64 ((k : Nat) : Int) ∧ Below w2.heap.size w2 wr ∧ wr.ownsRow w2.heap.size 111 2 ov G.length (G.flatMap gyE) ∧ G = (LL.take k).map (rdG R)) (fun _ iv _ => LL.length - (intOf iv).toNat)
  case atStart => exact ⟨0, [], Nat.zero_le _, rfl, .refl _ _, World.ownsRow_nil _ _ _ _, rfl⟩
  case round =>
    obtain ⟨k, G, hk, rfl, hB, hO, hG⟩ := hrel
    have HB := Lib.hid hB
    have HO := Lib.hid hO
    have hbs := hB.size
    have hGl : G.length = k := by rw [hG, List.length_map, List.length_take]; omega
    obtain ⟨pa, pc, rfl⟩ := slice_of_owns hO
    by_cases hlt : k < LL.length
    · obtain ⟨c, hc⟩ : ∃ c, LL[k]? = some c := ⟨LL[k], List.getElem?_eq_getElem hlt⟩
      have hcm := List.mem_of_getElem? hc
      have hcl := (HNe.out c hcm).2
      have HOkc := Lib.hid (show RunesOk c from fun x hx => HOk.out x (HMem.out c hcm x hx))
      obtain ⟨b, off, cp, cu, hv, _, _, _, _, d0, hcu⟩ := texts_cell (HX.out.below hB) hc
      cases hv
      have HCu := Lib.hid hcu
      have HGn := Lib.hid (show G ++ [rdG R c] = (LL.take (k + 1)).map (rdG R) by rw [List.take_add_one, hc, List.map_append, hG]; rfl)
      have s0 : (k : Int) < (LL.length : Int) := by omega
      have s1 : (0 : Int) ≤ (k : Int) := by omega
      have e1 := IntWalk.i64_in ((k : Int) + 1) (by omega)
      have hbig : (G.length + 1) * 24 ≤ 140737488355328 := by omega
      have hTr := HT2.out.below hB
      have HTr := Lib.hid hTr
      clear hB hO hG hc hcm hcu hlt hTr hGl
      go_wp2_with fail
      refine (encode_any HCu.out (by omega)).mono ?_
      rintro e w3 ⟨rfl, hB3⟩
      have HB3 := Lib.hid (HB.out.trans (hB3.mono hbs))
      have HO3 := Lib.hid (owns_stays HO.out hB3)
      have HC3 := Lib.hid (HCu.out.below hB3)
      have HT3 := Lib.hid (HTr.out.below hB3)
      clear hB3 HTr HCu HB HO d0
      go_wp2_with fail
      refine (width_any HT3.out HC3.out HOkc.out (by omega)).mono ?_
      rintro e w4 ⟨rfl, hB4⟩
      have HB4 := Lib.hid (HB3.out.trans (hB4.mono HB3.out.size))
      have HO4 := Lib.hid (owns_stays HO3.out hB4)
      have hbs4 := HB4.out.size
      have hgy : rdG R c = (enc c, ((widN R c : Nat) : Int)) := rfl
      rw [hgy] at HGn
      clear hB4 HT3 HC3 HB3 HO3 hgy
      generalize enc c = ec at HGn ⊢
      generalize ((widN R c : Nat) : Int) = wc at HGn ⊢
      go_wp2_with (at_builtin; go_loud (refine wpList_app1 _ rfl (.tmp 17) (.tmp 24) _ rfl EG _ _ _ rfl HO4.out 1 1 (gyE (ec, wc)) rfl (by decide) rfl (gyE_one _) hbig hbs4 ?_); intro g cp7 w7 ho7 hg7 hf7; have HB7 := Lib.hid (below_app HB4.out hbs4 HO4.out (Nat.le_refl _) hg7); have HO7 := Lib.hid ho7; clear ho7 hg7 hf7)
      go_roundw
      case rel => exact ⟨k + 1, G ++ [(ec, wc)], by omega, by go_num, HB7.out, by rw [List.length_append, flat_snoc]; exact HO7.out, HGn.out⟩
      case measure => simp [intOf] <;> omega
    · have hke : k = LL.length := by omega
      subst hke
      rw [List.take_length] at hG
      have HGe := Lib.hid hG
      clear hlt hk hG hB hO hGl
      go_wp2_with fail
      go_ret
      exact ⟨_, rfl, below_trans' HB2.out HB.out, by rw [← HGe.out]; exact gly_of_owns HO.out⟩
end
section
variable {w : World} {sv : Value} {s : List Int}
theorem fix_snoc {k : Nat} {x : Int} (hx : s[k]? = some x) : (s.take (k + 1)).map fixR = (s.take k).map fixR ++ [fixR x] := by
  rw [List.take_add_one, hx, List.map_append]; rfl
theorem right_ok (l : List Int) : ∀ x ∈ l.map fixR, validB x = true := by
  intro x hx
  obtain ⟨y, _, rfl⟩ := List.mem_map.1 hx
  unfold fixR
  split
  · assumption
  · decide
end
end Go.Proofs.YthlpelfogplomaaGreat
