/- Joined texts: DecB DecC GlyS GlyT GlyU GlyV. -/
import Derived.Lib.ConvBytes
import Derived.BigQuiet
import Derived.Test.YthlpelfogplomaaZiab
import Derived.Test.YthlpelfogplomaaZaaa
import Derived.Test.YthlpelfogplomaaZcaa
import Derived.Test.YthlpelfogplomaaZiaa
import Derived.Test.YthlpelfogplomaaZcad
/- utf: a decoder takes a byte. -/
namespace Go.Proofs.Ythlpelfogplomaa
open Go.RowKit

/-- states that a decoder may be in -/
structure DcOk (d : Dc) : Prop where
  nd : 0 ≤ d.nd ∧ d.nd ≤ 3
  hv : 0 ≤ d.hv ∧ d.nd + d.hv ≤ 4
  vl : 0 ≤ d.vl ∧ (d.nd = 3 → d.vl < 8) ∧ (d.nd = 2 → d.vl < 512) ∧ (d.nd = 1 → d.vl < 32768)
theorem dcOk_of {nd hv lo hi vl : Int} (h1 : 0 ≤ nd ∧ nd ≤ 3) (h2 : 0 ≤ hv ∧ nd + hv ≤ 4) (h3 : 0 ≤ vl ∧ (nd = 3 → vl < 8) ∧ (nd = 2 → vl < 512) ∧ (nd = 1 → vl < 32768)) : DcOk ⟨nd, hv, lo, hi, vl⟩ := ⟨h1, h2, h3⟩
theorem dcOk_0 : DcOk Dc0 := dcOk_of (by omega) (by omega) (by omega)
theorem dcOk_first {b : Int} (_h0 : 0 ≤ b) (_h1 : b ≤ 255) : DcOk (fstD b).1 := by
  unfold fstD
  split
  · exact dcOk_0
  · split
    · exact dcOk_0
    · show DcOk (Dc1 b)
      unfold Dc1
      by_cases c1 : b < 224
      · rw [if_pos c1, if_pos c1]
        exact dcOk_of (by omega) (by omega) (by omega)
      · rw [if_neg c1, if_neg c1]
        by_cases c2 : b < 240
        · rw [if_pos c2, if_pos c2]
          exact dcOk_of (by omega) (by omega) (by omega)
        · rw [if_neg c2, if_neg c2]
          exact dcOk_of (by omega) (by omega) (by omega)
theorem dcOk_feed {d : Dc} (hd : DcOk d) {b : Int} (h0 : 0 ≤ b) (h1 : b ≤ 255) : DcOk (fdD d b).1 := by
  unfold fdD
  split
  · exact dcOk_first h0 h1
  · split
    · exact dcOk_first h0 h1
    · split
      · exact dcOk_0
      · obtain ⟨n1, n2⟩ := hd.nd
        obtain ⟨v1, v2⟩ := hd.hv
        obtain ⟨u1, u2, u3, u4⟩ := hd.vl
        refine ⟨⟨?_, ?_⟩, ⟨?_, ?_⟩, ⟨?_, ?_, ?_, ?_⟩⟩
        · show 0 ≤ d.nd - 1; omega
        · show d.nd - 1 ≤ 3; omega
        · show 0 ≤ d.hv + 1; omega
        · show d.nd - 1 + (d.hv + 1) ≤ 4; omega
        · show 0 ≤ d.vl * 64 + b % 64; omega
        · show d.nd - 1 = 3 → _; omega
        · show d.nd - 1 = 2 → d.vl * 64 + b % 64 < 512
          intro h
          have := u2 (by omega)
          omega
        · show d.nd - 1 = 1 → d.vl * 64 + b % 64 < 32768
          intro h
          have := u3 (by omega)
          omega
theorem oper_app_rd {P : Program} (w : World) {o : Oper} {act : Act} {K : Act → World → Prop} {Q : Exit → Act → World → Prop} (s x : Operand) (t : TypeId)
    (ho : o.op = .call { callee := .builtin .append, args := #[s, x], argTypes := #[t, t] })
    {base e size bytes B : Nat} (E : ElemT P t e size bytes) (v : Value) (n : Nat) (xs : List Value) (hs : act.eval s = v) (hown : w.ownsRow base e size v n xs)
    (u : Value) (m : Nat) (news : List Value) (hx : act.eval x = u) (hR : Rd B w size u m news) (h1 : ∀ u ∈ news, u.oneCell' = true)
    (hbytes : (n + m) * bytes ≤ 140737488355328) (hbase : base ≤ w.heap.size)
    (h : ∀ v' w', w'.ownsRow base e size v' (n + m) (xs ++ news) → w.grownBy w' v.ownBlock → K (act.put o.dst v') w') : o.wp P act w K Q := by
  obtain ⟨v', w', hr, h2, h3⟩ := run_app_rd (P := P) (ty := o.type) w E v n xs hown u m news hR h1 hbytes hbase
  unfold Oper.wp execOp
  simp only [ho, resolve, invoke, builtin, Sem.run_bind, Sem.run_pure, Result.andThen_ok, List.map_toArray, List.map_cons, List.map_nil, hs, hx, hr]
  exact h v' w' h2 h3
theorem range_far {w : World} {p b i : Nat} {u : Value} {xs : List Value} (h : w.rangeAt p 0 xs) (hne : p ≠ b) : (w.setCell ⟨b, i, none⟩ u).rangeAt p 0 xs := fun j x hx =>
  (World.cell?_setCell_other _ _ _ _ (fun e => hne (by injection e with e1; first | exact e1 | exact e1.symm))).trans (h j x hx)
theorem range_stays {w w' : World} {p : Nat} {xs : List Value} (h : w.rangeAt p 0 xs) (hb : w'.heap[p]? = w.heap[p]?) : w'.rangeAt p 0 xs := fun j x hx => (World.cell?_of_block hb).trans (h j x hx)
set_option maxRecDepth 100000 in
set_option maxHeartbeats 8000000 in
theorem feed_any (d : Dc) (hd : DcOk d) (b : Int) (h0 : 0 ≤ b) (h1 : b ≤ 255) (w : World) : Calls Try.prog 99 #[dcV d, .int .u8 b] w (FdPost (fdD d b) w) := by
  have HOk := Lib.hid hd
  obtain ⟨n1, n2⟩ := hd.nd
  obtain ⟨v1, v2⟩ := hd.hv
  obtain ⟨u1, u2, u3, u4⟩ := hd.vl
  obtain ⟨nd, hv, lo, hi, vl⟩ := d
  dsimp only at n1 n2 v1 v2 u1 u2 u3 u4
  have HF := Lib.hid (first_any b h0 h1)
  clear hd
  unfold dcV
  dsimp only
  by_cases c0 : nd = 0
  · subst c0
    have HD := Lib.hid (show fdD ⟨0, hv, lo, hi, vl⟩ b = fstD b by unfold fdD; rw [if_pos rfl])
    go_enter Try.func99, Try.ntmps99
    go_wp2_with fail
    have hb2 := Lib.hid (((Below.refl w.heap.size w).alloc (Nat.le_refl _) (.cells #[.int .i64 0, .int .i64 hv, .int .u8 lo, .int .u8 hi, .int .i32 vl] 170)).alloc (by simp) (.cells #[.int .i64 0, .int .i64 0, .int .u8 0, .int .u8 0, .int .i32 0] 170))
    have hr2 := Lib.hid (show ((w.alloc (.cells #[.int .i64 0, .int .i64 hv, .int .u8 lo, .int .u8 hi, .int .i32 vl] 170)).alloc (.cells #[.int .i64 0, .int .i64 0, .int .u8 0, .int .u8 0, .int .i32 0] 170)).heap[w.heap.size + 1]? = some (.cells #[.int .i64 0, .int .i64 0, .int .u8 0, .int .u8 0, .int .i32 0] 170 (0, 0)) by
      have h := heap_alloc_new (w.alloc (.cells #[.int .i64 0, .int .i64 hv, .int .u8 lo, .int .u8 hi, .int .i32 vl] 170)) (.cells #[.int .i64 0, .int .i64 0, .int .u8 0, .int .u8 0, .int .i32 0] 170)
      rwa [show (w.alloc (.cells #[.int .i64 0, .int .i64 hv, .int .u8 lo, .int .u8 hi, .int .i32 vl] 170)).heap.size = w.heap.size + 1 by simp] at h)
    have hz2 : ((w.alloc (.cells #[.int .i64 0, .int .i64 hv, .int .u8 lo, .int .u8 hi, .int .i32 vl] 170)).alloc (.cells #[.int .i64 0, .int .i64 0, .int .u8 0, .int .u8 0, .int .i32 0] 170)).heap.size = w.heap.size + 2 := by simp
    generalize ((w.alloc (.cells #[.int .i64 0, .int .i64 hv, .int .u8 lo, .int .u8 hi, .int .i32 vl] 170)).alloc (.cells #[.int .i64 0, .int .i64 0, .int .u8 0, .int .u8 0, .int .i32 0] 170)) = w2 at hb2 hr2 hz2 ⊢
    refine (HF.out w2).mono ?_
    rintro e w3 ⟨u, rfl, hB3, hU3⟩
    have HB3 := Lib.hid (hb2.out.trans (hB3.mono hb2.out.size))
    have HU3 := Lib.hid hU3
    have hr3 := (hB3.block _ (row_len hr2.out)).trans hr2.out
    have z0 := row_cells (i := 0) hr3 rfl
    have zw0 := row_warm hr3 0
    have z1 := row_cells (i := 1) hr3 rfl
    have zw1 := row_warm hr3 1
    have z2 := row_cells (i := 2) hr3 rfl
    have zw2 := row_warm hr3 2
    have z3 := row_cells (i := 3) hr3 rfl
    have zw3 := row_warm hr3 3
    have z4 := row_cells (i := 4) hr3 rfl
    have zw4 := row_warm hr3 4
    clear hB3 hU3 hr3 hr2 hb2
    unfold dcV
    obtain ⟨p, hp⟩ : ∃ p, p = fstD b := ⟨_, rfl⟩
    rw [← hp] at HD HU3 ⊢
    clear hp HF
    obtain ⟨p, l⟩ := p
    dsimp only at HU3 ⊢
    go_wp2_with fail
    refine ret_cell_tmp (x := u) (ad := ⟨w.heap.size + 1, 0, none⟩) rfl rfl rfl (run_loadVar_mid _ _ 0 _ [.int .i64 p.nd, .int .i64 p.hv, .int .u8 p.lo, .int .u8 p.hi, .int .i32 p.vl] _ (range5' (by go_simp) (by go_simp) (by go_simp) (by go_simp) (by go_simp)) Try.underlying170 rfl (by kernel_rfl)) rfl ?_
    rw [HD.out]
    exact ⟨_, rfl, (((((HB3.out).setCell (by show w.heap.size ≤ w.heap.size + 1; omega) _).setCell (by show w.heap.size ≤ w.heap.size + 1; omega) _).setCell (by show w.heap.size ≤ w.heap.size + 1; omega) _).setCell (by show w.heap.size ≤ w.heap.size + 1; omega) _).setCell (by show w.heap.size ≤ w.heap.size + 1; omega) _, owns_lower (owns_store (owns_store (owns_store (owns_store (owns_store HU3.out (by omega)) (by omega)) (by omega)) (by omega)) (by omega)) (by omega)⟩
  have g0 : (nd == 0) = false := by simpa using c0
  by_cases cb : b < lo ∨ hi < b
  · have HD := Lib.hid (show fdD ⟨nd, hv, lo, hi, vl⟩ b = ((fstD b).1, 65533 :: (fstD b).2) by unfold fdD; rw [if_neg c0, if_pos cb])
    have cb2 : b < lo ∨ (decide (b < lo) = false ∧ b > hi) := by
      by_cases h : b < lo
      · exact .inl h
      · exact .inr ⟨decide_eq_false h, by omega⟩
    clear cb
    rcases cb2 with q1 | ⟨q1, q2⟩
    all_goals
      go_enter Try.func99, Try.ntmps99
      go_wp2_with fail
      have hb2 := Lib.hid (((Below.refl w.heap.size w).alloc (Nat.le_refl _) (.cells #[.int .i64 nd, .int .i64 hv, .int .u8 lo, .int .u8 hi, .int .i32 vl] 170)).alloc (by simp) (.cells #[.int .i64 0, .int .i64 0, .int .u8 0, .int .u8 0, .int .i32 0] 170))
      have hr2 := Lib.hid (show ((w.alloc (.cells #[.int .i64 nd, .int .i64 hv, .int .u8 lo, .int .u8 hi, .int .i32 vl] 170)).alloc (.cells #[.int .i64 0, .int .i64 0, .int .u8 0, .int .u8 0, .int .i32 0] 170)).heap[w.heap.size + 1]? = some (.cells #[.int .i64 0, .int .i64 0, .int .u8 0, .int .u8 0, .int .i32 0] 170 (0, 0)) by
        have h := heap_alloc_new (w.alloc (.cells #[.int .i64 nd, .int .i64 hv, .int .u8 lo, .int .u8 hi, .int .i32 vl] 170)) (.cells #[.int .i64 0, .int .i64 0, .int .u8 0, .int .u8 0, .int .i32 0] 170)
        rwa [show (w.alloc (.cells #[.int .i64 nd, .int .i64 hv, .int .u8 lo, .int .u8 hi, .int .i32 vl] 170)).heap.size = w.heap.size + 1 by simp] at h)
      have hz2 : ((w.alloc (.cells #[.int .i64 nd, .int .i64 hv, .int .u8 lo, .int .u8 hi, .int .i32 vl] 170)).alloc (.cells #[.int .i64 0, .int .i64 0, .int .u8 0, .int .u8 0, .int .i32 0] 170)).heap.size = w.heap.size + 2 := by simp
      generalize ((w.alloc (.cells #[.int .i64 nd, .int .i64 hv, .int .u8 lo, .int .u8 hi, .int .i32 vl] 170)).alloc (.cells #[.int .i64 0, .int .i64 0, .int .u8 0, .int .u8 0, .int .i32 0] 170)) = w2 at hb2 hr2 hz2 ⊢
      refine (HF.out w2).mono ?_
      rintro e w3 ⟨u, rfl, hB3, hU3⟩
      have HB3 := Lib.hid (hb2.out.trans (hB3.mono hb2.out.size))
      have HU3 := Lib.hid hU3
      have hr3 := (hB3.block _ (row_len hr2.out)).trans hr2.out
      unfold dcV
      obtain ⟨p, hp⟩ : ∃ p, p = fstD b := ⟨_, rfl⟩
      rw [← hp] at HD HU3 ⊢
      have hpl : p.2.length ≤ 1 := by rw [hp]; unfold fstD; split <;> (try split) <;> simp
      clear hp HF
      obtain ⟨p, l⟩ := p
      dsimp only at HU3 HD hpl ⊢
      have hs3 := hB3.size
      have hb4 := below1 w3 (.cells #[.int .i64 p.nd, .int .i64 p.hv, .int .u8 p.lo, .int .u8 p.hi, .int .i32 p.vl] 170)
      have HB4 := Lib.hid (HB3.out.alloc HB3.out.size (.cells #[.int .i64 p.nd, .int .i64 p.hv, .int .u8 p.lo, .int .u8 p.hi, .int .i32 p.vl] 170))
      have HU4 := Lib.hid (owns_stays HU3.out hb4)
      have hr4 := (hb4.block _ (row_len hr3)).trans hr3
      have hn4 := heap_alloc_new w3 (.cells #[.int .i64 p.nd, .int .i64 p.hv, .int .u8 p.lo, .int .u8 p.hi, .int .i32 p.vl] 170)
      have hlt3 := row_len hr3
      have hz4 : (w3.alloc (.cells #[.int .i64 p.nd, .int .i64 p.hv, .int .u8 p.lo, .int .u8 p.hi, .int .i32 p.vl] 170)).heap.size = w3.heap.size + 1 := by simp
      clear hB3 hU3 hr3 hr2 hb2 HB3 HU3 hb4
      go_upto_region 5 with fail
      generalize w3.alloc (.cells #[.int .i64 p.nd, .int .i64 p.hv, .int .u8 p.lo, .int .u8 p.hi, .int .i32 p.vl] 170) = w4 at HB4 HU4 hr4 hn4 hz4 ⊢
      generalize w3.heap.size = pb at hn4 hz4 hlt3 hs3 ⊢
      have hin : w4.rangeAt pb 0 [.int .i64 p.nd, .int .i64 p.hv, .int .u8 p.lo, .int .u8 p.hi, .int .i32 p.vl] := range5' (row_cells (i := 0) hn4 rfl) (row_cells (i := 1) hn4 rfl) (row_cells (i := 2) hn4 rfl) (row_cells (i := 3) hn4 rfl) (row_cells (i := 4) hn4 rfl)
      refine wp_region_held_drew (S := fun w' => w'.rangeAt pb 0 [.int .i64 p.nd, .int .i64 p.hv, .int .u8 p.lo, .int .u8 p.hi, .int .i32 p.vl]) (by kernel_rfl) hin (fun hHeld => ?_)
      refine hd_long 0 rfl (by kernel_rfl) (by kernel_rfl) (by kernel_rfl) _ _ rfl pb 0 rfl #[.int .i64 p.nd, .int .i64 p.hv, .int .u8 p.lo, .int .u8 p.hi, .int .i32 p.vl] _ (fun w' h => h) (fun _ _ _ h => h) (by rfl) Try.underlying170 rfl (by kernel_rfl) hHeld ?_
      try simp only [Act.put, List.setIfInBounds_toArray, List.set_cons_zero, List.set_cons_succ]
      refine hd_take 2 rfl (by kernel_rfl) (by kernel_rfl) (by kernel_rfl) (fun _ _ _ h => h) (by rfl) (by intro w hSw; (try dsimp only at hSw); go_simp; first | done | with_reducible rfl) hHeld ?_
      try simp only [Act.put, List.setIfInBounds_toArray, List.set_cons_zero, List.set_cons_succ]
      have hs5 : (w4.drew.alloc (.cells #[.int .i32 65533] 21)).rangeAt pb 0 [.int .i64 p.nd, .int .i64 p.hv, .int .u8 p.lo, .int .u8 p.hi, .int .i32 p.vl] := range_stays (w := w4.drew) hin (Below.heap_alloc w4.drew _ pb (by show pb < w4.heap.size; omega))
      refine hd_step 1 (by kernel_rfl) rfl (fun K hK => ?_)
      go_simp
      refine hK.out _ _ hs5 (fun hHeld => ?_)
      clear hK K
      try simp only [Act.put, List.setIfInBounds_toArray, List.set_cons_zero, List.set_cons_succ]
      have hb5 := below1 w4.drew (.cells #[.int .i32 65533] 21)
      have HU5 := Lib.hid (rd_of_owns (owns_stays (show w4.drew.ownsRow w2.heap.size 21 1 u l.length (l.flatMap runeE) from HU4.out) hb5))
      have hq : w4.drew.heap.size = pb + 1 := hz4
      have hol := owns_lit w4.drew #[.int .i32 65533] 21 (base := w.heap.size + 2) (size := 1) (n := 1) rfl (by decide) (by show w.heap.size + 2 ≤ w4.heap.size; omega)
      rw [hq] at hol
      have HO5 := Lib.hid hol
      clear hol hq
      have hr5 := (hb5.block (w.heap.size + 1) (by show w.heap.size + 1 < w4.heap.size; omega)).trans (show w4.drew.heap[w.heap.size + 1]? = _ from hr4)
      have HB5 := Lib.hid ((below_dN HB4.out 1).trans (hb5.mono (by show w.heap.size ≤ w4.heap.size; omega)))
      have hz5 : (w4.drew.alloc (.cells #[.int .i32 65533] 21)).heap.size = pb + 2 := by show (w4.alloc _).heap.size = _; simp; omega
      refine hd_step 3 (by kernel_rfl) rfl (fun K hK => ?_)
      rw [if_pos (by rfl)]
      show Oper.wp Try.prog _ _ (w4.drew.alloc (.cells #[.int .i32 65533] 21)) _ _
      generalize hg : w4.drew.alloc (.cells #[.int .i32 65533] 21) = w5 at hs5 HU5 HO5 hr5 HB5 hz5 ⊢
      refine oper_app_rd (base := w.heap.size + 2) w5 (.tmp 31) (.tmp 32) _ (by rfl) ER (.slice (some ⟨pb + 1, 0, none⟩) 1 1) 1 _ (by rfl) HO5.out u l.length (l.flatMap runeE) (by rfl) HU5.out (runeE_one _) (by omega) (by omega) ?_
      intro v6 w6 ho6 hg6
      have hob : ∀ b, (Value.slice (some ⟨pb + 1, 0, none⟩) 1 1).ownBlock = some b → pb < b := fun b e => by
        have e2 : pb + 1 = b := by simpa [Value.ownBlock] using e
        omega
      have hk6 := Kept.of_grown (P := fun j => pb < j) hg6 hob
      have hs6 : w6.rangeAt pb 0 [.int .i64 p.nd, .int .i64 p.hv, .int .u8 p.lo, .int .u8 p.hi, .int .i32 p.vl] := range_stays hs5 (hk6.block pb (by omega) (by omega))
      have hr6 := (hk6.block (w.heap.size + 1) (by omega) (by omega)).trans hr5
      have HB6 := Lib.hid (HB5.out.trans (hk6.below (B := w.heap.size) (by omega) (fun j hj => by omega)))
      have HO6 := Lib.hid ho6
      have z0 := row_cells (i := 0) hr6 rfl
      have zw0 := row_warm hr6 0
      have z1 := row_cells (i := 1) hr6 rfl
      have zw1 := row_warm hr6 1
      have z2 := row_cells (i := 2) hr6 rfl
      have zw2 := row_warm hr6 2
      have z3 := row_cells (i := 3) hr6 rfl
      have zw3 := row_warm hr6 3
      have z4 := row_cells (i := 4) hr6 rfl
      have zw4 := row_warm hr6 4
      clear ho6 hg6 hob hk6 hr6 hr5 HB5 HO5 HU5 hg hr4 hn4 HU4 HB4 hs5 hin
      refine hK.out _ _ hs6 (fun hHeld => ?_)
      clear hK K
      try simp only [Act.put, List.setIfInBounds_toArray, List.set_cons_zero, List.set_cons_succ]
      refine hd_step 4 (by kernel_rfl) rfl (fun K hK => ?_)
      go_simp
      refine hK.out _ _ (range_far (range_far (range_far (range_far (range_far hs6 (by omega)) (by omega)) (by omega)) (by omega)) (by omega)) (fun hHeld => ?_)
      clear hK K
      try simp only [Act.put, List.setIfInBounds_toArray, List.set_cons_zero, List.set_cons_succ]
      refine hd_take 5 rfl (by kernel_rfl) (by kernel_rfl) (by kernel_rfl) (fun _ _ _ h => h) (by rfl) (by intro w hSw; (try dsimp only at hSw); go_simp; first | done | with_reducible rfl) hHeld ?_
      try simp only [Act.put, List.setIfInBounds_toArray, List.set_cons_zero, List.set_cons_succ]
      refine wpAnyH_done (by kernel_rfl) ?_ _
      clear hHeld hs6
      go_wp2_with fail
      refine ret_cell_tmp (x := v6) (ad := ⟨w.heap.size + 1, 0, none⟩) rfl rfl rfl (run_loadVar_mid _ _ 0 _ [.int .i64 p.nd, .int .i64 p.hv, .int .u8 p.lo, .int .u8 p.hi, .int .i32 p.vl] _ (range5' (by go_simp) (by go_simp) (by go_simp) (by go_simp) (by go_simp)) Try.underlying170 rfl (by kernel_rfl)) rfl ?_
      rw [HD.out]
      exact ⟨_, rfl, (((((HB6.out).setCell (by show w.heap.size ≤ w.heap.size + 1; omega) _).setCell (by show w.heap.size ≤ w.heap.size + 1; omega) _).setCell (by show w.heap.size ≤ w.heap.size + 1; omega) _).setCell (by show w.heap.size ≤ w.heap.size + 1; omega) _).setCell (by show w.heap.size ≤ w.heap.size + 1; omega) _, by rw [List.length_cons, show l.length + 1 = 1 + l.length from Nat.add_comm _ _]; exact owns_lower (b := w.heap.size + 2) (owns_store (owns_store (owns_store (owns_store (owns_store HO6.out (by omega)) (by omega)) (by omega)) (by omega)) (by omega)) (by omega)⟩
  have q1 : decide (b < lo) = false := decide_eq_false (by omega)
  have q2 : decide (b > hi) = false := decide_eq_false (by omega)
  have a63 := and63u b h0 h1
  have e0 : IntKind.i32.wrap (b % 64) = b % 64 := by rw [IntKind.wrap_i32]; omega
  have esh : IntKind.i32.wrap (vl * 64) = vl * 64 := by rw [IntKind.wrap_i32]; omega
  have eor := or64 vl (b % 64) u1 (by omega) (by omega) (by omega)
  have en := IntWalk.i64_in (nd - 1) (by omega)
  have eh := IntWalk.i64_in (hv + 1) (by omega)
  by_cases c1 : nd = 1
  · subst c1
    have HD := Lib.hid (show fdD ⟨1, hv, lo, hi, vl⟩ b = (Dc0, [vl * 64 + b % 64]) by unfold fdD; rw [if_neg c0, if_neg cb, if_pos rfl])
    clear cb c0 HF
    go_enter Try.func99, Try.ntmps99
    go_wp2_with fail
    go_region
    go_wp2_with fail
    have hn : ((w.alloc (.cells #[.int .i64 0, .int .i64 (hv + 1), .int .u8 128, .int .u8 191, .int .i32 (vl * 64 + b % 64)] 170)).alloc (.cells #[.int .i64 0, .int .i64 0, .int .u8 0, .int .u8 0, .int .i32 0] 170)).heap.size = w.heap.size + 1 + 1 := by simp
    have hol := owns_lit ((w.alloc (.cells #[.int .i64 0, .int .i64 (hv + 1), .int .u8 128, .int .u8 191, .int .i32 (vl * 64 + b % 64)] 170)).alloc (.cells #[.int .i64 0, .int .i64 0, .int .u8 0, .int .u8 0, .int .i32 0] 170)) #[.int .i32 (vl * 64 + b % 64)] 21 (base := w.heap.size) (size := 1) (n := 1) rfl (by decide) (by simp; omega)
    rw [hn] at hol
    refine ret_cell_tmp (x := .slice (some ⟨w.heap.size + 1 + 1, 0, none⟩) 1 1) (ad := ⟨w.heap.size + 1, 0, none⟩) rfl rfl rfl (run_loadVar_mid _ _ 0 _ [.int .i64 0, .int .i64 0, .int .u8 0, .int .u8 0, .int .i32 0] _ (range5' (by go_simp) (by go_simp) (by go_simp) (by go_simp) (by go_simp)) Try.underlying170 rfl (by kernel_rfl)) rfl ?_
    rw [HD.out]
    exact ⟨_, rfl, below_dN ((((Below.refl w.heap.size w).alloc (Nat.le_refl _) _).alloc (by simp) _).alloc (by simp; omega) _) 1, hol⟩
  · have g1 : (nd - 1 == 0) = false := by simp; omega
    have HD := Lib.hid (show fdD ⟨nd, hv, lo, hi, vl⟩ b = (⟨nd - 1, hv + 1, 128, 191, vl * 64 + b % 64⟩, []) by unfold fdD; rw [if_neg c0, if_neg cb, if_neg c1])
    clear cb HF
    go_enter Try.func99, Try.ntmps99
    go_wp2_with fail
    refine ret_cell_tmp (x := .slice none 0 0) (ad := ⟨w.heap.size + 1, 0, none⟩) rfl rfl rfl (run_loadVar_mid _ _ 0 _ [.int .i64 (nd - 1), .int .i64 (hv + 1), .int .u8 128, .int .u8 191, .int .i32 (vl * 64 + b % 64)] _ (range5' (by go_simp) (by go_simp) (by go_simp) (by go_simp) (by go_simp)) Try.underlying170 rfl (by kernel_rfl)) rfl ?_
    rw [HD.out]
    exact ⟨_, rfl, ((Below.refl w.heap.size w).alloc (Nat.le_refl _) _).alloc (by simp) _, World.ownsRow_nil _ _ _ _⟩
end Go.Proofs.Ythlpelfogplomaa

/- utf: End, Decode. (Printed by gen_decode.py.) -/
namespace Go.Proofs.Ythlpelfogplomaa
open Go.RowKit Go.Lib

set_option maxRecDepth 100000 in
theorem dend_any (d : Dc) (w : World) : Calls Try.prog 100 #[dcV d] w fun e w' => ∃ u, e = .returned u ∧ Below w.heap.size w w' ∧ w'.ownsRow w.heap.size 21 1 u (endD d).length ((endD d).flatMap runeE) := by
  obtain ⟨nd, hv, lo, hi, vl⟩ := d
  unfold dcV
  dsimp only
  by_cases c : nd = 0
  · subst c
    have HE := Lib.hid (show endD ⟨0, hv, lo, hi, vl⟩ = [] by unfold endD; rw [if_pos rfl])
    go_enter Try.func100, Try.ntmps100
    go_wp2_with fail
    go_ret
    exact ⟨_, rfl, (Below.refl _ w).alloc (Nat.le_refl _) _, by rw [HE.out]; exact World.ownsRow_nil _ _ _ _⟩
  · have g0 : (nd == 0) = false := by simpa using c
    have HE := Lib.hid (show endD ⟨nd, hv, lo, hi, vl⟩ = [65533] by unfold endD; rw [if_neg c])
    clear c
    go_enter Try.func100, Try.ntmps100
    go_wp2_with fail
    go_ret
    have hn : (w.alloc (.cells #[.int .i64 nd, .int .i64 hv, .int .u8 lo, .int .u8 hi, .int .i32 vl] 170)).heap.size = w.heap.size + 1 := by simp
    have hol := owns_lit (w.alloc (.cells #[.int .i64 nd, .int .i64 hv, .int .u8 lo, .int .u8 hi, .int .i32 vl] 170)) #[.int .i32 65533] 21 (base := w.heap.size) (size := 1) (n := 1) rfl (by decide) (by simp)
    rw [hn] at hol
    exact ⟨_, rfl, ((Below.refl _ w).alloc (Nat.le_refl _) _).alloc (by simp) _, by rw [HE.out]; exact hol⟩
/-- a string's bytes as numbers -/
def bytesN (s : ByteArray) : List Int := s.data.toList.map fun b => ((b.toNat : Nat) : Int)
theorem bytesN_len (s : ByteArray) : (bytesN s).length = s.size := by unfold bytesN; rw [List.length_map]; rfl
theorem bytesN_rng (s : ByteArray) : ∀ x ∈ bytesN s, 0 ≤ x ∧ x ≤ 255 := by
  intro x hx
  obtain ⟨b, _, rfl⟩ := List.mem_map.1 hx
  have := b.toNat_lt
  omega
theorem bytesN_get (s : ByteArray) {k : Nat} (hk : k < s.size) : (bytesN s)[k]? = some (((s.data.toList.getD k 0).toNat : Nat) : Int) := by
  have hl : k < s.data.toList.length := hk
  unfold bytesN
  rw [List.getElem?_map, List.getElem?_eq_getElem hl, List.getD_eq_getElem?_getD, List.getElem?_eq_getElem hl]
  rfl
theorem fdD_len (d : Dc) (b : Int) : (fdD d b).2.length ≤ 2 := by
  have h1 : (fstD b).2.length ≤ 1 := by unfold fstD; split <;> (try split) <;> simp
  unfold fdD
  split
  · omega
  · split
    · simp; omega
    · split <;> simp
theorem outD_len : ∀ (l : List Int) (d : Dc), (outD d l).length ≤ 2 * l.length
  | [], _ => by simp [outD]
  | b :: l, d => by
    have h1 := outD_len l (fdD d b).1
    have h2 := fdD_len d b
    show ((fdD d b).2 ++ outD (fdD d b).1 l).length ≤ _
    rw [List.length_append, List.length_cons]
    omega
theorem endD_len (d : Dc) : (endD d).length ≤ 1 := by unfold endD; split <;> simp
theorem decS_len (l : List Int) : (decS Dc0 l).length ≤ 2 * l.length + 1 := by
  have h1 := outD_len l Dc0
  have h2 := endD_len (stD Dc0 l)
  rw [decS_out, List.length_append]
  omega
theorem stD_ok : ∀ (l : List Int) (d : Dc), DcOk d → (∀ x ∈ l, 0 ≤ x ∧ x ≤ 255) → DcOk (stD d l)
  | [], _, h, _ => h
  | b :: l, _, h, hb => stD_ok l _ (dcOk_feed h (hb b List.mem_cons_self).1 (hb b List.mem_cons_self).2) (fun x hx => hb x (List.mem_cons_of_mem _ hx))
theorem row_set5 {w : World} {b : Nat} {t : TypeId} {a0 a1 a2 a3 a4 : Value} (h : w.heap[b]? = some (.cells #[a0, a1, a2, a3, a4] t (0, 0))) (x0 x1 x2 x3 x4 : Value) :
    (((((w.setCell ⟨b, 0, none⟩ x0).setCell ⟨b, 1, none⟩ x1).setCell ⟨b, 2, none⟩ x2).setCell ⟨b, 3, none⟩ x3).setCell ⟨b, 4, none⟩ x4).heap[b]? = some (.cells #[x0, x1, x2, x3, x4] t (0, 0)) :=
  heap_setCell_same _ _ _ _ _ _ (heap_setCell_same _ _ _ _ _ _ (heap_setCell_same _ _ _ _ _ _ (heap_setCell_same _ _ _ _ _ _ (heap_setCell_same _ _ _ _ _ _ h))))
/-- a decoder's row -/
def dcRow (d : Dc) : Obj := .cells #[.int .i64 d.nd, .int .i64 d.hv, .int .u8 d.lo, .int .u8 d.hi, .int .i32 d.vl] 170 (0, 0)
/-- where a decoding has come to: the decoder (h), the bytes (h + 1), what was told above -/
structure DcW (wr : World) (h : Nat) (s : ByteArray) (k : Nat) (ov : Value) : Prop where
  hs : h + 2 ≤ wr.heap.size
  r : wr.heap[h]? = some (dcRow (stD Dc0 ((bytesN s).take k)))
  by' : ∀ j, j < s.size → wr.cell? ⟨h + 1, j, none⟩ = some (.int .u8 (((s.data.toList.getD j 0).toNat : Nat) : Int))
  own : wr.ownsRow (h + 2) 21 1 ov (outD Dc0 ((bytesN s).take k)).length ((outD Dc0 ((bytesN s).take k)).flatMap runeE)
theorem DcW.later {wr wr' : World} {h k : Nat} {s : ByteArray} {ov : Value} (H : DcW wr h s k ov) (hB : Below wr.heap.size wr wr') : DcW wr' h s k ov :=
  have hs := H.hs
  ⟨Nat.le_trans hs hB.size, (hB.block h (by omega)).trans H.r, fun j hj => (World.cell?_of_block (hB.block (h + 1) (by omega))).trans (H.by' j hj), owns_stays H.own hB⟩
theorem bytesWorld_below (w : World) (e : TypeId) (s : ByteArray) : Below w.heap.size w (bytesWorld w e s) :=
  ⟨by simp [bytesWorld, World.freeze, World.alloc, World.drew, -World.alloc_eq, -World.drew_eq], by simp [bytesWorld, World.freeze, World.alloc, World.drew, -World.alloc_eq, -World.drew_eq], by simp [bytesWorld, World.freeze, World.alloc, World.drew, -World.alloc_eq, -World.drew_eq],
    by rw [bytesWorld_size]; omega, fun j hj => bytesWorld_at_old w e s j hj⟩
set_option maxRecDepth 100000 in
set_option maxHeartbeats 8000000 in
theorem decode_any (s : ByteArray) (hs : s.size ≤ 100000000) (w : World) : Calls Try.prog 62 #[.string s] w fun e w' => ∃ u, e = .returned u ∧ Below w.heap.size w w' ∧ w'.ownsRow w.heap.size 21 1 u (decS Dc0 (bytesN s)).length ((decS Dc0 (bytesN s)).flatMap runeE) := by
  have cv := Go.Lib.run_convert_string_bytes (P := Try.prog) (w.alloc (.cells #[.int .i64 0, .int .i64 0, .int .u8 0, .int .u8 0, .int .i32 0] 170)) 9 171 5 s Try.underlying9 Try.underlying171 Try.underlying5
  have hn : (w.alloc (.cells #[.int .i64 0, .int .i64 0, .int .u8 0, .int .u8 0, .int .i32 0] 170)).heap.size = w.heap.size + 1 := by simp
  have hb0 := below1 w (.cells #[.int .i64 0, .int .i64 0, .int .u8 0, .int .u8 0, .int .i32 0] 170)
  have hr0 := heap_alloc_new w (.cells #[.int .i64 0, .int .i64 0, .int .u8 0, .int .u8 0, .int .i32 0] 170)
  go_enter Try.func62, Try.ntmps62
  go_upto_region 3 with fail
  generalize w.alloc (.cells #[.int .i64 0, .int .i64 0, .int .u8 0, .int .u8 0, .int .i32 0] 170) = w1 at cv hn hb0 hr0 ⊢
  have hbn := bytesWorld_size w1 5 s
  have hbo := bytesWorld_at_old w1 5 s
  have hbc := bytesWorld_cell w1 5 s
  have hbB := bytesWorld_below w1 5 s
  rw [hn] at cv hbc
  generalize bytesWorld w1 5 s = w2 at cv hbn hbo hbc hbB
  obtain ⟨h, hh⟩ : ∃ h, w.heap.size = h := ⟨_, rfl⟩
  have HH := Lib.hid hh
  rw [hh] at cv hn hb0 hr0 hbc ⊢
  clear hh
  have HW0 := Lib.hid (show DcW w2 h s 0 (.slice none 0 0) from ⟨by omega, (hbo h (by omega)).trans hr0, hbc, World.ownsRow_nil _ _ _ _⟩)
  have HB0 := Lib.hid (show Below h w w2 from hb0.trans (hbB.mono (by omega)))
  clear hb0 hr0 hbn hbo hbc hbB
  go_wp2_with fail
  clear cv
  go_loopw [4, 12] (fun ov iv wr => ∃ k : Nat, k ≤ s.size ∧ iv = .int .i64 ((k : Nat) : Int) ∧ Below h w wr ∧ DcW wr h s k ov) (fun _ iv _ => s.size - (intOf iv).toNat)
  case atStart => exact ⟨0, Nat.zero_le _, rfl, HB0.out, HW0.out⟩
  case round =>
    obtain ⟨k, hk, rfl, hB, hW⟩ := hrel
    have HB := Lib.hid hB
    have HW := Lib.hid hW
    have hhs := hW.hs
    obtain ⟨pa, pc, rfl⟩ := slice_of_owns hW.own
    obtain ⟨d, hd⟩ : ∃ d, d = stD Dc0 ((bytesN s).take k) := ⟨_, rfl⟩
    have HDd := Lib.hid hd
    have hrow : wr.heap[h]? = some (dcRow d) := by rw [hd]; exact hW.r
    have hrow : wr.heap[h]? = some (.cells #[.int .i64 d.nd, .int .i64 d.hv, .int .u8 d.lo, .int .u8 d.hi, .int .i32 d.vl] 170 (0, 0)) := hrow
    have r0 := row_cells (i := 0) hrow rfl
    have r1 := row_cells (i := 1) hrow rfl
    have r2 := row_cells (i := 2) hrow rfl
    have r3 := row_cells (i := 3) hrow rfl
    have r4 := row_cells (i := 4) hrow rfl
    have hol := outD_len ((bytesN s).take k) Dc0
    have hbl : ((bytesN s).take k).length ≤ 100000000 := by rw [List.length_take, bytesN_len]; omega
    have hdok : DcOk d := by rw [hd]; exact stD_ok _ _ dcOk_0 (fun x hx => bytesN_rng s x (List.mem_of_mem_take hx))
    by_cases hlt : k < s.size
    · have hg := bytesN_get s hlt
      have hby := hW.by' k hlt
      obtain ⟨b, hb⟩ : ∃ b : Int, b = (((s.data.toList.getD k 0).toNat : Nat) : Int) := ⟨_, rfl⟩
      rw [← hb] at hg hby
      have hbr := bytesN_rng s b (List.mem_of_getElem? hg)
      have hst : stD Dc0 ((bytesN s).take (k + 1)) = (fdD d b).1 := by rw [List.take_add_one, hg, hd]; exact stD_snoc _ _ _
      have hou : outD Dc0 ((bytesN s).take (k + 1)) = outD Dc0 ((bytesN s).take k) ++ (fdD d b).2 := by rw [List.take_add_one, hg, hd]; exact outD_snoc _ _ _
      have hfl := fdD_len d b
      have HFeed := Lib.hid (feed_any d hdok b hbr.1 hbr.2)
      have HSt := Lib.hid hst
      have HOu := Lib.hid hou
      obtain ⟨o, ho⟩ : ∃ o, o = outD Dc0 ((bytesN s).take k) := ⟨_, rfl⟩
      have HOo := Lib.hid ho
      have hown := hW.own
      rw [← ho] at hown hol ⊢
      have HOw := Lib.hid hown
      have s0 : (k : Int) < (s.size : Int) := by omega
      have s1 : (0 : Int) ≤ (k : Int) := by omega
      have e1 := IntWalk.i64_in ((k : Int) + 1) (by omega)
      clear hB hW hb hst hou hg hlt hdok hd ho hown hrow
      go_wp2_with fail
      refine (HFeed.out wr).mono ?_
      rintro e w3 ⟨u, rfl, hB3, hU3⟩
      have HW3 := Lib.hid (HW.out.later hB3)
      have HB3 := Lib.hid (HB.out.trans (hB3.mono (by omega)))
      have HU3 := Lib.hid hU3
      have HOw3 := Lib.hid (owns_stays HOw.out hB3)
      have hs3 := hB3.size
      unfold dcV
      obtain ⟨p, hp⟩ : ∃ p, p = fdD d b := ⟨_, rfl⟩
      rw [← hp] at HSt HOu HU3 hfl ⊢
      clear hp HFeed hB3 hU3 r0 r1 r2 r3 r4 hby HW HB HOw
      obtain ⟨p, l⟩ := p
      dsimp only at HU3 HSt HOu hfl ⊢
      have hb4 := below1 w3 (.cells #[.int .i64 p.nd, .int .i64 p.hv, .int .u8 p.lo, .int .u8 p.hi, .int .i32 p.vl] 170)
      have HW4 := Lib.hid (HW3.out.later hb4)
      have HB4 := Lib.hid (HB3.out.alloc (by omega) (.cells #[.int .i64 p.nd, .int .i64 p.hv, .int .u8 p.lo, .int .u8 p.hi, .int .i32 p.vl] 170))
      have HU4 := Lib.hid (owns_stays HU3.out hb4)
      have HOw4 := Lib.hid (owns_stays HOw3.out hb4)
      have hn4 := heap_alloc_new w3 (.cells #[.int .i64 p.nd, .int .i64 p.hv, .int .u8 p.lo, .int .u8 p.hi, .int .i32 p.vl] 170)
      have hz4 : (w3.alloc (.cells #[.int .i64 p.nd, .int .i64 p.hv, .int .u8 p.lo, .int .u8 p.hi, .int .i32 p.vl] 170)).heap.size = w3.heap.size + 1 := by simp
      have hpo : ∀ b, (Value.slice pa o.length pc).ownBlock = some b → b < w3.heap.size := fun b e => (HOw3.out.lt b e).2
      clear hb4 HW3 HB3 HU3 HOw3
      go_upto_region 7 with fail
      generalize w3.alloc (.cells #[.int .i64 p.nd, .int .i64 p.hv, .int .u8 p.lo, .int .u8 p.hi, .int .i32 p.vl] 170) = w4 at HW4 HB4 HU4 HOw4 hn4 hz4 ⊢
      generalize w3.heap.size = pb at hn4 hz4 hs3 hpo ⊢
      have hin : w4.rangeAt pb 0 [.int .i64 p.nd, .int .i64 p.hv, .int .u8 p.lo, .int .u8 p.hi, .int .i32 p.vl] := range5' (row_cells (i := 0) hn4 rfl) (row_cells (i := 1) hn4 rfl) (row_cells (i := 2) hn4 rfl) (row_cells (i := 3) hn4 rfl) (row_cells (i := 4) hn4 rfl)
      have hbig : (o.length + l.length) * 4 ≤ 140737488355328 := by omega
      clear hn4
      refine wp_region_held_drew (S := fun w' => w'.rangeAt pb 0 [.int .i64 p.nd, .int .i64 p.hv, .int .u8 p.lo, .int .u8 p.hi, .int .i32 p.vl]) (by kernel_rfl) hin (fun hHeld => ?_)
      refine hd_long 0 rfl (by kernel_rfl) (by kernel_rfl) (by kernel_rfl) _ _ rfl pb 0 rfl #[.int .i64 p.nd, .int .i64 p.hv, .int .u8 p.lo, .int .u8 p.hi, .int .i32 p.vl] _ (fun w' h => h) (fun _ _ _ h => h) (by rfl) Try.underlying170 rfl (by kernel_rfl) hHeld ?_
      try simp only [Act.put, List.setIfInBounds_toArray, List.set_cons_zero, List.set_cons_succ]
      refine hd_take 1 rfl (by kernel_rfl) (by kernel_rfl) (by kernel_rfl) (fun _ _ _ h => h) (by rfl) (by intro w hSw; (try dsimp only at hSw); go_simp; first | done | with_reducible rfl) hHeld ?_
      try simp only [Act.put, List.setIfInBounds_toArray, List.set_cons_zero, List.set_cons_succ]
      refine hd_take 2 rfl (by kernel_rfl) (by kernel_rfl) (by kernel_rfl) (fun _ _ _ h => h) (by rfl) (by intro w hSw; (try dsimp only at hSw); go_simp; first | done | with_reducible rfl) hHeld ?_
      try simp only [Act.put, List.setIfInBounds_toArray, List.set_cons_zero, List.set_cons_succ]
      refine hd_step 3 (by kernel_rfl) rfl (fun K hK => ?_)
      rw [if_pos (by rfl)]
      refine oper_app_rd (base := h + 2) w4.drew (.tmp 23) (.tmp 24) _ (by rfl) ER (.slice pa o.length pc) o.length (o.flatMap runeE) (by rfl) (show w4.drew.ownsRow (h + 2) 21 1 (.slice pa o.length pc) o.length (o.flatMap runeE) from HOw4.out) u l.length (l.flatMap runeE) (by rfl) (show Rd w4.heap.size w4.drew 1 u l.length (l.flatMap runeE) from rd_of_owns HU4.out) (runeE_one _) hbig (by show h + 2 ≤ w4.heap.size; omega) ?_
      intro v6 w6 ho6 hg6
      have hg6' : w4.grownBy w6 (Value.slice pa o.length pc).ownBlock := ⟨hg6.os, hg6.tape, hg6.output, hg6.size, hg6.block⟩
      have hpo2 : ∀ b, (Value.slice pa o.length pc).ownBlock = some b → h + 2 ≤ b := fun b e => (HOw4.out.lt b e).1
      have hs6 : w6.rangeAt pb 0 [.int .i64 p.nd, .int .i64 p.hv, .int .u8 p.lo, .int .u8 p.hi, .int .i32 p.vl] := range_stays hin (hg6'.block pb (by omega) (fun e => by have := hpo pb e.symm; omega))
      have hr6 : w6.heap[h]? = some (dcRow (stD Dc0 ((bytesN s).take k))) := (hg6'.block h (by omega) (fun e => by have := hpo2 h e.symm; omega)).trans HW4.out.r
      have hby6 : ∀ j, j < s.size → w6.cell? ⟨h + 1, j, none⟩ = some (.int .u8 (((s.data.toList.getD j 0).toNat : Nat) : Int)) := fun j hj => (World.cell?_of_block (hg6'.block (h + 1) (by omega) (fun e => by have := hpo2 _ e.symm; omega))).trans (HW4.out.by' j hj)
      rw [← HDd.out] at hr6
      have hr6 : w6.heap[h]? = some (.cells #[.int .i64 d.nd, .int .i64 d.hv, .int .u8 d.lo, .int .u8 d.hi, .int .i32 d.vl] 170 (0, 0)) := hr6
      have HB6 := Lib.hid (HB4.out.grown hg6' (by omega) (fun b e => by have := hpo2 b e; omega))
      have hz6 := hg6'.size
      have HW8 := Lib.hid (show DcW (((((w6.setCell ⟨h, 0, none⟩ (.int .i64 p.nd)).setCell ⟨h, 1, none⟩ (.int .i64 p.hv)).setCell ⟨h, 2, none⟩ (.int .u8 p.lo)).setCell ⟨h, 3, none⟩ (.int .u8 p.hi)).setCell ⟨h, 4, none⟩ (.int .i32 p.vl)) h s (k + 1) v6 from
        ⟨by simp; omega, by rw [HSt.out]; exact row_set5 hr6 _ _ _ _ _, fun j hj => ((((World.cell?_setCell_other _ _ _ _ (by simp)).trans (World.cell?_setCell_other _ _ _ _ (by simp))).trans (World.cell?_setCell_other _ _ _ _ (by simp))).trans (World.cell?_setCell_other _ _ _ _ (by simp))).trans ((World.cell?_setCell_other _ _ _ _ (by simp)).trans (hby6 j hj)),
          by rw [HOu.out, ← HOo.out, List.length_append, List.flatMap_append]; exact owns_store (owns_store (owns_store (owns_store (owns_store ho6 (by omega)) (by omega)) (by omega)) (by omega)) (by omega)⟩)
      have z0 := row_cells (i := 0) hr6 rfl
      have zw0 := row_warm hr6 0
      have z1 := row_cells (i := 1) hr6 rfl
      have zw1 := row_warm hr6 1
      have z2 := row_cells (i := 2) hr6 rfl
      have zw2 := row_warm hr6 2
      have z3 := row_cells (i := 3) hr6 rfl
      have zw3 := row_warm hr6 3
      have z4 := row_cells (i := 4) hr6 rfl
      have zw4 := row_warm hr6 4
      clear ho6 hg6 hg6' hpo hpo2 hr6 hby6 HOw4 HU4 HW4 HB4 hin
      refine hK.out _ _ hs6 (fun hHeld => ?_)
      clear hK K
      try simp only [Act.put, List.setIfInBounds_toArray, List.set_cons_zero, List.set_cons_succ]
      refine hd_step 4 (by kernel_rfl) rfl (fun K hK => ?_)
      go_simp
      refine hK.out _ _ (range_far (range_far (range_far (range_far (range_far hs6 (by omega)) (by omega)) (by omega)) (by omega)) (by omega)) (fun hHeld => ?_)
      clear hK K
      try simp only [Act.put, List.setIfInBounds_toArray, List.set_cons_zero, List.set_cons_succ]
      refine hd_take 5 rfl (by kernel_rfl) (by kernel_rfl) (by kernel_rfl) (fun _ _ _ h => h) (by rfl) (by intro w hSw; (try dsimp only at hSw); go_simp; first | done | with_reducible rfl) hHeld ?_
      try simp only [Act.put, List.setIfInBounds_toArray, List.set_cons_zero, List.set_cons_succ]
      refine wpAnyH_done (by kernel_rfl) ?_ _
      clear hHeld hs6
      go_wp2_with fail
      go_roundw
      case rel => exact ⟨k + 1, by omega, by go_num, ((((HB6.out.setCell (by show h ≤ h; omega) _).setCell (by show h ≤ h; omega) _).setCell (by show h ≤ h; omega) _).setCell (by show h ≤ h; omega) _).setCell (by show h ≤ h; omega) _, HW8.out⟩
      case measure => simp [intOf] <;> omega
    · have hke : (bytesN s).take k = bytesN s := List.take_of_length_le (by rw [bytesN_len]; omega)
      have hke2 : k = s.size := by omega
      rw [hke] at hd hol hbl ⊢
      have hown := hW.own
      rw [hke] at hown
      have HOw := Lib.hid hown
      have HRes := Lib.hid (show decS Dc0 (bytesN s) = outD Dc0 (bytesN s) ++ endD d by rw [decS_out, hd])
      have hel := endD_len d
      have s0 : ¬ k < s.size := hlt
      clear hB hW hown hd hke hrow hdok
      go_wp2_with fail
      refine (dend_any d wr).mono ?_
      rintro e w3 ⟨u, rfl, hB3, hU3⟩
      have HU3 := Lib.hid (rd_of_owns hU3)
      have HOw3 := Lib.hid (owns_stays HOw.out hB3)
      have HB3 := Lib.hid (HB.out.trans (hB3.mono (by omega)))
      have hs3 := hB3.size
      have hbs3 : h + 2 ≤ w3.heap.size := by omega
      have hbig : ((outD Dc0 (bytesN s)).length + (endD d).length) * 4 ≤ 140737488355328 := by omega
      clear hB3 hU3 r0 r1 r2 r3 r4 HOw HB HW
      go_wp2_with (at_builtin; go_loud (refine wpList_app_rd (base := h + 2) _ rfl (.tmp 27) (.tmp 29) _ rfl ER _ _ _ rfl HOw3.out _ _ _ rfl HU3.out (runeE_one _) hbig hbs3 ?_); intro v5 w5 ho5 hg5; have HB5 := Lib.hid (below_app HB3.out (by omega) HOw3.out (by omega) hg5); have HO5 := Lib.hid ho5; clear ho5 hg5)
      go_ret
      exact ⟨_, rfl, by rw [HH.out]; exact HB5.out, by rw [HRes.out, List.length_append, List.flatMap_append, HH.out]; exact owns_lower HO5.out (by omega)⟩
end Go.Proofs.Ythlpelfogplomaa

/- glyph.Read, the document's Right. -/
namespace Go.Proofs.Ythlpelfogplomaa
open Go.RowKit

theorem fstD_rng {b : Int} (h0 : 0 ≤ b) (h1 : b ≤ 255) : ∀ x ∈ (fstD b).2, 0 ≤ x ∧ x ≤ 2097151 := by
  intro x hx
  unfold fstD at hx
  split at hx
  · simp at hx; omega
  · split at hx
    · simp at hx; omega
    · simp at hx
theorem fdD_rng {d : Dc} (hd : DcOk d) {b : Int} (h0 : 0 ≤ b) (h1 : b ≤ 255) : ∀ x ∈ (fdD d b).2, 0 ≤ x ∧ x ≤ 2097151 := by
  intro x hx
  unfold fdD at hx
  split at hx
  · exact fstD_rng h0 h1 x hx
  · split at hx
    · simp only [List.mem_cons] at hx
      rcases hx with rfl | hx
      · omega
      · exact fstD_rng h0 h1 x hx
    · split at hx
      · rename_i h2
        have := hd.vl
        simp at hx
        omega
      · simp at hx
theorem decS_rng : ∀ (l : List Int) (d : Dc), DcOk d → (∀ x ∈ l, 0 ≤ x ∧ x ≤ 255) → ∀ x ∈ decS d l, 0 ≤ x ∧ x ≤ 2097151
  | [], d, _, _ => by
    intro x hx
    unfold decS endD at hx
    split at hx <;> simp at hx
    omega
  | b :: l, d, hd, hb => by
    intro x hx
    have hb0 := hb b List.mem_cons_self
    rcases List.mem_append.1 (show x ∈ (fdD d b).2 ++ decS (fdD d b).1 l from hx) with h | h
    · exact fdD_rng hd hb0.1 hb0.2 x h
    · exact decS_rng l _ (dcOk_feed hd hb0.1 hb0.2) (fun y hy => hb y (List.mem_cons_of_mem _ hy)) x h
theorem decS_ok (s : ByteArray) : RunesOk (decS Dc0 (bytesN s)) := fun x hx => by
  have := decS_rng (bytesN s) Dc0 dcOk_0 (bytesN_rng s) x hx
  unfold I32
  omega
/-- what a terminal takes scalars for -/
def rdG (R : List Rw) (c : List Int) : Gy := (enc c, ((widN R c : Nat) : Int))
def readG (R : List Rw) (l : List Int) : List Gy := (clus (tabOf R) l).map (rdG R)
section
variable {R : List Rw} {w : World} {tp : Nat}
set_option maxRecDepth 100000 in
set_option maxHeartbeats 8000000 in
theorem gread_any (hT : Tb R w tp) (s : ByteArray) (hl : s.size ≤ 400000) :
    Calls Try.prog 27 #[.pointer (some ⟨tp, 0, none⟩), .string s] w fun e w' => ∃ u, e = .returned u ∧ Below w.heap.size w w' ∧ GlyIn w' u (readG R (decS Dc0 (bytesN s))) := by
  have HT := Lib.hid hT
  have hdl := decS_len (bytesN s)
  rw [bytesN_len] at hdl
  have HOk := Lib.hid (decS_ok s)
  have HDe := Lib.hid (decode_any s (by omega) w)
  generalize decS Dc0 (bytesN s) = l at hdl HOk HDe ⊢
  have HCl := Lib.hid (fun (W : World) (v : Value) (h1 : Tb R W tp) (h2 : RunesIn W v l) => clusters_any h1 h2 HOk.out (by omega))
  have HNe := Lib.hid (clus_ne (tabOf R) l.length l (Nat.le_refl _))
  have HMem := Lib.hid (clus_mem (tabOf R) l.length l (Nat.le_refl _))
  have hLl : (clus (tabOf R) l).length ≤ l.length := clusN_len (tabOf R) l.length l
  unfold readG
  generalize clus (tabOf R) l = LL at HCl HNe HMem hLl ⊢
  clear hT
  go_enter Try.func27, Try.ntmps27
  go_wp2_with fail
  refine HDe.out.mono ?_
  rintro e w1 ⟨u, rfl, hB1, hU1⟩
  have HB1 := Lib.hid hB1
  have HT1 := Lib.hid (HT.out.below hB1)
  have HU1 := Lib.hid (show RunesIn w1 u l from rd_of_owns hU1)
  clear hB1 hU1 HDe HT
  go_wp2_with fail
  refine (HCl.out _ _ HT1.out HU1.out).mono ?_
  rintro e w2 ⟨v, rfl, hB2, hX2⟩
  have HB2 := Lib.hid (below_trans' HB1.out hB2)
  have HT2 := Lib.hid (HT1.out.below hB2)
  have HX := Lib.hid hX2
  obtain ⟨ta, tcap, rfl, ht1, ht2⟩ := texts_shape hX2
  unfold maxLen at ht2
  clear hB2 hX2 HB1 HT1 HU1 HCl
  go_wp2_with fail
  go_loopw [5, 13] (fun ov iv wr => ∃ (k : Nat) (G : List Gy), k ≤ LL.length ∧ iv = .int .i64 ((k : Nat) : Int) ∧ Below w2.heap.size w2 wr ∧ wr.ownsRow w2.heap.size 59 2 ov G.length (G.flatMap gyE) ∧ G = (LL.take k).map (rdG R)) (fun _ iv _ => LL.length - (intOf iv).toNat)
  case atStart => exact ⟨0, [], Nat.zero_le _, rfl, .refl _ _, World.ownsRow_nil _ _ _ _, rfl⟩
  case round =>
    obtain ⟨k, G, hk, rfl, hB, hO, hG⟩ := hrel
    have HB := Lib.hid hB
    have HO := Lib.hid hO
    have hbs := hB.size
    have hGl : G.length = k := by rw [hG, List.length_map, List.length_take]; omega
    obtain ⟨pa, pc, rfl⟩ := slice_of_owns hO
    by_cases hlt : k < LL.length
    · obtain ⟨c, hc⟩ : ∃ c, LL[k]? = some c := ⟨LL[k], List.getElem?_eq_getElem hlt⟩
      have hcm := List.mem_of_getElem? hc
      have hcl := (HNe.out c hcm).2
      have HOkc := Lib.hid (show RunesOk c from fun x hx => HOk.out x (HMem.out c hcm x hx))
      obtain ⟨b, off, cp, cu, hv, _, _, _, _, d0, hcu⟩ := texts_cell (HX.out.below hB) hc
      cases hv
      have HCu := Lib.hid hcu
      have HGn := Lib.hid (show G ++ [rdG R c] = (LL.take (k + 1)).map (rdG R) by rw [List.take_add_one, hc, List.map_append, hG]; rfl)
      have s0 : (k : Int) < (LL.length : Int) := by omega
      have s1 : (0 : Int) ≤ (k : Int) := by omega
      have e1 := IntWalk.i64_in ((k : Int) + 1) (by omega)
      have hbig : (G.length + 1) * 24 ≤ 140737488355328 := by omega
      have hTr := HT2.out.below hB
      have HTr := Lib.hid hTr
      clear hB hO hG hc hcm hcu hlt hTr hGl
      go_wp2_with fail
      refine (encode_any HCu.out (by omega)).mono ?_
      rintro e w3 ⟨rfl, hB3⟩
      have HB3 := Lib.hid (HB.out.trans (hB3.mono hbs))
      have HO3 := Lib.hid (owns_stays HO.out hB3)
      have HC3 := Lib.hid (HCu.out.below hB3)
      have HT3 := Lib.hid (HTr.out.below hB3)
      clear hB3 HTr HCu HB HO d0
      go_wp2_with fail
      refine (width_any HT3.out HC3.out HOkc.out (by omega)).mono ?_
      rintro e w4 ⟨rfl, hB4⟩
      have HB4 := Lib.hid (HB3.out.trans (hB4.mono HB3.out.size))
      have HO4 := Lib.hid (owns_stays HO3.out hB4)
      have hbs4 := HB4.out.size
      have hgy : rdG R c = (enc c, ((widN R c : Nat) : Int)) := rfl
      rw [hgy] at HGn
      clear hB4 HT3 HC3 HB3 HO3 hgy
      generalize enc c = ec at HGn ⊢
      generalize ((widN R c : Nat) : Int) = wc at HGn ⊢
      go_wp2_with (at_builtin; go_loud (refine wpList_app1 _ rfl (.tmp 17) (.tmp 24) _ rfl EG _ _ _ rfl HO4.out 1 1 (gyE (ec, wc)) rfl (by decide) rfl (gyE_one _) hbig hbs4 ?_); intro g cp7 w7 ho7 hg7 hf7; have HB7 := Lib.hid (below_app HB4.out hbs4 HO4.out (Nat.le_refl _) hg7); have HO7 := Lib.hid ho7; clear ho7 hg7 hf7)
      go_roundw
      case rel => exact ⟨k + 1, G ++ [(ec, wc)], by omega, by go_num, HB7.out, by rw [List.length_append, flat_snoc]; exact HO7.out, HGn.out⟩
      case measure => simp [intOf] <;> omega
    · have hke : k = LL.length := by omega
      subst hke
      rw [List.take_length] at hG
      have HGe := Lib.hid hG
      clear hlt hk hG hB hO hGl
      go_wp2_with fail
      go_ret
      exact ⟨_, rfl, below_trans' HB2.out HB.out, by rw [← HGe.out]; exact gly_of_owns HO.out⟩
end
section
variable {w : World} {sv : Value} {s : List Int}
theorem fix_snoc {k : Nat} {x : Int} (hx : s[k]? = some x) : (s.take (k + 1)).map fixR = (s.take k).map fixR ++ [fixR x] := by
  rw [List.take_add_one, hx, List.map_append]; rfl
theorem right_ok (l : List Int) : ∀ x ∈ l.map fixR, validB x = true := by
  intro x hx
  obtain ⟨y, _, rfl⟩ := List.mem_map.1 hx
  unfold fixR
  split
  · assumption
  · decide
set_option maxRecDepth 100000 in
set_option maxHeartbeats 8000000 in
theorem right_any (hs : RunesIn w sv s) (hl : s.length ≤ 1000000) :
    Calls Try.prog 25 #[sv] w fun e w' => ∃ u, e = .returned u ∧ Below w.heap.size w w' ∧ RunesIn w' u (s.map fixR) := by
  have HS := Lib.hid hs
  obtain ⟨sl, cap, rfl, hcap, hmax, _⟩ := runes_cells hs
  unfold maxLen at hmax
  clear hs
  go_enter Try.func25, Try.ntmps25
  go_wp2_with fail
  go_loopw [3, 4] (fun ov iv wr => ∃ (k : Nat) (o : List Int), k ≤ s.length ∧ iv = .int .i64 ((k : Nat) : Int) ∧ Below w.heap.size w wr ∧ wr.ownsRow w.heap.size 21 1 ov o.length (o.flatMap runeE) ∧ o = (s.take k).map fixR) (fun _ iv _ => s.length - (intOf iv).toNat)
  case atStart => exact ⟨0, [], Nat.zero_le _, rfl, .refl _ _, World.ownsRow_nil _ _ _ _, rfl⟩
  case round =>
    obtain ⟨k, o, hk, rfl, hB, hO, ho⟩ := hrel
    have HB := Lib.hid hB
    have HO := Lib.hid hO
    have hbs := hB.size
    have hol : o.length = k := by rw [ho, List.length_map, List.length_take]; omega
    obtain ⟨pa, pc, rfl⟩ := slice_of_owns hO
    by_cases hlt : k < s.length
    · obtain ⟨x, hx⟩ : ∃ x, s[k]? = some x := ⟨s[k], List.getElem?_eq_getElem hlt⟩
      obtain ⟨rb, roff, _, hv, _, _, _, _, l0⟩ := rune_cell (HS.out.below hB) hx
      cases hv
      have hn := fix_snoc hx
      rw [← ho] at hn
      have s0 : (k : Int) < (s.length : Int) := by omega
      have s1 : (0 : Int) ≤ (k : Int) := by omega
      have e1 := IntWalk.i64_in ((k : Int) + 1) (by omega)
      have hbig : (o.length + 1) * 4 ≤ 140737488355328 := by omega
      have HVa := Lib.hid (rvalid_any x)
      by_cases hv : validB x = true
      · have HN := Lib.hid (show (s.take (k + 1)).map fixR = o ++ [x] by rw [hn, fixR_ok hv])
        rw [hv] at HVa
        clear hB hO ho hx hlt hn hv hol
        go_wp2_with fail
        refine (HVa.out _).mono ?_
        rintro e w3 ⟨rfl, rfl⟩
        go_wp2_with (at_builtin; go_loud (refine wpList_app1 _ rfl (.tmp 16) (.tmp 21) _ rfl ER _ _ _ rfl HO.out 1 1 (runeE x) rfl (by decide) rfl (by intro u hu; simp [runeE] at hu; subst hu; rfl) hbig hbs ?_); intro g cp7 w7 ho7 hg7 hf7; have HB7 := Lib.hid (below_app HB.out hbs HO.out (Nat.le_refl _) hg7); have HO7 := Lib.hid ho7; clear ho7 hg7 hf7)
        go_roundw
        case rel => exact ⟨k + 1, o ++ [x], by omega, by go_num, HB7.out, by rw [List.length_append, flat_snoc]; exact HO7.out, HN.out.symm⟩
        case measure => simp [intOf] <;> omega
      · have hv : validB x = false := Bool.eq_false_iff.2 hv
        have HN := Lib.hid (show (s.take (k + 1)).map fixR = o ++ [65533] by rw [hn, fixR_bad hv])
        rw [hv] at HVa
        clear hB hO ho hx hlt hn hv hol
        go_wp2_with fail
        refine (HVa.out _).mono ?_
        rintro e w3 ⟨rfl, rfl⟩
        go_wp2_with (at_builtin; go_loud (refine wpList_app1 _ rfl (.tmp 23) (.tmp 24) _ rfl ER _ _ _ rfl HO.out 1 1 (runeE 65533) rfl (by decide) rfl (by intro u hu; simp [runeE] at hu; subst hu; rfl) hbig hbs ?_); intro g cp7 w7 ho7 hg7 hf7; have HB7 := Lib.hid (below_app HB.out hbs HO.out (Nat.le_refl _) hg7); have HO7 := Lib.hid ho7; clear ho7 hg7 hf7)
        go_roundw
        case rel => exact ⟨k + 1, o ++ [65533], by omega, by go_num, HB7.out, by rw [List.length_append, flat_snoc]; exact HO7.out, HN.out.symm⟩
        case measure => simp [intOf] <;> omega
    · have hke : k = s.length := by omega
      subst hke
      rw [List.take_length] at ho
      have HOe := Lib.hid ho
      clear hB hO ho hlt hol
      go_wp2_with fail
      go_ret
      exact ⟨_, rfl, HB.out, by rw [← HOe.out]; exact rd_of_owns HO.out⟩
end
end Go.Proofs.Ythlpelfogplomaa

/- A line of glyphs, sent as bytes, read again; facts of the given rows. -/
namespace Go.Proofs.Ythlpelfogplomaa
open Go.RowKit

/-- no property at all -/
def dullB (R : List Rw) (x : Int) : Bool := decide (brkR R x = 0) && (!decide (ofA R 5 x = 1) && (decide (conjR R x = 0) && !decide (ofA R 7 x = 1)))
def dullEx (R : List Rw) : Bool := ([94, 63, 65533, 9676, 120, 121] : List Int).all (dullB R) && (List.range 32).all (fun i => dullB R (64 + (i : Int)))
theorem dullR_of {R : List Rw} (h : dullEx R = true) : DullR R := by
  unfold dullEx at h
  rw [Bool.and_eq_true, List.all_eq_true, List.all_eq_true] at h
  have key : ∀ x, (x = 94 ∨ x = 63 ∨ x = 65533 ∨ x = 9676 ∨ x = 120 ∨ x = 121 ∨ (64 ≤ x ∧ x < 96)) → dullB R x = true := by
    intro x hx
    by_cases hr : 64 ≤ x ∧ x < 96
    · have := h.2 (x - 64).toNat (List.mem_range.2 (by omega))
      rwa [show (64 : Int) + ((x - 64).toNat : Nat) = x by omega] at this
    · refine h.1 x ?_
      simp only [List.mem_cons, List.not_mem_nil, or_false]
      omega
  have key2 : ∀ x, dullB R x = true → brkR R x = 0 ∧ ¬ ofA R 5 x = 1 ∧ conjR R x = 0 ∧ ¬ ofA R 7 x = 1 := by
    intro x hx
    simpa only [dullB, Bool.and_eq_true, decide_eq_true_eq, Bool.not_eq_true', decide_eq_false_iff_not] using hx
  exact ⟨fun x hx => ⟨(key2 x (key x hx)).1, decide_eq_false (key2 x (key x hx)).2.1, (key2 x (key x hx)).2.2.1⟩, fun x hx => decide_eq_false (key2 x (key x hx)).2.2.2⟩
theorem dullRows_any : ∃ R : List Rw, RFacts R ∧ DullR R ∧ ∀ w, Calls Try.prog 11 #[] w (LitPost R w) :=
  ⟨((((((((rowsFn Try.f34) ++ rowsFn Try.f35) ++ rowsFn Try.f36) ++ rowsFn Try.f37) ++ rowsFn Try.f38) ++ rowsFn Try.f39) ++ rowsFn Try.f40) ++ rowsFn Try.f41), rfacts_of (by kernel_rfl) (by kernel_rfl) (by kernel_rfl) (by kernel_rfl) (by kernel_rfl) (by kernel_rfl), dullR_of (by kernel_rfl), fun w => apiRows_of _ _ _ _ _ _ _ _ (of_decide_eq_true (by kernel_rfl)) (of_decide_eq_true (by kernel_rfl)) (of_decide_eq_true (by kernel_rfl)) (of_decide_eq_true (by kernel_rfl)) (of_decide_eq_true (by kernel_rfl)) (of_decide_eq_true (by kernel_rfl)) (of_decide_eq_true (by kernel_rfl)) (of_decide_eq_true (by kernel_rfl)) classes_any pairs_any outs_any breaks_any picts_any conjs_any wides_any letters_any w⟩
/-! bytes of texts -/
theorem bytesN_nums {xs : List Int} (h : ∀ x ∈ xs, 0 ≤ x ∧ x ≤ 255) : bytesN (strOfNums xs) = xs := by
  unfold bytesN
  rw [strOfNums_data, List.map_map]
  have : ∀ x ∈ xs, ((fun b : UInt8 => ((b.toNat : Nat) : Int)) ∘ fun n : Int => UInt8.ofNat n.toNat) x = x := by
    intro x hx
    obtain ⟨h0, h1⟩ := h x hx
    show (((UInt8.ofNat x.toNat).toNat : Nat) : Int) = x
    rw [UInt8.toNat_ofNat']
    omega
  rw [List.map_congr_left this, List.map_id']
theorem bytesN_enc (l : List Int) : bytesN (enc l) = encN l := bytesN_nums (encN_rng l)
theorem bytesN_app (a b : ByteArray) : bytesN (a ++ b) = bytesN a ++ bytesN b := by
  unfold bytesN
  rw [ByteArray.data_append]
  simp
/-- texts one behind the other -/
def catG (b0 : ByteArray) (G : List Gy) : ByteArray := G.foldl (fun b g => b ++ g.1) b0
theorem catG_snoc (b0 : ByteArray) (G : List Gy) (g : Gy) : catG b0 (G ++ [g]) = catG b0 G ++ g.1 := by unfold catG; rw [List.foldl_append]; rfl
theorem bytesN_cat : ∀ (G : List Gy) (b0 : ByteArray), bytesN (catG b0 G) = bytesN b0 ++ G.flatMap (fun g => bytesN g.1)
  | [], b0 => by show bytesN b0 = _; simp
  | g :: G, b0 => by
    show bytesN (catG (b0 ++ g.1) G) = _
    rw [bytesN_cat G, bytesN_app, List.flatMap_cons, List.append_assoc]
theorem cat_scl (R : List Rw) (L : List (List Int)) : (L.map (rdG R)).flatMap (fun g => bytesN g.1) = encN L.flatten := by
  induction L with
  | nil => rfl
  | cons c L ih =>
    rw [List.map_cons, List.flatMap_cons, ih, List.flatten_cons]
    unfold encN
    rw [List.flatMap_append]
    congr 1
    exact bytesN_enc c
section
variable {R : List Rw}
theorem wid_dull {x : Int} (h : wideB R x = false) : widN R [x] = 1 := by
  unfold widN hitsF hitsF hitB
  rw [h]
  simp
theorem caret_rd (D : DullR R) (r : Int) : caretG r = (caretS r).map (rdG R) := by
  unfold caretG caretS
  split
  · rename_i hr
    have e1 : enc [94] = (⟨#[94]⟩ : ByteArray) := by decide
    have hv : validB (r + 64) = true := validB_iff.2 (.inl ⟨by omega, by omega⟩)
    have e2 : enc [r + 64] = strOfNums [r + 64] := by
      unfold enc encN
      rw [List.flatMap_cons, List.flatMap_nil, List.append_nil]
      unfold putN
      rw [fixR_ok hv, if_pos (by omega)]
    show _ = [rdG R [94], rdG R [r + 64]]
    unfold rdG
    rw [e1, e2, wid_dull (D.w 94 (by omega)), wid_dull (D.w (r + 64) (by omega))]
    rfl
  · split
    · have e1 : enc [94] = (⟨#[94]⟩ : ByteArray) := by decide
      have e2 : enc [63] = (⟨#[63]⟩ : ByteArray) := by decide
      show _ = [rdG R [94], rdG R [63]]
      unfold rdG
      rw [e1, e2, wid_dull (D.w 94 (by omega)), wid_dull (D.w 63 (by omega))]
      rfl
    · have e1 : enc [65533] = put 65533 := by unfold enc put encN; rw [List.flatMap_cons, List.flatMap_nil, List.append_nil]
      show _ = [rdG R [65533]]
      unfold rdG
      rw [e1, wid_dull (D.w 65533 (by omega))]
      rfl
theorem gl_scl (D : DullR R) (c : List Int) : glOf R c = (sclOf R c).map (rdG R) := by
  unfold glOf sclOf
  split
  · rfl
  · split
    · rw [List.map_flatMap]
      congr 1
      funext r
      exact caret_rd D r
    · rfl
theorem line_scl (D : DullR R) (LL : List (List Int)) : lineG R LL = (LL.flatMap (sclOf R)).map (rdG R) := by
  unfold lineG
  rw [List.map_flatMap]
  congr 1
  funext c
  exact gl_scl D c
theorem scl_valid {LL : List (List Int)} (h : ∀ c ∈ LL, ∀ x ∈ c, validB x = true) : ∀ g ∈ LL.flatMap (sclOf R), ∀ x ∈ g, validB x = true := by
  intro g hg x hx
  obtain ⟨c, hc, hg⟩ := List.mem_flatMap.1 hg
  unfold sclOf at hg
  split at hg
  · simp at hg
  · split at hg
    · obtain ⟨r, hr, hg⟩ := List.mem_flatMap.1 hg
      unfold caretS at hg
      split at hg
      · rename_i h32
        simp only [List.mem_cons, List.not_mem_nil, or_false] at hg
        rcases hg with rfl | rfl
        · simp at hx; subst hx; decide
        · simp at hx; subst hx; exact validB_iff.2 (.inl ⟨by omega, by omega⟩)
      · split at hg
        · simp only [List.mem_cons, List.not_mem_nil, or_false] at hg
          rcases hg with rfl | rfl <;> (simp at hx; subst hx; decide)
        · simp only [List.mem_cons, List.not_mem_nil, or_false] at hg
          subst hg
          simp at hx; subst hx; decide
    · simp only [List.mem_cons, List.not_mem_nil, or_false] at hg
      subst hg
      unfold lean at hx
      rcases List.mem_append.1 hx with hx | hx
      · rcases List.mem_append.1 hx with hx | hx
        · split at hx
          · simp at hx; subst hx; decide
          · simp at hx
        · exact h c hc x hx
      · split at hx
        · simp at hx; subst hx; decide
        · simp at hx
/-- from any on up to any: read again -/
theorem read_sub (D : DullR R) {s : List Int} (hv : ∀ x ∈ s, validB x = true) (a n : Nat) :
    readG R (decS Dc0 (bytesN (catG ⟨#[]⟩ (((lineG R (clus (tabOf R) s)).drop a).take n)))) = ((lineG R (clus (tabOf R) s)).drop a).take n := by
  have hval := scl_valid (R := R) (LL := clus (tabOf R) s) (fun c hc x hx => hv x (clus_mem (tabOf R) s.length s (Nat.le_refl _) c hc x hx))
  rw [line_scl D, ← List.map_drop, ← List.map_take, bytesN_cat, cat_scl]
  show readG R (decS Dc0 (encN _)) = _
  rw [dec_enc _ (fun x hx => by
    obtain ⟨g, hg, hx⟩ := List.mem_flatten.1 hx
    exact hval g (List.mem_of_mem_drop (List.mem_of_mem_take hg)) x hx)]
  unfold readG
  rw [reads_again D]
/-- between plain letters -/
theorem read_between (D : DullR R) {s : List Int} (hv : ∀ x ∈ s, validB x = true) :
    readG R (decS Dc0 (bytesN (catG ⟨#[120]⟩ (lineG R (clus (tabOf R) s)) ++ ⟨#[121]⟩))) = (⟨#[120]⟩, 1) :: lineG R (clus (tabOf R) s) ++ [(⟨#[121]⟩, 1)] := by
  have hval := scl_valid (R := R) (LL := clus (tabOf R) s) (fun c hc x hx => hv x (clus_mem (tabOf R) s.length s (Nat.le_refl _) c hc x hx))
  have e1 : enc [120] = (⟨#[120]⟩ : ByteArray) := by decide
  have e2 : enc [121] = (⟨#[121]⟩ : ByteArray) := by decide
  have b1 : bytesN (⟨#[120]⟩ : ByteArray) = encN [120] := by rw [← e1, bytesN_enc]
  have b2 : bytesN (⟨#[121]⟩ : ByteArray) = encN [121] := by rw [← e2, bytesN_enc]
  have h1 : rdG R [120] = (⟨#[120]⟩, 1) := by unfold rdG; rw [e1, wid_dull (D.w 120 (by omega))]; rfl
  have h2 : rdG R [121] = (⟨#[121]⟩, 1) := by unfold rdG; rw [e2, wid_dull (D.w 121 (by omega))]; rfl
  have he : encN [120] ++ encN ((clus (tabOf R) s).flatMap (sclOf R)).flatten ++ encN [121] = encN ([[120]] ++ (clus (tabOf R) s).flatMap (sclOf R) ++ [[121]]).flatten := by
    unfold encN
    rw [List.flatten_append, List.flatten_append, List.flatMap_append, List.flatMap_append]
    rfl
  rw [bytesN_app, bytesN_cat, line_scl D, cat_scl, b1, b2, he]
  rw [dec_enc _ (fun x hx => by
    obtain ⟨g, hg, hx⟩ := List.mem_flatten.1 hx
    rcases List.mem_append.1 hg with hg | hg
    · rcases List.mem_append.1 hg with hg | hg
      · simp at hg; subst hg; simp at hx; subst hx; decide
      · exact hval g hg x hx
    · simp at hg; subst hg; simp at hx; subst hx; decide)]
  unfold readG
  rw [reads_between D, List.map_append, List.map_append]
  show [rdG R [120]] ++ _ ++ [rdG R [121]] = _
  rw [h1, h2]
  rfl
end
end Go.Proofs.Ythlpelfogplomaa

/- GlyphReads: its walk. -/
namespace Go.Proofs.Ythlpelfogplomaa
open Go.RowKit

theorem eqin_cell_any (t : TypeId) (ht : Try.prog.underlying t = some (.struct (Try.prog.fieldsOf t))) (hp : Try.prog.stoodInHeld t = false) (f0 f1 : Field) (hf : (Try.prog.fieldsOf t).toList = [f0, f1]) (y0 : f0.type = 9) (y1 : f1.type = 3) (o0 : f0.offset = 0) (o1 : f1.offset = 1) (s1 : ByteArray) (d1 : Int) (w : World) :
    (Op.equalIn 10000 t (.agg #[.string s1, .int .i64 d1]) (.agg #[.string s1, .int .i64 d1])).run Try.prog w = .ok true w := by
  rw [run_equalIn_agg _ _ _ _ _ ht hp, hf]
  simp only [Op.eqFields, y0, y1, o0, o1]
  simp [go_sem]
set_option maxRecDepth 100000 in
theorem eqin_gly (s1 : ByteArray) (d1 : Int) (w : World) : (Op.equalIn 10000 59 (.agg #[.string s1, .int .i64 d1]) (.agg #[.string s1, .int .i64 d1])).run Try.prog w = .ok true w :=
  eqin_cell_any 59 (by kernel_rfl) (by kernel_rfl) _ _ rfl rfl rfl rfl rfl _ _ w
theorem scl_len (R : List Rw) : ∀ LL : List (List Int), ((LL.flatMap (sclOf R)).flatten).length ≤ 3 * LL.flatten.length
  | [] => by simp
  | c :: LL => by
    have ih := scl_len R LL
    have hc : (sclOf R c).flatten.length ≤ 3 * c.length := by
      unfold sclOf
      split
      · simp
      · rename_i hne
        split
        · have hf : ∀ s : List Int, (s.flatMap caretS).flatten.length ≤ 2 * s.length := fun s => by
            induction s with
            | nil => simp
            | cons r s ih =>
              rw [List.flatMap_cons, List.flatten_append, List.length_append, List.length_cons]
              have : (caretS r).flatten.length ≤ 2 := by unfold caretS; split; · simp
                                                         split <;> simp
              omega
          have := hf c
          omega
        · have hpos : 0 < c.length := List.length_pos_iff.2 hne
          show ([lean R c]).flatten.length ≤ _
          unfold lean
          have h1 : (if dotB ((tabOf R).b (c.headD 0)) = true then ([9676] : List Int) else []).length ≤ 1 := by split <;> simp
          have h2 : (if (tabOf R).b (c.getLastD 0) = 7 then ([9676] : List Int) else []).length ≤ 1 := by split <;> simp
          simp only [List.flatten_cons, List.flatten_nil, List.append_nil, List.length_append]
          omega
    rw [List.flatMap_cons, List.flatten_append, List.length_append, List.flatten_cons, List.length_append]
    omega
theorem cat_size {R : List Rw} (D : DullR R) (s : List Int) (b0 : ByteArray) (a n : Nat) : (catG b0 (((lineG R (clus (tabOf R) s)).drop a).take n)).size ≤ b0.size + 12 * s.length := by
  have h1 := scl_len R (clus (tabOf R) s)
  rw [clus_flat (tabOf R) s.length s (Nat.le_refl _)] at h1
  rw [← bytesN_len, line_scl D, ← List.map_drop, ← List.map_take, bytesN_cat, cat_scl, List.length_append, bytesN_len]
  have h2 := encN_len ((((clus (tabOf R) s).flatMap (sclOf R)).drop a).take n).flatten
  have h3 : ((((clus (tabOf R) s).flatMap (sclOf R)).drop a).take n).flatten.length ≤ ((clus (tabOf R) s).flatMap (sclOf R)).flatten.length := by
    have e1 := congrArg List.length (congrArg List.flatten (List.take_append_drop a ((clus (tabOf R) s).flatMap (sclOf R))))
    have e2 := congrArg List.length (congrArg List.flatten (List.take_append_drop n (((clus (tabOf R) s).flatMap (sclOf R)).drop a)))
    rw [List.flatten_append, List.length_append] at e1 e2
    omega
  omega
theorem cat_next {G : List Gy} {b0 : ByteArray} {a k : Nat} {g : Gy} (hg : G[a + k]? = some g) : catG b0 ((G.drop a).take (k + 1)) = catG b0 ((G.drop a).take k) ++ g.1 := by
  rw [List.take_add_one, List.getElem?_drop, hg]
  exact catG_snoc _ _ _
/-- a % n, brought to 0 .. n - 1 -/
theorem rem_fact (i : Int) (m : Nat) : ∃ (x1 : Int) (j : Nat), x1 = i.tmod ((m : Int) + 1) ∧ (j : Int) = (x1 + ((m : Int) + 1)) % ((m : Int) + 1) ∧ j ≤ m ∧ x1 < (m : Int) + 1 ∧ -((m : Int) + 1) < x1 := by
  obtain ⟨x1, hx1⟩ : ∃ x1, x1 = i.tmod ((m : Int) + 1) := ⟨_, rfl⟩
  have b1 : x1 < (m : Int) + 1 := by rw [hx1]; exact Int.tmod_lt_of_pos i (by omega)
  have b2 : -((m : Int) + 1) < x1 := by
    rcases Int.le_total 0 i with h | h
    · have := Int.tmod_nonneg ((m : Int) + 1) h; omega
    · have h1 := Int.tmod_lt_of_pos (-i) (b := (m : Int) + 1) (by omega)
      rw [Int.neg_tmod] at h1
      omega
  have h1 := Int.emod_nonneg (x1 + ((m : Int) + 1)) (b := (m : Int) + 1) (by omega)
  have h2 := Int.emod_lt_of_pos (x1 + ((m : Int) + 1)) (b := (m : Int) + 1) (by omega)
  exact ⟨x1, ((x1 + ((m : Int) + 1)) % ((m : Int) + 1)).toNat, hx1, by omega, by omega, b1, b2⟩
set_option maxRecDepth 100000 in
set_option maxHeartbeats 8000000 in
theorem glyphReads_any (v0 : Value) (l0 : List Int) (from0 to0 : Int) (w : World) (hl : RunesIn w v0 l0) (_hok : RunesOk l0) :
    Calls Try.prog 7 #[v0, .int .i64 from0, .int .i64 to0] w fun e w' => e = .returned (.bool true) ∧ Below w.heap.size w w' := by
  obtain ⟨R, HFc, HDc, hrows⟩ := dullRows_any
  have HF := Lib.hid HFc
  have HRows := Lib.hid hrows
  have HFew := Lib.hid (few_any hl 100)
  clear hrows hl
  obtain ⟨l, hll⟩ : ∃ l, l = (l0.take 100).map fixR := ⟨_, rfl⟩
  have hval : ∀ x ∈ l, validB x = true := by rw [hll]; exact right_ok _
  have HOk := Lib.hid (show RunesOk l from fun x hx => by have := validB_iff.1 (hval x hx); unfold I32; omega)
  have hlen : l.length ≤ 100 := by rw [hll, List.length_map, List.length_take]; omega
  have HLine := Lib.hid (fun (W : World) (tp : Nat) (sv : Value) (h1 : Tb R W tp) (h2 : RunesIn W sv l) => line_any h1 h2 HOk.out (by omega))
  have HRd := Lib.hid (read_sub HDc hval)
  have HSz := Lib.hid (cat_size HDc l ⟨#[]⟩)
  have hGl := lineG_take_le R l (clus (tabOf R) l).length
  rw [List.take_length] at hGl
  obtain ⟨G, hG⟩ : ∃ G, G = lineG R (clus (tabOf R) l) := ⟨_, rfl⟩
  rw [← hG] at HLine HRd HSz hGl
  have HLl := Lib.hid hll
  clear hll HFc HDc hval hG
  have hGs : G.length ≤ 200 := by omega
  obtain ⟨x1, fr, hx1, hfr, hfn, b1, b2⟩ := rem_fact from0 G.length
  obtain ⟨y1, tt, hy1, hto, htn, c1, c2⟩ := rem_fact to0 G.length
  have e1 := IntWalk.i64_in ((G.length : Int) + 1) (by omega)
  have e2 := IntWalk.i64_in x1 (by omega)
  have e4 := IntWalk.i64_in (x1 + ((G.length : Int) + 1)) (by omega)
  have e5 := IntWalk.i64_in (fr : Int) (by omega)
  have d2 := IntWalk.i64_in y1 (by omega)
  have d4 := IntWalk.i64_in (y1 + ((G.length : Int) + 1)) (by omega)
  have d5 := IntWalk.i64_in (tt : Int) (by omega)
  have hne : ¬ (G.length : Int) + 1 = 0 := by omega
  have hne1 : ¬ (G.length : Int) + 1 = -1 := by omega
  have q1 := hx1.symm
  have q2 := hfr.symm
  have q3 := hy1.symm
  have q4 := hto.symm
  clear hx1 hfr hy1 hto hGl
  go_enter Try.func7, Try.ntmps7
  go_wp2_with fail
  refine HFew.out.mono ?_
  rintro e w' ⟨⟨sv, rfl, hS⟩, rfl⟩
  go_wp2_with fail
  refine (right_any hS (by rw [List.length_take]; omega)).mono ?_
  rintro e w1 ⟨rv, rfl, hB1, hS1⟩
  rw [← HLl.out] at hS1
  have HB1 := Lib.hid hB1
  have HS1 := Lib.hid hS1
  clear hS hB1 hS1 HFew
  go_wp2_with fail
  refine (HRows.out w1).mono ?_
  rintro e w2 ⟨v, rfl, hB2, hR2⟩
  have HB2 := Lib.hid (below_trans' HB1.out hB2)
  have HS2 := Lib.hid (HS1.out.below hB2)
  go_wp2_with fail
  refine (build_tb v R w2 hR2 HF.out.ok).mono ?_
  rintro e w3 ⟨tp, rfl, hB3, hT⟩
  have HB3 := Lib.hid (below_trans' HB2.out hB3)
  have HS3 := Lib.hid (HS2.out.below hB3)
  have HT3 := Lib.hid hT
  obtain ⟨ra, rc, rfl, _⟩ := runes_cells HS3.out
  clear hB2 hR2 hB3 hT HB1 HB2 HS1 HS2 HRows
  go_wp2_with fail
  refine (HLine.out w3 tp _ HT3.out HS3.out).mono ?_
  rintro e w4 ⟨u, av, rfl, hB4, hG4, _⟩
  have HB4 := Lib.hid (below_trans' HB3.out hB4)
  have HT4 := Lib.hid (HT3.out.below hB4)
  have HG4 := Lib.hid hG4
  obtain ⟨ga, gc, rfl, hg1, hg2⟩ := gly_shape hG4
  unfold maxLen at hg2
  clear hB4 hG4 HB3 HT3 HS3 HLine
  go_wp2_with fail
  rw [q2, q4]
  clear q1 q2 q3 q4 e1 e2 e4 d2 d4 hne hne1 b1 b2 c1 c2
  go_loopw [11, 12] (fun sv iv wr => ∃ k : Nat, fr ≤ k ∧ (k ≤ tt ∨ k = fr) ∧ iv = .int .i64 ((k : Nat) : Int) ∧ sv = .string (catG ⟨#[]⟩ ((G.drop fr).take (k - fr))) ∧ Below w4.heap.size w4 wr) (fun _ iv _ => tt - (intOf iv).toNat)
  case atStart => exact ⟨fr, Nat.le_refl _, .inr rfl, rfl, by rw [Nat.sub_self]; rfl, .refl _ _⟩
  case round =>
    obtain ⟨k, hk1, hk2, rfl, rfl, hB⟩ := hrel
    have HB := Lib.hid hB
    by_cases hlt : k < tt
    · obtain ⟨g, hg⟩ : ∃ g, G[k]? = some g := ⟨G[k]'(by omega), List.getElem?_eq_getElem _⟩
      obtain ⟨b, off, cap, hv, _, _, _, z0, z1⟩ := gly_cells (HG4.out.below hB) hg
      cases hv
      have hn : catG ⟨#[]⟩ ((G.drop fr).take (k + 1 - fr)) = catG ⟨#[]⟩ ((G.drop fr).take (k - fr)) ++ g.1 := by
        rw [show k + 1 - fr = (k - fr) + 1 by omega]
        exact cat_next (by rw [show fr + (k - fr) = k by omega]; exact hg)
      have hs1 := HSz.out fr (k + 1 - fr)
      rw [hn, ByteArray.size_append] at hs1
      have hz : (⟨#[]⟩ : ByteArray).size = 0 := rfl
      rw [hz] at hs1
      have HN := Lib.hid hn
      obtain ⟨cs, hcs⟩ : ∃ cs, cs = catG ⟨#[]⟩ ((G.drop fr).take (k - fr)) := ⟨_, rfl⟩
      rw [← hcs] at hs1 ⊢
      have HCs := Lib.hid hcs
      obtain ⟨g1, g2⟩ := g
      dsimp only at hs1 z0 z1
      have cc := run_string_add_sum (P := Try.prog) wr cs g1 (by omega)
      have s0 : (k : Int) < (tt : Int) := by omega
      have s1 : (0 : Int) ≤ (k : Int) := by omega
      have s2 : (k : Int) < (G.length : Int) := by omega
      have f1 := IntWalk.i64_in ((k : Int) + 1) (by omega)
      clear hB hg hn hcs hs1 hz hlt
      go_wp2_with fail
      go_roundw
      case rel => exact ⟨k + 1, by omega, .inl (by omega), by go_num, by rw [HN.out, ← HCs.out], HB.out⟩
      case measure => simp [intOf] <;> omega
    · have hke : (G.drop fr).take (k - fr) = (G.drop fr).take (tt - fr) := by
        rcases hk2 with h | h
        · rw [show k = tt by omega]
        · rw [show k - fr = tt - fr by omega]
      rw [hke]
      have s0 : ¬ (k : Int) < (tt : Int) := by omega
      have hrd := HRd.out fr (tt - fr)
      have hs1 := HSz.out fr (tt - fr)
      have hz : (⟨#[]⟩ : ByteArray).size = 0 := rfl
      rw [hz] at hs1
      have hRead := gread_any (HT4.out.below hB) (catG ⟨#[]⟩ ((G.drop fr).take (tt - fr))) (by omega)
      rw [hrd] at hRead
      have HRead := Lib.hid hRead
      generalize catG ⟨#[]⟩ ((G.drop fr).take (tt - fr)) = cs at HRead ⊢
      obtain ⟨Y, hY⟩ : ∃ Y, Y = (G.drop fr).take (tt - fr) := ⟨_, rfl⟩
      have hYl : Y.length = tt - fr := by rw [hY, List.length_take, List.length_drop]; omega
      have hYg : ∀ i, i < Y.length → Y[i]? = G[fr + i]? := fun i hi => by rw [hY, List.getElem?_take_of_lt (by omega), List.getElem?_drop]
      rw [← hY] at HRead
      have HYg := Lib.hid hYg
      have HGr := Lib.hid (HG4.out.below hB)
      clear hrd hs1 hz hke hY hYg hRead hk2 hlt hB
      go_wp2_with fail
      refine HRead.out.mono ?_
      rintro e w6 ⟨yv, rfl, hB6, hY6⟩
      have HB6 := Lib.hid (below_trans' (below_trans' HB4.out HB.out) hB6)
      have HY6 := Lib.hid hY6
      have HG6 := Lib.hid (HGr.out.below hB6)
      obtain ⟨ya, yc, rfl, hy1, hy2⟩ := gly_shape hY6
      unfold maxLen at hy2
      clear hB6 hY6 HGr HRead HB
      by_cases hft : tt < fr
      · have s3 : (tt : Int) < (fr : Int) := by omega
        have s4 : ((Y.length : Int) == 0) = true := by rw [beq_iff_eq]; omega
        clear hYl hft
        go_wp2_with fail
        refine (fin13 HB6.out).mono ?_
        rintro e w9 ⟨rfl, hB9⟩
        go_wp2_with fail
        go_ret
        exact ⟨rfl, hB9⟩
      · have s3 : ¬ tt < fr := hft
        have f2 := IntWalk.i64_in ((tt : Int) - (fr : Int)) (by omega)
        have s4 : ((Y.length : Int) != (tt : Int) - (fr : Int)) = false := by rw [bne_eq_false_iff_eq]; omega
        have HYl := Lib.hid hYl
        clear hYl hft
        go_wp2_with fail
        go_loopw [14] (fun iv wr => ∃ m : Nat, m ≤ Y.length ∧ iv = .int .i64 ((m : Nat) : Int) ∧ Below w6.heap.size w6 wr) (fun iv _ => Y.length - (intOf iv).toNat)
        case atStart => exact ⟨0, Nat.zero_le _, rfl, .refl _ _⟩
        case round =>
          rename World => wq
          obtain ⟨m, hm, rfl, hB⟩ := hrel
          have HBm := Lib.hid hB
          by_cases hlm : m < Y.length
          · obtain ⟨x, hx⟩ : ∃ x, Y[m]? = some x := ⟨Y[m], List.getElem?_eq_getElem hlm⟩
            have hx2 : G[fr + m]? = some x := by rw [← HYg.out m hlm]; exact hx
            have hfm : fr + m < G.length := (List.getElem?_eq_some_iff.1 hx2).1
            obtain ⟨b, off, cap, hv, _, _, _, z0, z1⟩ := gly_cells (HY6.out.below hB) hx
            cases hv
            obtain ⟨b', off', cap', hv, _, _, _, z2, z3⟩ := gly_cells (HG6.out.below hB) hx2
            cases hv
            have t0 : (m : Int) < (Y.length : Int) := by omega
            have t1 : (0 : Int) ≤ (m : Int) := by omega
            have t2 : (fr : Int) + (m : Int) < (G.length : Int) := by omega
            have t3 : (0 : Int) ≤ (fr : Int) + (m : Int) := by omega
            have t4 : ((fr : Int) + (m : Int)).toNat = fr + m := by omega
            have f3 := IntWalk.i64_in ((m : Int) + 1) (by omega)
            have f4 := IntWalk.i64_in ((fr : Int) + (m : Int)) (by omega)
            obtain ⟨x1, x2⟩ := x
            dsimp only at z0 z1 z2 z3
            have hq := fun w => eqin_gly x1 x2 w
            clear hx hx2 hB hlm hfm
            go_wp2_with fail
            go_quiet (fail)
            go_wp2_with fail
            go_roundw
            case rel => exact ⟨m + 1, by omega, by go_num, below_dN HBm.out _⟩
            case measure => simp [intOf] <;> omega
          · have hme : m = Y.length := by omega
            subst hme
            clear hB hlm
            go_wp2_with fail
            refine (fin13 (below_trans' HB6.out HBm.out)).mono ?_
            rintro e w9 ⟨rfl, hB9⟩
            go_wp2_with fail
            go_ret
            exact ⟨rfl, hB9⟩
end Go.Proofs.Ythlpelfogplomaa

/- GlyphBetween: its walk. -/
namespace Go.Proofs.Ythlpelfogplomaa
open Go.RowKit

theorem catG_app1 (b0 : ByteArray) (G : List Gy) (g : Gy) : catG b0 (G ++ [g]) = catG b0 G ++ g.1 := catG_snoc b0 G g
set_option maxRecDepth 100000 in
set_option maxHeartbeats 8000000 in
theorem glyphBetween_any (v0 : Value) (l0 : List Int) (w : World) (hl : RunesIn w v0 l0) (_hok : RunesOk l0) :
    Calls Try.prog 8 #[v0] w fun e w' => e = .returned (.bool true) ∧ Below w.heap.size w w' := by
  obtain ⟨R, HFc, HDc, hrows⟩ := dullRows_any
  have HF := Lib.hid HFc
  have HRows := Lib.hid hrows
  have HFew := Lib.hid (few_any hl 100)
  clear hrows hl
  obtain ⟨l, hll⟩ : ∃ l, l = (l0.take 100).map fixR := ⟨_, rfl⟩
  have hval : ∀ x ∈ l, validB x = true := by rw [hll]; exact right_ok _
  have HOk := Lib.hid (show RunesOk l from fun x hx => by have := validB_iff.1 (hval x hx); unfold I32; omega)
  have hlen : l.length ≤ 100 := by rw [hll, List.length_map, List.length_take]; omega
  have HLine := Lib.hid (fun (W : World) (tp : Nat) (sv : Value) (h1 : Tb R W tp) (h2 : RunesIn W sv l) => line_any h1 h2 HOk.out (by omega))
  have HRd := Lib.hid (read_between HDc hval)
  have HSz := Lib.hid (cat_size HDc l ⟨#[120]⟩ 0)
  have hGl := lineG_take_le R l (clus (tabOf R) l).length
  rw [List.take_length] at hGl
  obtain ⟨G, hG⟩ : ∃ G, G = lineG R (clus (tabOf R) l) := ⟨_, rfl⟩
  rw [← hG] at HLine HRd HSz hGl
  have HLl := Lib.hid hll
  clear hll HFc HDc hval hG
  have hGs : G.length ≤ 200 := by omega
  have e1 := IntWalk.i64_in ((G.length : Int) + 2) (by omega)
  clear hGl
  go_enter Try.func8, Try.ntmps8
  go_wp2_with fail
  refine HFew.out.mono ?_
  rintro e w' ⟨⟨sv, rfl, hS⟩, rfl⟩
  go_wp2_with fail
  refine (right_any hS (by rw [List.length_take]; omega)).mono ?_
  rintro e w1 ⟨rv, rfl, hB1, hS1⟩
  rw [← HLl.out] at hS1
  have HB1 := Lib.hid hB1
  have HS1 := Lib.hid hS1
  clear hS hB1 hS1 HFew
  go_wp2_with fail
  refine (HRows.out w1).mono ?_
  rintro e w2 ⟨v, rfl, hB2, hR2⟩
  have HB2 := Lib.hid (below_trans' HB1.out hB2)
  have HS2 := Lib.hid (HS1.out.below hB2)
  go_wp2_with fail
  refine (build_tb v R w2 hR2 HF.out.ok).mono ?_
  rintro e w3 ⟨tp, rfl, hB3, hT⟩
  have HB3 := Lib.hid (below_trans' HB2.out hB3)
  have HS3 := Lib.hid (HS2.out.below hB3)
  have HT3 := Lib.hid hT
  obtain ⟨ra, rc, rfl, _⟩ := runes_cells HS3.out
  clear hB2 hR2 hB3 hT HB1 HB2 HS1 HS2 HRows
  go_wp2_with fail
  refine (HLine.out w3 tp _ HT3.out HS3.out).mono ?_
  rintro e w4 ⟨u, av, rfl, hB4, hG4, _⟩
  have HB4 := Lib.hid (below_trans' HB3.out hB4)
  have HT4 := Lib.hid (HT3.out.below hB4)
  have HG4 := Lib.hid hG4
  obtain ⟨ga, gc, rfl, hg1, hg2⟩ := gly_shape hG4
  unfold maxLen at hg2
  clear hB4 hG4 HB3 HT3 HS3 HLine
  go_wp2_with fail
  go_loopw [6, 7] (fun sv iv wr => ∃ k : Nat, k ≤ G.length ∧ iv = .int .i64 ((k : Nat) : Int) ∧ sv = .string (catG ⟨#[120]⟩ ((G.drop 0).take k)) ∧ Below w4.heap.size w4 wr) (fun _ iv _ => G.length - (intOf iv).toNat)
  case atStart => exact ⟨0, Nat.zero_le _, rfl, rfl, .refl _ _⟩
  case round =>
    obtain ⟨k, hk, rfl, rfl, hB⟩ := hrel
    have HB := Lib.hid hB
    by_cases hlt : k < G.length
    · obtain ⟨g, hg⟩ : ∃ g, G[k]? = some g := ⟨G[k], List.getElem?_eq_getElem hlt⟩
      obtain ⟨b, off, cap, hv, _, _, _, z0, z1⟩ := gly_cells (HG4.out.below hB) hg
      cases hv
      have hn : catG ⟨#[120]⟩ ((G.drop 0).take (k + 1)) = catG ⟨#[120]⟩ ((G.drop 0).take k) ++ g.1 := cat_next (by rw [Nat.zero_add]; exact hg)
      have hs1 := HSz.out (k + 1)
      rw [hn, ByteArray.size_append] at hs1
      have hz : (⟨#[120]⟩ : ByteArray).size = 1 := rfl
      rw [hz] at hs1
      have HN := Lib.hid hn
      obtain ⟨cs, hcs⟩ : ∃ cs, cs = catG ⟨#[120]⟩ ((G.drop 0).take k) := ⟨_, rfl⟩
      rw [← hcs] at hs1 ⊢
      have HCs := Lib.hid hcs
      obtain ⟨g1, g2⟩ := g
      dsimp only at hs1 z0 z1
      have cc := run_string_add_sum (P := Try.prog) wr cs g1 (by omega)
      have s0 : (k : Int) < (G.length : Int) := by omega
      have s1 : (0 : Int) ≤ (k : Int) := by omega
      have f1 := IntWalk.i64_in ((k : Int) + 1) (by omega)
      clear hB hg hn hcs hs1 hz hlt
      go_wp2_with fail
      go_roundw
      case rel => exact ⟨k + 1, by omega, by go_num, by rw [HN.out, ← HCs.out], HB.out⟩
      case measure => simp [intOf] <;> omega
    · have hke : (G.drop 0).take k = G := by rw [List.drop_zero]; exact List.take_of_length_le (by omega)
      have hs1 := HSz.out k
      rw [hke] at hs1 ⊢
      have s0 : ¬ k < G.length := hlt
      have hrd := HRd.out
      have hz : (⟨#[120]⟩ : ByteArray).size = 1 := rfl
      rw [hz] at hs1
      have hz2 : (⟨#[121]⟩ : ByteArray).size = 1 := rfl
      have hRead := gread_any (HT4.out.below hB) (catG ⟨#[120]⟩ G ++ ⟨#[121]⟩) (by rw [ByteArray.size_append, hz2]; omega)
      rw [hrd] at hRead
      have HRead := Lib.hid hRead
      have cc := run_string_add_sum (P := Try.prog) wr (catG ⟨#[120]⟩ G) ⟨#[121]⟩ (by rw [hz2]; omega)
      generalize catG ⟨#[120]⟩ G = cs at HRead cc ⊢
      obtain ⟨Y, hY⟩ : ∃ Y : List Gy, Y = (⟨#[120]⟩, 1) :: G ++ [(⟨#[121]⟩, 1)] := ⟨_, rfl⟩
      have hYl : Y.length = G.length + 2 := by rw [hY]; simp
      have hYg : ∀ i, i < G.length → Y[i + 1]? = G[i]? := fun i hi => by rw [hY, List.cons_append, List.getElem?_cons_succ, List.getElem?_append_left hi]
      have hY0 : Y[0]? = some (⟨#[120]⟩, 1) := by rw [hY]; rfl
      have hY1 : Y[G.length + 1]? = some (⟨#[121]⟩, 1) := by rw [hY, List.cons_append, List.getElem?_cons_succ, List.getElem?_append_right (Nat.le_refl _), Nat.sub_self]; rfl
      rw [← hY] at HRead
      have HYg := Lib.hid hYg
      have HY0 := Lib.hid hY0
      have HY1 := Lib.hid hY1
      have HGr := Lib.hid (HG4.out.below hB)
      clear hrd hs1 hz hz2 hke hY hYg hRead hlt hB hY0 hY1
      go_wp2_with fail
      refine HRead.out.mono ?_
      rintro e w6 ⟨yv, rfl, hB6, hY6⟩
      have HB6 := Lib.hid (below_trans' (below_trans' HB4.out HB.out) hB6)
      have HY6 := Lib.hid hY6
      have HG6 := Lib.hid (HGr.out.below hB6)
      obtain ⟨ya, yc, rfl, hy1, hy2⟩ := gly_shape hY6
      unfold maxLen at hy2
      have s4 : ((Y.length : Int) != (G.length : Int) + 2) = false := by rw [bne_eq_false_iff_eq]; omega
      have HYl := Lib.hid hYl
      clear hB6 hY6 HGr HRead HB hYl cc
      go_wp2_with fail
      go_loopw [9] (fun iv wr => ∃ m : Nat, m ≤ G.length ∧ iv = .int .i64 ((m : Nat) : Int) ∧ Below w6.heap.size w6 wr) (fun iv _ => G.length - (intOf iv).toNat)
      case atStart => exact ⟨0, Nat.zero_le _, rfl, .refl _ _⟩
      case round =>
        rename World => wq
        obtain ⟨m, hm, rfl, hB⟩ := hrel
        have HBm := Lib.hid hB
        by_cases hlm : m < G.length
        · obtain ⟨x, hx2⟩ : ∃ x, G[m]? = some x := ⟨G[m], List.getElem?_eq_getElem hlm⟩
          have hx : Y[m + 1]? = some x := by rw [HYg.out m hlm]; exact hx2
          have hyl := HYl.out
          obtain ⟨b, off, cap, hv, _, _, _, z0, z1⟩ := gly_cells (HY6.out.below hB) hx
          cases hv
          obtain ⟨b', off', cap', hv, _, _, _, z2, z3⟩ := gly_cells (HG6.out.below hB) hx2
          cases hv
          have t0 : (m : Int) < (G.length : Int) := by omega
          have t1 : (0 : Int) ≤ (m : Int) := by omega
          have t2 : (m : Int) + 1 < (Y.length : Int) := by omega
          have t3 : (0 : Int) ≤ (m : Int) + 1 := by omega
          have t4 : ((m : Int) + 1).toNat = m + 1 := by omega
          have f3 := IntWalk.i64_in ((m : Int) + 1) (by omega)
          obtain ⟨x1, x2⟩ := x
          dsimp only at z0 z1 z2 z3
          have hq := fun w => eqin_gly x1 x2 w
          clear hx hx2 hB hlm hyl
          go_wp2_with fail
          go_quiet (fail)
          go_wp2_with fail
          go_roundw
          case rel => exact ⟨m + 1, by omega, by go_num, below_dN HBm.out _⟩
          case measure => simp [intOf] <;> omega
        · have hme : m = G.length := by omega
          subst hme
          have hyl := HYl.out
          obtain ⟨b, off, cap, hv, _, _, _, z0, z1⟩ := gly_cells (HY6.out.below hB) HY0.out
          cases hv
          obtain ⟨_, _, _, hv, _, _, _, z2, z3⟩ := gly_cells (HY6.out.below hB) HY1.out
          cases hv
          rw [Nat.zero_mul, Nat.add_zero] at z0
          dsimp only at z0 z2
          have t2 : (0 : Int) < (Y.length : Int) := by omega
          have t3 : (Y.length : Int) - 1 = (G.length : Int) + 1 := by omega
          have t4 : (G.length : Int) + 1 < (Y.length : Int) := by omega
          have t5 : ((G.length : Int) + 1).toNat = G.length + 1 := by omega
          have t6 : (0 : Int) ≤ (G.length : Int) + 1 := by omega
          have f3 := IntWalk.i64_in ((Y.length : Int) - 1) (by omega)
          clear hB hlm hyl
          go_wp2_with fail
          refine (fin13 (below_trans' HB6.out HBm.out)).mono ?_
          rintro e w9 ⟨rfl, hB9⟩
          go_wp2_with fail
          go_ret
          exact ⟨rfl, hB9⟩
end Go.Proofs.Ythlpelfogplomaa
