/- Joined texts: TokF. -/
import Derived.BigQuiet
import Derived.Test.YthlpelfogplomaaZeaa
import Derived.Test.YthlpelfogplomaaZfaa
import Derived.Test.YthlpelfogplomaaZaaa
/- word: a cutter's cells; what is quoted. -/
namespace Go.Proofs.Ythlpelfogplomaa
open Go.RowKit

theorem Kept.dN {P : Nat → Prop} {w w' : World} (h : Kept P w w') (m : Nat) : Kept P w (w'.drewN m) := ⟨h.os, h.tape, h.output, h.size, h.block⟩
/-- a cutter at a place of a text that lies below it -/
structure Cw (w : World) (c : Nat) (sv : Value) (s : List Int) (n : Nat) : Prop where
  b : w.heap[c]? = some (.cells #[sv, .int .i64 ((n : Nat) : Int)] 102 (0, 0))
  t : Rs c w runeE 1 sv s
section
variable {w w' wr : World} {c : Nat} {sv : Value} {s : List Int} {n : Nat}
theorem Cw.lt (h : Cw w c sv s n) : c < w.heap.size := World.block_lt_of_cell? w ⟨c, 0, none⟩ (row_cells (i := 0) h.b rfl)
theorem Cw.runes (h : Cw w c sv s n) : RunesIn w sv s := h.t.mono (Nat.le_of_lt h.lt)
theorem Cw.keep (h : Cw w c sv s n) (K : Kept (fun j => c < j) w w') : Cw w' c sv s n :=
  ⟨(K.block c h.lt (Nat.lt_irrefl c)).trans h.b, h.t.below (K.below (B := c) (Nat.le_of_lt h.lt) (fun _ hj => Nat.le_of_lt hj)) (Nat.le_refl _)⟩
theorem Cw.step (h : Cw w c sv s n) (m : Nat) : Cw (w.setCell ⟨c, 1, none⟩ (.int .i64 ((m : Nat) : Int))) c sv s m :=
  ⟨heap_setCell_same _ _ _ _ _ _ h.b, h.t.below ((kept_setCell (P := fun j => j = c) w ⟨c, 1, none⟩ _ rfl).below (B := c) (Nat.le_of_lt h.lt) (fun _ hj => Nat.le_of_eq hj.symm)) (Nat.le_refl _)⟩
theorem Cw.dN (h : Cw w c sv s n) (m : Nat) : Cw (w.drewN m) c sv s n := ⟨h.b, h.t⟩
theorem Cw.rune (h : Cw w c sv s n) {k : Nat} {x : Int} (hx : s[k]? = some x) : ∃ b off cap, sv = .slice (some ⟨b, off, none⟩) s.length cap ∧ b < c ∧ w.cell? ⟨b, off + k, none⟩ = some (.int .i32 x) := by
  have hk : k < s.length := (List.getElem?_eq_some_iff.1 hx).1
  obtain ⟨b, off, cap, rfl, _, _, _, _, hc⟩ := rune_cell h.runes hx
  obtain ⟨a, cap', e, h1, h2, h3, h4⟩ := h.t
  cases e
  obtain ⟨b', off', e, hb, _⟩ := h4 (by omega)
  cases e
  exact ⟨b, off, cap, rfl, hb, hc⟩
end
section
variable {q r x : Int} {acc s : List Int}
theorem quo_end : quoF q acc (q :: s) = some (acc, s) := by
  cases s with
  | nil => unfold quoF; rw [if_pos rfl]
  | cons x s => unfold quoF; rw [if_pos rfl]
theorem quo_esc (h : x = 34 ∨ x = 92) : quoF 34 acc (92 :: x :: s) = quoF 34 (acc ++ [x]) s := by
  conv => lhs; unfold quoF
  rw [if_neg (by decide), if_pos ⟨rfl, rfl, h⟩]
theorem quo_plain (h : r ≠ q) (he : ¬ (r = 92 ∧ q = 34 ∧ ∃ x, s[0]? = some x ∧ (x = 34 ∨ x = 92))) : quoF q acc (r :: s) = quoF q (acc ++ [r]) s := by
  cases s with
  | nil => unfold quoF; rw [if_neg h]
  | cons x s =>
    conv => lhs; unfold quoF
    rw [if_neg h, if_neg (fun hh => he ⟨hh.1, hh.2.1, x, rfl, hh.2.2⟩)]
theorem drop_head {s : List Int} {k : Nat} {x : Int} (hx : s[k]? = some x) : s.drop k = x :: s.drop (k + 1) := by
  have h1 := List.getElem?_eq_some_iff.1 hx
  rw [List.drop_eq_getElem_cons h1.1, h1.2]
end
/-- where a cutter is -/
def atOf (w : World) (c : Nat) : Nat := match w.cell? ⟨c, 1, none⟩ with
  | some v => (intOf v).toNat
  | none => 0
theorem Cw.at' {w : World} {c n : Nat} {sv : Value} {s : List Int} (h : Cw w c sv s n) : atOf w c = n := by
  unfold atOf
  rw [row_cells (i := 1) h.b rfl]
  rfl
section
variable {w : World} {c : Nat} {sv : Value} {s : List Int}
set_option maxRecDepth 100000 in
set_option maxHeartbeats 8000000 in
theorem quoted_any {n base : Nat} {q : Int} {ov : Value} {acc : List Int} (hC : Cw w c sv s n) (hq : q = 34 ∨ q = 39) (hn : n ≤ s.length) (hl : s.length ≤ 100000) (hal : acc.length ≤ n) (hO : w.ownsRow base 21 1 ov acc.length (acc.flatMap runeE)) (hcb : c < base) (hbs : base ≤ w.heap.size) :
    Calls Try.prog 90 #[.pointer (some ⟨c, 0, none⟩), ov, .int .i32 q] w fun e w' => ∃ m, n ≤ m ∧ m ≤ s.length ∧ Kept (fun j => j = c ∨ base ≤ j) w w' ∧ Cw w' c sv s m ∧
      ((∃ tv a, quoF q acc (s.drop n) = some (a, s.drop m) ∧ e = .returned (.tuple #[tv, .bool true]) ∧ w'.ownsRow base 21 1 tv a.length (a.flatMap runeE) ∧ a.length ≤ m) ∨
        (quoF q acc (s.drop n) = none ∧ e = .returned (.tuple #[.slice none 0 0, .bool false]))) := by
  obtain ⟨sa, scap, rfl, _, hmax, hxx⟩ := hC.t
  unfold maxLen at hmax
  have HC0 := Lib.hid hC
  have HO0 := Lib.hid hO
  clear hC hO hxx
  go_enter Try.func90, Try.ntmps90
  go_wp2_with fail
  go_loopw [1] (fun pv wr => ∃ (k : Nat) (o : List Int), n ≤ k ∧ k ≤ s.length ∧ Cw wr c (.slice sa s.length scap) s k ∧ Kept (fun j => j = c ∨ base ≤ j) w wr ∧ wr.ownsRow base 21 1 pv o.length (o.flatMap runeE) ∧ o.length ≤ k ∧ quoF q o (s.drop k) = quoF q acc (s.drop n)) (fun _ wr => s.length - atOf wr c)
  case atStart => exact ⟨n, acc, Nat.le_refl _, hn, HC0.out, Kept.refl _ _, HO0.out, hal, rfl⟩
  case round =>
    obtain ⟨k, o, hnk, hk, hC, hK, hO, hol, hE⟩ := hrel
    have HC := Lib.hid hC
    have HK := Lib.hid hK
    have HO := Lib.hid hO
    have HE := Lib.hid hE
    have HOl := Lib.hid hol
    obtain ⟨pa, pc, rfl⟩ := slice_of_owns hO
    have x0 : wr.cell? ⟨c, 0, none⟩ = some (.slice sa s.length scap) := row_cells (i := 0) hC.b rfl
    have x1 : wr.cell? ⟨c, 1, none⟩ = some (.int .i64 (k : Int)) := row_cells (i := 1) hC.b rfl
    have z1 := row_warm hC.b 1
    have hbs1 : base ≤ wr.heap.size := Nat.le_trans hbs hK.size
    have hAt := hC.at'
    by_cases hlt : k < s.length
    · obtain ⟨x, hx⟩ : ∃ x, s[k]? = some x := ⟨s[k], List.getElem?_eq_getElem hlt⟩
      obtain ⟨rb, roff, rcap, hv, hrb, l0⟩ := hC.rune hx
      cases hv
      have hdr := drop_head hx
      rw [hdr] at hE
      have HE := Lib.hid hE
      have HDr := Lib.hid hdr
      have e1 := IntWalk.i64_in ((k : Int) + 1) (by omega)
      have s0 : (k : Int) < (s.length : Int) := by omega
      have s1 : (0 : Int) ≤ (k : Int) := by omega
      have hbig : (o.length + 1) * 4 ≤ 140737488355328 := by omega
      clear hC hK hO hE hx hdr hol
      go_wp2_with fail
      go_quiet (fail)
      rename Nat => q1
      go_wp2_with fail
      go_quiet (fail)
      rename Nat => q2
      go_upto_region 5 with fail
      have HC2 := Lib.hid (show Cw ((wr.drewN (q1 + q2)).setCell ⟨c, 1, none⟩ (.int .i64 ((k : Int) + 1))) c (.slice (some ⟨rb, roff, none⟩) s.length scap) s (k + 1) from (HC.out.dN _).step (k + 1))
      have HK2 := Lib.hid ((HK.out.dN (q1 + q2)).trans (kept_setCell (P := fun j => j = c ∨ base ≤ j) (wr.drewN (q1 + q2)) ⟨c, 1, none⟩ (.int .i64 ((k : Int) + 1)) (.inl rfl)))
      have HO2 := Lib.hid (owns_store (w := wr.drewN (q1 + q2)) (i := 1) (u := .int .i64 ((k : Int) + 1)) HO.out hcb)
      clear HC HK HO x0 x1 z1 l0
      generalize (wr.drewN (q1 + q2)).setCell ⟨c, 1, none⟩ (.int .i64 ((k : Int) + 1)) = w2 at HC2 HK2 HO2 ⊢
      have hbs2 : base ≤ w2.heap.size := Nat.le_trans hbs HK2.out.size
      have x0 : w2.cell? ⟨c, 0, none⟩ = some (.slice (some ⟨rb, roff, none⟩) s.length scap) := row_cells (i := 0) HC2.out.b rfl
      have x1 : w2.cell? ⟨c, 1, none⟩ = some (.int .i64 ((k : Int) + 1)) := row_cells (i := 1) HC2.out.b rfl
      have z1 := row_warm HC2.out.b 1
      by_cases hxq : x = q
      · have HR := Lib.hid (show quoF q acc (s.drop n) = some (o, s.drop (k + 1)) by rw [← HE.out, hxq, quo_end])
        subst hxq
        go_wp2_with fail
        go_ret2
        exact ⟨k + 1, by omega, by omega, HK2.out, HC2.out, .inl ⟨_, _, HR.out, rfl, HO2.out, by have := HOl.out; omega⟩⟩
      · have gq : (x == q) = false := by simpa using hxq
        have HAt := Lib.hid hAt
        by_cases h92 : x = 92
        · subst h92
          rcases hq with rfl | rfl
          · by_cases hm : k + 1 < s.length
            · obtain ⟨y, hy⟩ : ∃ y, s[k + 1]? = some y := ⟨s[k + 1], List.getElem?_eq_getElem hm⟩
              obtain ⟨_, _, _, hv, _, l1⟩ := HC2.out.rune hy
              cases hv
              have hd2 := drop_head hy
              have r1 : (k : Int) + 1 < (s.length : Int) := by omega
              have r2 : (0 : Int) ≤ (k : Int) + 1 := by omega
              have r3 : ((k : Int) + 1).toNat = k + 1 := by omega
              have HD2 := Lib.hid hd2
              have HY := Lib.hid hy
              by_cases hy34 : y = 34
              · subst hy34
                clear hy hd2
                have HN := Lib.hid (show quoF 34 (o ++ [34]) (s.drop (k + 2)) = quoF 34 acc (s.drop n) by rw [← HE.out, HD2.out, quo_esc (by decide)])
                have e2 := IntWalk.i64_in ((k : Int) + 1 + 1) (by omega)
                go_wp2_with fail
                go_quiet (fail)
                rename Nat => q3
                have HC3 := Lib.hid (HC2.out.dN q3)
                have HK3 := Lib.hid (HK2.out.dN q3)
                have HO3 := Lib.hid (show (w2.drewN q3).ownsRow base 21 1 (.slice pa o.length pc) o.length (o.flatMap runeE) from HO2.out)
                have hbs3 : base ≤ (w2.drewN q3).heap.size := hbs2
                clear HC2 HK2 HO2
                go_upto_region 8 with fail
                have x0' : (w2.drewN q3).cell? ⟨c, 0, none⟩ = some (.slice (some ⟨rb, roff, none⟩) s.length scap) := x0
                have x1' : (w2.drewN q3).cell? ⟨c, 1, none⟩ = some (.int .i64 ((k : Int) + 1)) := x1
                have l1' : (w2.drewN q3).cell? ⟨rb, roff + (k + 1), none⟩ = some (.int .i32 34) := l1
                clear x0 x1 l1 z1 hbs2
                generalize w2.drewN q3 = w3 at HC3 HK3 HO3 hbs3 x0' x1' l1' ⊢
                have hrbs : rb < w3.heap.size := World.block_lt_of_cell? w3 _ l1'
                have hcs : c < w3.heap.size := World.block_lt_of_cell? w3 _ x0'
                refine wp_region_held_drew (S := fun w' => w'.cell? ⟨c, 0, none⟩ = some (.slice (some ⟨rb, roff, none⟩) s.length scap) ∧ w'.cell? ⟨c, 1, none⟩ = some (.int .i64 ((k : Int) + 1)) ∧ w'.cell? ⟨rb, roff + (k + 1), none⟩ = some (.int .i32 34)) (by kernel_rfl) ⟨x0', x1', l1'⟩ (fun hHeld => ?_)
                refine hd_take 0 rfl (by kernel_rfl) (by kernel_rfl) (by kernel_rfl) (fun _ _ _ h => h) (by rfl) (by intro w hSw; (try dsimp only at hSw); obtain ⟨y0, y1, y2⟩ := hSw; go_simp; first | done | with_reducible rfl) hHeld ?_
                try simp only [Act.put, List.setIfInBounds_toArray, List.set_cons_zero, List.set_cons_succ]
                refine hd_take 1 rfl (by kernel_rfl) (by kernel_rfl) (by kernel_rfl) (fun _ _ _ h => h) (by rfl) (by intro w hSw; (try dsimp only at hSw); obtain ⟨y0, y1, y2⟩ := hSw; go_simp; first | done | with_reducible rfl) hHeld ?_
                try simp only [Act.put, List.setIfInBounds_toArray, List.set_cons_zero, List.set_cons_succ]
                refine hd_take 2 rfl (by kernel_rfl) (by kernel_rfl) (by kernel_rfl) (fun _ _ _ h => h) (by rfl) (by intro w hSw; (try dsimp only at hSw); obtain ⟨y0, y1, y2⟩ := hSw; go_simp; first | done | with_reducible rfl) hHeld ?_
                try simp only [Act.put, List.setIfInBounds_toArray, List.set_cons_zero, List.set_cons_succ]
                refine hd_take 3 rfl (by kernel_rfl) (by kernel_rfl) (by kernel_rfl) (fun _ _ _ h => h) (by rfl) (by intro w hSw; (try dsimp only at hSw); obtain ⟨y0, y1, y2⟩ := hSw; go_simp; first | done | with_reducible rfl) hHeld ?_
                try simp only [Act.put, List.setIfInBounds_toArray, List.set_cons_zero, List.set_cons_succ]
                refine hd_take 4 rfl (by kernel_rfl) (by kernel_rfl) (by kernel_rfl) (fun _ _ _ h => h) (by rfl) (by intro w hSw; (try dsimp only at hSw); obtain ⟨y0, y1, y2⟩ := hSw; go_simp; first | done | with_reducible rfl) hHeld ?_
                try simp only [Act.put, List.setIfInBounds_toArray, List.set_cons_zero, List.set_cons_succ]
                refine hd_take 5 rfl (by kernel_rfl) (by kernel_rfl) (by kernel_rfl) (fun _ _ _ h => h) (by rfl) (by intro w hSw; (try dsimp only at hSw); obtain ⟨y0, y1, y2⟩ := hSw; go_simp; first | done | with_reducible rfl) hHeld ?_
                try simp only [Act.put, List.setIfInBounds_toArray, List.set_cons_zero, List.set_cons_succ]
                refine hd_take 6 rfl (by kernel_rfl) (by kernel_rfl) (by kernel_rfl) (fun _ _ _ h => h) (by rfl) (by intro w hSw; (try dsimp only at hSw); obtain ⟨y0, y1, y2⟩ := hSw; go_simp; first | done | with_reducible rfl) hHeld ?_
                try simp only [Act.put, List.setIfInBounds_toArray, List.set_cons_zero, List.set_cons_succ]
                refine hd_take 7 rfl (by kernel_rfl) (by kernel_rfl) (by kernel_rfl) (fun _ _ _ h => h) (by rfl) (by intro w hSw; (try dsimp only at hSw); obtain ⟨y0, y1, y2⟩ := hSw; go_simp; first | done | with_reducible rfl) hHeld ?_
                try simp only [Act.put, List.setIfInBounds_toArray, List.set_cons_zero, List.set_cons_succ]
                refine hd_take 8 rfl (by kernel_rfl) (by kernel_rfl) (by kernel_rfl) (fun _ _ _ h => h) (by rfl) (by intro w hSw; (try dsimp only at hSw); obtain ⟨y0, y1, y2⟩ := hSw; go_simp; first | done | with_reducible rfl) hHeld ?_
                try simp only [Act.put, List.setIfInBounds_toArray, List.set_cons_zero, List.set_cons_succ]
                refine hd_take 9 rfl (by kernel_rfl) (by kernel_rfl) (by kernel_rfl) (fun _ _ _ h => h) (by rfl) (by intro w hSw; (try dsimp only at hSw); obtain ⟨y0, y1, y2⟩ := hSw; go_simp; first | done | with_reducible rfl) hHeld ?_
                try simp only [Act.put, List.setIfInBounds_toArray, List.set_cons_zero, List.set_cons_succ]
                refine hd_take 10 rfl (by kernel_rfl) (by kernel_rfl) (by kernel_rfl) (fun _ _ _ h => h) (by rfl) (by intro w hSw; (try dsimp only at hSw); obtain ⟨y0, y1, y2⟩ := hSw; go_simp; first | done | with_reducible rfl) hHeld ?_
                try simp only [Act.put, List.setIfInBounds_toArray, List.set_cons_zero, List.set_cons_succ]
                refine hd_step 11 (by kernel_rfl) rfl (fun K hK => ?_)
                go_simp
                refine hK.out _ _ ⟨(World.cell?_of_block (Below.heap_alloc w3.drew _ _ hcs)).trans x0', (World.cell?_of_block (Below.heap_alloc w3.drew _ _ hcs)).trans x1', (World.cell?_of_block (Below.heap_alloc w3.drew _ _ hrbs)).trans l1'⟩ (fun hHeld => ?_)
                clear hK K
                try simp only [Act.put, List.setIfInBounds_toArray, List.set_cons_zero, List.set_cons_succ]
                refine hd_step 12 (by kernel_rfl) rfl (fun K hK => ?_)
                rw [if_pos (by rfl)]
                show Oper.wp Try.prog _ _ (w3.drew.alloc (.cells #[.int .i32 34] 21)) _ _
                refine oper_app1 (base := base) w3.drew (.tmp 90) (.tmp 101) _ (by rfl) ER (.slice pa o.length pc) o.length (o.flatMap runeE) (by rfl) (show w3.drew.ownsRow base 21 1 (.slice pa o.length pc) o.length (o.flatMap runeE) from HO3.out) 1 1 (runeE 34) (by rfl) (by decide) rfl (by intro u hu; simp [runeE] at hu; subst hu; rfl) hbig hbs3 ?_
                intro g cp7 w7 ho7 hg7 hf7
                have hg7' : w3.grownBy w7 (Value.slice pa o.length pc).ownBlock := ⟨hg7.os, hg7.tape, hg7.output, hg7.size, hg7.block⟩
                have HK7 := Lib.hid (HK3.out.trans (Kept.of_grown hg7' (fun b e => .inr (HO3.out.lt b e).1)))
                have HC7 := Lib.hid (HC3.out.keep (Kept.of_grown hg7' (fun b e => by have := (HO3.out.lt b e).1; omega)))
                have HO7 := Lib.hid ho7
                clear ho7 hg7 hg7' hf7 hHeld x0' x1' l1'
                have x0 : w7.cell? ⟨c, 0, none⟩ = some (.slice (some ⟨rb, roff, none⟩) s.length scap) := row_cells (i := 0) HC7.out.b rfl
                have x1 : w7.cell? ⟨c, 1, none⟩ = some (.int .i64 ((k : Int) + 1)) := row_cells (i := 1) HC7.out.b rfl
                have z1 := row_warm HC7.out.b 1
                obtain ⟨_, _, _, hv, _, l1⟩ := HC7.out.rune HY.out
                cases hv
                refine hK.out _ _ ⟨x0, x1, l1⟩ (fun hHeld => ?_)
                clear hK K
                try simp only [Act.put, List.setIfInBounds_toArray, List.set_cons_zero, List.set_cons_succ]
                refine hd_take 13 rfl (by kernel_rfl) (by kernel_rfl) (by kernel_rfl) (fun _ _ _ h => h) (by rfl) (by intro w hSw; (try dsimp only at hSw); obtain ⟨y0, y1, y2⟩ := hSw; go_simp; first | done | with_reducible rfl) hHeld ?_
                try simp only [Act.put, List.setIfInBounds_toArray, List.set_cons_zero, List.set_cons_succ]
                refine wpAnyH_done (by kernel_rfl) ?_ _
                clear hHeld
                go_wp2_with fail
                go_roundw
                case rel => exact ⟨k + 2, o ++ [34], by omega, by omega, HC7.out.step (k + 2), HK7.out.trans (kept_setCell _ _ _ (.inl rfl)), by rw [List.length_append, flat_snoc]; exact owns_store HO7.out hcb, by rw [List.length_append]; have := HOl.out; simp; omega, HN.out⟩
                case measure =>
                  show s.length - atOf (w7.setCell ⟨c, 1, none⟩ (.int .i64 ((k + 2 : Nat) : Int))) c < s.length - atOf wr c
                  rw [(HC7.out.step (k + 2)).at', HAt.out]; omega
              by_cases hy92 : y = 92
              · subst hy92
                clear hy hd2 hy34
                have HN := Lib.hid (show quoF 34 (o ++ [92]) (s.drop (k + 2)) = quoF 34 acc (s.drop n) by rw [← HE.out, HD2.out, quo_esc (by decide)])
                have e2 := IntWalk.i64_in ((k : Int) + 1 + 1) (by omega)
                go_wp2_with fail
                go_quiet (fail)
                rename Nat => q3
                have HC3 := Lib.hid (HC2.out.dN q3)
                have HK3 := Lib.hid (HK2.out.dN q3)
                have HO3 := Lib.hid (show (w2.drewN q3).ownsRow base 21 1 (.slice pa o.length pc) o.length (o.flatMap runeE) from HO2.out)
                have hbs3 : base ≤ (w2.drewN q3).heap.size := hbs2
                clear HC2 HK2 HO2
                go_upto_region 8 with fail
                have x0' : (w2.drewN q3).cell? ⟨c, 0, none⟩ = some (.slice (some ⟨rb, roff, none⟩) s.length scap) := x0
                have x1' : (w2.drewN q3).cell? ⟨c, 1, none⟩ = some (.int .i64 ((k : Int) + 1)) := x1
                have l1' : (w2.drewN q3).cell? ⟨rb, roff + (k + 1), none⟩ = some (.int .i32 92) := l1
                clear x0 x1 l1 z1 hbs2
                generalize w2.drewN q3 = w3 at HC3 HK3 HO3 hbs3 x0' x1' l1' ⊢
                have hrbs : rb < w3.heap.size := World.block_lt_of_cell? w3 _ l1'
                have hcs : c < w3.heap.size := World.block_lt_of_cell? w3 _ x0'
                refine wp_region_held_drew (S := fun w' => w'.cell? ⟨c, 0, none⟩ = some (.slice (some ⟨rb, roff, none⟩) s.length scap) ∧ w'.cell? ⟨c, 1, none⟩ = some (.int .i64 ((k : Int) + 1)) ∧ w'.cell? ⟨rb, roff + (k + 1), none⟩ = some (.int .i32 92)) (by kernel_rfl) ⟨x0', x1', l1'⟩ (fun hHeld => ?_)
                refine hd_take 0 rfl (by kernel_rfl) (by kernel_rfl) (by kernel_rfl) (fun _ _ _ h => h) (by rfl) (by intro w hSw; (try dsimp only at hSw); obtain ⟨y0, y1, y2⟩ := hSw; go_simp; first | done | with_reducible rfl) hHeld ?_
                try simp only [Act.put, List.setIfInBounds_toArray, List.set_cons_zero, List.set_cons_succ]
                refine hd_take 1 rfl (by kernel_rfl) (by kernel_rfl) (by kernel_rfl) (fun _ _ _ h => h) (by rfl) (by intro w hSw; (try dsimp only at hSw); obtain ⟨y0, y1, y2⟩ := hSw; go_simp; first | done | with_reducible rfl) hHeld ?_
                try simp only [Act.put, List.setIfInBounds_toArray, List.set_cons_zero, List.set_cons_succ]
                refine hd_take 2 rfl (by kernel_rfl) (by kernel_rfl) (by kernel_rfl) (fun _ _ _ h => h) (by rfl) (by intro w hSw; (try dsimp only at hSw); obtain ⟨y0, y1, y2⟩ := hSw; go_simp; first | done | with_reducible rfl) hHeld ?_
                try simp only [Act.put, List.setIfInBounds_toArray, List.set_cons_zero, List.set_cons_succ]
                refine hd_take 3 rfl (by kernel_rfl) (by kernel_rfl) (by kernel_rfl) (fun _ _ _ h => h) (by rfl) (by intro w hSw; (try dsimp only at hSw); obtain ⟨y0, y1, y2⟩ := hSw; go_simp; first | done | with_reducible rfl) hHeld ?_
                try simp only [Act.put, List.setIfInBounds_toArray, List.set_cons_zero, List.set_cons_succ]
                refine hd_take 4 rfl (by kernel_rfl) (by kernel_rfl) (by kernel_rfl) (fun _ _ _ h => h) (by rfl) (by intro w hSw; (try dsimp only at hSw); obtain ⟨y0, y1, y2⟩ := hSw; go_simp; first | done | with_reducible rfl) hHeld ?_
                try simp only [Act.put, List.setIfInBounds_toArray, List.set_cons_zero, List.set_cons_succ]
                refine hd_take 5 rfl (by kernel_rfl) (by kernel_rfl) (by kernel_rfl) (fun _ _ _ h => h) (by rfl) (by intro w hSw; (try dsimp only at hSw); obtain ⟨y0, y1, y2⟩ := hSw; go_simp; first | done | with_reducible rfl) hHeld ?_
                try simp only [Act.put, List.setIfInBounds_toArray, List.set_cons_zero, List.set_cons_succ]
                refine hd_take 6 rfl (by kernel_rfl) (by kernel_rfl) (by kernel_rfl) (fun _ _ _ h => h) (by rfl) (by intro w hSw; (try dsimp only at hSw); obtain ⟨y0, y1, y2⟩ := hSw; go_simp; first | done | with_reducible rfl) hHeld ?_
                try simp only [Act.put, List.setIfInBounds_toArray, List.set_cons_zero, List.set_cons_succ]
                refine hd_take 7 rfl (by kernel_rfl) (by kernel_rfl) (by kernel_rfl) (fun _ _ _ h => h) (by rfl) (by intro w hSw; (try dsimp only at hSw); obtain ⟨y0, y1, y2⟩ := hSw; go_simp; first | done | with_reducible rfl) hHeld ?_
                try simp only [Act.put, List.setIfInBounds_toArray, List.set_cons_zero, List.set_cons_succ]
                refine hd_take 8 rfl (by kernel_rfl) (by kernel_rfl) (by kernel_rfl) (fun _ _ _ h => h) (by rfl) (by intro w hSw; (try dsimp only at hSw); obtain ⟨y0, y1, y2⟩ := hSw; go_simp; first | done | with_reducible rfl) hHeld ?_
                try simp only [Act.put, List.setIfInBounds_toArray, List.set_cons_zero, List.set_cons_succ]
                refine hd_take 9 rfl (by kernel_rfl) (by kernel_rfl) (by kernel_rfl) (fun _ _ _ h => h) (by rfl) (by intro w hSw; (try dsimp only at hSw); obtain ⟨y0, y1, y2⟩ := hSw; go_simp; first | done | with_reducible rfl) hHeld ?_
                try simp only [Act.put, List.setIfInBounds_toArray, List.set_cons_zero, List.set_cons_succ]
                refine hd_take 10 rfl (by kernel_rfl) (by kernel_rfl) (by kernel_rfl) (fun _ _ _ h => h) (by rfl) (by intro w hSw; (try dsimp only at hSw); obtain ⟨y0, y1, y2⟩ := hSw; go_simp; first | done | with_reducible rfl) hHeld ?_
                try simp only [Act.put, List.setIfInBounds_toArray, List.set_cons_zero, List.set_cons_succ]
                refine hd_step 11 (by kernel_rfl) rfl (fun K hK => ?_)
                go_simp
                refine hK.out _ _ ⟨(World.cell?_of_block (Below.heap_alloc w3.drew _ _ hcs)).trans x0', (World.cell?_of_block (Below.heap_alloc w3.drew _ _ hcs)).trans x1', (World.cell?_of_block (Below.heap_alloc w3.drew _ _ hrbs)).trans l1'⟩ (fun hHeld => ?_)
                clear hK K
                try simp only [Act.put, List.setIfInBounds_toArray, List.set_cons_zero, List.set_cons_succ]
                refine hd_step 12 (by kernel_rfl) rfl (fun K hK => ?_)
                rw [if_pos (by rfl)]
                show Oper.wp Try.prog _ _ (w3.drew.alloc (.cells #[.int .i32 92] 21)) _ _
                refine oper_app1 (base := base) w3.drew (.tmp 90) (.tmp 101) _ (by rfl) ER (.slice pa o.length pc) o.length (o.flatMap runeE) (by rfl) (show w3.drew.ownsRow base 21 1 (.slice pa o.length pc) o.length (o.flatMap runeE) from HO3.out) 1 1 (runeE 92) (by rfl) (by decide) rfl (by intro u hu; simp [runeE] at hu; subst hu; rfl) hbig hbs3 ?_
                intro g cp7 w7 ho7 hg7 hf7
                have hg7' : w3.grownBy w7 (Value.slice pa o.length pc).ownBlock := ⟨hg7.os, hg7.tape, hg7.output, hg7.size, hg7.block⟩
                have HK7 := Lib.hid (HK3.out.trans (Kept.of_grown hg7' (fun b e => .inr (HO3.out.lt b e).1)))
                have HC7 := Lib.hid (HC3.out.keep (Kept.of_grown hg7' (fun b e => by have := (HO3.out.lt b e).1; omega)))
                have HO7 := Lib.hid ho7
                clear ho7 hg7 hg7' hf7 hHeld x0' x1' l1'
                have x0 : w7.cell? ⟨c, 0, none⟩ = some (.slice (some ⟨rb, roff, none⟩) s.length scap) := row_cells (i := 0) HC7.out.b rfl
                have x1 : w7.cell? ⟨c, 1, none⟩ = some (.int .i64 ((k : Int) + 1)) := row_cells (i := 1) HC7.out.b rfl
                have z1 := row_warm HC7.out.b 1
                obtain ⟨_, _, _, hv, _, l1⟩ := HC7.out.rune HY.out
                cases hv
                refine hK.out _ _ ⟨x0, x1, l1⟩ (fun hHeld => ?_)
                clear hK K
                try simp only [Act.put, List.setIfInBounds_toArray, List.set_cons_zero, List.set_cons_succ]
                refine hd_take 13 rfl (by kernel_rfl) (by kernel_rfl) (by kernel_rfl) (fun _ _ _ h => h) (by rfl) (by intro w hSw; (try dsimp only at hSw); obtain ⟨y0, y1, y2⟩ := hSw; go_simp; first | done | with_reducible rfl) hHeld ?_
                try simp only [Act.put, List.setIfInBounds_toArray, List.set_cons_zero, List.set_cons_succ]
                refine wpAnyH_done (by kernel_rfl) ?_ _
                clear hHeld
                go_wp2_with fail
                go_roundw
                case rel => exact ⟨k + 2, o ++ [92], by omega, by omega, HC7.out.step (k + 2), HK7.out.trans (kept_setCell _ _ _ (.inl rfl)), by rw [List.length_append, flat_snoc]; exact owns_store HO7.out hcb, by rw [List.length_append]; have := HOl.out; simp; omega, HN.out⟩
                case measure =>
                  show s.length - atOf (w7.setCell ⟨c, 1, none⟩ (.int .i64 ((k + 2 : Nat) : Int))) c < s.length - atOf wr c
                  rw [(HC7.out.step (k + 2)).at', HAt.out]; omega
              have p34 : (y == 34) = false := by simpa using hy34
              have p92 : (y == 92) = false := by simpa using hy92
              have HN := Lib.hid (show quoF 34 (o ++ [92]) (s.drop (k + 1)) = quoF 34 acc (s.drop n) by rw [← HE.out, quo_plain (by decide) (by rintro ⟨_, _, z, hz, hzz⟩; rw [HD2.out] at hz; simp at hz; subst hz; rcases hzz with e | e; exact hy34 e; exact hy92 e)])
              go_wp2_with fail
              go_quiet (fail)
              rename Nat => q3
              have HC3 := Lib.hid (HC2.out.dN q3)
              have HK3 := Lib.hid (HK2.out.dN q3)
              have HO3 := Lib.hid (show (w2.drewN q3).ownsRow base 21 1 (.slice pa o.length pc) o.length (o.flatMap runeE) from HO2.out)
              have hbs3 : base ≤ (w2.drewN q3).heap.size := hbs2
              clear x0 x1 z1 hbs2 HC2 HK2 HO2
              generalize w2.drewN q3 = w3 at HC3 HK3 HO3 hbs3 ⊢
              go_wp2_with (at_builtin; go_loud (refine wpList_app1 (base := base) _ rfl (.tmp 36) (.tmp 38) _ rfl ER _ _ _ rfl HO3.out 1 1 (runeE 92) rfl (by decide) rfl (by intro u hu; simp [runeE] at hu; subst hu; rfl) hbig hbs3 ?_); intro g cp7 w7 ho7 hg7 hf7; have HK7 := Lib.hid (HK3.out.trans (Kept.of_grown hg7 (fun b e => .inr (HO3.out.lt b e).1))); have HC7 := Lib.hid (HC3.out.keep (Kept.of_grown hg7 (fun b e => by have := (HO3.out.lt b e).1; omega))); have HO7 := Lib.hid ho7; clear ho7 hg7 hf7)
              go_roundw
              case rel => exact ⟨k + 1, o ++ [92], by omega, by omega, HC7.out, HK7.out, by rw [List.length_append, flat_snoc]; exact HO7.out, by rw [List.length_append]; have := HOl.out; simp; omega, HN.out⟩
              case measure => rw [HC7.out.at', HAt.out]; omega
            · have r1 : decide ((k : Int) + 1 < (s.length : Int)) = false := decide_eq_false (by omega)
              have HN := Lib.hid (show quoF 34 (o ++ [92]) (s.drop (k + 1)) = quoF 34 acc (s.drop n) by rw [← HE.out, quo_plain (by decide) (by rintro ⟨_, _, z, hz, _⟩; rw [List.drop_eq_nil_of_le (by omega)] at hz; cases hz)])
              go_wp2_with fail
              go_quiet (fail)
              rename Nat => q3
              have HC3 := Lib.hid (HC2.out.dN q3)
              have HK3 := Lib.hid (HK2.out.dN q3)
              have HO3 := Lib.hid (show (w2.drewN q3).ownsRow base 21 1 (.slice pa o.length pc) o.length (o.flatMap runeE) from HO2.out)
              have hbs3 : base ≤ (w2.drewN q3).heap.size := hbs2
              clear x0 x1 z1 hbs2 HC2 HK2 HO2
              generalize w2.drewN q3 = w3 at HC3 HK3 HO3 hbs3 ⊢
              go_wp2_with (at_builtin; go_loud (refine wpList_app1 (base := base) _ rfl (.tmp 36) (.tmp 38) _ rfl ER _ _ _ rfl HO3.out 1 1 (runeE 92) rfl (by decide) rfl (by intro u hu; simp [runeE] at hu; subst hu; rfl) hbig hbs3 ?_); intro g cp7 w7 ho7 hg7 hf7; have HK7 := Lib.hid (HK3.out.trans (Kept.of_grown hg7 (fun b e => .inr (HO3.out.lt b e).1))); have HC7 := Lib.hid (HC3.out.keep (Kept.of_grown hg7 (fun b e => by have := (HO3.out.lt b e).1; omega))); have HO7 := Lib.hid ho7; clear ho7 hg7 hf7)
              go_roundw
              case rel => exact ⟨k + 1, o ++ [92], by omega, by omega, HC7.out, HK7.out, by rw [List.length_append, flat_snoc]; exact HO7.out, by rw [List.length_append]; have := HOl.out; simp; omega, HN.out⟩
              case measure => rw [HC7.out.at', HAt.out]; omega
          · have HN := Lib.hid (show quoF 39 (o ++ [92]) (s.drop (k + 1)) = quoF 39 acc (s.drop n) by rw [← HE.out, quo_plain (by decide) (by rintro ⟨_, e, _⟩; exact absurd e (by decide))])
            go_wp2_with fail
            go_quiet (fail)
            rename Nat => q3
            have HC3 := Lib.hid (HC2.out.dN q3)
            have HK3 := Lib.hid (HK2.out.dN q3)
            have HO3 := Lib.hid (show (w2.drewN q3).ownsRow base 21 1 (.slice pa o.length pc) o.length (o.flatMap runeE) from HO2.out)
            have hbs3 : base ≤ (w2.drewN q3).heap.size := hbs2
            clear x0 x1 z1 hbs2 HC2 HK2 HO2
            generalize w2.drewN q3 = w3 at HC3 HK3 HO3 hbs3 ⊢
            go_wp2_with (at_builtin; go_loud (refine wpList_app1 (base := base) _ rfl (.tmp 36) (.tmp 38) _ rfl ER _ _ _ rfl HO3.out 1 1 (runeE 92) rfl (by decide) rfl (by intro u hu; simp [runeE] at hu; subst hu; rfl) hbig hbs3 ?_); intro g cp7 w7 ho7 hg7 hf7; have HK7 := Lib.hid (HK3.out.trans (Kept.of_grown hg7 (fun b e => .inr (HO3.out.lt b e).1))); have HC7 := Lib.hid (HC3.out.keep (Kept.of_grown hg7 (fun b e => by have := (HO3.out.lt b e).1; omega))); have HO7 := Lib.hid ho7; clear ho7 hg7 hf7)
            go_roundw
            case rel => exact ⟨k + 1, o ++ [92], by omega, by omega, HC7.out, HK7.out, by rw [List.length_append, flat_snoc]; exact HO7.out, by rw [List.length_append]; have := HOl.out; simp; omega, HN.out⟩
            case measure => rw [HC7.out.at', HAt.out]; omega
        have g92 : (x == 92) = false := by simpa using h92
        have HN := Lib.hid (show quoF q (o ++ [x]) (s.drop (k + 1)) = quoF q acc (s.drop n) by rw [← HE.out, quo_plain hxq (by rintro ⟨e, _⟩; exact h92 e)])
        go_wp2_with fail
        go_quiet (fail)
        rename Nat => q3
        have HC3 := Lib.hid (HC2.out.dN q3)
        have HK3 := Lib.hid (HK2.out.dN q3)
        have HO3 := Lib.hid (show (w2.drewN q3).ownsRow base 21 1 (.slice pa o.length pc) o.length (o.flatMap runeE) from HO2.out)
        have hbs3 : base ≤ (w2.drewN q3).heap.size := hbs2
        clear x0 x1 z1 hbs2 HC2 HK2 HO2
        generalize w2.drewN q3 = w3 at HC3 HK3 HO3 hbs3 ⊢
        go_wp2_with (at_builtin; go_loud (refine wpList_app1 (base := base) _ rfl (.tmp 36) (.tmp 38) _ rfl ER _ _ _ rfl HO3.out 1 1 (runeE x) rfl (by decide) rfl (by intro u hu; simp [runeE] at hu; subst hu; rfl) hbig hbs3 ?_); intro g cp7 w7 ho7 hg7 hf7; have HK7 := Lib.hid (HK3.out.trans (Kept.of_grown hg7 (fun b e => .inr (HO3.out.lt b e).1))); have HC7 := Lib.hid (HC3.out.keep (Kept.of_grown hg7 (fun b e => by have := (HO3.out.lt b e).1; omega))); have HO7 := Lib.hid ho7; clear ho7 hg7 hf7)
        go_roundw
        case rel => exact ⟨k + 1, o ++ [x], by omega, by omega, HC7.out, HK7.out, by rw [List.length_append, flat_snoc]; exact HO7.out, by rw [List.length_append]; have := HOl.out; simp; omega, HN.out⟩
        case measure => rw [HC7.out.at', HAt.out]; omega
    · have hke : k = s.length := by omega
      have s0 : ¬ k < s.length := hlt
      have HR := Lib.hid (show quoF q acc (s.drop n) = none by rw [← hE, List.drop_eq_nil_of_le (by omega)]; rfl)
      clear hC hK hO hol hE
      go_wp2_with fail
      go_quiet (fail)
      go_wp2_with fail
      go_ret2
      exact ⟨k, hnk, hk, HK.out.dN _, HC.out.dN _, .inr ⟨HR.out, rfl⟩⟩
end
end Go.Proofs.Ythlpelfogplomaa
