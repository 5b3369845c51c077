/- The document's grid: New. -/
import Derived.Test.YtokenlecnbploaaRefD
namespace Go.Proofs.Ytokenlecnbploaa
open Go.RowKit

theorem Erc : ElemT Try.prog 86 87 2 24 := elemT_of (by kernel_rfl) (z := .agg #[.string ⟨#[]⟩, .int .i64 0]) (by kernel_rfl) rfl (by decide) (by decide)
theorem Err : ElemT Try.prog 53 86 1 24 := elemT_of (by kernel_rfl) (z := .slice none 0 0) (by kernel_rfl) rfl (by decide) (by decide)

def rowVal (m : Nat) (p : Nat × Nat) : Value := .slice (some ⟨p.1, 0, none⟩) m p.2

structure RNew (w wr : World) (m r : Nat) (vo : Value) (rs : List (Nat × Nat)) : Prop where
  len : rs.length = r
  own : wr.ownsRow w.heap.size 86 1 vo r (rs.map (rowVal m))
  below : Below w.heap.size w wr
  rows : ∀ p ∈ rs, RowAt wr p.1 (List.replicate m blankC) ∧ w.heap.size ≤ p.1 ∧ p.1 < wr.heap.size ∧ vo.ownBlock ≠ some p.1
  nodup : (rs.map (·.1)).Nodup

theorem RNew.snoc {w wr wi w1 : World} {m r g cap lb lc : Nat} {vo : Value} {rs : List (Nat × Nat)} (h : RNew w wr m r vo rs) (hb : Below wr.heap.size wr wi) 
    (hrow : wi.ownsRow wr.heap.size 87 2 (.slice (some ⟨lb, 0, none⟩) m lc) m ((List.replicate m blankC).flatMap genc))
    (ho : w1.ownsRow w.heap.size 86 1 (.slice (some ⟨g, 0, none⟩) (r + 1) cap) (r + 1) (rs.map (rowVal m) ++ [.slice (some ⟨lb, 0, none⟩) m lc]))
    (hg : wi.grownBy w1 vo.ownBlock) (hf : vo.ownBlock = some g ∨ wi.heap.size ≤ g) : RNew w w1 m (r + 1) (.slice (some ⟨g, 0, none⟩) (r + 1) cap) (rs ++ [(lb, lc)]) := by
  have hsz := h.below.size
  have hlt := hrow.lt lb rfl
  have hbs := hb.size
  have hB1 : Below w.heap.size w wi := h.below.trans (hb.mono hsz)
  have hv : ∀ b, vo.ownBlock = some b → w.heap.size ≤ b ∧ b < wr.heap.size := fun b hb => h.own.lt b hb
  have hgs := hg.size
  refine ⟨by simp [h.len], by simpa [rowVal] using ho, hB1.grown hg (by omega) (fun k hk => (hv k hk).1), ?_, ?_⟩
  · intro p hp
    rcases List.mem_append.1 hp with hp | hp
    · obtain ⟨h1, h2, h3, h4⟩ := h.rows p hp
      refine ⟨(h1.same (hb.block _ h3)).same (hg.block _ (by omega) (fun e => h4 e.symm)), h2, by omega, ?_⟩
      show (some g : Option Nat) ≠ some p.1
      rcases hf with hf | hf
      · rw [← hf]; exact h4
      · intro e; injection e with e; omega
    · simp only [List.mem_singleton] at hp
      subst hp
      dsimp only
      have hne : vo.ownBlock ≠ some lb := by intro e; have := hv lb e; omega
      refine ⟨RowAt.same (w := wi) ⟨fun j u hu => ?_, fun j => hrow.frozenAt j⟩ (hg.block _ hlt.2 (fun e => hne e.symm)), by omega, by omega, ?_⟩
      · have hj := (List.getElem?_eq_some_iff.1 hu).1
        rw [flat_len genc_len, List.length_replicate] at hj
        exact (hrow.cellAt j hj).trans hu
      · show (some g : Option Nat) ≠ some lb
        rcases hf with hf | hf
        · rw [← hf]; exact hne
        · intro e; injection e with e; omega
  · rw [List.map_append, List.nodup_append]
    refine ⟨h.nodup, by simp, ?_⟩
    intro a ha b hb' hab
    simp only [List.map_cons, List.map_nil, List.mem_singleton] at hb'
    subst hb'
    obtain ⟨p, hp, rfl⟩ := List.mem_map.1 ha
    have := (h.rows p hp).2.2.1
    omega

theorem RNew.fin {w wr : World} {m r g cap : Nat} {rs : List (Nat × Nat)} (h : RNew w wr m r (.slice (some ⟨g, 0, none⟩) r cap) rs) (hm : 0 < m) (hm2 : m ≤ 1000) (hr : 0 < r) (hr2 : r ≤ 500) :
    RefAt wr w.heap.size g (fun i => (rs.getD i (0, 0)).1) (fun i => (rs.getD i (0, 0)).2) m (List.replicate r (List.replicate m blankC)) := by
  have hg := h.own.lt g rfl
  have hlen := h.len
  have hget : ∀ i, i < r → ∃ p, rs[i]? = some p ∧ rs.getD i (0, 0) = p := by
    intro i hi
    refine ⟨rs[i]'(by omega), List.getElem?_eq_getElem _, ?_⟩
    rw [List.getD_eq_getElem?_getD, List.getElem?_eq_getElem (by omega)]; rfl
  refine ⟨?_, ?_, ?_, ?_, ?_, ?_, ?_, hg.1, hm, by omega, by rw [List.length_replicate]; omega⟩
  · intro i hi
    rw [List.length_replicate] at hi
    obtain ⟨p, hp, hpe⟩ := hget i hi
    have hc := h.own.cells (g := g) rfl i (rowVal m p) (by rw [List.getElem?_map, hp]; rfl)
    rw [addr_add] at hc
    rw [hpe]
    exact hc
  · intro i l hl
    rw [List.getElem?_replicate] at hl
    split at hl
    · rename_i hi
      obtain rfl := Option.some.inj hl
      obtain ⟨p, hp, hpe⟩ := hget i hi
      rw [hpe]
      exact (h.rows p (List.mem_of_getElem? hp)).1
    · cases hl
  · intro l hl; rw [(List.mem_replicate.1 hl).2]; simp
  · intro l hl; rw [(List.mem_replicate.1 hl).2]; exact wf_blank m
  · intro i hi e
    rw [List.length_replicate] at hi
    obtain ⟨p, hp, hpe⟩ := hget i hi
    rw [hpe] at e
    exact (h.rows p (List.mem_of_getElem? hp)).2.2.2 (by rw [e]; rfl)
  · intro i j hi hj e
    rw [List.length_replicate] at hi hj
    obtain ⟨p, hp, hpe⟩ := hget i hi
    obtain ⟨q, hq, hqe⟩ := hget j hj
    rw [hpe, hqe] at e
    refine (List.getElem?_inj (l := rs.map (·.1)) (by simpa [hlen] using hi) h.nodup).1 ?_
    rw [List.getElem?_map, List.getElem?_map, hp, hq]
    simpa using e
  · intro i hi
    rw [List.length_replicate] at hi
    obtain ⟨p, hp, hpe⟩ := hget i hi
    rw [hpe]
    exact (h.rows p (List.mem_of_getElem? hp)).2.1

set_option maxRecDepth 100000 in
set_option maxHeartbeats 400000 in
theorem refNew_none (n m : Int) (w : World) (h : n < 1 ∨ 500 < n ∨ m < 2 ∨ 1000 < m) :
    Calls Try.prog 29 #[.int .i64 n, .int .i64 m] w fun e w' => e = .returned (.slice none 0 0) ∧ w = w' := by
  have h' : n < 1 ∨ (1 ≤ n ∧ 500 < n) ∨ (1 ≤ n ∧ n ≤ 500 ∧ m < 2) ∨ (1 ≤ n ∧ n ≤ 500 ∧ 2 ≤ m ∧ 1000 < m) := by omega
  clear h
  rcases h' with h1 | ⟨h1, h2⟩ | ⟨h1, h2, h3⟩ | ⟨h1, h2, h3, h4⟩
  all_goals
    go_enter Try.func29, Try.ntmps29
    go_wp2
    go_ret
    exact ⟨rfl, rfl⟩

theorem one_cell (t : ByteArray) (d : Int) : ∀ u ∈ [Value.string t, Value.int .i64 d], u.oneCell' = true := by intro u hu; simp at hu; rcases hu with rfl | rfl <;> rfl
theorem one_row (m : Nat) (p : Nat × Nat) : ∀ u ∈ [rowVal m p], u.oneCell' = true := by intro u hu; simp at hu; subst hu; rfl
theorem blanks_snoc (k : Nat) : (List.replicate k blankC).flatMap genc ++ [.string ⟨#[32]⟩, .int .i64 1] = (List.replicate (k + 1) blankC).flatMap genc := by
  rw [List.replicate_succ', List.flatMap_append]; rfl

set_option maxRecDepth 100000 in
set_option maxHeartbeats 1000000 in
theorem refNew_some (n m : Nat) (w : World) (h1 : 1 ≤ n) (h2 : n ≤ 500) (h3 : 2 ≤ m) (h4 : m ≤ 1000) :
    Calls Try.prog 29 #[.int .i64 n, .int .i64 m] w fun e w' => ∃ ob cap rb rc, e = .returned (.slice (some ⟨ob, 0, none⟩) n cap) ∧ Below w.heap.size w w' ∧ RefAt w' w.heap.size ob rb rc m (List.replicate n (List.replicate m blankC)) := by
  have q1 : decide ((n : Int) < 1) = false := decide_eq_false (by omega)
  have q2 : decide ((500 : Int) < n) = false := decide_eq_false (by omega)
  have q3 : decide ((m : Int) < 2) = false := decide_eq_false (by omega)
  have q4 : decide ((1000 : Int) < m) = false := decide_eq_false (by omega)
  go_enter Try.func29, Try.ntmps29
  go_wp2
  go_loopw [5, 6] (fun vo i wr => ∃ r rs, r ≤ n ∧ i = .int .i64 ((r : Nat) : Int) ∧ RNew w wr m r vo rs) (fun _ i _ => n - (intOf i).toNat)
  case atStart => exact ⟨0, [], Nat.zero_le _, rfl, rfl, World.ownsRow_nil _ _ _ _, Below.refl _ _, by simp, by simp⟩
  case round =>
    obtain ⟨r, rs, hr, rfl, hN⟩ := hrel
    have hsz := hN.below.size
    obtain ⟨sa, sc, rfl⟩ := slice_of_owns hN.own
    by_cases hlt : r < n
    · obtain ⟨wo, rfl⟩ : ∃ wo : World, wo = wr := ⟨_, rfl⟩
      have HN := Lib.hid hN
      clear hN
      go_wp2
      go_loopw [7, 8] (fun vl j wi => ∃ k : Nat, k ≤ m ∧ j = .int .i64 ((k : Nat) : Int) ∧ Below wo.heap.size wo wi ∧ wi.ownsRow wo.heap.size 87 2 vl k ((List.replicate k blankC).flatMap genc)) (fun _ j _ => m - (intOf j).toNat)
      case atStart => exact ⟨0, Nat.zero_le _, rfl, Below.refl _ _, World.ownsRow_nil _ _ _ _⟩
      case round =>
        obtain ⟨k, hk, rfl, hB, ho⟩ := hrel
        have hBs := hB.size
        obtain ⟨ta, tc, rfl⟩ := slice_of_owns ho
        by_cases hlt2 : k < m
        · go_wp2_with fail
          refine (rblank_any _).mono ?_
          rintro e w' ⟨rfl, rfl⟩
          have ho' := ho.alloc (.cells #[.string ⟨#[32]⟩, .int .i64 1] 87)
          have hB' : Below wo.heap.size wo _ := hB.alloc hBs (.cells #[.string ⟨#[32]⟩, .int .i64 1] 87)
          have HS := Lib.hid (blanks_snoc k)
          generalize wr.alloc (.cells #[.string ⟨#[32]⟩, .int .i64 1] 87) = wx at ho' hB' ⊢
          have hBx := hB'.size
          clear ho hB hBs
          go_wp2_with (at_builtin; refine wpList_app1 _ rfl (.tmp 33) _ _ rfl Erc _ _ _ rfl ho' _ _ [.string ⟨#[32]⟩, .int .i64 1] rfl (by decide) rfl (one_cell _ _) (by omega) hBx ?_; intro g1 cap1 w1 ho1 hg1 hf1; have hB1 := below_app hB' hBx ho' (Nat.le_refl _) hg1)
          rw [HS.out] at ho1
          exact ⟨⟨k + 1, by omega, by go_num, hB1, ho1⟩, by simp [intOf]; omega⟩
        · have hkm : k = m := by omega
          subst hkm
          obtain ⟨lb, lc, hv, hlb, hlb2⟩ := ownBlock_of_owns ho (by omega)
          simp only [Value.slice.injEq, true_and] at hv
          obtain ⟨rfl, rfl⟩ := hv
          have HO := Lib.hid ho
          have hown := owns_stays HN.out.own hB
          clear ho
          go_wp2_with (at_builtin; refine wpList_app1 _ rfl (.tmp 37) _ _ rfl Err _ _ _ rfl hown _ _ [.slice (some ⟨lb, 0, none⟩) k tc] rfl (by decide) rfl (one_row k (lb, tc)) (by omega) (by omega) ?_; intro g1 cap1 w1 ho1 hg1 hf1; have hN1 := HN.out.snoc hB HO.out ho1 hg1 hf1)
          exact ⟨⟨r + 1, _, by omega, by go_num, hN1⟩, by simp [intOf]; omega⟩
    · have hrn : r = n := by omega
      subst hrn
      obtain ⟨g, gc, hv, hgb, hgl⟩ := ownBlock_of_owns hN.own (by omega)
      simp only [Value.slice.injEq, true_and] at hv
      obtain ⟨rfl, rfl⟩ := hv
      have HN := Lib.hid hN
      clear hN
      go_wp2
      go_ret
      exact ⟨g, sc, _, _, rfl, HN.out.below, HN.out.fin (by omega) h4 (by omega) h2⟩
end Go.Proofs.Ytokenlecnbploaa
