/- The walk of GridCopies. -/
import Derived.Test.YtokenlecnbploaaGridX
import Derived.Test.YtokenlecnbploaaGridS
namespace Go.Proofs.Ytokenlecnbploaa
open Go.RowKit

def playG (m : Nat) (G0 : List (List Gl)) (l : List Dd) (k : Nat) : List (List Gl) := (l.take k).foldl (fun G d => doG G m d) G0
theorem playG_succ {m : Nat} {G0 : List (List Gl)} {l : List Dd} {k : Nat} {d : Dd} (h : l[k]? = some d) : playG m G0 l (k + 1) = doG (playG m G0 l k) m d := by
  unfold playG; rw [List.take_add_one, h, List.foldl_append]; rfl
theorem playG_len (m : Nat) (G0 : List (List Gl)) (l : List Dd) (k : Nat) : (playG m G0 l k).length = G0.length := by
  unfold playG
  induction (l.take k) generalizing G0 with
  | nil => rfl
  | cons d t ih => rw [List.foldl_cons, ih, doG_len]

theorem flatten_inj {m : Nat} : ∀ {G H : List (List Gl)}, G.length = H.length → (∀ l ∈ G, l.length = m) → (∀ l ∈ H, l.length = m) → G.flatten = H.flatten → G = H := by
  intro G
  induction G with
  | nil => intro H h _ _ _; cases H with
    | nil => rfl
    | cons _ _ => simp at h
  | cons a G ih =>
    intro H h h1 h2 he
    cases H with
    | nil => simp at h
    | cons b H =>
      rw [List.flatten_cons, List.flatten_cons] at he
      obtain ⟨e1, e2⟩ := List.append_inj he (by rw [h1 a (by simp), h2 b (by simp)])
      rw [e1, ih (by simpa using h) (fun l hl => h1 l (by simp [hl])) (fun l hl => h2 l (by simp [hl])) e2]

structure Three (w : World) (x : Dd) (xb gb lb cap B ob gb2 lb2 cap2 m n : Nat) (rb rc : Nat → Nat) (G G2 : List (List Gl)) : Prop where
  x : ∀ j u, (denc x)[j]? = some u → w.cell? ⟨xb, j, none⟩ = some u
  g : GridG w gb lb m cap G
  a : RefAt w B ob rb rc m G
  h : GridG w gb2 lb2 m cap2 G2
  n1 : G.length = n
  n2 : G2.length = n

theorem Three.kept {w w' : World} {x : Dd} {xb gb lb cap B ob gb2 lb2 cap2 m n : Nat} {rb rc : Nat → Nat} {G G2 : List (List Gl)} (h : Three w x xb gb lb cap B ob gb2 lb2 cap2 m n rb rc G G2) (hn : 0 < n) (hm : 0 < m) {P : Nat → Prop} (hk : Kept P w w')
    (p0 : ¬ P xb) (p1 : ¬ P gb) (p2 : ¬ P lb) (p3 : ¬ P ob) (p4 : ∀ i, i < n → ¬ P (rb i)) (p5 : ¬ P gb2) (p6 : ¬ P lb2) : Three w' x xb gb lb cap B ob gb2 lb2 cap2 m n rb rc G G2 :=
  ⟨fun j u hu => hk.cell (h.x j u hu) p0, h.g.kept (by rw [h.n1]; exact hn) hm hk p1 p2, h.a.kept (by rw [h.n1]; exact hn) hk p3 (by rw [h.n1]; exact p4), h.h.kept (by rw [h.n2]; exact hn) hm hk p5 p6, h.n1, h.n2⟩
theorem Three.below {w w' : World} {x : Dd} {xb gb lb cap B ob gb2 lb2 cap2 m n : Nat} {rb rc : Nat → Nat} {G G2 : List (List Gl)} (h : Three w x xb gb lb cap B ob gb2 lb2 cap2 m n rb rc G G2) (hn : 0 < n) (hm : 0 < m) (hB : Below w.heap.size w w') : Three w' x xb gb lb cap B ob gb2 lb2 cap2 m n rb rc G G2 :=
  h.kept hn hm (P := fun _ => False) (.of_below hB) id id id id (fun _ _ => id) id id
/-- the blocks all lie below what the heap holds -/
structure Under (w : World) (xb gb lb ob gb2 lb2 n : Nat) (rb : Nat → Nat) : Prop where
  x : xb < w.heap.size
  g : gb < w.heap.size
  l : lb < w.heap.size
  o : ob < w.heap.size
  r : ∀ i, i < n → rb i < w.heap.size
  g2 : gb2 < w.heap.size
  l2 : lb2 < w.heap.size
theorem Three.under {w : World} {x : Dd} {xb gb lb cap B ob gb2 lb2 cap2 m n : Nat} {rb rc : Nat → Nat} {G G2 : List (List Gl)} (h : Three w x xb gb lb cap B ob gb2 lb2 cap2 m n rb rc G G2) (hn : 0 < n) (hm : 0 < m) : Under w xb gb lb ob gb2 lb2 n rb :=
  ⟨World.block_lt_of_cell? w _ (h.x 0 _ rfl), h.g.grid.glt, h.g.llt (by rw [h.n1]; exact hn) hm, World.block_lt_of_cell? w _ (h.a.outer 0 (by rw [h.n1]; exact hn)),
    fun i hi => (h.a.row (get_rowAt (r := i) (by rw [h.n1]; exact hi))).2.2.2.2.2.2.1, h.h.grid.glt, h.h.llt (by rw [h.n2]; exact hn) hm⟩

theorem gsame_below {gb lb cap gb' lb' cap' n m : Nat} {G H : List (List Gl)} {w : World} (hG : GridG w gb lb m cap G) (hH : GridG w gb' lb' m cap' H) (h1 : G.length = n) (h2 : H.length = n) :
    Calls Try.prog 40 #[.pointer (some ⟨gb, 0, none⟩), .pointer (some ⟨gb', 0, none⟩)] w fun e w' => e = .returned (.bool (decide (G = H))) ∧ Below w.heap.size w w' := by
  have hg := hG.grid
  have hh := hH.grid
  have hs := hG.small
  rw [h1] at hg hs
  rw [h2] at hh
  refine (gsame_some gb lb cap gb' lb' cap' n m _ _ w hg hh hs).mono ?_
  rintro e w' ⟨rfl, q, rfl⟩
  refine ⟨ret_bool ?_, below_dN (.refl _ _) q⟩
  by_cases h : G = H
  · rw [h]; simp
  · rw [decide_eq_false h, decide_eq_false (fun e => h (flatten_inj (h1.trans h2.symm) hG.shape hH.shape e))]
theorem refSame_below {B ob ocap B' ob' ocap' m n : Nat} {rb rc rb' rc' : Nat → Nat} {G H : List (List Gl)} {w : World} (hG : RefAt w B ob rb rc m G) (hH : RefAt w B' ob' rb' rc' m H) (h1 : G.length = n) (h2 : H.length = n) :
    Calls Try.prog 41 #[.slice (some ⟨ob, 0, none⟩) n ocap, .slice (some ⟨ob', 0, none⟩) n ocap'] w fun e w' => e = .returned (.bool (decide (G = H))) ∧ Below w.heap.size w w' := by
  subst h1
  refine (refSame_any B ob ocap B' ob' ocap' m rb rc rb' rc' G H w hG hH h2).mono ?_
  rintro e w' ⟨rfl, q, rfl⟩
  exact ⟨rfl, below_dN (.refl _ _) q⟩

def GG (n m : Nat) : List (List Gl) := List.replicate n (List.replicate m blankC)
theorem GG_len (n m : Nat) : (GG n m).length = n := by unfold GG; simp

/-- does in grids of whatever sizes -/
theorem doneAny {gb lb m cap B ob ocap m' n : Nat} {rb rc : Nat → Nat} {G H : List (List Gl)} {d : Dd} {wr : World} (hG : GridG wr gb lb m cap G) (hH : RefAt wr B ob rb rc m' H) (hn : 0 < G.length) (hm : 0 < m) (hHn : H.length = n) (hn' : 0 < n) (ha : Apart gb lb ob n rb) :
    Calls Try.prog 30 #[.pointer (some ⟨gb, 0, none⟩), .slice (some ⟨ob, 0, none⟩) n ocap, .agg #[.int .i64 d.k, .int .i64 d.r, .int .i64 d.c, .string d.x.1, .int .i64 d.x.2]] wr fun e w' =>
      ∃ b, e = .returned (.bool b) ∧ Kept (fun j => j = lb ∨ Rows n rb j) wr w' ∧ RefAt w' B ob rb rc m' (doG H m' d) := by
  have h := does_any gb lb m cap B ob m' ocap rb rc G H d wr hG hH hn hm (by omega) (by rw [hHn]; exact ha)
  rw [hHn] at h
  refine h.mono ?_
  rintro e w' ⟨rfl, h1, h2, h3⟩
  exact ⟨_, rfl, h1, h3⟩

set_option maxRecDepth 100000 in
set_option maxHeartbeats 4000000 in
theorem gridCopies_any (rows cols : Int) (v : Value) (l : List Dd) (x : Dd) (w : World) (hR : Rs w.heap.size w denc 5 v l) :
    Calls Try.prog 12 #[.int .i64 rows, .int .i64 cols, v, .agg #[.int .i64 x.k, .int .i64 x.r, .int .i64 x.c, .string x.x.1, .int .i64 x.x.2]] w fun e w' => e = .returned (.bool true) ∧ Below w.heap.size w w' := by
  obtain ⟨a, cap0, rfl, hcap, hmax, hxl, hcells⟩ := hR
  unfold maxLen at hmax
  obtain ⟨n, hn⟩ : ∃ n : Nat, 1 + rows % 4 = (n : Int) := ⟨(1 + rows % 4).toNat, by omega⟩
  obtain ⟨m, hm⟩ : ∃ m : Nat, 2 + cols % 8 = (m : Int) := ⟨(2 + cols % 8).toNat, by omega⟩
  have n1 : 1 ≤ n := by omega
  have n2 : n ≤ 4 := by omega
  have m1 : 2 ≤ m := by omega
  have m2 : m ≤ 9 := by omega
  have hb3 := and3 rows
  have hb7 := and7 cols
  have e1 := IntWalk.i64_in (1 + rows % 4) (by omega)
  have e2 := IntWalk.i64_in (2 + cols % 8) (by omega)
  have HC := Lib.hid hcells
  obtain ⟨N, hN⟩ : ∃ N : Nat, (N = l.length ∧ N ≤ 40) ∨ (N = 40 ∧ 40 < l.length) := by
    by_cases h : l.length ≤ 40
    · exact ⟨_, .inl ⟨rfl, h⟩⟩
    · exact ⟨40, .inr ⟨rfl, by omega⟩⟩
  have HNN := Lib.hid hN
  clear hxl hcells hN
  go_enter Try.func12, Try.ntmps12
  go_wp2_with fail
  have hxc : ∀ j u, (denc x)[j]? = some u → (w.alloc (.cells #[.int .i64 x.k, .int .i64 x.r, .int .i64 x.c, .string x.x.1, .int .i64 x.x.2] 58)).cell? ⟨w.heap.size, j, none⟩ = some u := by
    intro j u hu
    rw [cell_of_row _ w.heap.size j _ 58 (0, 0) (heap_alloc_new w _), ← Array.getElem?_toList]
    exact hu
  have hBw := (Below.refl w.heap.size w).alloc (Nat.le_refl _) (.cells #[.int .i64 x.k, .int .i64 x.r, .int .i64 x.c, .string x.x.1, .int .i64 x.x.2] 58)
  have hsz : w.heap.size < (w.alloc (.cells #[.int .i64 x.k, .int .i64 x.r, .int .i64 x.c, .string x.x.1, .int .i64 x.x.2] 58)).heap.size := by simp
  generalize w.alloc (.cells #[.int .i64 x.k, .int .i64 x.r, .int .i64 x.c, .string x.x.1, .int .i64 x.x.2] 58) = W at hxc hBw hsz ⊢
  refine (new_some n m W n1 (by omega) m1 (by omega)).mono ?_
  rintro e w1 ⟨gb, lb, rfl, hgb, hlb, hB1, hG1⟩
  have HXC := Lib.hid hxc
  have HBw := Lib.hid hBw
  clear hxc hBw
  go_wp2_with fail
  refine (refNew_some n m w1 n1 (by omega) m1 (by omega)).mono ?_
  rintro e w2 ⟨ob, ocap, rb, rc, rfl, hB2, hH2⟩
  obtain ⟨ha, hG2, hB02, hbase⟩ := apart_new (by omega) (by omega) hG1 hH2 hlb hB1 hB2
  have HA := Lib.hid ha
  have HBs := Lib.hid hbase
  have HGx := Lib.hid hG2
  have HHx := Lib.hid hH2
  have HB02 := Lib.hid hB02
  clear hG1 hH2 hG2 hB1 hB2 hB02 ha hbase
  go_wp2_with fail
  go_loopw [11] (fun i wr => ∃ k : Nat, k ≤ N ∧ i = .int .i64 ((k : Nat) : Int) ∧ Below W.heap.size W wr ∧ GridG wr gb lb m (n * m) (playG m (GG n m) l k) ∧ RefAt wr w1.heap.size ob rb rc m (playG m (GG n m) l k)) (fun i _ => N - (intOf i).toNat)
  case atStart => exact ⟨0, Nat.zero_le _, rfl, HB02.out, HGx.out, HHx.out⟩
  case round =>
    obtain ⟨k, hk, rfl, hB, hG, hH⟩ := hrel
    by_cases hlt : k < N
    · have hkl : k < l.length := by have := HNN.out; omega
      have hkl2 : k < 40 := by have := HNN.out; omega
      obtain ⟨d, hd⟩ : ∃ d, l[k]? = some d := ⟨l[k], by simp [hkl]⟩
      obtain ⟨b, off, rfl, hbl, hcq⟩ := HC.out (by omega)
      have hB' := HBw.out.trans (hB.mono (by omega))
      have d0 : wr.cell? ⟨b, off + k * 5, none⟩ = some (.int .i64 d.k) := cell_later hB' (flat_cell denc_len hcq hd 0 rfl)
      have q40 : decide ((k : Int) < 40) = true := decide_eq_true (by omega)
      have d1 : wr.cell? ⟨b, off + k * 5 + 1, none⟩ = some (.int .i64 d.r) := cell_later hB' (flat_cell denc_len hcq hd 1 rfl)
      have d2 : wr.cell? ⟨b, off + k * 5 + 2, none⟩ = some (.int .i64 d.c) := cell_later hB' (flat_cell denc_len hcq hd 2 rfl)
      have d3 : wr.cell? ⟨b, off + k * 5 + 3, none⟩ = some (.string d.x.1) := cell_later hB' (flat_cell denc_len hcq hd 3 rfl)
      have d4 : wr.cell? ⟨b, off + k * 5 + 4, none⟩ = some (.int .i64 d.x.2) := cell_later hB' (flat_cell denc_len hcq hd 4 rfl)
      have HX := Lib.hid (doneSame (d := d) (ocap := ocap) hG hH (by omega) (by omega) ((playG_len _ _ _ _).trans (GG_len _ _)) HA.out)
      have HP := Lib.hid (playG_succ (m := m) (G0 := GG n m) hd)
      have hBs := hB.size
      clear hG hH hcq hd hB'
      go_wp2_with fail
      refine HX.out.mono ?_
      rintro e w3 ⟨rfl, hD⟩
      obtain ⟨hK, hG3, hH3⟩ := hD
      have HB3 := Lib.hid (hB.trans (hK.below hBs HBs.out))
      have HG3 := Lib.hid hG3
      have HH3 := Lib.hid hH3
      clear hG3 hH3 hK d0 d1 d2 d3 d4
      go_wp2
      go_roundw
      case rel => exact ⟨k + 1, by omega, by go_num, HB3.out, by rw [HP.out]; exact HG3.out, by rw [HP.out]; exact HH3.out⟩
      case measure => simp [intOf]; omega
    · have hkn : k = N := by omega
      obtain ⟨G, hGd⟩ : ∃ G, G = playG m (GG n m) l k := ⟨_, rfl⟩
      rw [← hGd] at hG hH
      have hGn : G.length = n := by rw [hGd]; exact (playG_len _ _ _ _).trans (GG_len _ _)
      have hBs := hB.size
      have hcp := copy_some gb lb m (n * m) G wr hG (by omega) (by omega)
      have hgl := hG.grid.glt
      have hll := hG.llt (by omega) (by omega)
      have HCp := Lib.hid hcp
      have HG := Lib.hid hG
      have HH := Lib.hid hH
      have HGn := Lib.hid hGn
      have HGd := Lib.hid hGd
      have HB := Lib.hid hB
      clear hcp hG hH hGn hGd hB
      have hex : (¬ k < l.length ∧ k ≤ 40) ∨ (k < l.length ∧ k = 40) := by have := HNN.out; omega
      rcases hex with ⟨hex, hey⟩ | ⟨hex, hey⟩
      rotate_left
      have q40 : decide ((k : Int) < 40) = false := decide_eq_false (by omega)
      have HK40 := Lib.hid hey
      clear hey
      rotate_right
      all_goals
        have hkN : N = k := hkn.symm
        have HkN := Lib.hid hkN
        clear hkn hkN
        go_wp2_with fail
        refine HCp.out.mono ?_
        rintro e w3 ⟨gb2, lb2, cap2, rfl, hgb2, hlb2, hB3, hG3⟩
        have hT3 : Three w3 x w.heap.size gb lb (n * m) w1.heap.size ob gb2 lb2 cap2 m n rb rc G G :=
          ⟨fun j u hu => cell_later hB3 ((HB.out.cell (p := ⟨w.heap.size, j, none⟩) hsz).trans (HXC.out j u hu)),
            HG.out.kept (by rw [HGn.out]; omega) (by omega) (P := fun _ => False) (.of_below hB3) id id, HH.out.kept (by rw [HGn.out]; omega) (P := fun _ => False) (.of_below hB3) id (fun _ _ => id), hG3, HGn.out, HGn.out⟩
        have HT3 := Lib.hid hT3
        have HB3 := Lib.hid (below_trans' HB.out hB3)
        have HLT := Lib.hid (show gb < lb2 ∧ lb < lb2 ∧ ob < lb2 ∧ ∀ i, i < n → rb i < lb2 from
          ⟨by omega, by omega, by have : ob < wr.heap.size := World.block_lt_of_cell? wr _ (HH.out.outer 0 (by rw [HGn.out]; omega)); omega,
            fun i hi => by have := (HH.out.row (get_rowAt (r := i) (by rw [HGn.out]; exact hi))).2.2.2.2.2.2.1; omega⟩)
        clear hT3 hB3 hG3
        go_wp2_with fail
        refine (gsame_below HT3.out.g HT3.out.h HGn.out HGn.out).mono ?_
        rintro e w4 ⟨rfl, hB4⟩
        rw [decide_eq_true (rfl : G = G)]
        have HT4 := Lib.hid (HT3.out.below (by omega) (by omega) hB4)
        have HB4 := Lib.hid (below_trans' HB3.out hB4)
        clear hB4
        go_wp2_with fail
        refine (same27_n HT4.out.h HT4.out.a (by omega) (by omega) HGn.out).mono ?_
        rintro e w5 ⟨rfl, hB5, _, _⟩
        have HT5 := Lib.hid (HT4.out.below (by omega) (by omega) hB5)
        have HB5 := Lib.hid (below_trans' HB4.out hB5)
        clear hB5
        go_wp2_with fail
        refine (refNew_some n m w5 n1 (by omega) m1 (by omega)).mono ?_
        rintro e w6 ⟨ob2, ocap2, rb2, rc2, rfl, hB6, hH6⟩
        have HT6 := Lib.hid (HT5.out.below (by omega) (by omega) hB6)
        have HB6 := Lib.hid (below_trans' HB5.out hB6)
        have HU := Lib.hid (HT5.out.under (by omega) (by omega))
        have HS6 := Lib.hid hB6.size
        have HH6 := Lib.hid hH6
        have HW6 := Lib.hid (show W.heap.size ≤ w6.heap.size from HB6.out.size)
        clear hB6 hH6
        go_wp2_with fail
        go_loopw [14, 15] (fun i _ wr => ∃ q : Nat, q ≤ N ∧ i = .int .i64 ((q : Nat) : Int) ∧ RefAt wr w5.heap.size ob2 rb2 rc2 m (playG m (GG n m) l q)
          ∧ Three wr x w.heap.size gb lb (n * m) w1.heap.size ob gb2 lb2 cap2 m n rb rc G G ∧ Below W.heap.size W wr) (fun i _ _ => N - (intOf i).toNat)
        case atStart => exact ⟨0, Nat.zero_le _, rfl, HH6.out, HT6.out, HB6.out⟩
        case round =>
          obtain ⟨q, hq, rfl, hHq, hTq, hB0⟩ := hrel
          have hql : (playG m (GG n m) l q).length = n := (playG_len _ _ _ _).trans (GG_len _ _)
          by_cases hltq : q < N
          · have hkl : q < l.length := by have := HNN.out; omega
            have hkl2 : q < 40 := by have := HNN.out; omega
            obtain ⟨d, hd⟩ : ∃ d, l[q]? = some d := ⟨l[q], by simp [hkl]⟩
            obtain ⟨b, off, rfl, hbl, hcq⟩ := HC.out (by omega)
            have HB' := Lib.hid (HBw.out.trans (hB0.mono (by omega)))
            have HD := Lib.hid (fun j u hj => flat_cell denc_len hcq hd j (u := u) hj)
            have HP := Lib.hid (playG_succ (m := m) (G0 := GG n m) hd)
            have HHq := Lib.hid hHq
            have HTq := Lib.hid hTq
            have HB0 := Lib.hid hB0
            have HQL := Lib.hid hql
            have q41 : decide ((q : Int) < 40) = true := decide_eq_true (by omega)
            clear hHq hTq hB0 hcq hd hql
            go_wp2_with fail
            refine (new_some 1 2 wr (by omega) (by omega) (by omega) (by omega)).mono ?_
            rintro e w7 ⟨gb3, lb3, rfl, hgb3, hlb3, hB7, hG7⟩
            have hH7 := HHq.out.kept (by rw [HQL.out]; omega) (P := fun _ => False) (.of_below hB7) id (fun _ _ => id)
            have hT7 := HTq.out.below (by omega) (by omega) hB7
            have hB07 := below_trans' HB0.out hB7
            have hW5 : w5.heap.size ≤ w7.heap.size := by
              have := hH7.row (get_rowAt (r := 0) (by rw [HQL.out]; omega))
              have := hH7.base 0 (by rw [HQL.out]; omega)
              omega
            have hBx := HB'.out.trans (hB7.mono HB'.out.size)
            have d0 : w7.cell? ⟨b, off + q * 5, none⟩ = some (.int .i64 d.k) := cell_later hBx (HD.out 0 _ rfl)
            have d1 : w7.cell? ⟨b, off + q * 5 + 1, none⟩ = some (.int .i64 d.r) := cell_later hBx (HD.out 1 _ rfl)
            have d2 : w7.cell? ⟨b, off + q * 5 + 2, none⟩ = some (.int .i64 d.c) := cell_later hBx (HD.out 2 _ rfl)
            have d3 : w7.cell? ⟨b, off + q * 5 + 3, none⟩ = some (.string d.x.1) := cell_later hBx (HD.out 3 _ rfl)
            have d4 : w7.cell? ⟨b, off + q * 5 + 4, none⟩ = some (.int .i64 d.x.2) := cell_later hBx (HD.out 4 _ rfl)
            have hob2 : ob2 < wr.heap.size := World.block_lt_of_cell? wr _ (HHq.out.outer 0 (by rw [HQL.out]; omega))
            have hrb2 : ∀ i, i < n → rb2 i < wr.heap.size := fun i hi => (HHq.out.row (get_rowAt (r := i) (by rw [HQL.out]; exact hi))).2.2.2.2.2.2.1
            have hbase2 : ∀ i, i < n → w5.heap.size ≤ rb2 i := fun i hi => HHq.out.base i (by rw [HQL.out]; exact hi)
            have hdo := doneAny (d := d) (ocap := ocap2) hG7 hH7 (by simp) (by omega) HQL.out (by omega) ⟨by omega, by omega, fun i hi e => by have := hrb2 i hi; omega, fun i hi e => by have := hrb2 i hi; omega⟩
            have hsz5 : w5.heap.size ≤ wr.heap.size := by have := hrb2 0 (by omega); have := hbase2 0 (by omega); omega
            have HDo := Lib.hid hdo
            have HT7 := Lib.hid hT7
            have HB07 := Lib.hid hB07
            have HR2 := Lib.hid hbase2
            clear hdo hG7 hH7 hT7 hB07 hB7 hBx hrb2 hbase2
            go_wp2_with fail
            refine HDo.out.mono ?_
            rintro e w8 ⟨bb, rfl, hK8, hH8⟩
            have HH8 := Lib.hid hH8
            have HT8 := Lib.hid (HT7.out.kept (by omega) (by omega) hK8
              (by rintro (e | ⟨i, hi, e⟩); have := HU.out.x; omega; have := HU.out.x; have := HR2.out i hi; omega)
              (by rintro (e | ⟨i, hi, e⟩); have := HU.out.g; omega; have := HU.out.g; have := HR2.out i hi; omega)
              (by rintro (e | ⟨i, hi, e⟩); have := HU.out.l; omega; have := HU.out.l; have := HR2.out i hi; omega)
              (by rintro (e | ⟨i, hi, e⟩); have := HU.out.o; omega; have := HU.out.o; have := HR2.out i hi; omega)
              (by rintro j hj (e | ⟨i, hi, e⟩); have := HU.out.r j hj; omega; have := HU.out.r j hj; have := HR2.out i hi; omega)
              (by rintro (e | ⟨i, hi, e⟩); have := HU.out.g2; omega; have := HU.out.g2; have := HR2.out i hi; omega)
              (by rintro (e | ⟨i, hi, e⟩); have := HU.out.l2; omega; have := HU.out.l2; have := HR2.out i hi; omega))
            have hW5W : W.heap.size ≤ w5.heap.size := HB5.out.size
            have HB8 := Lib.hid (HB07.out.trans (hK8.below HB07.out.size (by rintro j (e | ⟨i, hi, e⟩); omega; have := HR2.out i hi; omega)))
            clear hK8 hH8 d0 d1 d2 d3 d4
            go_wp2
            go_roundw
            case rel => exact ⟨q + 1, by omega, by go_num, by rw [HP.out]; exact HH8.out, HT8.out, HB8.out⟩
            case measure => simp [intOf]; omega
          · have hqk : q = k := by have := HkN.out; omega
            subst hqk
            rw [← HGd.out] at hHq
            have HHq := Lib.hid hHq
            have HTq := Lib.hid hTq
            have HB0 := Lib.hid hB0
            clear hHq hTq hB0 hql
            have x0 := HTq.out.x 0 _ rfl
            have x1 := HTq.out.x 1 _ rfl
            have x2 := HTq.out.x 2 _ rfl
            have x3 := HTq.out.x 3 _ rfl
            have x4 := HTq.out.x 4 _ rfl
            have hR2 : ∀ i, i < n → w5.heap.size ≤ rb2 i := fun i hi => HHq.out.base i (by rw [HGn.out]; exact hi)
            have ho2 : w5.heap.size ≤ ob2 := HHq.out.hob
            have hapart : Apart gb2 lb2 ob2 n rb2 := ⟨fun e => by have := HU.out.g2; omega, fun e => by have := HU.out.l2; omega, fun i hi e => by have := HU.out.g2; have := hR2 i hi; omega, fun i hi e => by have := HU.out.l2; have := hR2 i hi; omega⟩
            have HR2 := Lib.hid hR2
            have HDo := Lib.hid (doneSame (d := x) (ocap := ocap2) HTq.out.h HHq.out (by omega) (by omega) HGn.out hapart)
            clear hR2 hapart
            go_wp2_with fail
            refine HDo.out.mono ?_
            rintro e w8 ⟨rfl, hD⟩
            obtain ⟨hK, hG8, hH8⟩ := hD
            have hg8 := HTq.out.g.kept (by rw [HGn.out]; omega) (by omega) hK
              (by rintro (e | ⟨i, hi, e⟩); have := HLT.out.1; omega; have := HU.out.g; have := HR2.out i hi; omega)
              (by rintro (e | ⟨i, hi, e⟩); have := HLT.out.2.1; omega; have := HU.out.l; have := HR2.out i hi; omega)
            have ha8 := HTq.out.a.kept (by rw [HGn.out]; omega) hK
              (by rintro (e | ⟨i, hi, e⟩); have := HLT.out.2.2.1; omega; have := HU.out.o; have := HR2.out i hi; omega)
              (by rintro j hj (e | ⟨i, hi, e⟩); rw [HGn.out] at hj; have := HLT.out.2.2.2 j hj; omega; rw [HGn.out] at hj; have := HU.out.r j hj; have := HR2.out i hi; omega)
            have hW5W : W.heap.size ≤ w5.heap.size := HB5.out.size
            have hWl : W.heap.size ≤ lb2 := by have := hBs; omega
            have HB8 := Lib.hid (HB0.out.trans (hK.below HB0.out.size (by rintro j (e | ⟨i, hi, e⟩); omega; have := HR2.out i hi; omega)))
            have HG8 := Lib.hid hG8
            have HH8 := Lib.hid hH8
            have HT8 := Lib.hid (show Three w8 x w.heap.size gb lb (n * m) w1.heap.size ob gb2 lb2 cap2 m n rb rc G (doG G m x) from
              ⟨fun j u hu => hK.cell (HTq.out.x j u hu) (by show ¬ (w.heap.size = lb2 ∨ Rows n rb2 w.heap.size); rintro (e | ⟨i, hi, e⟩); have := HU.out.x; omega; have := HU.out.x; have := HR2.out i hi; omega), hg8, ha8, hG8, HGn.out, (doG_len _ _ _).trans HGn.out⟩)
            clear hK hG8 hH8 hg8 ha8 x0 x1 x2 x3 x4
            have HGx := Lib.hid ((doG_len G m x).trans HGn.out)
            go_wp2_with fail
            refine (same27_n HT8.out.g HT8.out.a (by omega) (by omega) HGn.out).mono ?_
            rintro e w9 ⟨rfl, hB9, _, _⟩
            have HT9 := Lib.hid (HT8.out.below (by omega) (by omega) hB9)
            have HH9 := Lib.hid (HH8.out.kept (by rw [HGx.out]; omega) (P := fun _ => False) (.of_below hB9) id (fun _ _ => id))
            have HB9 := Lib.hid (below_trans' HB8.out hB9)
            clear hB9
            go_wp2_with fail
            refine (same27_n HT9.out.h HH9.out (by omega) (by omega) HGx.out).mono ?_
            rintro e w10 ⟨rfl, hB10, _, hH10⟩
            have HT10 := Lib.hid (HT9.out.below (by omega) (by omega) hB10)
            have HH10 := Lib.hid hH10
            have HB10 := Lib.hid (below_trans' HB9.out hB10)
            clear hB10 hH10
            go_wp2_with fail
            refine (gsame_below HT10.out.g HT10.out.h HGn.out HGx.out).mono ?_
            rintro e w11 ⟨rfl, hB11⟩
            have HT11 := Lib.hid (HT10.out.below (by omega) (by omega) hB11)
            have HH11 := Lib.hid (HH10.out.kept (by rw [HGx.out]; omega) (P := fun _ => False) (.of_below hB11) id (fun _ _ => id))
            have HB11 := Lib.hid (below_trans' HB10.out hB11)
            clear hB11
            go_wp2_with fail
            refine (refSame_below HT11.out.a HH11.out HGn.out HGx.out).mono ?_
            rintro e w12 ⟨rfl, hB12⟩
            have HB12 := Lib.hid (below_trans' HB11.out hB12)
            clear hB12
            generalize decide (G = doG G m x) = bb
            have hbb : (bb == bb) = true := by cases bb <;> rfl
            go_wp2_with fail
            refine (awake27_any _).mono ?_
            rintro e w13 ⟨rfl, hB13⟩
            have HB13 := Lib.hid (HBw.out.trans ((below_trans' HB12.out hB13).mono (by omega)))
            clear hB13
            go_wp2
            go_ret
            exact ⟨rfl, HB13.out⟩
end Go.Proofs.Ytokenlecnbploaa
