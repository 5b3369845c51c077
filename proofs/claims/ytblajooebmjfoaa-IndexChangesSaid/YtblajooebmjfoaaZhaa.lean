/- Joined texts: IdxL. -/
import Derived.Test.YtblajooebmjfoaaZgac
/- IndexWide: its walk. -/
namespace Go.Proofs.Ytblajooebmjfoaa
open Go.RowKit

/-- what a slice is from a place on -/
theorem runes_drop {w : World} {b off cap : Nat} {l : List Int} (h : RunesIn w (.slice (some ⟨b, off, none⟩) l.length cap) l) {t : Nat} (ht : t ≤ l.length) (hb : b < w.heap.size) : RunesIn w (.slice (some ⟨b, off + t, none⟩) (l.length - t) (cap - t)) (l.drop t) := by
  have := runes_sub h (i := t) (j := l.length) ht (Nat.le_refl _) hb
  rwa [List.take_length] at this
theorem runes_empty {w : World} {v : Value} {cap : Nat} {a : Option Addr} (hv : v = .slice a 0 cap) (hc : cap ≤ maxLen) : RunesIn w v [] := by
  subst hv
  exact ⟨a, cap, rfl, Nat.zero_le _, hc, rfl, fun h => absurd h (by simp)⟩
theorem runes_few {w : World} {a : Option Addr} {cap : Nat} {l : List Int} (h : RunesIn w (.slice a l.length cap) l) (n : Nat) : RunesIn w (.slice a (l.take n).length cap) (l.take n) := by
  by_cases hn : n ≤ l.length
  · rw [show (l.take n).length = n by rw [List.length_take]; omega]
    exact runes_take h hn
  · rw [List.take_of_length_le (by omega)]
    exact h
set_option maxRecDepth 100000 in
theorem few_eq {w : World} {a : Option Addr} {cap : Nat} {l : List Int} (h : RunesIn w (.slice a l.length cap) l) (n : Nat) : Calls Try.prog 11 #[.slice a l.length cap, .int .i64 (n : Nat)] w fun e w' => e = .returned (.slice a (l.take n).length cap) ∧ w = w' := by
  obtain ⟨sl, cap', hv, hcap, hmax, hcells⟩ := runes_cells h
  cases hv
  unfold maxLen at hmax
  by_cases hn : n < l.length
  · have q0 : (l.length : Int) > (n : Int) := by omega
    have q1 : (0 : Int) ≤ (n : Int) := by omega
    have q2 : (n : Int) ≤ (cap : Int) := by omega
    have HE := Lib.hid (show n = (l.take n).length by rw [List.length_take]; omega)
    obtain ⟨b, off, rfl, _, _⟩ := hcells (by omega)
    clear h hcells
    go_enter Try.func11, Try.ntmps11
    go_wp2_with fail
    go_ret
    exact ⟨by rw [← HE.out]; rfl, rfl⟩
  · have q0 : decide ((l.length : Int) > (n : Int)) = false := by rw [decide_eq_false_iff_not]; omega
    have HE := Lib.hid (show l.length = (l.take n).length by rw [List.length_take]; omega)
    clear h hcells
    go_enter Try.func11, Try.ntmps11
    go_wp2_with fail
    go_ret
    exact ⟨by rw [← HE.out]; rfl, rfl⟩
set_option maxRecDepth 100000 in
set_option maxHeartbeats 16000000 in
theorem indexWide_any (v0 vi : Value) (l0 ins0 : List Int) (F T bf bh : Int) (w : World) (hl : RunesIn w v0 l0) (hok : RunesOk l0) (hi : RunesIn w vi ins0) (hoki : RunesOk ins0) :
    Calls Try.prog 6 #[v0, .agg #[.int .i64 F, .int .i64 T, vi], .int .i64 bf, .int .i64 bh] w fun e w' => e = .returned (.bool true) ∧ Below w.heap.size w w' := by
  obtain ⟨R, HFc, hrows⟩ := apiRows_any
  have HF := Lib.hid HFc
  have HRows := Lib.hid hrows
  have HTk := Lib.hid HFc.seg.tab
  obtain ⟨la, lc, rfl, _, _, _⟩ := runes_cells hl
  obtain ⟨via, vic, rfl, _, _, _⟩ := runes_cells hi
  have HFew := Lib.hid (fun (W : World) (h : Below w.heap.size w W) => few_eq (hl.below h) 60)
  have HFewI := Lib.hid (fun (W : World) (h : Below w.heap.size w W) => few_eq (hi.below h) 20)
  obtain ⟨l, hll⟩ : ∃ l, l = l0.take 60 := ⟨_, rfl⟩
  obtain ⟨ins, hii⟩ : ∃ l, l = ins0.take 20 := ⟨_, rfl⟩
  have HS := Lib.hid (show RunesIn w (.slice la l.length lc) l by rw [hll]; exact runes_few hl 60)
  have HI := Lib.hid (show RunesIn w (.slice via ins.length vic) ins by rw [hii]; exact runes_few hi 20)
  rw [← hll] at HFew
  rw [← hii] at HFewI
  have HOk := Lib.hid (show RunesOk l by rw [hll]; exact hok.take 60)
  have HOki := Lib.hid (show RunesOk ins by rw [hii]; exact hoki.take 20)
  have hlen : l.length ≤ 60 := by rw [hll, List.length_take]; omega
  have hleni : ins.length ≤ 20 := by rw [hii, List.length_take]; omega
  have hb0 := below1 w (.cells #[.int .i64 F, .int .i64 T, .slice via ins0.length vic] 47)
  have hr0 := heap_alloc_new w (.cells #[.int .i64 F, .int .i64 T, .slice via ins0.length vic] 47)
  have HB0 := Lib.hid hb0
  clear HFc hrows hll hok hii hoki hl hi hb0
  go_enter Try.func6, Try.ntmps6
  go_upto_region 1 with fail
  generalize w.alloc (.cells #[.int .i64 F, .int .i64 T, .slice via ins0.length vic] 47) = w0 at hr0 HB0 ⊢
  generalize hh : w.heap.size = h at hr0 ⊢
  have HH := Lib.hid hh
  have a2 := row_cells (i := 2) hr0 rfl
  have f2 := row_warm hr0 2
  go_wp2_with fail
  refine (HFew.out w0 HB0.out).mono ?_
  rintro e w' ⟨rfl, rfl⟩
  go_wp2_with fail
  refine (HFewI.out w0 HB0.out).mono ?_
  rintro e w' ⟨rfl, rfl⟩
  go_upto_region 3 with fail
  have hb1 := HB0.out.setCell (p := ⟨h, 2, none⟩) (by show w.heap.size ≤ h; omega) (.slice via ins.length vic)
  have hr1 : (w0.setCell ⟨h, 2, none⟩ (.slice via ins.length vic)).heap[h]? = some (.cells #[.int .i64 F, .int .i64 T, .slice via ins.length vic] 47 (0, 0)) := heap_setCell_same _ _ _ _ _ _ hr0
  have HB1 := Lib.hid hb1
  generalize w0.setCell ⟨h, 2, none⟩ (.slice via ins.length vic) = w1 at hr1 HB1 ⊢
  have a0 := row_cells (i := 0) hr1 rfl
  have a1 := row_cells (i := 1) hr1 rfl
  have a2 := row_cells (i := 2) hr1 rfl
  have hlt1 : h < w1.heap.size := (Array.getElem?_eq_some_iff.1 hr1).1
  have HR1 := Lib.hid hr1
  clear hb1 hr1 hr0 HB0 HFew HFewI f2
  by_cases g0 : F < 0
  · go_wp2_with fail
    refine (fin15 HB1.out).mono ?_
    rintro e w9 ⟨rfl, hB9⟩
    go_wp2_with fail
    go_ret
    exact ⟨rfl, hB9⟩
  · have q0 : decide (F < 0) = false := decide_eq_false g0
    by_cases g1 : F > T
    · clear g0
      go_wp2_with fail
      refine (fin15 HB1.out).mono ?_
      rintro e w9 ⟨rfl, hB9⟩
      go_wp2_with fail
      go_ret
      exact ⟨rfl, hB9⟩
    · have q1 : decide (F > T) = false := decide_eq_false g1
      by_cases g2 : T > (l.length : Int)
      · clear g0 g1
        go_wp2_with fail
        refine (fin15 HB1.out).mono ?_
        rintro e w9 ⟨rfl, hB9⟩
        go_wp2_with fail
        go_ret
        exact ⟨rfl, hB9⟩
      · have q2 : decide (T > (l.length : Int)) = false := decide_eq_false g2
        obtain ⟨f, rfl⟩ : ∃ f : Nat, F = (f : Int) := ⟨F.toNat, by omega⟩
        obtain ⟨t, rfl⟩ : ∃ t : Nat, T = (t : Int) := ⟨T.toNat, by omega⟩
        have hft : f ≤ t := by omega
        have htl : t ≤ l.length := by omega
        clear g0 g1 g2
        go_wp2_with fail
        refine (HRows.out w1).mono ?_
        rintro e w2 ⟨v, rfl, hB2, hR2⟩
        have HB2 := Lib.hid (below_trans' HB1.out hB2)
        have HR2 := Lib.hid hR2
        have HRw2 := Lib.hid ((hB2.block h hlt1).trans HR1.out)
        have hlt2 : h < w2.heap.size := Nat.lt_of_lt_of_le hlt1 hB2.size
        clear hB2 hR2 a0 a1 a2 q0 q1 q2
        go_wp2_with fail
        refine (build_tb v R w2 HR2.out HF.out.ok).mono ?_
        rintro e w3 ⟨tp, rfl, hB3, hT3⟩
        have HB3 := Lib.hid (below_trans' HB2.out hB3)
        have HT3 := Lib.hid hT3
        have HR3 := Lib.hid (HR2.out.below hB3)
        have hr3 := (hB3.block h hlt2).trans HRw2.out
        have HRw3 := Lib.hid hr3
        have hlt3 : h < w3.heap.size := Nat.lt_of_lt_of_le hlt2 hB3.size
        have a0 := row_cells (i := 0) hr3 rfl
        have a1 := row_cells (i := 1) hr3 rfl
        have a2 := row_cells (i := 2) hr3 rfl
        clear hB3 hT3 hr3 HRw2 HB2 HR2 hlt2 hlt1 HB1 HR1
        go_upto_region 7 with fail
        have hlc : l.length ≤ lc := by obtain ⟨_, _, hv, h1, _⟩ := HS.out; cases hv; exact h1
        have hlm : lc ≤ maxLen := by obtain ⟨_, _, hv, _, h1, _⟩ := HS.out; cases hv; exact h1
        unfold maxLen at hlm
        have k1 : (0 : Int) ≤ (f : Int) := by omega
        have k2 : (f : Int) ≤ (lc : Int) := by omega
        have k3 : (0 : Int) ≤ (t : Int) := by omega
        have k4 : (t : Int) ≤ (l.length : Int) := by omega
        have k5 : (l.length : Int) ≤ (lc : Int) := by omega
        have k6 : ((l.length : Int) - (t : Int)).toNat = l.length - t := by omega
        have k7 : ((lc : Int) - (t : Int)).toNat = lc - t := by omega
        have HA := Lib.hid (show RunesIn w3 (.slice la f lc) (l.take f) from runes_take (HS.out.below HB3.out) (by omega))
        have HIn := Lib.hid (HI.out.below HB3.out)
        have hsum : (l.take f).length + ins.length + (l.drop t).length ≤ 1000000 := by rw [List.length_take, List.length_drop]; omega
        by_cases hz : l.length = 0
        case' pos =>
          have HZ := Lib.hid hz
          clear hz
          rcases la with _ | ad0
          case' none =>
            have HC := Lib.hid (show RunesIn w3 (.slice none (l.length - t) (lc - t)) (l.drop t) by
              rw [List.drop_eq_nil_of_le (by have := HZ.out; omega)]
              exact runes_empty (cap := lc - t) (by rw [show l.length - t = 0 by have := HZ.out; omega]) (by unfold maxLen; omega))
            go_region_held3 (fun w' => w'.cell? ⟨h, 0, none⟩ = some (.int .i64 (f : Int)) ∧ w'.cell? ⟨h, 1, none⟩ = some (.int .i64 (t : Int)) ∧ w'.cell? ⟨h, 2, none⟩ = some (.slice via ins.length vic)) (first | exact ⟨b0, b1, b2⟩ | exact ⟨a0, a1, a2⟩ | go_keep)
              (first
                | (go_at_call 25; refine (tjoined_any (HA.out.drewN 1) (HIn.out.drewN 1) (HC.out.drewN 1) hsum).mono ?_; rintro e w4 ⟨u, rfl, hB4, hJ4⟩; have b0 := cell_later hB4 (show (w3.drewN 1).cell? _ = _ from a0); have b1 := cell_later hB4 (show (w3.drewN 1).cell? _ = _ from a1); have b2 := cell_later hB4 (show (w3.drewN 1).cell? _ = _ from a2); have HB4 := Lib.hid hB4; have HJ4 := Lib.hid hJ4; clear hB4 hJ4)
                | fail)
          case' some =>
            obtain ⟨ad, had⟩ : ∃ ad, (if lc = t then some ad0 else some (ad0.add t)) = ad := ⟨_, rfl⟩
            have HC := Lib.hid (show RunesIn w3 (.slice ad (l.length - t) (lc - t)) (l.drop t) by
              rw [List.drop_eq_nil_of_le (by have := HZ.out; omega)]
              exact runes_empty (cap := lc - t) (by rw [show l.length - t = 0 by have := HZ.out; omega]) (by unfold maxLen; omega))
            go_region_held3 (fun w' => w'.cell? ⟨h, 0, none⟩ = some (.int .i64 (f : Int)) ∧ w'.cell? ⟨h, 1, none⟩ = some (.int .i64 (t : Int)) ∧ w'.cell? ⟨h, 2, none⟩ = some (.slice via ins.length vic)) (first | exact ⟨b0, b1, b2⟩ | exact ⟨a0, a1, a2⟩ | go_keep)
              (first
                | (go_at_call 25; refine (tjoined_any (HA.out.drewN 1) (HIn.out.drewN 1) (HC.out.drewN 1) hsum).mono ?_; rintro e w4 ⟨u, rfl, hB4, hJ4⟩; have b0 := cell_later hB4 (show (w3.drewN 1).cell? _ = _ from a0); have b1 := cell_later hB4 (show (w3.drewN 1).cell? _ = _ from a1); have b2 := cell_later hB4 (show (w3.drewN 1).cell? _ = _ from a2); have HB4 := Lib.hid hB4; have HJ4 := Lib.hid hJ4; clear hB4 hJ4)
                | fail)
        case' neg =>
          obtain ⟨b, off, rfl, hb, _⟩ : ∃ b off, la = some ⟨b, off, none⟩ ∧ b < w.heap.size ∧ True := by
            obtain ⟨_, _, hv, _, _, hc⟩ := runes_cells HS.out
            cases hv
            obtain ⟨b, off, h1, h2, _⟩ := hc (by omega)
            exact ⟨b, off, h1, h2, trivial⟩
          obtain ⟨ad, had⟩ : ∃ ad, (if lc = t then some (⟨b, off, none⟩ : Addr) else some ⟨b, off + t, none⟩) = ad := ⟨_, rfl⟩
          have HC := Lib.hid (show RunesIn w3 (.slice ad (l.length - t) (lc - t)) (l.drop t) by
            rw [← had]
            by_cases ht : lc = t
            · rw [if_pos ht, List.drop_eq_nil_of_le (by omega)]
              exact runes_empty (cap := lc - t) (by rw [show l.length - t = 0 by omega]) (by unfold maxLen; omega)
            · rw [if_neg ht]
              exact runes_drop (HS.out.below HB3.out) htl (Nat.lt_of_lt_of_le hb HB3.out.size))
          go_region_held3 (fun w' => w'.cell? ⟨h, 0, none⟩ = some (.int .i64 (f : Int)) ∧ w'.cell? ⟨h, 1, none⟩ = some (.int .i64 (t : Int)) ∧ w'.cell? ⟨h, 2, none⟩ = some (.slice via ins.length vic)) (first | exact ⟨b0, b1, b2⟩ | exact ⟨a0, a1, a2⟩ | go_keep)
            (first
              | (go_at_call 25; refine (tjoined_any (HA.out.drewN 1) (HIn.out.drewN 1) (HC.out.drewN 1) hsum).mono ?_; rintro e w4 ⟨u, rfl, hB4, hJ4⟩; have b0 := cell_later hB4 (show (w3.drewN 1).cell? _ = _ from a0); have b1 := cell_later hB4 (show (w3.drewN 1).cell? _ = _ from a1); have b2 := cell_later hB4 (show (w3.drewN 1).cell? _ = _ from a2); have HB4 := Lib.hid hB4; have HJ4 := Lib.hid hJ4; clear hB4 hJ4)
              | fail)
        all_goals
          obtain ⟨m, hm⟩ : ∃ m, m = l.take f ++ ins ++ l.drop t := ⟨_, rfl⟩
          rw [← hm] at HJ4
          have hml : m.length ≤ 1000000 := by rw [hm, List.length_append, List.length_append]; omega
          have HM := Lib.hid hm
          have HOkm := Lib.hid (show RunesOk m by
            rw [hm]
            intro x hx
            rcases List.mem_append.1 hx with hx | hx
            · rcases List.mem_append.1 hx with hx | hx
              · exact (HOk.out.take f) x hx
              · exact HOki.out x hx
            · exact (HOk.out.drop t) x hx)
          have hB34 : Below w3.heap.size w3 w4 := (below_dN (Below.refl _ w3) 1).trans (HB4.out.mono (Nat.le_refl _))
          have HT4 := Lib.hid (HT3.out.below hB34)
          have HR4 := Lib.hid (HR3.out.below hB34)
          have HBm := Lib.hid (below_trans' HB3.out hB34)
          obtain ⟨ua, uc, rfl, _, _, _⟩ := runes_cells HJ4.out
          have e8 := IntWalk.i64_in ((f : Int) + (ins.length : Int)) (by omega)
          obtain ⟨k0, hk0⟩ : ∃ k0 : Nat, (f : Int) + (ins.length : Int) = (k0 : Int) := ⟨f + ins.length, by omega⟩
          have HK0 := Lib.hid hk0
          have hk0l : k0 ≤ 200 := by omega
          have hrg := heap_alloc_new w4 (.cells #[.int .i64 (f : Int), .int .i64 (t : Int), .int .i64 (k0 : Int)] 51)
          have hbg := below1 w4 (.cells #[.int .i64 (f : Int), .int .i64 (t : Int), .int .i64 (k0 : Int)] 51)
          have HBg := Lib.hid hbg
          clear hB34 HB4 HT3 HR3 HA HC HIn hsum k1 k2 k3 k4 k5 k6 k7 a0 a1 a2 hm hbg HRw3 HB3 hlt3
          go_upto_region 9 with fail
          generalize w4.alloc (.cells #[.int .i64 (f : Int), .int .i64 (t : Int), .int .i64 (k0 : Int)] 51) = w5 at hrg HBg ⊢
          obtain ⟨g, hg⟩ : ∃ g, w4.heap.size = g := ⟨_, rfl⟩
          have HGe := Lib.hid hg
          rw [hg] at hrg ⊢
          clear hg
          clear b0 b1 b2 e8 hk0
          have ab : bits .and .i64 bf 15 = bf % 16 := and15 bf
          have ah : bits .and .i64 bh 15 = bh % 16 := and15 bh
          have hp0 : 0 ≤ bf % 16 ∧ bf % 16 < 16 := by omega
          have hq0 : 0 ≤ bh % 16 ∧ bh % 16 < 16 := by omega
          obtain ⟨p, hp⟩ : ∃ p : Nat, bf % 16 = (p : Int) := ⟨(bf % 16).toNat, by omega⟩
          obtain ⟨q, hq⟩ : ∃ q : Nat, bh % 16 = (q : Int) := ⟨(bh % 16).toNat, by omega⟩
          rw [hp] at ab hp0
          rw [hq] at ah hq0
          clear hp hq
          have y0 := row_cells (i := 0) hrg rfl
          have y1 := row_cells (i := 1) hrg rfl
          have y2 := row_cells (i := 2) hrg rfl
          have z0 := row_warm hrg 0
          have z1 := row_warm hrg 1
          have z2 := row_warm hrg 2
          have HRg := Lib.hid hrg
          obtain ⟨nl, hnl⟩ : ∃ nl : Nat, (l.length : Int) - (t : Int) = (nl : Int) := ⟨l.length - t, by omega⟩
          have HNl := Lib.hid hnl
          have i1 := IntWalk.i64_in ((l.length : Int) - (t : Int)) (by omega)
          have hnlb : t + nl = l.length := by omega
          clear hrg
          by_cases hpf : (p : Int) > (f : Int)
          case' neg =>
            have g0 : decide ((p : Int) > (f : Int)) = false := decide_eq_false hpf
            obtain ⟨nb, hnb⟩ : ∃ nb : Nat, nb = p := ⟨p, rfl⟩
            have hbf : nb ≤ f := by omega
            subst hnb
            clear hpf
            go_upto_region 13 with fail
            clear g0
          case' pos =>
            obtain ⟨nb, hnb⟩ : ∃ nb : Nat, (f : Int) = (nb : Int) := ⟨f, rfl⟩
            have hbf : nb ≤ f := by omega
            go_upto_region 12 with fail
            rw [hnb] at y0
            have HNb := Lib.hid hnb
            clear hnb hpf
            go_upto_region 13 with fail
            rw [← HNb.out] at y0
          all_goals
            by_cases hqf : (q : Int) > (nl : Int)
            case' neg =>
              have g0 : decide ((q : Int) > (nl : Int)) = false := decide_eq_false hqf
              obtain ⟨ne, hne⟩ : ∃ ne : Nat, ne = q := ⟨q, rfl⟩
              have hef : ne ≤ nl := by omega
              subst hne
              clear hqf
              go_upto_region 15 with fail
              clear g0
            case' pos =>
              obtain ⟨ne, hne⟩ : ∃ ne : Nat, ne = nl := ⟨nl, rfl⟩
              have hef : ne ≤ nl := by omega
              subst hne
              go_upto_region 15 with fail
              clear hqf
          all_goals
            obtain ⟨f1, hf1⟩ : ∃ f1 : Nat, (f : Int) - (nb : Int) = (f1 : Int) := ⟨f - nb, by omega⟩
            obtain ⟨t1, ht1⟩ : ∃ t1 : Nat, (t : Int) + (ne : Int) = (t1 : Int) := ⟨t + ne, by omega⟩
            obtain ⟨k1, hk1⟩ : ∃ k1 : Nat, (k0 : Int) + (ne : Int) = (k1 : Int) := ⟨k0 + ne, by omega⟩
            have j1 := IntWalk.i64_in ((f : Int) - (nb : Int)) (by omega)
            have j2 := IntWalk.i64_in ((t : Int) + (ne : Int)) (by omega)
            have j3 := IntWalk.i64_in ((k0 : Int) + (ne : Int)) (by omega)
            go_upto_region 18 with fail
            have hr6 := heap_setCell_same _ _ 2 _ _ (.int .i64 (k1 : Int)) (heap_setCell_same _ _ 1 _ _ (.int .i64 (t1 : Int)) (heap_setCell_same _ _ 0 _ _ (.int .i64 (f1 : Int)) HRg.out))
            have hB6 := ((HBg.out.setCell (p := ⟨g, 0, none⟩) (by show w4.heap.size ≤ g; rw [HGe.out]; exact Nat.le_refl _) (.int .i64 (f1 : Int))).setCell (p := ⟨g, 1, none⟩) (by show w4.heap.size ≤ g; rw [HGe.out]; exact Nat.le_refl _) (.int .i64 (t1 : Int))).setCell (p := ⟨g, 2, none⟩) (by show w4.heap.size ≤ g; rw [HGe.out]; exact Nat.le_refl _) (.int .i64 (k1 : Int))
            generalize ((w5.setCell ⟨g, 0, none⟩ (.int .i64 (f1 : Int))).setCell ⟨g, 1, none⟩ (.int .i64 (t1 : Int))).setCell ⟨g, 2, none⟩ (.int .i64 (k1 : Int)) = w6 at hr6 hB6 ⊢
            have x0 := row_cells (i := 0) (v := .int .i64 (f1 : Int)) hr6 rfl
            have x1 := row_cells (i := 1) (v := .int .i64 (t1 : Int)) hr6 rfl
            have x2 := row_cells (i := 2) (v := .int .i64 (k1 : Int)) hr6 rfl
            have HT6 := Lib.hid (HT4.out.below hB6)
            have HR6 := Lib.hid (HR4.out.below hB6)
            have HJ6 := Lib.hid (HJ4.out.below hB6)
            have HB6 := Lib.hid (below_trans' HBm.out hB6)
            have HS6 := Lib.hid (HS.out.below HB6.out)
            have HWin := Lib.hid (show Win l m f1 t1 k1 by
              have hw := Win.put (b := nb) (e := ne) HM.out hft htl hbf (by have := hnlb; omega)
              have e1 : f - nb = f1 := by omega
              have e2 : t + ne = t1 := by omega
              have e3 : f + ins.length + ne = k1 := by have := HK0.out; omega
              rw [e1, e2, e3] at hw
              exact hw)
            clear hr6 hB6 j1 j2 j3 hf1 ht1 hk1 HBg HRg HT4 HR4 HJ4 HBm y0 y1 y2 z0 z1 z2 i1 hnl ab ah hp0 hq0
            go_region_held3 (fun w' => w'.cell? ⟨g, 0, none⟩ = some (.int .i64 (f1 : Int)) ∧ w'.cell? ⟨g, 1, none⟩ = some (.int .i64 (t1 : Int)) ∧ w'.cell? ⟨g, 2, none⟩ = some (.int .i64 (k1 : Int))) (first | exact ⟨xd0, xd1, xd2⟩ | exact ⟨xc0, xc1, xc2⟩ | exact ⟨xb0, xb1, xb2⟩ | exact ⟨xa0, xa1, xa2⟩ | exact ⟨x0, x1, x2⟩ | go_keep)
              (first
                | (go_at_call 20; refine (iof_any HTk.out (HT6.out.below (below_dN (.refl _ _) 1)) (HS6.out.drewN 1) HOk.out (by omega)).mono ?_; rintro e w8 ⟨u8, rfl, hB8, hX8⟩; have xa0 := cell_later hB8 (show (w6.drewN 1).cell? _ = _ from x0); have xa1 := cell_later hB8 (show (w6.drewN 1).cell? _ = _ from x1); have xa2 := cell_later hB8 (show (w6.drewN 1).cell? _ = _ from x2); have hB8' := (below_dN (Below.refl _ w6) 1).trans (hB8.mono (Nat.le_refl _)); have HB8 := Lib.hid (below_trans' HB6.out hB8'); have HR8 := Lib.hid (HR6.out.below hB8'); have HT8 := Lib.hid (HT6.out.below hB8'); have HJ8 := Lib.hid (HJ6.out.below hB8'); have HCh := Lib.hid (change_any HTk.out hX8 HT8.out HJ8.out HOkm.out hml (by omega) (starts_len _ _) (starts_len _ _) HWin.out); clear hB8 hX8 hB8')
                | (go_at_call 26; refine HCh.out.mono ?_; rintro e w9 ⟨u9, rfl, hB9, hX9⟩; have xb0 := cell_later hB9 xa0; have xb1 := cell_later hB9 xa1; have xb2 := cell_later hB9 xa2; have HB9 := Lib.hid (below_trans' HB8.out hB9); have HR9 := Lib.hid (HR8.out.below hB9); have HJ9 := Lib.hid (HJ8.out.below hB9); have HX9 := Lib.hid hX9; clear hB9 hX9)
                | (go_at_call 22; refine (isame_any HX9.out HR9.out HJ9.out HOkm.out hml).mono ?_; rintro e w10 ⟨rfl, hB10⟩; have xc0 := cell_later hB10 xb0; have xc1 := cell_later hB10 xb1; have xc2 := cell_later hB10 xb2; have HB10 := Lib.hid (below_trans' HB9.out hB10); clear hB10)
                | (go_at_call 24; refine (awake15_any w10).mono ?_; rintro e w11 ⟨rfl, hB11⟩; have xd0 := cell_later hB11 xc0; have xd1 := cell_later hB11 xc1; have xd2 := cell_later hB11 xc2; have HB11 := Lib.hid (below_trans' HB10.out hB11); clear hB11)
                | fail)
        all_goals go_wp2_with fail
        all_goals go_ret
        all_goals exact ⟨rfl, HB11.out⟩
end Go.Proofs.Ytblajooebmjfoaa
