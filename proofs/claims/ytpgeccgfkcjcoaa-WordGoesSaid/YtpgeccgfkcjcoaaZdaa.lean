/- Joined texts: BackF BackQ BackG. -/
import Derived.Test.YtpgeccgfkcjcoaaZcaa
/- BackFloors: its walk. -/
namespace Go.Proofs.Ytpgeccgfkcjcoaa
open Go.RowKit

/-- is a place a boundary? -/
def isI (T : Tab) (s : List Int) (a : Int) : Bool := decide (0 ≤ a) && (decide (a ≤ (s.length : Int)) && isB T s a.toNat)
section
variable {R : List Rw} {s : List Int} {w : World} {v sv : Value} {tp : Nat}
set_option maxRecDepth 100000 in
set_option maxHeartbeats 4000000 in
theorem bis_any (a : Int) (H : (tabOf R).Ok) (hT : Tb R w tp) (hs : RunesIn w sv s) (ok : RunesOk s) (hl : s.length ≤ 1000000) :
    Calls Try.prog 25 #[.pointer (some ⟨tp, 0, none⟩), sv, .int .i64 a] w fun e w' => e = .returned (.bool (isI (tabOf R) s a)) ∧ Below w.heap.size w w' := by
  have HFl := Lib.hid (floor_any a H hT hs ok hl)
  obtain ⟨sl, cap, rfl, hcap, hmax, _⟩ := runes_cells hs
  unfold maxLen at hmax
  by_cases h0 : 0 ≤ a
  · by_cases h1 : a ≤ (s.length : Int)
    · have HV := Lib.hid (show isI (tabOf R) s a = ((floorI (tabOf R) s a : Int) == a) by
        unfold isI
        rw [decide_eq_true h0, decide_eq_true h1, Bool.true_and, Bool.true_and]
        obtain ⟨i, rfl⟩ : ∃ i : Nat, a = (i : Int) := ⟨a.toNat, by omega⟩
        show isB (tabOf R) s i = _
        rw [Bool.eq_iff_iff, beq_iff_eq]
        by_cases hz : i = 0
        · subst hz
          rw [floorI_nonpos (by omega)]
          refine ⟨fun _ => rfl, fun _ => ?_⟩
          cases s with
          | nil => rfl
          | cons x l => rw [isB_lt (by simp)]; exact begAt_zero _ (by simp)
        · by_cases hb : i = s.length
          · subst hb
            rw [floorI_big (by omega) (Int.le_refl _)]
            exact ⟨fun _ => rfl, fun _ => isB_len _ _⟩
          · rw [floorI_mid (by omega) (by omega)]
            constructor
            · intro hbi
              rw [floorB_eq (Nat.le_refl _) (.inr hbi) (fun j h1 h2 => by omega)]
            · intro he
              have he' : floorB (tabOf R) s i = i := by omega
              rcases floorB_is (tabOf R) s i with h | h
              · omega
              · rwa [he'] at h)
      have q0 : a ≥ 0 := h0
      clear hs ok hT H
      go_enter Try.func25, Try.ntmps25
      go_wp2_with fail
      refine HFl.out.mono ?_
      rintro e w1 ⟨rfl, hB1⟩
      have HB1 := Lib.hid hB1
      clear hB1
      go_wp2_with fail
      go_ret
      exact ⟨ret_b (by rw [HV.out]), HB1.out⟩
    · have HV := Lib.hid (show isI (tabOf R) s a = false by unfold isI; rw [decide_eq_false h1]; simp)
      have q0 : a ≥ 0 := h0
      have q1 : decide (a ≤ (s.length : Int)) = false := decide_eq_false h1
      clear hs ok hT H h1
      go_enter Try.func25, Try.ntmps25
      go_wp2_with fail
      go_ret
      exact ⟨ret_b (by rw [HV.out]), .refl _ _⟩
  · have HV := Lib.hid (show isI (tabOf R) s a = false by unfold isI; rw [decide_eq_false h0]; rfl)
    have q0 : decide (a ≥ 0) = false := by rw [decide_eq_false_iff_not]; omega
    clear hs ok hT H h0
    go_enter Try.func25, Try.ntmps25
    go_wp2_with fail
    go_ret
    exact ⟨ret_b (by rw [HV.out]), .refl _ _⟩
set_option maxRecDepth 100000 in
set_option maxHeartbeats 4000000 in
theorem isI_any (a : Int) (hR : RowsIn w v R) (hs : RunesIn w sv s) (ok : RunesOk s) (hl : s.length ≤ 1000000) :
    Calls Try.prog 26 #[v, sv, .int .i64 a] w fun e w' => e = .returned (.bool (isI (tabOf R) s a)) ∧ Below w.heap.size w w' := by
  by_cases h0 : 0 ≤ a
  · by_cases h1 : a ≤ (s.length : Int)
    · obtain ⟨i, rfl⟩ : ∃ i : Nat, a = (i : Int) := ⟨a.toNat, by omega⟩
      have := is_any i hR hs ok (by omega) hl
      unfold isI
      rw [decide_eq_true h0, decide_eq_true h1, Bool.true_and, Bool.true_and]
      exact this
    · have HV := Lib.hid (show isI (tabOf R) s a = false by unfold isI; rw [decide_eq_false h1]; simp)
      have q0 : decide (a < 0) = false := by rw [decide_eq_false_iff_not]; omega
      have q1 : a > (s.length : Int) := by omega
      obtain ⟨sl, cap, rfl, hcap, hmax, _⟩ := runes_cells hs
      unfold maxLen at hmax
      clear hs ok h1
      go_enter Try.func26, Try.ntmps26
      go_wp2_with fail
      go_ret
      exact ⟨ret_b (by rw [HV.out]), .refl _ _⟩
  · have HV := Lib.hid (show isI (tabOf R) s a = false by unfold isI; rw [decide_eq_false h0]; rfl)
    have q0 : a < 0 := by omega
    obtain ⟨sl, cap, rfl, hcap, hmax, _⟩ := runes_cells hs
    unfold maxLen at hmax
    clear hs ok h0
    go_enter Try.func26, Try.ntmps26
    go_wp2_with fail
    go_ret
    exact ⟨ret_b (by rw [HV.out]), .refl _ _⟩
end
set_option maxRecDepth 100000 in
set_option maxHeartbeats 8000000 in
theorem backFloors_any (v0 : Value) (l0 : List Int) (a : Int) (w : World) (hl : RunesIn w v0 l0) (hok : RunesOk l0) (_ : -9223372036854775808 ≤ a ∧ a ≤ 9223372036854775807) :
    Calls Try.prog 5 #[v0, .int .i64 a] w fun e w' => e = .returned (.bool true) ∧ Below w.heap.size w w' := by
  obtain ⟨R, HFc, hrows⟩ := apiRows_any
  have HF := Lib.hid HFc
  have HRows := Lib.hid hrows
  have HTk := Lib.hid HFc.seg.tab
  have HFew := Lib.hid (few_any hl 150)
  clear HFc hrows hl
  obtain ⟨l, hll⟩ : ∃ l, l = l0.take 150 := ⟨_, rfl⟩
  rw [← hll] at HFew
  have HOk := Lib.hid (show RunesOk l by rw [hll]; exact hok.take 150)
  have hlen : l.length ≤ 1000000 := by rw [hll, List.length_take]; omega
  clear hll hok
  go_enter Try.func5, Try.ntmps5
  go_wp2_with fail
  refine HFew.out.mono ?_
  rintro e w' ⟨⟨sv, rfl, hS⟩, rfl⟩
  have HS := Lib.hid hS
  clear hS HFew
  go_wp2_with fail
  refine (HRows.out w).mono ?_
  rintro e w1 ⟨v, rfl, hB1, hR1⟩
  have HB1 := Lib.hid hB1
  have HR1 := Lib.hid hR1
  have HS1 := Lib.hid (HS.out.below hB1)
  clear hB1 hR1 HS
  go_wp2_with fail
  refine (build_tb v R w1 HR1.out HF.out.ok).mono ?_
  rintro e w2 ⟨tp, rfl, hB2, hT⟩
  have HT2 := Lib.hid hT
  have HR2 := Lib.hid (HR1.out.below hB2)
  have HS2 := Lib.hid (HS1.out.below hB2)
  have HB2 := Lib.hid (below_trans' HB1.out hB2)
  clear hB2 hT HB1 HR1 HS1
  go_wp2_with fail
  refine (floor_any a HTk.out HT2.out HS2.out HOk.out hlen).mono ?_
  rintro e w3 ⟨rfl, hB3⟩
  have HT3 := Lib.hid (HT2.out.below hB3)
  have HR3 := Lib.hid (HR2.out.below hB3)
  have HS3 := Lib.hid (HS2.out.below hB3)
  have HB3 := Lib.hid (below_trans' HB2.out hB3)
  clear hB3 HT2 HR2 HS2 HB2
  go_wp2_with fail
  refine (lfloor_any a HR3.out HS3.out HOk.out hlen).mono ?_
  rintro e w4 ⟨rfl, hB4⟩
  have HT4 := Lib.hid (HT3.out.below hB4)
  have HR4 := Lib.hid (HR3.out.below hB4)
  have HS4 := Lib.hid (HS3.out.below hB4)
  have HB4 := Lib.hid (below_trans' HB3.out hB4)
  clear hB4 HT3 HR3 HS3 HB3
  go_wp2_with fail
  refine (ceil_any a HTk.out HT4.out HS4.out HOk.out hlen).mono ?_
  rintro e w5 ⟨rfl, hB5⟩
  have HT5 := Lib.hid (HT4.out.below hB5)
  have HR5 := Lib.hid (HR4.out.below hB5)
  have HS5 := Lib.hid (HS4.out.below hB5)
  have HB5 := Lib.hid (below_trans' HB4.out hB5)
  clear hB5 HT4 HR4 HS4 HB4
  go_wp2_with fail
  refine (lceil_any a HR5.out HS5.out HOk.out hlen).mono ?_
  rintro e w6 ⟨rfl, hB6⟩
  have HT6 := Lib.hid (HT5.out.below hB6)
  have HR6 := Lib.hid (HR5.out.below hB6)
  have HS6 := Lib.hid (HS5.out.below hB6)
  have HB6 := Lib.hid (below_trans' HB5.out hB6)
  clear hB6 HT5 HR5 HS5 HB5
  go_wp2_with fail
  refine (bis_any a HTk.out HT6.out HS6.out HOk.out hlen).mono ?_
  rintro e w7 ⟨rfl, hB7⟩
  have HT7 := Lib.hid (HT6.out.below hB7)
  have HR7 := Lib.hid (HR6.out.below hB7)
  have HS7 := Lib.hid (HS6.out.below hB7)
  have HB7 := Lib.hid (below_trans' HB6.out hB7)
  clear hB7 HT6 HR6 HS6 HB6
  go_wp2_with fail
  refine (isI_any a HR7.out HS7.out HOk.out hlen).mono ?_
  rintro e w8 ⟨rfl, hB8⟩
  have HT8 := Lib.hid (HT7.out.below hB8)
  have HR8 := Lib.hid (HR7.out.below hB8)
  have HS8 := Lib.hid (HS7.out.below hB8)
  have HB8 := Lib.hid (below_trans' HB7.out hB8)
  clear hB8 HT7 HR7 HS7 HB7
  go_wp2_with fail
  refine (fin11 HB8.out).mono ?_
  rintro e w9 ⟨rfl, hB9⟩
  go_wp2_with fail
  go_ret
  exact ⟨rfl, hB9⟩
end Go.Proofs.Ytpgeccgfkcjcoaa

/- From beginning to beginning, plainly. -/
namespace Go.Proofs.Ytpgeccgfkcjcoaa

theorem sorted_between {S : List Nat} (hs : S.Pairwise (· < ·)) {i q q' : Nat} (h : S[i]? = some q) (h' : S[i + 1]? = some q') : q < q' ∧ ∀ j ∈ S, ¬ (q < j ∧ j < q') := by
  rw [List.pairwise_iff_getElem] at hs
  obtain ⟨a1, a2⟩ := List.getElem?_eq_some_iff.1 h
  obtain ⟨b1, b2⟩ := List.getElem?_eq_some_iff.1 h'
  refine ⟨by have := hs i (i + 1) a1 b1 (by omega); omega, fun j hj hq => ?_⟩
  obtain ⟨k, hk⟩ := List.mem_iff_getElem?.1 hj
  obtain ⟨c1, c2⟩ := List.getElem?_eq_some_iff.1 hk
  rcases Nat.lt_trichotomy k i with h | h | h
  · have := hs k i c1 a1 h; omega
  · subst h; omega
  · rcases Nat.lt_trichotomy k (i + 1) with h2 | h2 | h2
    · omega
    · subst h2; omega
    · have := hs (i + 1) k b1 c1 h2; omega
theorem sorted_last {S : List Nat} (hs : S.Pairwise (· < ·)) {i q : Nat} (h : S[i]? = some q) (hl : i + 1 = S.length) : ∀ j ∈ S, j ≤ q := by
  rw [List.pairwise_iff_getElem] at hs
  obtain ⟨a1, a2⟩ := List.getElem?_eq_some_iff.1 h
  intro j hj
  obtain ⟨k, hk⟩ := List.mem_iff_getElem?.1 hj
  obtain ⟨c1, c2⟩ := List.getElem?_eq_some_iff.1 hk
  rcases Nat.lt_trichotomy k i with h | h | h
  · have := hs k i c1 a1 h; omega
  · subst h; omega
  · omega
section
variable {T : Tab} {s : List Int} {i q q' : Nat}
theorem begF {T : Tab} {s : List Int} {j : Nat} (h : j ∉ starts T s) : begAt T s j = false := by
  cases hb : begAt T s j with
  | false => rfl
  | true => exact absurd ((starts_mem T s j).2 hb) h
theorem next_start (h : (starts T s)[i]? = some q) (h' : (starts T s)[i + 1]? = some q') : nextI T s (q : Int) = q' := by
  obtain ⟨hlt, hno⟩ := sorted_between (starts_sorted T s) h h'
  have hb' := (starts_mem T s q').1 (List.mem_of_getElem? h')
  have hl' := begAt_lt hb'
  unfold nextI
  rw [if_neg (by omega), show max (q : Int) (-1) + 1 = ((q + 1 : Nat) : Int) by omega, ceilI_mid (by omega) (by omega)]
  exact ceilB_eq (by omega) (by omega) (fun j h1 h2 => begF fun hm => hno j hm ⟨by omega, h2⟩) (by omega) (.inr hb')
theorem next_last (h : (starts T s)[i]? = some q) (hl : i + 1 = (starts T s).length) : nextI T s (q : Int) = s.length := by
  have hmax := sorted_last (starts_sorted T s) h hl
  have hq := begAt_lt ((starts_mem T s q).1 (List.mem_of_getElem? h))
  unfold nextI
  rw [if_neg (by omega), show max (q : Int) (-1) + 1 = ((q + 1 : Nat) : Int) by omega]
  by_cases he : q + 1 = s.length
  · rw [ceilI_big (by omega) (by omega)]
  · rw [ceilI_mid (by omega) (by omega)]
    exact ceilB_eq (by omega) (by omega) (fun j h1 h2 => begF fun hm => by have := hmax j hm; omega) (Nat.le_refl _) (.inl rfl)
theorem prev_start (h : (starts T s)[i]? = some q) (h' : (starts T s)[i + 1]? = some q') : prevI T s (q' : Int) = q := by
  obtain ⟨hlt, hno⟩ := sorted_between (starts_sorted T s) h h'
  have hb := (starts_mem T s q).1 (List.mem_of_getElem? h)
  have hl' := begAt_lt ((starts_mem T s q').1 (List.mem_of_getElem? h'))
  unfold prevI
  rw [show max (min (q' : Int) ((s.length : Int) + 1)) 0 - 1 = ((q' - 1 : Nat) : Int) by omega]
  by_cases h0 : q' - 1 = 0
  · rw [floorI_nonpos (by omega)]; omega
  · rw [floorI_mid (by omega) (by omega)]
    exact floorB_eq (by omega) (.inr (by rw [isB_lt (by omega)]; exact hb)) fun j h1 h2 => by
      rw [isB_lt (by omega)]; exact begF fun hm => hno j hm ⟨h1, by omega⟩
theorem prev_last (h : (starts T s)[i]? = some q) (hl : i + 1 = (starts T s).length) : prevI T s (s.length : Int) = q := by
  have hmax := sorted_last (starts_sorted T s) h hl
  have hb := (starts_mem T s q).1 (List.mem_of_getElem? h)
  have hq := begAt_lt hb
  unfold prevI
  rw [show max (min (s.length : Int) ((s.length : Int) + 1)) 0 - 1 = ((s.length - 1 : Nat) : Int) by omega]
  by_cases h0 : s.length - 1 = 0
  · rw [floorI_nonpos (by omega)]; omega
  · rw [floorI_mid (by omega) (by omega)]
    exact floorB_eq (by omega) (.inr (by rw [isB_lt (by omega)]; exact hb)) fun j h1 h2 => by
      rw [isB_lt (by omega)]; exact begF fun hm => by have := hmax j hm; omega
theorem start_zero (h : (starts T s)[0]? = some q) : q = 0 := by
  cases s with
  | nil => simp [starts, startsB] at h
  | cons x l => simp [starts, startsB, begB] at h; exact h.symm
theorem starts_nil_iff : starts T s = [] ↔ s = [] := by
  cases s with
  | nil => simp [starts, startsB]
  | cons x l => simp [starts, startsB, begB]
end
end Go.Proofs.Ytpgeccgfkcjcoaa

/- BackWalks: its walk. -/
namespace Go.Proofs.Ytpgeccgfkcjcoaa
open Go.RowKit

set_option maxRecDepth 100000 in
set_option maxHeartbeats 8000000 in
theorem backWalks_any (v0 : Value) (l0 : List Int) (w : World) (hl : RunesIn w v0 l0) (hok : RunesOk l0) :
    Calls Try.prog 3 #[v0] w fun e w' => e = .returned (.bool true) ∧ Below w.heap.size w w' := by
  obtain ⟨R, HFc, hrows⟩ := apiRows_any
  have HF := Lib.hid HFc
  have HRows := Lib.hid hrows
  have HTk := Lib.hid HFc.seg.tab
  have HFew := Lib.hid (few_any hl 120)
  clear HFc hrows hl
  obtain ⟨l, hll⟩ : ∃ l, l = l0.take 120 := ⟨_, rfl⟩
  rw [← hll] at HFew
  have HOk := Lib.hid (show RunesOk l by rw [hll]; exact hok.take 120)
  have hlen : l.length ≤ 1000000 := by rw [hll, List.length_take]; omega
  clear hll hok
  go_enter Try.func3, Try.ntmps3
  go_wp2_with fail
  refine HFew.out.mono ?_
  rintro e w' ⟨⟨sv, rfl, hS⟩, rfl⟩
  have HS := Lib.hid hS
  clear hS HFew
  go_wp2_with fail
  refine (HRows.out w).mono ?_
  rintro e w1 ⟨v, rfl, hB1, hR1⟩
  have HB1 := Lib.hid hB1
  have HR1 := Lib.hid hR1
  have HS1 := Lib.hid (HS.out.below hB1)
  clear hB1 hR1 HS
  go_wp2_with fail
  refine (build_tb v R w1 HR1.out HF.out.ok).mono ?_
  rintro e w2 ⟨tp, rfl, hB2, hT⟩
  have HT2 := Lib.hid hT
  have HR2 := Lib.hid (HR1.out.below hB2)
  have HS2 := Lib.hid (HS1.out.below hB2)
  have HB2 := Lib.hid (below_trans' HB1.out hB2)
  clear hB2 hT HB1 HR1 HS1
  go_wp2_with fail
  refine (rstarts_any HR2.out HS2.out HOk.out hlen).mono ?_
  rintro e w3 ⟨u, rfl, hB3, hI⟩
  have HT3 := Lib.hid (HT2.out.below hB3)
  have HS3 := Lib.hid (HS2.out.below hB3)
  have HB3 := Lib.hid (below_trans' HB2.out hB3)
  clear hB3 HT2 HR2 HS2 HB2
  have HNS := Lib.hid (fun i q q' => @next_start (tabOf R) l i q q')
  have HNL := Lib.hid (fun i q => @next_last (tabOf R) l i q)
  have HPS := Lib.hid (fun i q q' => @prev_start (tabOf R) l i q q')
  have HPL := Lib.hid (fun i q => @prev_last (tabOf R) l i q)
  have HZ := Lib.hid (fun q => @start_zero (tabOf R) l q)
  have HNil := Lib.hid (@starts_nil_iff (tabOf R) l)
  have HLe := Lib.hid (fun q (hq : q ∈ starts (tabOf R) l) => begAt_lt ((starts_mem (tabOf R) l q).1 hq))
  generalize starts (tabOf R) l = S at hI HNS HNL HPS HPL HZ HNil HLe
  have HI3 := Lib.hid hI
  obtain ⟨a1, c1, rfl, j1, j2, _⟩ := ints_cells hI
  unfold maxLen at j2
  obtain ⟨sl, cap, rfl, hcap, hmax, _⟩ := runes_cells HS3.out
  unfold maxLen at hmax
  clear hI
  by_cases hS0 : S = []
  · have := HNil.out.1 hS0
    subst this
    subst hS0
    have HN0 := Lib.hid (show nextI (tabOf R) [] 0 = 0 from rfl)
    have HP0 := Lib.hid (show prevI (tabOf R) [] 0 = 0 from rfl)
    go_wp2_with fail
    go_loopw [6, 7] (fun av iv wr => av = .int .i64 0 ∧ iv = .int .i64 1 ∧ Below w3.heap.size w3 wr) (fun _ _ _ => 0)
    case atStart => exact ⟨rfl, rfl, .refl _ _⟩
    case round =>
      obtain ⟨rfl, rfl, hB⟩ := hrel
      have HTr := Lib.hid (HT3.out.below hB)
      have HSr := Lib.hid (HS3.out.below hB)
      have HB := Lib.hid (below_trans' HB3.out hB)
      clear hB
      go_wp2_with fail
      refine (bnext_any 0 HTk.out HTr.out HSr.out HOk.out hlen (by decide)).mono ?_
      rintro e w4 ⟨rfl, hB4⟩
      rw [HN0.out]
      have HT4 := Lib.hid (HTr.out.below hB4)
      have HS4 := Lib.hid (HSr.out.below hB4)
      have HB4 := Lib.hid (below_trans' HB.out hB4)
      clear hB4 HTr HSr HB
      go_wp2_with fail
      go_loopw [6, 8] (fun av iv wr => av = .int .i64 0 ∧ iv = .int .i64 (-1) ∧ Below w4.heap.size w4 wr) (fun _ _ _ => 0)
      case atStart => exact ⟨rfl, rfl, .refl _ _⟩
      case round =>
        obtain ⟨rfl, rfl, hB⟩ := hrel
        have HTr := Lib.hid (HT4.out.below hB)
        have HSr := Lib.hid (HS4.out.below hB)
        have HB := Lib.hid (below_trans' HB4.out hB)
        clear hB
        go_wp2_with fail
        refine (prev_any 0 HTk.out HTr.out HSr.out HOk.out hlen (by decide)).mono ?_
        rintro e w5 ⟨rfl, hB5⟩
        rw [HP0.out]
        have HB5 := Lib.hid (below_trans' HB.out hB5)
        clear hB5
        go_wp2_with fail
        refine (fin11 HB5.out).mono ?_
        rintro e w9 ⟨rfl, hB9⟩
        go_wp2_with fail
        go_ret
        exact ⟨rfl, hB9⟩
  · have hpos : 0 < S.length := List.length_pos_iff.2 hS0
    obtain ⟨q0, hq0⟩ : ∃ q, S[0]? = some q := ⟨S[0], List.getElem?_eq_getElem hpos⟩
    have hz := HZ.out q0 hq0
    subst hz
    have HQ0 := Lib.hid hq0
    clear hq0 hS0
    have s0 := IntWalk.i64_in ((S.length : Int) - 1) (by omega)
    go_wp2_with fail
    go_loopw [6, 7] (fun av iv wr => ∃ i q : Nat, i + 1 ≤ S.length ∧ iv = .int .i64 ((i : Int) + 1) ∧ av = .int .i64 ((q : Nat) : Int) ∧ S[i]? = some q ∧ Below w3.heap.size w3 wr) (fun _ iv _ => S.length - (intOf iv).toNat)
    case atStart => exact ⟨0, 0, hpos, rfl, rfl, HQ0.out, .refl _ _⟩
    case round =>
      obtain ⟨i, q, hi, rfl, rfl, hq, hB⟩ := hrel
      have HTr := Lib.hid (HT3.out.below hB)
      have HSr := Lib.hid (HS3.out.below hB)
      have HIr := Lib.hid (HI3.out.below hB)
      have HBw := Lib.hid hB
      have HB := Lib.hid (below_trans' HB3.out hB)
      have HQ := Lib.hid hq
      have hql := HLe.out q (List.mem_of_getElem? hq)
      clear hB hq
      by_cases hlt : i + 1 < S.length
      · obtain ⟨q', hq'⟩ : ∃ q, S[i + 1]? = some q := ⟨S[i + 1], List.getElem?_eq_getElem hlt⟩
        have HN := Lib.hid (HNS.out i q q' HQ.out hq')
        have HQ' := Lib.hid hq'
        have hql' := HLe.out q' (List.mem_of_getElem? hq')
        clear hq'
        have r0 : (i : Int) + 1 < (S.length : Int) := by omega
        have r1 : (0 : Int) ≤ (i : Int) + 1 := by omega
        have r2 := IntWalk.i64_in ((i : Int) + 1 + 1) (by omega)
        go_wp2_with fail
        refine (bnext_any q HTk.out HTr.out HSr.out HOk.out hlen (by omega)).mono ?_
        rintro e w4 ⟨rfl, hB4⟩
        rw [HN.out]
        obtain ⟨b, off, cap', hv, _, _, _, _, d0⟩ := int_cell (HIr.out.below hB4) HQ'.out
        cases hv
        have HB4 := Lib.hid (HBw.out.trans (hB4.mono HBw.out.size))
        clear hB4
        go_wp2_with fail
        go_roundw
        case rel => exact ⟨i + 1, q', by omega, by go_num, rfl, HQ'.out, HB4.out⟩
        case measure => simp [intOf] <;> omega
      · have hil : i + 1 = S.length := by omega
        have HN := Lib.hid (HNL.out i q HQ.out hil)
        have HPl := Lib.hid (HPL.out i q HQ.out hil)
        have r0 : decide ((i : Int) + 1 < (S.length : Int)) = false := by rw [decide_eq_false_iff_not]; omega
        go_wp2_with fail
        refine (bnext_any q HTk.out HTr.out HSr.out HOk.out hlen (by omega)).mono ?_
        rintro e w4 ⟨rfl, hB4⟩
        rw [HN.out]
        have HT4 := Lib.hid (HTr.out.below hB4)
        have HS4 := Lib.hid (HSr.out.below hB4)
        have HI4 := Lib.hid (HIr.out.below hB4)
        have HB4 := Lib.hid (below_trans' HB.out hB4)
        clear hB4 HTr HSr HIr HB HBw r0
        go_wp2_with fail
        go_loopw [6, 8] (fun av iv wr => ∃ (j p : Nat) (m : Int), j ≤ S.length ∧ iv = .int .i64 m ∧ m = (j : Int) - 1 ∧ av = .int .i64 ((p : Nat) : Int) ∧ p ≤ l.length ∧ ((j = S.length ∧ p = l.length) ∨ S[j]? = some p) ∧ Below w4.heap.size w4 wr) (fun _ iv _ => (intOf iv + 1).toNat)
        case atStart => exact ⟨S.length, l.length, _, Nat.le_refl _, rfl, rfl, rfl, Nat.le_refl _, .inl ⟨rfl, rfl⟩, .refl _ _⟩
        case round =>
          obtain ⟨j, p, m, hj, rfl, hm, rfl, hpl, hp, hB⟩ := hrel
          have HTr := Lib.hid (HT4.out.below hB)
          have HSr := Lib.hid (HS4.out.below hB)
          have HIr := Lib.hid (HI4.out.below hB)
          have HBw := Lib.hid hB
          have HB := Lib.hid (below_trans' HB4.out hB)
          have HP := Lib.hid hp
          clear hB hp
          rcases j with _ | j
          · have hm' : m = -1 := by omega
            subst hm'
            have hp0 : p = 0 := by
              rcases HP.out with ⟨h1, _⟩ | h1
              · omega
              · exact HZ.out p h1
            subst hp0
            have HP0 := Lib.hid (show prevI (tabOf R) l 0 = 0 by unfold prevI; exact floorI_nonpos (by omega))
            clear hm
            go_wp2_with fail
            refine (prev_any 0 HTk.out HTr.out HSr.out HOk.out hlen (by decide)).mono ?_
            rintro e w5 ⟨rfl, hB5⟩
            rw [HP0.out]
            have HB5 := Lib.hid (below_trans' HB.out hB5)
            clear hB5
            go_wp2_with fail
            refine (fin11 HB5.out).mono ?_
            rintro e w9 ⟨rfl, hB9⟩
            go_wp2_with fail
            go_ret
            exact ⟨rfl, hB9⟩
          · have hm' : m = (j : Int) := by omega
            subst hm'
            clear hm
            obtain ⟨q', hq'⟩ : ∃ q, S[j]? = some q := ⟨S[j], List.getElem?_eq_getElem (by omega)⟩
            have HN := Lib.hid (show prevI (tabOf R) l (p : Int) = q' by
              rcases HP.out with ⟨h1, h2⟩ | h1
              · rw [h2]; exact HPL.out j q' hq' h1
              · exact HPS.out j q' p hq' h1)
            have HQ' := Lib.hid hq'
            have hql' := HLe.out q' (List.mem_of_getElem? hq')
            clear hq'
            have r0 : (j : Int) ≥ 0 := by omega
            have r1 : (0 : Int) ≤ (j : Int) := by omega
            have r2 := IntWalk.i64_in ((j : Int) - 1) (by omega)
            have r3 : (j : Int) < (S.length : Int) := by omega
            go_wp2_with fail
            refine (prev_any p HTk.out HTr.out HSr.out HOk.out hlen (by omega)).mono ?_
            rintro e w5 ⟨rfl, hB5⟩
            rw [HN.out]
            obtain ⟨b, off, cap', hv, _, _, _, _, d0⟩ := int_cell (HIr.out.below hB5) HQ'.out
            cases hv
            have HB5 := Lib.hid (HBw.out.trans (hB5.mono HBw.out.size))
            clear hB5
            go_wp2_with fail
            go_roundw
            case rel => exact ⟨j, q', _, by omega, rfl, rfl, rfl, by omega, .inr HQ'.out, HB5.out⟩
            case measure => simp [intOf] <;> omega
end Go.Proofs.Ytpgeccgfkcjcoaa
