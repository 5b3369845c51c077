/- The document's Go walked. -/
import Derived.Test.YtokenlecnbploaaColL
namespace Go.Proofs.Ytokenlecnbploaa
open Go.RowKit

def lineL (rows p way i : Nat) : List Int := ((List.range i).filter (inLine rows p way)).map fun (x : Nat) => (x : Int)
theorem ownsRow_drewN {w : World} {base e size n : Nat} {v : Value} {xs : List Value} (h : w.ownsRow base e size v n xs) : ∀ q : Nat, (w.drewN q).ownsRow base e size v n xs := fun _ => h
theorem lineL_len (rows p way i : Nat) : (lineL rows p way i).length = cnt (inLine rows p way) i := by simp [lineL, cnt]
theorem lineL_snoc (rows p way i : Nat) : lineL rows p way (i + 1) = if inLine rows p way i then lineL rows p way i ++ [(i : Int)] else lineL rows p way i := by
  unfold lineL; rw [List.range_succ, List.filter_append]; by_cases h : inLine rows p way i <;> simp [h]

set_option maxRecDepth 100000 in
set_option maxHeartbeats 2000000 in
theorem refGo_any (rows n p way : Nat) (w : World) (hr : 0 < rows) (hr2 : rows ≤ 9223372036854775807) (hn : n ≤ 65536) (hp : p < n) (hw : way < 4) :
    Calls Try.prog 35 #[.int .i64 rows, .int .i64 n, .int .i64 p, .int .i64 way] w fun e w' => e = .returned (.tuple #[.int .i64 (goN rows n p way : Nat), .bool true]) ∧ Below w.heap.size w w' := by
  obtain ⟨G1, G2, G3⟩ := goN_list hr hp way hw
  have hcn : cnt (inLine rows p way) n ≤ n := by unfold cnt; exact Nat.le_trans (List.length_filter_le _ _) (by simp)
  have H3 := Lib.hid G3
  clear G3
  have q1 : decide ((rows : Int) < 1) = false := decide_eq_false (by omega)
  have q2 : decide ((n : Int) < 1) = false := decide_eq_false (by omega)
  have q3 : decide ((65536 : Int) < n) = false := decide_eq_false (by omega)
  have q4 : decide ((p : Int) < 0) = false := decide_eq_false (by omega)
  have q5 : decide (n ≤ p) = false := decide_eq_false (by omega)
  have q6 : decide ((way : Int) < 0) = false := decide_eq_false (by omega)
  have q7 : decide ((3 : Int) < way) = false := decide_eq_false (by omega)
  go_enter Try.func35, Try.ntmps35
  go_wp2
  go_loopw [10, 11, 12] (fun vl hv iv wr => ∃ i : Nat, i ≤ n ∧ iv = .int .i64 i ∧ Below w.heap.size w wr ∧ hv = .int .i64 ((if p < i then cnt (inLine rows p way) p else 0 : Nat) : Int) ∧
      wr.ownsRow w.heap.size 3 1 vl (cnt (inLine rows p way) i) (ints (lineL rows p way i))) (fun _ _ iv _ => n - (intOf iv).toNat)
  case atStart => exact ⟨0, Nat.zero_le _, rfl, Below.refl _ _, by simp, World.ownsRow_nil _ _ _ _⟩
  case round =>
    obtain ⟨i, hi, rfl, hB, rfl, ho⟩ := hrel
    have hBs := hB.size
    have hci : cnt (inLine rows p way) i ≤ i := by unfold cnt; exact Nat.le_trans (List.length_filter_le _ _) (by simp)
    have hc1 := Lib.hid (cnt_succ (inLine rows p way) i)
    have hl1 := Lib.hid (lineL_snoc rows p way i)
    have hPi : inLine rows p way i = if way < 2 then i % rows == p % rows else i / rows == p / rows := rfl
    obtain ⟨HH, hHH⟩ : ∃ HH : Nat, HH = if p < i then cnt (inLine rows p way) p else 0 := ⟨_, rfl⟩
    rw [← hHH]
    have HE := Lib.hid hHH
    clear hHH
    obtain ⟨sl, sc, rfl⟩ := slice_of_owns ho
    by_cases hlt : i < n
    · obtain ⟨a, ha⟩ : ∃ a, a = i % rows := ⟨_, rfl⟩
      obtain ⟨b, hb⟩ : ∃ b, b = p % rows := ⟨_, rfl⟩
      obtain ⟨c, hc⟩ : ∃ c, c = i / rows := ⟨_, rfl⟩
      obtain ⟨d, hd⟩ : ∃ d, d = p / rows := ⟨_, rfl⟩
      rw [← ha, ← hb, ← hc, ← hd] at hPi
      have ta : (i : Int).tmod (rows : Int) = (a : Int) := by rw [ha]; rfl
      have tb : (p : Int).tmod (rows : Int) = (b : Int) := by rw [hb]; rfl
      have tc : (i : Int).tdiv (rows : Int) = (c : Int) := by rw [hc]; rfl
      have td : (p : Int).tdiv (rows : Int) = (d : Int) := by rw [hd]; rfl
      have ta' : (i : Int) % (rows : Int) = (a : Int) := by rw [ha]; rfl
      have tb' : (p : Int) % (rows : Int) = (b : Int) := by rw [hb]; rfl
      have tc' : (i : Int) / (rows : Int) = (c : Int) := by rw [hc]; rfl
      have td' : (p : Int) / (rows : Int) = (d : Int) := by rw [hd]; rfl
      have lc : c ≤ i := by rw [hc]; exact Nat.div_le_self _ _
      have ld : d ≤ p := by rw [hd]; exact Nat.div_le_self _ _
      have wc := IntWalk.i64_in (c : Int) (by omega)
      have wd := IntWalk.i64_in (d : Int) (by omega)
      clear ha hb hc hd
      by_cases hP : inLine rows p way i = true
      · rw [hP] at hPi
        have hcs := Lib.hid (hc1.out.trans (by rw [hP]))
        have hls := Lib.hid (hl1.out.trans (if_pos hP))
        clear hP hc1 hl1
        replace ho := ownsRow_drewN ho
        by_cases hw2 : way < 2
        · have hab : ((a : Int) == (b : Int)) = true := by rw [if_pos hw2] at hPi; rw [beq_iff_eq]; have := beq_iff_eq.1 hPi.symm; omega
          have hwi : (way : Int) < 2 := by omega
          have hwd : decide ((way : Int) < 2) = true := by simpa using hwi
          clear hPi
          by_cases hip : i = p
          · subst hip
            go_wp2
            go_quiet (fail)
            replace hB := below_drewN hB nq
            have hoq := ho nq
            go_wp2_with (at_builtin; refine wpList_app1 _ rfl (.tmp 74) _ _ rfl Ei _ _ _ rfl hoq _ _ [.int .i64 i] rfl (by decide) rfl (one_int _) (by omega) hB.size ?_; intro g1 cap1 w1 ho1 hg1 hf1; have hB1 := below_app hB hB.size hoq (Nat.le_refl _) hg1)
            go_roundw
            case rel =>
              refine ⟨i + 1, by omega, by go_num, hB1, ?_, ?_⟩
              · rw [if_pos (by omega)]
              · rw [hcs.out, hls.out, ← ints_snoc]; exact ho1
            case measure => simp [intOf]; omega
          · have hne : ((i : Int) == (p : Int)) = false := by simp; omega
            go_wp2
            go_quiet (fail)
            replace hB := below_drewN hB nq
            have hoq := ho nq
            go_wp2_with (at_builtin; refine wpList_app1 _ rfl (.tmp 74) _ _ rfl Ei _ _ _ rfl hoq _ _ [.int .i64 i] rfl (by decide) rfl (one_int _) (by omega) hB.size ?_; intro g1 cap1 w1 ho1 hg1 hf1; have hB1 := below_app hB hB.size hoq (Nat.le_refl _) hg1)
            go_roundw
            case rel =>
              refine ⟨i + 1, by omega, by go_num, hB1, ?_, ?_⟩
              · rw [HE.out]; by_cases h : p < i
                · rw [if_pos h, if_pos (by omega)]
                · rw [if_neg h, if_neg (by omega)]
              · rw [hcs.out, hls.out, ← ints_snoc]; exact ho1
            case measure => simp [intOf]; omega
        · have hcd : ((c : Int) == (d : Int)) = true := by rw [if_neg hw2] at hPi; rw [beq_iff_eq]; have := beq_iff_eq.1 hPi.symm; omega
          have hwi : ¬ (way : Int) < 2 := by omega
          have hwd : decide ((way : Int) < 2) = false := by simpa using hwi
          have hwg : (1 : Int) < (way : Int) := by omega
          have hwe : decide ((1 : Int) < (way : Int)) = true := by simpa using hwg
          clear hPi
          by_cases hip : i = p
          · subst hip
            go_wp2
            go_quiet (fail)
            replace hB := below_drewN hB nq
            have hoq := ho nq
            go_wp2_with (at_builtin; refine wpList_app1 _ rfl (.tmp 74) _ _ rfl Ei _ _ _ rfl hoq _ _ [.int .i64 i] rfl (by decide) rfl (one_int _) (by omega) hB.size ?_; intro g1 cap1 w1 ho1 hg1 hf1; have hB1 := below_app hB hB.size hoq (Nat.le_refl _) hg1)
            go_roundw
            case rel =>
              refine ⟨i + 1, by omega, by go_num, hB1, ?_, ?_⟩
              · rw [if_pos (by omega)]
              · rw [hcs.out, hls.out, ← ints_snoc]; exact ho1
            case measure => simp [intOf]; omega
          · have hne : ((i : Int) == (p : Int)) = false := by simp; omega
            go_wp2
            go_quiet (fail)
            replace hB := below_drewN hB nq
            have hoq := ho nq
            go_wp2_with (at_builtin; refine wpList_app1 _ rfl (.tmp 74) _ _ rfl Ei _ _ _ rfl hoq _ _ [.int .i64 i] rfl (by decide) rfl (one_int _) (by omega) hB.size ?_; intro g1 cap1 w1 ho1 hg1 hf1; have hB1 := below_app hB hB.size hoq (Nat.le_refl _) hg1)
            go_roundw
            case rel =>
              refine ⟨i + 1, by omega, by go_num, hB1, ?_, ?_⟩
              · rw [HE.out]; by_cases h : p < i
                · rw [if_pos h, if_pos (by omega)]
                · rw [if_neg h, if_neg (by omega)]
              · rw [hcs.out, hls.out, ← ints_snoc]; exact ho1
            case measure => simp [intOf]; omega
      · have hPf : inLine rows p way i = false := by cases h : inLine rows p way i <;> simp_all
        rw [hPf] at hPi
        have hcs := Lib.hid (hc1.out.trans (by rw [hPf]))
        have hls := Lib.hid (hl1.out.trans (if_neg hP))
        have hip : i ≠ p := by
          rintro rfl
          unfold inLine at hPf
          split at hPf <;> simp at hPf
        clear hP hPf hc1 hl1
        by_cases hw2 : way < 2
        · have hab : ((a : Int) == (b : Int)) = false := by rw [if_pos hw2] at hPi; simp; have := beq_eq_false_iff_ne.1 hPi.symm; omega
          have hwi : (way : Int) < 2 := by omega
          have hwd : decide ((way : Int) < 2) = true := by simpa using hwi
          have hwg : ¬ (1 : Int) < (way : Int) := by omega
          have hwe : decide ((1 : Int) < (way : Int)) = false := by simpa using hwg
          clear hPi
          go_wp2
          go_quiet (fail)
          go_wp2
          go_roundw
          case rel =>
            refine ⟨i + 1, by omega, by go_num, below_drewN hB _, ?_, ?_⟩
            · rw [HE.out]; by_cases h : p < i
              · rw [if_pos h, if_pos (by omega)]
              · rw [if_neg h, if_neg (by omega)]
            · rw [hcs.out, hls.out]; exact ho
          case measure => simp [intOf]; omega
        · have hcd : ((c : Int) == (d : Int)) = false := by rw [if_neg hw2] at hPi; simp; have := beq_eq_false_iff_ne.1 hPi.symm; omega
          have hwi : ¬ (way : Int) < 2 := by omega
          have hwd : decide ((way : Int) < 2) = false := by simpa using hwi
          have hwg : (1 : Int) < (way : Int) := by omega
          have hwe : decide ((1 : Int) < (way : Int)) = true := by simpa using hwg
          clear hPi
          go_wp2
          go_quiet (fail)
          go_wp2
          go_roundw
          case rel =>
            refine ⟨i + 1, by omega, by go_num, below_drewN hB _, ?_, ?_⟩
            · rw [HE.out]; by_cases h : p < i
              · rw [if_pos h, if_pos (by omega)]
              · rw [if_neg h, if_neg (by omega)]
            · rw [hcs.out, hls.out]; exact ho
          case measure => simp [intOf]; omega
    · have hin : i = n := by omega
      subst hin
      have hHH : HH = cnt (inLine rows p way) p := by rw [HE.out, if_pos hp]
      subst hHH
      obtain ⟨gb, cap1, hv, hgb⟩ := ownBlock_of_owns ho G1
      rw [hv] at ho
      injection hv with hv1 hv2 hv3
      subst hv1
      subst hv3
      have hcell : ∀ j z, (lineL rows p way i)[j]? = some z → wr.cell? ⟨gb, j, none⟩ = some (.int .i64 z) := fun j z hz => by
        have hj := (List.getElem?_eq_some_iff.1 hz).1
        rw [lineL_len] at hj
        exact (ho.cellAt j (by omega)).trans (ints_get hz)
      have hgo : ∀ j, ((List.range i).filter (inLine rows p way))[j]? = some (goN rows i p way) → (lineL rows p way i)[j]? = some ((goN rows i p way : Nat) : Int) := fun j h => by
        unfold lineL; rw [List.getElem?_map, h]; rfl
      have HC := Lib.hid hcell
      have HGo := Lib.hid hgo
      clear hcell hgo ho hc1 hl1 hPi hci
      rcases (show way = 0 ∨ way = 1 ∨ way = 2 ∨ way = 3 by omega) with rfl | rfl | rfl | rfl
      · have hz := HC.out _ _ (HGo.out _ H3.out)
        rw [if_pos (by omega)] at hz
        generalize cnt (inLine rows p 0) p = A at *
        generalize cnt (inLine rows p 0) i = N at *
        have hx1 : 0 ≤ ((A : Int) + N - 1) % (N : Int) := Int.emod_nonneg _ (by omega)
        have hx2 : ((A : Int) + N - 1) % (N : Int) < N := Int.emod_lt_of_pos _ (by omega)
        go_wp2
        go_ret2
        exact ⟨rfl, hB⟩
      · have hz := HC.out _ _ (HGo.out _ H3.out)
        rw [if_neg (by omega)] at hz
        generalize cnt (inLine rows p 1) p = A at *
        generalize cnt (inLine rows p 1) i = N at *
        have hx1 : 0 ≤ ((A : Int) + 1) % (N : Int) := Int.emod_nonneg _ (by omega)
        have hx2 : ((A : Int) + 1) % (N : Int) < N := Int.emod_lt_of_pos _ (by omega)
        go_wp2
        go_ret2
        exact ⟨rfl, hB⟩
      · have hz := HC.out _ _ (HGo.out _ H3.out)
        rw [if_pos (by omega)] at hz
        generalize cnt (inLine rows p 2) p = A at *
        generalize cnt (inLine rows p 2) i = N at *
        have hx1 : 0 ≤ ((A : Int) + N - 1) % (N : Int) := Int.emod_nonneg _ (by omega)
        have hx2 : ((A : Int) + N - 1) % (N : Int) < N := Int.emod_lt_of_pos _ (by omega)
        go_wp2
        go_ret2
        exact ⟨rfl, hB⟩
      · have hz := HC.out _ _ (HGo.out _ H3.out)
        rw [if_neg (by omega)] at hz
        generalize cnt (inLine rows p 3) p = A at *
        generalize cnt (inLine rows p 3) i = N at *
        have hx1 : 0 ≤ ((A : Int) + 1) % (N : Int) := Int.emod_nonneg _ (by omega)
        have hx2 : ((A : Int) + 1) % (N : Int) < N := Int.emod_lt_of_pos _ (by omega)
        go_wp2
        go_ret2
        exact ⟨rfl, hB⟩

set_option maxRecDepth 100000 in
set_option maxHeartbeats 1000000 in
theorem refGo_bad (rows n p way : Int) (w : World) (hb : rows < 1 ∨ n < 1 ∨ 65536 < n ∨ p < 0 ∨ n ≤ p ∨ way < 0 ∨ 3 < way) :
    Calls Try.prog 35 #[.int .i64 rows, .int .i64 n, .int .i64 p, .int .i64 way] w fun e w' => e = .returned (.tuple #[.int .i64 0, .bool false]) ∧ Below w.heap.size w w' := by
  have hb' : rows < 1 ∨ (1 ≤ rows ∧ n < 1) ∨ (1 ≤ rows ∧ 1 ≤ n ∧ 65536 < n) ∨ (1 ≤ rows ∧ 1 ≤ n ∧ n ≤ 65536 ∧ p < 0) ∨ (1 ≤ rows ∧ 1 ≤ n ∧ n ≤ 65536 ∧ 0 ≤ p ∧ n ≤ p) ∨ (1 ≤ rows ∧ 1 ≤ n ∧ n ≤ 65536 ∧ 0 ≤ p ∧ p < n ∧ way < 0) ∨ (1 ≤ rows ∧ 1 ≤ n ∧ n ≤ 65536 ∧ 0 ≤ p ∧ p < n ∧ 0 ≤ way ∧ 3 < way) := by omega
  clear hb
  rcases hb' with h1 | ⟨h1, h2⟩ | ⟨h1, h2, h3⟩ | ⟨h1, h2, h3, h4⟩ | ⟨h1, h2, h3, h4, h5⟩ | ⟨h1, h2, h3, h4, h5, h6⟩ | ⟨h1, h2, h3, h4, h5, h6, h7⟩
  all_goals
    go_enter Try.func35, Try.ntmps35
    go_wp2
    go_ret2
    exact ⟨rfl, Below.refl _ _⟩
end Go.Proofs.Ytokenlecnbploaa
