/- Joined texts: TokL OpenT. -/
import Derived.Test.YthlpelfogplomaaZfad
import Derived.Test.YthlpelfogplomaaZfaa
import Derived.Test.YthlpelfogplomaaZfag
import Derived.Test.YthlpelfogplomaaZcaa
import Derived.Test.YthlpelfogplomaaZaaa
import Derived.Test.YthlpelfogplomaaZaaw
/- WordQuotes: its walk. -/
namespace Go.Proofs.Ythlpelfogplomaa
open Go.RowKit

/-- the texts that are joined: eight at the most, of fifteen scalars at the most -/
def fewQ (LL : List (List Int)) : List (List Int) := (LL.take 8).map (·.take 15)
/-- what the first texts are joined to -/
def allQ (tab : Bool) (LL : List (List Int)) (k : Nat) : List Int := (((fewQ LL).take k).zipIdx).flatMap fun p => segQ tab (true && p.2 == 0) p.1
theorem fewQ_len (LL : List (List Int)) : (fewQ LL).length = min 8 LL.length := by unfold fewQ; rw [List.length_map, List.length_take]
theorem fewQ_get {LL : List (List Int)} {k : Nat} {l : List Int} (h : LL[k]? = some l) (h8 : k < 8) : (fewQ LL)[k]? = some (l.take 15) := by
  unfold fewQ
  rw [List.getElem?_map, List.getElem?_take_of_lt h8, h]
  rfl
theorem allQ_succ {tab : Bool} {LL : List (List Int)} {k : Nat} {l : List Int} (h : LL[k]? = some l) (h8 : k < 8) : allQ tab LL (k + 1) = allQ tab LL k ++ segQ tab (k == 0) (l.take 15) := by
  have hk := (List.getElem?_eq_some_iff.1 h).1
  unfold allQ
  rw [List.take_add_one, fewQ_get h h8, Option.toList_some, List.zipIdx_append, List.flatMap_append, List.length_take, fewQ_len, show 0 + min k (min 8 LL.length) = k by omega]
  simp
theorem segQ_len (tab f : Bool) (l : List Int) (h : l.length ≤ 15) : (segQ tab f l).length ≤ 64 := by
  have hq : (quoteF l).length ≤ 62 := by
    unfold quoteF
    split
    · omega
    · have hf : ∀ s : List Int, (s.flatMap qOf).length ≤ 4 * s.length := fun s => by
        induction s with
        | nil => simp
        | cons r s ih =>
          rw [List.flatMap_cons, List.length_append, List.length_cons]
          have : (qOf r).length ≤ 4 := by unfold qOf; split <;> simp
          omega
      have := hf l
      simp only [List.length_append, List.length_cons, List.length_nil]
      omega
  unfold segQ
  split <;> simp <;> omega
/-- the joined texts are split as they were -/
theorem split_all (tab : Bool) (LL : List (List Int)) : ∃ toks : List Tk, splS (allQ tab LL 8).length [] (allQ tab LL 8) = .ok toks ∧ toks.map (fun k => k.2.2) = fewQ LL := by
  have he : (fewQ LL).take 8 = fewQ LL := List.take_of_length_le (by rw [fewQ_len]; omega)
  obtain ⟨toks, h1, h2⟩ := spl_quoted (allQ tab LL 8).length tab (fewQ LL) true []
  refine ⟨toks, ?_, h2⟩
  have e : allQ tab LL 8 = ((fewQ LL).zipIdx.flatMap fun p => segQ tab (true && p.2 == 0) p.1) := by unfold allQ; rw [he]
  rw [← e, List.nil_append] at h1
  exact h1
theorem allQ_all (tab : Bool) (LL : List (List Int)) {k : Nat} (h : k = min 8 LL.length) : allQ tab LL k = allQ tab LL 8 := by
  unfold allQ
  rw [List.take_of_length_le (by rw [fewQ_len]; omega), List.take_of_length_le (i := 8) (by rw [fewQ_len]; omega)]
theorem same_true {w : World} {u v : Value} {l : List Int} (hl : RunesIn w u l) (hm : RunesIn w v l) : Calls Try.prog 19 #[u, v] w fun e w' => e = .returned (.bool true) ∧ Below w.heap.size w w' := by
  have h := same_runes hl hm
  rwa [decide_eq_true rfl] at h
set_option maxRecDepth 100000 in
set_option maxHeartbeats 8000000 in
theorem wordQuotes_any (v0 : Value) (LL : List (List Int)) (tab : Bool) (w : World) (hl : TextsIn w v0 LL) :
    Calls Try.prog 5 #[v0, .bool tab] w fun e w' => e = .returned (.bool true) ∧ Below w.heap.size w w' := by
  have HL0 := Lib.hid hl
  obtain ⟨sa, scap, rfl, hc1, hc2⟩ := texts_shape hl
  unfold maxLen at hc2
  clear hl
  go_enter Try.func5, Try.ntmps5
  go_wp2_with fail
  go_loopw [5, 6, 7] (fun av nv iv wr => ∃ (k : Nat), k ≤ LL.length ∧ k ≤ 8 ∧ nv = .int .i64 (k : Int) ∧ iv = .int .i64 (k : Int) ∧ Below w.heap.size w wr ∧ wr.ownsRow w.heap.size 21 1 av (allQ tab LL k).length ((allQ tab LL k).flatMap runeE) ∧ (allQ tab LL k).length ≤ 64 * k) (fun _ _ iv _ => LL.length - (intOf iv).toNat)
  case atStart => exact ⟨0, Nat.zero_le _, Nat.zero_le _, rfl, rfl, .refl _ _, World.ownsRow_nil _ _ _ _, Nat.le_refl _⟩
  case round =>
    obtain ⟨k, hk, hk8, rfl, rfl, hB, hO, hlen⟩ := hrel
    have HB := Lib.hid hB
    have HO := Lib.hid hO
    have hbs := hB.size
    have HLr := Lib.hid (HL0.out.below hB)
    obtain ⟨pa, pc, rfl⟩ := slice_of_owns hO
    by_cases hlt : k < LL.length ∧ k < 8
    · obtain ⟨l, hlk⟩ : ∃ l, LL[k]? = some l := ⟨LL[k]'hlt.1, List.getElem?_eq_getElem hlt.1⟩
      obtain ⟨tb, toff, cp, lu, hv, _, _, _, _, d0, hlu⟩ := texts_cell HLr.out hlk
      cases hv
      have HLu := Lib.hid hlu
      have HLk := Lib.hid hlk
      have hl8 := hlt.2
      have s0 : (k : Int) < (LL.length : Int) := by omega
      have s1 : (0 : Int) ≤ (k : Int) := by omega
      have s2 : (k : Int) < 8 := by omega
      have e1 := IntWalk.i64_in ((k : Int) + 1) (by omega)
      have hsucc := allQ_succ (tab := tab) hlk hl8
      have hsl := segQ_len tab (k == 0) (l.take 15) (by rw [List.length_take]; omega)
      generalize allQ tab LL k = o at hO HO hlen hsucc ⊢
      have HSu := Lib.hid hsucc
      have HSl := Lib.hid hsl
      have hbig1 : (o.length + 1) * 4 ≤ 140737488355328 := by omega
      clear hB hO hlk hlu hsucc hsl
      by_cases hk0 : 0 < k
      · have g0 : (k : Int) > 0 := by omega
        cases tab
        · have hb9 : (o.length + 1) * 4 ≤ 140737488355328 := by omega
          have HSq := Lib.hid (show allQ false LL (k + 1) = o ++ [32] ++ quoteF (l.take 15) by rw [HSu.out]; unfold segQ; rw [if_neg (by rw [Bool.and_false]; decide)]; simp)
          have hin : o.length + 1 + (quoteF (l.take 15)).length ≤ 64 * (k + 1) := by
            have h1 := HSl.out
            have h2 := congrArg List.length HSu.out
            rw [HSq.out] at h2
            simp only [List.length_append, List.length_cons, List.length_nil] at h2
            omega
          go_upto_region 10 with (at_builtin; go_loud (refine wpList_app1 (base := w.heap.size) _ rfl (.tmp 32) (.tmp 33) _ rfl ER _ _ _ rfl HO.out 1 1 (runeE 32) rfl (by decide) rfl (by intro u hu; simp [runeE] at hu; subst hu; rfl) hb9 hbs ?_); intro g9 cp9 w9 ho9 hg9 hf9; have HB9 := Lib.hid (below_app HB.out hbs HO.out (Nat.le_refl _) hg9); have hk9 := Kept.of_grown (P := fun j => w.heap.size ≤ j) hg9 (fun b e => (HO.out.lt b e).1); have HO9 := Lib.hid ho9; have HLb9 := Lib.hid (HL0.out.below HB9.out); clear ho9 hg9 hf9)
          obtain ⟨_, _, _, lu9, hv, _, _, _, _, d9, hlu9⟩ := texts_cell HLb9.out HLk.out
          cases hv
          have hbs9 := HB9.out.size
          have HFew := Lib.hid (few_any hlu9 15)
          go_wp2_with fail
          refine HFew.out.mono ?_
          rintro e w3 ⟨⟨fu, rfl, hfu⟩, rfl⟩
          go_wp2_with fail
          refine (wquote_any hfu (by rw [List.length_take]; omega)).mono ?_
          rintro e w4 ⟨qu, rfl, hB4, hQ4⟩
          have HB4 := Lib.hid (HB9.out.trans (hB4.mono hbs9))
          have HO4 := Lib.hid (show w4.ownsRow w.heap.size 21 1 (.slice (some ⟨g9, 0, none⟩) (o.length + 1) cp9) (o ++ [32]).length ((o ++ [32]).flatMap runeE) by rw [List.length_append, flat_snoc]; exact owns_stays HO9.out hB4)
          have HQ4 := Lib.hid hQ4
          have hbs4 := HB4.out.size
          have hb4 : ((o ++ [32]).length + (quoteF (l.take 15)).length) * 4 ≤ 140737488355328 := by rw [List.length_append]; simp; omega
          clear hB4 hQ4 hfu HFew HO9 HB9 d9
          go_wp2_with (at_builtin; go_loud (refine wpList_app_rd (base := w.heap.size) _ rfl (.tmp 35) (.tmp 41) _ rfl ER _ _ _ rfl HO4.out _ _ _ rfl HQ4.out (runeE_one _) hb4 hbs4 ?_); intro v5 w5 ho5 hg5; have HB5 := Lib.hid (below_app HB4.out hbs4 HO4.out (Nat.le_refl _) hg5); have HO5 := Lib.hid ho5; clear ho5 hg5)
          go_roundw
          case rel => exact ⟨k + 1, by omega, by omega, by go_num, by go_num, HB5.out, by rw [HSq.out, List.length_append, List.flatMap_append]; exact HO5.out, by rw [HSq.out]; simp only [List.length_append, List.length_cons, List.length_nil]; omega⟩
          case measure => simp [intOf] <;> omega
        · go_upto_region 9 with (at_builtin; go_loud (refine wpList_app1 (base := w.heap.size) _ rfl (.tmp 29) (.tmp 30) _ rfl ER _ _ _ rfl HO.out 1 1 (runeE 9) rfl (by decide) rfl (by intro u hu; simp [runeE] at hu; subst hu; rfl) hbig1 hbs ?_); intro g8 cp8 w8 ho8 hg8 hf8; have HB8 := Lib.hid (below_app HB.out hbs HO.out (Nat.le_refl _) hg8); have HO8' := Lib.hid (show w8.ownsRow w.heap.size 21 1 (.slice (some ⟨g8, 0, none⟩) (o.length + 1) cp8) (o ++ [9]).length ((o ++ [9]).flatMap runeE) by rw [List.length_append, flat_snoc]; exact ho8); clear ho8 hg8 hf8)
          have hbs8 := HB8.out.size
          obtain ⟨o1, ho1⟩ : ∃ o1, o1 = o ++ [9] := ⟨_, rfl⟩
          have HO8 := Lib.hid (show w8.ownsRow w.heap.size 21 1 (.slice (some ⟨g8, 0, none⟩) (o.length + 1) cp8) o1.length (o1.flatMap runeE) by rw [ho1]; exact HO8'.out)
          have HOl1 := Lib.hid (show o1.length = o.length + 1 by rw [ho1, List.length_append]; rfl)
          have HO1 := Lib.hid ho1
          clear ho1 HO8'
          have hb9 : (o1.length + 1) * 4 ≤ 140737488355328 := by have := HOl1.out; omega
          have HSq := Lib.hid (show allQ true LL (k + 1) = o1 ++ [32] ++ quoteF (l.take 15) by rw [HSu.out, HO1.out]; unfold segQ; rw [if_pos (by rw [show (k == 0) = false by simp; omega]; rfl)]; simp)
          have hin : o1.length + 1 + (quoteF (l.take 15)).length ≤ 64 * (k + 1) := by
            have h1 := HSl.out
            have h2 := congrArg List.length HSu.out
            rw [HSq.out] at h2
            simp only [List.length_append, List.length_cons, List.length_nil] at h2
            omega
          go_upto_region 10 with (at_builtin; go_loud (refine wpList_app1 (base := w.heap.size) _ rfl (.tmp 32) (.tmp 33) _ rfl ER _ _ _ rfl HO8.out 1 1 (runeE 32) rfl (by decide) rfl (by intro u hu; simp [runeE] at hu; subst hu; rfl) hb9 hbs8 ?_); intro g9 cp9 w9 ho9 hg9 hf9; have HB9 := Lib.hid (below_app HB8.out hbs8 HO8.out (Nat.le_refl _) hg9); have hk9 := Kept.of_grown (P := fun j => w.heap.size ≤ j) hg9 (fun b e => (HO8.out.lt b e).1); have HO9 := Lib.hid ho9; have HLb9 := Lib.hid (HL0.out.below HB9.out); clear ho9 hg9 hf9)
          obtain ⟨_, _, _, lu9, hv, _, _, _, _, d9, hlu9⟩ := texts_cell HLb9.out HLk.out
          cases hv
          have hbs9 := HB9.out.size
          have HFew := Lib.hid (few_any hlu9 15)
          go_wp2_with fail
          refine HFew.out.mono ?_
          rintro e w3 ⟨⟨fu, rfl, hfu⟩, rfl⟩
          go_wp2_with fail
          refine (wquote_any hfu (by rw [List.length_take]; omega)).mono ?_
          rintro e w4 ⟨qu, rfl, hB4, hQ4⟩
          have HB4 := Lib.hid (HB9.out.trans (hB4.mono hbs9))
          have HO4 := Lib.hid (show w4.ownsRow w.heap.size 21 1 (.slice (some ⟨g9, 0, none⟩) (o1.length + 1) cp9) (o1 ++ [32]).length ((o1 ++ [32]).flatMap runeE) by rw [List.length_append, flat_snoc]; exact owns_stays HO9.out hB4)
          have HQ4 := Lib.hid hQ4
          have hbs4 := HB4.out.size
          have hb4 : ((o1 ++ [32]).length + (quoteF (l.take 15)).length) * 4 ≤ 140737488355328 := by rw [List.length_append]; simp; omega
          clear hB4 hQ4 hfu HFew HO9 HB9 d9
          go_wp2_with (at_builtin; go_loud (refine wpList_app_rd (base := w.heap.size) _ rfl (.tmp 35) (.tmp 41) _ rfl ER _ _ _ rfl HO4.out _ _ _ rfl HQ4.out (runeE_one _) hb4 hbs4 ?_); intro v5 w5 ho5 hg5; have HB5 := Lib.hid (below_app HB4.out hbs4 HO4.out (Nat.le_refl _) hg5); have HO5 := Lib.hid ho5; clear ho5 hg5)
          go_roundw
          case rel => exact ⟨k + 1, by omega, by omega, by go_num, by go_num, HB5.out, by rw [HSq.out, List.length_append, List.flatMap_append]; exact HO5.out, by rw [HSq.out]; simp only [List.length_append, List.length_cons, List.length_nil]; omega⟩
          case measure => simp [intOf] <;> omega
      · have g0 : decide ((k : Int) > 0) = false := decide_eq_false (by omega)
        have hb9 : (o.length + 1) * 4 ≤ 140737488355328 := by omega
        have HSq := Lib.hid (show allQ tab LL (k + 1) = o ++ [32] ++ quoteF (l.take 15) by rw [HSu.out]; unfold segQ; rw [if_neg (by rw [show (k == 0) = true by simp; omega]; cases tab <;> decide)]; simp)
        have hin : o.length + 1 + (quoteF (l.take 15)).length ≤ 64 * (k + 1) := by
          have h1 := HSl.out
          have h2 := congrArg List.length HSu.out
          rw [HSq.out] at h2
          simp only [List.length_append, List.length_cons, List.length_nil] at h2
          omega
        go_upto_region 10 with (at_builtin; go_loud (refine wpList_app1 (base := w.heap.size) _ rfl (.tmp 32) (.tmp 33) _ rfl ER _ _ _ rfl HO.out 1 1 (runeE 32) rfl (by decide) rfl (by intro u hu; simp [runeE] at hu; subst hu; rfl) hb9 hbs ?_); intro g9 cp9 w9 ho9 hg9 hf9; have HB9 := Lib.hid (below_app HB.out hbs HO.out (Nat.le_refl _) hg9); have hk9 := Kept.of_grown (P := fun j => w.heap.size ≤ j) hg9 (fun b e => (HO.out.lt b e).1); have HO9 := Lib.hid ho9; have HLb9 := Lib.hid (HL0.out.below HB9.out); clear ho9 hg9 hf9)
        obtain ⟨_, _, _, lu9, hv, _, _, _, _, d9, hlu9⟩ := texts_cell HLb9.out HLk.out
        cases hv
        have hbs9 := HB9.out.size
        have HFew := Lib.hid (few_any hlu9 15)
        go_wp2_with fail
        refine HFew.out.mono ?_
        rintro e w3 ⟨⟨fu, rfl, hfu⟩, rfl⟩
        go_wp2_with fail
        refine (wquote_any hfu (by rw [List.length_take]; omega)).mono ?_
        rintro e w4 ⟨qu, rfl, hB4, hQ4⟩
        have HB4 := Lib.hid (HB9.out.trans (hB4.mono hbs9))
        have HO4 := Lib.hid (show w4.ownsRow w.heap.size 21 1 (.slice (some ⟨g9, 0, none⟩) (o.length + 1) cp9) (o ++ [32]).length ((o ++ [32]).flatMap runeE) by rw [List.length_append, flat_snoc]; exact owns_stays HO9.out hB4)
        have HQ4 := Lib.hid hQ4
        have hbs4 := HB4.out.size
        have hb4 : ((o ++ [32]).length + (quoteF (l.take 15)).length) * 4 ≤ 140737488355328 := by rw [List.length_append]; simp; omega
        clear hB4 hQ4 hfu HFew HO9 HB9 d9
        go_wp2_with (at_builtin; go_loud (refine wpList_app_rd (base := w.heap.size) _ rfl (.tmp 35) (.tmp 41) _ rfl ER _ _ _ rfl HO4.out _ _ _ rfl HQ4.out (runeE_one _) hb4 hbs4 ?_); intro v5 w5 ho5 hg5; have HB5 := Lib.hid (below_app HB4.out hbs4 HO4.out (Nat.le_refl _) hg5); have HO5 := Lib.hid ho5; clear ho5 hg5)
        go_roundw
        case rel => exact ⟨k + 1, by omega, by omega, by go_num, by go_num, HB5.out, by rw [HSq.out, List.length_append, List.flatMap_append]; exact HO5.out, by rw [HSq.out]; simp only [List.length_append, List.length_cons, List.length_nil]; omega⟩
        case measure => simp [intOf] <;> omega
    · have hke : k = min 8 LL.length := by omega
      rw [allQ_all tab LL hke] at HO
      have hO8 := HO.out
      obtain ⟨toks, hsp, htk⟩ := split_all tab LL
      have hlen8 : (allQ tab LL 8).length ≤ 512 := by rw [← allQ_all tab LL hke]; omega
      have hpl : (allQ tab LL k).length = (allQ tab LL 8).length := by rw [allQ_all tab LL hke]
      rw [hpl]
      generalize allQ tab LL 8 = all at HO hO8 hsp hlen8 ⊢
      have hcond : (¬ (k : Int) < (LL.length : Int)) ∨ ((k : Int) < (LL.length : Int) ∧ ¬ (k : Int) < 8) := by omega
      have hSp := wsplit_any (show RunesIn wr (.slice pa all.length pc) all from rd_of_owns hO8) (by omega)
      have HSp := Lib.hid hSp
      have hlenT : toks.length = k := by have := congrArg List.length htk; rw [List.length_map, fewQ_len] at this; omega
      have HTk := Lib.hid htk
      have HSpl := Lib.hid hsp
      clear hB hO hO8 hSp htk hsp
      rcases hcond with hc | ⟨hc, hd⟩
      all_goals
        go_wp2_with fail
        refine HSp.out.mono ?_
        rintro e w4 ⟨tv, n4, ok4, rfl, hB4, hM4⟩
        rw [HSpl.out] at hM4
        obtain ⟨rfl, rfl, hT4⟩ := hM4
        have HT4 := Lib.hid hT4
        have HB4 := Lib.hid (HB.out.trans (hB4.mono hbs))
        have HL4 := Lib.hid (HL0.out.below HB4.out)
        obtain ⟨xa, xc, rfl⟩ := hT4.shape
        have g2 : ((toks.length : Int) != (k : Int)) = false := by simp; omega
        clear hB4 hT4
        go_wp2_with fail
        go_loopw [11] (fun iv wr => ∃ m : Nat, m ≤ k ∧ iv = .int .i64 ((m : Nat) : Int) ∧ Below w4.heap.size w4 wr) (fun iv _ => k - (intOf iv).toNat)
        case atStart => exact ⟨0, Nat.zero_le _, rfl, .refl _ _⟩
        case round =>
          rename World => wq
          obtain ⟨m, hm, rfl, hB⟩ := hrel
          have HBm := Lib.hid hB
          by_cases hlm : m < k
          · obtain ⟨x, hx⟩ : ∃ x, toks[m]? = some x := ⟨toks[m], List.getElem?_eq_getElem (by omega)⟩
            obtain ⟨l, hlk⟩ : ∃ l, LL[m]? = some l := ⟨LL[m], List.getElem?_eq_getElem (by omega)⟩
            have hx3 : x.2.2 = l.take 15 := by
              have h1 := fewQ_get hlk (show m < 8 by omega)
              rw [← HTk.out, List.getElem?_map, hx] at h1
              simpa using h1
            obtain ⟨b, cap, tv, hv, d0, d1, d2, hp⟩ := (HT4.out.later hB).get hx
            cases hv
            obtain ⟨tb, toff, cp, lu, hv, _, _, _, _, d3, hlu⟩ := texts_cell (HL4.out.below hB) hlk
            cases hv
            have hF := few_any (hlu.drewN 1) 15
            obtain ⟨lt, elt⟩ : ∃ lt, lt = l.take 15 := ⟨_, rfl⟩
            rw [← elt] at hF hx3
            have HFew := Lib.hid hF
            rw [hx3] at hp
            clear hF elt
            have HP := Lib.hid hp
            obtain ⟨ta, tc, rfl, _⟩ := runes_cells hp
            obtain ⟨la, lc, rfl, _⟩ := runes_cells hlu
            have q1 : (0 : Int) ≤ (m : Int) := by omega
            have q2 : (m : Int) < (k : Int) := by omega
            have q3 : (m : Int) < (LL.length : Int) := by omega
            have q4 : (m : Int) < (toks.length : Int) := by omega
            have e1 := IntWalk.i64_in ((m : Int) + 1) (by omega)
            clear hx hp hlu hB d0 d1 hlk hx3
            go_wp2_with fail
            refine wp_region_held_drew (S := fun w' => w'.cell? ⟨b, m * 3 + 2, none⟩ = some (.slice ta lt.length tc) ∧ w'.cell? ⟨tb, toff + m, none⟩ = some (.slice la l.length lc)) (by kernel_rfl) ⟨d2, d3⟩ (fun hHeld => ?_)
            refine hd_take 0 rfl (by kernel_rfl) (by kernel_rfl) (by kernel_rfl) (fun _ _ _ h => h) (by rfl) (by intro w hSw; (try dsimp only at hSw); obtain ⟨o0, o1⟩ := hSw; go_simp; first | done | with_reducible rfl) hHeld ?_
            try simp only [Act.put, List.setIfInBounds_toArray, List.set_cons_zero, List.set_cons_succ]
            refine hd_take 1 rfl (by kernel_rfl) (by kernel_rfl) (by kernel_rfl) (fun _ _ _ h => h) (by rfl) (by intro w hSw; (try dsimp only at hSw); obtain ⟨o0, o1⟩ := hSw; go_simp; first | done | with_reducible rfl) hHeld ?_
            try simp only [Act.put, List.setIfInBounds_toArray, List.set_cons_zero, List.set_cons_succ]
            refine hd_take 2 rfl (by kernel_rfl) (by kernel_rfl) (by kernel_rfl) (fun _ _ _ h => h) (by rfl) (by intro w hSw; (try dsimp only at hSw); obtain ⟨o0, o1⟩ := hSw; go_simp; first | done | with_reducible rfl) hHeld ?_
            try simp only [Act.put, List.setIfInBounds_toArray, List.set_cons_zero, List.set_cons_succ]
            refine hd_take 3 rfl (by kernel_rfl) (by kernel_rfl) (by kernel_rfl) (fun _ _ _ h => h) (by rfl) (by intro w hSw; (try dsimp only at hSw); obtain ⟨o0, o1⟩ := hSw; go_simp; first | done | with_reducible rfl) hHeld ?_
            try simp only [Act.put, List.setIfInBounds_toArray, List.set_cons_zero, List.set_cons_succ]
            refine hd_take 4 rfl (by kernel_rfl) (by kernel_rfl) (by kernel_rfl) (fun _ _ _ h => h) (by rfl) (by intro w hSw; (try dsimp only at hSw); obtain ⟨o0, o1⟩ := hSw; go_simp; first | done | with_reducible rfl) hHeld ?_
            try simp only [Act.put, List.setIfInBounds_toArray, List.set_cons_zero, List.set_cons_succ]
            refine hd_take 5 rfl (by kernel_rfl) (by kernel_rfl) (by kernel_rfl) (fun _ _ _ h => h) (by rfl) (by intro w hSw; (try dsimp only at hSw); obtain ⟨o0, o1⟩ := hSw; go_simp; first | done | with_reducible rfl) hHeld ?_
            try simp only [Act.put, List.setIfInBounds_toArray, List.set_cons_zero, List.set_cons_succ]
            refine hd_take 6 rfl (by kernel_rfl) (by kernel_rfl) (by kernel_rfl) (fun _ _ _ h => h) (by rfl) (by intro w hSw; (try dsimp only at hSw); obtain ⟨o0, o1⟩ := hSw; go_simp; first | done | with_reducible rfl) hHeld ?_
            try simp only [Act.put, List.setIfInBounds_toArray, List.set_cons_zero, List.set_cons_succ]
            refine hd_take 7 rfl (by kernel_rfl) (by kernel_rfl) (by kernel_rfl) (fun _ _ _ h => h) (by rfl) (by intro w hSw; (try dsimp only at hSw); obtain ⟨o0, o1⟩ := hSw; go_simp; first | done | with_reducible rfl) hHeld ?_
            try simp only [Act.put, List.setIfInBounds_toArray, List.set_cons_zero, List.set_cons_succ]
            refine hd_take 8 rfl (by kernel_rfl) (by kernel_rfl) (by kernel_rfl) (fun _ _ _ h => h) (by rfl) (by intro w hSw; (try dsimp only at hSw); obtain ⟨o0, o1⟩ := hSw; go_simp; first | done | with_reducible rfl) hHeld ?_
            try simp only [Act.put, List.setIfInBounds_toArray, List.set_cons_zero, List.set_cons_succ]
            refine hd_step 9 (by kernel_rfl) rfl (fun K hK => ?_)
            go_simp
            go_at_call 10
            refine HFew.out.mono ?_
            rintro e w5 ⟨⟨fu, rfl, hfu⟩, rfl⟩
            have HFu := Lib.hid hfu
            clear hfu
            refine hK.out _ _ ⟨d2, d3⟩ (fun hHeld => ?_)
            clear hK K
            try simp only [Act.put, List.setIfInBounds_toArray, List.set_cons_zero, List.set_cons_succ]
            refine hd_step 10 (by kernel_rfl) rfl (fun K hK => ?_)
            go_simp
            go_at_call 19
            refine (same_true (HP.out.drewN 1) HFu.out).mono ?_
            rintro e w5 ⟨rfl, hB5⟩
            have p2 := cell_later hB5 (show wq.drew.cell? _ = _ from d2)
            have p3 := cell_later hB5 (show wq.drew.cell? _ = _ from d3)
            have HB5 := Lib.hid ((below_dN HBm.out 1).trans (hB5.mono (below_dN HBm.out 1).size))
            clear hB5
            refine hK.out _ _ ⟨p2, p3⟩ (fun hHeld => ?_)
            clear hK K
            try simp only [Act.put, List.setIfInBounds_toArray, List.set_cons_zero, List.set_cons_succ]
            refine hd_take 11 rfl (by kernel_rfl) (by kernel_rfl) (by kernel_rfl) (fun _ _ _ h => h) (by rfl) (by intro w hSw; (try dsimp only at hSw); obtain ⟨o0, o1⟩ := hSw; go_simp; first | done | with_reducible rfl) hHeld ?_
            try simp only [Act.put, List.setIfInBounds_toArray, List.set_cons_zero, List.set_cons_succ]
            refine wpAnyH_done (by kernel_rfl) ?_ _
            clear hHeld p2 p3 d2 d3
            go_wp2_with fail
            go_roundw
            case rel => exact ⟨m + 1, by omega, by go_num, HB5.out⟩
            case measure => simp [intOf] <;> omega
          · have hme : m = k := by omega
            subst hme
            clear hB
            go_wp2_with fail
            refine (fin12 (below_trans' HB4.out HBm.out)).mono ?_
            rintro e w9 ⟨rfl, hB9⟩
            go_wp2_with fail
            go_ret
            exact ⟨rfl, hB9⟩
end Go.Proofs.Ythlpelfogplomaa

/- Opening an argument that is a slice of texts. -/
namespace Go.Proofs.Ythlpelfogplomaa
open Go.RowKit Go.ChangeShapes Go.WideShapes Go.ChangeAt Go.Deep

theorem rs_core {H : Type} {enc0 : TypeId × Value → H} {P : Program} {W : World} {t e : TypeId} {sz : Nat} {α : Type} {enc : α → List Value} {ok : α → Prop} {spare : Nat → Bool} {fuel : Nat} {cs : List Value} {x : DataW H × List MemPlace}
    (ht : P.underlying t = some (.slice e)) (hC : P.cellsOf e = sz) (hsz : ∀ x, (enc x).length = sz) (hpos : 0 < sz) (hR : ∀ (fuel : Nat) (cs : List Value) (x : DataW H × List MemPlace), DataW.trod enc0 P W 0 spare true fuel e cs = some x → ∃ y, cs = enc y ∧ ok y)
    (hf : DataW.trod enc0 P W 0 spare true fuel t cs = some x) :
    ∃ v l, cs = [v] ∧ Rs W.heap.size W enc sz v l ∧ ∀ y ∈ l, ok y := by
  rcases open_slice ht hf with ⟨hcs, hx⟩ | ⟨a, len, cap, m, n, D, Pl, hcs, hb, hl, hm, hmm, hx, hi⟩
  · exact ⟨.slice none 0 0, [], hcs, Rd.nil _ _ _, fun y hy => by simp at hy⟩
  · rw [hC] at hi
    obtain ⟨l, hlen, hq⟩ := list_of_all (fun i (y : α) => (∀ k u, (enc y)[k]? = some u → W.cell? (a.add (i * sz + k)) = some u) ∧ ok y) len (fun i hil => by
      have him : i < m := by rw [hmm]; split <;> omega
      obtain ⟨cs', hc, ht'⟩ := hi i him
      obtain ⟨_, hcl, hat⟩ := World.cells?_some hc
      obtain ⟨y, rfl, hok⟩ := hR _ _ _ ht'
      refine ⟨y, fun k u hu => ?_, hok⟩
      have hk := (List.getElem?_eq_some_iff.1 hu).1
      rw [← Go.Deep.add_add, hat k (by omega), hu])
    subst hlen
    refine ⟨.slice (some a) l.length cap, l, hcs, ⟨some a, cap, rfl, hl, hm, flat_len hsz l, fun hn => ?_⟩, fun y hy => ?_⟩
    · obtain ⟨b, off, spot⟩ := a
      have h0 : l[0]? = some l[0] := List.getElem?_eq_getElem hn
      have hc0 := (hq 0 _ h0).1 0 ((enc l[0])[0]'(by rw [hsz]; exact hpos)) (List.getElem?_eq_getElem _)
      have hspot : spot = none := by simpa [Addr.add] using World.cell?_spot hc0
      subst hspot
      have hb : b < W.heap.size := by
        have := World.block_lt_of_cell? W _ hc0
        simpa [Addr.add] using this
      refine ⟨b, off, rfl, hb, fun j u hu => ?_⟩
      obtain ⟨i, x, hx, k, hk, rfl, hku⟩ := flat_index hsz l j u hu
      have := (hq i x hx).1 k u hku
      unfold Addr.add at this
      split at this
      · rename_i h0; rw [h0]; exact this
      · exact this
    · obtain ⟨i, hi'⟩ := List.mem_iff_getElem?.1 hy
      exact (hq i y hi').2
set_option maxRecDepth 100000 in
/-- a slice of texts that came in -/
theorem texts_of_trod {H : Type} {enc0 : TypeId × Value → H} {W : World} {v : Value} {d : DataW H} {p : List MemPlace} {spare : Nat → Bool} {r : Reach} {b0 : Nat}
    (hv : Value.okWide Try.prog W r b0 33 v) (h : DataW.Trod enc0 Try.prog W 0 spare true 33 v d p) : ∃ LL : List (List Int), TextsIn W v LL ∧ ∀ l ∈ LL, RunesOk l := by
  obtain ⟨a0, len, cap, rfl⟩ := okWide_slice Try.underlying33 hv
  obtain ⟨fuel, hf⟩ := h
  obtain ⟨u, l, hcs, hR, hok⟩ := rs_core (enc := fun y : Value × List Int => [y.1]) (ok := fun y => RunesIn W y.1 y.2 ∧ RunesOk y.2) (sz := 1) Try.underlying33 (by kernel_rfl) (fun _ => rfl) (by decide) (fun fuel cs x hx => by
    obtain ⟨u, l, rfl, h1, h2⟩ := rs_core (enc := fun n : Int => [Value.int .i32 n]) (ok := fun n => (Lit.int .i32 n).wf = true) (sz := 1) Try.underlying22 (by kernel_rfl) (fun _ => rfl) (by decide) (fun fuel cs x hx => reads_int Try.underlying21 _ _ _ _ _ _ _ _ _ hx) hx
    exact ⟨(u, l), rfl, h1, fun x hx => i32_of_wf (h2 x hx)⟩) hf
  have hu : Value.slice a0 len cap = u := by simpa [Value.cells] using hcs
  subst hu
  refine ⟨l.map (·.2), ⟨l.map (·.1), ?_, fun i u k hu hk => ?_⟩, fun k hk => ?_⟩
  · have h1 : l.flatMap (fun y : Value × List Int => [y.1]) = l.map (·.1) := by rw [← List.flatMap_singleton' (l.map (·.1)), List.flatMap_map]
    unfold Rs at hR
    rw [h1] at hR
    rw [List.length_map]
    exact hR
  · rw [List.getElem?_map, Option.map_eq_some_iff] at hu hk
    obtain ⟨y, hy, rfl⟩ := hu
    obtain ⟨z, hz, rfl⟩ := hk
    rw [hy] at hz
    cases hz
    exact (hok y (List.mem_of_getElem? hy)).1
  · obtain ⟨y, hy, rfl⟩ := List.mem_map.1 hk
    exact (hok y hy).2
end Go.Proofs.Ythlpelfogplomaa
