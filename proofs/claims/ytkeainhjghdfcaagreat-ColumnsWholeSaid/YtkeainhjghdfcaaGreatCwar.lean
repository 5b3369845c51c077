/- Joined texts: Truth. -/
import Derived.Test.YtkeainhjghdfcaaGreatCwai
import Derived.Test.YtkeainhjghdfcaaGreatCwan
import Derived.Test.YtkeainhjghdfcaaGreatCwaq
import Derived.Test.YtkeainhjghdfcaaGreatCwab

/- ucd.truths: a trie of the kinds that are but true. -/
namespace Go.Proofs.YtkeainhjghdfcaaGreat
open Go.RowKit

def kd : Nat → Int
  | 0 => 5
  | 1 => 7
  | 2 => 8
  | _ => 3
def flgR (R : List Rw) (r : Int) : Flg := ⟨decide (ofA R 5 r = 1), decide (ofA R 7 r = 1), decide (ofA R 8 r = 1), decide (ofA R 3 r = 1)⟩
theorem oneAt_ofA {S : List Span} {R : List Rw} {kind : Int} (hS : Says S R kind) (r : Int) : oneAt S r = decide (ofA R kind r = 1) := by
  have h := pv_ofA hS r
  rw [pv_pcOf] at h
  unfold oneAt spanAt
  cases hf : S.find? (hasS r) with
  | none => rw [hf] at h; dsimp only at h ⊢; rw [← h]; rfl
  | some x => rw [hf] at h; dsimp only at h ⊢; rw [← h]
/-- the first k kinds' spans -/
structure FourB (R : List Rw) (B tb : Nat) (wr : World) (vs : List Value) (Ss : List (List Span)) : Prop where
  le : vs.length ≤ 4
  len : Ss.length = vs.length
  row : wr.heap[tb]? = some (.cells (vs ++ List.replicate (4 - vs.length) (Value.slice none 0 0)).toArray 185 (0, 0))
  lt : tb < B
  own : ∀ (j : Nat) (v : Value) (S : List Span), vs[j]? = some v → Ss[j]? = some S → SpansOwn wr B v S ∧ Good S ∧ Says S R (kd j)
theorem FourB.below {R : List Rw} {B tb : Nat} {wr wr' : World} {vs : List Value} {Ss : List (List Span)} (h : FourB R B tb wr vs Ss) (hb : Below wr.heap.size wr wr') : FourB R B tb wr' vs Ss :=
  ⟨h.le, h.len, (hb.block _ (row_len h.row)).trans h.row, h.lt, fun j v S h1 h2 => let ⟨a, b, c⟩ := h.own j v S h1 h2; ⟨owns_stays a hb, b, c⟩⟩
theorem FourB.push {R : List Rw} {B tb : Nat} {wr : World} {vs : List Value} {Ss : List (List Span)} (h : FourB R B tb wr vs Ss) {v : Value} {S : List Span} (hk : vs.length < 4) (hv : SpansOwn wr B v S) (hG : Good S) (hS : Says S R (kd vs.length)) :
    FourB R B tb (wr.setCell ⟨tb, vs.length, none⟩ v) (vs ++ [v]) (Ss ++ [S]) := by
  have hlt := h.lt
  refine ⟨by simp; omega, by simp [h.len], ?_, h.lt, ?_⟩
  · rw [heap_setCell_same wr tb vs.length _ _ v h.row]
    congr 2
    refine (Array.toList_inj.1 ?_)
    have e : 4 - vs.length = (4 - (vs ++ [v]).length) + 1 := by simp; omega
    rw [e, List.replicate_succ]
    simp
  · intro j v' S' h1 h2
    by_cases hj : j < vs.length
    · rw [List.getElem?_append_left hj] at h1
      rw [List.getElem?_append_left (by rw [h.len]; exact hj)] at h2
      obtain ⟨a, b, c⟩ := h.own j v' S' h1 h2
      exact ⟨owns_setCell a h.lt _, b, c⟩
    · have hj2 : j = vs.length := by
        have := (List.getElem?_eq_some_iff.1 h1).1
        simp at this
        omega
      subst hj2
      rw [List.getElem?_append_right (Nat.le_refl _), Nat.sub_self] at h1
      rw [List.getElem?_append_right (by rw [h.len]; exact Nat.le_refl _), h.len, Nat.sub_self] at h2
      cases h1
      cases h2
      exact ⟨owns_setCell hv h.lt _, hG, hS⟩
theorem FourB.all {R : List Rw} {B tb : Nat} {wr : World} {vs : List Value} {Ss : List (List Span)} (h : FourB R B tb wr vs Ss) (h4 : vs.length = 4) : ∃ v0 v1 v2 v3 F, wr.heap[tb]? = some (.cells #[v0, v1, v2, v3] 185 (0, 0)) ∧ FourIn wr v0 v1 v2 v3 F ∧ FourGood F ∧
    (Says F.s0 R 5 ∧ Says F.s1 R 7 ∧ Says F.s2 R 8 ∧ Says F.s3 R 3) := by
  obtain ⟨hle, hlen, hrow, hlt, hown⟩ := h
  obtain ⟨v0, v1, v2, v3, rfl⟩ : ∃ v0 v1 v2 v3, vs = [v0, v1, v2, v3] := by
    match vs, h4 with
    | [a, b, c, d], _ => exact ⟨a, b, c, d, rfl⟩
  obtain ⟨S0, S1, S2, S3, rfl⟩ : ∃ S0 S1 S2 S3, Ss = [S0, S1, S2, S3] := by
    match Ss, hlen with
    | [a, b, c, d], _ => exact ⟨a, b, c, d, rfl⟩
  obtain ⟨a0, b0, c0⟩ := hown 0 _ _ rfl rfl
  obtain ⟨a1, b1, c1⟩ := hown 1 _ _ rfl rfl
  obtain ⟨a2, b2, c2⟩ := hown 2 _ _ rfl rfl
  obtain ⟨a3, b3, c3⟩ := hown 3 _ _ rfl rfl
  refine ⟨v0, v1, v2, v3, ⟨S0, S1, S2, S3⟩, hrow, ⟨a0.in, a1.in, a2.in, a3.in⟩, ?_, c0, c1, c2, c3⟩
  intro S hS
  simp only [Four.all, List.mem_cons, List.not_mem_nil, or_false] at hS
  rcases hS with rfl | rfl | rfl | rfl
  · exact b0
  · exact b1
  · exact b2
  · exact b3

/-- which of the first j kinds are true -/
structure HasRow (F : Four) (c : Int) (hb : Nat) (wr : World) (j : Nat) : Prop where
  row : wr.heap[hb]? = some (.cells ((F.all.take j).map (fun S => Value.bool (oneAt S c)) ++ List.replicate (4 - j) (Value.bool false)).toArray 189 (0, 0))
theorem all_len (F : Four) : F.all.length = 4 := rfl
theorem HasRow.later {F : Four} {c : Int} {hb : Nat} {wr wr' : World} {j : Nat} (h : HasRow F c hb wr j) (hh : wr'.heap[hb]? = wr.heap[hb]?) : HasRow F c hb wr' j := ⟨hh.trans h.row⟩
theorem HasRow.push {F : Four} {c : Int} {hb : Nat} {wr : World} {j : Nat} (h : HasRow F c hb wr j) {S : List Span} (hS : F.all[j]? = some S) {b : Bool} (hb' : oneAt S c = b) : HasRow F c hb (wr.setCell ⟨hb, j, none⟩ (.bool b)) (j + 1) := by
  have hj := (List.getElem?_eq_some_iff.1 hS).1
  rw [all_len] at hj
  refine ⟨?_⟩
  rw [heap_setCell_same wr hb j _ _ _ h.row]
  congr 2
  refine (Array.toList_inj.1 ?_)
  have e : 4 - j = (4 - (j + 1)) + 1 := by omega
  have el : ((F.all.take j).map (fun S => Value.bool (oneAt S c))).length = j := by rw [List.length_map, List.length_take, all_len]; omega
  rw [e, List.replicate_succ, List.take_add_one, hS]
  simp only [List.setIfInBounds_toArray, Option.toList_some, List.map_append, List.map_cons, List.map_nil, hb']
  rw [List.set_append_right (h := by rw [el]; exact Nat.le_refl _), el, Nat.sub_self]
  simp
theorem HasRow.cell {F : Four} {c : Int} {hb : Nat} {wr : World} {j : Nat} (h : HasRow F c hb wr j) (hj : j < 4) : wr.cell? ⟨hb, j, none⟩ = some (.bool false) := by
  have el : ((F.all.take j).map (fun S => Value.bool (oneAt S c))).length = j := by rw [List.length_map, List.length_take, all_len]; omega
  rw [cell_of_row _ _ j _ _ _ h.row, List.getElem?_toArray, List.getElem?_append_right (by rw [el]; exact Nat.le_refl _), el, Nat.sub_self, List.getElem?_replicate, if_pos (by omega)]
theorem HasRow.free {F : Four} {c : Int} {hb : Nat} {wr : World} {j : Nat} (h : HasRow F c hb wr j) (i : Nat) : wr.frozen? ⟨hb, i, none⟩ = false := by unfold World.frozen?; rw [h.row]; simp
def lastK (F : Four) (c : Int) (j : Nat) : Int := (F.all.take j).foldl (fun l S => toAt S c l) 1114111
theorem lastK_succ {F : Four} {c : Int} {j : Nat} {S : List Span} (hS : F.all[j]? = some S) : lastK F c (j + 1) = toAt S c (lastK F c j) := by
  unfold lastK
  rw [List.take_add_one, hS, List.foldl_append]; rfl
theorem Epf : ElemT Tryz.prog 186 196 6 24 := elemT_of (by kernel_rfl) (z := .agg #[.int .i64 0, .int .i64 0, .bool false, .bool false, .bool false, .bool false]) (by kernel_rfl) rfl (by decide) (by decide)
theorem pfenc_one (p : Pc Flg) : ∀ u ∈ pfenc p, u.oneCell' = true := by intro u hu; simp [pfenc] at hu; rcases hu with rfl | rfl | rfl | rfl | rfl | rfl <;> rfl
theorem piecesF_take {F : Four} {C : List Int} {k : Nat} {c : Int} (hc : C[k]? = some c) : piecesF F (C.take (k + 1)) = piecesF F (C.take k) ++ pieceAt F c := by
  unfold piecesF
  rw [List.take_add_one, hc, List.flatMap_append]
  simp

set_option maxRecDepth 100000 in
set_option maxHeartbeats 1000000 in
theorem truths_any (v : Value) (R : List Rw) (w : World) (hR : RowsIn w v R) :
    Calls Tryz.prog 66 #[v] w (TriePost fenc 4 (flgR R) w) := by
  have HR := Lib.hid hR
  clear hR
  go_enter Tryz.func66, Tryz.ntmps66
  go_wp2_with fail
  have HB0 := Lib.hid (((Below.refl w.heap.size w).alloc (Nat.le_refl _) (.cells #[.int .i64 5, .int .i64 7, .int .i64 8, .int .i64 3] 184)).alloc (by simp) (.cells #[.slice none 0 0, .slice none 0 0, .slice none 0 0, .slice none 0 0] 185))
  have hW0 : ((w.alloc (.cells #[.int .i64 5, .int .i64 7, .int .i64 8, .int .i64 3] 184)).alloc (.cells #[.slice none 0 0, .slice none 0 0, .slice none 0 0, .slice none 0 0] 185)).heap.size = w.heap.size + 2 := by simp
  have hrow0 : ((w.alloc (.cells #[.int .i64 5, .int .i64 7, .int .i64 8, .int .i64 3] 184)).alloc (.cells #[.slice none 0 0, .slice none 0 0, .slice none 0 0, .slice none 0 0] 185)).heap[w.heap.size + 1]? = some (.cells #[.slice none 0 0, .slice none 0 0, .slice none 0 0, .slice none 0 0] 185 (0, 0)) := by
    have := heap_alloc_new (w.alloc (.cells #[.int .i64 5, .int .i64 7, .int .i64 8, .int .i64 3] 184)) (.cells #[.slice none 0 0, .slice none 0 0, .slice none 0 0, .slice none 0 0] 185)
    rwa [show (w.alloc (.cells #[.int .i64 5, .int .i64 7, .int .i64 8, .int .i64 3] 184)).heap.size = w.heap.size + 1 by simp] at this
  have HF0 := Lib.hid (show FourB R (w.heap.size + 2) (w.heap.size + 1) ((w.alloc (.cells #[.int .i64 5, .int .i64 7, .int .i64 8, .int .i64 3] 184)).alloc (.cells #[.slice none 0 0, .slice none 0 0, .slice none 0 0, .slice none 0 0] 185)) [] [] from ⟨by simp, rfl, hrow0, by omega, fun j v S h => by simp at h⟩)
  clear hrow0
  generalize ((w.alloc (.cells #[.int .i64 5, .int .i64 7, .int .i64 8, .int .i64 3] 184)).alloc (.cells #[.slice none 0 0, .slice none 0 0, .slice none 0 0, .slice none 0 0] 185)) = W at HB0 HF0 hW0 ⊢
  go_loopw [18] (fun iv wr => ∃ (vs : List Value) (Ss : List (List Span)), iv = .int .i64 ((vs.length : Nat) : Int) ∧ Below w.heap.size w wr ∧ w.heap.size + 2 ≤ wr.heap.size ∧ FourB R (w.heap.size + 2) (w.heap.size + 1) wr vs Ss) (fun iv _ => 4 - (intOf iv).toNat)
  case atStart => exact ⟨[], [], rfl, HB0.out, by omega, HF0.out⟩
  case round =>
    obtain ⟨vs, Ss, rfl, hB, hbig, hF⟩ := hrel
    have HB := Lib.hid hB
    have HF := Lib.hid hF
    have hle := hF.le
    clear hB hF
    by_cases hlt : vs.length < 4
    · obtain ⟨k, hk⟩ : ∃ k, k = vs.length := ⟨_, rfl⟩
      have hkd : (#[.int .i64 5, .int .i64 7, .int .i64 8, .int .i64 3] : Array Value)[k]? = some (.int .i64 (kd k)) := by
        rcases (by omega : k = 0 ∨ k = 1 ∨ k = 2 ∨ k = 3) with h | h | h | h <;> (rw [h]; rfl)
      have HK := Lib.hid hk
      have hlt : k < 4 := by omega
      rw [← hk]
      clear hk hle
      go_wp2_with fail
      refine upon_run (run_index1 _ Tryz.underlying184 hlt Tryz.sizeOf3 Tryz.isAgg3 hkd) ?_
      clear hkd
      go_wp2_with fail
      refine (ofSpans_any v R (kd k) wr (HR.out.below HB.out)).mono ?_
      rintro e w1 ⟨sv, S, rfl, hO, hB1, hG, hS⟩
      have HF1 := Lib.hid (HF.out.below hB1)
      have HO := Lib.hid (show SpansOwn w1 (w.heap.size + 2) sv S from owns_mono hO.row hbig)
      have HG := Lib.hid hG
      have HS := Lib.hid hS
      have HB1 := Lib.hid (below_trans' HB.out hB1)
      have hb1 := hB1.size
      have hc0 : w1.cell? ⟨w.heap.size + 1, k, none⟩ = some (.slice none 0 0) := by
        rw [cell_of_row _ _ k _ _ _ HF1.out.row, HK.out, List.getElem?_toArray, List.getElem?_append_right (Nat.le_refl _), Nat.sub_self, List.getElem?_replicate, if_pos (by omega)]
      have hf0 : w1.frozen? ⟨w.heap.size + 1, k, none⟩ = false := by unfold World.frozen?; rw [HF1.out.row]; simp
      obtain ⟨sa, sc, rfl⟩ := slice_of_owns hO
      clear hO hB1 hG hS
      go_wp2_with fail
      have HP := Lib.hid (HF1.out.push (v := .slice sa S.length sc) (S := S) (by omega) HO.out HG.out (by rw [← HK.out]; exact HS.out))
      rw [← HK.out] at HP
      go_roundw
      case rel => exact ⟨vs ++ [.slice sa S.length sc], Ss ++ [S], by rw [List.length_append, ← HK.out]; go_num, HB1.out.setCell (by simp) _, by simp; omega, HP.out⟩
      case measure => simp [intOf]; omega
    · have h4 : vs.length = 4 := by omega
      obtain ⟨v0, v1, v2, v3, F, hrow, hin, hgood, hs0, hs1, hs2, hs3⟩ := HF.out.all h4
      have hcv : ∀ k, k < 4 → wr.cell? ⟨w.heap.size + 1, k, none⟩ = (#[v0, v1, v2, v3] : Array Value)[k]? := fun k _ => cell_of_row _ _ k _ _ _ hrow
      have HRow := Lib.hid hrow
      have HIn := Lib.hid hin
      have HGood := Lib.hid hgood
      have HSays := Lib.hid (show Says F.s0 R 5 ∧ Says F.s1 R 7 ∧ Says F.s2 R 8 ∧ Says F.s3 R 3 from ⟨hs0, hs1, hs2, hs3⟩)
      have hcall := cut_any (w.heap.size + 1) 4 v0 v1 v2 v3 F wr hcv hin hgood
      have HC := Lib.hid hcall
      rw [h4]
      clear hcall hrow hin hgood hs0 hs1 hs2 hs3 hcv HF h4 hle
      go_wp2_with fail
      refine HC.out.mono ?_
      rintro e w2 ⟨cv, C, rfl, hCR, hB2, hCuts, hCr, hCl⟩
      have hcat : ∀ (k : Nat) (c : Int), C[k]? = some c → ∃ b off cap, cv = .slice (some ⟨b, off, none⟩) C.length cap ∧ b < w2.heap.size ∧ w2.cell? ⟨b, off + k, none⟩ = some (.int .i64 c) := by
        intro k c hc
        obtain ⟨a, cap, rfl, _, _, _, hcells⟩ := hCR
        obtain ⟨b, off, rfl, hbl, hcq⟩ := hcells (Nat.lt_of_le_of_lt (Nat.zero_le k) (List.getElem?_eq_some_iff.1 hc).1)
        refine ⟨b, off, cap, rfl, hbl, ?_⟩
        have := flat_cell ienc1_len hcq hc 0 rfl
        rw [Nat.mul_one] at this
        exact this
      have HCat := Lib.hid hcat
      have HCuts := Lib.hid hCuts
      have HCr := Lib.hid hCr
      have HBw := Lib.hid (below_trans' HB.out hB2)
      have hb2 := hB2.size
      have HIn := Lib.hid (HIn.out.below hB2)
      have HRow := Lib.hid ((hB2.block _ (row_len HRow.out)).trans HRow.out)
      obtain ⟨ca, cc, rfl, hcc, hcm, _⟩ := hCR
      unfold maxLen at hcm
      clear hcat hCuts hCr hB2 HC HB
      go_wp2_with fail
      go_loopw [7, 31] (fun pv' iv wr => ∃ k : Nat, k ≤ C.length ∧ iv = .int .i64 ((k : Nat) : Int) ∧ Below w2.heap.size w2 wr ∧ (piecesF F (C.take k)).length ≤ k ∧ wr.ownsRow w2.heap.size 196 6 pv' (piecesF F (C.take k)).length ((piecesF F (C.take k)).flatMap pfenc)) (fun _ iv _ => C.length - (intOf iv).toNat)
      case atStart => exact ⟨0, Nat.zero_le _, rfl, .refl _ _, Nat.le_refl _, World.ownsRow_nil _ _ _ _⟩
      case round =>
        obtain ⟨k, hk, rfl, hB, hpl, hO⟩ := hrel
        have HB := Lib.hid hB
        have HO := Lib.hid hO
        have hbs := hB.size
        have hrow := (hB.block _ (row_len HRow.out)).trans HRow.out
        have HRow2 := Lib.hid hrow
        have HIn2 := Lib.hid (HIn.out.below hB)
        clear hO
        by_cases hlt : k < C.length
        · obtain ⟨c, hc⟩ : ∃ c, C[k]? = some c := ⟨C[k], List.getElem?_eq_getElem hlt⟩
          obtain ⟨b, off, cap', hv, _, d0⟩ := HCat.out k c hc
          cases hv
          have hcr := HCr.out c (List.mem_of_getElem? hc)
          have hd0 := cell_later hB d0
          have HJ := Lib.hid (piecesF_take (F := F) hc)
          obtain ⟨pa, pc, rfl⟩ := slice_of_owns HO.out
          have q0 : wr.cell? ⟨w.heap.size + 1, 0, none⟩ = some v0 := by rw [cell_of_row _ _ 0 _ _ _ hrow]; rfl
          have q1 : wr.cell? ⟨w.heap.size + 1, 1, none⟩ = some v1 := by rw [cell_of_row _ _ 1 _ _ _ hrow]; rfl
          have q2 : wr.cell? ⟨w.heap.size + 1, 2, none⟩ = some v2 := by rw [cell_of_row _ _ 2 _ _ _ hrow]; rfl
          have q3 : wr.cell? ⟨w.heap.size + 1, 3, none⟩ = some v3 := by rw [cell_of_row _ _ 3 _ _ _ hrow]; rfl
          have hlb : w.heap.size + 1 < wr.heap.size := World.block_lt_of_cell? wr _ q0
          clear hc hB hrow d0
          go_wp2_with fail
          obtain ⟨W0, hW0⟩ : ∃ W0, W0 = wr := ⟨_, rfl⟩
          subst hW0
          have HH0 := Lib.hid (show HasRow F c W0.heap.size (W0.alloc (.cells #[.bool false, .bool false, .bool false, .bool false] 189)) 0 from ⟨heap_alloc_new W0 _⟩)
          have HBa := Lib.hid ((Below.refl W0.heap.size W0).alloc (Nat.le_refl _) (.cells #[.bool false, .bool false, .bool false, .bool false] 189))
          have HOa := Lib.hid (owns_stays HO.out HBa.out)
          clear q0 q1 q2 q3 hd0
          generalize (W0.alloc (.cells #[.bool false, .bool false, .bool false, .bool false] 189)) = W at HH0 HBa HOa ⊢
          go_loopw [11, 36] (fun lv iv wr => ∃ j : Nat, j ≤ 4 ∧ iv = .int .i64 ((j : Nat) : Int) ∧ lv = .int .i64 (lastK F c j) ∧ Below W0.heap.size W0 wr ∧ W0.heap.size < wr.heap.size ∧ HasRow F c W0.heap.size wr j) (fun _ iv _ => 4 - (intOf iv).toNat)
          case atStart => exact ⟨0, Nat.zero_le _, rfl, rfl, HBa.out, row_len HH0.out.row, HH0.out⟩
          case round =>
            obtain ⟨j, hj, rfl, rfl, hB3, hl3, hH⟩ := hrel
            have HB3 := Lib.hid hB3
            have HH := Lib.hid hH
            clear hB3 hH
            by_cases hlt3 : j < 4
            · obtain ⟨S, sa, sc, hS, hv, hin, hsc, hscm⟩ := HIn2.out.pick hlt3
              have HS := Lib.hid hS
              have hin3 := hin.below HB3.out
              have hGS := HGood.out S (List.mem_of_getElem? hS)
              have hcall := at_any _ S c wr hin3 hGS (by omega) (by omega)
              have HC := Lib.hid hcall
              have e1 := IntWalk.i32_in c (by omega)
              clear hS hin hin3 hGS hcall
              go_wp2_with fail
              refine upon_run (run_index1 _ Tryz.underlying185 hlt3 Tryz.sizeOf120 Tryz.isAgg120 hv) ?_
              clear hv
              go_wp2_with fail
              refine HC.out.mono ?_
              rintro e wc ⟨rfl, hBc⟩
              have HBc := Lib.hid (below_trans' HB3.out hBc)
              have hlc : W0.heap.size < wc.heap.size := Nat.lt_of_lt_of_le hl3 hBc.size
              have HH := Lib.hid (HH.out.later (hBc.block _ hl3))
              have hc0 := HH.out.cell hlt3
              have hf0 := HH.out.free j
              have hLk := lastK_succ (c := c) HS.out
              clear hBc HC
              cases hsp : spanAt S c with
              | none =>
                have hone : oneAt S c = false := by unfold oneAt; rw [hsp]
                have hto : lastK F c (j + 1) = lastK F c j := by rw [hLk]; unfold toAt; rw [hsp]
                have HP := Lib.hid (HH.out.push HS.out hone)
                have HTo := Lib.hid hto
                unfold aggS noS
                dsimp only [Option.getD, Option.isSome]
                clear hsp hone hto hLk
                go_wp2_with fail
                go_roundw
                case rel => exact ⟨j + 1, by omega, by go_num, by rw [HTo.out], (HBc.out.setCell (Nat.le_refl _) _).alloc (by simp; omega) _, by simp; omega, HP.out.later (Below.heap_alloc _ _ _ (by simp; exact hlc))⟩
                case measure => simp [intOf]; omega
              | some x =>
                have hto : lastK F c (j + 1) = min (lastK F c j) x.t := by rw [hLk]; unfold toAt; rw [hsp]
                have HTo := Lib.hid hto
                unfold aggS
                dsimp only [Option.getD, Option.isSome]
                by_cases hx1 : x.a = 1
                · have hone : oneAt S c = true := by unfold oneAt; rw [hsp]; simp [hx1]
                  have HP := Lib.hid (HH.out.push HS.out hone)
                  have e2 : (x.a == 1) = true := by simpa using hx1
                  clear hsp hone hto hLk hx1
                  go_wp2_with fail
                  go_roundw
                  case rel => exact ⟨j + 1, by omega, by go_num, by rw [HTo.out], (HBc.out.setCell (Nat.le_refl _) _).alloc (by simp; omega) _, by simp; omega, HP.out.later (Below.heap_alloc _ _ _ (by simp; exact hlc))⟩
                  case measure => simp [intOf]; omega
                · have hone : oneAt S c = false := by unfold oneAt; rw [hsp]; simp [hx1]
                  have HP := Lib.hid (HH.out.push HS.out hone)
                  have e2 : (x.a == 1) = false := by simpa using hx1
                  clear hsp hone hto hLk hx1
                  go_wp2_with fail
                  go_roundw
                  case rel => exact ⟨j + 1, by omega, by go_num, by rw [HTo.out], (HBc.out.setCell (Nat.le_refl _) _).alloc (by simp; omega) _, by simp; omega, HP.out.later (Below.heap_alloc _ _ _ (by simp; exact hlc))⟩
                  case measure => simp [intOf]; omega
            · have hj4 : j = 4 := by omega
              subst hj4
              have hrh := HH.out.row
              have HRow3 := Lib.hid ((HB3.out.block _ hlb).trans HRow2.out)
              have HIn3 := Lib.hid (HIn2.out.below HB3.out)
              have hflg : wr.heap[W0.heap.size]? = some (.cells #[.bool (flgAt F c).pict, .bool (flgAt F c).wide, .bool (flgAt F c).letter, .bool (flgAt F c).out] 189 (0, 0)) := hrh
              have hlast : lastK F c 4 = lastAt F c := rfl
              rw [hlast]
              have p0 : wr.cell? ⟨W0.heap.size, 0, none⟩ = some (.bool (flgAt F c).pict) := by rw [cell_of_row _ _ 0 _ _ _ hflg]; rfl
              have p1 : wr.cell? ⟨W0.heap.size, 1, none⟩ = some (.bool (flgAt F c).wide) := by rw [cell_of_row _ _ 1 _ _ _ hflg]; rfl
              have p2 : wr.cell? ⟨W0.heap.size, 2, none⟩ = some (.bool (flgAt F c).letter) := by rw [cell_of_row _ _ 2 _ _ _ hflg]; rfl
              have p3 : wr.cell? ⟨W0.heap.size, 3, none⟩ = some (.bool (flgAt F c).out) := by rw [cell_of_row _ _ 3 _ _ _ hflg]; rfl
              have HPc := Lib.hid (show pieceAt F c = if flgAt F c = noFlg then [] else [⟨c, uptoL c F.all (lastAt F c), flgAt F c⟩] from rfl)
              generalize lastAt F c = last at HPc ⊢
              generalize flgAt F c = fl at HPc p0 p1 p2 p3 ⊢
              clear hrh hflg hlast
              have hqa : (Op.equalIn 10000 189 (.agg #[.bool fl.pict, .bool fl.wide, .bool fl.letter, .bool fl.out]) (.agg #[.bool false, .bool false, .bool false, .bool false])).run Tryz.prog wr = .ok (decide (fl = noFlg)) wr := by
                have h1 := run_eq_arr4 wr 9998 Tryz.underlying189 Tryz.sizeOf4 Tryz.isAgg4 Tryz.underlying4 fl.pict fl.wide fl.letter fl.out false false false false
                have h2 : ((fl.pict == false) && ((fl.wide == false) && ((fl.letter == false) && (fl.out == false)))) = decide (fl = noFlg) := by
                  obtain ⟨f0, f1, f2, f3⟩ := fl
                  cases f0 <;> cases f1 <;> cases f2 <;> cases f3 <;> rfl
                rw [h2] at h1
                exact h1
              have HB4 := Lib.hid (below_trans' HB.out HB3.out)
              have HO4 := Lib.hid (owns_stays HO.out HB3.out)
              by_cases hfl : fl = noFlg
              · rw [decide_eq_true hfl] at hqa
                rw [if_pos hfl] at HPc
                have HP2 := Lib.hid (show piecesF F (C.take (k + 1)) = piecesF F (C.take k) by rw [HJ.out, HPc.out, List.append_nil])
                clear hfl
                go_wp2_with fail
                go_roundw
                case rel => exact ⟨k + 1, by omega, by go_num, HB4.out, by rw [HP2.out]; omega, by rw [HP2.out]; exact HO4.out⟩
                case measure => simp [intOf]; omega
              · rw [decide_eq_false hfl] at hqa
                rw [if_neg hfl] at HPc
                have q0 : wr.cell? ⟨w.heap.size + 1, 0, none⟩ = some v0 := by rw [cell_of_row _ _ 0 _ _ _ HRow3.out]; rfl
                have q1 : wr.cell? ⟨w.heap.size + 1, 1, none⟩ = some v1 := by rw [cell_of_row _ _ 1 _ _ _ HRow3.out]; rfl
                have q2 : wr.cell? ⟨w.heap.size + 1, 2, none⟩ = some v2 := by rw [cell_of_row _ _ 2 _ _ _ HRow3.out]; rfl
                have q3 : wr.cell? ⟨w.heap.size + 1, 3, none⟩ = some v3 := by rw [cell_of_row _ _ 3 _ _ _ HRow3.out]; rfl
                have hcall := upto_any c last v0 v1 v2 v3 F wr.drew ⟨HIn3.out.i0, HIn3.out.i1, HIn3.out.i2, HIn3.out.i3⟩ HGood.out
                have HU := Lib.hid hcall
                have hlo : ∀ b, (Value.slice pa (piecesF F (C.take k)).length pc).ownBlock = some b → w2.heap.size ≤ b ∧ b < W0.heap.size := fun b h => HO.out.lt b h
                have HLo := Lib.hid hlo
                clear hfl hcall hlo
                generalize uptoL c F.all last = up at HPc HU ⊢
                go_wp2_with fail
                clear hqa
                have hlt0 : w.heap.size + 1 < w2.heap.size := row_len HRow.out
                have gt : some (w.heap.size + 1) ≠ (Value.slice pa (piecesF F (C.take k)).length pc).ownBlock := fun e => by have := (HLo.out _ e.symm).1; omega
                have gw : some W0.heap.size ≠ (Value.slice pa (piecesF F (C.take k)).length pc).ownBlock := fun e => by have := (HLo.out _ e.symm).2; omega
                go_region_held3 (fun w' => w'.cell? ⟨w.heap.size + 1, 0, none⟩ = some (v0) ∧ w'.cell? ⟨w.heap.size + 1, 1, none⟩ = some (v1) ∧ w'.cell? ⟨w.heap.size + 1, 2, none⟩ = some (v2) ∧ w'.cell? ⟨w.heap.size + 1, 3, none⟩ = some (v3) ∧ w'.cell? ⟨W0.heap.size, 0, none⟩ = some (.bool fl.pict) ∧ w'.cell? ⟨W0.heap.size, 1, none⟩ = some (.bool fl.wide) ∧ w'.cell? ⟨W0.heap.size, 2, none⟩ = some (.bool fl.letter) ∧ w'.cell? ⟨W0.heap.size, 3, none⟩ = some (.bool fl.out))
                  (first | exact ⟨q0, q1, q2, q3, p0, p1, p2, p3⟩ | exact k5 | exact k6 | exact k7 | go_keep)
                  (first | (go_at_call 108; refine HU.out.mono ?_; rintro e w5 ⟨rfl, hB5⟩; have k5 : w5.cell? ⟨w.heap.size + 1, 0, none⟩ = some (v0) ∧ w5.cell? ⟨w.heap.size + 1, 1, none⟩ = some (v1) ∧ w5.cell? ⟨w.heap.size + 1, 2, none⟩ = some (v2) ∧ w5.cell? ⟨w.heap.size + 1, 3, none⟩ = some (v3) ∧ w5.cell? ⟨W0.heap.size, 0, none⟩ = some (.bool fl.pict) ∧ w5.cell? ⟨W0.heap.size, 1, none⟩ = some (.bool fl.wide) ∧ w5.cell? ⟨W0.heap.size, 2, none⟩ = some (.bool fl.letter) ∧ w5.cell? ⟨W0.heap.size, 3, none⟩ = some (.bool fl.out) := ⟨cell_later hB5 (w := wr.drew) q0, cell_later hB5 (w := wr.drew) q1, cell_later hB5 (w := wr.drew) q2, cell_later hB5 (w := wr.drew) q3, cell_later hB5 (w := wr.drew) p0, cell_later hB5 (w := wr.drew) p1, cell_later hB5 (w := wr.drew) p2, cell_later hB5 (w := wr.drew) p3⟩; have hB5' : Below wr.heap.size wr w5 := ⟨hB5.os, hB5.tape, hB5.output, hB5.size, hB5.block⟩; have hs5 := hB5'.size; have hBa := (Below.refl w5.heap.size w5).alloc (Nat.le_refl _) (.cells (pfenc ⟨c, up, fl⟩).toArray 196); have k6 : (w5.alloc (.cells (pfenc ⟨c, up, fl⟩).toArray 196)).cell? ⟨w.heap.size + 1, 0, none⟩ = some (v0) ∧ (w5.alloc (.cells (pfenc ⟨c, up, fl⟩).toArray 196)).cell? ⟨w.heap.size + 1, 1, none⟩ = some (v1) ∧ (w5.alloc (.cells (pfenc ⟨c, up, fl⟩).toArray 196)).cell? ⟨w.heap.size + 1, 2, none⟩ = some (v2) ∧ (w5.alloc (.cells (pfenc ⟨c, up, fl⟩).toArray 196)).cell? ⟨w.heap.size + 1, 3, none⟩ = some (v3) ∧ (w5.alloc (.cells (pfenc ⟨c, up, fl⟩).toArray 196)).cell? ⟨W0.heap.size, 0, none⟩ = some (.bool fl.pict) ∧ (w5.alloc (.cells (pfenc ⟨c, up, fl⟩).toArray 196)).cell? ⟨W0.heap.size, 1, none⟩ = some (.bool fl.wide) ∧ (w5.alloc (.cells (pfenc ⟨c, up, fl⟩).toArray 196)).cell? ⟨W0.heap.size, 2, none⟩ = some (.bool fl.letter) ∧ (w5.alloc (.cells (pfenc ⟨c, up, fl⟩).toArray 196)).cell? ⟨W0.heap.size, 3, none⟩ = some (.bool fl.out) := ⟨cell_later hBa k5.1, cell_later hBa k5.2.1, cell_later hBa k5.2.2.1, cell_later hBa k5.2.2.2.1, cell_later hBa k5.2.2.2.2.1, cell_later hBa k5.2.2.2.2.2.1, cell_later hBa k5.2.2.2.2.2.2.1, cell_later hBa k5.2.2.2.2.2.2.2⟩) | (refine step_app4 (by rfl) _ _ _ (by rfl) Epf (.slice pa (piecesF F (C.take k)).length pc) (piecesF F (C.take k)).length ((piecesF F (C.take k)).flatMap pfenc) (by rfl) (World.ownsRow.alloc (owns_stays HO4.out hB5') (.cells (pfenc ⟨c, up, fl⟩).toArray 196)) ⟨w5.heap.size, 0, none⟩ 1 1 (pfenc ⟨c, up, fl⟩) (by rfl) (by decide) (by rfl) (fun j u h => news_of_alloc w5 (pfenc ⟨c, up, fl⟩) 196 j u h) (pfenc_one _) (by omega) (by simp; omega) ?_; intro g cap w6 ho6 hg6 hf6; have k7 : w6.cell? ⟨w.heap.size + 1, 0, none⟩ = some (v0) ∧ w6.cell? ⟨w.heap.size + 1, 1, none⟩ = some (v1) ∧ w6.cell? ⟨w.heap.size + 1, 2, none⟩ = some (v2) ∧ w6.cell? ⟨w.heap.size + 1, 3, none⟩ = some (v3) ∧ w6.cell? ⟨W0.heap.size, 0, none⟩ = some (.bool fl.pict) ∧ w6.cell? ⟨W0.heap.size, 1, none⟩ = some (.bool fl.wide) ∧ w6.cell? ⟨W0.heap.size, 2, none⟩ = some (.bool fl.letter) ∧ w6.cell? ⟨W0.heap.size, 3, none⟩ = some (.bool fl.out) := ⟨hg6.cell k6.1 gt, hg6.cell k6.2.1 gt, hg6.cell k6.2.2.1 gt, hg6.cell k6.2.2.2.1 gt, hg6.cell k6.2.2.2.2.1 gw, hg6.cell k6.2.2.2.2.2.1 gw, hg6.cell k6.2.2.2.2.2.2.1 gw, hg6.cell k6.2.2.2.2.2.2.2 gw⟩))
                all_goals
                  have HB6 := Lib.hid (below_app (below_trans' (below_trans' HB4.out hB5') hBa) (Nat.le_trans HB4.out.size (Nat.le_trans hs5 hBa.size)) (World.ownsRow.alloc (owns_stays HO4.out hB5') (.cells (pfenc ⟨c, up, fl⟩).toArray 196)) (Nat.le_refl _) hg6)
                  have HO6 := Lib.hid ho6
                  clear ho6 hg6 hf6 k5 k6 k7 hB5 hB5' hBa
                  go_wp2_with fail
                  go_roundw
                  case rel => exact ⟨k + 1, by omega, by go_num, HB6.out, by rw [HJ.out, HPc.out, List.length_append]; simp; omega, by rw [HJ.out, HPc.out, flat_snoc, List.length_append]; exact HO6.out⟩
                  case measure => simp [intOf]; omega
        · have hke : k = C.length := by omega
          subst hke
          have ho := HO.out
          rw [List.take_length] at ho
          have hRp : Rs wr.heap.size wr pfenc 6 u7 (piecesF F C) := rd_of_owns ho
          have HBf := Lib.hid (below_trans' HBw.out HB.out)
          have hpf : ∀ p ∈ piecesF F C, p.f ≤ 4611686018427387904 := by
            intro p hp
            obtain ⟨c, hc, hpc⟩ := List.mem_flatMap.1 hp
            have hcr := HCr.out c hc
            unfold pieceAt at hpc
            split at hpc
            · cases hpc
            · cases List.mem_singleton.1 hpc
              show c ≤ _
              omega
          have hcall := build_flags u7 (piecesF F C) noFlg wr hRp trivial (fun p _ => trivial) hpf
          have HC := Lib.hid hcall
          have HT := Lib.hid (fun (r : Int) (h0 : 0 ≤ r) (h1 : r ≤ 1114111) => (piecesF_says HGood.out HCuts.out r h0 h1).trans (show flgAt F r = flgR R r by unfold flgAt flgR; rw [oneAt_ofA HSays.out.1, oneAt_ofA HSays.out.2.1, oneAt_ofA HSays.out.2.2.1, oneAt_ofA HSays.out.2.2.2]))
          clear hcall hRp ho hpf hB hrow
          unfold aggF noFlg at HC
          go_wp2_with fail
          refine HC.out.mono ?_
          rintro e w3 ⟨tb, rfl, htb, hB3, v1', v2', ks, bl, h0, h1, h2, h3, h4, h5, h6, h7⟩
          have hfin : TriePost fenc 4 (flgR R) w (.returned (.pointer (some ⟨tb, 0, none⟩))) w3 := ⟨tb, rfl, Nat.le_trans HBf.out.size htb, below_trans' HBf.out hB3, v1', v2', ks, bl, h0, h1, h2, h3, h4, h5, h6, h7.congr HT.out⟩
          have HFin := Lib.hid hfin
          clear hfin h0 h1 h2 h3 h4 h5 h6 h7 hB3
          go_wp2_with fail
          go_ret
          exact HFin.out
end Go.Proofs.YtkeainhjghdfcaaGreat
