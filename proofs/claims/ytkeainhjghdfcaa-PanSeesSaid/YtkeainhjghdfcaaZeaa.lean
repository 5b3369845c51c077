/- Joined texts: PanF PanC GlyT GlyU PanG OpenG. -/
import Derived.BigQuiet
import Derived.Test.YtkeainhjghdfcaaZdac
import Derived.Test.YtkeainhjghdfcaaZcad
import Derived.Test.YtkeainhjghdfcaaZaaw
import Derived.Test.YtkeainhjghdfcaaZcaa
/- The document's Wide and Width (chapter 48). -/
namespace Go.Proofs.Ytkeainhjghdfcaa
open Go.RowKit

section
variable {w : World} {v : Value} {G : List Gy}
set_option maxRecDepth 100000 in
theorem pdwide_any (h : GlyIn w v G) {at' : Nat} (hat : at' ≤ G.length) (_hl : G.length ≤ 100000) : Calls Try.prog 6 #[v, .int .i64 (at' : Int)] w fun e w' => e = .returned (.int .i64 (wdA (wdL G) at')) ∧ w' = w := by
  by_cases hlt : at' < G.length
  · obtain ⟨x, hx⟩ : ∃ x, G[at']? = some x := ⟨G[at'], List.getElem?_eq_getElem hlt⟩
    obtain ⟨b, off, cap, rfl, _, _, _, z0, z1⟩ := gly_cells h hx
    have HN := Lib.hid (wdA_get (wdL_get hx))
    obtain ⟨x1, x2⟩ := x
    dsimp only at z0 z1
    have s0 : (at' : Int) < (G.length : Int) := by omega
    have s1 : (0 : Int) ≤ (at' : Int) := by omega
    have s2 : ((at' : Int) == (G.length : Int)) = false := by rw [beq_eq_false_iff_ne]; omega
    clear hx h hlt
    go_enter Try.func6, Try.ntmps6
    go_wp2_with fail
    go_ret
    exact ⟨by rw [HN.out]; rfl, rfl⟩
  · obtain ⟨a, cap, rfl, hc1, hc2⟩ := gly_shape h
    have hke : at' = G.length := by omega
    subst hke
    have HN := Lib.hid (show wdA (wdL G) G.length = 1 by rw [← wdL_len, wdA_end])
    clear h hlt
    go_enter Try.func6, Try.ntmps6
    go_wp2_with fail
    go_ret
    exact ⟨by rw [HN.out]; rfl, rfl⟩
set_option maxRecDepth 100000 in
theorem pdwidth_any (h : GlyIn w v G) (hw : W12 (wdL G)) (hl : G.length ≤ 100000) {fr tt : Nat} (hft : fr ≤ tt) (htl : tt ≤ G.length) : Calls Try.prog 7 #[v, .int .i64 (fr : Int), .int .i64 (tt : Int)] w fun e w' => e = .returned (.int .i64 (sW (wdL G) fr tt)) ∧ Below w.heap.size w w' := by
  obtain ⟨a, cap, rfl, hc1, hc2⟩ := gly_shape h
  unfold maxLen at hc2
  have HG := Lib.hid h
  have HW := Lib.hid hw
  clear h hw
  go_enter Try.func7, Try.ntmps7
  go_wp2_with fail
  go_loopw [7, 8] (fun nv iv wr => ∃ k : Nat, fr ≤ k ∧ k ≤ tt ∧ iv = .int .i64 (k : Int) ∧ nv = .int .i64 (sW (wdL G) fr k) ∧ Below w.heap.size w wr) (fun _ iv _ => tt - (intOf iv).toNat)
  case atStart => exact ⟨fr, Nat.le_refl _, hft, rfl, by rw [sW_self], .refl _ _⟩
  case round =>
    obtain ⟨k, hk0, hk, rfl, rfl, hB⟩ := hrel
    have HB := Lib.hid hB
    have hr := sW_rng HW.out fr k
    rw [wdL_len] at hr
    by_cases hlt : k < tt
    · obtain ⟨x, hx⟩ : ∃ x, G[k]? = some x := ⟨G[k], List.getElem?_eq_getElem (by omega)⟩
      obtain ⟨b, off, cap', hv, _, _, _, z0, z1⟩ := gly_cells (HG.out.below hB) hx
      cases hv
      have hn := sW_snoc (ws := wdL G) (a := fr) (b := k) hk0 (by rw [wdL_len]; omega)
      rw [wdA_get (wdL_get hx)] at hn
      have hw2 := wdA_rng HW.out k
      rw [wdA_get (wdL_get hx)] at hw2
      have HN := Lib.hid hn
      obtain ⟨x1, x2⟩ := x
      dsimp only at z0 z1 hw2 hn
      generalize sW (wdL G) fr k = n at hr HN ⊢
      have s0 : (k : Int) < (tt : Int) := by omega
      have s1 : (0 : Int) ≤ (k : Int) := by omega
      have s2 : (k : Int) < (G.length : Int) := by omega
      have e1 := IntWalk.i64_in ((k : Int) + 1) (by omega)
      have e2 := IntWalk.i64_in (n + x2) (by omega)
      clear hB hx hn hlt
      go_wp2_with fail
      go_roundw
      case rel => exact ⟨k + 1, by omega, by omega, by go_num, by rw [HN.out], HB.out⟩
      case measure => simp [intOf] <;> omega
    · have hke : k = tt := by omega
      subst hke
      clear hB hlt hr
      go_wp2_with fail
      go_ret
      exact ⟨rfl, HB.out⟩
end
end Go.Proofs.Ytkeainhjghdfcaa

/- Pan: the glyphs that the laws take. -/
namespace Go.Proofs.Ytkeainhjghdfcaa
open Go.RowKit

/-- glyphs of one column or two, not too many -/
def few48 (L : List Gy) : List Gy := (L.take 60).map fun g => (g.1, 1 + g.2 % 2)
theorem few48_len (L : List Gy) : (few48 L).length ≤ 60 := by unfold few48; rw [List.length_map, List.length_take]; omega
theorem few48_w12 (L : List Gy) : W12 (wdL (few48 L)) := by
  intro x hx
  unfold wdL few48 at hx
  rw [List.map_map] at hx
  obtain ⟨g, _, rfl⟩ := List.mem_map.1 hx
  show 1 + g.2 % 2 = 1 ∨ 1 + g.2 % 2 = 2
  omega
theorem ERG48 : ElemT Try.prog 22 35 2 24 := elemT_of (by kernel_rfl) (z := .agg #[.string ⟨#[]⟩, .int .i64 0]) (by kernel_rfl) rfl (by decide) (by decide)
theorem few48_snoc {L : List Gy} {k : Nat} {x : Gy} (h : L[k]? = some x) (_hk : k < 60) : ((L.take (k + 1)).map fun g : Gy => ((g.1, 1 + g.2 % 2) : Gy)) = ((L.take k).map fun g : Gy => ((g.1, 1 + g.2 % 2) : Gy)) ++ [(x.1, 1 + x.2 % 2)] := by
  rw [List.take_add_one, h, List.map_append]
  rfl
section
variable {w : World} {v : Value} {L : List Gy}
set_option maxRecDepth 100000 in
set_option maxHeartbeats 4000000 in
theorem few48_any (h : GlyIn w v L) : Calls Try.prog 4 #[v] w fun e w' => ∃ va vb, e = .returned (.tuple #[va, vb]) ∧ Below w.heap.size w w' ∧ GlyIn w' va (few48 L) ∧ GlyIn w' vb (few48 L) := by
  obtain ⟨a, cap, rfl, hc1, hc2⟩ := gly_shape h
  unfold maxLen at hc2
  have HG := Lib.hid h
  clear h
  go_enter Try.func4, Try.ntmps4
  go_wp2_with fail
  go_loopw [4, 5, 6] (fun av bv iv wr => ∃ (k : Nat) (X : List Gy), k ≤ L.length ∧ k ≤ 60 ∧ iv = .int .i64 (k : Int) ∧ Below w.heap.size w wr ∧ wr.ownsRow w.heap.size 36 2 av X.length (X.flatMap gyE) ∧ wr.ownsRow w.heap.size 35 2 bv X.length (X.flatMap gyE) ∧ X = (L.take k).map (fun g : Gy => ((g.1, 1 + g.2 % 2) : Gy))) (fun _ _ iv _ => L.length - (intOf iv).toNat)
  case atStart => exact ⟨0, [], Nat.zero_le _, Nat.zero_le _, rfl, .refl _ _, World.ownsRow_nil _ _ _ _, World.ownsRow_nil _ _ _ _, rfl⟩
  case round =>
    obtain ⟨k, X, hk, hk6, rfl, hB, hO, hP, hX⟩ := hrel
    have HB := Lib.hid hB
    have HO := Lib.hid hO
    have HP := Lib.hid hP
    have hbs := hB.size
    have hXl : X.length = k := by rw [hX, List.length_map, List.length_take]; omega
    obtain ⟨pa, pc, rfl⟩ := slice_of_owns hO
    obtain ⟨qa, qc, rfl⟩ := slice_of_owns hP
    by_cases hlt : k < L.length ∧ k < 60
    · obtain ⟨x, hx⟩ : ∃ x, L[k]? = some x := ⟨L[k]'hlt.1, List.getElem?_eq_getElem hlt.1⟩
      have hn := few48_snoc hx hlt.2
      rw [← hX] at hn
      obtain ⟨b, off, cap', hv, _, _, hbw, z0, z1⟩ := gly_cells HG.out hx
      cases hv
      have HN := Lib.hid hn
      obtain ⟨x1, x2⟩ := x
      dsimp only at z0 z1 HN
      have HZ0 := Lib.hid z0
      have z0 := cell_later hB z0
      have z1 := cell_later hB z1
      have s0 : (k : Int) < (L.length : Int) := by omega
      have s1 : (0 : Int) ≤ (k : Int) := by omega
      have s2 : (k : Int) < 60 := by omega
      have e1 := IntWalk.i64_in ((k : Int) + 1) (by omega)
      have e2 := and1 x2
      have e3 := IntWalk.i64_in (1 + x2 % 2) (by omega)
      have hbig : (X.length + 1) * 24 ≤ 140737488355328 := by omega
      clear hB hO hP hX hx hn hlt hXl
      go_wp2_with (first
        | (at_builtin; refine wpList_app1 (base := w.heap.size) _ rfl (.tmp 25) (.tmp 33) _ rfl EG _ _ _ rfl HO.out 1 1 (gyE (x1, 1 + x2 % 2)) rfl (by decide) rfl (gyE_one _) hbig hbs ?_; intro g cp7 w7 ho7 hg7 hf7; have HB7 := Lib.hid (below_app HB.out hbs HO.out (Nat.le_refl _) hg7); have HO7 := Lib.hid ho7; have HP7 := Lib.hid (owns_kept_types HO.out HP.out (by decide) hg7); have hbs7 := HB7.out.size; have z0 := cell_later HB7.out HZ0.out; clear ho7 hg7 hf7)
        | (at_builtin; refine wpList_app1 (base := w.heap.size) _ rfl (.tmp 35) (.tmp 43) _ rfl ERG48 _ _ _ rfl HP7.out 1 1 (gyE (x1, 1 + x2 % 2)) rfl (by decide) rfl (gyE_one _) hbig hbs7 ?_; intro g8 cp8 w8 ho8 hg8 hf8; have HB8 := Lib.hid (below_app HB7.out hbs7 HP7.out (Nat.le_refl _) hg8); have HP8 := Lib.hid ho8; have HO8 := Lib.hid (owns_kept_types HP7.out HO7.out (by decide) hg8); clear ho8 hg8 hf8)
        | fail)
      go_roundw
      case rel => exact ⟨k + 1, X ++ [(x1, 1 + x2 % 2)], by omega, by omega, by go_num, HB8.out, by rw [List.length_append, flat_snoc]; exact HO8.out, by rw [List.length_append, flat_snoc]; exact HP8.out, HN.out.symm⟩
      case measure => simp [intOf] <;> omega
    · have HX := Lib.hid (show X = few48 L by
        rw [hX]
        unfold few48
        by_cases h : k < L.length
        · rw [show k = 60 by omega]
        · rw [List.take_of_length_le (by omega), List.take_of_length_le (i := 60) (by omega)])
      have hc : (¬ (k : Int) < (L.length : Int)) ∨ ((k : Int) < (L.length : Int) ∧ ¬ (k : Int) < 60) := by omega
      clear hB hO hP hX hlt hXl
      rcases hc with s0 | ⟨s0, s1⟩
      all_goals
        go_wp2_with fail
        go_ret2
        exact ⟨_, _, rfl, HB.out, by rw [← HX.out]; exact rd_of_owns HO.out, by rw [← HX.out]; exact rd_of_owns HP.out⟩
end
end Go.Proofs.Ytkeainhjghdfcaa

/- A line of glyphs, sent as bytes, read again; facts of the given rows. -/
namespace Go.Proofs.Ytkeainhjghdfcaa
open Go.RowKit

/-- no property at all -/
def dullB (R : List Rw) (x : Int) : Bool := decide (brkR R x = 0) && (!decide (ofA R 5 x = 1) && (decide (conjR R x = 0) && !decide (ofA R 7 x = 1)))
def dullEx (R : List Rw) : Bool := ([94, 63, 65533, 9676, 120, 121] : List Int).all (dullB R) && (List.range 32).all (fun i => dullB R (64 + (i : Int)))
theorem dullR_of {R : List Rw} (h : dullEx R = true) : DullR R := by
  unfold dullEx at h
  rw [Bool.and_eq_true, List.all_eq_true, List.all_eq_true] at h
  have key : ∀ x, (x = 94 ∨ x = 63 ∨ x = 65533 ∨ x = 9676 ∨ x = 120 ∨ x = 121 ∨ (64 ≤ x ∧ x < 96)) → dullB R x = true := by
    intro x hx
    by_cases hr : 64 ≤ x ∧ x < 96
    · have := h.2 (x - 64).toNat (List.mem_range.2 (by omega))
      rwa [show (64 : Int) + ((x - 64).toNat : Nat) = x by omega] at this
    · refine h.1 x ?_
      simp only [List.mem_cons, List.not_mem_nil, or_false]
      omega
  have key2 : ∀ x, dullB R x = true → brkR R x = 0 ∧ ¬ ofA R 5 x = 1 ∧ conjR R x = 0 ∧ ¬ ofA R 7 x = 1 := by
    intro x hx
    simpa only [dullB, Bool.and_eq_true, decide_eq_true_eq, Bool.not_eq_true', decide_eq_false_iff_not] using hx
  exact ⟨fun x hx => ⟨(key2 x (key x hx)).1, decide_eq_false (key2 x (key x hx)).2.1, (key2 x (key x hx)).2.2.1⟩, fun x hx => decide_eq_false (key2 x (key x hx)).2.2.2⟩
theorem dullRows_any : ∃ R : List Rw, RFacts R ∧ DullR R ∧ ∀ w, Calls Try.prog 12 #[] w (LitPost R w) :=
  ⟨((((((((rowsFn Try.f20) ++ rowsFn Try.f21) ++ rowsFn Try.f22) ++ rowsFn Try.f23) ++ rowsFn Try.f24) ++ rowsFn Try.f25) ++ rowsFn Try.f26) ++ rowsFn Try.f27), rfacts_of (by kernel_rfl) (by kernel_rfl) (by kernel_rfl) (by kernel_rfl) (by kernel_rfl) (by kernel_rfl), dullR_of (by kernel_rfl), fun w => apiRows_of _ _ _ _ _ _ _ _ (of_decide_eq_true (by kernel_rfl)) (of_decide_eq_true (by kernel_rfl)) (of_decide_eq_true (by kernel_rfl)) (of_decide_eq_true (by kernel_rfl)) (of_decide_eq_true (by kernel_rfl)) (of_decide_eq_true (by kernel_rfl)) (of_decide_eq_true (by kernel_rfl)) (of_decide_eq_true (by kernel_rfl)) classes_any pairs_any outs_any breaks_any picts_any conjs_any wides_any letters_any w⟩
/-! bytes of texts -/
theorem bytesN_nums {xs : List Int} (h : ∀ x ∈ xs, 0 ≤ x ∧ x ≤ 255) : bytesN (strOfNums xs) = xs := by
  unfold bytesN
  rw [strOfNums_data, List.map_map]
  have : ∀ x ∈ xs, ((fun b : UInt8 => ((b.toNat : Nat) : Int)) ∘ fun n : Int => UInt8.ofNat n.toNat) x = x := by
    intro x hx
    obtain ⟨h0, h1⟩ := h x hx
    show (((UInt8.ofNat x.toNat).toNat : Nat) : Int) = x
    rw [UInt8.toNat_ofNat']
    omega
  rw [List.map_congr_left this, List.map_id']
theorem bytesN_enc (l : List Int) : bytesN (enc l) = encN l := bytesN_nums (encN_rng l)
theorem bytesN_app (a b : ByteArray) : bytesN (a ++ b) = bytesN a ++ bytesN b := by
  unfold bytesN
  rw [ByteArray.data_append]
  simp
/-- texts one behind the other -/
def catG (b0 : ByteArray) (G : List Gy) : ByteArray := G.foldl (fun b g => b ++ g.1) b0
theorem catG_snoc (b0 : ByteArray) (G : List Gy) (g : Gy) : catG b0 (G ++ [g]) = catG b0 G ++ g.1 := by unfold catG; rw [List.foldl_append]; rfl
theorem bytesN_cat : ∀ (G : List Gy) (b0 : ByteArray), bytesN (catG b0 G) = bytesN b0 ++ G.flatMap (fun g => bytesN g.1)
  | [], b0 => by show bytesN b0 = _; simp
  | g :: G, b0 => by
    show bytesN (catG (b0 ++ g.1) G) = _
    rw [bytesN_cat G, bytesN_app, List.flatMap_cons, List.append_assoc]
theorem cat_scl (R : List Rw) (L : List (List Int)) : (L.map (rdG R)).flatMap (fun g => bytesN g.1) = encN L.flatten := by
  induction L with
  | nil => rfl
  | cons c L ih =>
    rw [List.map_cons, List.flatMap_cons, ih, List.flatten_cons]
    unfold encN
    rw [List.flatMap_append]
    congr 1
    exact bytesN_enc c
section
variable {R : List Rw}
theorem wid_dull {x : Int} (h : wideB R x = false) : widN R [x] = 1 := by
  unfold widN hitsF hitsF hitB
  rw [h]
  simp
theorem caret_rd (D : DullR R) (r : Int) : caretG r = (caretS r).map (rdG R) := by
  unfold caretG caretS
  split
  · rename_i hr
    have e1 : enc [94] = (⟨#[94]⟩ : ByteArray) := by decide
    have hv : validB (r + 64) = true := validB_iff.2 (.inl ⟨by omega, by omega⟩)
    have e2 : enc [r + 64] = strOfNums [r + 64] := by
      unfold enc encN
      rw [List.flatMap_cons, List.flatMap_nil, List.append_nil]
      unfold putN
      rw [fixR_ok hv, if_pos (by omega)]
    show _ = [rdG R [94], rdG R [r + 64]]
    unfold rdG
    rw [e1, e2, wid_dull (D.w 94 (by omega)), wid_dull (D.w (r + 64) (by omega))]
    rfl
  · split
    · have e1 : enc [94] = (⟨#[94]⟩ : ByteArray) := by decide
      have e2 : enc [63] = (⟨#[63]⟩ : ByteArray) := by decide
      show _ = [rdG R [94], rdG R [63]]
      unfold rdG
      rw [e1, e2, wid_dull (D.w 94 (by omega)), wid_dull (D.w 63 (by omega))]
      rfl
    · have e1 : enc [65533] = put 65533 := by unfold enc put encN; rw [List.flatMap_cons, List.flatMap_nil, List.append_nil]
      show _ = [rdG R [65533]]
      unfold rdG
      rw [e1, wid_dull (D.w 65533 (by omega))]
      rfl
theorem gl_scl (D : DullR R) (c : List Int) : glOf R c = (sclOf R c).map (rdG R) := by
  unfold glOf sclOf
  split
  · rfl
  · split
    · rw [List.map_flatMap]
      congr 1
      funext r
      exact caret_rd D r
    · rfl
theorem line_scl (D : DullR R) (LL : List (List Int)) : lineG R LL = (LL.flatMap (sclOf R)).map (rdG R) := by
  unfold lineG
  rw [List.map_flatMap]
  congr 1
  funext c
  exact gl_scl D c
theorem scl_valid {LL : List (List Int)} (h : ∀ c ∈ LL, ∀ x ∈ c, validB x = true) : ∀ g ∈ LL.flatMap (sclOf R), ∀ x ∈ g, validB x = true := by
  intro g hg x hx
  obtain ⟨c, hc, hg⟩ := List.mem_flatMap.1 hg
  unfold sclOf at hg
  split at hg
  · simp at hg
  · split at hg
    · obtain ⟨r, hr, hg⟩ := List.mem_flatMap.1 hg
      unfold caretS at hg
      split at hg
      · rename_i h32
        simp only [List.mem_cons, List.not_mem_nil, or_false] at hg
        rcases hg with rfl | rfl
        · simp at hx; subst hx; decide
        · simp at hx; subst hx; exact validB_iff.2 (.inl ⟨by omega, by omega⟩)
      · split at hg
        · simp only [List.mem_cons, List.not_mem_nil, or_false] at hg
          rcases hg with rfl | rfl <;> (simp at hx; subst hx; decide)
        · simp only [List.mem_cons, List.not_mem_nil, or_false] at hg
          subst hg
          simp at hx; subst hx; decide
    · simp only [List.mem_cons, List.not_mem_nil, or_false] at hg
      subst hg
      unfold lean at hx
      rcases List.mem_append.1 hx with hx | hx
      · rcases List.mem_append.1 hx with hx | hx
        · split at hx
          · simp at hx; subst hx; decide
          · simp at hx
        · exact h c hc x hx
      · split at hx
        · simp at hx; subst hx; decide
        · simp at hx
/-- from any on up to any: read again -/
theorem read_sub (D : DullR R) {s : List Int} (hv : ∀ x ∈ s, validB x = true) (a n : Nat) :
    readG R (decS Dc0 (bytesN (catG ⟨#[]⟩ (((lineG R (clus (tabOf R) s)).drop a).take n)))) = ((lineG R (clus (tabOf R) s)).drop a).take n := by
  have hval := scl_valid (R := R) (LL := clus (tabOf R) s) (fun c hc x hx => hv x (clus_mem (tabOf R) s.length s (Nat.le_refl _) c hc x hx))
  rw [line_scl D, ← List.map_drop, ← List.map_take, bytesN_cat, cat_scl]
  show readG R (decS Dc0 (encN _)) = _
  rw [dec_enc _ (fun x hx => by
    obtain ⟨g, hg, hx⟩ := List.mem_flatten.1 hx
    exact hval g (List.mem_of_mem_drop (List.mem_of_mem_take hg)) x hx)]
  unfold readG
  rw [reads_again D]
/-- between plain letters -/
theorem read_between (D : DullR R) {s : List Int} (hv : ∀ x ∈ s, validB x = true) :
    readG R (decS Dc0 (bytesN (catG ⟨#[120]⟩ (lineG R (clus (tabOf R) s)) ++ ⟨#[121]⟩))) = (⟨#[120]⟩, 1) :: lineG R (clus (tabOf R) s) ++ [(⟨#[121]⟩, 1)] := by
  have hval := scl_valid (R := R) (LL := clus (tabOf R) s) (fun c hc x hx => hv x (clus_mem (tabOf R) s.length s (Nat.le_refl _) c hc x hx))
  have e1 : enc [120] = (⟨#[120]⟩ : ByteArray) := by decide
  have e2 : enc [121] = (⟨#[121]⟩ : ByteArray) := by decide
  have b1 : bytesN (⟨#[120]⟩ : ByteArray) = encN [120] := by rw [← e1, bytesN_enc]
  have b2 : bytesN (⟨#[121]⟩ : ByteArray) = encN [121] := by rw [← e2, bytesN_enc]
  have h1 : rdG R [120] = (⟨#[120]⟩, 1) := by unfold rdG; rw [e1, wid_dull (D.w 120 (by omega))]; rfl
  have h2 : rdG R [121] = (⟨#[121]⟩, 1) := by unfold rdG; rw [e2, wid_dull (D.w 121 (by omega))]; rfl
  have he : encN [120] ++ encN ((clus (tabOf R) s).flatMap (sclOf R)).flatten ++ encN [121] = encN ([[120]] ++ (clus (tabOf R) s).flatMap (sclOf R) ++ [[121]]).flatten := by
    unfold encN
    rw [List.flatten_append, List.flatten_append, List.flatMap_append, List.flatMap_append]
    rfl
  rw [bytesN_app, bytesN_cat, line_scl D, cat_scl, b1, b2, he]
  rw [dec_enc _ (fun x hx => by
    obtain ⟨g, hg, hx⟩ := List.mem_flatten.1 hx
    rcases List.mem_append.1 hg with hg | hg
    · rcases List.mem_append.1 hg with hg | hg
      · simp at hg; subst hg; simp at hx; subst hx; decide
      · exact hval g hg x hx
    · simp at hg; subst hg; simp at hx; subst hx; decide)]
  unfold readG
  rw [reads_between D, List.map_append, List.map_append]
  show [rdG R [120]] ++ _ ++ [rdG R [121]] = _
  rw [h1, h2]
  rfl
end
end Go.Proofs.Ytkeainhjghdfcaa

/- GlyphReads: its walk. -/
namespace Go.Proofs.Ytkeainhjghdfcaa
open Go.RowKit

theorem eqin_cell_any (t : TypeId) (ht : Try.prog.underlying t = some (.struct (Try.prog.fieldsOf t))) (hp : Try.prog.stoodInHeld t = false) (f0 f1 : Field) (hf : (Try.prog.fieldsOf t).toList = [f0, f1]) (y0 : f0.type = 9) (y1 : f1.type = 3) (o0 : f0.offset = 0) (o1 : f1.offset = 1) (s1 : ByteArray) (d1 : Int) (w : World) :
    (Op.equalIn 10000 t (.agg #[.string s1, .int .i64 d1]) (.agg #[.string s1, .int .i64 d1])).run Try.prog w = .ok true w := by
  rw [run_equalIn_agg _ _ _ _ _ ht hp, hf]
  simp only [Op.eqFields, y0, y1, o0, o1]
  simp [go_sem]
set_option maxRecDepth 100000 in
theorem eqin_gly (s1 : ByteArray) (d1 : Int) (w : World) : (Op.equalIn 10000 36 (.agg #[.string s1, .int .i64 d1]) (.agg #[.string s1, .int .i64 d1])).run Try.prog w = .ok true w :=
  eqin_cell_any 36 (by kernel_rfl) (by kernel_rfl) _ _ rfl rfl rfl rfl rfl _ _ w
theorem scl_len (R : List Rw) : ∀ LL : List (List Int), ((LL.flatMap (sclOf R)).flatten).length ≤ 3 * LL.flatten.length
  | [] => by simp
  | c :: LL => by
    have ih := scl_len R LL
    have hc : (sclOf R c).flatten.length ≤ 3 * c.length := by
      unfold sclOf
      split
      · simp
      · rename_i hne
        split
        · have hf : ∀ s : List Int, (s.flatMap caretS).flatten.length ≤ 2 * s.length := fun s => by
            induction s with
            | nil => simp
            | cons r s ih =>
              rw [List.flatMap_cons, List.flatten_append, List.length_append, List.length_cons]
              have : (caretS r).flatten.length ≤ 2 := by unfold caretS; split; · simp
                                                         split <;> simp
              omega
          have := hf c
          omega
        · have hpos : 0 < c.length := List.length_pos_iff.2 hne
          show ([lean R c]).flatten.length ≤ _
          unfold lean
          have h1 : (if dotB ((tabOf R).b (c.headD 0)) = true then ([9676] : List Int) else []).length ≤ 1 := by split <;> simp
          have h2 : (if (tabOf R).b (c.getLastD 0) = 7 then ([9676] : List Int) else []).length ≤ 1 := by split <;> simp
          simp only [List.flatten_cons, List.flatten_nil, List.append_nil, List.length_append]
          omega
    rw [List.flatMap_cons, List.flatten_append, List.length_append, List.flatten_cons, List.length_append]
    omega
theorem cat_size {R : List Rw} (D : DullR R) (s : List Int) (b0 : ByteArray) (a n : Nat) : (catG b0 (((lineG R (clus (tabOf R) s)).drop a).take n)).size ≤ b0.size + 12 * s.length := by
  have h1 := scl_len R (clus (tabOf R) s)
  rw [clus_flat (tabOf R) s.length s (Nat.le_refl _)] at h1
  rw [← bytesN_len, line_scl D, ← List.map_drop, ← List.map_take, bytesN_cat, cat_scl, List.length_append, bytesN_len]
  have h2 := encN_len ((((clus (tabOf R) s).flatMap (sclOf R)).drop a).take n).flatten
  have h3 : ((((clus (tabOf R) s).flatMap (sclOf R)).drop a).take n).flatten.length ≤ ((clus (tabOf R) s).flatMap (sclOf R)).flatten.length := by
    have e1 := congrArg List.length (congrArg List.flatten (List.take_append_drop a ((clus (tabOf R) s).flatMap (sclOf R))))
    have e2 := congrArg List.length (congrArg List.flatten (List.take_append_drop n (((clus (tabOf R) s).flatMap (sclOf R)).drop a)))
    rw [List.flatten_append, List.length_append] at e1 e2
    omega
  omega
theorem cat_next {G : List Gy} {b0 : ByteArray} {a k : Nat} {g : Gy} (hg : G[a + k]? = some g) : catG b0 ((G.drop a).take (k + 1)) = catG b0 ((G.drop a).take k) ++ g.1 := by
  rw [List.take_add_one, List.getElem?_drop, hg]
  exact catG_snoc _ _ _
/-- a % n, brought to 0 .. n - 1 -/
theorem rem_fact (i : Int) (m : Nat) : ∃ (x1 : Int) (j : Nat), x1 = i.tmod ((m : Int) + 1) ∧ (j : Int) = (x1 + ((m : Int) + 1)) % ((m : Int) + 1) ∧ j ≤ m ∧ x1 < (m : Int) + 1 ∧ -((m : Int) + 1) < x1 := by
  obtain ⟨x1, hx1⟩ : ∃ x1, x1 = i.tmod ((m : Int) + 1) := ⟨_, rfl⟩
  have b1 : x1 < (m : Int) + 1 := by rw [hx1]; exact Int.tmod_lt_of_pos i (by omega)
  have b2 : -((m : Int) + 1) < x1 := by
    rcases Int.le_total 0 i with h | h
    · have := Int.tmod_nonneg ((m : Int) + 1) h; omega
    · have h1 := Int.tmod_lt_of_pos (-i) (b := (m : Int) + 1) (by omega)
      rw [Int.neg_tmod] at h1
      omega
  have h1 := Int.emod_nonneg (x1 + ((m : Int) + 1)) (b := (m : Int) + 1) (by omega)
  have h2 := Int.emod_lt_of_pos (x1 + ((m : Int) + 1)) (b := (m : Int) + 1) (by omega)
  exact ⟨x1, ((x1 + ((m : Int) + 1)) % ((m : Int) + 1)).toNat, hx1, by omega, by omega, b1, b2⟩
end Go.Proofs.Ytkeainhjghdfcaa

/- PanSees: its walk. -/
namespace Go.Proofs.Ytkeainhjghdfcaa
open Go.RowKit

/-- (a % n + m + 1) % n, n = m + 1: brought to 0 .. m -/
theorem rem_fact2 (i : Int) (m : Nat) : ∃ (x1 : Int) (j : Nat), x1 = i.tmod ((m : Int) + 1) ∧ (j : Int) = (x1 + (m : Int) + 1) % ((m : Int) + 1) ∧ j ≤ m ∧ x1 < (m : Int) + 1 ∧ -((m : Int) + 1) < x1 := by
  obtain ⟨x1, j, h1, h2, h3⟩ := rem_fact i m
  exact ⟨x1, j, h1, by rw [h2, Int.add_assoc], h3⟩
set_option maxRecDepth 100000 in
set_option maxHeartbeats 8000000 in
theorem panSees_any (v0 : Value) (L : List Gy) (at0 cols0 : Int) (w : World) (hl : GlyIn w v0 L) :
    Calls Try.prog 3 #[v0, .int .i64 at0, .int .i64 cols0] w fun e w' => e = .returned (.bool true) ∧ Below w.heap.size w w' := by
  have HFew := Lib.hid (few48_any hl)
  have hGl := few48_len L
  have hGw := few48_w12 L
  clear hl
  generalize few48 L = G at HFew hGl hGw
  obtain ⟨x1, at', hx1, hat, hatn, b1, b2⟩ := rem_fact2 at0 G.length
  have e0 : bits .and .i64 cols0 31 = cols0 % 32 := i64_and_mask 5 (by decide) cols0
  have e01 := IntWalk.i64_in (4 + cols0 % 32) (by omega)
  obtain ⟨cols, hcols⟩ : ∃ c : Int, c = 4 + cols0 % 32 := ⟨_, rfl⟩
  have hc4 : 4 ≤ cols := by omega
  have hc5 : cols ≤ 35 := by omega
  have hcols2 := hcols.symm
  have HCho := Lib.hid (fun (W : World) (v : Value) (h : GlyIn W v G) => choose_yes h hGw (by omega) hatn hc4 (by omega))
  have hsee := cho_sees hGw (at' := at') (cols := cols) (by rw [wdL_len]; exact hatn) hc4
  generalize hsh : choF (wdL G) at' cols = sh at hsee HCho
  have HW := Lib.hid hGw
  have e1 := IntWalk.i64_in ((G.length : Int) + 1) (by omega)
  have e2 := IntWalk.i64_in x1 (by omega)
  have e3 := IntWalk.i64_in (x1 + (G.length : Int)) (by omega)
  have e4 := IntWalk.i64_in (x1 + (G.length : Int) + 1) (by omega)
  have e5 := IntWalk.i64_in (at' : Int) (by omega)
  have hne : ¬ (G.length : Int) + 1 = 0 := by omega
  have hne1 : ¬ (G.length : Int) + 1 = -1 := by omega
  have q1 := hx1.symm
  have q2 := hat.symm
  clear hx1 hat hsh hcols hGw
  go_enter Try.func3, Try.ntmps3
  go_wp2_with fail
  refine HFew.out.mono ?_
  rintro e w1 ⟨va, vb, rfl, hB1, hA1, hC1⟩
  have HB1 := Lib.hid hB1
  have HA1 := Lib.hid hA1
  have HC1 := Lib.hid hC1
  obtain ⟨ga, gc, rfl, hg1, hg2⟩ := gly_shape hA1
  obtain ⟨ra, rc, rfl, hr1, hr2⟩ := gly_shape hC1
  unfold maxLen at hg2 hr2
  clear hB1 hA1 hC1 HFew
  go_upto_region 4 with fail
  rw [q2]
  clear q1 q2 e0 e01 e1 e2 e3 e4 e5 hne hne1 b1 b2 hcols2
  go_wp2_with fail
  refine (HCho.out _ _ HA1.out).mono ?_
  rintro e w2 ⟨rfl, hB2⟩
  obtain ⟨fr, tt, ah, be, col⟩ := sh
  dsimp only at hsee
  obtain ⟨h1, h2, h3, h4, h5, h6, h7, h8, h9⟩ := hsee
  rw [wdL_len] at h3 h6
  have g5 : (ah != decide (0 < (fr : Int))) = false := by
    rw [h4]
    by_cases hf : 0 < fr
    · rw [decide_eq_true hf, decide_eq_true (show (0 : Int) < (fr : Int) by omega)]; rfl
    · rw [decide_eq_false hf, decide_eq_false (show ¬ (0 : Int) < (fr : Int) by omega)]; rfl
  have H5 := Lib.hid h5
  have H6 := Lib.hid h6
  clear h4 h5 h6
  unfold shV
  have HB3 := Lib.hid (below_new (below_trans' HB1.out hB2) (.cells #[.int .i64 (fr : Int), .int .i64 (tt : Int), .bool ah, .bool be, .int .i64 col] 27))
  have hn3 := heap_alloc_new w2 (.cells #[.int .i64 (fr : Int), .int .i64 (tt : Int), .bool ah, .bool be, .int .i64 col] 27)
  have HC3 := Lib.hid ((HC1.out.below hB2).below (below1 w2 (.cells #[.int .i64 (fr : Int), .int .i64 (tt : Int), .bool ah, .bool be, .int .i64 col] 27)))
  have hz3 : (w2.alloc (.cells #[.int .i64 (fr : Int), .int .i64 (tt : Int), .bool ah, .bool be, .int .i64 col] 27)).heap.size = w2.heap.size + 1 := by simp
  clear hB2 HB1 HA1 HC1 HCho
  go_upto_region 5 with fail
  generalize w2.alloc (.cells #[.int .i64 (fr : Int), .int .i64 (tt : Int), .bool ah, .bool be, .int .i64 col] 27) = w3 at HB3 hn3 HC3 hz3 ⊢
  generalize w2.heap.size = p at hn3 hz3 ⊢
  have y0 := row_cells (i := 0) hn3 rfl
  have y1 := row_cells (i := 1) hn3 rfl
  have y2 := row_cells (i := 2) hn3 rfl
  have y3 := row_cells (i := 3) hn3 rfl
  have y4 := row_cells (i := 4) hn3 rfl
  have y0 : w3.cell? ⟨p, 0, none⟩ = some (.int .i64 (fr : Int)) := y0
  have y1 : w3.cell? ⟨p, 1, none⟩ = some (.int .i64 (tt : Int)) := y1
  have y2 : w3.cell? ⟨p, 2, none⟩ = some (.bool ah) := y2
  have y3 : w3.cell? ⟨p, 3, none⟩ = some (.bool be) := y3
  have y4 : w3.cell? ⟨p, 4, none⟩ = some (.int .i64 col) := y4
  have HWd := Lib.hid (fun (W : World) (h : GlyIn W (.slice ra G.length rc) G) => pdwide_any h hatn (by omega))
  have hrg := wdA_rng HW.out at'
  have hsr := sW_rng HW.out fr tt
  rw [wdL_len] at hsr
  generalize hwd : wdA (wdL G) at' = wd at h8 HWd hrg
  have HWt := Lib.hid (fun (W : World) (h : GlyIn W (.slice ra G.length rc) G) => pdwidth_any h HW.out (by omega) (Nat.le_trans h1 h2) h3)
  generalize hwt : sW (wdL G) fr tt = wt at h9 HWt hsr
  have g1 : decide ((fr : Int) < 0) = false := decide_eq_false (by omega)
  have g2 : decide ((at' : Int) < (fr : Int)) = false := decide_eq_false (by omega)
  have g3 : decide ((tt : Int) < (at' : Int)) = false := decide_eq_false (by omega)
  have g4 : decide ((G.length : Int) < (tt : Int)) = false := decide_eq_false (by omega)
  have f1 := IntWalk.i64_in (cols - 1) (by omega)
  have h5' : be = true → ¬ tt = at' := H5.out
  have h6' : be = false → tt = G.length := H6.out
  clear hn3 hwd hwt H5 H6
  cases ah <;> cases be <;> simp only [Bool.false_eq_true, if_true, if_false, forall_const, false_imp_iff, reduceCtorEq] at h5' h6' h7 h8 h9
  all_goals
    have f2 := IntWalk.i64_in (col + wd) (by omega)
    first | have f3 := IntWalk.i64_in (0 + wt) (by omega) | skip
    first | have f4 := IntWalk.i64_in (1 + wt) (by omega) | skip
  · have h6' := h6'
    subst h6'
    have g6 : decide (0 < (fr : Int)) = false := by revert g5; cases decide (0 < (fr : Int)) <;> simp
    clear g5
    have n1 : ¬ at' < fr := by omega
    have n2 : ¬ G.length < at' := by omega
    have n3 : ¬ 0 < fr := by have := g6; simp at this; omega
    have k1 : decide ((0 : Int) ≤ col) = true := decide_eq_true h7
    have k2 : decide (col + wd ≤ cols) = true := decide_eq_true h8
    have f6 := IntWalk.i64_in wt (by omega)
    have k3 : decide (wt ≤ cols) = true := decide_eq_true (by omega)
    have k5 : wt ≤ cols := by omega
    clear h7 h8 h9 h5'
    go_upto_region 17 with fail
    refine wp_region_held_drew (S := fun w' => w'.cell? ⟨p, 4, none⟩ = some (.int .i64 col) ∧ w'.cell? ⟨p, 0, none⟩ = some (.int .i64 (fr : Int)) ∧ w'.cell? ⟨p, 1, none⟩ = some (.int .i64 ((G.length : Nat) : Int))) (by kernel_rfl) ⟨y4, y0, y1⟩ (fun hHeld => ?_)
    refine hd_take 0 rfl (by kernel_rfl) (by kernel_rfl) (by kernel_rfl) (fun _ _ _ h => h) (by rfl) (by intro w hSw; (try dsimp only at hSw); obtain ⟨z4, z0, z1⟩ := hSw; go_simp; first | done | with_reducible rfl) hHeld ?_
    try simp only [Act.put, List.setIfInBounds_toArray, List.set_cons_zero, List.set_cons_succ]
    refine hd_take 1 rfl (by kernel_rfl) (by kernel_rfl) (by kernel_rfl) (fun _ _ _ h => h) (by rfl) (by intro w hSw; (try dsimp only at hSw); obtain ⟨z4, z0, z1⟩ := hSw; go_simp; first | done | with_reducible rfl) hHeld ?_
    try simp only [Act.put, List.setIfInBounds_toArray, List.set_cons_zero, List.set_cons_succ]
    refine hd_take 2 rfl (by kernel_rfl) (by kernel_rfl) (by kernel_rfl) (fun _ _ _ h => h) (by rfl) (by intro w hSw; (try dsimp only at hSw); obtain ⟨z4, z0, z1⟩ := hSw; go_simp; first | done | with_reducible rfl) hHeld ?_
    try simp only [Act.put, List.setIfInBounds_toArray, List.set_cons_zero, List.set_cons_succ]
    refine hd_take (v := .bool true) 3 rfl (by kernel_rfl) (by kernel_rfl) (by kernel_rfl) (fun _ _ _ h => h) (by rfl) (by intro w hSw; (try dsimp only at hSw); obtain ⟨z4, z0, z1⟩ := hSw; go_simp; first | done | with_reducible rfl) hHeld ?_
    try simp only [Act.put, List.setIfInBounds_toArray, List.set_cons_zero, List.set_cons_succ]
    refine hd_take 4 rfl (by kernel_rfl) (by kernel_rfl) (by kernel_rfl) (fun _ _ _ h => h) (by rfl) (by intro w hSw; (try dsimp only at hSw); obtain ⟨z4, z0, z1⟩ := hSw; go_simp; first | done | with_reducible rfl) hHeld ?_
    try simp only [Act.put, List.setIfInBounds_toArray, List.set_cons_zero, List.set_cons_succ]
    refine hd_take 5 rfl (by kernel_rfl) (by kernel_rfl) (by kernel_rfl) (fun _ _ _ h => h) (by rfl) (by intro w hSw; (try dsimp only at hSw); obtain ⟨z4, z0, z1⟩ := hSw; go_simp; first | done | with_reducible rfl) hHeld ?_
    try simp only [Act.put, List.setIfInBounds_toArray, List.set_cons_zero, List.set_cons_succ]
    refine hd_take 6 rfl (by kernel_rfl) (by kernel_rfl) (by kernel_rfl) (fun _ _ _ h => h) (by rfl) (by intro w hSw; (try dsimp only at hSw); obtain ⟨z4, z0, z1⟩ := hSw; go_simp; first | done | with_reducible rfl) hHeld ?_
    try simp only [Act.put, List.setIfInBounds_toArray, List.set_cons_zero, List.set_cons_succ]
    refine hd_take 7 rfl (by kernel_rfl) (by kernel_rfl) (by kernel_rfl) (fun _ _ _ h => h) (by rfl) (by intro w hSw; (try dsimp only at hSw); obtain ⟨z4, z0, z1⟩ := hSw; go_simp; first | done | with_reducible rfl) hHeld ?_
    try simp only [Act.put, List.setIfInBounds_toArray, List.set_cons_zero, List.set_cons_succ]
    refine hd_take 8 rfl (by kernel_rfl) (by kernel_rfl) (by kernel_rfl) (fun _ _ _ h => h) (by rfl) (by intro w hSw; (try dsimp only at hSw); obtain ⟨z4, z0, z1⟩ := hSw; go_simp; first | done | with_reducible rfl) hHeld ?_
    try simp only [Act.put, List.setIfInBounds_toArray, List.set_cons_zero, List.set_cons_succ]
    refine hd_take 11 rfl (by kernel_rfl) (by kernel_rfl) (by kernel_rfl) (fun _ _ _ h => h) (by rfl) (by intro w hSw; (try dsimp only at hSw); obtain ⟨z4, z0, z1⟩ := hSw; go_simp; first | done | with_reducible rfl) hHeld ?_
    try simp only [Act.put, List.setIfInBounds_toArray, List.set_cons_zero, List.set_cons_succ]
    refine hd_step 9 (by kernel_rfl) rfl (fun K hK => ?_)
    go_simp
    go_at_call 6
    refine (HWd.out _ (HC3.out.below (below_dN (.refl _ _) 1))).mono ?_
    rintro e w4 ⟨rfl, rfl⟩
    refine hK.out _ _ ⟨y4, y0, y1⟩ (fun hHeld => ?_)
    clear hK K
    try simp only [Act.put, List.setIfInBounds_toArray, List.set_cons_zero, List.set_cons_succ]
    refine hd_take 10 rfl (by kernel_rfl) (by kernel_rfl) (by kernel_rfl) (fun _ _ _ h => h) (by rfl) (by intro w hSw; (try dsimp only at hSw); obtain ⟨z4, z0, z1⟩ := hSw; go_simp; first | done | with_reducible rfl) hHeld ?_
    try simp only [Act.put, List.setIfInBounds_toArray, List.set_cons_zero, List.set_cons_succ]
    refine hd_take (v := .bool true) 12 rfl (by kernel_rfl) (by kernel_rfl) (by kernel_rfl) (fun _ _ _ h => h) (by rfl) (by intro w hSw; (try dsimp only at hSw); obtain ⟨z4, z0, z1⟩ := hSw; go_simp; first | done | with_reducible rfl) hHeld ?_
    try simp only [Act.put, List.setIfInBounds_toArray, List.set_cons_zero, List.set_cons_succ]
    refine hd_take 13 rfl (by kernel_rfl) (by kernel_rfl) (by kernel_rfl) (fun _ _ _ h => h) (by rfl) (by intro w hSw; (try dsimp only at hSw); obtain ⟨z4, z0, z1⟩ := hSw; go_simp; first | done | with_reducible rfl) hHeld ?_
    try simp only [Act.put, List.setIfInBounds_toArray, List.set_cons_zero, List.set_cons_succ]
    refine hd_take 14 rfl (by kernel_rfl) (by kernel_rfl) (by kernel_rfl) (fun _ _ _ h => h) (by rfl) (by intro w hSw; (try dsimp only at hSw); obtain ⟨z4, z0, z1⟩ := hSw; go_simp; first | done | with_reducible rfl) hHeld ?_
    try simp only [Act.put, List.setIfInBounds_toArray, List.set_cons_zero, List.set_cons_succ]
    refine hd_take 15 rfl (by kernel_rfl) (by kernel_rfl) (by kernel_rfl) (fun _ _ _ h => h) (by rfl) (by intro w hSw; (try dsimp only at hSw); obtain ⟨z4, z0, z1⟩ := hSw; go_simp; first | done | with_reducible rfl) hHeld ?_
    try simp only [Act.put, List.setIfInBounds_toArray, List.set_cons_zero, List.set_cons_succ]
    refine hd_take 16 rfl (by kernel_rfl) (by kernel_rfl) (by kernel_rfl) (fun _ _ _ h => h) (by rfl) (by intro w hSw; (try dsimp only at hSw); obtain ⟨z4, z0, z1⟩ := hSw; go_simp; first | done | with_reducible rfl) hHeld ?_
    try simp only [Act.put, List.setIfInBounds_toArray, List.set_cons_zero, List.set_cons_succ]
    refine hd_take 17 rfl (by kernel_rfl) (by kernel_rfl) (by kernel_rfl) (fun _ _ _ h => h) (by rfl) (by intro w hSw; (try dsimp only at hSw); obtain ⟨z4, z0, z1⟩ := hSw; go_simp; first | done | with_reducible rfl) hHeld ?_
    try simp only [Act.put, List.setIfInBounds_toArray, List.set_cons_zero, List.set_cons_succ]
    refine hd_take 18 rfl (by kernel_rfl) (by kernel_rfl) (by kernel_rfl) (fun _ _ _ h => h) (by rfl) (by intro w hSw; (try dsimp only at hSw); obtain ⟨z4, z0, z1⟩ := hSw; go_simp; first | done | with_reducible rfl) hHeld ?_
    try simp only [Act.put, List.setIfInBounds_toArray, List.set_cons_zero, List.set_cons_succ]
    refine hd_take 19 rfl (by kernel_rfl) (by kernel_rfl) (by kernel_rfl) (fun _ _ _ h => h) (by rfl) (by intro w hSw; (try dsimp only at hSw); obtain ⟨z4, z0, z1⟩ := hSw; go_simp; first | done | with_reducible rfl) hHeld ?_
    try simp only [Act.put, List.setIfInBounds_toArray, List.set_cons_zero, List.set_cons_succ]
    refine hd_take 20 rfl (by kernel_rfl) (by kernel_rfl) (by kernel_rfl) (fun _ _ _ h => h) (by rfl) (by intro w hSw; (try dsimp only at hSw); obtain ⟨z4, z0, z1⟩ := hSw; go_simp; first | done | with_reducible rfl) hHeld ?_
    try simp only [Act.put, List.setIfInBounds_toArray, List.set_cons_zero, List.set_cons_succ]
    refine hd_take 23 rfl (by kernel_rfl) (by kernel_rfl) (by kernel_rfl) (fun _ _ _ h => h) (by rfl) (by intro w hSw; (try dsimp only at hSw); obtain ⟨z4, z0, z1⟩ := hSw; go_simp; first | done | with_reducible rfl) hHeld ?_
    try simp only [Act.put, List.setIfInBounds_toArray, List.set_cons_zero, List.set_cons_succ]
    refine hd_step 21 (by kernel_rfl) rfl (fun K hK => ?_)
    go_simp
    go_at_call 7
    refine (HWt.out _ (HC3.out.below (below_dN (.refl _ _) 1))).mono ?_
    rintro e w5 ⟨rfl, hB5⟩
    have HB5 := Lib.hid (below_trans' HB3.out (below_trans' (below_dN (.refl _ _) 1) hB5))
    have y0 := cell_later hB5 (show w3.drew.cell? _ = _ from y0)
    have y1 := cell_later hB5 (show w3.drew.cell? _ = _ from y1)
    have y4 := cell_later hB5 (show w3.drew.cell? _ = _ from y4)
    clear hB5
    refine hK.out _ _ ⟨y4, y0, y1⟩ (fun hHeld => ?_)
    clear hK K
    try simp only [Act.put, List.setIfInBounds_toArray, List.set_cons_zero, List.set_cons_succ]
    refine hd_take 22 rfl (by kernel_rfl) (by kernel_rfl) (by kernel_rfl) (fun _ _ _ h => h) (by rfl) (by intro w hSw; (try dsimp only at hSw); obtain ⟨z4, z0, z1⟩ := hSw; go_simp; first | done | with_reducible rfl) hHeld ?_
    try simp only [Act.put, List.setIfInBounds_toArray, List.set_cons_zero, List.set_cons_succ]
    refine hd_take (v := .bool true) 24 rfl (by kernel_rfl) (by kernel_rfl) (by kernel_rfl) (fun _ _ _ h => h) (by rfl) (by intro w hSw; (try dsimp only at hSw); obtain ⟨z4, z0, z1⟩ := hSw; go_simp; first | done | with_reducible rfl) hHeld ?_
    try simp only [Act.put, List.setIfInBounds_toArray, List.set_cons_zero, List.set_cons_succ]
    refine hd_take 25 rfl (by kernel_rfl) (by kernel_rfl) (by kernel_rfl) (fun _ _ _ h => h) (by rfl) (by intro w hSw; (try dsimp only at hSw); obtain ⟨z4, z0, z1⟩ := hSw; go_simp; first | done | with_reducible rfl) hHeld ?_
    try simp only [Act.put, List.setIfInBounds_toArray, List.set_cons_zero, List.set_cons_succ]
    refine hd_take 26 rfl (by kernel_rfl) (by kernel_rfl) (by kernel_rfl) (fun _ _ _ h => h) (by rfl) (by intro w hSw; (try dsimp only at hSw); obtain ⟨z4, z0, z1⟩ := hSw; go_simp; first | done | with_reducible rfl) hHeld ?_
    try simp only [Act.put, List.setIfInBounds_toArray, List.set_cons_zero, List.set_cons_succ]
    refine hd_step 27 (by kernel_rfl) rfl (fun K hK => ?_)
    go_simp
    go_at_call 8
    refine (awake48_any _).mono ?_
    rintro e w6 ⟨rfl, hB6⟩
    have HB6 := Lib.hid (below_trans' HB5.out hB6)
    have y0 := cell_later hB6 y0
    have y1 := cell_later hB6 y1
    have y4 := cell_later hB6 y4
    clear hB6
    refine hK.out _ _ ⟨y4, y0, y1⟩ (fun hHeld => ?_)
    clear hK K
    try simp only [Act.put, List.setIfInBounds_toArray, List.set_cons_zero, List.set_cons_succ]
    refine hd_take 28 rfl (by kernel_rfl) (by kernel_rfl) (by kernel_rfl) (fun _ _ _ h => h) (by rfl) (by intro w hSw; (try dsimp only at hSw); obtain ⟨z4, z0, z1⟩ := hSw; go_simp; first | done | with_reducible rfl) hHeld ?_
    try simp only [Act.put, List.setIfInBounds_toArray, List.set_cons_zero, List.set_cons_succ]
    refine hd_take 29 rfl (by kernel_rfl) (by kernel_rfl) (by kernel_rfl) (fun _ _ _ h => h) (by rfl) (by intro w hSw; (try dsimp only at hSw); obtain ⟨z4, z0, z1⟩ := hSw; go_simp; first | done | with_reducible rfl) hHeld ?_
    try simp only [Act.put, List.setIfInBounds_toArray, List.set_cons_zero, List.set_cons_succ]
    refine wpAnyH_done (by kernel_rfl) ?_ _
    clear hHeld
    go_wp2_with fail
    go_ret
    exact ⟨rfl, HB6.out⟩
  · have k4 : ((tt : Int) == (at' : Int)) = false := by rw [beq_eq_false_iff_ne]; omega
    have g6 : decide (0 < (fr : Int)) = false := by revert g5; cases decide (0 < (fr : Int)) <;> simp
    clear g5
    have n1 : ¬ at' < fr := by omega
    have n2 : ¬ tt < at' := by omega
    have n3 : ¬ 0 < fr := by have := g6; simp at this; omega
    have n5 : ¬ G.length < tt := by omega
    have k1 : decide ((0 : Int) ≤ col) = true := decide_eq_true h7
    have k2 : decide (col + wd ≤ (cols - 1)) = true := decide_eq_true h8
    have f6 := IntWalk.i64_in wt (by omega)
    have k3 : decide (wt ≤ (cols - 1)) = true := decide_eq_true (by omega)
    have k5 : wt ≤ (cols - 1) := by omega
    clear h7 h8 h9 h5' h6'
    go_upto_region 17 with fail
    refine wp_region_held_drew (S := fun w' => w'.cell? ⟨p, 4, none⟩ = some (.int .i64 col) ∧ w'.cell? ⟨p, 0, none⟩ = some (.int .i64 (fr : Int)) ∧ w'.cell? ⟨p, 1, none⟩ = some (.int .i64 ((tt : Nat) : Int))) (by kernel_rfl) ⟨y4, y0, y1⟩ (fun hHeld => ?_)
    refine hd_take 0 rfl (by kernel_rfl) (by kernel_rfl) (by kernel_rfl) (fun _ _ _ h => h) (by rfl) (by intro w hSw; (try dsimp only at hSw); obtain ⟨z4, z0, z1⟩ := hSw; go_simp; first | done | with_reducible rfl) hHeld ?_
    try simp only [Act.put, List.setIfInBounds_toArray, List.set_cons_zero, List.set_cons_succ]
    refine hd_take 1 rfl (by kernel_rfl) (by kernel_rfl) (by kernel_rfl) (fun _ _ _ h => h) (by rfl) (by intro w hSw; (try dsimp only at hSw); obtain ⟨z4, z0, z1⟩ := hSw; go_simp; first | done | with_reducible rfl) hHeld ?_
    try simp only [Act.put, List.setIfInBounds_toArray, List.set_cons_zero, List.set_cons_succ]
    refine hd_take 2 rfl (by kernel_rfl) (by kernel_rfl) (by kernel_rfl) (fun _ _ _ h => h) (by rfl) (by intro w hSw; (try dsimp only at hSw); obtain ⟨z4, z0, z1⟩ := hSw; go_simp; first | done | with_reducible rfl) hHeld ?_
    try simp only [Act.put, List.setIfInBounds_toArray, List.set_cons_zero, List.set_cons_succ]
    refine hd_take (v := .bool true) 3 rfl (by kernel_rfl) (by kernel_rfl) (by kernel_rfl) (fun _ _ _ h => h) (by rfl) (by intro w hSw; (try dsimp only at hSw); obtain ⟨z4, z0, z1⟩ := hSw; go_simp; first | done | with_reducible rfl) hHeld ?_
    try simp only [Act.put, List.setIfInBounds_toArray, List.set_cons_zero, List.set_cons_succ]
    refine hd_take 4 rfl (by kernel_rfl) (by kernel_rfl) (by kernel_rfl) (fun _ _ _ h => h) (by rfl) (by intro w hSw; (try dsimp only at hSw); obtain ⟨z4, z0, z1⟩ := hSw; go_simp; first | done | with_reducible rfl) hHeld ?_
    try simp only [Act.put, List.setIfInBounds_toArray, List.set_cons_zero, List.set_cons_succ]
    refine hd_take 5 rfl (by kernel_rfl) (by kernel_rfl) (by kernel_rfl) (fun _ _ _ h => h) (by rfl) (by intro w hSw; (try dsimp only at hSw); obtain ⟨z4, z0, z1⟩ := hSw; go_simp; first | done | with_reducible rfl) hHeld ?_
    try simp only [Act.put, List.setIfInBounds_toArray, List.set_cons_zero, List.set_cons_succ]
    refine hd_take 6 rfl (by kernel_rfl) (by kernel_rfl) (by kernel_rfl) (fun _ _ _ h => h) (by rfl) (by intro w hSw; (try dsimp only at hSw); obtain ⟨z4, z0, z1⟩ := hSw; go_simp; first | done | with_reducible rfl) hHeld ?_
    try simp only [Act.put, List.setIfInBounds_toArray, List.set_cons_zero, List.set_cons_succ]
    refine hd_take 7 rfl (by kernel_rfl) (by kernel_rfl) (by kernel_rfl) (fun _ _ _ h => h) (by rfl) (by intro w hSw; (try dsimp only at hSw); obtain ⟨z4, z0, z1⟩ := hSw; go_simp; first | done | with_reducible rfl) hHeld ?_
    try simp only [Act.put, List.setIfInBounds_toArray, List.set_cons_zero, List.set_cons_succ]
    refine hd_take 8 rfl (by kernel_rfl) (by kernel_rfl) (by kernel_rfl) (fun _ _ _ h => h) (by rfl) (by intro w hSw; (try dsimp only at hSw); obtain ⟨z4, z0, z1⟩ := hSw; go_simp; first | done | with_reducible rfl) hHeld ?_
    try simp only [Act.put, List.setIfInBounds_toArray, List.set_cons_zero, List.set_cons_succ]
    refine hd_take 11 rfl (by kernel_rfl) (by kernel_rfl) (by kernel_rfl) (fun _ _ _ h => h) (by rfl) (by intro w hSw; (try dsimp only at hSw); obtain ⟨z4, z0, z1⟩ := hSw; go_simp; first | done | with_reducible rfl) hHeld ?_
    try simp only [Act.put, List.setIfInBounds_toArray, List.set_cons_zero, List.set_cons_succ]
    refine hd_step 9 (by kernel_rfl) rfl (fun K hK => ?_)
    go_simp
    go_at_call 6
    refine (HWd.out _ (HC3.out.below (below_dN (.refl _ _) 1))).mono ?_
    rintro e w4 ⟨rfl, rfl⟩
    refine hK.out _ _ ⟨y4, y0, y1⟩ (fun hHeld => ?_)
    clear hK K
    try simp only [Act.put, List.setIfInBounds_toArray, List.set_cons_zero, List.set_cons_succ]
    refine hd_take 10 rfl (by kernel_rfl) (by kernel_rfl) (by kernel_rfl) (fun _ _ _ h => h) (by rfl) (by intro w hSw; (try dsimp only at hSw); obtain ⟨z4, z0, z1⟩ := hSw; go_simp; first | done | with_reducible rfl) hHeld ?_
    try simp only [Act.put, List.setIfInBounds_toArray, List.set_cons_zero, List.set_cons_succ]
    refine hd_take (v := .bool true) 12 rfl (by kernel_rfl) (by kernel_rfl) (by kernel_rfl) (fun _ _ _ h => h) (by rfl) (by intro w hSw; (try dsimp only at hSw); obtain ⟨z4, z0, z1⟩ := hSw; go_simp; first | done | with_reducible rfl) hHeld ?_
    try simp only [Act.put, List.setIfInBounds_toArray, List.set_cons_zero, List.set_cons_succ]
    refine hd_take 13 rfl (by kernel_rfl) (by kernel_rfl) (by kernel_rfl) (fun _ _ _ h => h) (by rfl) (by intro w hSw; (try dsimp only at hSw); obtain ⟨z4, z0, z1⟩ := hSw; go_simp; first | done | with_reducible rfl) hHeld ?_
    try simp only [Act.put, List.setIfInBounds_toArray, List.set_cons_zero, List.set_cons_succ]
    refine hd_take 14 rfl (by kernel_rfl) (by kernel_rfl) (by kernel_rfl) (fun _ _ _ h => h) (by rfl) (by intro w hSw; (try dsimp only at hSw); obtain ⟨z4, z0, z1⟩ := hSw; go_simp; first | done | with_reducible rfl) hHeld ?_
    try simp only [Act.put, List.setIfInBounds_toArray, List.set_cons_zero, List.set_cons_succ]
    refine hd_take 15 rfl (by kernel_rfl) (by kernel_rfl) (by kernel_rfl) (fun _ _ _ h => h) (by rfl) (by intro w hSw; (try dsimp only at hSw); obtain ⟨z4, z0, z1⟩ := hSw; go_simp; first | done | with_reducible rfl) hHeld ?_
    try simp only [Act.put, List.setIfInBounds_toArray, List.set_cons_zero, List.set_cons_succ]
    refine hd_take 16 rfl (by kernel_rfl) (by kernel_rfl) (by kernel_rfl) (fun _ _ _ h => h) (by rfl) (by intro w hSw; (try dsimp only at hSw); obtain ⟨z4, z0, z1⟩ := hSw; go_simp; first | done | with_reducible rfl) hHeld ?_
    try simp only [Act.put, List.setIfInBounds_toArray, List.set_cons_zero, List.set_cons_succ]
    refine hd_take 17 rfl (by kernel_rfl) (by kernel_rfl) (by kernel_rfl) (fun _ _ _ h => h) (by rfl) (by intro w hSw; (try dsimp only at hSw); obtain ⟨z4, z0, z1⟩ := hSw; go_simp; first | done | with_reducible rfl) hHeld ?_
    try simp only [Act.put, List.setIfInBounds_toArray, List.set_cons_zero, List.set_cons_succ]
    refine hd_take 18 rfl (by kernel_rfl) (by kernel_rfl) (by kernel_rfl) (fun _ _ _ h => h) (by rfl) (by intro w hSw; (try dsimp only at hSw); obtain ⟨z4, z0, z1⟩ := hSw; go_simp; first | done | with_reducible rfl) hHeld ?_
    try simp only [Act.put, List.setIfInBounds_toArray, List.set_cons_zero, List.set_cons_succ]
    refine hd_take 19 rfl (by kernel_rfl) (by kernel_rfl) (by kernel_rfl) (fun _ _ _ h => h) (by rfl) (by intro w hSw; (try dsimp only at hSw); obtain ⟨z4, z0, z1⟩ := hSw; go_simp; first | done | with_reducible rfl) hHeld ?_
    try simp only [Act.put, List.setIfInBounds_toArray, List.set_cons_zero, List.set_cons_succ]
    refine hd_take 20 rfl (by kernel_rfl) (by kernel_rfl) (by kernel_rfl) (fun _ _ _ h => h) (by rfl) (by intro w hSw; (try dsimp only at hSw); obtain ⟨z4, z0, z1⟩ := hSw; go_simp; first | done | with_reducible rfl) hHeld ?_
    try simp only [Act.put, List.setIfInBounds_toArray, List.set_cons_zero, List.set_cons_succ]
    refine hd_take 23 rfl (by kernel_rfl) (by kernel_rfl) (by kernel_rfl) (fun _ _ _ h => h) (by rfl) (by intro w hSw; (try dsimp only at hSw); obtain ⟨z4, z0, z1⟩ := hSw; go_simp; first | done | with_reducible rfl) hHeld ?_
    try simp only [Act.put, List.setIfInBounds_toArray, List.set_cons_zero, List.set_cons_succ]
    refine hd_step 21 (by kernel_rfl) rfl (fun K hK => ?_)
    go_simp
    go_at_call 7
    refine (HWt.out _ (HC3.out.below (below_dN (.refl _ _) 1))).mono ?_
    rintro e w5 ⟨rfl, hB5⟩
    have HB5 := Lib.hid (below_trans' HB3.out (below_trans' (below_dN (.refl _ _) 1) hB5))
    have y0 := cell_later hB5 (show w3.drew.cell? _ = _ from y0)
    have y1 := cell_later hB5 (show w3.drew.cell? _ = _ from y1)
    have y4 := cell_later hB5 (show w3.drew.cell? _ = _ from y4)
    clear hB5
    refine hK.out _ _ ⟨y4, y0, y1⟩ (fun hHeld => ?_)
    clear hK K
    try simp only [Act.put, List.setIfInBounds_toArray, List.set_cons_zero, List.set_cons_succ]
    refine hd_take 22 rfl (by kernel_rfl) (by kernel_rfl) (by kernel_rfl) (fun _ _ _ h => h) (by rfl) (by intro w hSw; (try dsimp only at hSw); obtain ⟨z4, z0, z1⟩ := hSw; go_simp; first | done | with_reducible rfl) hHeld ?_
    try simp only [Act.put, List.setIfInBounds_toArray, List.set_cons_zero, List.set_cons_succ]
    refine hd_take (v := .bool true) 24 rfl (by kernel_rfl) (by kernel_rfl) (by kernel_rfl) (fun _ _ _ h => h) (by rfl) (by intro w hSw; (try dsimp only at hSw); obtain ⟨z4, z0, z1⟩ := hSw; go_simp; first | done | with_reducible rfl) hHeld ?_
    try simp only [Act.put, List.setIfInBounds_toArray, List.set_cons_zero, List.set_cons_succ]
    refine hd_take 25 rfl (by kernel_rfl) (by kernel_rfl) (by kernel_rfl) (fun _ _ _ h => h) (by rfl) (by intro w hSw; (try dsimp only at hSw); obtain ⟨z4, z0, z1⟩ := hSw; go_simp; first | done | with_reducible rfl) hHeld ?_
    try simp only [Act.put, List.setIfInBounds_toArray, List.set_cons_zero, List.set_cons_succ]
    refine hd_take 26 rfl (by kernel_rfl) (by kernel_rfl) (by kernel_rfl) (fun _ _ _ h => h) (by rfl) (by intro w hSw; (try dsimp only at hSw); obtain ⟨z4, z0, z1⟩ := hSw; go_simp; first | done | with_reducible rfl) hHeld ?_
    try simp only [Act.put, List.setIfInBounds_toArray, List.set_cons_zero, List.set_cons_succ]
    refine hd_step 27 (by kernel_rfl) rfl (fun K hK => ?_)
    go_simp
    go_at_call 8
    refine (awake48_any _).mono ?_
    rintro e w6 ⟨rfl, hB6⟩
    have HB6 := Lib.hid (below_trans' HB5.out hB6)
    have y0 := cell_later hB6 y0
    have y1 := cell_later hB6 y1
    have y4 := cell_later hB6 y4
    clear hB6
    refine hK.out _ _ ⟨y4, y0, y1⟩ (fun hHeld => ?_)
    clear hK K
    try simp only [Act.put, List.setIfInBounds_toArray, List.set_cons_zero, List.set_cons_succ]
    refine hd_take 28 rfl (by kernel_rfl) (by kernel_rfl) (by kernel_rfl) (fun _ _ _ h => h) (by rfl) (by intro w hSw; (try dsimp only at hSw); obtain ⟨z4, z0, z1⟩ := hSw; go_simp; first | done | with_reducible rfl) hHeld ?_
    try simp only [Act.put, List.setIfInBounds_toArray, List.set_cons_zero, List.set_cons_succ]
    refine hd_take 29 rfl (by kernel_rfl) (by kernel_rfl) (by kernel_rfl) (fun _ _ _ h => h) (by rfl) (by intro w hSw; (try dsimp only at hSw); obtain ⟨z4, z0, z1⟩ := hSw; go_simp; first | done | with_reducible rfl) hHeld ?_
    try simp only [Act.put, List.setIfInBounds_toArray, List.set_cons_zero, List.set_cons_succ]
    refine wpAnyH_done (by kernel_rfl) ?_ _
    clear hHeld
    go_wp2_with fail
    go_ret
    exact ⟨rfl, HB6.out⟩
  · have h6' := h6'
    subst h6'
    have g6 : decide (0 < (fr : Int)) = true := by revert g5; cases decide (0 < (fr : Int)) <;> simp
    clear g5
    have n1 : ¬ at' < fr := by omega
    have n2 : ¬ G.length < at' := by omega
    have n3 : 0 < fr := by have := g6; simp at this; omega
    have n4 : ¬ fr = 0 := by omega
    have k1 : decide ((1 : Int) ≤ col) = true := decide_eq_true h7
    have k2 : decide (col + wd ≤ cols) = true := decide_eq_true h8
    have k3 : decide ((1 : Int) + wt ≤ cols) = true := decide_eq_true h9
    clear h7 h8 h9 h5'
    go_upto_region 17 with fail
    refine wp_region_held_drew (S := fun w' => w'.cell? ⟨p, 4, none⟩ = some (.int .i64 col) ∧ w'.cell? ⟨p, 0, none⟩ = some (.int .i64 (fr : Int)) ∧ w'.cell? ⟨p, 1, none⟩ = some (.int .i64 ((G.length : Nat) : Int))) (by kernel_rfl) ⟨y4, y0, y1⟩ (fun hHeld => ?_)
    refine hd_take 0 rfl (by kernel_rfl) (by kernel_rfl) (by kernel_rfl) (fun _ _ _ h => h) (by rfl) (by intro w hSw; (try dsimp only at hSw); obtain ⟨z4, z0, z1⟩ := hSw; go_simp; first | done | with_reducible rfl) hHeld ?_
    try simp only [Act.put, List.setIfInBounds_toArray, List.set_cons_zero, List.set_cons_succ]
    refine hd_take 1 rfl (by kernel_rfl) (by kernel_rfl) (by kernel_rfl) (fun _ _ _ h => h) (by rfl) (by intro w hSw; (try dsimp only at hSw); obtain ⟨z4, z0, z1⟩ := hSw; go_simp; first | done | with_reducible rfl) hHeld ?_
    try simp only [Act.put, List.setIfInBounds_toArray, List.set_cons_zero, List.set_cons_succ]
    refine hd_take 2 rfl (by kernel_rfl) (by kernel_rfl) (by kernel_rfl) (fun _ _ _ h => h) (by rfl) (by intro w hSw; (try dsimp only at hSw); obtain ⟨z4, z0, z1⟩ := hSw; go_simp; first | done | with_reducible rfl) hHeld ?_
    try simp only [Act.put, List.setIfInBounds_toArray, List.set_cons_zero, List.set_cons_succ]
    refine hd_take (v := .bool true) 3 rfl (by kernel_rfl) (by kernel_rfl) (by kernel_rfl) (fun _ _ _ h => h) (by rfl) (by intro w hSw; (try dsimp only at hSw); obtain ⟨z4, z0, z1⟩ := hSw; go_simp; first | done | with_reducible rfl) hHeld ?_
    try simp only [Act.put, List.setIfInBounds_toArray, List.set_cons_zero, List.set_cons_succ]
    refine hd_take 4 rfl (by kernel_rfl) (by kernel_rfl) (by kernel_rfl) (fun _ _ _ h => h) (by rfl) (by intro w hSw; (try dsimp only at hSw); obtain ⟨z4, z0, z1⟩ := hSw; go_simp; first | done | with_reducible rfl) hHeld ?_
    try simp only [Act.put, List.setIfInBounds_toArray, List.set_cons_zero, List.set_cons_succ]
    refine hd_take 5 rfl (by kernel_rfl) (by kernel_rfl) (by kernel_rfl) (fun _ _ _ h => h) (by rfl) (by intro w hSw; (try dsimp only at hSw); obtain ⟨z4, z0, z1⟩ := hSw; go_simp; first | done | with_reducible rfl) hHeld ?_
    try simp only [Act.put, List.setIfInBounds_toArray, List.set_cons_zero, List.set_cons_succ]
    refine hd_take 6 rfl (by kernel_rfl) (by kernel_rfl) (by kernel_rfl) (fun _ _ _ h => h) (by rfl) (by intro w hSw; (try dsimp only at hSw); obtain ⟨z4, z0, z1⟩ := hSw; go_simp; first | done | with_reducible rfl) hHeld ?_
    try simp only [Act.put, List.setIfInBounds_toArray, List.set_cons_zero, List.set_cons_succ]
    refine hd_take 7 rfl (by kernel_rfl) (by kernel_rfl) (by kernel_rfl) (fun _ _ _ h => h) (by rfl) (by intro w hSw; (try dsimp only at hSw); obtain ⟨z4, z0, z1⟩ := hSw; go_simp; first | done | with_reducible rfl) hHeld ?_
    try simp only [Act.put, List.setIfInBounds_toArray, List.set_cons_zero, List.set_cons_succ]
    refine hd_take 8 rfl (by kernel_rfl) (by kernel_rfl) (by kernel_rfl) (fun _ _ _ h => h) (by rfl) (by intro w hSw; (try dsimp only at hSw); obtain ⟨z4, z0, z1⟩ := hSw; go_simp; first | done | with_reducible rfl) hHeld ?_
    try simp only [Act.put, List.setIfInBounds_toArray, List.set_cons_zero, List.set_cons_succ]
    refine hd_take 11 rfl (by kernel_rfl) (by kernel_rfl) (by kernel_rfl) (fun _ _ _ h => h) (by rfl) (by intro w hSw; (try dsimp only at hSw); obtain ⟨z4, z0, z1⟩ := hSw; go_simp; first | done | with_reducible rfl) hHeld ?_
    try simp only [Act.put, List.setIfInBounds_toArray, List.set_cons_zero, List.set_cons_succ]
    refine hd_step 9 (by kernel_rfl) rfl (fun K hK => ?_)
    go_simp
    go_at_call 6
    refine (HWd.out _ (HC3.out.below (below_dN (.refl _ _) 1))).mono ?_
    rintro e w4 ⟨rfl, rfl⟩
    refine hK.out _ _ ⟨y4, y0, y1⟩ (fun hHeld => ?_)
    clear hK K
    try simp only [Act.put, List.setIfInBounds_toArray, List.set_cons_zero, List.set_cons_succ]
    refine hd_take 10 rfl (by kernel_rfl) (by kernel_rfl) (by kernel_rfl) (fun _ _ _ h => h) (by rfl) (by intro w hSw; (try dsimp only at hSw); obtain ⟨z4, z0, z1⟩ := hSw; go_simp; first | done | with_reducible rfl) hHeld ?_
    try simp only [Act.put, List.setIfInBounds_toArray, List.set_cons_zero, List.set_cons_succ]
    refine hd_take (v := .bool true) 12 rfl (by kernel_rfl) (by kernel_rfl) (by kernel_rfl) (fun _ _ _ h => h) (by rfl) (by intro w hSw; (try dsimp only at hSw); obtain ⟨z4, z0, z1⟩ := hSw; go_simp; first | done | with_reducible rfl) hHeld ?_
    try simp only [Act.put, List.setIfInBounds_toArray, List.set_cons_zero, List.set_cons_succ]
    refine hd_take 13 rfl (by kernel_rfl) (by kernel_rfl) (by kernel_rfl) (fun _ _ _ h => h) (by rfl) (by intro w hSw; (try dsimp only at hSw); obtain ⟨z4, z0, z1⟩ := hSw; go_simp; first | done | with_reducible rfl) hHeld ?_
    try simp only [Act.put, List.setIfInBounds_toArray, List.set_cons_zero, List.set_cons_succ]
    refine hd_take 14 rfl (by kernel_rfl) (by kernel_rfl) (by kernel_rfl) (fun _ _ _ h => h) (by rfl) (by intro w hSw; (try dsimp only at hSw); obtain ⟨z4, z0, z1⟩ := hSw; go_simp; first | done | with_reducible rfl) hHeld ?_
    try simp only [Act.put, List.setIfInBounds_toArray, List.set_cons_zero, List.set_cons_succ]
    refine hd_take 15 rfl (by kernel_rfl) (by kernel_rfl) (by kernel_rfl) (fun _ _ _ h => h) (by rfl) (by intro w hSw; (try dsimp only at hSw); obtain ⟨z4, z0, z1⟩ := hSw; go_simp; first | done | with_reducible rfl) hHeld ?_
    try simp only [Act.put, List.setIfInBounds_toArray, List.set_cons_zero, List.set_cons_succ]
    refine hd_take 16 rfl (by kernel_rfl) (by kernel_rfl) (by kernel_rfl) (fun _ _ _ h => h) (by rfl) (by intro w hSw; (try dsimp only at hSw); obtain ⟨z4, z0, z1⟩ := hSw; go_simp; first | done | with_reducible rfl) hHeld ?_
    try simp only [Act.put, List.setIfInBounds_toArray, List.set_cons_zero, List.set_cons_succ]
    refine hd_take 17 rfl (by kernel_rfl) (by kernel_rfl) (by kernel_rfl) (fun _ _ _ h => h) (by rfl) (by intro w hSw; (try dsimp only at hSw); obtain ⟨z4, z0, z1⟩ := hSw; go_simp; first | done | with_reducible rfl) hHeld ?_
    try simp only [Act.put, List.setIfInBounds_toArray, List.set_cons_zero, List.set_cons_succ]
    refine hd_take 18 rfl (by kernel_rfl) (by kernel_rfl) (by kernel_rfl) (fun _ _ _ h => h) (by rfl) (by intro w hSw; (try dsimp only at hSw); obtain ⟨z4, z0, z1⟩ := hSw; go_simp; first | done | with_reducible rfl) hHeld ?_
    try simp only [Act.put, List.setIfInBounds_toArray, List.set_cons_zero, List.set_cons_succ]
    refine hd_take 19 rfl (by kernel_rfl) (by kernel_rfl) (by kernel_rfl) (fun _ _ _ h => h) (by rfl) (by intro w hSw; (try dsimp only at hSw); obtain ⟨z4, z0, z1⟩ := hSw; go_simp; first | done | with_reducible rfl) hHeld ?_
    try simp only [Act.put, List.setIfInBounds_toArray, List.set_cons_zero, List.set_cons_succ]
    refine hd_take 20 rfl (by kernel_rfl) (by kernel_rfl) (by kernel_rfl) (fun _ _ _ h => h) (by rfl) (by intro w hSw; (try dsimp only at hSw); obtain ⟨z4, z0, z1⟩ := hSw; go_simp; first | done | with_reducible rfl) hHeld ?_
    try simp only [Act.put, List.setIfInBounds_toArray, List.set_cons_zero, List.set_cons_succ]
    refine hd_take 23 rfl (by kernel_rfl) (by kernel_rfl) (by kernel_rfl) (fun _ _ _ h => h) (by rfl) (by intro w hSw; (try dsimp only at hSw); obtain ⟨z4, z0, z1⟩ := hSw; go_simp; first | done | with_reducible rfl) hHeld ?_
    try simp only [Act.put, List.setIfInBounds_toArray, List.set_cons_zero, List.set_cons_succ]
    refine hd_step 21 (by kernel_rfl) rfl (fun K hK => ?_)
    go_simp
    go_at_call 7
    refine (HWt.out _ (HC3.out.below (below_dN (.refl _ _) 1))).mono ?_
    rintro e w5 ⟨rfl, hB5⟩
    have HB5 := Lib.hid (below_trans' HB3.out (below_trans' (below_dN (.refl _ _) 1) hB5))
    have y0 := cell_later hB5 (show w3.drew.cell? _ = _ from y0)
    have y1 := cell_later hB5 (show w3.drew.cell? _ = _ from y1)
    have y4 := cell_later hB5 (show w3.drew.cell? _ = _ from y4)
    clear hB5
    refine hK.out _ _ ⟨y4, y0, y1⟩ (fun hHeld => ?_)
    clear hK K
    try simp only [Act.put, List.setIfInBounds_toArray, List.set_cons_zero, List.set_cons_succ]
    refine hd_take 22 rfl (by kernel_rfl) (by kernel_rfl) (by kernel_rfl) (fun _ _ _ h => h) (by rfl) (by intro w hSw; (try dsimp only at hSw); obtain ⟨z4, z0, z1⟩ := hSw; go_simp; first | done | with_reducible rfl) hHeld ?_
    try simp only [Act.put, List.setIfInBounds_toArray, List.set_cons_zero, List.set_cons_succ]
    refine hd_take (v := .bool true) 24 rfl (by kernel_rfl) (by kernel_rfl) (by kernel_rfl) (fun _ _ _ h => h) (by rfl) (by intro w hSw; (try dsimp only at hSw); obtain ⟨z4, z0, z1⟩ := hSw; go_simp; first | done | with_reducible rfl) hHeld ?_
    try simp only [Act.put, List.setIfInBounds_toArray, List.set_cons_zero, List.set_cons_succ]
    refine hd_take 25 rfl (by kernel_rfl) (by kernel_rfl) (by kernel_rfl) (fun _ _ _ h => h) (by rfl) (by intro w hSw; (try dsimp only at hSw); obtain ⟨z4, z0, z1⟩ := hSw; go_simp; first | done | with_reducible rfl) hHeld ?_
    try simp only [Act.put, List.setIfInBounds_toArray, List.set_cons_zero, List.set_cons_succ]
    refine hd_take 26 rfl (by kernel_rfl) (by kernel_rfl) (by kernel_rfl) (fun _ _ _ h => h) (by rfl) (by intro w hSw; (try dsimp only at hSw); obtain ⟨z4, z0, z1⟩ := hSw; go_simp; first | done | with_reducible rfl) hHeld ?_
    try simp only [Act.put, List.setIfInBounds_toArray, List.set_cons_zero, List.set_cons_succ]
    refine hd_step 27 (by kernel_rfl) rfl (fun K hK => ?_)
    go_simp
    go_at_call 8
    refine (awake48_any _).mono ?_
    rintro e w6 ⟨rfl, hB6⟩
    have HB6 := Lib.hid (below_trans' HB5.out hB6)
    have y0 := cell_later hB6 y0
    have y1 := cell_later hB6 y1
    have y4 := cell_later hB6 y4
    clear hB6
    refine hK.out _ _ ⟨y4, y0, y1⟩ (fun hHeld => ?_)
    clear hK K
    try simp only [Act.put, List.setIfInBounds_toArray, List.set_cons_zero, List.set_cons_succ]
    refine hd_take 28 rfl (by kernel_rfl) (by kernel_rfl) (by kernel_rfl) (fun _ _ _ h => h) (by rfl) (by intro w hSw; (try dsimp only at hSw); obtain ⟨z4, z0, z1⟩ := hSw; go_simp; first | done | with_reducible rfl) hHeld ?_
    try simp only [Act.put, List.setIfInBounds_toArray, List.set_cons_zero, List.set_cons_succ]
    refine hd_take 29 rfl (by kernel_rfl) (by kernel_rfl) (by kernel_rfl) (fun _ _ _ h => h) (by rfl) (by intro w hSw; (try dsimp only at hSw); obtain ⟨z4, z0, z1⟩ := hSw; go_simp; first | done | with_reducible rfl) hHeld ?_
    try simp only [Act.put, List.setIfInBounds_toArray, List.set_cons_zero, List.set_cons_succ]
    refine wpAnyH_done (by kernel_rfl) ?_ _
    clear hHeld
    go_wp2_with fail
    go_ret
    exact ⟨rfl, HB6.out⟩
  · have k4 : ((tt : Int) == (at' : Int)) = false := by rw [beq_eq_false_iff_ne]; omega
    have g6 : decide (0 < (fr : Int)) = true := by revert g5; cases decide (0 < (fr : Int)) <;> simp
    clear g5
    have n1 : ¬ at' < fr := by omega
    have n2 : ¬ tt < at' := by omega
    have n3 : 0 < fr := by have := g6; simp at this; omega
    have n4 : ¬ fr = 0 := by omega
    have n5 : ¬ G.length < tt := by omega
    have k1 : decide ((1 : Int) ≤ col) = true := decide_eq_true h7
    have k2 : decide (col + wd ≤ (cols - 1)) = true := decide_eq_true h8
    have k3 : decide ((1 : Int) + wt ≤ (cols - 1)) = true := decide_eq_true h9
    clear h7 h8 h9 h5' h6'
    go_upto_region 17 with fail
    refine wp_region_held_drew (S := fun w' => w'.cell? ⟨p, 4, none⟩ = some (.int .i64 col) ∧ w'.cell? ⟨p, 0, none⟩ = some (.int .i64 (fr : Int)) ∧ w'.cell? ⟨p, 1, none⟩ = some (.int .i64 ((tt : Nat) : Int))) (by kernel_rfl) ⟨y4, y0, y1⟩ (fun hHeld => ?_)
    refine hd_take 0 rfl (by kernel_rfl) (by kernel_rfl) (by kernel_rfl) (fun _ _ _ h => h) (by rfl) (by intro w hSw; (try dsimp only at hSw); obtain ⟨z4, z0, z1⟩ := hSw; go_simp; first | done | with_reducible rfl) hHeld ?_
    try simp only [Act.put, List.setIfInBounds_toArray, List.set_cons_zero, List.set_cons_succ]
    refine hd_take 1 rfl (by kernel_rfl) (by kernel_rfl) (by kernel_rfl) (fun _ _ _ h => h) (by rfl) (by intro w hSw; (try dsimp only at hSw); obtain ⟨z4, z0, z1⟩ := hSw; go_simp; first | done | with_reducible rfl) hHeld ?_
    try simp only [Act.put, List.setIfInBounds_toArray, List.set_cons_zero, List.set_cons_succ]
    refine hd_take 2 rfl (by kernel_rfl) (by kernel_rfl) (by kernel_rfl) (fun _ _ _ h => h) (by rfl) (by intro w hSw; (try dsimp only at hSw); obtain ⟨z4, z0, z1⟩ := hSw; go_simp; first | done | with_reducible rfl) hHeld ?_
    try simp only [Act.put, List.setIfInBounds_toArray, List.set_cons_zero, List.set_cons_succ]
    refine hd_take (v := .bool true) 3 rfl (by kernel_rfl) (by kernel_rfl) (by kernel_rfl) (fun _ _ _ h => h) (by rfl) (by intro w hSw; (try dsimp only at hSw); obtain ⟨z4, z0, z1⟩ := hSw; go_simp; first | done | with_reducible rfl) hHeld ?_
    try simp only [Act.put, List.setIfInBounds_toArray, List.set_cons_zero, List.set_cons_succ]
    refine hd_take 4 rfl (by kernel_rfl) (by kernel_rfl) (by kernel_rfl) (fun _ _ _ h => h) (by rfl) (by intro w hSw; (try dsimp only at hSw); obtain ⟨z4, z0, z1⟩ := hSw; go_simp; first | done | with_reducible rfl) hHeld ?_
    try simp only [Act.put, List.setIfInBounds_toArray, List.set_cons_zero, List.set_cons_succ]
    refine hd_take 5 rfl (by kernel_rfl) (by kernel_rfl) (by kernel_rfl) (fun _ _ _ h => h) (by rfl) (by intro w hSw; (try dsimp only at hSw); obtain ⟨z4, z0, z1⟩ := hSw; go_simp; first | done | with_reducible rfl) hHeld ?_
    try simp only [Act.put, List.setIfInBounds_toArray, List.set_cons_zero, List.set_cons_succ]
    refine hd_take 6 rfl (by kernel_rfl) (by kernel_rfl) (by kernel_rfl) (fun _ _ _ h => h) (by rfl) (by intro w hSw; (try dsimp only at hSw); obtain ⟨z4, z0, z1⟩ := hSw; go_simp; first | done | with_reducible rfl) hHeld ?_
    try simp only [Act.put, List.setIfInBounds_toArray, List.set_cons_zero, List.set_cons_succ]
    refine hd_take 7 rfl (by kernel_rfl) (by kernel_rfl) (by kernel_rfl) (fun _ _ _ h => h) (by rfl) (by intro w hSw; (try dsimp only at hSw); obtain ⟨z4, z0, z1⟩ := hSw; go_simp; first | done | with_reducible rfl) hHeld ?_
    try simp only [Act.put, List.setIfInBounds_toArray, List.set_cons_zero, List.set_cons_succ]
    refine hd_take 8 rfl (by kernel_rfl) (by kernel_rfl) (by kernel_rfl) (fun _ _ _ h => h) (by rfl) (by intro w hSw; (try dsimp only at hSw); obtain ⟨z4, z0, z1⟩ := hSw; go_simp; first | done | with_reducible rfl) hHeld ?_
    try simp only [Act.put, List.setIfInBounds_toArray, List.set_cons_zero, List.set_cons_succ]
    refine hd_take 11 rfl (by kernel_rfl) (by kernel_rfl) (by kernel_rfl) (fun _ _ _ h => h) (by rfl) (by intro w hSw; (try dsimp only at hSw); obtain ⟨z4, z0, z1⟩ := hSw; go_simp; first | done | with_reducible rfl) hHeld ?_
    try simp only [Act.put, List.setIfInBounds_toArray, List.set_cons_zero, List.set_cons_succ]
    refine hd_step 9 (by kernel_rfl) rfl (fun K hK => ?_)
    go_simp
    go_at_call 6
    refine (HWd.out _ (HC3.out.below (below_dN (.refl _ _) 1))).mono ?_
    rintro e w4 ⟨rfl, rfl⟩
    refine hK.out _ _ ⟨y4, y0, y1⟩ (fun hHeld => ?_)
    clear hK K
    try simp only [Act.put, List.setIfInBounds_toArray, List.set_cons_zero, List.set_cons_succ]
    refine hd_take 10 rfl (by kernel_rfl) (by kernel_rfl) (by kernel_rfl) (fun _ _ _ h => h) (by rfl) (by intro w hSw; (try dsimp only at hSw); obtain ⟨z4, z0, z1⟩ := hSw; go_simp; first | done | with_reducible rfl) hHeld ?_
    try simp only [Act.put, List.setIfInBounds_toArray, List.set_cons_zero, List.set_cons_succ]
    refine hd_take (v := .bool true) 12 rfl (by kernel_rfl) (by kernel_rfl) (by kernel_rfl) (fun _ _ _ h => h) (by rfl) (by intro w hSw; (try dsimp only at hSw); obtain ⟨z4, z0, z1⟩ := hSw; go_simp; first | done | with_reducible rfl) hHeld ?_
    try simp only [Act.put, List.setIfInBounds_toArray, List.set_cons_zero, List.set_cons_succ]
    refine hd_take 13 rfl (by kernel_rfl) (by kernel_rfl) (by kernel_rfl) (fun _ _ _ h => h) (by rfl) (by intro w hSw; (try dsimp only at hSw); obtain ⟨z4, z0, z1⟩ := hSw; go_simp; first | done | with_reducible rfl) hHeld ?_
    try simp only [Act.put, List.setIfInBounds_toArray, List.set_cons_zero, List.set_cons_succ]
    refine hd_take 14 rfl (by kernel_rfl) (by kernel_rfl) (by kernel_rfl) (fun _ _ _ h => h) (by rfl) (by intro w hSw; (try dsimp only at hSw); obtain ⟨z4, z0, z1⟩ := hSw; go_simp; first | done | with_reducible rfl) hHeld ?_
    try simp only [Act.put, List.setIfInBounds_toArray, List.set_cons_zero, List.set_cons_succ]
    refine hd_take 15 rfl (by kernel_rfl) (by kernel_rfl) (by kernel_rfl) (fun _ _ _ h => h) (by rfl) (by intro w hSw; (try dsimp only at hSw); obtain ⟨z4, z0, z1⟩ := hSw; go_simp; first | done | with_reducible rfl) hHeld ?_
    try simp only [Act.put, List.setIfInBounds_toArray, List.set_cons_zero, List.set_cons_succ]
    refine hd_take 16 rfl (by kernel_rfl) (by kernel_rfl) (by kernel_rfl) (fun _ _ _ h => h) (by rfl) (by intro w hSw; (try dsimp only at hSw); obtain ⟨z4, z0, z1⟩ := hSw; go_simp; first | done | with_reducible rfl) hHeld ?_
    try simp only [Act.put, List.setIfInBounds_toArray, List.set_cons_zero, List.set_cons_succ]
    refine hd_take 17 rfl (by kernel_rfl) (by kernel_rfl) (by kernel_rfl) (fun _ _ _ h => h) (by rfl) (by intro w hSw; (try dsimp only at hSw); obtain ⟨z4, z0, z1⟩ := hSw; go_simp; first | done | with_reducible rfl) hHeld ?_
    try simp only [Act.put, List.setIfInBounds_toArray, List.set_cons_zero, List.set_cons_succ]
    refine hd_take 18 rfl (by kernel_rfl) (by kernel_rfl) (by kernel_rfl) (fun _ _ _ h => h) (by rfl) (by intro w hSw; (try dsimp only at hSw); obtain ⟨z4, z0, z1⟩ := hSw; go_simp; first | done | with_reducible rfl) hHeld ?_
    try simp only [Act.put, List.setIfInBounds_toArray, List.set_cons_zero, List.set_cons_succ]
    refine hd_take 19 rfl (by kernel_rfl) (by kernel_rfl) (by kernel_rfl) (fun _ _ _ h => h) (by rfl) (by intro w hSw; (try dsimp only at hSw); obtain ⟨z4, z0, z1⟩ := hSw; go_simp; first | done | with_reducible rfl) hHeld ?_
    try simp only [Act.put, List.setIfInBounds_toArray, List.set_cons_zero, List.set_cons_succ]
    refine hd_take 20 rfl (by kernel_rfl) (by kernel_rfl) (by kernel_rfl) (fun _ _ _ h => h) (by rfl) (by intro w hSw; (try dsimp only at hSw); obtain ⟨z4, z0, z1⟩ := hSw; go_simp; first | done | with_reducible rfl) hHeld ?_
    try simp only [Act.put, List.setIfInBounds_toArray, List.set_cons_zero, List.set_cons_succ]
    refine hd_take 23 rfl (by kernel_rfl) (by kernel_rfl) (by kernel_rfl) (fun _ _ _ h => h) (by rfl) (by intro w hSw; (try dsimp only at hSw); obtain ⟨z4, z0, z1⟩ := hSw; go_simp; first | done | with_reducible rfl) hHeld ?_
    try simp only [Act.put, List.setIfInBounds_toArray, List.set_cons_zero, List.set_cons_succ]
    refine hd_step 21 (by kernel_rfl) rfl (fun K hK => ?_)
    go_simp
    go_at_call 7
    refine (HWt.out _ (HC3.out.below (below_dN (.refl _ _) 1))).mono ?_
    rintro e w5 ⟨rfl, hB5⟩
    have HB5 := Lib.hid (below_trans' HB3.out (below_trans' (below_dN (.refl _ _) 1) hB5))
    have y0 := cell_later hB5 (show w3.drew.cell? _ = _ from y0)
    have y1 := cell_later hB5 (show w3.drew.cell? _ = _ from y1)
    have y4 := cell_later hB5 (show w3.drew.cell? _ = _ from y4)
    clear hB5
    refine hK.out _ _ ⟨y4, y0, y1⟩ (fun hHeld => ?_)
    clear hK K
    try simp only [Act.put, List.setIfInBounds_toArray, List.set_cons_zero, List.set_cons_succ]
    refine hd_take 22 rfl (by kernel_rfl) (by kernel_rfl) (by kernel_rfl) (fun _ _ _ h => h) (by rfl) (by intro w hSw; (try dsimp only at hSw); obtain ⟨z4, z0, z1⟩ := hSw; go_simp; first | done | with_reducible rfl) hHeld ?_
    try simp only [Act.put, List.setIfInBounds_toArray, List.set_cons_zero, List.set_cons_succ]
    refine hd_take (v := .bool true) 24 rfl (by kernel_rfl) (by kernel_rfl) (by kernel_rfl) (fun _ _ _ h => h) (by rfl) (by intro w hSw; (try dsimp only at hSw); obtain ⟨z4, z0, z1⟩ := hSw; go_simp; first | done | with_reducible rfl) hHeld ?_
    try simp only [Act.put, List.setIfInBounds_toArray, List.set_cons_zero, List.set_cons_succ]
    refine hd_take 25 rfl (by kernel_rfl) (by kernel_rfl) (by kernel_rfl) (fun _ _ _ h => h) (by rfl) (by intro w hSw; (try dsimp only at hSw); obtain ⟨z4, z0, z1⟩ := hSw; go_simp; first | done | with_reducible rfl) hHeld ?_
    try simp only [Act.put, List.setIfInBounds_toArray, List.set_cons_zero, List.set_cons_succ]
    refine hd_take 26 rfl (by kernel_rfl) (by kernel_rfl) (by kernel_rfl) (fun _ _ _ h => h) (by rfl) (by intro w hSw; (try dsimp only at hSw); obtain ⟨z4, z0, z1⟩ := hSw; go_simp; first | done | with_reducible rfl) hHeld ?_
    try simp only [Act.put, List.setIfInBounds_toArray, List.set_cons_zero, List.set_cons_succ]
    refine hd_step 27 (by kernel_rfl) rfl (fun K hK => ?_)
    go_simp
    go_at_call 8
    refine (awake48_any _).mono ?_
    rintro e w6 ⟨rfl, hB6⟩
    have HB6 := Lib.hid (below_trans' HB5.out hB6)
    have y0 := cell_later hB6 y0
    have y1 := cell_later hB6 y1
    have y4 := cell_later hB6 y4
    clear hB6
    refine hK.out _ _ ⟨y4, y0, y1⟩ (fun hHeld => ?_)
    clear hK K
    try simp only [Act.put, List.setIfInBounds_toArray, List.set_cons_zero, List.set_cons_succ]
    refine hd_take 28 rfl (by kernel_rfl) (by kernel_rfl) (by kernel_rfl) (fun _ _ _ h => h) (by rfl) (by intro w hSw; (try dsimp only at hSw); obtain ⟨z4, z0, z1⟩ := hSw; go_simp; first | done | with_reducible rfl) hHeld ?_
    try simp only [Act.put, List.setIfInBounds_toArray, List.set_cons_zero, List.set_cons_succ]
    refine hd_take 29 rfl (by kernel_rfl) (by kernel_rfl) (by kernel_rfl) (fun _ _ _ h => h) (by rfl) (by intro w hSw; (try dsimp only at hSw); obtain ⟨z4, z0, z1⟩ := hSw; go_simp; first | done | with_reducible rfl) hHeld ?_
    try simp only [Act.put, List.setIfInBounds_toArray, List.set_cons_zero, List.set_cons_succ]
    refine wpAnyH_done (by kernel_rfl) ?_ _
    clear hHeld
    go_wp2_with fail
    go_ret
    exact ⟨rfl, HB6.out⟩
end Go.Proofs.Ytkeainhjghdfcaa

/- How a law's glyphs are read. -/
namespace Go.Proofs.Ytkeainhjghdfcaa
open Go.RowKit Go.ChangeShapes Go.WideShapes Go.ChangeAt

theorem reads_gyl : Reads Try.prog 35 gyE (fun g => g.1.size ≤ maxLen ∧ (Lit.int .i64 g.2).wf = true) :=
  reads_struct2 (s0 := 1) (s1 := 1) Try.underlying35 (reads_string Try.underlying9) (reads_int Try.underlying3) rfl rfl (by kernel_rfl) (by kernel_rfl) (by kernel_rfl)
end Go.Proofs.Ytkeainhjghdfcaa
