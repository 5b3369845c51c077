/- wrap.Place: the spots of glyphs, told by the iterator, collected. -/
import Derived.Test.YtokenlecnbploaaWrapB
namespace Go.Proofs.Ytokenlecnbploaa
open Go.RowKit Go.Shelf
attribute [local go_sem] Oper.semAt_some

def senc (s : Int × Int) : List Value := [.int .i64 s.1, .int .i64 s.2]
theorem senc_len (s : Int × Int) : (senc s).length = 2 := rfl
theorem senc_one (s : Int × Int) : ∀ u ∈ senc s, u.oneCell' = true := by intro u hu; simp [senc] at hu; rcases hu with rfl | rfl <;> rfl
def spotsL (cols : Int) (l : List Gl) : List (Int × Int) := if cols < 2 then [] else (List.range (l.length + 1)).map (itemAt cols l)
theorem Es : ElemT Try.prog 26 31 2 16 := elemT_of (by kernel_rfl) (z := .agg #[.int .i64 0, .int .i64 0]) (by kernel_rfl) rfl (by decide) (by decide)

set_option maxRecDepth 100000 in
set_option maxHeartbeats 400000 in
theorem spots_any (v : Value) (cols : Int) (w : World) (a : Option Addr) (n cap : Nat) (hv : v = .slice a n cap) :
    Calls Try.prog 47 #[v, .int .i64 cols] w fun e w' => e = .returned (.func (.func 57) #[] #[.pointer (some ⟨w.heap.size, 0, none⟩), .pointer (some ⟨w.heap.size + 1, 0, none⟩)]) ∧
      (w.alloc (.cells #[v] 23)).alloc (.cells #[.int .i64 cols] 3) = w' := by
  subst hv
  go_enter Try.func47, Try.ntmps47
  go_wp2
  go_ret
  exact ⟨rfl, rfl⟩

structure PlaceI (w w1 : World) (a : Option Addr) (cap : Nat) (cols : Int) (l : List Gl) (k : Nat) (W : World) : Prop where
  below : Below w.heap.size w W
  size : w1.heap.size + 3 ≤ W.heap.size
  out : W.cell? ⟨w1.heap.size, 0, none⟩ = some (.slice (some ⟨w.heap.size, 0, none⟩) k (l.length + 1))
  free : W.frozen? ⟨w1.heap.size, 0, none⟩ = false
  own : W.ownsRow w.heap.size 31 2 (.slice (some ⟨w.heap.size, 0, none⟩) k (l.length + 1)) k (((List.range k).map (itemAt cols l)).flatMap senc)
  box1 : W.cell? ⟨w1.heap.size + 1, 0, none⟩ = some (.slice a l.length cap)
  box2 : W.cell? ⟨w1.heap.size + 1 + 1, 0, none⟩ = some (.int .i64 cols)

theorem PlaceI.dep {w w1 : World} (hw : w.heap.size < w1.heap.size) (a : Option Addr) (cap : Nat) (cols : Int) (l : List Gl) : DepBelow (w1.heap.size + 3) (PlaceI w w1 a cap cols l) := by
  intro k W W' h hb
  exact ⟨h.below.trans (hb.mono (by omega)), Nat.le_trans h.size hb.size, (hb.cell (p := ⟨w1.heap.size, 0, none⟩) (by show w1.heap.size < _; omega)).trans h.out,
    (hb.frozen (p := ⟨w1.heap.size, 0, none⟩) (by show w1.heap.size < _; omega)).trans h.free, owns_below h.own hb (by omega),
    (hb.cell (p := ⟨w1.heap.size + 1, 0, none⟩) (by show w1.heap.size + 1 < _; omega)).trans h.box1, (hb.cell (p := ⟨w1.heap.size + 1 + 1, 0, none⟩) (by show w1.heap.size + 1 + 1 < _; omega)).trans h.box2⟩

set_option maxRecDepth 100000 in
set_option maxHeartbeats 1000000 in
theorem place_big (v : Value) (l : List Gl) (cols : Int) (w : World) (hR : Rs w.heap.size w genc 2 v l) (hlen : l.length ≤ 1073741824) (hc : 2 ≤ cols) (hcm : cols ≤ 9223372036854775807) (ht : thin l) :
    Calls Try.prog 15 #[v, .int .i64 cols] w fun e w' => ∃ vs, e = .returned vs ∧ Below w.heap.size w w' ∧ w'.ownsRow w.heap.size 31 2 vs (l.length + 1) (((List.range (l.length + 1)).map (itemAt cols l)).flatMap senc) := by
  obtain ⟨a, cap, rfl, hcap, hmax, hxl, hcells⟩ := hR
  unfold maxLen at hmax
  refine (callsIn_wide (n := 8)).1 (callsIn_of_wp_marks Try.func15 rfl trivial ?_ rfl)
  simp only [Try.ntmps15, List.size_toArray, List.length_cons, List.length_nil, Nat.reduceAdd, Nat.reduceSub, Array.replicate_succ, Array.replicate_zero, List.push_toArray, List.append_toArray, List.nil_append, List.cons_append]
  obtain ⟨_, ie, ze, hie, hze, hse, hbe, hzse⟩ := id (⟨Es.und, Es.inf⟩ : _ ∧ _)
  gi_wp2_with (first | (gi_at_make; refine wpListIn_make_own _ rfl _ _ _ rfl w.heap.size 31 ie ze 2 Es.und hie hze hse _ _ _ (l.length + 1) rfl rfl (by omega) (by rw [hbe]; omega) (by unfold maxLen; omega) (Nat.le_refl _) ?_; intro w1 how1 hg1) | (refine ⟨trivial, ?_⟩; gi_at_call 47; refine (callsIn_wide.2 (spots_any _ cols _ a _ _ rfl)).mono ?_; rintro e w' ⟨rfl, rfl⟩))
  have hww : w.heap.size < w1.heap.size := (how1.lt w.heap.size rfl).2
  have hBw1 : Below w.heap.size w w1 := (Below.refl _ w).grown hg1 (Nat.le_refl _) (fun k e => by cases e)
  obtain ⟨b, off, hab, hcel⟩ : ∃ b off, (0 < l.length → a = some ⟨b, off, none⟩) ∧ ∀ j u, (l.flatMap genc)[j]? = some u → w.cell? ⟨b, off + j, none⟩ = some u := by
    rcases Nat.eq_zero_or_pos l.length with h0 | h0
    · have : l = [] := List.eq_nil_of_length_eq_zero h0
      subst this
      exact ⟨0, 0, fun h => by simp at h, fun j u h => by simp at h⟩
    · obtain ⟨b, off, h1, _, h2⟩ := hcells h0
      exact ⟨b, off, fun _ => h1, h2⟩
  have hit : ∀ k x, (items cols l)[k]? = some x → k ≤ l.length ∧ x = (k, itemAt cols l k) := by
    intro k x hx
    unfold items at hx
    rw [List.getElem?_map] at hx
    rcases Nat.lt_or_ge k (l.length + 1) with h | h
    · rw [List.getElem?_range h] at hx
      simp at hx
      exact ⟨by omega, hx.symm⟩
    · rw [List.getElem?_eq_none (by simpa using h)] at hx; simp at hx
  have hlen1 : (items cols l).length = l.length + 1 := by unfold items; simp
  have hdep := PlaceI.dep hww a cap cols l
  clear hcells hxl
  refine wpIn_rangeT rfl (by decide) (gf := 57) (lb := #[.pointer (some ⟨w1.heap.size + 1, 0, none⟩), .pointer (some ⟨w1.heap.size + 1 + 1, 0, none⟩)]) rfl trivial (enters_of Try.func57 (by kernel_rfl) rfl)
    (spots1_in 7 (by decide) _ _ b off cap a cols l hlen hc hcm ht) (fun _ => rfl) (PlaceI w w1 a cap cols l) ?dep ?pre ?start ?round ?done
  case dep => simpa using hdep
  case pre =>
    intro k W h
    exact ⟨h.box1, h.box2, hab, fun j u hu => cell_later h.below (hcel j u hu)⟩
  case start =>
    have hB3 := ((((Below.refl w1.heap.size w1).alloc (Nat.le_refl _) (.cells #[.slice (some ⟨w.heap.size, 0, none⟩) 0 (l.length + 1)] 26)).alloc (by simp) (.cells #[.slice a l.length cap] 23)).alloc (by simp; omega) (.cells #[.int .i64 cols] 3))
    exact ⟨hBw1.trans (hB3.mono (by omega)), by simp, by go_simp, by go_simp, owns_below how1 hB3 hww, by go_simp, by go_simp⟩
  case round =>
    intro lr k x W hx hlt hI K hK
    obtain ⟨hk, rfl⟩ := hit k x hx
    clear hx hit hcel hlen1 how1
    unfold ienc
    gi_wp2
    refine hK _ _ ((Below.refl _ W).alloc (Nat.le_refl _) _) ?_
    intro W2 hb2 hk2
    simp only [World.size_alloc, Nat.add_assoc, Nat.reduceAdd] at hlt hb2 hk2
    have hI2 : PlaceI w w1 a cap cols l k W2 := hdep _ _ _ (hdep _ _ _ hI (((Below.refl W.heap.size W).alloc (Nat.le_refl _) _).mono (by omega))) hb2
    have hs2 := cell_two_new W (.int .i64 (itemAt cols l k).1) (.int .i64 (itemAt cols l k).2) 31
    have hs0 : W2.cell? ⟨W.heap.size, 0, none⟩ = some (.int .i64 (itemAt cols l k).1) := hk2.cell (by show _ ≤ W.heap.size; omega) (hs2 0 _ rfl)
    have hs1 : W2.cell? ⟨W.heap.size, 1, none⟩ = some (.int .i64 (itemAt cols l k).2) := hk2.cell (by show _ ≤ W.heap.size; omega) (hs2 1 _ rfl)
    have hW2 : W.heap.size < W2.heap.size := World.block_lt_of_cell? W2 _ hs0
    have ho := hI2.out
    have hfr := hI2.free
    have how := hI2.own
    have HI := Lib.hid hI2
    have hsz2 := hI2.size
    have HD := Lib.hid hdep
    clear hI hI2 hK hs2 hb2 hk2 hdep
    have hgg : itemAt cols l k = ((itemAt cols l k).1, (itemAt cols l k).2) := rfl
    have HS := Lib.hid (show ((List.range k).map (itemAt cols l)).flatMap senc ++ [.int .i64 (itemAt cols l k).1, .int .i64 (itemAt cols l k).2] = ((List.range (k + 1)).map (itemAt cols l)).flatMap senc by rw [List.range_succ]; simp [senc])
    clear hgg
    generalize itemAt cols l k = p at *
    gi_wp2_with (gi_at_builtin; refine wpListIn_append_fits _ rfl (.tmp 19) _ _ rfl w.heap.size 31 ie 2 Es.und hie hse w.heap.size k (l.length + 1) _ rfl (how.alloc _) _ 1 1 [.int .i64 p.1, .int .i64 p.2] rfl rfl (cell_two_new _ _ _ _) (by intro u hu; simp at hu; rcases hu with rfl | rfl <;> rfl) (by omega) ?_; intro w3 ho3 hg3; have hblk : w3.heap[w1.heap.size]? = W2.heap[w1.heap.size]? := (hg3.block _ (by simp; omega) (by simp; omega)).trans (Below.heap_alloc _ _ _ (by omega)); have hc3 : w3.cell? ⟨w1.heap.size, 0, none⟩ = some (.slice (some ⟨w.heap.size, 0, none⟩) k (l.length + 1)) := (World.cell?_of_block (a := ⟨w1.heap.size, 0, none⟩) hblk).trans ho; have hf3 : w3.frozen? ⟨w1.heap.size, 0, none⟩ = false := (World.frozen?_of_block (a := ⟨w1.heap.size, 0, none⟩) hblk).trans hfr; have H3 := Lib.hid hblk; clear hblk)
    have hkeep : KeepFrom (w1.heap.size + 3) W2 w3 := ((KeepFrom.refl _ W2).alloc _).grown hg3 (fun k e => by cases e; omega)
    have hbel : Below w.heap.size W2 w3 := ((Below.refl w.heap.size W2).alloc (by omega) _).grown hg3 (by simp; omega) (fun k e => by cases e; exact Nat.le_refl _)
    have h1 : w3.heap[w1.heap.size + 1]? = W2.heap[w1.heap.size + 1]? := (hg3.block _ (by simp; omega) (by simp; omega)).trans (Below.heap_alloc _ _ _ (by omega))
    have h2 : w3.heap[w1.heap.size + 1 + 1]? = W2.heap[w1.heap.size + 1 + 1]? := (hg3.block _ (by simp; omega) (by simp; omega)).trans (Below.heap_alloc _ _ _ (by omega))
    have hsz3 := hkeep.1
    refine ⟨?_, ?_⟩
    · simpa using hkeep.setCell (p := ⟨w1.heap.size, 0, none⟩) (by show w1.heap.size < _; omega) _
    · have hsz4 : w1.heap.size + 3 ≤ w3.heap.size := by omega
      refine ⟨(HI.out.below.trans hbel).setCell (p := ⟨w1.heap.size, 0, none⟩) (by show _ ≤ w1.heap.size; omega) _, by simpa using hsz4, by go_simp, by go_simp, ?_, ?_, ?_⟩
      · rw [← HS.out]
        have hne : ∀ g c, (Value.slice (some ⟨w.heap.size, 0, none⟩) g c) ≠ .slice none 0 0 := by simp
        exact ho3.kept (row := some w1.heap.size) ⟨rfl, rfl, rfl, by simp [World.setCell], fun j _ hj => Below.heap_setCell _ _ _ _ (fun e => hj (by rw [e]))⟩ (.inr (by simp [Value.ownBlock]; omega))
      · rw [World.cell?_of_block (w := w3) (a := ⟨w1.heap.size + 1, 0, none⟩) (Below.heap_setCell _ _ _ _ (by simp)), World.cell?_of_block (w := W2) (a := ⟨w1.heap.size + 1, 0, none⟩) h1]
        exact HI.out.box1
      · rw [World.cell?_of_block (w := w3) (a := ⟨w1.heap.size + 1 + 1, 0, none⟩) (Below.heap_setCell _ _ _ _ (by simp; omega)), World.cell?_of_block (w := W2) (a := ⟨w1.heap.size + 1 + 1, 0, none⟩) h2]
        exact HI.out.box2
  case done =>
    intro D W hD hI hKD
    rw [hlen1] at hI
    simp only [World.size_alloc, Nat.add_assoc, Nat.reduceAdd] at hD
    have ho := hI.out
    gi_wp2
    refine ⟨by simp, .inl ⟨_, _, rfl, run_takeDeferred hKD, ?_⟩⟩
    exact ⟨_, results_tmp rfl _ _ _, _, rfl, hI.below.trans (below_putObj W D _ (by omega)), owns_below hI.own (below_putObj (m := w1.heap.size + 3) W D _ hD) (by omega)⟩

set_option maxRecDepth 100000 in
set_option maxHeartbeats 400000 in
theorem place_small (v : Value) (a : Option Addr) (n cap : Nat) (cols : Int) (w : World) (hv : v = .slice a n cap) (hc : cols < 2) :
    Calls Try.prog 15 #[v, .int .i64 cols] w fun e w' => e = .returned (.slice none 0 0) ∧ w = w' := by
  subst hv
  go_enter Try.func15, Try.ntmps15
  go_wp2
  go_ret
  exact ⟨rfl, rfl⟩

theorem spotsL_len (cols : Int) (l : List Gl) : (spotsL cols l).length = if cols < 2 then 0 else l.length + 1 := by unfold spotsL; split <;> simp

/-- Place, at any width. -/
theorem place_any (v : Value) (l : List Gl) (cols : Int) (w : World) (hR : Rs w.heap.size w genc 2 v l) (hlen : l.length ≤ 1073741824) (hcm : cols ≤ 9223372036854775807) (ht : thin l) :
    Calls Try.prog 15 #[v, .int .i64 cols] w fun e w' => ∃ vs, e = .returned vs ∧ Below w.heap.size w w' ∧ w'.ownsRow w.heap.size 31 2 vs (spotsL cols l).length ((spotsL cols l).flatMap senc) ∧ (vs = .slice none 0 0 ↔ cols < 2) := by
  by_cases hc : cols < 2
  · obtain ⟨a, cap, rfl, _⟩ := id hR
    refine (place_small _ a _ cap cols w rfl hc).mono ?_
    rintro e w' ⟨rfl, rfl⟩
    refine ⟨_, rfl, Below.refl _ _, ?_, by simp [hc]⟩
    have : spotsL cols l = [] := if_pos hc
    rw [this]
    exact World.ownsRow_nil _ _ _ _
  · refine (place_big v l cols w hR hlen (by omega) hcm ht).mono ?_
    rintro e w' ⟨vs, rfl, hb, ho⟩
    have hs : spotsL cols l = (List.range (l.length + 1)).map (itemAt cols l) := if_neg hc
    refine ⟨vs, rfl, hb, by rw [hs]; simpa using ho, ?_⟩
    obtain ⟨g, cap, rfl, _⟩ := ownBlock_of_owns ho (by omega)
    simp [hc]
end Go.Proofs.Ytokenlecnbploaa
