/- Joined texts: ScrH ScrI. -/
import Derived.Deep.CutRange
import Derived.Test.YtkeainhjghdfcaaGreatSwbh
import Derived.Test.YtkeainhjghdfcaaGreatSwbe
import Derived.Test.YtkeainhjghdfcaaGreatSwbj
import Derived.Test.YtkeainhjghdfcaaGreatSwbi

/- screen.Of at any size; the laws' View. -/
namespace Go.Proofs.YtkeainhjghdfcaaGreat
open Go.RowKit

/-- a screen of a view's glyphs, in any size -/
def OfIs (W : World) (L : List Gl) (k : Nat) (rows cols : Int) (ga : Option Addr) (cr cc : Int) : Prop :=
  ((rows < 1 ∨ 500 < rows ∨ cols < 2 ∨ 1000 < cols) ∧ ga = none ∧ cr = 0 ∧ cc = 0) ∨
  ∃ (n m gb lb : Nat), rows = (n : Int) ∧ cols = (m : Int) ∧ 1 ≤ n ∧ n ≤ 500 ∧ 2 ≤ m ∧ m ≤ 1000 ∧ ga = some ⟨gb, 0, none⟩ ∧ cr = (itemAt m L k).1 - scTop L n m k ∧ cc = (itemAt m L k).2 ∧ GridG W gb lb m (n * m) (scG L n m k)
theorem OfIs.later {W W' : World} {L : List Gl} {k : Nat} {rows cols : Int} {ga : Option Addr} {cr cc : Int} (h : OfIs W L k rows cols ga cr cc) (hB : Below W.heap.size W W') : OfIs W' L k rows cols ga cr cc := by
  rcases h with h | ⟨n, m, gb, lb, h1, h2, h3, h4, h5, h6, h7, h8, h9, hG⟩
  · exact .inl h
  · exact .inr ⟨n, m, gb, lb, h1, h2, h3, h4, h5, h6, h7, h8, h9, hG.kept (by rw [scG_len]; omega) (by omega) (P := fun _ => False) (.of_below hB) id id⟩
/-- stores into a screen's box do not touch a grid -/
theorem OfIs.put {W : World} {q : Nat} {t : TypeId} {L : List Gl} {k : Nat} {rows cols : Int} {ga : Option Addr} {cr cc : Int} (h : OfIs W L k rows cols ga cr cc) (hq : W.heap[q]? = some (.cells #[.pointer none, .int .i64 0, .int .i64 0] t (0, 0))) (u v x : Value) :
    OfIs (((W.setCell ⟨q, 0, none⟩ u).setCell ⟨q, 1, none⟩ v).setCell ⟨q, 2, none⟩ x) L k rows cols ga cr cc := by
  rcases h with h | ⟨n, m, gb, lb, h1, h2, h3, h4, h5, h6, h7, h8, h9, hG⟩
  · exact .inl h
  · have c0 := row_cells (i := 0) hq rfl
    refine .inr ⟨n, m, gb, lb, h1, h2, h3, h4, h5, h6, h7, h8, h9, hG.kept (by rw [scG_len]; omega) (by omega) kept_three (fun e => ?_) (fun e => ?_)⟩
    · subst e
      have := hG.grid.c0
      rw [c0] at this
      cases this
    · subst e
      have hr := get_rowAt (G := scG L n m k) (r := 0) (by rw [scG_len]; omega)
      have hlen := hG.shape _ (List.mem_of_getElem? hr)
      obtain ⟨hi, _⟩ := hG.index hr (c := 0) (by omega)
      have hx := hG.grid.both (0 * m + 0) _ (get_cellAt hi)
      have := hx.1
      rw [show 0 + (0 * m + 0) * 2 = 0 by omega, c0] at this
      cases this
section
variable {R : List Rw} {P : List (List Int)} {s : List Int} {w : World} {pv sv : Value} {tp : Nat}
theorem sof_any (H : (tabOf R).Ok) (hT : Tb R w tp) (hP : TextsIn w pv P) (hPo : ∀ p ∈ P, RunesOk p ∧ p.length ≤ 20) (hPl : P.length ≤ 4) (hs : RunesIn w sv s) (ok : RunesOk s) (hl : s.length ≤ 100) (c : Int) (rows cols : Int) (hcm : cols ≤ 9223372036854775807) :
    Calls Tryz.prog 22 #[.pointer (some ⟨tp, 0, none⟩), .agg #[pv, sv, .int .i64 c], .int .i64 rows, .int .i64 cols] w fun e w' => ∃ ga cr cc, e = .returned (.agg #[.pointer ga, .int .i64 cr, .int .i64 cc]) ∧ Below w.heap.size w w' ∧ OfIs w' (viewG R P s) (curK R P s c) rows cols ga cr cc := by
  by_cases hb : rows < 1 ∨ 500 < rows ∨ cols < 2 ∨ 1000 < cols
  · refine (sof_none H hT hP hPo hPl hs ok hl c hb hcm).mono ?_
    rintro e w' ⟨rfl, hB⟩
    exact ⟨none, 0, 0, rfl, hB, .inl ⟨hb, rfl, rfl, rfl⟩⟩
  · obtain ⟨n, rfl⟩ : ∃ n : Nat, rows = (n : Int) := ⟨rows.toNat, by omega⟩
    obtain ⟨m, rfl⟩ : ∃ m : Nat, cols = (m : Int) := ⟨cols.toNat, by omega⟩
    refine (sof_yes H hT hP hPo hPl hs ok hl c (n := n) (m := m) (by omega) (by omega) (by omega) (by omega)).mono ?_
    rintro e w' ⟨gb, lb, rfl, hB, _, _, hG⟩
    exact ⟨_, _, _, rfl, hB, .inr ⟨n, m, gb, lb, rfl, rfl, by omega, by omega, by omega, by omega, rfl, rfl, rfl, hG⟩⟩
end
set_option maxRecDepth 100000 in
set_option maxHeartbeats 4000000 in
theorem view29_any (a1 a2 : Option Addr) (n1 c1 n2 c2 : Nat) (c : Int) (w : World) : Calls Tryz.prog 23 #[.agg #[.slice a1 n1 c1, .slice a2 n2 c2, .int .i64 c]] w fun e w' => e = .returned (.agg #[.slice a1 n1 c1, .slice a2 n2 c2, .int .i64 c]) ∧ Below w.heap.size w w' := by
  have hba := below1 w (.cells #[.slice a1 n1 c1, .slice a2 n2 c2, .int .i64 c] 53)
  have hna := heap_alloc_new w (.cells #[.slice a1 n1 c1, .slice a2 n2 c2, .int .i64 c] 53)
  have hbb := below1 (w.alloc (.cells #[.slice a1 n1 c1, .slice a2 n2 c2, .int .i64 c] 53)) (.cells #[.slice none 0 0, .slice none 0 0, .int .i64 0] 61)
  have hnb := heap_alloc_new (w.alloc (.cells #[.slice a1 n1 c1, .slice a2 n2 c2, .int .i64 c] 53)) (.cells #[.slice none 0 0, .slice none 0 0, .int .i64 0] 61)
  have hza : (w.alloc (.cells #[.slice a1 n1 c1, .slice a2 n2 c2, .int .i64 c] 53)).heap.size = w.heap.size + 1 := by simp
  rw [hza] at hbb hnb
  have HB1 := Lib.hid (hba.trans (hbb.mono (by omega)))
  have HNV := Lib.hid ((hbb.block _ (by omega)).trans hna)
  have HNR := Lib.hid hnb
  clear hba hbb hna hnb hza
  go_enter Tryz.func23, Tryz.ntmps23
  go_upto_region 1 with fail
  generalize (w.alloc (.cells #[.slice a1 n1 c1, .slice a2 n2 c2, .int .i64 c] 53)).alloc (.cells #[.slice none 0 0, .slice none 0 0, .int .i64 0] 61) = w1 at HB1 HNV HNR ⊢
  have v0 := row_cells (i := 0) HNV.out rfl
  have v1 := row_cells (i := 1) HNV.out rfl
  have v2 := row_cells (i := 2) HNV.out rfl
  have r0 := row_cells (i := 0) HNR.out rfl
  have r1 := row_cells (i := 1) HNR.out rfl
  have r2 := row_cells (i := 2) HNR.out rfl
  have rw0 := row_warm HNR.out 0
  have rw1 := row_warm HNR.out 1
  have rw2 := row_warm HNR.out 2
  have hoa : w.heap.size ≤ w.heap.size + 1 := by omega
  go_wp2_with fail
  refine ret_cell1 (ad := ⟨w.heap.size + 1, 0, none⟩) rfl rfl (run_loadVar_mid _ _ 0 _ [.slice a1 n1 c1, .slice a2 n2 c2, .int .i64 c] _ (range3s (by go_simp) (by go_simp) (by go_simp)) Tryz.underlying61 rfl (by kernel_rfl)) rfl ?_
  exact ⟨rfl, ((HB1.out.setCell (show w.heap.size ≤ (⟨w.heap.size + 1, 0, none⟩ : Addr).block from hoa) _).setCell (show w.heap.size ≤ (⟨w.heap.size + 1, 1, none⟩ : Addr).block from hoa) _).setCell (show w.heap.size ≤ (⟨w.heap.size + 1, 2, none⟩ : Addr).block from hoa) _⟩
end Go.Proofs.YtkeainhjghdfcaaGreat

/- ScreenCursor: its walk. (Printed by gen_scursor.py.) -/
namespace Go.Proofs.YtkeainhjghdfcaaGreat
open Go.RowKit

theorem texts_of_own2 {W : World} {w0 : World} {B n : Nat} {e : TypeId} {pv : Value} {vs : List Value} {LL : List (List Int)} (h : W.ownsRow B e 1 pv n vs) (hn : vs.length = n) (hb : Below w0.heap.size w0 W) (hl : vs.length = LL.length) (hel : ∀ (i : Nat) (u : Value) (l : List Int), vs[i]? = some u → LL[i]? = some l → RunesIn w0 u l) : TextsIn W pv LL := by
  subst hn
  exact texts_of_own h hb hl hel
end Go.Proofs.YtkeainhjghdfcaaGreat
