/- The law's own helper 'few': of glyphs the first hundred, each one or two columns wide. -/
import Derived.Test.YtokenlecnbploaaRows
import Derived.Test.YtokenlecnbploaaBase
namespace Go.Proofs.Ytokenlecnbploaa
open Go.RowKit
abbrev Gl := ByteArray × Int
def genc (g : Gl) : List Value := [.string g.1, .int .i64 g.2]
theorem genc_len (g : Gl) : (genc g).length = 2 := rfl
theorem genc_one (g : Gl) : ∀ u ∈ genc g, u.oneCell' = true := by intro u hu; simp [genc] at hu; rcases hu with rfl | rfl <;> rfl
theorem flat_snoc {α : Type} (enc : α → List Value) (l : List α) (x : α) : (l ++ [x]).flatMap enc = l.flatMap enc ++ enc x := by simp
def fewl (l : List Gl) : List Gl := (l.take 100).map fun g => (g.1, 1 + g.2 % 2)
theorem Eg : ElemT Try.prog 23 36 2 24 := elemT_of (by kernel_rfl) (z := .agg #[.string ⟨#[]⟩, .int .i64 0]) (by kernel_rfl) rfl (by decide) (by decide)
theorem Erg : ElemT Try.prog 22 56 2 24 := elemT_of (by kernel_rfl) (z := .agg #[.string ⟨#[]⟩, .int .i64 0]) (by kernel_rfl) rfl (by decide) (by decide)
theorem fewl_snoc (l : List Gl) (k : Nat) (g : Gl) (hg : l[k]? = some g) (hk : k < 100) : fewl (l.take (k + 1)) = fewl (l.take k) ++ [(g.1, 1 + g.2 % 2)] := by
  unfold fewl
  rw [List.take_take, List.take_take, show min 100 (k+1) = k+1 by omega, show min 100 k = k by omega, List.take_add_one, hg]
  simp
theorem fewl_take (l : List Gl) (k : Nat) (hk : k = l.length ∨ k = 100) : fewl (l.take k) = fewl l := by
  unfold fewl; rcases hk with rfl | rfl; simp; rw [List.take_take, Nat.min_self]
theorem fewl_length (l : List Gl) : (fewl l).length = min l.length 100 := by unfold fewl; simp; omega
set_option maxRecDepth 100000 in
set_option maxHeartbeats 400000 in
theorem few_any (v : Value) (l : List Gl) (w : World) (hR : Rs w.heap.size w genc 2 v l) :
    Calls Try.prog 14 #[v] w fun e w' => ∃ va vb, e = .returned (.tuple #[va, vb]) ∧ Below w.heap.size w w' ∧
      w'.ownsRow w.heap.size 36 2 va (fewl l).length ((fewl l).flatMap genc) ∧ w'.ownsRow w.heap.size 56 2 vb (fewl l).length ((fewl l).flatMap genc) := by
  obtain ⟨a, cap, rfl, hcap, hmax, hxl, hcells⟩ := hR
  unfold maxLen at hmax
  go_enter Try.func14, Try.ntmps14
  go_wp2
  go_loopw [4, 5, 6] (fun va vb i wr => ∃ k : Nat, k ≤ l.length ∧ k ≤ 100 ∧ i = .int .i64 k ∧ Below w.heap.size w wr ∧ Sep va vb ∧ wr.ownsRow w.heap.size 36 2 va k ((fewl (l.take k)).flatMap genc) ∧ wr.ownsRow w.heap.size 56 2 vb k ((fewl (l.take k)).flatMap genc)) (fun _ _ i _ => l.length - (intOf i).toNat)
  case atStart => exact ⟨0, Nat.zero_le _, Nat.zero_le _, rfl, Below.refl _ _, Sep.nil_left _, World.ownsRow_nil _ _ _ _, World.ownsRow_nil _ _ _ _⟩
  case round =>
    obtain ⟨k, hk, hk2, rfl, hB, hsep, ha, hb⟩ := hrel
    have hBs := hB.size
    by_cases hlt : k < l.length ∧ k < 100
    · obtain ⟨hlt, h100⟩ := hlt
      obtain ⟨g, hg⟩ : ∃ g, l[k]? = some g := ⟨l[k], by simp [hlt]⟩
      obtain ⟨b, off, rfl, hbl, hc⟩ := hcells (by omega)
      have H1 := Lib.hid (flat_cell genc_len hc hg 0 rfl)
      have H2 := Lib.hid (flat_cell genc_len hc hg 1 rfl)
      have hd1 : wr.cell? ⟨b, off + k * 2, none⟩ = some (.string g.1) := cell_later hB H1.out
      have hd2 : wr.cell? ⟨b, off + k * 2 + 1, none⟩ = some (.int .i64 g.2) := cell_later hB H2.out
      have HG := Lib.hid (fewl_snoc l k g hg h100)
      have hbit := and1 g.2
      clear hg hc hcells hxl
      go_wp2_with (first | (at_builtin; refine wpList_app1 _ rfl (.tmp 25) _ _ rfl Eg _ _ _ rfl ha _ _ (genc (g.1, 1 + g.2 % 2)) rfl (by decide) rfl (genc_one _) (by omega) hB.size ?_; intro g1 cap1 w1 ho1 hg1 hf1; obtain ⟨hsep1, hb1⟩ := hsep.app (n := k + 1) (cap := cap1) hb hf1 hg1; have hB1 := below_app hB hBs ha (Nat.le_refl _) hg1; have hd1' : w1.cell? ⟨b, off + k * 2, none⟩ = some (.string g.1) := cell_later hB1 H1.out) | (at_builtin; refine wpList_app1 _ rfl (.tmp 35) _ _ rfl Erg _ _ _ rfl hb1 _ _ (genc (g.1, 1 + g.2 % 2)) rfl (by decide) rfl (genc_one _) (by omega) hB1.size ?_; intro g2 cap2 w2 ho2 hg2 hf2; obtain ⟨hsep2, hb2⟩ := hsep1.symm.app (n := k + 1) (cap := cap2) ho1 hf2 hg2; have hB2 := below_app hB1 hB1.size hb1 (Nat.le_refl _) hg2))
      go_roundw
      case rel => exact ⟨k + 1, by omega, by omega, by go_num, hB2, hsep2.symm, by rw [HG.out, flat_snoc]; exact hb2, by rw [HG.out, flat_snoc]; exact ho2⟩
      case measure => simp [intOf]; omega
    · have HT := Lib.hid (fewl_take l k (by omega))
      have HL := Lib.hid (show (fewl l).length = k by rw [fewl_length l]; omega)
      rw [HT.out] at ha hb
      have HA := Lib.hid ha
      have HB := Lib.hid hb
      clear ha hb hcells hxl
      by_cases hlt2 : k < l.length
      all_goals
        go_wp2
        go_ret2
        exact ⟨u4, u5, rfl, hB, by rw [HL.out]; exact HA.out, by rw [HL.out]; exact HB.out⟩
end Go.Proofs.Ytokenlecnbploaa
