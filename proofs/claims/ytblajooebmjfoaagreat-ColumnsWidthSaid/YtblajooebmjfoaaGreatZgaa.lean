/- Joined texts: ColA ColB ColP ColC ColD ColE ColF ColW. -/
import Derived.Test.YtblajooebmjfoaaGreatRows
import Derived.Deep.QuietTactic
import Derived.BigQuiet
import Derived.IntWalk
import Derived.Test.YtblajooebmjfoaaGreatZaaa
import Derived.Test.YtblajooebmjfoaaGreatZead
/- Lists of ints: 'small', both 'Total', 'Same'. -/
namespace Go.Proofs.YtblajooebmjfoaaGreat
open Go.RowKit

def ints (zs : List Int) : List Value := zs.map (.int .i64)
theorem ints_get {zs : List Int} {k : Nat} {z : Int} (h : zs[k]? = some z) : (ints zs)[k]? = some (.int .i64 z) := by simp [ints, h]
theorem ints_len (zs : List Int) : (ints zs).length = zs.length := by simp [ints]
theorem ints_snoc (zs : List Int) (z : Int) : ints zs ++ [.int .i64 z] = ints (zs ++ [z]) := by simp [ints]
theorem Ei : ElemT Tryz.prog 26 3 1 8 := elemT_of (by kernel_rfl) (z := .int .i64 0) (by kernel_rfl) rfl (by decide) (by decide)
theorem one_int (z : Int) : ∀ u ∈ [Value.int .i64 z], u.oneCell' = true := by intro u hu; simp at hu; subst hu; rfl
/-- v reads as the list zs of ints. -/
def Ri (B : Nat) (w : World) (v : Value) (zs : List Int) : Prop := Rd B w 1 v zs.length (ints zs)
theorem ri_of_owns {w : World} {base e : Nat} {v : Value} {zs : List Int} (h : w.ownsRow base e 1 v zs.length (ints zs)) : Ri w.heap.size w v zs := rd_of_owns h

def smallL (zs : List Int) : List Int := (zs.take 60).map (· % 1024)
theorem smallL_snoc (zs : List Int) (k : Nat) (z : Int) (hz : zs[k]? = some z) (hk : k < 60) : smallL (zs.take (k + 1)) = smallL (zs.take k) ++ [z % 1024] := by
  unfold smallL
  rw [List.take_take, List.take_take, show min 60 (k+1) = k+1 by omega, show min 60 k = k by omega, List.take_add_one, hz]
  simp
theorem smallL_len (zs : List Int) : (smallL zs).length = min zs.length 60 := by unfold smallL; simp; omega
theorem smallL_take (zs : List Int) (k : Nat) (hk : k = zs.length ∨ k = 60) : smallL (zs.take k) = smallL zs := by
  unfold smallL; rcases hk with rfl | rfl; simp; rw [List.take_take, Nat.min_self]
theorem smallL_bd (zs : List Int) : ∀ z ∈ smallL zs, 0 ≤ z ∧ z ≤ 1023 := by
  intro z hz; unfold smallL at hz; obtain ⟨y, _, rfl⟩ := List.mem_map.1 hz; omega

def totalL (zs : List Int) : Int := zs.foldl (· + ·) 0 + 2 * ((zs.length - 1 : Nat) : Int)
def sumL (zs : List Int) : Int := zs.foldl (· + ·) 0
theorem sumL_snoc (zs : List Int) (z : Int) : sumL (zs ++ [z]) = sumL zs + z := by simp [sumL]
theorem take_snoc' {α : Type} {zs : List α} {k : Nat} {z : α} (h : zs[k]? = some z) : zs.take (k + 1) = zs.take k ++ [z] := by rw [List.take_add_one, h]; rfl
def narrow (zs : List Int) : Prop := zs.length ≤ 1048576 ∧ ∀ z ∈ zs, 0 ≤ z ∧ z ≤ 1048576
theorem sumL_bd {zs : List Int} (h : narrow zs) : ∀ k, k ≤ zs.length → 0 ≤ sumL (zs.take k) ∧ sumL (zs.take k) ≤ 1048576 * k := by
  intro k
  induction k with
  | zero => intro _; simp [sumL]
  | succ k ih =>
    intro hk
    obtain ⟨h1, h2⟩ := ih (by omega)
    have hz : zs[k]? = some zs[k] := List.getElem?_eq_getElem (by omega)
    obtain ⟨w1, w2⟩ := h.2 zs[k] (List.getElem_mem _)
    rw [take_snoc' hz, sumL_snoc]
    omega
def partL (zs : List Int) (k : Nat) : Int := sumL (zs.take k) + 2 * ((k - 1 : Nat) : Int)

end Go.Proofs.YtblajooebmjfoaaGreat

/- 'Total' of a plan; 'Same' of two lists that are the same. -/
namespace Go.Proofs.YtblajooebmjfoaaGreat
open Go.RowKit

set_option maxRecDepth 100000 in
set_option maxHeartbeats 400000 in
theorem total_any (r : Int) (v : Value) (zs : List Int) (w : World) (hR : Ri w.heap.size w v zs) (hn : narrow zs) :
    Calls Tryz.prog 61 #[.agg #[.int .i64 r, v]] w fun e w' => e = .returned (.int .i64 (totalL zs)) ∧ Below w.heap.size w w' := by
  obtain ⟨a, cap, rfl, hcap, hmax, hxl, hcells⟩ := hR
  unfold maxLen at hmax
  have hlen := hn.1
  clear hxl
  go_enter Tryz.func61, Tryz.ntmps61
  go_wp2
  go_loop [3, 9] (fun n i => ∃ k : Nat, k ≤ zs.length ∧ i = .int .i64 k ∧ n = .int .i64 (partL zs k)) (fun _ i => zs.length - (intOf i).toNat)
  case atStart => exact ⟨0, Nat.zero_le _, rfl, rfl⟩
  case round =>
    obtain ⟨k, hk, rfl, rfl⟩ := hrel
    obtain ⟨s1, s2⟩ := sumL_bd hn k hk
    by_cases hlt : k < zs.length
    · obtain ⟨z, hz⟩ : ∃ z, zs[k]? = some z := ⟨zs[k], by simp [hlt]⟩
      obtain ⟨b, off, rfl, hbl, hc⟩ := hcells (by omega)
      obtain ⟨z1, z2⟩ := hn.2 z (List.mem_of_getElem? hz)
      have hd : w.cell? ⟨b, off + k, none⟩ = some (.int .i64 z) := hc _ _ (ints_get hz)
      have hp : partL zs (k + 1) = sumL (zs.take k) + z + 2 * (k : Int) := by unfold partL; rw [take_snoc' hz, sumL_snoc]; simp
      have hp0 : partL zs k = sumL (zs.take k) + 2 * ((k - 1 : Nat) : Int) := rfl
      generalize partL zs k = P at *
      generalize sumL (zs.take k) = S at *
      have HP := Lib.hid hp
      have hP1 : 0 ≤ P := by omega
      have hP2 : P ≤ 1152921504606846976 := by omega
      have HP0 := Lib.hid hp0
      clear hz hc hcells hp hp0
      by_cases h0 : (0 : Int) < k
      all_goals
        go_wp2
        go_round
        case rel => exact ⟨k + 1, by omega, by go_num, by rw [HP.out]; have := HP0.out; congr 1; omega⟩
        case measure => simp [intOf]; omega
    · have hkl : k = zs.length := by omega
      subst hkl
      have hT := Lib.hid (show partL zs zs.length = totalL zs by unfold partL totalL sumL; rw [List.take_length])
      clear hcells
      go_wp2
      go_ret
      exact ⟨ret_int hT.out, (Below.refl _ _).alloc (Nat.le_refl _) _⟩

set_option maxRecDepth 100000 in
set_option maxHeartbeats 400000 in
theorem sameInts_eq (v u : Value) (zs : List Int) (w : World) (hv : Ri w.heap.size w v zs) (hu : Ri w.heap.size w u zs) :
    Calls Tryz.prog 49 #[v, u] w fun e w' => e = .returned (.bool true) ∧ Below w.heap.size w w' := by
  obtain ⟨a, cap, rfl, hcap, hmax, hxl, hcells⟩ := hv
  obtain ⟨a', cap', rfl, hcap', hmax', hxl', hcells'⟩ := hu
  unfold maxLen at hmax hmax'
  clear hxl hxl'
  go_enter Tryz.func49, Tryz.ntmps49
  go_wp2
  go_loopw [5] (fun i wr => ∃ k : Nat, k ≤ zs.length ∧ i = .int .i64 k ∧ Below w.heap.size w wr) (fun i _ => zs.length - (intOf i).toNat)
  case atStart => exact ⟨0, Nat.zero_le _, rfl, Below.refl _ _⟩
  case round =>
    obtain ⟨k, hk, rfl, hB⟩ := hrel
    by_cases hlt : k < zs.length
    · obtain ⟨z, hz⟩ : ∃ z, zs[k]? = some z := ⟨zs[k], by simp [hlt]⟩
      obtain ⟨b, off, rfl, hbl, hc⟩ := hcells (by omega)
      obtain ⟨b', off', rfl, hbl', hc'⟩ := hcells' (by omega)
      have hd : wr.cell? ⟨b, off + k, none⟩ = some (.int .i64 z) := cell_later hB (hc _ _ (ints_get hz))
      have hd' : wr.cell? ⟨b', off' + k, none⟩ = some (.int .i64 z) := cell_later hB (hc' _ _ (ints_get hz))
      have hkl : (k : Int) < zs.length := by omega
      clear hcells hcells' hc hc' hz
      go_wp2
      go_quiet (fail)
      go_wp2
      go_roundw
      case rel => exact ⟨k + 1, by omega, by go_num, ⟨hB.os, hB.tape, hB.output, hB.size, hB.block⟩⟩
      case measure => simp [intOf]; omega
    · clear hcells hcells'
      go_wp2
      go_ret
      exact ⟨rfl, hB⟩
end Go.Proofs.YtblajooebmjfoaaGreat

/- The plain law of plans: the widths of columns, chunk by chunk, and element by element. -/
namespace Go.Proofs.YtblajooebmjfoaaGreat

def maxL (zs : List Int) : Int := zs.foldl max 0
theorem maxL_snoc (zs : List Int) (z : Int) : maxL (zs ++ [z]) = max (maxL zs) z := by simp [maxL]
def chunk (zs : List Int) (rows c : Nat) : List Int := (zs.drop (c * rows)).take rows
def planL (zs : List Int) (rows : Nat) : List Int := (List.range ((zs.length + rows - 1) / rows)).map fun c => maxL (chunk zs rows c)

theorem ceil_div {n q m rows : Nat} (h : n = q * rows + m) (hm : m < rows) : (n + rows - 1) / rows = if m = 0 then q else q + 1 := by
  split
  · rename_i h0
    refine Nat.div_eq_of_lt_le ?_ ?_
    · omega
    · rw [Nat.succ_mul]; omega
  · refine Nat.div_eq_of_lt_le ?_ ?_
    · rw [Nat.succ_mul]; omega
    · rw [Nat.succ_mul, Nat.succ_mul]; omega

theorem planL_len (zs : List Int) (rows : Nat) : (planL zs rows).length = (zs.length + rows - 1) / rows := by simp [planL]

theorem chunk_snoc_before (zs : List Int) (z : Int) {rows c : Nat} (h : c * rows + rows ≤ zs.length) : chunk (zs ++ [z]) rows c = chunk zs rows c := by
  unfold chunk
  rw [List.drop_append_of_le_length (by omega), List.take_append_of_le_length (by simp; omega)]

theorem chunk_snoc_last (zs : List Int) (z : Int) {rows c : Nat} (h : c * rows ≤ zs.length) (h2 : zs.length < c * rows + rows) : chunk (zs ++ [z]) rows c = chunk zs rows c ++ [z] := by
  unfold chunk
  rw [List.drop_append_of_le_length h, List.take_append, List.take_of_length_le (by simp; omega), List.take_of_length_le (l := [z]) (by simp; omega)]

theorem planL_get (zs : List Int) (rows c : Nat) (h : c < (zs.length + rows - 1) / rows) : (planL zs rows)[c]? = some (maxL (chunk zs rows c)) := by
  unfold planL; rw [List.getElem?_map, List.getElem?_range h]; rfl

theorem plan_div (n rows : Nat) (hr : 0 < rows) : n = n / rows * rows + n % rows ∧ n % rows < rows := ⟨by rw [Nat.mul_comm]; exact (Nat.div_add_mod n rows).symm, Nat.mod_lt _ hr⟩

/-- One element more: a new column. -/
theorem planL_new (zs : List Int) (z : Int) (rows : Nat) (hr : 0 < rows) (hm : zs.length % rows = 0) :
    planL (zs ++ [z]) rows = planL zs rows ++ [max 0 z] ∧ (planL zs rows).length = zs.length / rows := by
  obtain ⟨h1, h2⟩ := plan_div zs.length rows hr
  have hl : (planL zs rows).length = zs.length / rows := by rw [planL_len, ceil_div h1 h2, if_pos hm]
  refine ⟨?_, hl⟩
  have hl2 : (planL (zs ++ [z]) rows).length = zs.length / rows + 1 := by
    rw [planL_len]
    have e : (zs ++ [z]).length + rows - 1 = zs.length + rows := by rw [List.length_append, List.length_singleton]; omega
    rw [e, Nat.add_div_right _ hr]
  generalize hq : zs.length / rows = q at *
  refine List.ext_getElem? fun c => ?_
  rcases Nat.lt_trichotomy c q with hc | hc | hc
  · rw [List.getElem?_append_left (by omega), planL_get _ _ _ (by rw [← planL_len]; omega), planL_get _ _ _ (by rw [← planL_len]; omega), chunk_snoc_before]
    have := Nat.mul_le_mul_right rows (show c + 1 ≤ q by omega)
    rw [Nat.succ_mul] at this
    omega
  · subst hc
    rw [List.getElem?_append_right (by omega), hl, Nat.sub_self, planL_get _ _ _ (by rw [← planL_len]; omega), chunk_snoc_last _ _ (by omega) (by omega), maxL_snoc]
    have : chunk zs rows c = [] := by unfold chunk; rw [List.drop_of_length_le (by omega), List.take_nil]
    rw [this]
    rfl
  · rw [List.getElem?_eq_none (by omega), List.getElem?_eq_none (by simp; omega)]

/-- One element more in the last column. -/
theorem planL_old (zs : List Int) (z : Int) (rows : Nat) (hr : 0 < rows) (hm : zs.length % rows ≠ 0) :
    ∃ x, (planL zs rows)[zs.length / rows]? = some x ∧ planL (zs ++ [z]) rows = (planL zs rows).set (zs.length / rows) (max x z) := by
  obtain ⟨h1, h2⟩ := plan_div zs.length rows hr
  have hl : (planL zs rows).length = zs.length / rows + 1 := by rw [planL_len, ceil_div h1 h2, if_neg hm]
  have hl2 : (planL (zs ++ [z]) rows).length = zs.length / rows + 1 := by
    rw [planL_len]
    have e : (zs ++ [z]).length + rows - 1 = zs.length + rows := by rw [List.length_append, List.length_singleton]; omega
    rw [e, Nat.add_div_right _ hr]
  generalize hq : zs.length / rows = q at *
  refine ⟨_, planL_get zs rows q (by rw [← planL_len]; omega), List.ext_getElem? fun c => ?_⟩
  rcases Nat.lt_trichotomy c q with hc | hc | hc
  · rw [List.getElem?_set_ne (by omega), planL_get _ _ _ (by rw [← planL_len]; omega), planL_get _ _ _ (by rw [← planL_len]; omega), chunk_snoc_before]
    have := Nat.mul_le_mul_right rows (show c + 1 ≤ q by omega)
    rw [Nat.succ_mul] at this
    omega
  · subst hc
    rw [List.getElem?_set_self (by omega), planL_get _ _ _ (by rw [← planL_len]; omega), chunk_snoc_last _ _ (by omega) (by omega), maxL_snoc]
  · rw [List.getElem?_eq_none (by omega), List.getElem?_eq_none (by simp; omega)]

theorem maxL_bd {B : Int} (hB : 0 ≤ B) : ∀ zs : List Int, (∀ z ∈ zs, z ≤ B) → 0 ≤ maxL zs ∧ maxL zs ≤ B := by
  intro zs
  have key : ∀ (l : List Int) (x : Int), 0 ≤ x → x ≤ B → (∀ z ∈ l, z ≤ B) → 0 ≤ l.foldl max x ∧ l.foldl max x ≤ B := by
    intro l
    induction l with
    | nil => intro x h1 h2 _; exact ⟨h1, h2⟩
    | cons y l ih =>
      intro x h1 h2 h3
      have hy := h3 y List.mem_cons_self
      exact ih (max x y) (by omega) (by omega) (fun z hz => h3 z (List.mem_cons_of_mem _ hz))
  exact key zs 0 (Int.le_refl _) hB

theorem planL_bd {B : Int} (hB : 0 ≤ B) (zs : List Int) (rows : Nat) (h : ∀ z ∈ zs, z ≤ B) : ∀ z ∈ planL zs rows, 0 ≤ z ∧ z ≤ B := by
  intro z hz
  unfold planL at hz
  obtain ⟨c, _, rfl⟩ := List.mem_map.1 hz
  exact maxL_bd hB _ (fun y hy => h y (List.mem_of_mem_drop (List.mem_of_mem_take hy)))
end Go.Proofs.YtblajooebmjfoaaGreat

/- columns.plan: widths laid into so many rows. -/
namespace Go.Proofs.YtblajooebmjfoaaGreat
open Go.RowKit

/-- The two variables of plan: the result's, and p, whose rows are known. -/
structure PlanF (w : World) (rows : Nat) (wr : World) : Prop where
  below : Below w.heap.size w wr
  size : w.heap.size + 2 ≤ wr.heap.size
  r0 : wr.cell? ⟨w.heap.size, 0, none⟩ = some (.int .i64 0)
  r1 : wr.cell? ⟨w.heap.size, 1, none⟩ = some (.slice none 0 0)
  f0 : wr.frozen? ⟨w.heap.size, 0, none⟩ = false
  f1 : wr.frozen? ⟨w.heap.size, 1, none⟩ = false
  p0 : wr.cell? ⟨w.heap.size + 1, 0, none⟩ = some (.int .i64 rows)
  g0 : wr.frozen? ⟨w.heap.size + 1, 0, none⟩ = false
  g1 : wr.frozen? ⟨w.heap.size + 1, 1, none⟩ = false

theorem PlanF.stays {w wr w1 : World} {rows : Nat} (h : PlanF w rows wr) (hb : Below (w.heap.size + 2) wr w1) : PlanF w rows w1 :=
  ⟨h.below.trans (hb.mono (by omega)), Nat.le_trans h.size hb.size, (hb.cell (p := ⟨w.heap.size, 0, none⟩) (by show w.heap.size < _; omega)).trans h.r0, (hb.cell (p := ⟨w.heap.size, 1, none⟩) (by show w.heap.size < _; omega)).trans h.r1,
    (hb.frozen (p := ⟨w.heap.size, 0, none⟩) (by show w.heap.size < _; omega)).trans h.f0, (hb.frozen (p := ⟨w.heap.size, 1, none⟩) (by show w.heap.size < _; omega)).trans h.f1,
    (hb.cell (p := ⟨w.heap.size + 1, 0, none⟩) (by show w.heap.size + 1 < _; omega)).trans h.p0,
    (hb.frozen (p := ⟨w.heap.size + 1, 0, none⟩) (by show w.heap.size + 1 < _; omega)).trans h.g0, (hb.frozen (p := ⟨w.heap.size + 1, 1, none⟩) (by show w.heap.size + 1 < _; omega)).trans h.g1⟩

theorem PlanF.setP {w wr : World} {rows : Nat} (h : PlanF w rows wr) (u : Value) : PlanF w rows (wr.setCell ⟨w.heap.size + 1, 1, none⟩ u) :=
  ⟨h.below.setCell (p := ⟨w.heap.size + 1, 1, none⟩) (by show w.heap.size ≤ w.heap.size + 1; omega) u, by simpa using h.size, (World.cell?_setCell_other _ _ _ _ (by simp)).trans h.r0, (World.cell?_setCell_other _ _ _ _ (by simp)).trans h.r1,
    (World.frozen?_setCell _ _ _ _).trans h.f0, (World.frozen?_setCell _ _ _ _).trans h.f1, (World.cell?_setCell_other _ _ _ _ (by simp)).trans h.p0, (World.frozen?_setCell _ _ _ _).trans h.g0, (World.frozen?_setCell _ _ _ _).trans h.g1⟩

theorem set_ints (zs : List Int) (k : Nat) (z : Int) : (ints zs).set k (.int .i64 z) = ints (zs.set k z) := by unfold ints; rw [List.map_set]

def PlanI (w : World) (rows : Nat) (zs : List Int) (k : Nat) (wr : World) : Prop :=
  PlanF w rows wr ∧ ∃ a cap, wr.cell? ⟨w.heap.size + 1, 1, none⟩ = some (.slice a (planL (zs.take k) rows).length cap) ∧
    wr.ownsRow (w.heap.size + 2) 3 1 (.slice a (planL (zs.take k) rows).length cap) (planL (zs.take k) rows).length (ints (planL (zs.take k) rows))

theorem planI_mk {w W : World} {rows : Nat} {zs M : List Int} {k : Nat} {gb n cap : Nat} (hF : PlanF w rows W) (hc : W.cell? ⟨w.heap.size + 1, 1, none⟩ = some (.slice (some ⟨gb, 0, none⟩) n cap))
    (hn : n = M.length) (ho : W.ownsRow (w.heap.size + 2) 3 1 (.slice (some ⟨gb, 0, none⟩) n cap) n (ints M)) (hM : planL (zs.take k) rows = M) : PlanI w rows zs k W := by
  subst hn
  subst hM
  exact ⟨hF, _, _, hc, ho⟩

/-- p's slice is written, then one of its cells. -/
theorem planI_two {w w1 : World} {rows : Nat} {zs L M : List Int} {k : Nat} {gb n cap q : Nat} {z : Int} {xs : List Value} (hF : PlanF w rows w1) (hsome : (w1.cell? ⟨w.heap.size + 1, 1, none⟩).isSome = true)
    (ho : w1.ownsRow (w.heap.size + 2) 3 1 (.slice (some ⟨gb, 0, none⟩) n cap) n xs) (hn : n = M.length) (hxs : xs = ints L) (hL : L.set q z = M) (hM : planL (zs.take k) rows = M) :
    PlanI w rows zs k ((w1.setCell ⟨w.heap.size + 1, 1, none⟩ (.slice (some ⟨gb, 0, none⟩) n cap)).setCell ⟨gb, q, none⟩ (.int .i64 z)) := by
  have hgb := ho.lt gb rfl
  have ho2 := (ownsRow_setCell_below ho (a := ⟨w.heap.size + 1, 1, none⟩) (by show w.heap.size + 1 < _; omega) (.slice (some ⟨gb, 0, none⟩) n cap)).stored q (.int .i64 z)
  refine planI_mk (M := M) (gb := gb) (cap := cap) ((hF.setP _).stays ((Below.refl _ _).setCell (p := ⟨gb, q, none⟩) hgb.1 _)) ?_ hn ?_ hM
  · rw [World.cell?_setCell_other _ _ _ _ (by intro e; injection e with e1; omega)]
    exact World.cell?_setCell_same' _ _ _ hsome
  · rw [← hL, ← set_ints, ← hxs]
    exact ho2.1

theorem planI_one {w w1 : World} {rows : Nat} {zs M : List Int} {k : Nat} {gb n cap : Nat} {xs : List Value} (hF : PlanF w rows w1) (hsome : (w1.cell? ⟨w.heap.size + 1, 1, none⟩).isSome = true)
    (ho : w1.ownsRow (w.heap.size + 2) 3 1 (.slice (some ⟨gb, 0, none⟩) n cap) n xs) (hn : n = M.length) (hxs : xs = ints M) (hM : planL (zs.take k) rows = M) :
    PlanI w rows zs k (w1.setCell ⟨w.heap.size + 1, 1, none⟩ (.slice (some ⟨gb, 0, none⟩) n cap)) := by
  have ho2 := ownsRow_setCell_below ho (a := ⟨w.heap.size + 1, 1, none⟩) (by show w.heap.size + 1 < _; omega) (.slice (some ⟨gb, 0, none⟩) n cap)
  exact planI_mk (M := M) (hF.setP _) (World.cell?_setCell_same' _ _ _ hsome) hn (by rw [← hxs]; exact ho2) hM

set_option maxRecDepth 100000 in
set_option maxHeartbeats 1000000 in
theorem plan_any (v : Value) (zs : List Int) (rows : Nat) (w : World) (hR : Ri w.heap.size w v zs) (hlen : zs.length ≤ 1048576) (hr : 0 < rows) (hr2 : rows ≤ 1048576) (hz : ∀ z ∈ zs, 0 ≤ z) :
    Calls Tryz.prog 98 #[v, .int .i64 rows] w fun e w' => ∃ vw, e = .returned (.agg #[.int .i64 rows, vw]) ∧ Below w.heap.size w w' ∧ w'.ownsRow w.heap.size 3 1 vw (planL zs rows).length (ints (planL zs rows)) := by
  obtain ⟨a, cap, rfl, hcap, hmax, hxl, hcells⟩ := hR
  unfold maxLen at hmax
  clear hxl
  go_enter Tryz.func98, Tryz.ntmps98
  go_wp2
  go_loopw [13] (fun i wr => ∃ k : Nat, k ≤ zs.length ∧ i = .int .i64 k ∧ PlanI w rows zs k wr) (fun i _ => zs.length - (intOf i).toNat)
  case atStart =>
    refine ⟨0, Nat.zero_le _, rfl, ⟨((Below.refl _ w).alloc (Nat.le_refl _) _).alloc (by simp) _, by simp, by go_simp, by go_simp, by go_simp, by go_simp, by go_simp, by go_simp, by go_simp⟩, ?_⟩
    have h0 : planL (zs.take 0) rows = [] := by
      unfold planL
      have : (([] : List Int).length + rows - 1) / rows = 0 := Nat.div_eq_of_lt (by simp; omega)
      simp only [List.take_zero, this, List.range_zero, List.map_nil]
    rw [h0]
    exact ⟨none, 0, by go_simp, World.ownsRow_nil _ _ _ _⟩
  case round =>
    obtain ⟨k, hk, rfl, hF, ap, capp, p1, ho⟩ := hrel
    obtain ⟨q, hq⟩ : ∃ q, q = k / rows := ⟨_, rfl⟩
    have hqk : q ≤ k := by rw [hq]; exact Nat.div_le_self _ _
    have hqi : (k : Int) / (rows : Int) = (q : Int) := by rw [hq]; rfl
    by_cases hlt : k < zs.length
    · obtain ⟨z, hzk⟩ : ∃ z, zs[k]? = some z := ⟨zs[k], by simp [hlt]⟩
      obtain ⟨b, off, rfl, hbl, hc⟩ := hcells (by omega)
      have hd : wr.cell? ⟨b, off + k, none⟩ = some (.int .i64 z) := cell_later hF.below (hc _ _ (ints_get hzk))
      have hz0 := hz z (List.mem_of_getElem? hzk)
      have hts := take_snoc' hzk
      have htl : (zs.take k).length = k := by simp; omega
      have hsz := hF.size
      by_cases hm : k % rows = 0
      · have hnew := planL_new (zs.take k) z rows hr (by rw [htl]; exact hm)
        rw [htl, ← hts, ← hq] at hnew
        obtain ⟨hn1, hn2⟩ := hnew
        have hmb : ((k : Int) % (rows : Int) == 0) = true := by simp; omega
        rw [hn2] at p1 ho
        obtain ⟨L, hL⟩ : ∃ L, L = planL (zs.take k) rows := ⟨_, rfl⟩
        rw [← hL] at ho hn1 hn2
        have HN := Lib.hid hn1
        have HL := Lib.hid hn2
        clear hn1 hn2 hL hc hcells hzk hz hts htl hm hq
        by_cases hcmp : 0 < z
        all_goals
          obtain ⟨g0, g1⟩ := (⟨hF.g0, hF.g1⟩ : _ ∧ _)
          go_wp2_with (at_builtin; refine wpList_app1 _ rfl (.tmp 23) _ _ rfl Ei _ _ _ rfl ho _ _ [.int .i64 0] rfl (by decide) rfl (one_int _) (by omega) hsz ?_; intro gb cap1 w1 ho1 hg1 hf1; have hb1 := below_app (Below.refl _ wr) hsz ho (Nat.le_refl _) hg1; have hF1 := hF.stays hb1; obtain ⟨g2, g3, p2, p3⟩ := (⟨hF1.g0, hF1.g1, (hb1.cell (p := ⟨w.heap.size + 1, 1, none⟩) (by show w.heap.size + 1 < _; omega)).trans p1, hF1.p0⟩ : _ ∧ _ ∧ _ ∧ _); have hlt1 := ho1.lt gb rfl; have c1 : w1.cell? ⟨gb, q, none⟩ = some (.int .i64 0) := (ho1.cellAt q (by omega)).trans (by rw [List.getElem?_append_right (by rw [ints_len, HL.out]; exact Nat.le_refl _)]; simp [ints_len, HL.out]); have c2 := ho1.frozenAt q; have hne : ¬ gb = w.heap.size + 1 := by omega)
        · refine ⟨⟨k + 1, by omega, by go_num, planI_two (L := L ++ [0]) hF1 (by rw [p2]; rfl) ho1 (by simp [HL.out]) (by rw [ints_snoc]) ?_ HN.out⟩, by simp [intOf]; omega⟩
          rw [List.set_append_right _ _ (by rw [HL.out]; exact Nat.le_refl _), HL.out, Nat.sub_self]
          simp; omega
        · refine ⟨⟨k + 1, by omega, by go_num, planI_one hF1 (by rw [p2]; rfl) ho1 (by simp [HL.out]) ?_ HN.out⟩, by simp [intOf]; omega⟩
          have : max 0 z = 0 := by omega
          rw [this, ints_snoc]
      · have hold := planL_old (zs.take k) z rows hr (by rw [htl]; exact hm)
        rw [htl, ← hts, ← hq] at hold
        obtain ⟨x, hx1, hx2⟩ := hold
        have hmb : ((k : Int) % (rows : Int) == 0) = false := by simp; omega
        generalize planL (zs.take k) rows = L at *
        have hql := (List.getElem?_eq_some_iff.1 hx1).1
        obtain ⟨gb, cap1, hv, hgb⟩ := ownBlock_of_owns ho (by omega)
        rw [hv] at p1 ho
        have c1 : wr.cell? ⟨gb, q, none⟩ = some (.int .i64 x) := (ho.cellAt q (by omega)).trans (ints_get hx1)
        have c2 := ho.frozenAt q
        have hlt1 := ho.lt gb rfl
        have hne : ¬ gb = w.heap.size + 1 := by omega
        have HN := Lib.hid hx2
        have HX := Lib.hid hx1
        clear hx1 hx2 hv hc hcells hzk hz hts htl hm hq
        by_cases hcmp : x < z
        · have HM := Lib.hid (show max x z = z by omega)
          obtain ⟨g0, g1⟩ := (⟨hF.g0, hF.g1⟩ : _ ∧ _)
          go_wp2
          refine ⟨⟨k + 1, by omega, by go_num, planI_mk (M := L.set q (max x z)) (gb := gb) (n := L.length) (cap := cap1) (hF.stays ((Below.refl _ _).setCell (p := ⟨gb, q, none⟩) hlt1.1 _)) ?_ (by simp) ?_ HN.out⟩, by simp [intOf]; omega⟩
          · rw [World.cell?_setCell_other _ _ _ _ (by intro e; injection e with e1; omega)]; exact p1
          · rw [HM.out, ← set_ints]
            exact (ho.stored q _).1
        · have HM := Lib.hid (show max x z = x by omega)
          obtain ⟨g0, g1⟩ := (⟨hF.g0, hF.g1⟩ : _ ∧ _)
          go_wp2
          refine ⟨⟨k + 1, by omega, by go_num, planI_mk (M := L.set q (max x z)) (gb := gb) (n := L.length) (cap := cap1) hF p1 (by simp) ?_ HN.out⟩, by simp [intOf]; omega⟩
          rw [HM.out]
          have : L.set q x = L := by
            refine List.ext_getElem? fun j => ?_
            by_cases hj : q = j
            · subst hj; rw [List.getElem?_set_self hql, HX.out]
            · rw [List.getElem?_set_ne hj]
          rw [this]
          exact ho
    · have hkl : k = zs.length := by omega
      subst hkl
      rw [List.take_length] at p1 ho
      clear hcells hq hqi
      obtain ⟨g0, g1, r0, r1, f0, f1, p0⟩ := (⟨hF.g0, hF.g1, hF.r0, hF.r1, hF.f0, hF.f1, hF.p0⟩ : _ ∧ _ ∧ _ ∧ _ ∧ _ ∧ _ ∧ _)
      obtain ⟨L, hL⟩ : ∃ L, L = planL zs rows := ⟨_, rfl⟩
      rw [← hL] at p1 ho
      have HL := Lib.hid hL
      have HO := Lib.hid ho
      clear ho hL
      go_wp2
      refine bodyPost_ret (v := .agg #[.int .i64 rows, .slice ap L.length capp]) (by simp [results, Tryz.results98, go_sem, r0, r1]) rfl ⟨_, rfl, (hF.below.setCell (p := ⟨w.heap.size, 0, none⟩) (Nat.le_refl _) _).setCell (p := ⟨w.heap.size, 1, none⟩) (Nat.le_refl _) _, ?_⟩
      have o1 := ownsRow_setCell_below HO.out (a := ⟨w.heap.size, 0, none⟩) (show w.heap.size < w.heap.size + 2 by omega) (.int .i64 rows)
      have o2 := ownsRow_setCell_below o1 (a := ⟨w.heap.size, 1, none⟩) (show w.heap.size < w.heap.size + 2 by omega) (.slice ap L.length capp)
      rw [← HL.out]
      exact owns_mono (base := w.heap.size + 2) o2 (show w.heap.size ≤ w.heap.size + 2 by omega)
end Go.Proofs.YtblajooebmjfoaaGreat

/- The document's Plan. -/
namespace Go.Proofs.YtblajooebmjfoaaGreat
open Go.RowKit

theorem ceil_iff (n rows c : Nat) (hr : 0 < rows) : c < (n + rows - 1) / rows ↔ c * rows < n := by
  rw [← Nat.succ_le_iff, Nat.le_div_iff_mul_le hr, Nat.succ_mul]
  omega

def partMax (zs : List Int) (frm j : Nat) : Int := maxL ((zs.drop frm).take j)
theorem partMax_snoc (zs : List Int) (frm j : Nat) (z : Int) (h : zs[frm + j]? = some z) : partMax zs frm (j + 1) = max (partMax zs frm j) z := by
  unfold partMax
  rw [take_snoc' (z := z) (by rw [List.getElem?_drop]; exact h), maxL_snoc]

end Go.Proofs.YtblajooebmjfoaaGreat

/- Fit, and the document's Fit: the fewest rows. -/
namespace Go.Proofs.YtblajooebmjfoaaGreat
open Go.RowKit

def isFit (zs : List Int) (cols : Int) (R : Nat) : Prop :=
  1 ≤ R ∧ R ≤ zs.length ∧ (∀ r, 1 ≤ r → r < R → cols < totalL (planL zs r)) ∧ (R < zs.length → totalL (planL zs R) ≤ cols)
theorem isFit_unique {zs : List Int} {cols : Int} {R S : Nat} (h : isFit zs cols R) (k : isFit zs cols S) : R = S := by
  obtain ⟨h1, h2, h3, h4⟩ := h
  obtain ⟨k1, k2, k3, k4⟩ := k
  rcases Nat.lt_trichotomy R S with hlt | he | hgt
  · have a := k3 R h1 hlt
    have b := h4 (by omega)
    omega
  · exact he
  · have a := h3 S k1 hgt
    have b := k4 (by omega)
    omega

theorem planL_narrow {zs : List Int} (h : narrow zs) (rows : Nat) (hr : 0 < rows) : narrow (planL zs rows) := by
  refine ⟨?_, fun z hz => planL_bd (by omega) zs rows (fun y hy => (h.2 y hy).2) z hz⟩
  rw [planL_len]
  have h1 := h.1
  refine Nat.le_trans ?_ h1
  rcases Nat.eq_zero_or_pos zs.length with h0 | h0
  · rw [h0, Nat.div_eq_of_lt (by omega)]; exact Nat.zero_le _
  · rw [← Nat.lt_succ_iff, Nat.div_lt_iff_lt_mul hr, Nat.succ_mul]
    have := Nat.mul_le_mul_left zs.length hr
    omega

structure FitF (w wr : World) : Prop where
  below : Below w.heap.size w wr
  size : w.heap.size + 1 ≤ wr.heap.size
  r0 : wr.cell? ⟨w.heap.size, 0, none⟩ = some (.int .i64 0)
  r1 : wr.cell? ⟨w.heap.size, 1, none⟩ = some (.slice none 0 0)
  f0 : wr.frozen? ⟨w.heap.size, 0, none⟩ = false
  f1 : wr.frozen? ⟨w.heap.size, 1, none⟩ = false
theorem FitF.stays {w wr w1 : World} (h : FitF w wr) (hb : Below wr.heap.size wr w1) : FitF w w1 := by
  have hs := h.size
  exact ⟨h.below.trans (hb.mono (by omega)), Nat.le_trans h.size hb.size, (hb.cell (p := ⟨w.heap.size, 0, none⟩) (by show w.heap.size < _; omega)).trans h.r0, (hb.cell (p := ⟨w.heap.size, 1, none⟩) (by show w.heap.size < _; omega)).trans h.r1,
    (hb.frozen (p := ⟨w.heap.size, 0, none⟩) (by show w.heap.size < _; omega)).trans h.f0, (hb.frozen (p := ⟨w.heap.size, 1, none⟩) (by show w.heap.size < _; omega)).trans h.f1⟩

/-- The result's two cells are written: what is owned lies elsewhere. -/
theorem fit_close {w W : World} {e n : Nat} {v x y : Value} {xs : List Value} (hF : FitF w W) {base : Nat} (ho : W.ownsRow base e 1 v n xs) (hb : w.heap.size < base) :
    Below w.heap.size w ((W.setCell ⟨w.heap.size, 0, none⟩ x).setCell ⟨w.heap.size, 1, none⟩ y) ∧ ((W.setCell ⟨w.heap.size, 0, none⟩ x).setCell ⟨w.heap.size, 1, none⟩ y).ownsRow w.heap.size e 1 v n xs :=
  ⟨(hF.below.setCell (p := ⟨w.heap.size, 0, none⟩) (Nat.le_refl _) _).setCell (p := ⟨w.heap.size, 1, none⟩) (Nat.le_refl _) _,
    owns_mono (ownsRow_setCell_below (ownsRow_setCell_below ho (a := ⟨w.heap.size, 0, none⟩) hb _) (a := ⟨w.heap.size, 1, none⟩) hb _) (Nat.le_of_lt hb)⟩

set_option maxRecDepth 100000 in
set_option maxHeartbeats 1000000 in
theorem fit_some (v : Value) (zs : List Int) (cols : Int) (w : World) (hR : Ri w.heap.size w v zs) (hn : narrow zs) (h0 : 0 < zs.length) :
    Calls Tryz.prog 60 #[v, .int .i64 cols] w fun e w' => ∃ (R : Nat) (vw : Value), e = .returned (.agg #[.int .i64 R, vw]) ∧ Below w.heap.size w w' ∧ isFit zs cols R ∧ w'.ownsRow w.heap.size 3 1 vw (planL zs R).length (ints (planL zs R)) := by
  have hR' := Lib.hid hR
  obtain ⟨a, cap, rfl, hcap, hmax, hxl, hcells⟩ := hR
  unfold maxLen at hmax
  clear hxl hcells
  have hlen := hn.1
  have hnz : ∀ z ∈ zs, 0 ≤ z := fun z hz => (hn.2 z hz).1
  have hb0 : ((zs.length : Int) == 0) = false := by simp; intro h; rw [h] at h0; simp at h0
  go_enter Tryz.func60, Tryz.ntmps60
  go_wp2
  go_loopw [5] (fun i wr => ∃ r : Nat, 1 ≤ r ∧ r ≤ zs.length ∧ i = .int .i64 r ∧ FitF w wr ∧ (∀ r', 1 ≤ r' → r' < r → cols < totalL (planL zs r'))) (fun i _ => zs.length - (intOf i).toNat)
  case atStart => exact ⟨1, Nat.le_refl _, h0, rfl, ⟨(Below.refl _ w).alloc (Nat.le_refl _) _, by simp, by go_simp, by go_simp, by go_simp, by go_simp⟩, fun r' h1 h2 => by omega⟩
  case round =>
    obtain ⟨r, hr1, hr2, rfl, hF, hall⟩ := hrel
    have HA := Lib.hid hall
    clear hall
    by_cases hlt : r < zs.length
    · go_wp2_with fail
      refine (plan_any _ zs r _ (hR'.out.below hF.below (Nat.le_refl _) |>.mono hF.below.size) hlen (by omega) (by omega) hnz).mono ?_
      rintro e w1 ⟨vw, rfl, hB1, ho⟩
      obtain ⟨va, vcap, rfl⟩ := slice_of_owns ho
      have hF1 := hF.stays hB1
      have hT := total_any r (.slice va (planL zs r).length vcap) (planL zs r)
      have hnar := planL_narrow hn r (by omega)
      have HO := Lib.hid ho
      clear ho
      by_cases hfit : totalL (planL zs r) ≤ cols
      · go_wp2_with fail
        refine (hT _ ((ri_of_owns (HO.out.alloc _)).mono (by simp)) hnar).mono ?_
        rintro e w2 ⟨rfl, hB2⟩
        have c0 : w2.cell? ⟨w1.heap.size, 0, none⟩ = some (.int .i64 r) := (hB2.cell (p := ⟨w1.heap.size, 0, none⟩) (by show w1.heap.size < _; simp)).trans (by go_simp)
        have c1 : w2.cell? ⟨w1.heap.size, 1, none⟩ = some (.slice va (planL zs r).length vcap) := (hB2.cell (p := ⟨w1.heap.size, 1, none⟩) (by show w1.heap.size < _; simp)).trans (by go_simp)
        have hB3 : Below w1.heap.size w1 w2 := ((Below.refl _ _).alloc (Nat.le_refl _) _).trans (hB2.mono (by simp))
        have hF2 := hF1.stays hB3
        obtain ⟨r0, r1, f0, f1⟩ := (⟨hF2.r0, hF2.r1, hF2.f0, hF2.f1⟩ : _ ∧ _ ∧ _ ∧ _)
        clear hT
        go_wp2
        have hcl := fit_close (x := .int .i64 r) (y := .slice va (planL zs r).length vcap) hF2 (owns_stays HO.out hB3) (by have := hF.size; omega)
        refine bodyPost_ret (v := .agg #[.int .i64 r, .slice va (planL zs r).length vcap]) (by simp [results, Tryz.results60, go_sem, r0, r1]) rfl ⟨r, _, rfl, hcl.1, ⟨hr1, hr2, HA.out, fun _ => hfit⟩, hcl.2⟩
      · go_wp2_with fail
        refine (hT _ ((ri_of_owns (HO.out.alloc _)).mono (by simp)) hnar).mono ?_
        rintro e w2 ⟨rfl, hB2⟩
        have c0 : w2.cell? ⟨w1.heap.size, 0, none⟩ = some (.int .i64 r) := (hB2.cell (p := ⟨w1.heap.size, 0, none⟩) (by show w1.heap.size < _; simp)).trans (by go_simp)
        have c1 : w2.cell? ⟨w1.heap.size, 1, none⟩ = some (.slice va (planL zs r).length vcap) := (hB2.cell (p := ⟨w1.heap.size, 1, none⟩) (by show w1.heap.size < _; simp)).trans (by go_simp)
        have hB3 : Below w1.heap.size w1 w2 := ((Below.refl _ _).alloc (Nat.le_refl _) _).trans (hB2.mono (by simp))
        have hF2 := hF1.stays hB3
        obtain ⟨r0, r1, f0, f1⟩ := (⟨hF2.r0, hF2.r1, hF2.f0, hF2.f1⟩ : _ ∧ _ ∧ _ ∧ _)
        clear hT
        go_wp2
        refine ⟨⟨r + 1, by omega, by omega, by go_num, hF2, ?_⟩, by simp [intOf]; omega⟩
        intro r' k1 k2
        rcases Nat.lt_or_ge r' r with k3 | k3
        · exact HA.out r' k1 k3
        · have : r' = r := by omega
          subst this
          omega
    · have hrl : r = zs.length := by omega
      subst hrl
      go_wp2_with fail
      refine (plan_any _ zs zs.length _ (hR'.out.below hF.below (Nat.le_refl _) |>.mono hF.below.size) hlen (by omega) (by omega) hnz).mono ?_
      rintro e w1 ⟨vw, rfl, hB1, ho⟩
      obtain ⟨va, vcap, rfl⟩ := slice_of_owns ho
      have hF1 := hF.stays hB1
      have HO := Lib.hid ho
      clear ho
      obtain ⟨r0, r1, f0, f1⟩ := (⟨hF1.r0, hF1.r1, hF1.f0, hF1.f1⟩ : _ ∧ _ ∧ _ ∧ _)
      go_wp2
      have hcl := fit_close (x := .int .i64 zs.length) (y := .slice va (planL zs zs.length).length vcap) hF1 HO.out (by have := hF.size; omega)
      refine bodyPost_ret (v := .agg #[.int .i64 zs.length, .slice va (planL zs zs.length).length vcap]) (by simp [results, Tryz.results60, go_sem, r0, r1]) rfl ⟨zs.length, _, rfl, hcl.1, ⟨hr1, hr2, HA.out, fun h => by omega⟩, hcl.2⟩

set_option maxRecDepth 100000 in
set_option maxHeartbeats 400000 in
theorem fit_nil (v : Value) (cols : Int) (w : World) (hR : Ri w.heap.size w v []) :
    Calls Tryz.prog 60 #[v, .int .i64 cols] w fun e w' => e = .returned (.agg #[.int .i64 0, .slice none 0 0]) ∧ Below w.heap.size w w' := by
  obtain ⟨a, cap, rfl, hcap, hmax, hxl, hcells⟩ := hR
  clear hxl hcells hmax hcap
  go_enter Tryz.func60, Tryz.ntmps60
  go_wp2
  exact bodyPost_ret (v := .agg #[.int .i64 0, .slice none 0 0]) (by simp [results, Tryz.results60, go_sem]) rfl ⟨rfl, (Below.refl _ w).alloc (Nat.le_refl _) _⟩

end Go.Proofs.YtblajooebmjfoaaGreat

/- Chapter 45's example; the walk of ColumnsFit. -/
namespace Go.Proofs.YtblajooebmjfoaaGreat
open Go.RowKit

theorem smallL_narrow (zs : List Int) : narrow (smallL zs) := ⟨by rw [smallL_len]; omega, fun z hz => by have := smallL_bd zs z hz; omega⟩

theorem fit123 {R : Nat} (h : isFit [1, 2, 3] 7 R) : R = 2 :=
  isFit_unique h ⟨by decide, by decide, fun r h1 h2 => by
    have : r = 1 := by omega
    subst this
    decide +kernel, fun _ => by decide +kernel⟩
theorem plan123 : planL [1, 2, 3] 2 = [2, 3] := by decide +kernel
theorem narrow123 : narrow [1, 2, 3] := ⟨by decide, by decide⟩
theorem narrow23 : narrow [2, 3] := ⟨by decide, by decide⟩
theorem total23 : totalL [2, 3] = 7 := by decide +kernel

theorem ri_lit (w : World) (zs : List Int) (n : Nat) (hn : n = zs.length) (hm : n ≤ maxLen) (cs : Array Value) (hcs : cs.toList = ints zs) (e : Nat) :
    Ri (w.alloc (.cells cs e)).heap.size (w.alloc (.cells cs e)) (.slice (some ⟨w.heap.size, 0, none⟩) n n) zs := by
  subst hn
  refine ⟨_, _, rfl, Nat.le_refl _, hm, by simp [ints_len], fun _ => ⟨_, _, rfl, by simp, fun j u hu => ?_⟩⟩
  rw [Nat.zero_add, cell_of_row _ w.heap.size j cs e (0, 0) (heap_alloc_new w _), ← Array.getElem?_toList, hcs]
  exact hu

set_option maxRecDepth 100000 in
set_option maxHeartbeats 400000 in
theorem awake45_any (w : World) : Calls Tryz.prog 28 #[] w fun e w' => e = .returned (.bool true) ∧ Below w.heap.size w w' := by
  go_enter Tryz.func28, Tryz.ntmps28
  go_wp2_with fail
  refine (fit_some _ [1, 2, 3] 7 _ (ri_lit w _ 3 rfl (by decide) _ rfl _) narrow123 (by decide)).mono ?_
  rintro e w1 ⟨R, vw, rfl, hB1, hfit, ho⟩
  obtain rfl := fit123 hfit
  rw [plan123] at ho
  obtain ⟨va, vcap, rfl⟩ := slice_of_owns ho
  have hB0 : Below w.heap.size w w1 := ((Below.refl _ w).alloc (Nat.le_refl _) _).trans (hB1.mono (by simp))
  clear hfit hB1
  have HO := Lib.hid ho
  clear ho
  go_wp2_with fail
  refine (sameInts_eq _ _ [2, 3] _ ?_ ?_).mono ?_
  · exact ri_of_owns ((HO.out.alloc _).alloc _)
  · simpa using ri_lit (w1.alloc (.cells #[.int .i64 2, .slice va 2 vcap] 105)) [2, 3] 2 rfl (by decide) #[.int .i64 2, .int .i64 3] rfl 3
  rintro e w2 ⟨rfl, hB2⟩
  have hb2 : Below w1.heap.size w1 w2 := (((Below.refl _ w1).alloc (Nat.le_refl _) _).alloc (by simp) _).trans (hB2.mono (by simp; omega))
  have c0 : w2.cell? ⟨w1.heap.size, 0, none⟩ = some (.int .i64 2) := (hB2.cell (p := ⟨w1.heap.size, 0, none⟩) (by show w1.heap.size < _; simp; omega)).trans (by go_simp)
  have c1 : w2.cell? ⟨w1.heap.size, 1, none⟩ = some (.slice va 2 vcap) := (hB2.cell (p := ⟨w1.heap.size, 1, none⟩) (by show w1.heap.size < _; simp; omega)).trans (by go_simp)
  go_wp2_with fail
  refine (total_any _ _ [2, 3] _ (ri_of_owns (owns_stays HO.out hb2)) narrow23).mono ?_
  rintro e w3 ⟨rfl, hB3⟩
  have ht : ((totalL [2, 3]) == 7) = true := by rw [total23]; rfl
  go_wp2
  go_ret
  exact ⟨rfl, below_trans' (below_trans' hB0 hb2) hB3⟩
end Go.Proofs.YtblajooebmjfoaaGreat

/- ColumnsWidth: columns.Width, the document's Width, the law's walk. -/
namespace Go.Proofs.YtblajooebmjfoaaGreat
open Go.RowKit

section
variable {R : List Rw} {s : List Int} {w : World} {v sv : Value} {tp : Nat}
set_option maxRecDepth 100000 in
set_option maxHeartbeats 1000000 in
theorem cwidth_any (hT : Tb R w tp) (hs : RunesIn w sv s) (ok : RunesOk s) (hl : s.length ≤ 900000) :
    Calls Tryz.prog 27 #[.pointer (some ⟨tp, 0, none⟩), sv] w fun e w' => e = .returned (.int .i64 (wdG (lineG R (clus (tabOf R) s)))) ∧ Below w.heap.size w w' := by
  have HLine := Lib.hid (line_any hT hs ok hl)
  have hGl := lineG_take_le R s (clus (tabOf R) s).length
  rw [List.take_length] at hGl
  have HGo := Lib.hid (fun g (h : g ∈ lineG R (clus (tabOf R) s)) => (lineG_ok R g h).1)
  generalize lineG R (clus (tabOf R) s) = G at HLine hGl HGo ⊢
  obtain ⟨sl, cap, rfl, hcap, hmax, _⟩ := runes_cells hs
  clear hT hs ok
  go_enter Tryz.func27, Tryz.ntmps27
  go_wp2_with fail
  refine HLine.out.mono ?_
  rintro e w1 ⟨u, a, rfl, hB1, hG, _⟩
  have HB1 := Lib.hid hB1
  have HG := Lib.hid hG
  obtain ⟨ga, gc, rfl, hg1, hg2⟩ := gly_shape hG
  unfold maxLen at hg2
  clear hB1 hG HLine
  go_wp2_with fail
  go_loopw [5, 18] (fun nv iv wr => ∃ (k : Nat) (m : Int), k ≤ G.length ∧ nv = .int .i64 m ∧ iv = .int .i64 ((k : Nat) : Int) ∧ Below w1.heap.size w1 wr ∧ m = wdG (G.take k)) (fun _ iv _ => G.length - (intOf iv).toNat)
  case atStart => exact ⟨0, 0, Nat.zero_le _, rfl, rfl, .refl _ _, rfl⟩
  case round =>
    obtain ⟨k, m, hk, rfl, rfl, hB, hm⟩ := hrel
    have HB := Lib.hid hB
    have HM := Lib.hid hm
    have hr := wdG_rng (L := G.take k) (fun g hg => HGo.out g (List.mem_of_mem_take hg))
    rw [← hm, List.length_take] at hr
    clear hB hm
    by_cases hlt : k < G.length
    · obtain ⟨x, hx⟩ : ∃ x, G[k]? = some x := ⟨G[k], List.getElem?_eq_getElem hlt⟩
      have hxo := HGo.out x (List.mem_of_getElem? hx)
      have HN := Lib.hid (show wdG (G.take (k + 1)) = wdG (G.take k) + x.2 by rw [take_snoc hx, wdG_app, wdG_one])
      obtain ⟨x1, x2⟩ := x
      have hx2 : x2 = 1 ∨ x2 = 2 := hxo
      obtain ⟨b, off, _, hv, _, _, _, d0, d1⟩ := gly_cells (HG.out.below HB.out) hx
      cases hv
      have e2 := IntWalk.i64_in (m + x2) (by omega)
      have HBn := Lib.hid (HB.out.trans ((below1 wr (.cells #[.string x1, .int .i64 x2] 94)).mono HB.out.size))
      clear hx hxo hr
      go_wp2_with fail
      go_roundw
      case rel => exact ⟨k + 1, m + x2, by omega, rfl, by go_num, HBn.out, by rw [HN.out, HM.out]⟩
      case measure => simp [intOf] <;> omega
    · have hke : k = G.length := by omega
      subst hke
      rw [List.take_length] at HM
      clear hlt hk hr
      go_wp2_with fail
      go_ret
      exact ⟨by rw [← HM.out]; rfl, below_trans' HB1.out HB.out⟩
set_option maxRecDepth 100000 in
set_option maxHeartbeats 1000000 in
theorem rcwidth_any (H : (tabOf R).Ok) (hR : RowsIn w v R) (hs : RunesIn w sv s) (ok : RunesOk s) (hl : s.length ≤ 900000) :
    Calls Tryz.prog 26 #[v, sv] w fun e w' => ∃ b, e = .returned (.tuple #[.int .i64 (wdG (lineG R (clus (tabOf R) s))), .string b]) ∧ Below w.heap.size w w' := by
  have HLine := Lib.hid (rline_any H hR hs ok hl)
  have hGl := lineG_take_le R s (clus (tabOf R) s).length
  rw [List.take_length] at hGl
  have hsz := lineG_sz R (clus (tabOf R) s)
  rw [clus_flat (tabOf R) s.length s (Nat.le_refl _)] at hsz
  have HGo := Lib.hid (fun g (h : g ∈ lineG R (clus (tabOf R) s)) => (lineG_ok R g h).1)
  generalize lineG R (clus (tabOf R) s) = G at HLine hGl HGo hsz ⊢
  obtain ⟨sl, cap, rfl, hcap, hmax, _⟩ := runes_cells hs
  clear hR hs ok H
  go_enter Tryz.func26, Tryz.ntmps26
  go_wp2_with fail
  refine HLine.out.mono ?_
  rintro e w1 ⟨u, a, rfl, hB1, hG, _⟩
  have HB1 := Lib.hid hB1
  have HG := Lib.hid hG
  obtain ⟨ga, gc, rfl, hg1, hg2⟩ := gly_shape hG
  unfold maxLen at hg2
  clear hB1 hG HLine
  go_wp2_with fail
  go_loopw [6, 7, 10] (fun nv tv iv wr => ∃ (k : Nat) (m : Int) (t : ByteArray), k ≤ G.length ∧ nv = .int .i64 m ∧ tv = .string t ∧ iv = .int .i64 ((k : Nat) : Int) ∧ Below w1.heap.size w1 wr ∧ m = wdG (G.take k) ∧ t.size = szG (G.take k)) (fun _ _ iv _ => G.length - (intOf iv).toNat)
  case atStart => exact ⟨0, 0, ⟨#[]⟩, Nat.zero_le _, rfl, rfl, rfl, .refl _ _, rfl, rfl⟩
  case round =>
    obtain ⟨k, m, t, hk, rfl, rfl, rfl, hB, hm, ht⟩ := hrel
    have HB := Lib.hid hB
    have HM := Lib.hid hm
    have HTs := Lib.hid ht
    have hr := wdG_rng (L := G.take k) (fun g hg => HGo.out g (List.mem_of_mem_take hg))
    rw [← hm, List.length_take] at hr
    clear hB hm ht
    by_cases hlt : k < G.length
    · obtain ⟨x, hx⟩ : ∃ x, G[k]? = some x := ⟨G[k], List.getElem?_eq_getElem hlt⟩
      have hxo := HGo.out x (List.mem_of_getElem? hx)
      have HN := Lib.hid (show wdG (G.take (k + 1)) = wdG (G.take k) + x.2 by rw [take_snoc hx, wdG_app, wdG_one])
      have HNs := Lib.hid (show szG (G.take (k + 1)) = szG (G.take k) + x.1.size by rw [take_snoc hx, szG_app, szG_one])
      obtain ⟨x1, x2⟩ := x
      have hx2 : x2 = 1 ∨ x2 = 2 := hxo
      obtain ⟨b, off, _, hv, _, _, _, d0, d1⟩ := gly_cells (HG.out.below HB.out) hx
      cases hv
      have e2 := IntWalk.i64_in (m + x2) (by omega)
      have e3 := IntWalk.i64_in ((k : Int) + 1) (by omega)
      have r0 : (k : Int) < (G.length : Int) := by omega
      have r1 : (0 : Int) ≤ (k : Int) := by omega
      have cc := run_string_add_sum (P := Tryz.prog) wr t x1 (by
        have h1 := szG_take G (k + 1)
        have h2 := HNs.out
        have h3 := HTs.out
        have h4 : szG (G.take (k + 1)) = szG (G.take k) + x1.size := h2
        omega)
      clear hx hxo hr
      go_wp2_with fail
      go_roundw
      case rel => exact ⟨k + 1, m + x2, t ++ x1, by omega, rfl, rfl, by go_num, HB.out, by rw [HN.out, HM.out], by rw [HNs.out, ByteArray.size_append, HTs.out]⟩
      case measure => simp [intOf] <;> omega
    · have hke : k = G.length := by omega
      subst hke
      rw [List.take_length] at HM
      have r0 : decide ((G.length : Int) < (G.length : Int)) = false := by simp
      clear hlt hk hr
      go_wp2_with fail
      go_ret2
      exact ⟨t, by rw [← HM.out]; rfl, below_trans' HB1.out HB.out⟩
end
theorem fin45 {w w1 : World} (h1 : Below w.heap.size w w1) : Calls Tryz.prog 28 #[] w1 fun e w' => e = .returned (.bool true) ∧ Below w.heap.size w w' := by
  refine (awake45_any w1).mono ?_
  rintro e w' ⟨rfl, hB⟩
  exact ⟨rfl, below_trans' h1 hB⟩
set_option maxRecDepth 100000 in
set_option maxHeartbeats 2000000 in
theorem columnsWidth_any (v0 : Value) (l0 : List Int) (w : World) (hl : RunesIn w v0 l0) (hok : RunesOk l0) :
    Calls Tryz.prog 6 #[v0] w fun e w' => e = .returned (.bool true) ∧ Below w.heap.size w w' := by
  obtain ⟨R, HFc, hrows⟩ := apiRows_any
  have HF := Lib.hid HFc
  have HRows := Lib.hid hrows
  have HFew := Lib.hid (few_any hl 80)
  clear HFc hrows hl
  obtain ⟨l, hll⟩ : ∃ l, l = l0.take 80 := ⟨_, rfl⟩
  rw [← hll] at HFew
  have HOk := Lib.hid (show RunesOk l by rw [hll]; exact hok.take 80)
  have hlen : l.length ≤ 80 := by rw [hll, List.length_take]; omega
  clear hll hok
  go_enter Tryz.func6, Tryz.ntmps6
  go_wp2_with fail
  refine HFew.out.mono ?_
  rintro e w' ⟨⟨sv, rfl, hS⟩, rfl⟩
  have HS := Lib.hid hS
  obtain ⟨sl, cap, rfl, _, _, _⟩ := runes_cells hS
  clear hS HFew
  go_wp2_with fail
  refine (HRows.out w).mono ?_
  rintro e w1 ⟨v, rfl, hB1, hR1⟩
  have HB1 := Lib.hid hB1
  have HR1 := Lib.hid hR1
  have HS1 := Lib.hid (HS.out.below hB1)
  clear hB1 hR1 HS
  go_wp2_with fail
  refine (rcwidth_any HF.out.seg.tab HR1.out HS1.out HOk.out (by omega)).mono ?_
  rintro e w2 ⟨b, rfl, hB2⟩
  have HR2 := Lib.hid (HR1.out.below hB2)
  have HS2 := Lib.hid (HS1.out.below hB2)
  have HB2 := Lib.hid (below_trans' HB1.out hB2)
  obtain ⟨n, hn⟩ : ∃ n, n = wdG (lineG R (clus (tabOf R) l)) := ⟨_, rfl⟩
  rw [← hn]
  have HN := Lib.hid hn
  clear hB2 HB1 HR1 HS1 hn
  go_wp2_with fail
  refine (build_tb v R w2 HR2.out HF.out.ok).mono ?_
  rintro e w3 ⟨tp, rfl, hB3, hT⟩
  have HT3 := Lib.hid hT
  have HS3 := Lib.hid (HS2.out.below hB3)
  have HB3 := Lib.hid (below_trans' HB2.out hB3)
  clear hB3 hT HB2 HR2 HS2
  go_wp2_with fail
  refine (cwidth_any HT3.out HS3.out HOk.out (by omega)).mono ?_
  rintro e w4 ⟨rfl, hB4⟩
  rw [← HN.out]
  have HB4 := Lib.hid (below_trans' HB3.out hB4)
  clear hB4 HB3 HT3 HS3
  go_wp2_with fail
  refine (fin45 HB4.out).mono ?_
  rintro e w9 ⟨rfl, hB9⟩
  go_wp2_with fail
  go_ret
  exact ⟨rfl, hB9⟩
end Go.Proofs.YtblajooebmjfoaaGreat
