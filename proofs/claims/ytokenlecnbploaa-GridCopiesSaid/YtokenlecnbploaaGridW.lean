/- Cells compared; copies; whether two grids are the same. -/
import Derived.Test.YtokenlecnbploaaGridV
import Derived.Laws.StructEq
namespace Go.Proofs.Ytokenlecnbploaa
open Go.RowKit

theorem ret_bool {a b : Bool} (h : a = b) : Ending.returned (.bool a) = .returned (.bool b) := by rw [h]
theorem toList_inj {a b : ByteArray} (h : a.toList = b.toList) : a = b := by
  rw [ByteArray.toList_eq, ByteArray.toList_eq] at h
  obtain ⟨⟨x⟩⟩ := a
  obtain ⟨⟨y⟩⟩ := b
  simp at h
  rw [h]

theorem neq_cell_any (t : TypeId) (ht : Try.prog.underlying t = some (.struct (Try.prog.fieldsOf t))) (hp : Try.prog.stoodInHeld t = false) (f0 f1 : Field) (hf : (Try.prog.fieldsOf t).toList = [f0, f1]) (n0 : f0.name ≠ "_") (n1 : f1.name ≠ "_") (y0 : f0.type = 9) (y1 : f1.type = 3) (o0 : f0.offset = 0) (o1 : f1.offset = 1) (s1 s2 : ByteArray) (d1 d2 : Int) (w : World) :
    Sem.run Try.prog (binOp .neq t (.agg #[.string s1, .int .i64 d1]) (.agg #[.string s2, .int .i64 d2])) w = .ok (.bool (!(decide ((s1, d1) = (s2, d2))))) w := by
  rw [run_neq_struct, run_equalIn_agg _ _ _ _ _ ht hp, hf]
  simp only [Op.eqFields, y0, y1, o0, o1]
  simp [go_sem]
  rw [if_neg n0]
  by_cases hs : s1 = s2
  · subst hs
    rw [if_pos rfl, if_neg n1]
    by_cases hd : d1 = d2
    · subst hd; simp
    · simp [hd]
  · rw [if_neg (fun h => hs (toList_inj h))]
    simp [hs]

theorem neq_gcell (x y : Gl) (w : World) : Sem.run Try.prog (binOp .neq 61 (.agg #[.string x.1, .int .i64 x.2]) (.agg #[.string y.1, .int .i64 y.2])) w = .ok (.bool (!(decide (x = y)))) w :=
  neq_cell_any 61 (by kernel_rfl) (by kernel_rfl) _ _ rfl (by decide) (by decide) rfl rfl rfl rfl _ _ _ _ w
theorem neq_rcell (x y : Gl) (w : World) : Sem.run Try.prog (binOp .neq 87 (.agg #[.string x.1, .int .i64 x.2]) (.agg #[.string y.1, .int .i64 y.2])) w = .ok (.bool (!(decide (x = y)))) w :=
  neq_cell_any 87 (by kernel_rfl) (by kernel_rfl) _ _ rfl (by decide) (by decide) rfl rfl rfl rfl _ _ _ _ w

/-- are lists of cells, of one length, the same from a place on? -/
def sameFrom (xs ys : List Gl) (k : Nat) : Bool := decide (xs.drop k = ys.drop k)
theorem sameFrom_step {xs ys : List Gl} {k : Nat} {x y : Gl} (hx : xs[k]? = some x) (hy : ys[k]? = some y) : sameFrom xs ys k = (decide (x = y) && sameFrom xs ys (k + 1)) := by
  obtain ⟨h1, e1⟩ := List.getElem?_eq_some_iff.1 hx
  obtain ⟨h2, e2⟩ := List.getElem?_eq_some_iff.1 hy
  unfold sameFrom
  rw [List.drop_eq_getElem_cons h1, List.drop_eq_getElem_cons h2, e1, e2]
  simp

set_option maxRecDepth 100000 in
set_option maxHeartbeats 1000000 in
theorem equal_cells (b1 o1 c1 b2 o2 c2 n : Nat) (xs ys : List Gl) (w : World) (hx : xs.length = n) (hy : ys.length = n) (hn : n ≤ 1073741824)
    (h1 : ∀ k x, xs[k]? = some x → w.cell? ⟨b1, o1 + k * 2, none⟩ = some (.string x.1) ∧ w.cell? ⟨b1, o1 + k * 2 + 1, none⟩ = some (.int .i64 x.2))
    (h2 : ∀ k x, ys[k]? = some x → w.cell? ⟨b2, o2 + k * 2, none⟩ = some (.string x.1) ∧ w.cell? ⟨b2, o2 + k * 2 + 1, none⟩ = some (.int .i64 x.2)) :
    Calls Try.prog 54 #[.slice (some ⟨b1, o1, none⟩) n c1, .slice (some ⟨b2, o2, none⟩) n c2] w fun e w' => e = .returned (.bool (decide (xs = ys))) ∧ ∃ q, w' = w.drewN q := by
  have e0 : decide (xs = ys) = sameFrom xs ys 0 := by unfold sameFrom; simp
  rw [e0]
  have HX := Lib.hid hx
  have HY := Lib.hid hy
  have H1 := Lib.hid h1
  have H2 := Lib.hid h2
  have HE := Lib.hid (fun (k : Nat) x y hx hy => sameFrom_step (xs := xs) (ys := ys) (k := k) (x := x) (y := y) hx hy)
  have HZ : sameFrom xs ys n = true := by unfold sameFrom; rw [List.drop_of_length_le (by omega), List.drop_of_length_le (by omega)]; simp
  have HZ' := Lib.hid HZ
  clear hx hy h1 h2 e0 HZ
  go_enter Try.func54, Try.ntmps54
  go_wp2
  go_loopw [5, 13] (fun _ i wr => ∃ k : Nat, k ≤ n ∧ i = .int .i64 ((k : Nat) : Int) ∧ sameFrom xs ys 0 = sameFrom xs ys k ∧ ∃ q, wr = w.drewN q) (fun _ i _ => n - (intOf i).toNat)
  case atStart => exact ⟨0, Nat.zero_le _, rfl, rfl, 0, rfl⟩
  case round =>
    obtain ⟨k, hk, rfl, hs, q, rfl⟩ := hrel
    have HS := Lib.hid hs
    clear hs
    by_cases hlt : k < n
    · obtain ⟨x, hx⟩ : ∃ x, xs[k]? = some x := ⟨xs[k]'(by rw [HX.out]; exact hlt), List.getElem?_eq_getElem _⟩
      obtain ⟨y, hy⟩ : ∃ y, ys[k]? = some y := ⟨ys[k]'(by rw [HY.out]; exact hlt), List.getElem?_eq_getElem _⟩
      obtain ⟨a1, a2⟩ := H1.out k x hx
      obtain ⟨b3, b4⟩ := H2.out k y hy
      have HK := Lib.hid (HE.out k x y hx hy)
      have hq := fun w => neq_gcell x y w
      have q1 : (0 : Int) ≤ (k : Int) := by omega
      have q2 : (k : Int) < (n : Int) := by omega
      clear hx hy
      by_cases hxy : x = y
      · have hf : decide (x = y) = true := by simpa using hxy
        rw [hf] at hq HK
        clear hxy hf
        go_wp2
        go_quiet (fail)
        go_wp2
        go_roundw
        case rel => exact ⟨k + 1, by omega, by go_num, by rw [HS.out, HK.out]; rfl, _, rfl⟩
        case measure => simp [intOf]; omega
      · have hf : decide (x = y) = false := by simpa using hxy
        rw [hf] at hq HK
        clear hxy hf
        go_wp2
        go_quiet (fail)
        go_wp2
        go_ret
        exact ⟨ret_bool (by rw [HS.out, HK.out]; rfl), _, World.drewN_drewN _ _ _⟩
    · have hkn : k = n := by omega
      subst hkn
      go_wp2
      go_ret
      exact ⟨ret_bool (by rw [HS.out, HZ'.out]), _, rfl⟩

theorem GridAt.both {w : World} {gb lb n m cap : Nat} {xs : List Gl} (h : GridAt w gb lb n m cap xs) (k : Nat) (x : Gl) (hk : xs[k]? = some x) : w.cell? ⟨lb, 0 + k * 2, none⟩ = some (.string x.1) ∧ w.cell? ⟨lb, 0 + k * 2 + 1, none⟩ = some (.int .i64 x.2) := by
  rw [Nat.zero_add]; exact ⟨h.text hk, h.width hk⟩

set_option maxRecDepth 100000 in
set_option maxHeartbeats 1000000 in
theorem gsame_some (gb lb cap gb' lb' cap' n m : Nat) (xs ys : List Gl) (w : World) (hG : GridAt w gb lb n m cap xs) (hH : GridAt w gb' lb' n m cap' ys) (hs : n * m ≤ 1073741824) :
    Calls Try.prog 40 #[.pointer (some ⟨gb, 0, none⟩), .pointer (some ⟨gb', 0, none⟩)] w fun e w' => e = .returned (.bool (decide (xs = ys))) ∧ ∃ q, w' = w.drewN q := by
  have c0 := hG.c0
  have c1 := hG.c1
  have c2 := hG.c2
  have d0 := hH.c0
  have d1 := hH.c1
  have d2 := hH.c2
  have he := fun q => equal_cells lb 0 cap lb' 0 cap' (n * m) xs ys (w.drewN q) hG.len hH.len hs (fun k x hk => hG.both k x hk) (fun k x hk => hH.both k x hk)
  have HE := Lib.hid he
  have hnn : ((n : Int) == (n : Int)) = true := by simp
  have hmm : ((m : Int) == (m : Int)) = true := by simp
  clear hG hH he
  go_enter Try.func40, Try.ntmps40
  go_wp2
  go_quiet ((go_at_call 54; exact Calls.quiet_of (HE.out _)))
  go_wp2
  go_ret
  exact ⟨rfl, _, rfl⟩
end Go.Proofs.Ytokenlecnbploaa
