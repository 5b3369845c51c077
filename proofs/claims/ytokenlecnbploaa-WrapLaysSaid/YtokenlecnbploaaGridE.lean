/- grid: Erase, Clear. -/
import Derived.Test.YtokenlecnbploaaGridD
namespace Go.Proofs.Ytokenlecnbploaa
open Go.RowKit

theorem grown_refl (w : World) (r : Option Nat) : w.grownBy w r := ⟨rfl, rfl, rfl, Nat.le_refl _, fun _ _ _ => rfl⟩

set_option maxRecDepth 100000 in
set_option maxHeartbeats 1000000 in
theorem erase_none (gb n m : Nat) (r c : Int) (w : World) (c0 : w.cell? ⟨gb, 0, none⟩ = some (.int .i64 n)) (c1 : w.cell? ⟨gb, 1, none⟩ = some (.int .i64 m)) (h : ¬ (0 ≤ r ∧ r < n ∧ 0 ≤ c ∧ c < m)) :
    Calls Try.prog 42 #[.pointer (some ⟨gb, 0, none⟩), .int .i64 r, .int .i64 c] w fun e w' => e = .returned (.tuple #[]) ∧ w = w' := by
  go_enter Try.func42, Try.ntmps42
  go_wp2
  go_loop [2] (fun x => x = .int .i64 c) (fun _ => 0)
  case atStart => rfl
  case round =>
    subst hrel
    go_wp2_with (go_at_call 52; refine (in_no gb n m _ _ _ c0 c1 h).mono ?_; rintro e w' ⟨rfl, rfl⟩)
    go_end0
    exact ⟨rfl, rfl⟩

set_option maxRecDepth 100000 in
set_option maxHeartbeats 1000000 in
theorem erase_nil (r c : Int) (w : World) :
    Calls Try.prog 42 #[.pointer none, .int .i64 r, .int .i64 c] w fun e w' => e = .returned (.tuple #[]) ∧ w = w' := by
  go_enter Try.func42, Try.ntmps42
  go_wp2
  go_loop [2] (fun x => x = .int .i64 c) (fun _ => 0)
  case atStart => rfl
  case round =>
    subst hrel
    go_wp2_with (go_at_call 52; refine (in_nil _ _ _).mono ?_; rintro e w' ⟨rfl, rfl⟩)
    go_end0
    exact ⟨rfl, rfl⟩

set_option maxRecDepth 100000 in
set_option maxHeartbeats 1000000 in
theorem erase_some (gb lb m cap r c : Nat) (G : List (List Gl)) (l : List Gl) (w : World) (hG : GridG w gb lb m cap G) (hr : G[r]? = some l) (hc : c < m) :
    Calls Try.prog 42 #[.pointer (some ⟨gb, 0, none⟩), .int .i64 r, .int .i64 c] w fun e w' => e = .returned (.tuple #[]) ∧ w.grownBy w' (some lb) ∧ GridG w' gb lb m cap (G.set r (eraseRow l c (m - c))) := by
  obtain ⟨hl, hw, hrl⟩ := hG.row hr
  obtain ⟨q, hq⟩ : ∃ q, q = r * m := ⟨_, rfl⟩
  have hqi : (r : Int) * (m : Int) = (q : Int) := by rw [hq, Int.natCast_mul]
  have hsm := hG.small
  have hix := (hG.index hr hc).1
  have hln := hG.grid.len
  have hqb : (q : Int) + (m : Int) ≤ 1073741824 := by
    have := Nat.mul_le_mul_right m (show r + 1 ≤ G.length by omega)
    rw [Nat.succ_mul] at this
    omega
  have HQ := Lib.hid hq
  have hset : G.set r l = G := by
    refine List.ext_getElem? fun j => ?_
    by_cases h : r = j
    · subst h; rw [List.getElem?_set_self hrl, hr]
    · rw [List.getElem?_set_ne h]
  clear hq hix
  go_enter Try.func42, Try.ntmps42
  go_wp2
  go_loopw [2] (fun x wr => ∃ k : Nat, c + k ≤ m ∧ x = .int .i64 ((c + k : Nat) : Int) ∧ w.grownBy wr (some lb) ∧ GridG wr gb lb m cap (G.set r (eraseRow l c k))) (fun x _ => m - (intOf x).toNat)
  case atStart => exact ⟨0, by omega, rfl, grown_refl _ _, by rw [show eraseRow l c 0 = l from rfl, hset]; exact hG⟩
  case round =>
    obtain ⟨k, hk, rfl, hg, hGr⟩ := hrel
    have c0 := hGr.grid.c0
    have c1 := hGr.grid.c1
    rw [List.length_set] at c0
    by_cases hlt : c + k < m
    · have hr2 : (G.set r (eraseRow l c k))[r]? = some (eraseRow l c k) := List.getElem?_set_self hrl
      have hcall := loose_Gi gb lb m cap r (c + k) q _ _ wr hGr hr2 hlt HQ.out
      rw [List.set_set, Int.natCast_add] at hcall
      have HC := Lib.hid hcall
      clear hcall hset
      go_wp2_with fail
      refine (in_yes gb G.length m _ _ _ c0 c1 (by omega) (by omega) (by omega) (by omega)).mono ?_
      rintro e w' ⟨rfl, rfl⟩
      go_wp2_with fail
      refine HC.out.mono ?_
      rintro e w2 ⟨rfl, hg2, hG2⟩
      have h3 : eraseRow l c (k + 1) = looseRow (eraseRow l c k) (c + k) := rfl
      have H3 := Lib.hid h3
      clear h3
      go_wp2
      refine ⟨⟨k + 1, by omega, by go_num, grown_trans hg hg2, by rw [H3.out]; exact hG2⟩, by simp [intOf]; omega⟩
    · have hkm : k = m - c := by omega
      subst hkm
      clear hset
      go_wp2_with (go_at_call 52; refine (in_no gb G.length m _ _ _ c0 c1 (by omega)).mono ?_; rintro e w' ⟨rfl, rfl⟩)
      go_end0
      exact ⟨rfl, hg, hGr⟩

/-- The first k cells made blank. -/
def wiped (xs : List Gl) (k : Nat) : List Gl := List.replicate k blankC ++ xs.drop k
theorem wiped_succ (xs : List Gl) (k : Nat) (hk : k < xs.length) : (wiped xs k).set k blankC = wiped xs (k + 1) := by
  unfold wiped
  rw [List.set_append_right _ _ (by simp), List.length_replicate, Nat.sub_self, List.replicate_succ', List.append_assoc, List.drop_eq_getElem_cons hk]
  rfl
theorem wiped_len (xs : List Gl) (k : Nat) (hk : k ≤ xs.length) : (wiped xs k).length = xs.length := by unfold wiped; simp; omega
theorem flatten_blank (n m : Nat) : (List.replicate n (List.replicate m blankC)).flatten = List.replicate (n * m) blankC := by
  induction n with
  | zero => simp
  | succ n ih => rw [List.replicate_succ, List.flatten_cons, ih, Nat.succ_mul, Nat.add_comm (n * m) m, List.replicate_append_replicate]

set_option maxRecDepth 100000 in
set_option maxHeartbeats 1000000 in
theorem clear_some (gb lb m cap : Nat) (G : List (List Gl)) (w : World) (hG : GridG w gb lb m cap G) :
    Calls Try.prog 43 #[.pointer (some ⟨gb, 0, none⟩)] w fun e w' => e = .returned (.tuple #[]) ∧ w.grownBy w' (some lb) ∧ GridG w' gb lb m cap (List.replicate G.length (List.replicate m blankC)) := by
  have hln := hG.grid.len
  have hsm := hG.small
  have hfin : ∀ w', GridAt w' gb lb G.length m cap (wiped G.flatten (G.length * m)) → GridG w' gb lb m cap (List.replicate G.length (List.replicate m blankC)) := by
    intro w' h
    refine ⟨?_, ?_, ?_, by rw [List.length_replicate]; exact hsm⟩
    · rw [List.length_replicate, flatten_blank]
      have : wiped G.flatten (G.length * m) = List.replicate (G.length * m) blankC := by unfold wiped; rw [← hln, List.drop_length, List.append_nil]
      rw [← this]; exact h
    · intro l hl; rw [(List.mem_replicate.1 hl).2]; simp
    · intro l hl; rw [(List.mem_replicate.1 hl).2]; exact wf_blank m
  have HF := Lib.hid hfin
  have c2 := hG.grid.c2
  have hg0 := hG.grid
  clear hfin hG
  generalize G.flatten = xs at *
  generalize G.length = n at *
  go_enter Try.func43, Try.ntmps43
  go_wp2
  go_loopw [10] (fun i wr => ∃ k : Nat, k ≤ n * m ∧ i = .int .i64 k ∧ w.grownBy wr (some lb) ∧ GridAt wr gb lb n m cap (wiped xs k)) (fun i _ => n * m - (intOf i).toNat)
  case atStart => exact ⟨0, Nat.zero_le _, rfl, grown_refl _ _, hg0⟩
  case round =>
    obtain ⟨k, hk, rfl, hg, hGr⟩ := hrel
    clear c2
    by_cases hlt : k < n * m
    · have hkx : k < (wiped xs k).length := by rw [wiped_len xs k (by omega)]; omega
      obtain ⟨c2, t0, t1, f0, f1, hlb, hgl⟩ := hGr.facts hkx
      have hne : ¬ gb = lb := hGr.ne
      have hne' : ¬ lb = gb := fun e => hGr.ne e.symm
      have hk0 : (0 : Int) ≤ (k : Int) := by omega
      have hk1 : (k : Int) < ((n * m : Nat) : Int) := by omega
      have hk2 : (k : Int) < (n : Int) * (m : Int) := by rw [← Int.natCast_mul]; exact hk1
      have HS := Lib.hid (wiped_succ xs k (by omega))
      go_wp2
      go_region_held3 (fun w' => w'.cell? ⟨gb, 2, none⟩ = some (.slice (some ⟨lb, 0, none⟩) (n * m) cap)) (go_keep) (first | (go_at_call 46; refine (blank_any _).mono ?_; rintro e w' ⟨rfl, rfl⟩))
      have hp := hGr.put hkx blankC (.cells #[.string ⟨#[32]⟩, .int .i64 1] 61)
      rw [HS.out] at hp
      dsimp only [blankC] at hp
      generalize ((((wr.setCell ⟨lb, k * 2, none⟩ (Value.string ⟨#[32]⟩)).setCell ⟨lb, k * 2 + 1, none⟩ (Value.int .i64 1)).alloc (Obj.cells #[Value.string ⟨#[32]⟩, Value.int .i64 1] 61)).drew) = W1 at hp ⊢
      clear c2 t0 t1 f0 f1
      go_wp2
      refine ⟨⟨k + 1, by omega, by go_num, grown_trans hg hp.2, hp.1⟩, by simp [intOf]; omega⟩
    · have hkn : k = n * m := by omega
      subst hkn
      have hk2 : ¬ ((n : Int) * (m : Int) < (n : Int) * (m : Int)) := by omega
      have HG := Lib.hid hGr
      clear hGr
      go_wp2
      go_end0
      exact ⟨rfl, hg, HF.out _ HG.out⟩

set_option maxHeartbeats 400000 in
theorem clear_nil (w : World) : Calls Try.prog 43 #[.pointer none] w fun e w' => e = .returned (.tuple #[]) ∧ w = w' := by
  go_enter Try.func43, Try.ntmps43
  go_wp2
  refine bodyPost_ret (results_none rfl _ _ _) rfl ?_
  exact ⟨rfl, rfl⟩
end Go.Proofs.Ytokenlecnbploaa
