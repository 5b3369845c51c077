/- law27: does, all deeds; awake. -/
import Derived.Test.YtokenlecnbploaaGridK
namespace Go.Proofs.Ytokenlecnbploaa
open Go.RowKit

theorem does_any (gb lb m cap B ob m' ocap : Nat) (rb rc : Nat → Nat) (G H : List (List Gl)) (d : Dd) (w : World) (hG : GridG w gb lb m cap G) (hH : RefAt w B ob rb rc m' H) (hn : 0 < G.length) (hm : 0 < m) (hn' : 0 < H.length)
    (ha : Apart gb lb ob H.length rb) :
    Calls Try.prog 30 #[.pointer (some ⟨gb, 0, none⟩), .slice (some ⟨ob, 0, none⟩) H.length ocap, .agg #[.int .i64 d.k, .int .i64 d.r, .int .i64 d.c, .string d.x.1, .int .i64 d.x.2]] w fun e w' =>
      e = .returned (.bool (doB G.length m H.length m' d)) ∧ Done w w' gb lb m cap B ob m' rb rc H.length (doG G m d) (doG H m' d) := by
  by_cases hp : putty d
  · have e1 : doG G m d = putG G m d.r d.c d.x := by unfold doG; rw [if_pos hp]
    have e2 : doG H m' d = putG H m' d.r d.c d.x := by unfold doG; rw [if_pos hp]
    have e3 : doB G.length m H.length m' d = (decide (roomy G.length m d.r d.c d.x.2) == decide (roomy H.length m' d.r d.c d.x.2)) := by unfold doB; rw [if_pos hp]
    rw [e1, e2, e3]
    refine (does_put gb lb m cap B ob m' ocap rb rc G H d.k d.r d.c d.x.2 d.x.1 w hG hH hn hm hn' ha hp).mono ?_
    rintro e w' ⟨rfl, h1, h2, h3⟩
    exact ⟨rfl, h1, h2, h3⟩
  · have e3 : doB G.length m H.length m' d = true := by unfold doB; rw [if_neg hp]
    rw [e3]
    by_cases h3 : d.k = 3
    · have e1 : doG G m d = eraseG G m d.r d.c := by unfold doG; rw [if_neg hp, if_pos h3]
      have e2 : doG H m' d = eraseG H m' d.r d.c := by unfold doG; rw [if_neg hp, if_pos h3]
      rw [e1, e2, h3]
      exact does_erase gb lb m cap B ob m' ocap rb rc G H d.r d.c d.x.2 d.x.1 w hG hH hn hm hn' ha
    · have e1 : doG G m d = clearG G m := by unfold doG; rw [if_neg hp, if_neg h3]
      have e2 : doG H m' d = clearG H m' := by unfold doG; rw [if_neg hp, if_neg h3]
      rw [e1, e2]
      have hp' : ¬ (d.k = 0 ∨ d.k = 1 ∨ d.k = 2) := hp
      exact does_clear gb lb m cap B ob m' ocap rb rc G H d.k d.r d.c d.x.2 d.x.1 w hG hH hn hm hn' ha (by omega) (by omega) (by omega) h3

theorem doG_len (G : List (List Gl)) (m : Nat) (d : Dd) : (doG G m d).length = G.length := by
  unfold doG; split
  · exact putG_len ..
  · split
    · exact eraseG_len ..
    · exact clearG_len ..

theorem at_any (gb lb m cap : Nat) (G : List (List Gl)) (r c : Int) (w : World) (hG : GridG w gb lb m cap G) (h1 : 0 ≤ r) (h2 : r < G.length) (h3 : 0 ≤ c) (h4 : c < m) :
    Calls Try.prog 32 #[.pointer (some ⟨gb, 0, none⟩), .int .i64 r, .int .i64 c] w fun e w' => e = .returned (.agg #[.string (cellAt (rowAt G r.toNat) c.toNat).1, .int .i64 (cellAt (rowAt G r.toNat) c.toNat).2]) ∧ Below w.heap.size w w' := by
  have er : ((r.toNat : Nat) : Int) = r := by omega
  have ec : ((c.toNat : Nat) : Int) = c := by omega
  have := at_some gb lb m cap r.toNat c.toNat G _ w hG (get_rowAt (by omega)) (by omega)
  rw [er, ec] at this
  exact this

def wG : List (List Gl) := [[blankC, (⟨#[119]⟩, 2), zeroC, blankC]]
def xG : List (List Gl) := [[blankC, blankC, (⟨#[120]⟩, 1), blankC]]
theorem wG_is : putG (List.replicate 1 (List.replicate 4 blankC)) 4 0 1 (⟨#[119]⟩, 2) = wG := by rfl
theorem xG_is : putG wG 4 0 2 (⟨#[120]⟩, 1) = xG := by rfl

theorem put_w (gb lb cap : Nat) (w : World) (hG : GridG w gb lb 4 cap (List.replicate 1 (List.replicate 4 blankC))) :
    Calls Try.prog 45 #[.pointer (some ⟨gb, 0, none⟩), .int .i64 0, .int .i64 1, .agg #[.string ⟨#[119]⟩, .int .i64 2]] w fun e w' => e = .returned (.bool true) ∧ w.grownBy w' (some lb) ∧ GridG w' gb lb 4 cap wG := by
  have h := put_any gb lb 4 cap _ 0 1 (⟨#[119]⟩, 2) w hG (by decide) (by decide)
  rw [wG_is] at h
  exact h
theorem put_x (gb lb cap : Nat) (w : World) (hG : GridG w gb lb 4 cap wG) :
    Calls Try.prog 45 #[.pointer (some ⟨gb, 0, none⟩), .int .i64 0, .int .i64 2, .agg #[.string ⟨#[120]⟩, .int .i64 1]] w fun e w' => e = .returned (.bool true) ∧ w.grownBy w' (some lb) ∧ GridG w' gb lb 4 cap xG := by
  have h := put_any gb lb 4 cap wG 0 2 (⟨#[120]⟩, 1) w hG (by decide) (by decide)
  rw [xG_is] at h
  exact h
theorem at_x (gb lb cap : Nat) (w : World) (hG : GridG w gb lb 4 cap xG) (c : Int) (h0 : 0 ≤ c) (h4 : c < 4) (t : ByteArray) (d : Int) (hx : cellAt (rowAt xG 0) c.toNat = (t, d)) :
    Calls Try.prog 32 #[.pointer (some ⟨gb, 0, none⟩), .int .i64 0, .int .i64 c] w fun e w' => e = .returned (.agg #[.string t, .int .i64 d]) ∧ Below w.heap.size w w' ∧ GridG w' gb lb 4 cap xG := by
  refine (at_any gb lb 4 cap xG 0 c w hG (by decide) (by decide) h0 h4).mono ?_
  rintro e w' ⟨rfl, hB⟩
  refine ⟨?_, hB, hG.kept (by decide) (by decide) (P := fun _ => False) (.of_below hB) id id⟩
  rw [show (0 : Int).toNat = 0 from rfl, hx]

set_option maxRecDepth 100000 in
set_option maxHeartbeats 1000000 in
theorem awake27_any (w : World) :
    Calls Try.prog 33 #[] w fun e w' => e = .returned (.bool true) ∧ Below w.heap.size w w' := by
  go_enter Try.func33, Try.ntmps33
  go_wp2_with fail
  refine (new_some 1 4 w (by omega) (by omega) (by omega) (by omega)).mono ?_
  rintro e w1 ⟨gb, lb, rfl, hgb, hlb, hB1, hG1⟩
  have h8 := hB1.size
  go_wp2_with fail
  refine (put_w gb lb _ w1 hG1).mono ?_
  rintro e w2 ⟨rfl, hg2, hG2⟩
  have hB2 : Below w.heap.size w w2 := hB1.grown hg2 h8 (fun k e => by cases e; exact hlb)
  clear hG1 hB1 hg2 h8
  have h8 := hB2.size
  go_wp2_with fail
  refine (put_x gb lb _ w2 hG2).mono ?_
  rintro e w3 ⟨rfl, hg3, hG3⟩
  have hB3 : Below w.heap.size w w3 := hB2.grown hg3 h8 (fun k e => by cases e; exact hlb)
  clear hG2 hB2 hg3 h8
  go_wp2_with fail
  refine (at_x gb lb _ w3 hG3 1 (by decide) (by decide) ⟨#[32]⟩ 1 rfl).mono ?_
  rintro e w4 ⟨rfl, hb4, hG4⟩
  have hB4 := below_trans' hB3 hb4
  clear hG3 hB3 hb4
  go_wp2_with fail
  refine (blank_any _).mono ?_
  rintro e w5 ⟨rfl, rfl⟩
  have hB5 := below_new hB4 (.cells #[.string ⟨#[32]⟩, .int .i64 1] 61)
  have hG5 : GridG (w4.alloc (.cells #[.string ⟨#[32]⟩, .int .i64 1] 61)) gb lb 4 _ xG := hG4.kept (by decide) (by decide) (P := fun _ => False) (.of_below ((Below.refl _ _).alloc (Nat.le_refl _) _)) id id
  generalize w4.alloc (.cells #[.string ⟨#[32]⟩, .int .i64 1] 61) = w5 at hB5 hG5 ⊢
  clear hG4 hB4
  go_wp2_with fail
  refine (at_x gb lb _ w5 hG5 2 (by decide) (by decide) ⟨#[120]⟩ 1 rfl).mono ?_
  rintro e w6 ⟨rfl, hb6, hG6⟩
  have hB6 := below_trans' hB5 hb6
  clear hG5 hB5 hb6
  go_wp2_with fail
  refine (at_x gb lb _ w6 hG6 3 (by decide) (by decide) ⟨#[32]⟩ 1 rfl).mono ?_
  rintro e w7 ⟨rfl, hb7, hG7⟩
  have hB7 := below_trans' hB6 hb7
  clear hG6 hB6 hb7
  go_wp2
  go_ret
  exact ⟨rfl, hB7⟩
end Go.Proofs.Ytokenlecnbploaa
