/- The document's grid: Erase. -/
import Derived.Test.YtokenlecnbploaaRefC
namespace Go.Proofs.Ytokenlecnbploaa
open Go.RowKit

theorem set_same {α : Type} {G : List α} {r : Nat} {l : α} (hr : G[r]? = some l) : G.set r l = G := by
  have hrl := (List.getElem?_eq_some_iff.1 hr).1
  refine List.ext_getElem? fun j => ?_
  by_cases h : r = j
  · subst h; rw [List.getElem?_set_self hrl, hr]
  · rw [List.getElem?_set_ne h]

set_option maxRecDepth 100000 in
set_option maxHeartbeats 1000000 in
theorem refErase_none (B ob m cap : Nat) (rb rc : Nat → Nat) (G : List (List Gl)) (r c : Int) (w : World) (hG : RefAt w B ob rb rc m G) (h : ¬ (0 ≤ r ∧ r < G.length ∧ 0 ≤ c ∧ c < m)) :
    Calls Try.prog 51 #[.slice (some ⟨ob, 0, none⟩) G.length cap, .int .i64 r, .int .i64 c] w fun e w' => e = .returned (.tuple #[]) ∧ w = w' := by
  go_enter Try.func51, Try.ntmps51
  go_wp2
  go_loop [2] (fun x => x = .int .i64 c) (fun _ => 0)
  case atStart => rfl
  case round =>
    subst hrel
    go_wp2_with (go_at_call 58; refine (refIn_no' B ob m cap rb rc G _ _ _ hG h).mono ?_; rintro e w' ⟨rfl, rfl⟩)
    go_end0
    exact ⟨rfl, rfl⟩

set_option maxRecDepth 100000 in
set_option maxHeartbeats 1000000 in
theorem refErase_nil (r c : Int) (w : World) :
    Calls Try.prog 51 #[.slice none 0 0, .int .i64 r, .int .i64 c] w fun e w' => e = .returned (.tuple #[]) ∧ w = w' := by
  go_enter Try.func51, Try.ntmps51
  go_wp2
  go_loop [2] (fun x => x = .int .i64 c) (fun _ => 0)
  case atStart => rfl
  case round =>
    subst hrel
    go_wp2_with (go_at_call 58; refine (refIn_out _ 0 0 _ _ _ (by omega)).mono ?_; rintro e w' ⟨rfl, rfl⟩)
    go_end0
    exact ⟨rfl, rfl⟩

set_option maxRecDepth 100000 in
set_option maxHeartbeats 1000000 in
theorem refErase_some (B ob m cap : Nat) (rb rc : Nat → Nat) (G : List (List Gl)) (r c : Nat) (l : List Gl) (w : World) (hG : RefAt w B ob rb rc m G) (hr : G[r]? = some l) (hc : c ≤ m) :
    Calls Try.prog 51 #[.slice (some ⟨ob, 0, none⟩) G.length cap, .int .i64 r, .int .i64 c] w fun e w' => e = .returned (.tuple #[]) ∧ w.grownBy w' (some (rb r)) ∧ RefAt w' B ob rb rc m (G.set r (eraseRow l c (m - c))) := by
  obtain ⟨hl, hw, hrl, ho, hR, hne, hlb, hob⟩ := hG.row hr
  have hset : G.set r l = G := set_same hr
  have hsm := hG.small
  have hfew := hG.few
  have hr0 : (0 : Int) ≤ (r : Int) := by omega
  have hr1 : (r : Int) < (G.length : Int) := by omega
  have hlen : ∀ k : List Gl, (G.set r k).length = G.length := fun k => List.length_set
  have HL := Lib.hid hlen
  have HG := Lib.hid hG
  have HS := Lib.hid hset
  clear hlen hG hset
  go_enter Try.func51, Try.ntmps51
  go_wp2
  go_loopw [2] (fun x wr => ∃ k : Nat, c + k ≤ m ∧ x = .int .i64 ((c + k : Nat) : Int) ∧ w.grownBy wr (some (rb r)) ∧ RefAt wr B ob rb rc m (G.set r (eraseRow l c k))) (fun x _ => m - (intOf x).toNat)
  case atStart => exact ⟨0, by omega, rfl, grown_refl _ _, by rw [show eraseRow l c 0 = l from rfl, HS.out]; exact HG.out⟩
  case round =>
    obtain ⟨k, hk, rfl, hg, hGr⟩ := hrel
    have hr2 : (G.set r (eraseRow l c k))[r]? = some (eraseRow l c k) := List.getElem?_set_self hrl
    by_cases hlt : c + k < m
    · obtain ⟨hl2, hw2, hrl2, ho2, hR2, _, hlb2, hob2⟩ := hGr.row hr2
      have hin := refIn_yes' B ob m cap rb rc _ r ((c : Int) + (k : Int)) wr hGr (by omega) (by rw [HL.out]; omega) (by omega) (by omega)
      rw [HL.out] at hin
      have HI := Lib.hid hin
      have hcall := rloose_any (rb r) m (rc r) (c + k) (eraseRow l c k) wr hR2 hl2 hw2 hlt hsm
      rw [Int.natCast_add] at hcall
      have HC := Lib.hid hcall
      have e1 := IntWalk.i64_in ((c : Int) + (k : Int) + 1) (by omega)
      have h3 : eraseRow l c (k + 1) = looseRow (eraseRow l c k) (c + k) := rfl
      have H3 := Lib.hid h3
      clear hin hcall hR ho hr2 hrl2 h3
      go_wp2_with fail
      refine HI.out.mono ?_
      rintro e w' ⟨rfl, rfl⟩
      go_wp2_with fail
      refine HC.out.mono ?_
      rintro e w' ⟨rfl, hg2, hR3⟩
      go_wp2
      have hG3 := hGr.set (r := r) (by rw [HL.out]; exact hrl) hg2 hR3 (by rw [looseRow_len]; exact hl2) (wf_loose hw2 (by omega))
      rw [List.set_set, ← H3.out] at hG3
      have HG3 := Lib.hid hG3
      clear hG3
      refine ⟨⟨k + 1, by omega, by go_num, grown_trans hg hg2, HG3.out⟩, by simp [intOf]; omega⟩
    · have hkn : k = m - c := by omega
      subst hkn
      have hin := refIn_no' B ob m cap rb rc _ r (m : Int) wr hGr (by omega)
      rw [HL.out] at hin
      have HI := Lib.hid hin
      have HR := Lib.hid hGr
      clear hin hr2 hGr
      go_wp2_with fail
      refine HI.out.mono ?_
      rintro e w' ⟨rfl, rfl⟩
      go_wp2
      go_end0
      exact ⟨rfl, hg, HR.out⟩
end Go.Proofs.Ytokenlecnbploaa
