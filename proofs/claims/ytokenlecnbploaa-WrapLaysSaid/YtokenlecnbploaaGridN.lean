/- GridWide: for every input the law returns true. No condition. -/
import Derived.Test.YtokenlecnbploaaGridM
namespace Go.Proofs.Ytokenlecnbploaa
open Go.RowKit Go.ChangeShapes Go.WideShapes Go.ChangeAt

theorem reads_deed : Reads Try.prog 58 denc (fun _ => True) := by
  intro H enc0 w base spare held fuel cs x h
  obtain ⟨xs, n, _, _, hlen, hxl, hf⟩ := DataW.trod_struct Try.underlying58 h
  have hxl2 : xs.length = 4 := hxl
  have a0 := hf 0 _ rfl
  have a1 := hf 1 _ rfl
  have a2 := hf 2 _ rfl
  have a3 := hf 3 _ rfl
  rw [List.getElem?_eq_getElem (by omega)] at a0 a1 a2 a3
  obtain ⟨y0, e0, _⟩ := reads_int (k := .i64) Try.underlying3 _ _ _ _ _ _ _ _ _ a0
  obtain ⟨y1, e1, _⟩ := reads_int (k := .i64) Try.underlying3 _ _ _ _ _ _ _ _ _ a1
  obtain ⟨y2, e2, _⟩ := reads_int (k := .i64) Try.underlying3 _ _ _ _ _ _ _ _ _ a2
  obtain ⟨y3, e3, _⟩ := reads_rgl _ _ _ _ _ _ _ _ _ a3
  have c3 : Try.prog.cellsOf 3 = 1 := by kernel_rfl
  have c56 : Try.prog.cellsOf 56 = 2 := by kernel_rfl
  have c58 : Try.prog.cellsOf 58 = 5 := by kernel_rfl
  have e0' : List.take (Try.prog.cellsOf 3) (List.drop 0 cs) = [.int .i64 y0] := e0
  have e1' : List.take (Try.prog.cellsOf 3) (List.drop 1 cs) = [.int .i64 y1] := e1
  have e2' : List.take (Try.prog.cellsOf 3) (List.drop 2 cs) = [.int .i64 y2] := e2
  have e3' : List.take (Try.prog.cellsOf 56) (List.drop 3 cs) = [.string y3.1, .int .i64 y3.2] := e3
  rw [c3] at e0' e1' e2'
  rw [c56] at e3'
  rw [c58] at hlen
  refine ⟨⟨y0, y1, y2, y3⟩, ?_, trivial⟩
  clear hf a0 a1 a2 a3 e0 e1 e2 e3 h
  match cs, hlen with
  | [b0, b1, b2, b3, b4], _ =>
    simp at e0' e1' e2' e3'
    obtain ⟨k3, k4⟩ := e3'
    rw [e0', e1', e2', k3, k4]
    rfl

theorem gridWide_walk : LawWalk Try.prog 8 Try.f8 := by
  intro H enc W base args ds ps hval hA hlt
  rw [Try.params8] at hA hval
  obtain ⟨v0, vs0, d0, ds0, p0, q0, hargs, rfl, rfl, h0, r0⟩ := trodAll_cons hA
  obtain ⟨v1, vs1, d1, ds1, p1, q1, rfl, rfl, rfl, h1, r1⟩ := trodAll_cons r0
  obtain ⟨v2, vs2, d2, ds2, p2, q2, rfl, rfl, rfl, h2, r2⟩ := trodAll_cons r1
  obtain ⟨rfl, rfl, rfl⟩ := trodAll_nil r2
  obtain rfl : args = #[v0, v1, v2] := by cases args; simp_all
  obtain ⟨a, rfl, _, _, wa⟩ := open_int Try.underlying3 (hval 0 3 v0 rfl rfl) h0
  obtain ⟨b, rfl, _, _, wb⟩ := open_int Try.underlying3 (hval 1 3 v1 rfl rfl) h1
  obtain ⟨l, hl, _⟩ := rs_of_trod Try.underlying50 (by kernel_rfl) denc_len (by decide) reads_deed (hval 2 _ v2 rfl rfl) h2
  exact gridWide_any a b v2 l W hl

set_option maxRecDepth 100000 in
theorem gridWide_lifted (os : Os) (started : os.Started) (H : Type) (enc : TypeId × Value → H) :
    ReturnsInHanded {} Try.checked os 8 .any (Rows.gridWideSpec.pre6 enc Try.prog Try.f8 Rows.gridWideRow.domain false) (Rows.gridWideSpec.post enc Try.prog Try.f8 false true false false) :=
  lifted_of_walk (C := Try.checked) (s := Rows.gridWideSpec) (tb := 4) Try.own0 started (by kernel_rfl) Try.func8
    (ChangeSpec.witness6 (enc := enc) (C := Try.checked) false ⟨#[], #[.int .i64 0, .int .i64 0, .slice none 0 0], []⟩ 8 (by kernel_rfl) (by kernel_rfl) (by kernel_rfl) (by kernel_rfl))
    Try.laidOut0 (by intro t ht; rw [Try.params8] at ht; simp at ht; rcases ht with rfl | rfl <;> exact ⟨by kernel_rfl, of_decide_eq_true (by kernel_rfl)⟩) rfl Try.underlying4 rfl
    (fun ds h => by match ds, h with | [_, _, _], _ => rfl) gridWide_walk

theorem gridWide_holds : Rows.GridWideSaid :=
  OpenClaim.holds_of_wide 8 Try.f8 rfl rfl rfl rfl rfl rfl rfl ⟨rfl, rfl, rfl, rfl, rfl⟩ rfl rfl rfl rfl rfl (by kernel_rfl) Try.func8 (by kernel_rfl)
    (of_decide_eq_true (by kernel_rfl)) (by unfold Func.isWrapper; first | (rw [if_pos (by decide +kernel)]; kernel_rfl) | (rw [if_neg (by decide +kernel)]; exact ⟨rfl, rfl⟩))
    (fun os started H enc _ => gridWide_lifted os started H enc)
#print axioms gridWide_holds

end Go.Proofs.Ytokenlecnbploaa
