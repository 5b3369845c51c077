/- Closed facts of this program that every law's last step asks; how its structs are read. -/
import Derived.Test.YtokenlecnbploaaLaw
import Derived.Test.YtokenlecnbploaaWrapA
import Derived.Test.YtokenlecnbploaaColA
namespace Go.Proofs.Ytokenlecnbploaa
open Go.RowKit Go.ChangeShapes Go.WideShapes Go.ChangeAt

theorem Try.own0 : ownKnob Try.prog.godebug = none := by kernel_rfl
theorem Try.laidOut0 : laidOutB Try.prog = true := by kernel_rfl
theorem reads_rgl : Reads Try.prog 56 genc (fun g => g.1.size ≤ maxLen ∧ (Lit.int .i64 g.2).wf = true) :=
  reads_struct2 (s0 := 1) (s1 := 1) Try.underlying56 (reads_string Try.underlying9) (reads_int Try.underlying3) rfl rfl (by kernel_rfl) (by kernel_rfl) (by kernel_rfl)

theorem wf64 {n : Int} (h : (Lit.int .i64 n).wf = true) : -9223372036854775808 ≤ n ∧ n ≤ 9223372036854775807 := by
  simp only [Lit.wf, Bool.and_eq_true, decide_eq_true_eq] at h
  exact h


theorem flat_ints (l : List Int) : l.flatMap (fun n => [Value.int .i64 n]) = ints l := by
  induction l with
  | nil => rfl
  | cons x l ih => rw [List.flatMap_cons, ih]; rfl
theorem ri_of_rs {B : Nat} {w : World} {v : Value} {l : List Int} (h : Rs B w (fun n : Int => [Value.int .i64 n]) 1 v l) : Ri B w v l := by
  unfold Rs at h; rw [flat_ints] at h; exact h
end Go.Proofs.Ytokenlecnbploaa
