/- dayshift/date's Len in the shape in which the kit's printer takes a function. No conditions. -/
import Derived.Test.YtfefbmglimdgjaaLen17
import Derived.Test.YtfefbmglimdgjaaRef17
namespace Go.Proofs.Ytfefbmglimdgjaa.Own
open Go.RowKit
def date_Len.f (a0 a1 : Int) : Option Int := some (lenZ a0 a1)
theorem date_Len.calls (a0 a1 : Int) (r : Int) (w : World) (h : date_Len.f a0 a1 = some r) : Calls Try.prog 64 #[.int .i64 a0, .int .i64 a1] w fun e w' => e = .returned (.int .i64 r) ∧ Below w.heap.size w w' := by
  simp only [date_Len.f, Option.some.injEq] at h
  subst h
  exact len_any a0 a1 w
def ref17_Right.f (a0 a1 a2 a3 : Int) (a4 a5 : Bool) (a6 a7 a8 a9 : Int) : Option Bool := some (rightB ⟨a0, a1, a2, a3, a4, a5, a6, a7, a8, a9⟩)
theorem ref17_Right.calls (a0 a1 a2 a3 : Int) (a4 a5 : Bool) (a6 a7 a8 a9 : Int) (r : Bool) (w : World) (h : ref17_Right.f a0 a1 a2 a3 a4 a5 a6 a7 a8 a9 = some r) :
    Calls Try.prog 17 #[(.agg #[.int .i64 a0, .int .i64 a1, .int .i64 a2, .int .i64 a3, .bool a4, .bool a5, .int .i64 a6, .int .i64 a7, .int .i64 a8, .int .i64 a9])] w fun e w' => e = .returned (.bool r) ∧ Below w.heap.size w w' := by
  simp only [ref17_Right.f, Option.some.injEq] at h
  subst h
  exact rright_v ⟨a0, a1, a2, a3, a4, a5, a6, a7, a8, a9⟩ w
def job_Right.f (a0 a1 a2 a3 : Int) (a4 a5 : Bool) (a6 a7 a8 a9 : Int) : Option Bool := some (rightB ⟨a0, a1, a2, a3, a4, a5, a6, a7, a8, a9⟩)
theorem job_Right.calls (a0 a1 a2 a3 : Int) (a4 a5 : Bool) (a6 a7 a8 a9 : Int) (r : Bool) (w : World) (h : job_Right.f a0 a1 a2 a3 a4 a5 a6 a7 a8 a9 = some r) :
    Calls Try.prog 16 #[(.agg #[.int .i64 a0, .int .i64 a1, .int .i64 a2, .int .i64 a3, .bool a4, .bool a5, .int .i64 a6, .int .i64 a7, .int .i64 a8, .int .i64 a9])] w fun e w' => e = .returned (.bool r) ∧ Below w.heap.size w w' := by
  simp only [job_Right.f, Option.some.injEq] at h
  subst h
  exact right_any ⟨a0, a1, a2, a3, a4, a5, a6, a7, a8, a9⟩ w
end Go.Proofs.Ytfefbmglimdgjaa.Own
