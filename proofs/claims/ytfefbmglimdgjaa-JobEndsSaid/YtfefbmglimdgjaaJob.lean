/- What dayshift/job's and dayshift/date's small functions do, as plain functions: each call returns what its plain function says and leaves what was there. No conditions. -/
import Derived.Test.YtfefbmglimdgjaaProg
import Derived.Test.YtfefbmglimdgjaaSl
namespace Go.Proofs.Ytfefbmglimdgjaa.Own
open Go.RowKit

structure St where
  id : Int
  job : Int
  day : Int
  state : Int
  hold : Bool
  force : Bool
  runs : Int
  tries : Int
  run : Int
  at_ : Int
abbrev St.v (s : St) : Value := .agg #[.int .i64 s.id, .int .i64 s.job, .int .i64 s.day, .int .i64 s.state, .bool s.hold, .bool s.force, .int .i64 s.runs, .int .i64 s.tries, .int .i64 s.run, .int .i64 s.at_]
def St.zero : St := ⟨0, 0, 0, 0, false, false, 0, 0, 0, 0⟩

theorem within_any (n a b : Int) (w : World) : Calls Try.prog 38 #[.int .i64 n, .int .i64 a, .int .i64 b] w fun e w' => e = .returned (.bool (decide (a ≤ n ∧ n ≤ b))) ∧ w = w' := by
  go_enter Try.func38, Try.ntmps38
  go_wp2
  all_goals go_ret
  all_goals exact ⟨by simp <;> omega, rfl⟩
theorem dright_any (n : Int) (w : World) : Calls Try.prog 49 #[.int .i64 n] w fun e w' => e = .returned (.bool (decide (1 ≤ n ∧ n ≤ 3652059))) ∧ w = w' := by
  go_enter Try.func49, Try.ntmps49
  go_wp2
  all_goals go_ret
  all_goals exact ⟨by simp <;> omega, rfl⟩

def rightB (s : St) : Bool := decide (1 ≤ s.id ∧ s.id ≤ 2147483647 ∧ 0 ≤ s.job ∧ s.job ≤ 47 ∧ 1 ≤ s.day ∧ s.day ≤ 3652059 ∧ 0 ≤ s.runs ∧ s.runs ≤ 99 ∧ 0 ≤ s.tries ∧ s.tries ≤ 99 ∧ 0 ≤ s.at_ ∧ s.at_ ≤ 5258966399 ∧
  0 ≤ s.state ∧ s.state ≤ 3 ∧ (s.state = 1 → 1 ≤ s.run ∧ s.run ≤ 2147483647) ∧ (s.state ≠ 1 → s.run = 0) ∧ (s.state ≠ 0 → s.hold = false ∧ s.force = false) ∧ (s.hold = true → s.force = false))

set_option maxHeartbeats 1000000 in
theorem right_any (s : St) (w : World) : Calls Try.prog 16 #[s.v] w fun e w' => e = .returned (.bool (rightB s)) ∧ Below w.heap.size w w' := by
  obtain ⟨id, job, day, state, hold, force, runs, tries, run, at_⟩ := s
  simp only [St.v]
  go_enter Try.func16, Try.ntmps16
  go_wp2_with (first | (go_at_call 38; refine (within_any _ _ _ _).mono ?_; rintro e w' ⟨rfl, rfl⟩) | (go_at_call 49; refine (dright_any _ _).mono ?_; rintro e w' ⟨rfl, rfl⟩))
  all_goals go_ret
  all_goals refine ⟨congrArg (fun b => Ending.returned (.bool b)) (?_ : _ = rightB ⟨id, job, day, state, hold, force, runs, tries, run, at_⟩), by repeat (with_reducible first | exact Below.refl _ _ | assumption | refine bw_step ?_ (by assumption) | refine bw_alloc ?_ _ | refine bw_drew ?_)⟩
  all_goals try simp only [Bool.not_eq_true', Bool.not_eq_false', decide_eq_true_eq, decide_eq_false_iff_not, beq_iff_eq, beq_eq_false_iff_ne] at *
  all_goals first
    | (symm; simp only [rightB, decide_eq_false_iff_not]; omega)
    | (cases hold <;> cases force <;> simp_all [rightB] <;> omega)
attribute [irreducible] rightB
end Go.Proofs.Ytfefbmglimdgjaa.Own
