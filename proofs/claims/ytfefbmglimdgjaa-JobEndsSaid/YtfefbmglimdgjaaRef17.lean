/- What the reference's small functions and its Right say, as plain functions. No conditions beside those in each theorem. -/
import Derived.Test.YtfefbmglimdgjaaRow17
import Derived.Test.YtfefbmglimdgjaaJob6
import Derived.Test.YtfefbmglimdgjaaPure17c
import Derived.BigRegion
namespace Go.Proofs.Ytfefbmglimdgjaa.Own
open Go.RowKit
theorem rnumber_any (n : Int) (w : World) : Calls Try.prog 43 #[.int .i64 n] w fun e w' => e = .returned (.bool (decide (1 ≤ n ∧ n ≤ 2147483647))) ∧ w = w' := by
  go_enter Try.func43, Try.ntmps43
  go_wp2
  all_goals go_ret
  all_goals exact ⟨by simp <;> omega, rfl⟩
theorem rclocked_any (n : Int) (w : World) : Calls Try.prog 47 #[.int .i64 n] w fun e w' => e = .returned (.bool (decide (0 ≤ n ∧ n ≤ 5258966399))) ∧ w = w' := by
  go_enter Try.func47, Try.ntmps47
  go_wp2
  all_goals go_ret
  all_goals exact ⟨by simp <;> omega, rfl⟩
theorem rday_any (n : Int) (w : World) : Calls Try.prog 50 #[.int .i64 n] w fun e w' => e = .returned (.bool (decide (1 ≤ n ∧ n ≤ 3652059))) ∧ w = w' := by
  go_enter Try.func50, Try.ntmps50
  go_wp2
  all_goals go_ret
  all_goals exact ⟨by simp <;> omega, rfl⟩
theorem rlater_any (c m : Int) (w : World) (h0 : 0 ≤ c) (h1 : c ≤ 5258966399) : Calls Try.prog 48 #[.int .i64 c, .int .i64 m] w fun e w' => e = .returned (.int .i64 (laterZ c m)) ∧ w = w' := by
  go_enter Try.func48, Try.ntmps48
  go_wp2
  all_goals go_ret
  all_goals refine ⟨congrArg (fun x => Ending.returned (Value.int .i64 x)) (?_ : _ = laterZ c m), rfl⟩
  all_goals (unfold laterZ; (repeat' split) <;> omega)
set_option maxHeartbeats 4000000 in
theorem rright_v (s : St) (w : World) : Calls Try.prog 17 #[s.v] w fun e w' => e = .returned (.bool (rightB s)) ∧ Below w.heap.size w w' := by
  obtain ⟨id, job, day, state, hold, force, runs, tries, run, at_⟩ := s
  simp only [St.v]
  go_enter Try.func17, Try.ntmps17
  go_wp2_with (first | (go_at_call 43; refine (rnumber_any _ _).mono ?_; rintro e w' ⟨rfl, rfl⟩) | (go_at_call 50; refine (rday_any _ _).mono ?_; rintro e w' ⟨rfl, rfl⟩))
  all_goals go_ret
  all_goals refine ⟨congrArg (fun b => Ending.returned (.bool b)) (?_ : _ = rightB ⟨id, job, day, state, hold, force, runs, tries, run, at_⟩), by repeat (with_reducible first | exact Below.refl _ _ | assumption | refine bw_step ?_ (by assumption) | refine bw_alloc ?_ _ | refine bw_drew ?_)⟩
  all_goals try simp only [Bool.not_eq_true', Bool.not_eq_false', decide_eq_true_eq, decide_eq_false_iff_not, beq_iff_eq, beq_eq_false_iff_ne] at *
  all_goals first
    | (symm; simp only [rightB, decide_eq_false_iff_not]; omega)
    | (rw [Bool.eq_iff_iff, right_iff]; dsimp only; cases hold <;> cases force <;> simp at * <;> omega)
    | (cases hold <;> cases force <;> simp_all [rightB] <;> omega)
theorem rright_r (s : St) (w : World) : Calls Try.prog 17 #[.agg s.l.toArray] w fun e w' => e = .returned (.bool (rightB s)) ∧ Below w.heap.size w w' := by
  unfold St.l
  exact rright_v s w
theorem rdelete_r (s : St) (w : World) : Calls Try.prog 37 #[.agg s.l.toArray] w fun e w' => e = .returned (.int .i64 (jDelE s)) ∧ Below w.heap.size w w' := by
  have hs : s.l[3]? = some (.int .i64 s.state) := by unfold St.l; rfl
  have hb : Hid (rightB s = true → 0 ≤ s.state ∧ s.state ≤ 3) := fun h => (right_parts h).2.2.2.1
  go_enter Try.func37, Try.ntmps37
  go_wp2_with (first | (refine wl_load 23 _ rfl rfl _ 0 rfl (St.l _) _ (by exact range_new' _ _ (by simp)) row_underR rfl (st_sizeR _) ?_) | (go_at_call 17; refine (rright_r s _).mono ?_; rintro e w1 ⟨rfl, q1⟩; have k3 : w1.cell? ⟨w.heap.size, 3, none⟩ = some (.int .i64 s.state) := range_cell (range_below q1 (range_new' _ _ (by simp))) 3 _ hs))
  all_goals go_ret
  all_goals refine ⟨congrArg (fun x => Ending.returned (Value.int .i64 x)) (?_ : _ = jDelE s), by repeat (with_reducible first | exact Below.refl _ _ | assumption | refine bw_step ?_ (by assumption) | refine bw_alloc ?_ _ | refine bw_drew ?_)⟩
  all_goals (have hb : rightB s = true → 0 ≤ s.state ∧ s.state ≤ 3 := hb; unfold jDelE mayE; simp_all; try omega)
theorem rover_r (s : St) (w : World) : Calls Try.prog 22 #[.agg s.l.toArray] w fun e w' => e = .returned (.bool (jOverB s)) ∧ Below w.heap.size w w' := by
  have hs : s.l[3]? = some (.int .i64 s.state) := by unfold St.l; rfl
  go_enter Try.func22, Try.ntmps22
  go_wp2_with (first | (refine wl_load 23 _ rfl rfl _ 0 rfl (St.l _) _ (by exact range_new' _ _ (by simp)) row_underR rfl (st_sizeR _) ?_) | (go_at_call 17; refine (rright_r s _).mono ?_; rintro e w1 ⟨rfl, q1⟩; have k3 : w1.cell? ⟨w.heap.size, 3, none⟩ = some (.int .i64 s.state) := range_cell (range_below q1 (range_new' _ _ (by simp))) 3 _ hs))
  all_goals go_ret
  all_goals refine ⟨congrArg (fun x => Ending.returned (Value.bool x)) (?_ : _ = jOverB s), by repeat (with_reducible first | exact Below.refl _ _ | assumption | refine bw_step ?_ (by assumption) | refine bw_alloc ?_ _ | refine bw_drew ?_)⟩
  all_goals (unfold jOverB mayE; simp_all; try (split <;> simp_all))
end Go.Proofs.Ytfefbmglimdgjaa.Own
