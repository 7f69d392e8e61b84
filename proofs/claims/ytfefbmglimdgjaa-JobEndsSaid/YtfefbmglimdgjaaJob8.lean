/- What dayshift/job's Delete and Over say, as plain functions: each call returns what its plain function says and leaves what was there. No conditions beside those in each theorem. -/
import Derived.Test.YtfefbmglimdgjaaJob2
import Derived.Laws.StructEq
namespace Go.Proofs.Ytfefbmglimdgjaa.Own
open Go.RowKit
def jDelE (s : St) : Int := mayE s [0, 2, 3]
def jOverB (s : St) : Bool := mayE s [2] == 0
attribute [irreducible] jDelE
theorem delete_any (s : St) (w : World) : Calls Try.prog 36 #[s.v] w fun e w' => e = .returned (.int .i64 (jDelE s)) ∧ Below w.heap.size w w' := by
  obtain ⟨id, job, day, state, hold, force, runs, tries, run, at_⟩ := s
  simp only [St.v]
  go_enter Try.func36, Try.ntmps36
  go_wp2_with (go_at_call 40; refine (may_any ⟨id, job, day, state, hold, force, runs, tries, run, at_⟩ [0, 2, 3] _ _ (by simp) (by simp) (by intro j hj; match j, hj with | 0, _ => go_simp | 1, _ => go_simp | 2, _ => go_simp)).mono ?_; rintro e w' ⟨rfl, hq1⟩)
  go_ret
  exact ⟨by unfold jDelE; rfl, by repeat (with_reducible first | exact Below.refl _ _ | assumption | refine bw_step ?_ (by assumption) | refine bw_alloc ?_ _ | refine bw_drew ?_)⟩
theorem neq_zero (id job day state : Int) (hold force : Bool) (runs tries run at_ : Int) :
    ∃ b, (∀ W : World, (binOp .neq 35 (.agg #[.int .i64 id, .int .i64 job, .int .i64 day, .int .i64 state, .bool hold, .bool force, .int .i64 runs, .int .i64 tries, .int .i64 run, .int .i64 at_]) (.agg #[.int .i64 0, .int .i64 0, .int .i64 0, .int .i64 0, .bool false, .bool false, .int .i64 0, .int .i64 0, .int .i64 0, .int .i64 0])).run Try.prog W = .ok (.bool b) W) ∧ (b = false → id = 0) := by
  by_cases h : id = 0 ∧ job = 0 ∧ day = 0 ∧ state = 0 ∧ hold = false ∧ force = false ∧ runs = 0 ∧ tries = 0 ∧ run = 0 ∧ at_ = 0
  · refine ⟨false, fun W => ?_, fun _ => h.1⟩
    obtain ⟨rfl, rfl, rfl, rfl, rfl, rfl, rfl, rfl, rfl, rfl⟩ := h
    go_simp
  · refine ⟨true, fun W => ?_, fun h => by cases h⟩
    have H : Hid _ := h
    clear h
    go_simp
    exact fun a1 a2 a3 a4 a5 a6 a7 a8 a9 a10 => H ⟨a1, a2, a3, a4, a5, a6, a7, a8, a9, a10⟩
theorem over_any (s : St) (w : World) : Calls Try.prog 21 #[s.v] w fun e w' => e = .returned (.bool (jOverB s)) ∧ Below w.heap.size w w' := by
  obtain ⟨id, job, day, state, hold, force, runs, tries, run, at_⟩ := s
  obtain ⟨b, hb, hi⟩ := neq_zero id job day state hold force runs tries run at_
  simp only [St.v]
  cases b
  · have hr : jOverB ⟨id, job, day, state, hold, force, runs, tries, run, at_⟩ = false := by
      have h0 := hi rfl
      subst h0
      unfold jOverB mayE
      rw [if_neg (by unfold rightB; simp)]
      rfl
    rw [hr]
    clear hr hi
    go_enter Try.func21, Try.ntmps21
    go_wp2
    go_ret
    exact ⟨rfl, by repeat (with_reducible first | exact Below.refl _ _ | assumption | refine bw_step ?_ (by assumption) | refine bw_alloc ?_ _ | refine bw_drew ?_)⟩
  · clear hi
    go_enter Try.func21, Try.ntmps21
    go_wp2_with (go_at_call 40; refine (may_any ⟨id, job, day, state, hold, force, runs, tries, run, at_⟩ [2] _ _ (by simp) (by simp) (by intro j hj; match j, hj with | 0, _ => go_simp)).mono ?_; rintro e w' ⟨rfl, hq1⟩)
    all_goals go_ret
    all_goals exact ⟨by unfold jOverB; simp, by repeat (with_reducible first | exact Below.refl _ _ | assumption | refine bw_step ?_ (by assumption) | refine bw_alloc ?_ _ | refine bw_drew ?_)⟩
attribute [irreducible] jOverB
end Go.Proofs.Ytfefbmglimdgjaa.Own
