/- What dayshift/job's Rerun and Submit do, as plain functions: each call returns what its plain function says and leaves what was there. No conditions beside those in each theorem. -/
import Derived.Test.YtfefbmglimdgjaaJob4
namespace Go.Proofs.Ytfefbmglimdgjaa.Own
open Go.RowKit
def jRerunE (s : St) (c : Int) : Int := refuseE (timedE s c [2, 3]) (s.runs == 99) 4
def jRerunS (s : St) (c : Int) : St := toS (jRerunE s c) { s with state := 0, at_ := c, tries := 0 }
attribute [irreducible] jRerunE jRerunS
set_option maxHeartbeats 4000000 in
theorem rerun_any (s : St) (c : Int) (w : World) : Calls Try.prog 23 #[s.v, .int .i64 c] w fun e w' => e = .returned (.tuple #[(jRerunS s c).v, .int .i64 (jRerunE s c)]) ∧ Below w.heap.size w w' := by
  obtain ⟨id, job, day, state, hold, force, runs, tries, run, at_⟩ := s
  simp only [St.v]
  go_enter Try.func23, Try.ntmps23
  go_wp2_with fail
  have hKT : KT ((w.alloc (.cells #[.int .i64 id, .int .i64 job, .int .i64 day, .int .i64 state, .bool hold, .bool force, .int .i64 runs, .int .i64 tries, .int .i64 run, .int .i64 at_] 35)).alloc (.cells #[.int .i64 c] 2)) (w.heap.size + 2) 10 (((w.alloc (.cells #[.int .i64 id, .int .i64 job, .int .i64 day, .int .i64 state, .bool hold, .bool force, .int .i64 runs, .int .i64 tries, .int .i64 run, .int .i64 at_] 35)).alloc (.cells #[.int .i64 c] 2)).alloc (.cells #[.int .i64 0, .int .i64 0, .int .i64 0, .int .i64 0, .bool false, .bool false, .int .i64 0, .int .i64 0, .int .i64 0, .int .i64 0] 35)) := kt_new' _ _ (by simp) rfl
  go_region_held3 (fun w' => KT ((w.alloc (.cells #[.int .i64 id, .int .i64 job, .int .i64 day, .int .i64 state, .bool hold, .bool force, .int .i64 runs, .int .i64 tries, .int .i64 run, .int .i64 at_] 35)).alloc (.cells #[.int .i64 c] 2)) (w.heap.size + 2) 10 w')
    (with_reducible (first | assumption | exact kt_set10 (by assumption) (by simp) | exact kt_drew (by assumption) | exact kt_alloc (by assumption) _ | exact kt_step (by assumption) hq1 | repeat' (first | assumption | exact kt_step (by assumption) hq1 | refine kt_drew ?_ | refine kt_alloc ?_ _ | refine kt_step ?_ hq1 | refine kt_set (by simp) ?_ _ _)))
    (first | (go_at_call 44; refine (timed_any ⟨id, job, day, state, hold, force, runs, tries, run, at_⟩ c [2, 3] _ _ (by simp) (by simp) (by intro j hj; match j, hj with | 0, _ => go_simp | 1, _ => go_simp)).mono ?_; rintro e w' ⟨rfl, hq1⟩) | (go_at_call 39; refine (refuse_any _ _ _ _).mono ?_; rintro e w' ⟨rfl, rfl⟩))
  rename_i hK0
  have hK : Hid (KT ((w.alloc (.cells #[.int .i64 id, .int .i64 job, .int .i64 day, .int .i64 state, .bool hold, .bool force, .int .i64 runs, .int .i64 tries, .int .i64 run, .int .i64 at_] 35)).alloc (.cells #[.int .i64 c] 2)) (w.heap.size + 2) 10 _) := hK0
  clear hKT
  obtain ⟨k1, k2, k3, k4, k5, k6⟩ := hK0
  go_wp2_with (go_at_call 41; refine (to_rerun ⟨id, job, day, state, hold, force, runs, tries, run, at_⟩ _ (w.heap.size + 1) c _ (k3 _ (by simp)) ((k1 _ _ (by simp)).trans (by go_simp))).mono ?_; rintro e w2 ⟨rfl, hq1⟩; have hK2 : Hid (KT ((w.alloc (.cells #[.int .i64 id, .int .i64 job, .int .i64 day, .int .i64 state, .bool hold, .bool force, .int .i64 runs, .int .i64 tries, .int .i64 run, .int .i64 at_] 35)).alloc (.cells #[.int .i64 c] 2)) (w.heap.size + 2) 10 w2) := kt_step hK hq1; clear k1 k2 k3 k4 k5 k6; obtain ⟨k1, k2, k3, k4, k5, k6⟩ := (show KT ((w.alloc (.cells #[.int .i64 id, .int .i64 job, .int .i64 day, .int .i64 state, .bool hold, .bool force, .int .i64 runs, .int .i64 tries, .int .i64 run, .int .i64 at_] 35)).alloc (.cells #[.int .i64 c] 2)) (w.heap.size + 2) 10 w2 from hK2))
  refine bodyPost_ret (v := .tuple #[(toS (refuseE (timedE ⟨id, job, day, state, hold, force, runs, tries, run, at_⟩ c [2, 3]) (runs == 99) 4) ⟨id, job, day, 0, hold, force, runs, 0, run, c⟩).v, .int .i64 (refuseE (timedE ⟨id, job, day, state, hold, force, runs, tries, run, at_⟩ c [2, 3]) (runs == 99) 4)]) (res_state (p := 4) (q := 5) rfl (toS (refuseE (timedE ⟨id, job, day, state, hold, force, runs, tries, run, at_⟩ c [2, 3]) (runs == 99) 4) ⟨id, job, day, 0, hold, force, runs, 0, run, c⟩) _ (w.heap.size + 2) _ _ rfl rfl (chain10 (kt_set10 (show KT ((w.alloc (.cells #[.int .i64 id, .int .i64 job, .int .i64 day, .int .i64 state, .bool hold, .bool force, .int .i64 runs, .int .i64 tries, .int .i64 run, .int .i64 at_] 35)).alloc (.cells #[.int .i64 c] 2)) (w.heap.size + 2) 10 _ from hK2) (by simp)))) rfl ⟨?_, bw_step (bw_alloc (bw_alloc (Below.refl _ _) _) _) (kt_set10 (show KT ((w.alloc (.cells #[.int .i64 id, .int .i64 job, .int .i64 day, .int .i64 state, .bool hold, .bool force, .int .i64 runs, .int .i64 tries, .int .i64 run, .int .i64 at_] 35)).alloc (.cells #[.int .i64 c] 2)) (w.heap.size + 2) 10 _ from hK2) (by simp)).2.2.2.1⟩
  unfold jRerunS jRerunE
  first | rfl | simp

def jSubmitE (s : St) (n : Int) : Int := if 1 ≤ n ∧ n ≤ 2147483647 then refuseE (refuseE (mayE s [0]) s.hold 32) (s.runs == 99) 4 else 1
def jSubmitS (s : St) (n : Int) : St := toS (jSubmitE s n) { s with state := 1, force := false, runs := s.runs + 1, run := n }
theorem mayE_right {s : St} {xs : List Int} {a : Bool} {b : Int} (hb : b ≠ 0) (h : refuseE (mayE s xs) a b = 0) : rightB s = true := by
  by_cases hr : rightB s = true
  · exact hr
  · have e : mayE s xs = 1 := by unfold mayE; rw [if_neg hr]
    rw [e] at h
    unfold refuseE at h
    split at h
    · exact absurd h hb
    · cases h
theorem right_runs {s : St} (h : rightB s = true) : 0 ≤ s.runs ∧ s.runs ≤ 99 := by
  unfold rightB at h
  simp only [decide_eq_true_eq] at h
  omega
theorem refuseE_zero {a : Int} {b : Bool} {c : Int} (hc : c ≠ 0) (h : refuseE a b c = 0) : a = 0 := by
  unfold refuseE at h
  split at h
  · exact absurd h hc
  · exact h
set_option maxHeartbeats 4000000 in
theorem submit_any (s : St) (n : Int) (w : World) : Calls Try.prog 10 #[s.v, .int .i64 n] w fun e w' => e = .returned (.tuple #[(jSubmitS s n).v, .int .i64 (jSubmitE s n)]) ∧ Below w.heap.size w w' := by
  obtain ⟨id, job, day, state, hold, force, runs, tries, run, at_⟩ := s
  by_cases hn : 1 ≤ n ∧ n ≤ 2147483647
  · have HE : Hid (jSubmitE ⟨id, job, day, state, hold, force, runs, tries, run, at_⟩ n = (refuseE (refuseE (mayE ⟨id, job, day, state, hold, force, runs, tries, run, at_⟩ [0]) hold 32) (runs == 99) 4)) := by show _ = _; unfold jSubmitE; rw [if_pos hn]
    have HR : Hid ((refuseE (refuseE (mayE ⟨id, job, day, state, hold, force, runs, tries, run, at_⟩ [0]) hold 32) (runs == 99) 4) = 0 → 0 ≤ runs ∧ runs ≤ 99) := fun h => right_runs (s := ⟨id, job, day, state, hold, force, runs, tries, run, at_⟩) (mayE_right (by decide) (refuseE_zero (by decide) h))
    simp only [St.v]
    go_enter Try.func10, Try.ntmps10
    go_wp2_with (go_at_call 38; refine (within_any _ _ _ _).mono ?_; rintro e w' ⟨rfl, rfl⟩)
    have hKT : KT ((w.alloc (.cells #[.int .i64 id, .int .i64 job, .int .i64 day, .int .i64 state, .bool hold, .bool force, .int .i64 runs, .int .i64 tries, .int .i64 run, .int .i64 at_] 35)).alloc (.cells #[.int .i64 n] 2)) (w.heap.size + 2) 10 (((w.alloc (.cells #[.int .i64 id, .int .i64 job, .int .i64 day, .int .i64 state, .bool hold, .bool force, .int .i64 runs, .int .i64 tries, .int .i64 run, .int .i64 at_] 35)).alloc (.cells #[.int .i64 n] 2)).alloc (.cells #[.int .i64 0, .int .i64 0, .int .i64 0, .int .i64 0, .bool false, .bool false, .int .i64 0, .int .i64 0, .int .i64 0, .int .i64 0] 35)) := kt_new' _ _ (by simp) rfl
    go_region_held3 (fun w' => KT ((w.alloc (.cells #[.int .i64 id, .int .i64 job, .int .i64 day, .int .i64 state, .bool hold, .bool force, .int .i64 runs, .int .i64 tries, .int .i64 run, .int .i64 at_] 35)).alloc (.cells #[.int .i64 n] 2)) (w.heap.size + 2) 10 w')
      (with_reducible (first | assumption | exact kt_set10 (by assumption) (by simp) | exact kt_drew (by assumption) | exact kt_alloc (by assumption) _ | exact kt_step (by assumption) hq1 | repeat' (first | assumption | exact kt_step (by assumption) hq1 | refine kt_drew ?_ | refine kt_alloc ?_ _ | refine kt_step ?_ hq1 | refine kt_set (by simp) ?_ _ _)))
      (first | (go_at_call 40; refine (may_any ⟨id, job, day, state, hold, force, runs, tries, run, at_⟩ [0] _ _ (by simp) (by simp) (by intro j hj; match j, hj with | 0, _ => go_simp)).mono ?_; rintro e w' ⟨rfl, hq1⟩) | (go_at_call 39; refine (refuse_any _ _ _ _).mono ?_; rintro e w' ⟨rfl, rfl⟩))
    rename_i hK0
    have hK : Hid (KT ((w.alloc (.cells #[.int .i64 id, .int .i64 job, .int .i64 day, .int .i64 state, .bool hold, .bool force, .int .i64 runs, .int .i64 tries, .int .i64 run, .int .i64 at_] 35)).alloc (.cells #[.int .i64 n] 2)) (w.heap.size + 2) 10 _) := hK0
    clear hKT
    obtain ⟨k1, k2, k3, k4, k5, k6⟩ := hK0
    go_wp2_with (go_at_call 39; refine (refuse_any _ _ _ _).mono ?_; rintro e w' ⟨rfl, rfl⟩)
    go_wp2_with (go_at_call 41; refine (to_submit ⟨id, job, day, state, hold, force, runs, tries, run, at_⟩ _ (w.heap.size + 1) n _ (k3 _ (by simp)) ((k1 _ _ (by simp)).trans (by go_simp)) HR).mono ?_; rintro e w2 ⟨rfl, hq1⟩; have hK2 : Hid (KT ((w.alloc (.cells #[.int .i64 id, .int .i64 job, .int .i64 day, .int .i64 state, .bool hold, .bool force, .int .i64 runs, .int .i64 tries, .int .i64 run, .int .i64 at_] 35)).alloc (.cells #[.int .i64 n] 2)) (w.heap.size + 2) 10 w2) := kt_step hK hq1; clear k1 k2 k3 k4 k5 k6; obtain ⟨k1, k2, k3, k4, k5, k6⟩ := (show KT ((w.alloc (.cells #[.int .i64 id, .int .i64 job, .int .i64 day, .int .i64 state, .bool hold, .bool force, .int .i64 runs, .int .i64 tries, .int .i64 run, .int .i64 at_] 35)).alloc (.cells #[.int .i64 n] 2)) (w.heap.size + 2) 10 w2 from hK2))
    refine bodyPost_ret (v := .tuple #[(toS (refuseE (refuseE (mayE ⟨id, job, day, state, hold, force, runs, tries, run, at_⟩ [0]) hold 32) (runs == 99) 4) ⟨id, job, day, 1, hold, false, runs + 1, tries, n, at_⟩).v, .int .i64 (refuseE (refuseE (mayE ⟨id, job, day, state, hold, force, runs, tries, run, at_⟩ [0]) hold 32) (runs == 99) 4)]) (res_state (p := 4) (q := 5) rfl (toS (refuseE (refuseE (mayE ⟨id, job, day, state, hold, force, runs, tries, run, at_⟩ [0]) hold 32) (runs == 99) 4) ⟨id, job, day, 1, hold, false, runs + 1, tries, n, at_⟩) _ (w.heap.size + 2) _ _ rfl rfl (chain10 (kt_set10 (show KT ((w.alloc (.cells #[.int .i64 id, .int .i64 job, .int .i64 day, .int .i64 state, .bool hold, .bool force, .int .i64 runs, .int .i64 tries, .int .i64 run, .int .i64 at_] 35)).alloc (.cells #[.int .i64 n] 2)) (w.heap.size + 2) 10 _ from hK2) (by simp)))) rfl ⟨?_, bw_step (bw_alloc (bw_alloc (Below.refl _ _) _) _) (kt_set10 (show KT ((w.alloc (.cells #[.int .i64 id, .int .i64 job, .int .i64 day, .int .i64 state, .bool hold, .bool force, .int .i64 runs, .int .i64 tries, .int .i64 run, .int .i64 at_] 35)).alloc (.cells #[.int .i64 n] 2)) (w.heap.size + 2) 10 _ from hK2) (by simp)).2.2.2.1⟩
    unfold jSubmitS
    rw [HE]
  · have HE : Hid (jSubmitE ⟨id, job, day, state, hold, force, runs, tries, run, at_⟩ n = 1) := by show _ = _; unfold jSubmitE; rw [if_neg hn]
    simp only [St.v]
    go_enter Try.func10, Try.ntmps10
    go_wp2_with (go_at_call 38; refine (within_any _ _ _ _).mono ?_; rintro e w' ⟨rfl, rfl⟩)
    refine bodyPost_ret (v := .tuple #[St.zero.v, .int .i64 1]) (by simp [results, Try.results10, go_sem, St.zero]) rfl ⟨?_, by repeat (with_reducible first | exact Below.refl _ _ | assumption | refine bw_step ?_ (by assumption) | refine bw_alloc ?_ _ | refine bw_drew ?_)⟩
    unfold jSubmitS
    rw [HE]
    simp [toS]
attribute [irreducible] jSubmitE jSubmitS
end Go.Proofs.Ytfefbmglimdgjaa.Own
