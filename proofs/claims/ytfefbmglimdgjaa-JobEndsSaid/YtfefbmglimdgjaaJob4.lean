/- What dayshift/job's commands of one statement do, as plain functions: each call returns what its plain function says and leaves what was there. No conditions beside those in each theorem. -/
import Derived.Test.YtfefbmglimdgjaaJob3
namespace Go.Proofs.Ytfefbmglimdgjaa.Own
open Go.RowKit
def jFreeE (s : St) : Int := refuseE (mayE s [0]) (!s.hold) 30
def jFreeS (s : St) : St := toS (jFreeE s) { s with hold := false }
attribute [irreducible] jFreeE jFreeS
set_option maxHeartbeats 4000000 in
theorem free_any (s : St) (w : World) : Calls Try.prog 25 #[s.v] w fun e w' => e = .returned (.tuple #[(jFreeS s).v, .int .i64 (jFreeE s)]) ∧ Below w.heap.size w w' := by
  obtain ⟨id, job, day, state, hold, force, runs, tries, run, at_⟩ := s
  simp only [St.v]
  go_enter Try.func25, Try.ntmps25
  go_wp2_with fail
  have hKT : KT (w.alloc (.cells #[.int .i64 id, .int .i64 job, .int .i64 day, .int .i64 state, .bool hold, .bool force, .int .i64 runs, .int .i64 tries, .int .i64 run, .int .i64 at_] 35)) (w.heap.size + 1) 10 ((w.alloc (.cells #[.int .i64 id, .int .i64 job, .int .i64 day, .int .i64 state, .bool hold, .bool force, .int .i64 runs, .int .i64 tries, .int .i64 run, .int .i64 at_] 35)).alloc (.cells #[.int .i64 0, .int .i64 0, .int .i64 0, .int .i64 0, .bool false, .bool false, .int .i64 0, .int .i64 0, .int .i64 0, .int .i64 0] 35)) := kt_new' _ _ (by simp) rfl
  go_region_held3 (fun w' => KT (w.alloc (.cells #[.int .i64 id, .int .i64 job, .int .i64 day, .int .i64 state, .bool hold, .bool force, .int .i64 runs, .int .i64 tries, .int .i64 run, .int .i64 at_] 35)) (w.heap.size + 1) 10 w')
    (with_reducible (first | assumption | exact kt_set10 (by assumption) (by simp) | exact kt_drew (by assumption) | exact kt_alloc (by assumption) _ | exact kt_step (by assumption) hq1 | repeat' (first | assumption | exact kt_step (by assumption) hq1 | refine kt_drew ?_ | refine kt_alloc ?_ _ | refine kt_step ?_ hq1 | refine kt_set (by simp) ?_ _ _)))
    (first | (go_at_call 40; refine (may_any ⟨id, job, day, state, hold, force, runs, tries, run, at_⟩ [0] _ _ (by simp) (by simp) (by intro j hj; match j, hj with  | 0, _ => go_simp)).mono ?_; rintro e w' ⟨rfl, hq1⟩) | (go_at_call 39; refine (refuse_any _ _ _ _).mono ?_; rintro e w' ⟨rfl, rfl⟩) | (go_at_call 41; refine (to_free ⟨id, job, day, state, hold, force, runs, tries, run, at_⟩ _ _).mono ?_; rintro e w' ⟨rfl, hq1⟩))
  rename_i hH
  have hC := chain10 hH
  have hB : Hid (Below _ _ _) := hH.2.2.2.1
  clear hH hKT
  go_wp2
  refine bodyPost_ret (v := .tuple #[(toS (refuseE (mayE ⟨id, job, day, state, hold, force, runs, tries, run, at_⟩ [0]) (!hold) 30) ⟨id, job, day, state, false, force, runs, tries, run, at_⟩).v, .int .i64 (refuseE (mayE ⟨id, job, day, state, hold, force, runs, tries, run, at_⟩ [0]) (!hold) 30)]) (res_state (p := 2) (q := 3) rfl (toS (refuseE (mayE ⟨id, job, day, state, hold, force, runs, tries, run, at_⟩ [0]) (!hold) 30) ⟨id, job, day, state, false, force, runs, tries, run, at_⟩) _ (w.heap.size + 1) _ _ rfl rfl hC) rfl ⟨?_, bw_step (bw_alloc (Below.refl _ _) _) hB⟩
  unfold jFreeS jFreeE
  first | rfl | simp
def jForceE (s : St) : Int := refuseE (mayE s [0]) s.hold 32
def jForceS (s : St) : St := toS (jForceE s) { s with force := true }
attribute [irreducible] jForceE jForceS
set_option maxHeartbeats 4000000 in
theorem force_any (s : St) (w : World) : Calls Try.prog 26 #[s.v] w fun e w' => e = .returned (.tuple #[(jForceS s).v, .int .i64 (jForceE s)]) ∧ Below w.heap.size w w' := by
  obtain ⟨id, job, day, state, hold, force, runs, tries, run, at_⟩ := s
  simp only [St.v]
  go_enter Try.func26, Try.ntmps26
  go_wp2_with fail
  have hKT : KT (w.alloc (.cells #[.int .i64 id, .int .i64 job, .int .i64 day, .int .i64 state, .bool hold, .bool force, .int .i64 runs, .int .i64 tries, .int .i64 run, .int .i64 at_] 35)) (w.heap.size + 1) 10 ((w.alloc (.cells #[.int .i64 id, .int .i64 job, .int .i64 day, .int .i64 state, .bool hold, .bool force, .int .i64 runs, .int .i64 tries, .int .i64 run, .int .i64 at_] 35)).alloc (.cells #[.int .i64 0, .int .i64 0, .int .i64 0, .int .i64 0, .bool false, .bool false, .int .i64 0, .int .i64 0, .int .i64 0, .int .i64 0] 35)) := kt_new' _ _ (by simp) rfl
  go_region_held3 (fun w' => KT (w.alloc (.cells #[.int .i64 id, .int .i64 job, .int .i64 day, .int .i64 state, .bool hold, .bool force, .int .i64 runs, .int .i64 tries, .int .i64 run, .int .i64 at_] 35)) (w.heap.size + 1) 10 w')
    (with_reducible (first | assumption | exact kt_set10 (by assumption) (by simp) | exact kt_drew (by assumption) | exact kt_alloc (by assumption) _ | exact kt_step (by assumption) hq1 | repeat' (first | assumption | exact kt_step (by assumption) hq1 | refine kt_drew ?_ | refine kt_alloc ?_ _ | refine kt_step ?_ hq1 | refine kt_set (by simp) ?_ _ _)))
    (first | (go_at_call 40; refine (may_any ⟨id, job, day, state, hold, force, runs, tries, run, at_⟩ [0] _ _ (by simp) (by simp) (by intro j hj; match j, hj with  | 0, _ => go_simp)).mono ?_; rintro e w' ⟨rfl, hq1⟩) | (go_at_call 39; refine (refuse_any _ _ _ _).mono ?_; rintro e w' ⟨rfl, rfl⟩) | (go_at_call 41; refine (to_force ⟨id, job, day, state, hold, force, runs, tries, run, at_⟩ _ _).mono ?_; rintro e w' ⟨rfl, hq1⟩))
  rename_i hH
  have hC := chain10 hH
  have hB : Hid (Below _ _ _) := hH.2.2.2.1
  clear hH hKT
  go_wp2
  refine bodyPost_ret (v := .tuple #[(toS (refuseE (mayE ⟨id, job, day, state, hold, force, runs, tries, run, at_⟩ [0]) hold 32) ⟨id, job, day, state, hold, true, runs, tries, run, at_⟩).v, .int .i64 (refuseE (mayE ⟨id, job, day, state, hold, force, runs, tries, run, at_⟩ [0]) hold 32)]) (res_state (p := 2) (q := 3) rfl (toS (refuseE (mayE ⟨id, job, day, state, hold, force, runs, tries, run, at_⟩ [0]) hold 32) ⟨id, job, day, state, hold, true, runs, tries, run, at_⟩) _ (w.heap.size + 1) _ _ rfl rfl hC) rfl ⟨?_, bw_step (bw_alloc (Below.refl _ _) _) hB⟩
  unfold jForceS jForceE
  first | rfl | simp
def jOkE (s : St) : Int := refuseE (mayE s [0, 3]) s.hold 32
def jOkS (s : St) : St := toS (jOkE s) { s with state := 2, force := false, tries := 0 }
attribute [irreducible] jOkE jOkS
set_option maxHeartbeats 4000000 in
theorem ok_any (s : St) (w : World) : Calls Try.prog 27 #[s.v] w fun e w' => e = .returned (.tuple #[(jOkS s).v, .int .i64 (jOkE s)]) ∧ Below w.heap.size w w' := by
  obtain ⟨id, job, day, state, hold, force, runs, tries, run, at_⟩ := s
  simp only [St.v]
  go_enter Try.func27, Try.ntmps27
  go_wp2_with fail
  have hKT : KT (w.alloc (.cells #[.int .i64 id, .int .i64 job, .int .i64 day, .int .i64 state, .bool hold, .bool force, .int .i64 runs, .int .i64 tries, .int .i64 run, .int .i64 at_] 35)) (w.heap.size + 1) 10 ((w.alloc (.cells #[.int .i64 id, .int .i64 job, .int .i64 day, .int .i64 state, .bool hold, .bool force, .int .i64 runs, .int .i64 tries, .int .i64 run, .int .i64 at_] 35)).alloc (.cells #[.int .i64 0, .int .i64 0, .int .i64 0, .int .i64 0, .bool false, .bool false, .int .i64 0, .int .i64 0, .int .i64 0, .int .i64 0] 35)) := kt_new' _ _ (by simp) rfl
  go_region_held3 (fun w' => KT (w.alloc (.cells #[.int .i64 id, .int .i64 job, .int .i64 day, .int .i64 state, .bool hold, .bool force, .int .i64 runs, .int .i64 tries, .int .i64 run, .int .i64 at_] 35)) (w.heap.size + 1) 10 w')
    (with_reducible (first | assumption | exact kt_set10 (by assumption) (by simp) | exact kt_drew (by assumption) | exact kt_alloc (by assumption) _ | exact kt_step (by assumption) hq1 | repeat' (first | assumption | exact kt_step (by assumption) hq1 | refine kt_drew ?_ | refine kt_alloc ?_ _ | refine kt_step ?_ hq1 | refine kt_set (by simp) ?_ _ _)))
    (first | (go_at_call 40; refine (may_any ⟨id, job, day, state, hold, force, runs, tries, run, at_⟩ [0, 3] _ _ (by simp) (by simp) (by intro j hj; match j, hj with  | 0, _ => go_simp | 1, _ => go_simp)).mono ?_; rintro e w' ⟨rfl, hq1⟩) | (go_at_call 39; refine (refuse_any _ _ _ _).mono ?_; rintro e w' ⟨rfl, rfl⟩) | (go_at_call 41; refine (to_ok ⟨id, job, day, state, hold, force, runs, tries, run, at_⟩ _ _).mono ?_; rintro e w' ⟨rfl, hq1⟩))
  rename_i hH
  have hC := chain10 hH
  have hB : Hid (Below _ _ _) := hH.2.2.2.1
  clear hH hKT
  go_wp2
  refine bodyPost_ret (v := .tuple #[(toS (refuseE (mayE ⟨id, job, day, state, hold, force, runs, tries, run, at_⟩ [0, 3]) hold 32) ⟨id, job, day, 2, hold, false, runs, 0, run, at_⟩).v, .int .i64 (refuseE (mayE ⟨id, job, day, state, hold, force, runs, tries, run, at_⟩ [0, 3]) hold 32)]) (res_state (p := 2) (q := 3) rfl (toS (refuseE (mayE ⟨id, job, day, state, hold, force, runs, tries, run, at_⟩ [0, 3]) hold 32) ⟨id, job, day, 2, hold, false, runs, 0, run, at_⟩) _ (w.heap.size + 1) _ _ rfl rfl hC) rfl ⟨?_, bw_step (bw_alloc (Below.refl _ _) _) hB⟩
  unfold jOkS jOkE
  first | rfl | simp
def jKillE (s : St) : Int := mayE s [1]
def jKillS (s : St) : St := toS (jKillE s) { s with state := 3, run := 0 }
attribute [irreducible] jKillE jKillS
set_option maxHeartbeats 4000000 in
theorem kill_any (s : St) (w : World) : Calls Try.prog 34 #[s.v] w fun e w' => e = .returned (.tuple #[(jKillS s).v, .int .i64 (jKillE s)]) ∧ Below w.heap.size w w' := by
  obtain ⟨id, job, day, state, hold, force, runs, tries, run, at_⟩ := s
  simp only [St.v]
  go_enter Try.func34, Try.ntmps34
  go_wp2_with fail
  have hKT : KT (w.alloc (.cells #[.int .i64 id, .int .i64 job, .int .i64 day, .int .i64 state, .bool hold, .bool force, .int .i64 runs, .int .i64 tries, .int .i64 run, .int .i64 at_] 35)) (w.heap.size + 1) 10 ((w.alloc (.cells #[.int .i64 id, .int .i64 job, .int .i64 day, .int .i64 state, .bool hold, .bool force, .int .i64 runs, .int .i64 tries, .int .i64 run, .int .i64 at_] 35)).alloc (.cells #[.int .i64 0, .int .i64 0, .int .i64 0, .int .i64 0, .bool false, .bool false, .int .i64 0, .int .i64 0, .int .i64 0, .int .i64 0] 35)) := kt_new' _ _ (by simp) rfl
  go_region_held3 (fun w' => KT (w.alloc (.cells #[.int .i64 id, .int .i64 job, .int .i64 day, .int .i64 state, .bool hold, .bool force, .int .i64 runs, .int .i64 tries, .int .i64 run, .int .i64 at_] 35)) (w.heap.size + 1) 10 w')
    (with_reducible (first | assumption | exact kt_set10 (by assumption) (by simp) | exact kt_drew (by assumption) | exact kt_alloc (by assumption) _ | exact kt_step (by assumption) hq1 | repeat' (first | assumption | exact kt_step (by assumption) hq1 | refine kt_drew ?_ | refine kt_alloc ?_ _ | refine kt_step ?_ hq1 | refine kt_set (by simp) ?_ _ _)))
    (first | (go_at_call 40; refine (may_any ⟨id, job, day, state, hold, force, runs, tries, run, at_⟩ [1] _ _ (by simp) (by simp) (by intro j hj; match j, hj with  | 0, _ => go_simp)).mono ?_; rintro e w' ⟨rfl, hq1⟩) | (go_at_call 39; refine (refuse_any _ _ _ _).mono ?_; rintro e w' ⟨rfl, rfl⟩) | (go_at_call 41; refine (to_kill ⟨id, job, day, state, hold, force, runs, tries, run, at_⟩ _ _).mono ?_; rintro e w' ⟨rfl, hq1⟩))
  rename_i hH
  have hC := chain10 hH
  have hB : Hid (Below _ _ _) := hH.2.2.2.1
  clear hH hKT
  go_wp2
  refine bodyPost_ret (v := .tuple #[(toS (mayE ⟨id, job, day, state, hold, force, runs, tries, run, at_⟩ [1]) ⟨id, job, day, 3, hold, force, runs, tries, 0, at_⟩).v, .int .i64 (mayE ⟨id, job, day, state, hold, force, runs, tries, run, at_⟩ [1])]) (res_state (p := 2) (q := 3) rfl (toS (mayE ⟨id, job, day, state, hold, force, runs, tries, run, at_⟩ [1]) ⟨id, job, day, 3, hold, force, runs, tries, 0, at_⟩) _ (w.heap.size + 1) _ _ rfl rfl hC) rfl ⟨?_, bw_step (bw_alloc (Below.refl _ _) _) hB⟩
  unfold jKillS jKillE
  first | rfl | simp
end Go.Proofs.Ytfefbmglimdgjaa.Own
