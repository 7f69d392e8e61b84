/- What dayshift/job's Done does with a definition of which only every, runs and retry are set, as a plain function: the call returns what its plain function says and leaves what was there. No conditions beside those in each theorem. -/
import Derived.Test.YtfefbmglimdgjaaJob6
namespace Go.Proofs.Ytfefbmglimdgjaa.Own
open Go.RowKit

/-- A definition of which only every, runs and retry are set. -/
abbrev defV (every dr retry : Int) : Value := .agg #[(.string ⟨#[]⟩), (.int .i64 0), (.slice none 0 0), (.slice none 0 0), (.string ⟨#[]⟩), (.bool false), (.int .i64 0), (.int .i64 0), (.slice none 0 0), (.slice none 0 0), (.string ⟨#[]⟩), (.int .i64 0), (.int .i64 0), (.int .i64 0), (.string ⟨#[]⟩), (.int .i64 0), (.slice none 0 0), (.slice none 0 0), (.slice none 0 0), (.int .i64 0), (.int .i64 0), (.int .i64 every), (.int .i64 dr), (.int .i64 retry)]
def jDoneE (s : St) (c : Int) : Int := timedE s c [1]
def jDoneS (s : St) (code every dr retry c : Int) : St := toS (jDoneE s c) (doneN s code every dr retry c)
theorem timed_zero {s : St} {c : Int} {xs : List Int} (h : timedE s c xs = 0) : 0 ≤ s.tries ∧ s.tries ≤ 99 ∧ 0 ≤ c ∧ c ≤ 5258966399 := by
  unfold timedE at h
  by_cases hr : rightB s = true
  · by_cases hc : 0 ≤ c ∧ c ≤ 5258966399
    · unfold rightB at hr
      simp only [decide_eq_true_eq] at hr
      omega
    · rw [if_pos ⟨hr, hc⟩] at h; cases h
  · rw [if_neg (fun h => hr h.1)] at h
    unfold mayE at h
    rw [if_neg hr] at h
    cases h
set_option maxHeartbeats 4000000 in
set_option maxRecDepth 100000 in
theorem done_any (s : St) (every dr retry code c : Int) (w : World) : Calls Try.prog 13 #[s.v, defV every dr retry, .int .i64 code, .int .i64 c] w fun e w' => e = .returned (.tuple #[(jDoneS s code every dr retry c).v, .int .i64 (jDoneE s c)]) ∧ Below w.heap.size w w' := by
  obtain ⟨id, job, day, state, hold, force, runs, tries, run, at_⟩ := s
  have HR : Hid ((timedE ⟨id, job, day, state, hold, force, runs, tries, run, at_⟩ c [1]) = 0 → 0 ≤ tries ∧ tries ≤ 99 ∧ 0 ≤ c ∧ c ≤ 5258966399) := fun h => timed_zero (s := ⟨id, job, day, state, hold, force, runs, tries, run, at_⟩) h
  simp only [St.v, defV]
  go_enter Try.func13, Try.ntmps13
  go_wp2_with fail
  have hKT : KT ((((w.alloc (.cells #[.int .i64 id, .int .i64 job, .int .i64 day, .int .i64 state, .bool hold, .bool force, .int .i64 runs, .int .i64 tries, .int .i64 run, .int .i64 at_] 35)).alloc (.cells #[(.string ⟨#[]⟩), (.int .i64 0), (.slice none 0 0), (.slice none 0 0), (.string ⟨#[]⟩), (.bool false), (.int .i64 0), (.int .i64 0), (.slice none 0 0), (.slice none 0 0), (.string ⟨#[]⟩), (.int .i64 0), (.int .i64 0), (.int .i64 0), (.string ⟨#[]⟩), (.int .i64 0), (.slice none 0 0), (.slice none 0 0), (.slice none 0 0), (.int .i64 0), (.int .i64 0), (.int .i64 every), (.int .i64 dr), (.int .i64 retry)] 51)).alloc (.cells #[.int .i64 code] 2)).alloc (.cells #[.int .i64 c] 2)) (w.heap.size + 4) 10 (((((w.alloc (.cells #[.int .i64 id, .int .i64 job, .int .i64 day, .int .i64 state, .bool hold, .bool force, .int .i64 runs, .int .i64 tries, .int .i64 run, .int .i64 at_] 35)).alloc (.cells #[(.string ⟨#[]⟩), (.int .i64 0), (.slice none 0 0), (.slice none 0 0), (.string ⟨#[]⟩), (.bool false), (.int .i64 0), (.int .i64 0), (.slice none 0 0), (.slice none 0 0), (.string ⟨#[]⟩), (.int .i64 0), (.int .i64 0), (.int .i64 0), (.string ⟨#[]⟩), (.int .i64 0), (.slice none 0 0), (.slice none 0 0), (.slice none 0 0), (.int .i64 0), (.int .i64 0), (.int .i64 every), (.int .i64 dr), (.int .i64 retry)] 51)).alloc (.cells #[.int .i64 code] 2)).alloc (.cells #[.int .i64 c] 2)).alloc (.cells #[.int .i64 0, .int .i64 0, .int .i64 0, .int .i64 0, .bool false, .bool false, .int .i64 0, .int .i64 0, .int .i64 0, .int .i64 0] 35)) := kt_new' _ _ (by simp) rfl
  go_region_held3 (fun w' => KT ((((w.alloc (.cells #[.int .i64 id, .int .i64 job, .int .i64 day, .int .i64 state, .bool hold, .bool force, .int .i64 runs, .int .i64 tries, .int .i64 run, .int .i64 at_] 35)).alloc (.cells #[(.string ⟨#[]⟩), (.int .i64 0), (.slice none 0 0), (.slice none 0 0), (.string ⟨#[]⟩), (.bool false), (.int .i64 0), (.int .i64 0), (.slice none 0 0), (.slice none 0 0), (.string ⟨#[]⟩), (.int .i64 0), (.int .i64 0), (.int .i64 0), (.string ⟨#[]⟩), (.int .i64 0), (.slice none 0 0), (.slice none 0 0), (.slice none 0 0), (.int .i64 0), (.int .i64 0), (.int .i64 every), (.int .i64 dr), (.int .i64 retry)] 51)).alloc (.cells #[.int .i64 code] 2)).alloc (.cells #[.int .i64 c] 2)) (w.heap.size + 4) 10 w')
    (with_reducible (first | assumption | exact kt_set10 (by assumption) (by simp) | exact kt_drew (by assumption) | exact kt_alloc (by assumption) _ | exact kt_step (by assumption) hq1 | repeat' (first | assumption | exact kt_step (by assumption) hq1 | refine kt_drew ?_ | refine kt_alloc ?_ _ | refine kt_step ?_ hq1 | refine kt_set (by simp) ?_ _ _)))
    (first | (go_at_call 44; refine (timed_any ⟨id, job, day, state, hold, force, runs, tries, run, at_⟩ c [1] _ _ (by simp) (by simp) (by intro j hj; match j, hj with | 0, _ => go_simp)).mono ?_; rintro e w' ⟨rfl, hq1⟩) | (go_at_call 41; have hS9 : KT ((((w.alloc (.cells #[.int .i64 id, .int .i64 job, .int .i64 day, .int .i64 state, .bool hold, .bool force, .int .i64 runs, .int .i64 tries, .int .i64 run, .int .i64 at_] 35)).alloc (.cells #[(.string ⟨#[]⟩), (.int .i64 0), (.slice none 0 0), (.slice none 0 0), (.string ⟨#[]⟩), (.bool false), (.int .i64 0), (.int .i64 0), (.slice none 0 0), (.slice none 0 0), (.string ⟨#[]⟩), (.int .i64 0), (.int .i64 0), (.int .i64 0), (.string ⟨#[]⟩), (.int .i64 0), (.slice none 0 0), (.slice none 0 0), (.slice none 0 0), (.int .i64 0), (.int .i64 0), (.int .i64 every), (.int .i64 dr), (.int .i64 retry)] 51)).alloc (.cells #[.int .i64 code] 2)).alloc (.cells #[.int .i64 c] 2)) (w.heap.size + 4) 10 _ := (by assumption); have k1 := hS9.1; have k3 := hS9.2.2.1; refine (to_done ⟨id, job, day, state, hold, force, runs, tries, run, at_⟩ _ code every dr retry c (w.heap.size + 2) (w.heap.size + 1) (w.heap.size + 3) _ (k3 _ (by simp)) (k3 _ (by simp)) (k3 _ (by simp)) ((k1 _ _ (by simp)).trans (by go_simp)) ((k1 _ _ (by simp)).trans (by go_simp)) ((k1 _ _ (by simp)).trans (by go_simp)) ((k1 _ _ (by simp)).trans (by go_simp)) ((k1 _ _ (by simp)).trans (by go_simp)) HR).mono ?_; rintro e w' ⟨rfl, hq1⟩))
  all_goals (
    rename_i hH
    have hC := chain10 hH
    have hB : Hid (Below _ _ _) := hH.2.2.2.1
    clear hH hKT
    go_wp2
    refine bodyPost_ret (v := .tuple #[(toS (timedE ⟨id, job, day, state, hold, force, runs, tries, run, at_⟩ c [1]) (doneN ⟨id, job, day, state, hold, force, runs, tries, run, at_⟩ code every dr retry c)).v, .int .i64 (timedE ⟨id, job, day, state, hold, force, runs, tries, run, at_⟩ c [1])]) (res_state (p := 8) (q := 9) rfl (toS (timedE ⟨id, job, day, state, hold, force, runs, tries, run, at_⟩ c [1]) (doneN ⟨id, job, day, state, hold, force, runs, tries, run, at_⟩ code every dr retry c)) _ (w.heap.size + 4) _ _ rfl rfl hC) rfl ⟨?_, bw_step (bw_alloc (bw_alloc (bw_alloc (bw_alloc (Below.refl _ _) _) _) _) _) hB⟩
    unfold jDoneS jDoneE
    rfl)
end Go.Proofs.Ytfefbmglimdgjaa.Own
