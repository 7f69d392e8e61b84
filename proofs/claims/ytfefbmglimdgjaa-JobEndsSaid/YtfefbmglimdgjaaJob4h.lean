/- What dayshift/job's Hold does, as a plain function: the call returns what its plain function says and leaves what was there. No conditions beside those in each theorem. -/
import Derived.Test.YtfefbmglimdgjaaJob4
namespace Go.Proofs.Ytfefbmglimdgjaa.Own
open Go.RowKit
def jHoldE (s : St) : Int := refuseE (mayE s [0]) (s.hold || s.force) 32
def jHoldS (s : St) : St := toS (jHoldE s) { s with hold := true }
attribute [irreducible] jHoldE jHoldS
set_option linter.unusedSimpArgs false in
set_option maxHeartbeats 4000000 in
theorem hold_any (s : St) (w : World) : Calls Try.prog 24 #[s.v] w fun e w' => e = .returned (.tuple #[(jHoldS s).v, .int .i64 (jHoldE s)]) ∧ Below w.heap.size w w' := by
  obtain ⟨id, job, day, state, hold, force, runs, tries, run, at_⟩ := s
  simp only [St.v]
  cases hold
  · go_enter Try.func24, Try.ntmps24
    go_wp2_with fail
    have hKT : KT (w.alloc (.cells #[.int .i64 id, .int .i64 job, .int .i64 day, .int .i64 state, .bool false, .bool force, .int .i64 runs, .int .i64 tries, .int .i64 run, .int .i64 at_] 35)) (w.heap.size + 1) 10 ((w.alloc (.cells #[.int .i64 id, .int .i64 job, .int .i64 day, .int .i64 state, .bool false, .bool force, .int .i64 runs, .int .i64 tries, .int .i64 run, .int .i64 at_] 35)).alloc (.cells #[.int .i64 0, .int .i64 0, .int .i64 0, .int .i64 0, .bool false, .bool false, .int .i64 0, .int .i64 0, .int .i64 0, .int .i64 0] 35)) := kt_new' _ _ (by simp) rfl
    go_region_held3 (fun w' => KT (w.alloc (.cells #[.int .i64 id, .int .i64 job, .int .i64 day, .int .i64 state, .bool false, .bool force, .int .i64 runs, .int .i64 tries, .int .i64 run, .int .i64 at_] 35)) (w.heap.size + 1) 10 w')
      (with_reducible (first | assumption | exact kt_set10 (by assumption) (by simp) | exact kt_drew (by assumption) | exact kt_alloc (by assumption) _ | exact kt_step (by assumption) hq1 | repeat' (first | assumption | exact kt_step (by assumption) hq1 | refine kt_drew ?_ | refine kt_alloc ?_ _ | refine kt_step ?_ hq1 | refine kt_set (by simp) ?_ _ _)))
      (first | (go_at_call 40; refine (may_any ⟨id, job, day, state, false, force, runs, tries, run, at_⟩ [0] _ _ (by simp) (by simp) (by intro j hj; match j, hj with  | 0, _ => go_simp)).mono ?_; rintro e w' ⟨rfl, hq1⟩) | (go_at_call 39; refine (refuse_any _ _ _ _).mono ?_; rintro e w' ⟨rfl, rfl⟩) | (go_at_call 41; refine (to_hold ⟨id, job, day, state, false, force, runs, tries, run, at_⟩ _ _).mono ?_; rintro e w' ⟨rfl, hq1⟩))
    rename_i hH
    have hC := chain10 hH
    have hB : Hid (Below _ _ _) := hH.2.2.2.1
    clear hH hKT
    go_wp2
    refine bodyPost_ret (v := .tuple #[(toS (refuseE (mayE ⟨id, job, day, state, false, force, runs, tries, run, at_⟩ [0]) force 32) ⟨id, job, day, state, true, force, runs, tries, run, at_⟩).v, .int .i64 (refuseE (mayE ⟨id, job, day, state, false, force, runs, tries, run, at_⟩ [0]) force 32)]) (res_state (p := 2) (q := 3) rfl (toS (refuseE (mayE ⟨id, job, day, state, false, force, runs, tries, run, at_⟩ [0]) force 32) ⟨id, job, day, state, true, force, runs, tries, run, at_⟩) _ (w.heap.size + 1) _ _ rfl rfl hC) rfl ⟨?_, bw_step (bw_alloc (Below.refl _ _) _) hB⟩
    unfold jHoldS jHoldE
    first | rfl | simp
  · go_enter Try.func24, Try.ntmps24
    go_wp2_with fail
    have hKT : KT (w.alloc (.cells #[.int .i64 id, .int .i64 job, .int .i64 day, .int .i64 state, .bool true, .bool force, .int .i64 runs, .int .i64 tries, .int .i64 run, .int .i64 at_] 35)) (w.heap.size + 1) 10 ((w.alloc (.cells #[.int .i64 id, .int .i64 job, .int .i64 day, .int .i64 state, .bool true, .bool force, .int .i64 runs, .int .i64 tries, .int .i64 run, .int .i64 at_] 35)).alloc (.cells #[.int .i64 0, .int .i64 0, .int .i64 0, .int .i64 0, .bool false, .bool false, .int .i64 0, .int .i64 0, .int .i64 0, .int .i64 0] 35)) := kt_new' _ _ (by simp) rfl
    refine wp_region_held_drew (S := (fun w' => KT (w.alloc (.cells #[.int .i64 id, .int .i64 job, .int .i64 day, .int .i64 state, .bool true, .bool force, .int .i64 runs, .int .i64 tries, .int .i64 run, .int .i64 at_] 35)) (w.heap.size + 1) 10 w')) (by kernel_rfl) ?_ (fun hHeld => ?_)
    · ((try dsimp only); (with_reducible (first | assumption | exact kt_set10 (by assumption) (by simp) | exact kt_drew (by assumption) | exact kt_alloc (by assumption) _ | exact kt_step (by assumption) hq1 | repeat' (first | assumption | exact kt_step (by assumption) hq1 | refine kt_drew ?_ | refine kt_alloc ?_ _ | refine kt_step ?_ hq1 | refine kt_set (by simp) ?_ _ _))))
    refine wpAnyH_take (i := 0) (v := ?_) rfl (by kernel_rfl) (by kernel_rfl) (by kernel_rfl) (fun _ _ _ h => h) (Or.inl ⟨by rfl, ?_⟩) (by assumption) ?_
    rotate_left
    · (intro w hSw; (try dsimp only at hSw); go_simp); (try with_reducible rfl)
    simp only [Act.put, List.setIfInBounds_toArray, List.set_cons_zero, List.set_cons_succ, List.getElem_toArray, List.getElem_cons_zero, List.getElem_cons_succ]
    refine wpAnyH_take (i := 1) (v := ?_) rfl (by kernel_rfl) (by kernel_rfl) (by kernel_rfl) (fun _ _ _ h => h) (Or.inl ⟨by rfl, ?_⟩) (by assumption) ?_
    rotate_left
    · (intro w hSw; (try dsimp only at hSw); go_simp); (try with_reducible rfl)
    simp only [Act.put, List.setIfInBounds_toArray, List.set_cons_zero, List.set_cons_succ, List.getElem_toArray, List.getElem_cons_zero, List.getElem_cons_succ]
    refine wpAnyH_take (i := 4) (v := ?_) rfl (by kernel_rfl) (by kernel_rfl) (by kernel_rfl) (fun _ _ _ h => h) (Or.inl ⟨by rfl, ?_⟩) (by assumption) ?_
    rotate_left
    · (intro w hSw; (try dsimp only at hSw); go_simp); (try with_reducible rfl)
    simp only [Act.put, List.setIfInBounds_toArray, List.set_cons_zero, List.set_cons_succ, List.getElem_toArray, List.getElem_cons_zero, List.getElem_cons_succ]
    refine wpAnyH_take (i := 5) (v := ?_) rfl (by kernel_rfl) (by kernel_rfl) (by kernel_rfl) (fun _ _ _ h => h) (Or.inl ⟨by rfl, ?_⟩) (by assumption) ?_
    rotate_left
    · (intro w hSw; (try dsimp only at hSw); go_simp); (try with_reducible rfl)
    simp only [Act.put, List.setIfInBounds_toArray, List.set_cons_zero, List.set_cons_succ, List.getElem_toArray, List.getElem_cons_zero, List.getElem_cons_succ]
    refine wpAnyH_ready (rs := [2]) (by kernel_rfl) (by simp) ?_
    refine AllReadyH.cons rfl (fun K hK => ?_) AllReadyH.nil
    (try simp only [List.getElem_toArray, List.getElem_cons_zero, List.getElem_cons_succ])
    go_simp
    refine hK.out _ _ ?_ (fun hNew => ?_)
    · ((try dsimp only); (with_reducible (first | assumption | exact kt_set10 (by assumption) (by simp) | exact kt_drew (by assumption) | exact kt_alloc (by assumption) _ | exact kt_step (by assumption) hq1 | repeat' (first | assumption | exact kt_step (by assumption) hq1 | refine kt_drew ?_ | refine kt_alloc ?_ _ | refine kt_step ?_ hq1 | refine kt_set (by simp) ?_ _ _))))
    clear hK K hHeld; have hHeld := hNew; clear hNew
    (try (simp only [Act.put, List.setIfInBounds_toArray, List.set_cons_zero, List.set_cons_succ, List.getElem_toArray, List.getElem_cons_zero, List.getElem_cons_succ]))
    refine wpAnyH_ready (rs := [3]) (by kernel_rfl) (by simp) ?_
    refine AllReadyH.cons rfl (fun K hK => ?_) AllReadyH.nil
    (try simp only [List.getElem_toArray, List.getElem_cons_zero, List.getElem_cons_succ])
    go_simp
    (first | (go_at_call 40; refine (may_any ⟨id, job, day, state, true, force, runs, tries, run, at_⟩ [0] _ _ (by simp) (by simp) (by intro j hj; match j, hj with  | 0, _ => go_simp)).mono ?_; rintro e w' ⟨rfl, hq1⟩) | (go_at_call 39; refine (refuse_any _ _ _ _).mono ?_; rintro e w' ⟨rfl, rfl⟩) | (go_at_call 41; refine (to_hold ⟨id, job, day, state, true, force, runs, tries, run, at_⟩ _ _).mono ?_; rintro e w' ⟨rfl, hq1⟩))
    (try (go_wp2_with fail))
    refine hK.out _ _ ?_ (fun hNew => ?_)
    · ((try dsimp only); (with_reducible (first | assumption | exact kt_set10 (by assumption) (by simp) | exact kt_drew (by assumption) | exact kt_alloc (by assumption) _ | exact kt_step (by assumption) hq1 | repeat' (first | assumption | exact kt_step (by assumption) hq1 | refine kt_drew ?_ | refine kt_alloc ?_ _ | refine kt_step ?_ hq1 | refine kt_set (by simp) ?_ _ _))))
    clear hK K hHeld; have hHeld := hNew; clear hNew
    (try (simp only [Act.put, List.setIfInBounds_toArray, List.set_cons_zero, List.set_cons_succ, List.getElem_toArray, List.getElem_cons_zero, List.getElem_cons_succ]))
    refine wpAnyH_take (i := 6) (v := ?_) rfl (by kernel_rfl) (by kernel_rfl) (by kernel_rfl) (fun _ _ _ h => h) (Or.inl ⟨by rfl, ?_⟩) (by assumption) ?_
    rotate_left
    · (intro w hSw; (try dsimp only at hSw); go_simp); (try with_reducible rfl)
    simp only [Act.put, List.setIfInBounds_toArray, List.set_cons_zero, List.set_cons_succ, List.getElem_toArray, List.getElem_cons_zero, List.getElem_cons_succ]
    refine wpAnyH_take (i := 7) (v := _) rfl (by kernel_rfl) (by kernel_rfl) (by kernel_rfl) (fun _ _ _ h => h) (Or.inr ⟨by rfl, rfl⟩) (by assumption) ?_
    simp only [Act.put, List.setIfInBounds_toArray, List.set_cons_zero, List.set_cons_succ, List.getElem_toArray, List.getElem_cons_zero, List.getElem_cons_succ]
    refine wpAnyH_take (i := 8) (v := _) rfl (by kernel_rfl) (by kernel_rfl) (by kernel_rfl) (fun _ _ _ h => h) (Or.inr ⟨by rfl, rfl⟩) (by assumption) ?_
    simp only [Act.put, List.setIfInBounds_toArray, List.set_cons_zero, List.set_cons_succ, List.getElem_toArray, List.getElem_cons_zero, List.getElem_cons_succ]
    refine wpAnyH_take (i := 9) (v := ?_) rfl (by kernel_rfl) (by kernel_rfl) (by kernel_rfl) (fun _ _ _ h => h) (Or.inl ⟨by rfl, ?_⟩) (by assumption) ?_
    rotate_left
    · (intro w hSw; (try dsimp only at hSw); go_simp); (try with_reducible rfl)
    simp only [Act.put, List.setIfInBounds_toArray, List.set_cons_zero, List.set_cons_succ, List.getElem_toArray, List.getElem_cons_zero, List.getElem_cons_succ]
    refine wpAnyH_ready (rs := [10]) (by kernel_rfl) (by simp) ?_
    refine AllReadyH.cons rfl (fun K hK => ?_) AllReadyH.nil
    (try simp only [List.getElem_toArray, List.getElem_cons_zero, List.getElem_cons_succ])
    go_simp
    (first | (go_at_call 40; refine (may_any ⟨id, job, day, state, true, force, runs, tries, run, at_⟩ [0] _ _ (by simp) (by simp) (by intro j hj; match j, hj with  | 0, _ => go_simp)).mono ?_; rintro e w' ⟨rfl, hq1⟩) | (go_at_call 39; refine (refuse_any _ _ _ _).mono ?_; rintro e w' ⟨rfl, rfl⟩) | (go_at_call 41; refine (to_hold ⟨id, job, day, state, true, force, runs, tries, run, at_⟩ _ _).mono ?_; rintro e w' ⟨rfl, hq1⟩))
    (try (go_wp2_with fail))
    refine hK.out _ _ ?_ (fun hNew => ?_)
    · ((try dsimp only); (with_reducible (first | assumption | exact kt_set10 (by assumption) (by simp) | exact kt_drew (by assumption) | exact kt_alloc (by assumption) _ | exact kt_step (by assumption) hq1 | repeat' (first | assumption | exact kt_step (by assumption) hq1 | refine kt_drew ?_ | refine kt_alloc ?_ _ | refine kt_step ?_ hq1 | refine kt_set (by simp) ?_ _ _))))
    clear hK K hHeld; have hHeld := hNew; clear hNew
    (try (simp only [Act.put, List.setIfInBounds_toArray, List.set_cons_zero, List.set_cons_succ, List.getElem_toArray, List.getElem_cons_zero, List.getElem_cons_succ]))
    refine wpAnyH_ready (rs := [11]) (by kernel_rfl) (by simp) ?_
    refine AllReadyH.cons rfl (fun K hK => ?_) AllReadyH.nil
    (try simp only [List.getElem_toArray, List.getElem_cons_zero, List.getElem_cons_succ])
    go_simp
    (first | (go_at_call 40; refine (may_any ⟨id, job, day, state, true, force, runs, tries, run, at_⟩ [0] _ _ (by simp) (by simp) (by intro j hj; match j, hj with  | 0, _ => go_simp)).mono ?_; rintro e w' ⟨rfl, hq1⟩) | (go_at_call 39; refine (refuse_any _ _ _ _).mono ?_; rintro e w' ⟨rfl, rfl⟩) | (go_at_call 41; refine (to_hold ⟨id, job, day, state, true, force, runs, tries, run, at_⟩ _ _).mono ?_; rintro e w' ⟨rfl, hq1⟩))
    (try (go_wp2_with fail))
    refine hK.out _ _ ?_ (fun hNew => ?_)
    · ((try dsimp only); (with_reducible (first | assumption | exact kt_set10 (by assumption) (by simp) | exact kt_drew (by assumption) | exact kt_alloc (by assumption) _ | exact kt_step (by assumption) hq1 | repeat' (first | assumption | exact kt_step (by assumption) hq1 | refine kt_drew ?_ | refine kt_alloc ?_ _ | refine kt_step ?_ hq1 | refine kt_set (by simp) ?_ _ _))))
    clear hK K hHeld; have hHeld := hNew; clear hNew
    (try (simp only [Act.put, List.setIfInBounds_toArray, List.set_cons_zero, List.set_cons_succ, List.getElem_toArray, List.getElem_cons_zero, List.getElem_cons_succ]))
    refine wpAnyH_take (i := 12) (v := ?_) rfl (by kernel_rfl) (by kernel_rfl) (by kernel_rfl) (fun _ _ _ h => h) (Or.inl ⟨by rfl, ?_⟩) (by assumption) ?_
    rotate_left
    · (intro w hSw; (try dsimp only at hSw); go_simp); (try with_reducible rfl)
    simp only [Act.put, List.setIfInBounds_toArray, List.set_cons_zero, List.set_cons_succ, List.getElem_toArray, List.getElem_cons_zero, List.getElem_cons_succ]
    refine wpAnyH_take (i := 13) (v := ?_) rfl (by kernel_rfl) (by kernel_rfl) (by kernel_rfl) (fun _ _ _ h => h) (Or.inl ⟨by rfl, ?_⟩) (by assumption) ?_
    rotate_left
    · (intro w hSw; (try dsimp only at hSw); go_simp); (try with_reducible rfl)
    simp only [Act.put, List.setIfInBounds_toArray, List.set_cons_zero, List.set_cons_succ, List.getElem_toArray, List.getElem_cons_zero, List.getElem_cons_succ]
    refine wpAnyH_ready (rs := [14]) (by kernel_rfl) (by simp) ?_
    refine AllReadyH.cons rfl (fun K hK => ?_) AllReadyH.nil
    (try simp only [List.getElem_toArray, List.getElem_cons_zero, List.getElem_cons_succ])
    go_simp
    refine hK.out _ _ ?_ (fun hNew => ?_)
    · ((try dsimp only); (with_reducible (first | assumption | exact kt_set10 (by assumption) (by simp) | exact kt_drew (by assumption) | exact kt_alloc (by assumption) _ | exact kt_step (by assumption) hq1 | repeat' (first | assumption | exact kt_step (by assumption) hq1 | refine kt_drew ?_ | refine kt_alloc ?_ _ | refine kt_step ?_ hq1 | refine kt_set (by simp) ?_ _ _))))
    clear hK K hHeld; have hHeld := hNew; clear hNew
    (try (simp only [Act.put, List.setIfInBounds_toArray, List.set_cons_zero, List.set_cons_succ, List.getElem_toArray, List.getElem_cons_zero, List.getElem_cons_succ]))
    refine wpAnyH_take (i := 15) (v := ?_) rfl (by kernel_rfl) (by kernel_rfl) (by kernel_rfl) (fun _ _ _ h => h) (Or.inl ⟨by rfl, ?_⟩) (by assumption) ?_
    rotate_left
    · (intro w hSw; (try dsimp only at hSw); go_simp); (try with_reducible rfl)
    simp only [Act.put, List.setIfInBounds_toArray, List.set_cons_zero, List.set_cons_succ, List.getElem_toArray, List.getElem_cons_zero, List.getElem_cons_succ]
    refine wpAnyH_done (by kernel_rfl) ?_ _
    have hH := hHeld; clear hHeld
    have hC := chain10 hH
    have hB : Hid (Below _ _ _) := hH.2.2.2.1
    clear hH hKT
    go_wp2
    refine bodyPost_ret (v := .tuple #[(toS (refuseE (mayE ⟨id, job, day, state, true, force, runs, tries, run, at_⟩ [0]) true 32) ⟨id, job, day, state, true, force, runs, tries, run, at_⟩).v, .int .i64 (refuseE (mayE ⟨id, job, day, state, true, force, runs, tries, run, at_⟩ [0]) true 32)]) (res_state (p := 2) (q := 3) rfl (toS (refuseE (mayE ⟨id, job, day, state, true, force, runs, tries, run, at_⟩ [0]) true 32) ⟨id, job, day, state, true, force, runs, tries, run, at_⟩) _ (w.heap.size + 1) _ _ rfl rfl hC) rfl ⟨?_, bw_step (bw_alloc (Below.refl _ _) _) hB⟩
    unfold jHoldS jHoldE
    first | rfl | simp
end Go.Proofs.Ytfefbmglimdgjaa.Own
