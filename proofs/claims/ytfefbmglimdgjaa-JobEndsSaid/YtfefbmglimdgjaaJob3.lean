/- What dayshift/job's 'to' does with each command's step, as plain functions: the call returns what its plain function says and leaves what was there. No conditions beside those in each theorem. -/
import Derived.Test.YtfefbmglimdgjaaJob2
import Derived.Test.YtfefbmglimdgjaaSt10
import Derived.Deep.RegionHeld3
import Derived.BigRegion
namespace Go.Proofs.Ytfefbmglimdgjaa.Own
open Go.RowKit
theorem res_state {fn : Func} {p q : Tmp} (hf : fn.results = #[.cell p 35, .tmp q]) (s : St) (x : Value) (g : Nat) (W : World) (tmps : Array Value) (hp : tmps.getD p undef = .pointer (some ⟨g, 0, none⟩)) (hq : tmps.getD q undef = x)
    (h : W.cell? ⟨g, 0, none⟩ = some (.int .i64 s.id) ∧ W.cell? ⟨g, 1, none⟩ = some (.int .i64 s.job) ∧ W.cell? ⟨g, 2, none⟩ = some (.int .i64 s.day) ∧ W.cell? ⟨g, 3, none⟩ = some (.int .i64 s.state) ∧ W.cell? ⟨g, 4, none⟩ = some (.bool s.hold) ∧ W.cell? ⟨g, 5, none⟩ = some (.bool s.force) ∧ W.cell? ⟨g, 6, none⟩ = some (.int .i64 s.runs) ∧ W.cell? ⟨g, 7, none⟩ = some (.int .i64 s.tries) ∧ W.cell? ⟨g, 8, none⟩ = some (.int .i64 s.run) ∧ W.cell? ⟨g, 9, none⟩ = some (.int .i64 s.at_)) : (results fn tmps).run Try.prog W = .ok (.tuple #[s.v, x]) W := by
  obtain ⟨h0, h1, h2, h3, h4, h5, h6, h7, h8, h9⟩ := h
  rw [Array.getD_eq_getD_getElem?] at hp hq
  simp [results, hf, hp, hq, go_sem, h0, h1, h2, h3, h4, h5, h6, h7, h8, h9]
def toS (why : Int) (s : St) : St := if why = 0 then s else St.zero
set_option maxHeartbeats 4000000 in
theorem to_hold (s : St) (why : Int) (w : World) : Calls Try.prog 41 #[s.v, .int .i64 why, .func (.func 56) #[] #[]] w fun e w' => e = .returned (.tuple #[(toS why { s with hold := true }).v, .int .i64 why]) ∧ Below w.heap.size w w' := by
  obtain ⟨id, job, day, state, hold, force, runs, tries, run, at_⟩ := s
  by_cases h0 : why = 0
  · subst h0
    simp only [St.v, toS, if_true]
    go_enter Try.func41, Try.ntmps41
    go_wp2
    go_end0
    go_wp2
    refine bodyPost_ret (v := .tuple #[.agg #[.int .i64 id, .int .i64 job, .int .i64 day, .int .i64 state, .bool true, .bool force, .int .i64 runs, .int .i64 tries, .int .i64 run, .int .i64 at_], .int .i64 0]) (by simp [results, Try.results41, go_sem]) rfl ⟨rfl, by repeat (with_reducible first | exact Below.refl _ _ | assumption | refine bw_step ?_ (by assumption) | refine bw_alloc ?_ _ | refine bw_drew ?_)⟩
  · have hb : (why != 0) = true := by simpa using h0
    simp only [St.v, toS, if_neg h0, St.zero]
    go_enter Try.func41, Try.ntmps41
    go_wp2
    refine bodyPost_ret (v := .tuple #[.agg #[.int .i64 0, .int .i64 0, .int .i64 0, .int .i64 0, .bool false, .bool false, .int .i64 0, .int .i64 0, .int .i64 0, .int .i64 0], .int .i64 why]) (by simp [results, Try.results41, go_sem]) rfl ⟨rfl, by repeat (with_reducible first | exact Below.refl _ _ | assumption | refine bw_step ?_ (by assumption) | refine bw_alloc ?_ _ | refine bw_drew ?_)⟩
set_option maxHeartbeats 4000000 in
theorem to_free (s : St) (why : Int) (w : World) : Calls Try.prog 41 #[s.v, .int .i64 why, .func (.func 57) #[] #[]] w fun e w' => e = .returned (.tuple #[(toS why { s with hold := false }).v, .int .i64 why]) ∧ Below w.heap.size w w' := by
  obtain ⟨id, job, day, state, hold, force, runs, tries, run, at_⟩ := s
  by_cases h0 : why = 0
  · subst h0
    simp only [St.v, toS, if_true]
    go_enter Try.func41, Try.ntmps41
    go_wp2
    go_end0
    go_wp2
    refine bodyPost_ret (v := .tuple #[.agg #[.int .i64 id, .int .i64 job, .int .i64 day, .int .i64 state, .bool false, .bool force, .int .i64 runs, .int .i64 tries, .int .i64 run, .int .i64 at_], .int .i64 0]) (by simp [results, Try.results41, go_sem]) rfl ⟨rfl, by repeat (with_reducible first | exact Below.refl _ _ | assumption | refine bw_step ?_ (by assumption) | refine bw_alloc ?_ _ | refine bw_drew ?_)⟩
  · have hb : (why != 0) = true := by simpa using h0
    simp only [St.v, toS, if_neg h0, St.zero]
    go_enter Try.func41, Try.ntmps41
    go_wp2
    refine bodyPost_ret (v := .tuple #[.agg #[.int .i64 0, .int .i64 0, .int .i64 0, .int .i64 0, .bool false, .bool false, .int .i64 0, .int .i64 0, .int .i64 0, .int .i64 0], .int .i64 why]) (by simp [results, Try.results41, go_sem]) rfl ⟨rfl, by repeat (with_reducible first | exact Below.refl _ _ | assumption | refine bw_step ?_ (by assumption) | refine bw_alloc ?_ _ | refine bw_drew ?_)⟩
set_option maxHeartbeats 4000000 in
theorem to_force (s : St) (why : Int) (w : World) : Calls Try.prog 41 #[s.v, .int .i64 why, .func (.func 58) #[] #[]] w fun e w' => e = .returned (.tuple #[(toS why { s with force := true }).v, .int .i64 why]) ∧ Below w.heap.size w w' := by
  obtain ⟨id, job, day, state, hold, force, runs, tries, run, at_⟩ := s
  by_cases h0 : why = 0
  · subst h0
    simp only [St.v, toS, if_true]
    go_enter Try.func41, Try.ntmps41
    go_wp2
    go_end0
    go_wp2
    refine bodyPost_ret (v := .tuple #[.agg #[.int .i64 id, .int .i64 job, .int .i64 day, .int .i64 state, .bool hold, .bool true, .int .i64 runs, .int .i64 tries, .int .i64 run, .int .i64 at_], .int .i64 0]) (by simp [results, Try.results41, go_sem]) rfl ⟨rfl, by repeat (with_reducible first | exact Below.refl _ _ | assumption | refine bw_step ?_ (by assumption) | refine bw_alloc ?_ _ | refine bw_drew ?_)⟩
  · have hb : (why != 0) = true := by simpa using h0
    simp only [St.v, toS, if_neg h0, St.zero]
    go_enter Try.func41, Try.ntmps41
    go_wp2
    refine bodyPost_ret (v := .tuple #[.agg #[.int .i64 0, .int .i64 0, .int .i64 0, .int .i64 0, .bool false, .bool false, .int .i64 0, .int .i64 0, .int .i64 0, .int .i64 0], .int .i64 why]) (by simp [results, Try.results41, go_sem]) rfl ⟨rfl, by repeat (with_reducible first | exact Below.refl _ _ | assumption | refine bw_step ?_ (by assumption) | refine bw_alloc ?_ _ | refine bw_drew ?_)⟩
set_option maxHeartbeats 4000000 in
theorem to_ok (s : St) (why : Int) (w : World) : Calls Try.prog 41 #[s.v, .int .i64 why, .func (.func 59) #[] #[]] w fun e w' => e = .returned (.tuple #[(toS why { s with state := 2, force := false, tries := 0 }).v, .int .i64 why]) ∧ Below w.heap.size w w' := by
  obtain ⟨id, job, day, state, hold, force, runs, tries, run, at_⟩ := s
  by_cases h0 : why = 0
  · subst h0
    simp only [St.v, toS, if_true]
    go_enter Try.func41, Try.ntmps41
    go_wp2
    go_end0
    go_wp2
    refine bodyPost_ret (v := .tuple #[.agg #[.int .i64 id, .int .i64 job, .int .i64 day, .int .i64 2, .bool hold, .bool false, .int .i64 runs, .int .i64 0, .int .i64 run, .int .i64 at_], .int .i64 0]) (by simp [results, Try.results41, go_sem]) rfl ⟨rfl, by repeat (with_reducible first | exact Below.refl _ _ | assumption | refine bw_step ?_ (by assumption) | refine bw_alloc ?_ _ | refine bw_drew ?_)⟩
  · have hb : (why != 0) = true := by simpa using h0
    simp only [St.v, toS, if_neg h0, St.zero]
    go_enter Try.func41, Try.ntmps41
    go_wp2
    refine bodyPost_ret (v := .tuple #[.agg #[.int .i64 0, .int .i64 0, .int .i64 0, .int .i64 0, .bool false, .bool false, .int .i64 0, .int .i64 0, .int .i64 0, .int .i64 0], .int .i64 why]) (by simp [results, Try.results41, go_sem]) rfl ⟨rfl, by repeat (with_reducible first | exact Below.refl _ _ | assumption | refine bw_step ?_ (by assumption) | refine bw_alloc ?_ _ | refine bw_drew ?_)⟩
set_option maxHeartbeats 4000000 in
theorem to_kill (s : St) (why : Int) (w : World) : Calls Try.prog 41 #[s.v, .int .i64 why, .func (.func 60) #[] #[]] w fun e w' => e = .returned (.tuple #[(toS why { s with state := 3, run := 0 }).v, .int .i64 why]) ∧ Below w.heap.size w w' := by
  obtain ⟨id, job, day, state, hold, force, runs, tries, run, at_⟩ := s
  by_cases h0 : why = 0
  · subst h0
    simp only [St.v, toS, if_true]
    go_enter Try.func41, Try.ntmps41
    go_wp2
    go_end0
    go_wp2
    refine bodyPost_ret (v := .tuple #[.agg #[.int .i64 id, .int .i64 job, .int .i64 day, .int .i64 3, .bool hold, .bool force, .int .i64 runs, .int .i64 tries, .int .i64 0, .int .i64 at_], .int .i64 0]) (by simp [results, Try.results41, go_sem]) rfl ⟨rfl, by repeat (with_reducible first | exact Below.refl _ _ | assumption | refine bw_step ?_ (by assumption) | refine bw_alloc ?_ _ | refine bw_drew ?_)⟩
  · have hb : (why != 0) = true := by simpa using h0
    simp only [St.v, toS, if_neg h0, St.zero]
    go_enter Try.func41, Try.ntmps41
    go_wp2
    refine bodyPost_ret (v := .tuple #[.agg #[.int .i64 0, .int .i64 0, .int .i64 0, .int .i64 0, .bool false, .bool false, .int .i64 0, .int .i64 0, .int .i64 0, .int .i64 0], .int .i64 why]) (by simp [results, Try.results41, go_sem]) rfl ⟨rfl, by repeat (with_reducible first | exact Below.refl _ _ | assumption | refine bw_step ?_ (by assumption) | refine bw_alloc ?_ _ | refine bw_drew ?_)⟩
set_option maxHeartbeats 4000000 in
theorem to_rerun (s : St) (why : Int) (bc : Nat) (c : Int) (w : World) (hbc : bc < w.heap.size) (cbc : w.cell? ⟨bc, 0, none⟩ = some (.int .i64 c)) : Calls Try.prog 41 #[s.v, .int .i64 why, .func (.func 55) #[] #[.pointer (some ⟨bc, 0, none⟩)]] w fun e w' => e = .returned (.tuple #[(toS why { s with state := 0, at_ := c, tries := 0 }).v, .int .i64 why]) ∧ Below w.heap.size w w' := by
  obtain ⟨id, job, day, state, hold, force, runs, tries, run, at_⟩ := s
  by_cases h0 : why = 0
  · subst h0
    simp only [St.v, toS, if_true]
    have nbc1 : ¬ bc = w.heap.size := by omega
    have nbc2 : bc < w.heap.size + 1 := by omega
    have nbc3 : ¬ bc = w.heap.size + 1 := by omega
    go_enter Try.func41, Try.ntmps41
    go_wp2
    go_region
    go_end0
    go_wp2
    refine bodyPost_ret (v := .tuple #[.agg #[.int .i64 id, .int .i64 job, .int .i64 day, .int .i64 0, .bool hold, .bool force, .int .i64 runs, .int .i64 0, .int .i64 run, .int .i64 c], .int .i64 0]) (by simp [results, Try.results41, go_sem]) rfl ⟨rfl, by repeat (with_reducible first | exact Below.refl _ _ | assumption | refine bw_step ?_ (by assumption) | refine bw_alloc ?_ _ | refine bw_drew ?_)⟩
  · have hb : (why != 0) = true := by simpa using h0
    simp only [St.v, toS, if_neg h0, St.zero]
    go_enter Try.func41, Try.ntmps41
    go_wp2
    refine bodyPost_ret (v := .tuple #[.agg #[.int .i64 0, .int .i64 0, .int .i64 0, .int .i64 0, .bool false, .bool false, .int .i64 0, .int .i64 0, .int .i64 0, .int .i64 0], .int .i64 why]) (by simp [results, Try.results41, go_sem]) rfl ⟨rfl, by repeat (with_reducible first | exact Below.refl _ _ | assumption | refine bw_step ?_ (by assumption) | refine bw_alloc ?_ _ | refine bw_drew ?_)⟩
set_option maxHeartbeats 4000000 in
theorem to_submit (s : St) (why : Int) (bn : Nat) (n : Int) (w : World) (hbn : bn < w.heap.size) (cbn : w.cell? ⟨bn, 0, none⟩ = some (.int .i64 n)) (hr : why = 0 → 0 ≤ s.runs ∧ s.runs ≤ 99) : Calls Try.prog 41 #[s.v, .int .i64 why, .func (.func 42) #[] #[.pointer (some ⟨bn, 0, none⟩)]] w fun e w' => e = .returned (.tuple #[(toS why { s with state := 1, force := false, runs := s.runs + 1, run := n }).v, .int .i64 why]) ∧ Below w.heap.size w w' := by
  obtain ⟨id, job, day, state, hold, force, runs, tries, run, at_⟩ := s
  by_cases h0 : why = 0
  · subst h0
    simp only [St.v, toS, if_true]
    have nbn1 : ¬ bn = w.heap.size := by omega
    have nbn2 : bn < w.heap.size + 1 := by omega
    have nbn3 : ¬ bn = w.heap.size + 1 := by omega
    obtain ⟨hr0, hr1⟩ := hr rfl
    clear hr
    dsimp only at hr0 hr1
    go_enter Try.func41, Try.ntmps41
    go_wp2
    go_region
    go_end0
    go_wp2
    refine bodyPost_ret (v := .tuple #[.agg #[.int .i64 id, .int .i64 job, .int .i64 day, .int .i64 1, .bool hold, .bool false, .int .i64 (runs + 1), .int .i64 tries, .int .i64 n, .int .i64 at_], .int .i64 0]) (by simp [results, Try.results41, go_sem]) rfl ⟨rfl, by repeat (with_reducible first | exact Below.refl _ _ | assumption | refine bw_step ?_ (by assumption) | refine bw_alloc ?_ _ | refine bw_drew ?_)⟩
  · have hb : (why != 0) = true := by simpa using h0
    simp only [St.v, toS, if_neg h0, St.zero]
    go_enter Try.func41, Try.ntmps41
    go_wp2
    refine bodyPost_ret (v := .tuple #[.agg #[.int .i64 0, .int .i64 0, .int .i64 0, .int .i64 0, .bool false, .bool false, .int .i64 0, .int .i64 0, .int .i64 0, .int .i64 0], .int .i64 why]) (by simp [results, Try.results41, go_sem]) rfl ⟨rfl, by repeat (with_reducible first | exact Below.refl _ _ | assumption | refine bw_step ?_ (by assumption) | refine bw_alloc ?_ _ | refine bw_drew ?_)⟩
attribute [irreducible] toS
end Go.Proofs.Ytfefbmglimdgjaa.Own
