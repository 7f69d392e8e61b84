/- The states of dayshift/job as rows that are one list, and what the law's package does with them. No conditions beside those in each theorem. -/
import Derived.Test.YtfefbmglimdgjaaJob8
import Derived.Test.YtfefbmglimdgjaaJob4h
import Derived.Test.YtfefbmglimdgjaaJob5
import Derived.Test.YtfefbmglimdgjaaJob7
import Derived.Test.YtfefbmglimdgjaaRw
import Derived.RowKitTokens
namespace Go.Proofs.Ytfefbmglimdgjaa.Own
open Go.RowKit
def St.l (s : St) : List Value := [.int .i64 s.id, .int .i64 s.job, .int .i64 s.day, .int .i64 s.state, .bool s.hold, .bool s.force, .int .i64 s.runs, .int .i64 s.tries, .int .i64 s.run, .int .i64 s.at_]
def stZ : List Value := [.int .i64 0, .int .i64 0, .int .i64 0, .int .i64 0, .bool false, .bool false, .int .i64 0, .int .i64 0, .int .i64 0, .int .i64 0]
theorem stZ_zero : (Try.prog.info? 35).map (fun i => (i.zero, i.size)) = some (some (.agg stZ.toArray), 10) := by kernel_rfl
theorem stZ_zeroR : (Try.prog.info? 23).map (fun i => (i.zero, i.size)) = some (some (.agg stZ.toArray), 10) := by kernel_rfl
theorem st_size (s : St) : (Try.prog.info? 35).map (·.size) = some s.l.length := by
  have h : (Try.prog.info? 35).map (·.size) = some 10 := by kernel_rfl
  rw [h]; simp [St.l]
theorem st_sizeR (s : St) : (Try.prog.info? 23).map (·.size) = some s.l.length := by
  have h : (Try.prog.info? 23).map (·.size) = some 10 := by kernel_rfl
  rw [h]; simp [St.l]
theorem stZ_len (s : St) : stZ.length = s.l.length := by simp [stZ, St.l]
theorem st_one (s : St) : ∀ v ∈ s.l, v.oneCell' = true := by simp [St.l, Value.oneCell']
theorem row_under : Try.prog.underlying 35 = some (.struct (match Try.prog.underlying 35 with | some (.struct f) => f | _ => #[])) := by kernel_rfl
theorem row_underR : Try.prog.underlying 23 = some (.struct (match Try.prog.underlying 23 with | some (.struct f) => f | _ => #[])) := by kernel_rfl
theorem given_r (s : St) (w : World) : Calls Try.prog 11 #[.agg s.l.toArray] w fun e w' => e = .returned (.agg s.l.toArray) ∧ Below w.heap.size w w' := by
  obtain ⟨id, job, day, state, hold, force, runs, tries, run, at_⟩ := s
  simp only [St.l]
  go_enter Try.func11, Try.ntmps11
  go_wp2
  exact bodyPost_ret (res_row (p := 2) rfl _ _ (w.heap.size + 1) [.int .i64 id, .int .i64 job, .int .i64 day, .int .i64 state, .bool hold, .bool force, .int .i64 runs, .int .i64 tries, .int .i64 run, .int .i64 at_] _ rfl (range_new' _ _ (by simp)) row_under rfl (by kernel_rfl)) rfl ⟨rfl, by repeat (with_reducible first | exact Below.refl _ _ | assumption | refine bw_step ?_ (by assumption) | refine bw_alloc ?_ _ | refine bw_drew ?_)⟩
theorem taken_r (s : St) (w : World) : Calls Try.prog 15 #[.agg s.l.toArray] w fun e w' => e = .returned (.agg s.l.toArray) ∧ Below w.heap.size w w' := by
  obtain ⟨id, job, day, state, hold, force, runs, tries, run, at_⟩ := s
  simp only [St.l]
  go_enter Try.func15, Try.ntmps15
  go_wp2
  exact bodyPost_ret (res_row (p := 2) rfl _ _ (w.heap.size + 1) [.int .i64 id, .int .i64 job, .int .i64 day, .int .i64 state, .bool hold, .bool force, .int .i64 runs, .int .i64 tries, .int .i64 run, .int .i64 at_] _ rfl (range_new' _ _ (by simp)) row_underR rfl (by kernel_rfl)) rfl ⟨rfl, by repeat (with_reducible first | exact Below.refl _ _ | assumption | refine bw_step ?_ (by assumption) | refine bw_alloc ?_ _ | refine bw_drew ?_)⟩
theorem delete_r (s : St) (w : World) : Calls Try.prog 36 #[.agg s.l.toArray] w fun e w' => e = .returned (.int .i64 (jDelE s)) ∧ Below w.heap.size w w' := delete_any s w
theorem over_r (s : St) (w : World) : Calls Try.prog 21 #[.agg s.l.toArray] w fun e w' => e = .returned (.bool (jOverB s)) ∧ Below w.heap.size w w' := over_any s w
theorem right_r (s : St) (w : World) : Calls Try.prog 16 #[.agg s.l.toArray] w fun e w' => e = .returned (.bool (rightB s)) ∧ Below w.heap.size w w' := right_any s w
theorem hold_r (s : St) (w : World) : Calls Try.prog 24 #[.agg s.l.toArray] w fun e w' => e = .returned (.tuple #[.agg (jHoldS s).l.toArray, .int .i64 (jHoldE s)]) ∧ Below w.heap.size w w' := hold_any s w
theorem free_r (s : St) (w : World) : Calls Try.prog 25 #[.agg s.l.toArray] w fun e w' => e = .returned (.tuple #[.agg (jFreeS s).l.toArray, .int .i64 (jFreeE s)]) ∧ Below w.heap.size w w' := free_any s w
theorem force_r (s : St) (w : World) : Calls Try.prog 26 #[.agg s.l.toArray] w fun e w' => e = .returned (.tuple #[.agg (jForceS s).l.toArray, .int .i64 (jForceE s)]) ∧ Below w.heap.size w w' := force_any s w
theorem ok_r (s : St) (w : World) : Calls Try.prog 27 #[.agg s.l.toArray] w fun e w' => e = .returned (.tuple #[.agg (jOkS s).l.toArray, .int .i64 (jOkE s)]) ∧ Below w.heap.size w w' := ok_any s w
theorem kill_r (s : St) (w : World) : Calls Try.prog 34 #[.agg s.l.toArray] w fun e w' => e = .returned (.tuple #[.agg (jKillS s).l.toArray, .int .i64 (jKillE s)]) ∧ Below w.heap.size w w' := kill_any s w
theorem rerun_r (s : St) (c : Int) (w : World) : Calls Try.prog 23 #[.agg s.l.toArray, .int .i64 c] w fun e w' => e = .returned (.tuple #[.agg (jRerunS s c).l.toArray, .int .i64 (jRerunE s c)]) ∧ Below w.heap.size w w' := rerun_any s c w
theorem submit_r (s : St) (n : Int) (w : World) : Calls Try.prog 10 #[.agg s.l.toArray, .int .i64 n] w fun e w' => e = .returned (.tuple #[.agg (jSubmitS s n).l.toArray, .int .i64 (jSubmitE s n)]) ∧ Below w.heap.size w w' := submit_any s n w
theorem done_r (s : St) (every dr retry code c : Int) (w : World) : Calls Try.prog 13 #[.agg s.l.toArray, defV every dr retry, .int .i64 code, .int .i64 c] w fun e w' => e = .returned (.tuple #[.agg (jDoneS s code every dr retry c).l.toArray, .int .i64 (jDoneE s c)]) ∧ Below w.heap.size w w' := done_any s every dr retry code c w
/-- The cell number j of a state. -/
def St.c (s : St) (j : Nat) : Value := (s.l[j]?).getD undef
abbrev St.cs (s : St) : Value := .agg #[s.c 0, s.c 1, s.c 2, s.c 3, s.c 4, s.c 5, s.c 6, s.c 7, s.c 8, s.c 9]
theorem taken_c (s : St) (w : World) : Calls Try.prog 15 #[s.cs] w fun e w' => e = .returned s.cs ∧ Below w.heap.size w w' := taken_r s w
theorem given_c (s : St) (w : World) : Calls Try.prog 11 #[s.cs] w fun e w' => e = .returned s.cs ∧ Below w.heap.size w w' := given_r s w
theorem range_c {W : World} {b : Nat} {s : St} (h : W.rangeAt b 0 s.l) : ∀ j, j < 10 → W.cell? ⟨b, j, none⟩ = some (s.c j) := fun j hj => by
  refine range_cell h j _ ?_
  unfold St.c St.l
  rw [List.getElem?_eq_getElem (by simpa using hj)]
  rfl
theorem row_eql (s : St) (W : World) : (binOp .eql 23 s.cs s.cs).run Try.prog W = .ok (.bool true) W := by
  show (binOp .eql 23 (.agg #[.int .i64 s.id, .int .i64 s.job, .int .i64 s.day, .int .i64 s.state, .bool s.hold, .bool s.force, .int .i64 s.runs, .int .i64 s.tries, .int .i64 s.run, .int .i64 s.at_]) (.agg #[.int .i64 s.id, .int .i64 s.job, .int .i64 s.day, .int .i64 s.state, .bool s.hold, .bool s.force, .int .i64 s.runs, .int .i64 s.tries, .int .i64 s.run, .int .i64 s.at_])).run Try.prog W = _
  go_simp
attribute [irreducible] St.l stZ St.c
end Go.Proofs.Ytfefbmglimdgjaa.Own
