/- A definition of which only every, runs and retry are set, as one list; the cells of a state. No conditions beside those in each theorem. -/
import Derived.Test.YtfefbmglimdgjaaKn
import Derived.Test.YtfefbmglimdgjaaRow17
namespace Go.Proofs.Ytfefbmglimdgjaa.Own
open Go.RowKit
def dL (every dr retry : Int) : List Value := [.string ⟨#[]⟩, .int .i64 0, .slice none 0 0, .slice none 0 0, .string ⟨#[]⟩, .bool false, .int .i64 0, .int .i64 0, .slice none 0 0, .slice none 0 0, .string ⟨#[]⟩, .int .i64 0, .int .i64 0, .int .i64 0, .string ⟨#[]⟩, .int .i64 0, .slice none 0 0, .slice none 0 0, .slice none 0 0, .int .i64 0, .int .i64 0, .int .i64 every, .int .i64 dr, .int .i64 retry]
theorem done_d (s : St) (every dr retry code c : Int) (w : World) : Calls Try.prog 13 #[.agg s.l.toArray, .agg (dL every dr retry).toArray, .int .i64 code, .int .i64 c] w fun e w' => e = .returned (.tuple #[.agg (jDoneS s code every dr retry c).l.toArray, .int .i64 (jDoneE s c)]) ∧ Below w.heap.size w w' := by
  unfold dL; exact done_r s every dr retry code c w
attribute [irreducible] dL
theorem c0 (s : St) : s.l[0]? = some (.int .i64 s.id) := by unfold St.l; rfl
theorem c1 (s : St) : s.l[1]? = some (.int .i64 s.job) := by unfold St.l; rfl
theorem c2 (s : St) : s.l[2]? = some (.int .i64 s.day) := by unfold St.l; rfl
theorem c3 (s : St) : s.l[3]? = some (.int .i64 s.state) := by unfold St.l; rfl
theorem c6 (s : St) : s.l[6]? = some (.int .i64 s.runs) := by unfold St.l; rfl
theorem c8 (s : St) : s.l[8]? = some (.int .i64 s.run) := by unfold St.l; rfl
theorem dL_one (a b c : Int) : ∀ v ∈ dL a b c, v.oneCell' = true := by unfold dL; simp [Value.oneCell']
theorem dL_size (a b c : Int) : (Try.prog.info? 51).map (·.size) = some (dL a b c).length := by
  have h : (Try.prog.info? 51).map (·.size) = some 24 := by kernel_rfl
  rw [h]; unfold dL; rfl
theorem dL_len (a b c : Int) : dZ.length = (dL a b c).length := by
  have h : dZ.length = 24 := by kernel_rfl
  rw [h]; unfold dL; rfl
end Go.Proofs.Ytfefbmglimdgjaa.Own
