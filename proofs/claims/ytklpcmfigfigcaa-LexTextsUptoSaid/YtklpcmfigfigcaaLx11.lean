/- dayshift/lex's rest, token and Fold as plain functions. No conditions beside those in each theorem. -/
import Derived.Test.YtklpcmfigfigcaaLx10
import Derived.Sort.Row
namespace Go.Proofs.Ytklpcmfigfigcaa.Own
set_option linter.unusedVariables false
set_option linter.unusedSimpArgs false
open Go.RowKit Go.Sort Go.Proofs.YtklpcmfigfigcaaW.PrintWords
theorem ss_same (w : World) (blk off : Nat) (v v' : Value) : (w.setCell ⟨blk, off, none⟩ v).setCell ⟨blk, off, none⟩ v' = w.setCell ⟨blk, off, none⟩ v' := by
  rw [setCell_eq, setCell_eq, mapBlock_mapBlock, setCell_eq]
  congr 1
  funext c
  simp
theorem dd_cell (W : World) (g : Nat) (x : Value) (h : W.cell? ⟨g, 3, none⟩ = some x) (v0 v1 v2 v3 v4 : Value) : (((((W.setCell ⟨g, 0, none⟩ v0).setCell ⟨g, 1, none⟩ v1).setCell ⟨g, 2, none⟩ v2).setCell ⟨g, 3, none⟩ v3).setCell ⟨g, 3, none⟩ v4).cell? ⟨g, 3, none⟩ = some v4 := by
  have h1 : (((W.setCell ⟨g, 0, none⟩ v0).setCell ⟨g, 1, none⟩ v1).setCell ⟨g, 2, none⟩ v2).cell? ⟨g, 3, none⟩ = some x := by
    rw [World.cell?_setCell_other (h := by intro e; injection e with _ e _; omega), World.cell?_setCell_other (h := by intro e; injection e with _ e _; omega), World.cell?_setCell_other (h := by intro e; injection e with _ e _; omega), h]
  rw [ss_same]
  exact World.cell?_setCell_same _ _ _ h1
def lex_rest.f (a0 : ByteArray) : Option Int := if a0.size ≤ 100000 then some ((restF (bytesOf a0) : Nat) : Int) else none
theorem lex_rest.calls (a0 : ByteArray) (r : Int) (w : World) (h : lex_rest.f a0 = some r) :
    Calls Try.prog 19 #[.string a0] w fun e w' => e = .returned (.int .i64 r) ∧ Below w.heap.size w w' := by
  unfold lex_rest.f at h
  split at h
  · injection h with h
    subst h
    exact rest_k a0 (by omega) w
  · cases h
def lex_token.f (a0 : ByteArray) : Option (Int × ByteArray × Int × Int × Bool) := if 0 < a0.size ∧ a0.size ≤ 100000 then some ((tokR (bytesOf a0)).1, strOfNums (tokR (bytesOf a0)).2.1, (tokR (bytesOf a0)).2.2.1, 0, (tokR (bytesOf a0)).2.2.2) else none
theorem lex_token.calls (a0 : ByteArray) (r1 : Int) (r2 : ByteArray) (r3 : Int) (r4 : Int) (r5 : Bool) (w : World) (h : lex_token.f a0 = some (r1, r2, r3, r4, r5)) :
    Calls Try.prog 20 #[.string a0] w fun e w' => e = .returned (.tuple #[.agg #[.int .i64 r1, .string r2, .int .i64 r3, .int .i64 r4], .bool r5]) ∧ Below w.heap.size w w' := by
  unfold lex_token.f at h
  split at h
  · rename_i h0
    simp only [Option.some.injEq, Prod.mk.injEq] at h
    obtain ⟨rfl, rfl, rfl, rfl, rfl⟩ := h
    exact token_k a0 h0.2 h0.1 w
  · cases h
def lex_Fold.f (a0 : ByteArray) : Option ByteArray := if a0.size ≤ 9223372036854775807 then some (strOfNums ((bytesOf a0).map foldC)) else none
theorem lex_Fold.calls (a0 : ByteArray) (r : ByteArray) (w : World) (h : lex_Fold.f a0 = some r) :
    Calls Try.prog 10 #[.string a0] w fun e w' => e = .returned (.string r) ∧ Below w.heap.size w w' := by
  unfold lex_Fold.f at h
  split at h
  · rename_i h0
    injection h with h
    subst h
    exact fold_k a0 h0 w
  · cases h
end Go.Proofs.Ytklpcmfigfigcaa.Own
