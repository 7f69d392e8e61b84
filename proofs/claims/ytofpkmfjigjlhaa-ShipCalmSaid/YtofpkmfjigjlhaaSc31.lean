/- The script of a play, that comes in. No conditions beside those in the lemmas. -/
import Derived.Test.YtofpkmfjigjlhaaBe31
import Derived.Test.YtofpkmfjigjlhaaOp
namespace Go.Proofs.Ytofpkmfjigjlhaa.Own
open Go.RowKit Go.WideShapes Go.ChangeShapes Go.Deep
set_option linter.unusedSimpArgs false
set_option linter.unusedVariables false
/-- A step of the script, at its place. -/
structure StAt (W : World) (A : Addr) (i : Nat) (x : Int × Int × Int) : Prop where
  c0 : W.cell? (A.add (i * 3)) = some (.int .i64 x.1)
  c1 : W.cell? (A.add (i * 3 + 1)) = some (.int .i64 x.2.1)
  c2 : W.cell? (A.add (i * 3 + 2)) = some (.int .i64 x.2.2)
  w1 : (Lit.int .i64 x.2.1).wf = true
  w2 : (Lit.int .i64 x.2.2).wf = true
def SCR (W : World) (co : Option Addr) (len : Nat) : Prop := ∃ xs : List (Int × Int × Int), xs.length = len ∧ len ≤ 9223372036854775807 ∧ ∀ (j : Nat) (x : Int × Int × Int), xs[j]? = some x → ∃ A : Addr, co = some A ∧ StAt W A j x
theorem open_steps {H : Type} {enc : TypeId × Value → H} {W : World} {co : Option Addr} {len cap : Nat} {d : DataW H} {p : List MemPlace}
    (h : DataW.Trod enc Try.prog W 0 (fun _ => true) true 22 (.slice co len cap) d p) (hw : ∀ q ∈ d.weights Try.prog 22, q ≤ 140737488351232) : SCR W co len := by
  obtain ⟨fuel, hf⟩ := h
  obtain ⟨hlen, _, hi⟩ := open_fieldsW Try.underlying22 Try.underlying28 (by kernel_rfl) (by kernel_rfl) hf hw
  have hone : ∀ i, i < len → ∃ x : Int × Int × Int, ∃ A : Addr, co = some A ∧ StAt W A i x := by
    intro i hil
    obtain ⟨A, hA, hf0⟩ := hi i hil
    obtain ⟨n0, v0, y0, e0, t0, _⟩ := hf0 0 _ rfl
    obtain ⟨n1, v1, y1, e1, t1, _⟩ := hf0 1 _ rfl
    obtain ⟨n2, v2, y2, e2, t2, _⟩ := hf0 2 _ rfl
    obtain ⟨z0, rfl, _⟩ := open_intW Try.underlying3 t0
    obtain ⟨z1, rfl, b1⟩ := open_intW Try.underlying3 t1
    obtain ⟨z2, rfl, b2⟩ := open_intW Try.underlying3 t2
    exact ⟨(z0, z1, z2), A, hA, ⟨e0, e1, e2, b1, b2⟩⟩
  obtain ⟨xs, hx, hx2⟩ := list_of len hone
  exact ⟨xs, hx, by unfold maxLen at hlen; omega, hx2⟩
end Go.Proofs.Ytofpkmfjigjlhaa.Own
