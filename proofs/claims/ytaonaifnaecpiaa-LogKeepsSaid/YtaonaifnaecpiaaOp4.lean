/- Bytes that come in, opened with their sizes. No conditions beside those in the lemmas. -/
import Derived.Test.YtaonaifnaecpiaaOp
import Derived.Test.YtaonaifnaecpiaaMC
namespace Go.Proofs.Ytaonaifnaecpiaa.Own
set_option linter.unusedVariables false
set_option linter.unusedSimpArgs false
open Go.RowKit Go.WideShapes Go.ChangeShapes Go.Deep
theorem open_bytesW0 {H : Type} {enc : TypeId × Value → H} {w : World} {fuel : Nat} {co : Option Addr} {len cap : Nat} {x : DataW H × List MemPlace}
    (h : DataW.trod enc Try.prog w 0 (fun _ => true) true fuel 23 [.slice co len cap] = some x) (hw : ∀ q ∈ x.1.weights Try.prog 23, q ≤ 140737488351232) :
    ∃ zs : List Int, zs.length = len ∧ SrcV w co (bcl zs) ∧ isB zs ∧ len ≤ 140737488351232 ∧ len ≤ cap := by
  obtain ⟨zs, h1, h2, h3, h4, h5⟩ := open_intsW Try.underlying23 Try.underlying5 (by kernel_rfl) h hw
  have hb : Try.prog.bytesOf 5 = 1 := by kernel_rfl
  refine ⟨zs, h1, h2, fun b hb => ?_, by rw [hb] at h5; omega, ?_⟩
  · have := h3 b hb
    simp [Lit.wf, IntKind.min, IntKind.max, IntKind.signed, IntKind.bits] at this
    omega
  · rcases open_slice Try.underlying23 h with ⟨q, _⟩ | ⟨a, l, c, _, _, _, _, q, _, hl, _⟩
    · simp at q; omega
    · simp at q; omega
theorem open_bytesW {H : Type} {enc : TypeId × Value → H} {w : World} {co : Option Addr} {len cap : Nat} {d : DataW H} {p : List MemPlace}
    (h : DataW.Trod enc Try.prog w 0 (fun _ => true) true 23 (.slice co len cap) d p) (hw : ∀ q ∈ d.weights Try.prog 23, q ≤ 140737488351232) :
    ∃ zs : List Int, zs.length = len ∧ SrcV w co (bcl zs) ∧ isB zs ∧ len ≤ 140737488351232 ∧ len ≤ cap := by
  obtain ⟨m, hm⟩ := h
  exact open_bytesW0 hm hw
end Go.Proofs.Ytaonaifnaecpiaa.Own
