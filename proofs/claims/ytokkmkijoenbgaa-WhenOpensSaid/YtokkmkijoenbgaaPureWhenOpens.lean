/- WhenOpens, as a statement on integers: whether a window is open, and how long it is, agree with the counting definition, at every integer of the kind. No conditions. -/
import Derived.Test.YtokkmkijoenbgaaCom
namespace Go.Proofs.Ytokkmkijoenbgaa.Pure
open Go.RowKit Go.Proofs.Ytokkmkijoenbgaa.Own Go.Proofs.Ytokkmkijoenbgaa.Pr Go.Proofs.YtokkmkijoenbgaaW.PrintWords Go.Proofs.YtokkmkijoenbgaaW.PrintLast

theorem WhenOpens : dayshiftlaw15_WhenOpens.Pure := by
  intro a b m _ _ _
  refine ⟨2000, ?_⟩
  unfold dayshiftlaw15_WhenOpens.f
  rw [show when_Open.f a b m = some (openB a b m) from rfl, refOpen 1999, refLong 2000 (by omega), known_true 2000 (by omega)]
  simp [when_Long.f]
end Go.Proofs.Ytokkmkijoenbgaa.Pure
