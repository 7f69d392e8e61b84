/- dayshiftref07's Same as a plain function, for the printer. No conditions beside those in each theorem. -/
import Derived.Test.YtklpcmfigfigcaaLt14
namespace Go.Proofs.Ytklpcmfigfigcaa.Own
set_option linter.unusedVariables false
set_option linter.unusedSimpArgs false
open Go.RowKit Go.Proofs.YtklpcmfigfigcaaW.PrintWords Go.Proofs.Ytklpcmfigfigcaa.Pt
def alikeB (pl : Bool) : List S45 → List S45 → Bool
  | [], [] => true
  | x :: l, y :: m => (decide (x.f0 = y.f0) && decide (x.f1 = y.f1) && decide (x.f2 = y.f2) && (!pl || decide (x.f3 = y.f3))) && alikeB pl l m
  | _, _ => false
theorem alike_of (pl : Bool) : ∀ (la lb : List S45), alikeB pl la lb = true → Alike pl la lb := by
  intro la
  induction la with
  | nil =>
    intro lb h
    cases lb with
    | nil => exact ⟨rfl, fun i x y h => by simp at h⟩
    | cons y m => simp [alikeB] at h
  | cons x l ih =>
    intro lb h
    cases lb with
    | nil => simp [alikeB] at h
    | cons y m =>
      rw [alikeB, Bool.and_eq_true] at h
      obtain ⟨h1, h2⟩ := ih m h.2
      refine ⟨by rw [List.length_cons, List.length_cons, h1], fun i u v hu hv => ?_⟩
      cases i with
      | zero =>
        simp only [List.getElem?_cons_zero, Option.some.injEq] at hu hv
        subst hu
        subst hv
        have h3 := h.1
        simp only [Bool.and_eq_true, decide_eq_true_eq, Bool.or_eq_true, Bool.not_eq_true'] at h3
        refine ⟨h3.1.1.1, h3.1.1.2, h3.1.2, fun hp => ?_⟩
        rcases h3.2 with h4 | h4
        · rw [hp] at h4; cases h4
        · exact h4
      | succ i =>
        rw [List.getElem?_cons_succ] at hu hv
        exact h2 i u v hu hv
theorem alike_to (pl : Bool) : ∀ (la lb : List S45), Alike pl la lb → alikeB pl la lb = true := by
  intro la
  induction la with
  | nil =>
    intro lb h
    cases lb with
    | nil => rfl
    | cons y m => have := h.1; simp at this
  | cons x l ih =>
    intro lb h
    cases lb with
    | nil => have := h.1; simp at this
    | cons y m =>
      have h0 := h.2 0 x y rfl rfl
      have h1 := ih m ⟨by have := h.1; simpa using this, fun i u v hu hv => h.2 (i + 1) u v (by rw [List.getElem?_cons_succ]; exact hu) (by rw [List.getElem?_cons_succ]; exact hv)⟩
      rw [alikeB, h1, decide_eq_true h0.1, decide_eq_true h0.2.1, decide_eq_true h0.2.2.1]
      cases pl with
      | false => rfl
      | true => rw [decide_eq_true (h0.2.2.2 rfl)]; rfl
def ref07_Same.f (l0 l1 : List S45) (a2 : Bool) : Option Bool := if l0.length ≤ 1100000 ∧ alikeB a2 l0 l1 = true then some true else none
theorem ref07_Same.calls (A0 : Option Addr) (c0 : Nat) (l0 : List S45) (A1 : Option Addr) (c1 : Nat) (l1 : List S45) (a2 : Bool) (r : Bool) (w : World) (hr0 : Kd.C k45 w A0 l0.length l0) (_hc0 : l0.length ≤ c0) (hr1 : Kd.C k45 w A1 l1.length l1) (_hc1 : l1.length ≤ c1) (h : ref07_Same.f l0 l1 a2 = some r) :
    Calls Try.prog 11 #[.slice A0 l0.length c0, .slice A1 l1.length c1, .bool a2] w fun e w' => e = .returned (.bool r) ∧ Below w.heap.size w w' := by
  unfold ref07_Same.f at h
  split at h
  · rename_i h0
    injection h with h
    subst h
    have ha := alike_of _ _ _ h0.2
    have hl := ha.1
    rw [← hl] at hr1 ⊢
    exact same45_k l0 l1 l0.length rfl hl.symm h0.1 A0 A1 c0 c1 hr0 hr1 a2 ha
  · cases h
end Go.Proofs.Ytklpcmfigfigcaa.Own
