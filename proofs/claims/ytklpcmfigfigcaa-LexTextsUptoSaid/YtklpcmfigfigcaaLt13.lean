/- lex.Join and strings.Count as plain functions, for the printer. No conditions beside those in each theorem. -/
import Derived.Test.YtklpcmfigfigcaaLt12
namespace Go.Proofs.Ytklpcmfigfigcaa.Own
set_option linter.unusedVariables false
set_option linter.unusedSimpArgs false
open Go.RowKit Go.Proofs.YtklpcmfigfigcaaW.PrintWords Go.Proofs.Ytklpcmfigfigcaa.Pt
def lex_Join.f (l0 : List S28) : Option ByteArray := if l0.length ≤ 1100000 ∧ (Lib.join (l0.map (·.f1.data.toList)) [32]).length ≤ 140737488355328 then some ⟨(Lib.join (l0.map (·.f1.data.toList)) [32]).toArray⟩ else none
theorem lex_Join.calls (A0 : Option Addr) (c0 : Nat) (l0 : List S28) (r : ByteArray) (w : World) (hr0 : Kd.C k28 w A0 l0.length l0) (hc0 : l0.length ≤ c0) (h : lex_Join.f l0 = some r) :
    Calls Try.prog 13 #[.slice A0 l0.length c0] w fun e w' => e = .returned (.string r) ∧ Below w.heap.size w w' := by
  unfold lex_Join.f at h
  split at h
  · rename_i h0
    injection h with h
    subst h
    exact ljoin_k l0 l0.length rfl h0.1 A0 c0 hr0 h0.2
  · cases h
def strings_Count.f (a0 a1 : ByteArray) : Option Int := if a1 = ⟨#[10]⟩ then some (Lib.countByte a0.data.toList 10) else none
theorem strings_Count.calls (a0 a1 : ByteArray) (r : Int) (w : World) (h : strings_Count.f a0 a1 = some r) :
    Calls Try.prog 22 #[.string a0, .string a1] w fun e w' => e = .returned (.int .i64 r) ∧ Below w.heap.size w w' := by
  unfold strings_Count.f at h
  split at h
  · rename_i h0
    injection h with h
    subst h0
    subst h
    exact (Try.strings_Count_one a0 10 w).mono fun e w' ⟨h1, h2⟩ => ⟨h1, h2 ▸ Below.refl _ _⟩
  · cases h
end Go.Proofs.Ytklpcmfigfigcaa.Own
