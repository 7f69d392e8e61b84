/- What an argument of the state's type is: a state. No conditions beside those in the lemma. -/
import Derived.Test.YtfefbmglimdgjaaRow17
import Derived.OpenShut
import Derived.ChangeArms
namespace Go.Proofs.Ytfefbmglimdgjaa.Own
open Go.RowKit Go.WideShapes
theorem open_state {H : Type} {enc : TypeId × Value → H} {W : World} {base : Nat} {v : Value} {d : DataW H} {p : List MemPlace} (hv : Value.okWide Try.prog W .any base 23 v)
    (h : DataW.Trod enc Try.prog W 0 (fun _ => true) true 23 v d p) : ∃ s : St, v = .agg s.l.toArray ∧ p = [] := by
  obtain ⟨cs, rfl, hs⟩ := okWide_struct Try.underlying23 hv
  obtain ⟨fuel, h⟩ := h
  obtain ⟨xs, n, rfl, hx, hl, hn, hf⟩ := DataW.trod_struct Try.underlying23 h
  have hc : Try.prog.cellsOf 23 = 10 := by kernel_rfl
  have hc2 : Try.prog.cellsOf 2 = 1 := by kernel_rfl
  have hc3 : Try.prog.cellsOf 3 = 1 := by kernel_rfl
  have hc4 : Try.prog.cellsOf 4 = 1 := by kernel_rfl
  obtain ⟨l⟩ := cs
  rw [hc] at hs
  match l, hs with
  | [c0, c1, c2, c3, c4, c5, c6, c7, c8, c9], _ =>
    match xs, hn with
    | [x0, x1, x2, x3, x4, x5, x6, x7, x8, x9], _ =>
      have g0 := hf 0 _ rfl
      have g1 := hf 1 _ rfl
      have g2 := hf 2 _ rfl
      have g3 := hf 3 _ rfl
      have g4 := hf 4 _ rfl
      have g5 := hf 5 _ rfl
      have g6 := hf 6 _ rfl
      have g7 := hf 7 _ rfl
      have g8 := hf 8 _ rfl
      have g9 := hf 9 _ rfl
      clear hf
      simp only [List.getElem_toArray, List.getElem_cons_zero, List.getElem_cons_succ] at g0 g1 g2 g3 g4 g5 g6 g7 g8 g9
      simp only [hc2, hc3, hc4, Value.cells, List.drop_zero, List.drop_succ_cons, List.take_succ_cons, List.take_zero, List.getElem?_cons_zero, List.getElem?_cons_succ] at g0 g1 g2 g3 g4 g5 g6 g7 g8 g9
      obtain ⟨a0, e0, f0, _⟩ := DataW.trod_int Try.underlying2 g0
      obtain ⟨a1, e1, f1, _⟩ := DataW.trod_int Try.underlying3 g1
      obtain ⟨a2, e2, f2, _⟩ := DataW.trod_int Try.underlying2 g2
      obtain ⟨a3, e3, f3, _⟩ := DataW.trod_int Try.underlying3 g3
      obtain ⟨a4, e4, f4⟩ := DataW.trod_bool Try.underlying4 g4
      obtain ⟨a5, e5, f5⟩ := DataW.trod_bool Try.underlying4 g5
      obtain ⟨a6, e6, f6, _⟩ := DataW.trod_int Try.underlying2 g6
      obtain ⟨a7, e7, f7, _⟩ := DataW.trod_int Try.underlying2 g7
      obtain ⟨a8, e8, f8, _⟩ := DataW.trod_int Try.underlying2 g8
      obtain ⟨a9, e9, f9, _⟩ := DataW.trod_int Try.underlying2 g9
      simp only [List.cons.injEq, and_true] at e0 e1 e2 e3 e4 e5 e6 e7 e8 e9
      subst e0 e1 e2 e3 e4 e5 e6 e7 e8 e9
      refine ⟨⟨a0, a1, a2, a3, a4, a5, a6, a7, a8, a9⟩, by unfold St.l; rfl, ?_⟩
      have hp := congrArg Prod.snd hx
      simp only [f0, f1, f2, f3, f4, f5, f6, f7, f8, f9, List.flatMap_cons, List.flatMap_nil, List.append_nil] at hp
      exact hp
end Go.Proofs.Ytfefbmglimdgjaa.Own
