/- What an argument of the definition's type is: a row of 24 cells, three of which are numbers; and what a slice of numbers holds. No conditions beside those in the lemmas. -/
import Derived.Test.YtfefbmglimdgjaaOpen17
import Derived.OpenShut
import Derived.ChangeArms
import Derived.ChangeSlices
namespace Go.Proofs.Ytfefbmglimdgjaa.Own
open Go.RowKit Go.WideShapes Go.ChangeShapes
theorem take_one {l : List Value} {n : Nat} {v : Value} (h : (l.drop n).take 1 = [v]) : l[n]? = some v := by
  have h2 := congrArg (fun x : List Value => x[0]?) h
  simpa [List.getElem?_take, List.getElem?_drop] using h2
theorem some_at {α : Type} {xs : List α} {n i : Nat} (h : xs.length = n) (hi : i < n) : ∃ x, xs[i]? = some x := ⟨xs[i]'(by omega), List.getElem?_eq_getElem (by omega)⟩
theorem open_job {H : Type} {enc : TypeId × Value → H} {W : World} {base : Nat} {v : Value} {d : DataW H} {p : List MemPlace} (hv : Value.okWide Try.prog W .any base 34 v)
    (h : DataW.Trod enc Try.prog W 0 (fun _ => true) true 34 v d p) : ∃ (ds : List Value) (e f g : Int), v = .agg ds.toArray ∧ ds.length = 24 ∧ ds[21]? = some (.int .i64 e) ∧ ds[22]? = some (.int .i64 f) ∧ ds[23]? = some (.int .i64 g) := by
  obtain ⟨cs, rfl, hs⟩ := okWide_struct Try.underlying34 hv
  obtain ⟨fuel, h⟩ := h
  obtain ⟨xs, n, rfl, hx, hl, hn, hf⟩ := DataW.trod_struct Try.underlying34 h
  have hc : Try.prog.cellsOf 34 = 24 := by kernel_rfl
  have hc2 : Try.prog.cellsOf 2 = 1 := by kernel_rfl
  obtain ⟨l⟩ := cs
  rw [hc] at hs
  have g1 := hf 12 _ rfl
  have g2 := hf 13 _ rfl
  have g3 := hf 14 _ rfl
  simp only [List.getElem_toArray, List.getElem_cons_zero, List.getElem_cons_succ, hc2, Value.cells] at g1 g2 g3
  obtain ⟨x1, e1⟩ := some_at (i := 12) hn (by decide)
  obtain ⟨x2, e2⟩ := some_at (i := 13) hn (by decide)
  obtain ⟨x3, e3⟩ := some_at (i := 14) hn (by decide)
  rw [e1] at g1
  rw [e2] at g2
  rw [e3] at g3
  obtain ⟨a1, b1, _⟩ := DataW.trod_int Try.underlying2 g1
  obtain ⟨a2, b2, _⟩ := DataW.trod_int Try.underlying2 g2
  obtain ⟨a3, b3, _⟩ := DataW.trod_int Try.underlying2 g3
  exact ⟨l, a1, a2, a3, rfl, by simpa using hs, take_one b1, take_one b2, take_one b3⟩
theorem open_codes {H : Type} {enc : TypeId × Value → H} {W : World} {co : Option Addr} {len cap : Nat} {d : DataW H} {p : List MemPlace}
    (h : DataW.Trod enc Try.prog W 0 (fun _ => true) true 24 (.slice co len cap) d p) : ∀ j : Nat, j < len → ∃ (A : Addr) (x : Int), co = some A ∧ W.cell? (A.add j) = some (.int .i64 x) := by
  obtain ⟨fuel, hf⟩ := h
  rcases open_ints Try.underlying24 Try.underlying2 (by kernel_rfl) hf with ⟨hcs, _⟩ | ⟨x, l, c, zs, hcs, _, hl, hm, hz, _, hcell, hwz⟩
  · simp [Value.cells] at hcs
    obtain ⟨rfl, rfl, rfl⟩ := hcs
    intro j hj
    exact absurd hj (Nat.not_lt_zero _)
  · simp [Value.cells] at hcs
    obtain ⟨rfl, rfl, rfl⟩ := hcs
    intro j hj
    exact ⟨x, _, rfl, hcell j (by have : zs.length = cap := by simpa using hz
                                  omega)⟩
end Go.Proofs.Ytfefbmglimdgjaa.Own
