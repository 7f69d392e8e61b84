/- What a slice of bytes, or of numbers, holds that comes in. No conditions beside those in the lemmas. -/
import Derived.Test.YtplonehidfefdaaDisk4
import Derived.OpenShut
import Derived.ChangeArms
import Derived.ChangeSlices
namespace Go.Proofs.Ytplonehidfefdaa.Own
open Go.RowKit Go.WideShapes Go.ChangeShapes
theorem open_bytes {H : Type} {enc : TypeId × Value → H} {W : World} {co : Option Addr} {len cap : Nat} {d : DataW H} {p : List MemPlace}
    (h : DataW.Trod enc Try.prog W 0 (fun _ => true) true 22 (.slice co len cap) d p) : ∃ bs : List Int, bs.length = len ∧ Src W co bs ∧ len ≤ 9223372036854775807 := by
  obtain ⟨fuel, hf⟩ := h
  rcases open_ints Try.underlying22 Try.underlying5 (by kernel_rfl) hf with ⟨hcs, _⟩ | ⟨x, l, c, zs, hcs, _, hl, hm, hz, _, hcell, hwz⟩
  · simp [Value.cells] at hcs
    obtain ⟨rfl, rfl, rfl⟩ := hcs
    exact ⟨[], rfl, fun h => absurd h (by simp), by omega⟩
  · simp [Value.cells] at hcs
    obtain ⟨rfl, rfl, rfl⟩ := hcs
    have hz2 : zs.length = cap := by simpa using hz
    refine ⟨zs.take len, by rw [List.length_take]; omega, fun _ => ⟨x, rfl, fun j v hv => ?_⟩, Nat.le_trans hl (Nat.le_trans hm (by decide))⟩
    have hj : j < len := by
      have := (List.getElem?_eq_some_iff.1 hv).1
      rw [bc_len, List.length_take] at this
      omega
    rw [hcell j (by omega)]
    simp only [bc, List.getElem?_map, List.getElem?_take, hj, if_true] at hv
    rw [List.getElem?_eq_getElem (by omega : j < zs.length)] at hv
    simp only [Option.map_some] at hv
    rw [← hv, List.getD_eq_getElem?_getD, List.getElem?_eq_getElem (by omega : j < zs.length)]
    rfl
theorem open_nums {H : Type} {enc : TypeId × Value → H} {W : World} {co : Option Addr} {len cap : Nat} {d : DataW H} {p : List MemPlace}
    (h : DataW.Trod enc Try.prog W 0 (fun _ => true) true 30 (.slice co len cap) d p) : ∃ xs : List Int, xs.length = len ∧ ∀ j : Nat, j < len → ∃ A : Addr, co = some A ∧ W.cell? (A.add j) = some (.int .i64 (xs.getD j 0)) := by
  obtain ⟨fuel, hf⟩ := h
  rcases open_ints Try.underlying30 Try.underlying3 (by kernel_rfl) hf with ⟨hcs, _⟩ | ⟨x, l, c, zs, hcs, _, hl, hm, hz, _, hcell, hwz⟩
  · simp [Value.cells] at hcs
    obtain ⟨rfl, rfl, rfl⟩ := hcs
    exact ⟨[], rfl, fun j hj => absurd hj (by simp)⟩
  · simp [Value.cells] at hcs
    obtain ⟨rfl, rfl, rfl⟩ := hcs
    have hz2 : zs.length = cap := by simpa using hz
    refine ⟨zs.take len, by rw [List.length_take]; omega, fun j hj => ⟨x, rfl, ?_⟩⟩
    rw [hcell j (by omega)]
    simp only [List.getD_eq_getElem?_getD, List.getElem?_take, hj, if_true]
end Go.Proofs.Ytplonehidfefdaa.Own
