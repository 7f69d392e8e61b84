/- A list of byte lists that comes in, opened with its sizes. No conditions beside those in the lemmas. -/
import Derived.Test.YtaonaifnaecpiaaOp4
import Derived.Test.YtaonaifnaecpiaaMD
namespace Go.Proofs.Ytaonaifnaecpiaa.Own
set_option linter.unusedVariables false
set_option linter.unusedSimpArgs false
open Go.RowKit Go.WideShapes Go.ChangeShapes Go.Deep
theorem open_listW {H : Type} {enc : TypeId × Value → H} {w : World} {co : Option Addr} {len cap : Nat} {d : DataW H} {p : List MemPlace}
    (h : DataW.Trod enc Try.prog w 0 (fun _ => true) true 28 (.slice co len cap) d p) (hw : ∀ q ∈ d.weights Try.prog 28, q ≤ 140737488351232) :
    ∃ l : List (List Int), l.length = len ∧ LLV w co l ∧ isBL l ∧ (∀ r ∈ l, r.length ≤ 140737488351232) ∧ len ≤ maxLen ∧ len ≤ cap := by
  obtain ⟨m, hm0⟩ := h
  have hm : DataW.trod enc Try.prog w 0 (fun _ => true) true m 28 [.slice co len cap] = some (d, p) := hm0
  rcases open_slice1 Try.underlying28 (by kernel_rfl) hm with ⟨hcs, _⟩ | ⟨A, l, c, m, n, V, D, Pl, hcs, hb, hl, hmx, hmm, hx, hi⟩
  · simp at hcs
    obtain ⟨rfl, rfl, rfl⟩ := hcs
    exact ⟨[], rfl, fun h => absurd h (by simp), fun r hr => by simp at hr, fun r hr => by simp at hr, Nat.zero_le _, Nat.le_refl _⟩
  · simp at hcs
    obtain ⟨rfl, rfl, rfl⟩ := hcs
    have hm2 : m = cap := hmm
    subst hm2
    have hel : ∀ i, i < len → ∃ r : List Int, (∃ sj cj, V i = .slice sj r.length cj ∧ SrcV w sj (bcl r)) ∧ isB r ∧ r.length ≤ 140737488351232 := by
      intro i him
      obtain ⟨hcell, ht⟩ := hi i (by omega)
      obtain ⟨sj, lj, cj, hv⟩ := open_sliceW Try.underlying23 ht
      rw [hv] at ht
      obtain ⟨zs, h1, h2, h3, h4, h5⟩ := open_bytesW0 ht (fun q hq => hw q (by
        have hd : d = _ := congrArg Prod.fst hx
        rw [hd]
        simp only [DataW.weights, Try.underlying28, List.mem_cons, List.mem_append]
        exact .inr (.inl (wt_all (d := D i) (List.mem_map.2 ⟨i, by simpa using him, rfl⟩) q hq))))
      exact ⟨zs, ⟨sj, cj, by rw [h1]; exact hv, h2⟩, h3, by omega⟩
    obtain ⟨xs, hxl, hall⟩ := list_of len hel
    refine ⟨xs, hxl, fun h0 => ⟨A, rfl, fun j r hr => ?_⟩, fun r hr => ?_, fun r hr => ?_, Nat.le_trans hl hmx, hl⟩
    · obtain ⟨⟨sj, cj, h1, h2⟩, _⟩ := hall j r hr
      have hj := (List.getElem?_eq_some_iff.1 hr).1
      exact ⟨sj, cj, by rw [(hi j (by omega)).1, h1], h2⟩
    · obtain ⟨j, hj⟩ := List.mem_iff_getElem?.1 hr
      exact (hall j r hj).2.1
    · obtain ⟨j, hj⟩ := List.mem_iff_getElem?.1 hr
      exact (hall j r hj).2.2
end Go.Proofs.Ytaonaifnaecpiaa.Own
