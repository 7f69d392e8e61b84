/- A block of ten cells that is stored into whole: what it holds behind. No conditions beside those in each lemma. -/
import Derived.Test.YtfefbmglimdgjaaSl
import Derived.Laws.IdiomCopy
namespace Go.Proofs.Ytfefbmglimdgjaa.Own
open Go.RowKit
theorem kt_set10 {W1 W : World} {g n : Nat} {v0 v1 v2 v3 v4 v5 v6 v7 v8 v9 : Value} (h : KT W1 g n W) (hg : W1.heap.size ≤ g) : KT W1 g n ((((((((((W.setCell ⟨g, 0, none⟩ v0).setCell ⟨g, 1, none⟩ v1).setCell ⟨g, 2, none⟩ v2).setCell ⟨g, 3, none⟩ v3).setCell ⟨g, 4, none⟩ v4).setCell ⟨g, 5, none⟩ v5).setCell ⟨g, 6, none⟩ v6).setCell ⟨g, 7, none⟩ v7).setCell ⟨g, 8, none⟩ v8).setCell ⟨g, 9, none⟩ v9) :=
  kt_set hg (kt_set hg (kt_set hg (kt_set hg (kt_set hg (kt_set hg (kt_set hg (kt_set hg (kt_set hg (kt_set hg h 0 v0) 1 v1) 2 v2) 3 v3) 4 v4) 5 v5) 6 v6) 7 v7) 8 v8) 9 v9
theorem setCell_far {W : World} {g i j : Nat} {v u : Value} (h : W.cell? ⟨g, j, none⟩ = some v) (hne : i ≠ j) : (W.setCell ⟨g, i, none⟩ u).cell? ⟨g, j, none⟩ = some v := by
  rw [World.cell?_setCell_other (h := by intro e; injection e with _ e2 _; exact hne e2)]; exact h
theorem isSome_back {W : World} {a p : Addr} {v : Value} (h : ((W.setCell p v).cell? a).isSome = true) : (W.cell? a).isSome = true := by
  by_cases e : p = a
  · subst e
    rw [Bool.eq_false_or_eq_true (W.cell? p).isSome |>.resolve_right ?_]
    intro hf
    have hn : W.cell? p = none := by simpa using hf
    unfold World.setCell World.cell? at *
    simp only [Array.getElem?_modify, if_true] at h
    cases hh : W.heap[p.block]? with
    | none => rw [hh] at h; simp at h
    | some o =>
      rw [hh] at hn h
      cases o with
      | cells c e fz =>
        cases hsp : p.spot with
        | none =>
          simp [hsp] at h hn
          omega
        | some _ => simp [hsp] at h
      | _ => simp_all
  · rw [World.cell?_setCell_other (h := e)] at h; exact h
theorem chain10 {W1 W : World} {g : Nat} {v0 v1 v2 v3 v4 v5 v6 v7 v8 v9 : Value} (h : KT W1 g 10 ((((((((((W.setCell ⟨g, 0, none⟩ v0).setCell ⟨g, 1, none⟩ v1).setCell ⟨g, 2, none⟩ v2).setCell ⟨g, 3, none⟩ v3).setCell ⟨g, 4, none⟩ v4).setCell ⟨g, 5, none⟩ v5).setCell ⟨g, 6, none⟩ v6).setCell ⟨g, 7, none⟩ v7).setCell ⟨g, 8, none⟩ v8).setCell ⟨g, 9, none⟩ v9)) :
    ((((((((((W.setCell ⟨g, 0, none⟩ v0).setCell ⟨g, 1, none⟩ v1).setCell ⟨g, 2, none⟩ v2).setCell ⟨g, 3, none⟩ v3).setCell ⟨g, 4, none⟩ v4).setCell ⟨g, 5, none⟩ v5).setCell ⟨g, 6, none⟩ v6).setCell ⟨g, 7, none⟩ v7).setCell ⟨g, 8, none⟩ v8).setCell ⟨g, 9, none⟩ v9).cell? ⟨g, 0, none⟩ = some v0 ∧ ((((((((((W.setCell ⟨g, 0, none⟩ v0).setCell ⟨g, 1, none⟩ v1).setCell ⟨g, 2, none⟩ v2).setCell ⟨g, 3, none⟩ v3).setCell ⟨g, 4, none⟩ v4).setCell ⟨g, 5, none⟩ v5).setCell ⟨g, 6, none⟩ v6).setCell ⟨g, 7, none⟩ v7).setCell ⟨g, 8, none⟩ v8).setCell ⟨g, 9, none⟩ v9).cell? ⟨g, 1, none⟩ = some v1 ∧ ((((((((((W.setCell ⟨g, 0, none⟩ v0).setCell ⟨g, 1, none⟩ v1).setCell ⟨g, 2, none⟩ v2).setCell ⟨g, 3, none⟩ v3).setCell ⟨g, 4, none⟩ v4).setCell ⟨g, 5, none⟩ v5).setCell ⟨g, 6, none⟩ v6).setCell ⟨g, 7, none⟩ v7).setCell ⟨g, 8, none⟩ v8).setCell ⟨g, 9, none⟩ v9).cell? ⟨g, 2, none⟩ = some v2 ∧ ((((((((((W.setCell ⟨g, 0, none⟩ v0).setCell ⟨g, 1, none⟩ v1).setCell ⟨g, 2, none⟩ v2).setCell ⟨g, 3, none⟩ v3).setCell ⟨g, 4, none⟩ v4).setCell ⟨g, 5, none⟩ v5).setCell ⟨g, 6, none⟩ v6).setCell ⟨g, 7, none⟩ v7).setCell ⟨g, 8, none⟩ v8).setCell ⟨g, 9, none⟩ v9).cell? ⟨g, 3, none⟩ = some v3 ∧ ((((((((((W.setCell ⟨g, 0, none⟩ v0).setCell ⟨g, 1, none⟩ v1).setCell ⟨g, 2, none⟩ v2).setCell ⟨g, 3, none⟩ v3).setCell ⟨g, 4, none⟩ v4).setCell ⟨g, 5, none⟩ v5).setCell ⟨g, 6, none⟩ v6).setCell ⟨g, 7, none⟩ v7).setCell ⟨g, 8, none⟩ v8).setCell ⟨g, 9, none⟩ v9).cell? ⟨g, 4, none⟩ = some v4 ∧ ((((((((((W.setCell ⟨g, 0, none⟩ v0).setCell ⟨g, 1, none⟩ v1).setCell ⟨g, 2, none⟩ v2).setCell ⟨g, 3, none⟩ v3).setCell ⟨g, 4, none⟩ v4).setCell ⟨g, 5, none⟩ v5).setCell ⟨g, 6, none⟩ v6).setCell ⟨g, 7, none⟩ v7).setCell ⟨g, 8, none⟩ v8).setCell ⟨g, 9, none⟩ v9).cell? ⟨g, 5, none⟩ = some v5 ∧ ((((((((((W.setCell ⟨g, 0, none⟩ v0).setCell ⟨g, 1, none⟩ v1).setCell ⟨g, 2, none⟩ v2).setCell ⟨g, 3, none⟩ v3).setCell ⟨g, 4, none⟩ v4).setCell ⟨g, 5, none⟩ v5).setCell ⟨g, 6, none⟩ v6).setCell ⟨g, 7, none⟩ v7).setCell ⟨g, 8, none⟩ v8).setCell ⟨g, 9, none⟩ v9).cell? ⟨g, 6, none⟩ = some v6 ∧ ((((((((((W.setCell ⟨g, 0, none⟩ v0).setCell ⟨g, 1, none⟩ v1).setCell ⟨g, 2, none⟩ v2).setCell ⟨g, 3, none⟩ v3).setCell ⟨g, 4, none⟩ v4).setCell ⟨g, 5, none⟩ v5).setCell ⟨g, 6, none⟩ v6).setCell ⟨g, 7, none⟩ v7).setCell ⟨g, 8, none⟩ v8).setCell ⟨g, 9, none⟩ v9).cell? ⟨g, 7, none⟩ = some v7 ∧ ((((((((((W.setCell ⟨g, 0, none⟩ v0).setCell ⟨g, 1, none⟩ v1).setCell ⟨g, 2, none⟩ v2).setCell ⟨g, 3, none⟩ v3).setCell ⟨g, 4, none⟩ v4).setCell ⟨g, 5, none⟩ v5).setCell ⟨g, 6, none⟩ v6).setCell ⟨g, 7, none⟩ v7).setCell ⟨g, 8, none⟩ v8).setCell ⟨g, 9, none⟩ v9).cell? ⟨g, 8, none⟩ = some v8 ∧ ((((((((((W.setCell ⟨g, 0, none⟩ v0).setCell ⟨g, 1, none⟩ v1).setCell ⟨g, 2, none⟩ v2).setCell ⟨g, 3, none⟩ v3).setCell ⟨g, 4, none⟩ v4).setCell ⟨g, 5, none⟩ v5).setCell ⟨g, 6, none⟩ v6).setCell ⟨g, 7, none⟩ v7).setCell ⟨g, 8, none⟩ v8).setCell ⟨g, 9, none⟩ v9).cell? ⟨g, 9, none⟩ = some v9 := by
  have hs : ∀ j, j < 10 → (W.cell? ⟨g, j, none⟩).isSome = true := fun j hj => isSome_back (isSome_back (isSome_back (isSome_back (isSome_back (isSome_back (isSome_back (isSome_back (isSome_back (isSome_back (isSome_of (h.2.2.2.2.1 j hj)))))))))))
  have hi := World.cell?_setCells_in g [v0, v1, v2, v3, v4, v5, v6, v7, v8, v9] 0 W (fun j hj => by rw [Nat.zero_add]; exact hs j hj)
  simp only [World.setCells, Nat.zero_add, Nat.reduceAdd] at hi
  refine ⟨?_, ?_, ?_, ?_, ?_, ?_, ?_, ?_, ?_, ?_⟩
  · simpa using hi 0 (by simp)
  · simpa using hi 1 (by simp)
  · simpa using hi 2 (by simp)
  · simpa using hi 3 (by simp)
  · simpa using hi 4 (by simp)
  · simpa using hi 5 (by simp)
  · simpa using hi 6 (by simp)
  · simpa using hi 7 (by simp)
  · simpa using hi 8 (by simp)
  · simpa using hi 9 (by simp)
end Go.Proofs.Ytfefbmglimdgjaa.Own
