/- What a slice of calls holds that comes in, with sizes. No conditions beside those in the lemmas. -/
import Derived.Test.YtplonehidfefdaaActs03
import Derived.Test.YtplonehidfefdaaOp
namespace Go.Proofs.Ytplonehidfefdaa.Own
open Go.RowKit Go.WideShapes Go.ChangeShapes Go.Deep
theorem open_actsW {H : Type} {enc : TypeId × Value → H} {W : World} {co : Option Addr} {len cap : Nat} {d : DataW H} {p : List MemPlace}
    (h : DataW.Trod enc Try.prog W 0 (fun _ => true) true 23 (.slice co len cap) d p) (hw : ∀ q ∈ d.weights Try.prog 23, q ≤ 140737488351232) :
    ∃ xs : List AV, xs.length = len ∧ len ≤ 9223372036854775807 ∧ ∀ (j : Nat) (x : AV), xs[j]? = some x → ∃ A : Addr, co = some A ∧ AvAt W A j x ∧ x.nb ≤ 140737488351232 := by
  obtain ⟨fuel, hf⟩ := h
  obtain ⟨hlen, _, hi⟩ := open_fieldsW Try.underlying23 Try.underlying32 (by kernel_rfl) (by kernel_rfl) hf hw
  have hone : ∀ i, i < len → ∃ x : AV, ∃ A : Addr, co = some A ∧ AvAt W A i x ∧ x.nb ≤ 140737488351232 := by
    intro i hil
    obtain ⟨A, hA, hf0⟩ := hi i hil
    obtain ⟨n0, v0, y0, e0, t0, _⟩ := hf0 0 _ rfl
    obtain ⟨n1, v1, y1, e1, t1, _⟩ := hf0 1 _ rfl
    obtain ⟨n2, v2, y2, e2, t2, _⟩ := hf0 2 _ rfl
    obtain ⟨n3, v3, y3, e3, t3, w3⟩ := hf0 3 _ rfl
    obtain ⟨n4, v4, y4, e4, t4, _⟩ := hf0 4 _ rfl
    obtain ⟨n5, v5, y5, e5, t5, w5⟩ := hf0 5 _ rfl
    obtain ⟨z0, rfl, _⟩ := open_intW Try.underlying3 t0
    obtain ⟨z1, rfl, _⟩ := open_intW Try.underlying3 t1
    obtain ⟨z2, rfl, _⟩ := open_intW Try.underlying3 t2
    obtain ⟨z4, rfl, b4⟩ := open_intW Try.underlying3 t4
    obtain ⟨bp, nb, cb, rfl⟩ := open_sliceW Try.underlying22 t3
    obtain ⟨kp, nk, ck, rfl⟩ := open_sliceW Try.underlying30 t5
    obtain ⟨bs, hb1, hb2, _, hb3, hb4⟩ := open_intsW Try.underlying22 Try.underlying5 (by kernel_rfl) t3 w3
    obtain ⟨ks, hk1, hk2⟩ := open_nums ⟨n5, t5⟩
    rw [show Try.prog.bytesOf 5 = 1 from by kernel_rfl] at hb4
    have hb := bounds_i64 b4
    exact ⟨⟨z0, z1, z2, z4, bs, ks, nb, nk, bp, cb, kp, ck⟩, A, hA, ⟨e0, e1, e2, e3, e4, e5, hb1, fun hl => hb2 (by rw [List.length_map]; exact hl), by unfold maxLen at hb3; omega, hk1, hk2, hb.1, hb.2⟩, by show nb ≤ _; omega⟩
  obtain ⟨xs, hx, hx2⟩ := list_of len hone
  exact ⟨xs, hx, by unfold maxLen at hlen; omega, hx2⟩
end Go.Proofs.Ytplonehidfefdaa.Own
