/- What comes in, opened: numbers and bytes in slices, slices of structs, with their sizes. No conditions beside those in the lemmas. -/
import Derived.Test.YtaonaifnaecpiaaMB
import Derived.OpenShut
import Derived.ChangeArms
import Derived.ChangeSlices
import Derived.Deep.Slices
import Derived.Deep.Fields
import Derived.ChangeSame
import Derived.SizedLaws
namespace Go.Proofs.Ytaonaifnaecpiaa.Own
set_option linter.unusedVariables false
set_option linter.unusedSimpArgs false
open Go.RowKit Go.WideShapes Go.ChangeShapes Go.Deep
section
variable {H : Type} {enc : TypeId × Value → H} {P : Program} {w : World}
theorem wt_all {e : TypeId} {d : DataW H} : ∀ {l : List (DataW H)}, d ∈ l → ∀ q ∈ d.weights P e, q ∈ DataW.weightsAll P e l
  | c :: l, hd, q, hq => by
    simp only [DataW.weightsAll, List.mem_append]
    rcases List.mem_cons.1 hd with rfl | hd
    · exact .inl hq
    · exact .inr (wt_all hd q hq)
/-- A slice of numbers that comes in. -/
theorem open_intsW {t e : TypeId} {k : IntKind} (ht : P.underlying t = some (.slice e)) (he : P.underlying e = some (.int k)) (hc : P.cellsOf e = 1) {N : Nat} {fuel : Nat} {co : Option Addr} {len cap : Nat} {x : DataW H × List MemPlace}
    (h : DataW.trod enc P w 0 (fun _ => true) true fuel t [.slice co len cap] = some x) (hw : ∀ q ∈ x.1.weights P t, q ≤ N) :
    ∃ zs : List Int, zs.length = len ∧ SrcV w co (zs.map (.int k)) ∧ (∀ n ∈ zs, (Lit.int k n).wf = true) ∧ len ≤ maxLen ∧ len * P.bytesOf e ≤ N := by
  rcases open_ints ht he hc h with ⟨hcs, _⟩ | ⟨A, l, c, zs, hcs, _, hl, hm, hz, hx, hcell, hwf⟩
  · simp at hcs
    obtain ⟨rfl, rfl, rfl⟩ := hcs
    exact ⟨[], rfl, fun h => absurd h (by simp), by simp, Nat.zero_le _, by omega⟩
  · simp at hcs
    obtain ⟨rfl, rfl, rfl⟩ := hcs
    have hz2 : zs.length = cap := by simpa using hz
    have h1 : (lits (H := H) k (zs.take len)).length = len := by simp [lits]; omega
    have h2 : (lits (H := H) k (zs.drop len)).length = cap - len := by simp [lits]; omega
    have h3 := hw ((len + (cap - len)) * P.bytesOf e) (by rw [hx]; simp [DataW.weights, ht, h1, h2])
    refine ⟨zs.take len, by rw [List.length_take]; omega, fun _ => ⟨A, rfl, fun j v hv => ?_⟩, fun n hn => hwf n (List.mem_of_mem_take hn), Nat.le_trans hl hm, Nat.le_trans (Nat.mul_le_mul_right _ (by omega)) h3⟩
    have hj : j < len := by
      have := (List.getElem?_eq_some_iff.1 hv).1
      rw [List.length_map, List.length_take] at this
      omega
    rw [hcell j (by omega)]
    simp only [List.getElem?_map, List.getElem?_take, hj, if_true] at hv
    rw [List.getElem?_eq_getElem (by omega : j < zs.length)] at hv
    simp only [Option.map_some] at hv
    rw [← hv, List.getD_eq_getElem?_getD, List.getElem?_eq_getElem (by omega : j < zs.length)]
    rfl
/-- A slice of structs that comes in: each field of each one. -/
theorem open_fieldsW {t e : TypeId} {fs : Array Field} {N fuel : Nat} {co : Option Addr} {len cap : Nat} {x : DataW H × List MemPlace} (ht : P.underlying t = some (.slice e)) (he : P.underlying e = some (.struct fs))
    (hone : oneCellFields P fs = true) (hC : P.cellsOf e = fs.size) (h : DataW.trod enc P w 0 (fun _ => true) true fuel t [.slice co len cap] = some x) (hw : ∀ q ∈ x.1.weights P t, q ≤ N) :
    len ≤ maxLen ∧ (0 < len → len * P.bytesOf e ≤ N) ∧ ∀ i, i < len → ∃ A, co = some A ∧ ∀ (j : Nat) (f : Field), fs[j]? = some f → ∃ (n : Nat) (v : Value) (y : DataW H × List MemPlace), w.cell? (A.add (i * fs.size + j)) = some v ∧ DataW.trod enc P w 0 (fun _ => true) true n f.type [v] = some y ∧ ∀ q ∈ y.1.weights P f.type, q ≤ N := by
  rcases open_slice ht h with ⟨hcs, _⟩ | ⟨A, l, c, m, n, D, Pl, hcs, hb, hl, hm, hmm, hx, hi⟩
  · simp at hcs
    obtain ⟨rfl, rfl, rfl⟩ := hcs
    exact ⟨Nat.zero_le _, fun h => absurd h (by simp), fun i hi => absurd hi (by simp)⟩
  · simp at hcs
    obtain ⟨rfl, rfl, rfl⟩ := hcs
    have hm2 : m = cap := hmm
    subst hm2
    refine ⟨Nat.le_trans hl hm, fun _ => ?_, fun i him => ⟨A, rfl, ?_⟩⟩
    · refine Nat.le_trans (Nat.mul_le_mul_right _ hl) (hw (m * P.bytesOf e) ?_)
      rw [hx]
      simp only [DataW.weights, ht, List.length_map, List.length_range, List.mem_cons]
      left
      congr 1; omega
    · obtain ⟨cs', hc, ht'⟩ := hi i (by omega)
      rw [hC] at hc
      obtain ⟨ys, n', hn', hy, hlen, hyl, hf⟩ := DataW.trod_struct he ht'
      obtain ⟨_, hcl, hat⟩ := World.cells?_some hc
      intro j f hj
      obtain ⟨ho, hk⟩ := hone_of hone j f hj
      have hjl : j < fs.size := (Array.getElem?_eq_some_iff.1 hj).1
      have hcell := hat j hjl
      have hv : cs'[j]? = some (cs'[j]'(by omega)) := List.getElem?_eq_getElem (by omega)
      have h1 := hf j f hj
      rw [ho, hk] at h1
      have hone' : (cs'.drop j).take 1 = [cs'[j]'(by omega)] := by
        rw [List.drop_eq_getElem_cons (by omega)]
        rfl
      rw [hone'] at h1
      have hys : ys[j]? = some (ys[j]'(by omega)) := List.getElem?_eq_getElem (by omega)
      refine ⟨_, _, _, ?_, h1.trans hys, fun q hq => hw q ?_⟩
      · rw [← Go.Deep.add_add, hcell, hv]
      · simp only [Prod.mk.injEq] at hy
        rw [hx]
        simp only [DataW.weights, ht, List.mem_cons, List.mem_append]
        refine .inr (.inl (wt_all (d := D i) (List.mem_map.2 ⟨i, by simpa using him, rfl⟩) q ?_))
        rw [hy.1]
        simp only [DataW.weights, he]
        exact DataW.weights_mem_each (j := j) (t := f.type) (by simpa using congrArg (Option.map (·.type)) hj) (by rw [List.getElem?_map, hys]; rfl) q hq
/-- A string among the fields. -/
theorem open_strW {t : TypeId} (ht : P.underlying t = some .string) {N n : Nat} {v : Value} {y : DataW H × List MemPlace} (h : DataW.trod enc P w 0 (fun _ => true) true n t [v] = some y) (hw : ∀ q ∈ y.1.weights P t, q ≤ N) : ∃ s : ByteArray, v = .string s ∧ s.size ≤ N := by
  obtain ⟨s, hs, rfl, _⟩ := DataW.trod_string ht h
  simp at hs
  exact ⟨s, hs, hw s.size (by simp [DataW.weights])⟩
theorem open_intW {t : TypeId} {k : IntKind} (ht : P.underlying t = some (.int k)) {n : Nat} {v : Value} {y : DataW H × List MemPlace} (h : DataW.trod enc P w 0 (fun _ => true) true n t [v] = some y) : ∃ z : Int, v = .int k z ∧ (Lit.int k z).wf = true := by
  obtain ⟨z, hz, rfl, hw⟩ := DataW.trod_int ht h
  simp at hz
  exact ⟨z, hz, hw⟩
theorem open_boolW {t : TypeId} (ht : P.underlying t = some .bool) {n : Nat} {v : Value} {y : DataW H × List MemPlace} (h : DataW.trod enc P w 0 (fun _ => true) true n t [v] = some y) : ∃ z : Bool, v = .bool z := by
  obtain ⟨z, hz, _⟩ := DataW.trod_bool ht h
  simp at hz
  exact ⟨z, hz⟩
theorem open_sliceW {t e : TypeId} (ht : P.underlying t = some (.slice e)) {n : Nat} {v : Value} {y : DataW H × List MemPlace} (h : DataW.trod enc P w 0 (fun _ => true) true n t [v] = some y) : ∃ co len cap, v = .slice co len cap := by
  rcases open_slice ht h with ⟨q, _⟩ | ⟨a, l, c, _, _, _, _, q, _⟩
  · exact ⟨_, _, _, by simpa using q⟩
  · exact ⟨_, _, _, by simpa using q⟩
/-- Something of each element, as a list. -/
theorem list_of {α : Type} {q : Nat → α → Prop} : ∀ n : Nat, (∀ i, i < n → ∃ x, q i x) → ∃ xs : List α, xs.length = n ∧ ∀ (j : Nat) (x : α), xs[j]? = some x → q j x := by
  intro n
  induction n with
  | zero => exact fun _ => ⟨[], rfl, fun j x hx => by simp at hx⟩
  | succ n ih =>
    intro h
    obtain ⟨xs, hx, hall⟩ := ih (fun i hi => h i (by omega))
    obtain ⟨x, hx1⟩ := h n (by omega)
    refine ⟨xs ++ [x], by simp [hx], fun j y hy => ?_⟩
    by_cases hj : j < xs.length
    · rw [List.getElem?_append_left hj] at hy
      exact hall j y hy
    · have hlt := (List.getElem?_eq_some_iff.1 hy).1
      simp only [List.length_append, List.length_singleton] at hlt
      have e : j = n := by omega
      subst e
      rw [← hx] at hy
      simp at hy
      subst hy
      exact hx1
/-- All of an argument's weights are bounded. -/
theorem wt_arg {ts : List TypeId} {ds : List (DataW H)} (h : (DataW.weightsEach P ts ds).all (· ≤ reachBytes) = true) {j : Nat} {t : TypeId} {d : DataW H} (ht : ts[j]? = some t) (hd : ds[j]? = some d) : ∀ q ∈ d.weights P t, q ≤ 140737488351232 := fun q hq => by
  have h1 := List.all_eq_true.1 h _ (DataW.weights_mem_each ht hd q hq)
  have h2 : q ≤ reachBytes := of_decide_eq_true h1
  exact h2
end
end Go.Proofs.Ytaonaifnaecpiaa.Own
