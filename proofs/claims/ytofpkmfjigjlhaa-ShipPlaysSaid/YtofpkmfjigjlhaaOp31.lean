/- Calls that come in. No conditions beside those in the lemmas. -/
import Derived.Test.YtofpkmfjigjlhaaAl31
import Derived.Test.YtofpkmfjigjlhaaOp
namespace Go.Proofs.Ytofpkmfjigjlhaa.Own
open Go.RowKit Go.WideShapes Go.ChangeShapes Go.Deep
set_option linter.unusedSimpArgs false
set_option linter.unusedVariables false
structure CV where
  k : Int
  d : List Int
  sd : Option Addr
  cd : Nat
  N : Int
  p : SP
  sp : Option Addr
  cp : Nat
  a : SA
/-- A call's cells, as they come in. -/
abbrev CV.cells (c : CV) : List Value := kcl c.k (.slice c.sd c.d.length c.cd) c.N c.p (.slice c.sp c.p.l.length c.cp) c.a
structure CallAt (W : World) (A : Addr) (i : Nat) (c : CV) : Prop where
  cell : ∀ (j : Nat) (v : Value), c.cells[j]? = some v → W.cell? (A.add (i * 11 + j)) = some v
  src : SrcV W c.sd (bc c.d)
  dl : c.d.length ≤ 140737488351232
  el : ELV W c.sp c.p.l
  cp : c.p.l.length ≤ c.cp
  pz : ∀ x ∈ c.p.l, x.2.length ≤ 140737488351232
def CLS (W : World) (co : Option Addr) (len : Nat) : Prop := ∃ cs : List CV, cs.length = len ∧ len ≤ 9223372036854775807 ∧ ∀ (j : Nat) (c : CV), cs[j]? = some c → ∃ A : Addr, co = some A ∧ CallAt W A j c
section
variable {H : Type} {enc : TypeId × Value → H} {P : Program} {w : World}
theorem open_one {T : TypeId} {fs : Array Field} (he : P.underlying T = some (.struct fs)) (hone : oneCellFields P fs = true) {n : Nat} {cs : List Value} {x : DataW H × List MemPlace} (h : DataW.trod enc P w 0 (fun _ => true) true n T cs = some x) (hl : cs.length = fs.size) :
    ∀ (j : Nat) (f : Field), fs[j]? = some f → ∃ (v : Value) (n' : Nat) (y : DataW H × List MemPlace), cs[j]? = some v ∧ DataW.trod enc P w 0 (fun _ => true) true n' f.type [v] = some y ∧ ∀ q ∈ y.1.weights P f.type, q ∈ x.1.weights P T := by
  obtain ⟨ys, n', hn', hy, hlen, hyl, hf⟩ := DataW.trod_struct he h
  intro j f hj
  obtain ⟨ho, hk⟩ := hone_of hone j f hj
  have hjl : j < fs.size := (Array.getElem?_eq_some_iff.1 hj).1
  have hv : cs[j]? = some (cs[j]'(by omega)) := List.getElem?_eq_getElem (by omega)
  have h1 := hf j f hj
  rw [ho, hk] at h1
  have hone' : (cs.drop j).take 1 = [cs[j]'(by omega)] := by
    rw [List.drop_eq_getElem_cons (by omega)]
    rfl
  rw [hone'] at h1
  have hys : ys[j]? = some (ys[j]'(by omega)) := List.getElem?_eq_getElem (by omega)
  refine ⟨_, _, _, hv, h1.trans hys, fun q hq => ?_⟩
  rw [hy]
  simp only [DataW.weights, he]
  exact DataW.weights_mem_each (j := j) (t := f.type) (by simpa using congrArg (Option.map (·.type)) hj) (by rw [List.getElem?_map, hys]; rfl) q hq
theorem open_capW {t e : TypeId} (ht : P.underlying t = some (.slice e)) {n : Nat} {co : Option Addr} {len cap : Nat} {y : DataW H × List MemPlace} (h : DataW.trod enc P w 0 (fun _ => true) true n t [.slice co len cap] = some y) : len ≤ cap := by
  rcases open_slice ht h with ⟨q, _⟩ | ⟨a, l, c, _, _, _, _, q, _, hl, _⟩
  · simp at q
    omega
  · simp at q
    obtain ⟨rfl, rfl, rfl⟩ := q
    exact hl
end
section
variable {H : Type} {enc : TypeId × Value → H} {W : World}
theorem open_entsW {n : Nat} {co : Option Addr} {len cap : Nat} {y : DataW H × List MemPlace} (h : DataW.trod enc Try.prog W 0 (fun _ => true) true n 25 [.slice co len cap] = some y) (hw : ∀ q ∈ y.1.weights Try.prog 25, q ≤ 140737488351232) :
    ∃ es : List SE, es.length = len ∧ ELV W co es ∧ ∀ x ∈ es, x.2.length ≤ 140737488351232 := by
  obtain ⟨hlen, _, hi⟩ := open_fieldsW Try.underlying25 Try.underlying43 (by kernel_rfl) (by kernel_rfl) h hw
  have hone : ∀ i, i < len → ∃ x : SE, x.2.length ≤ 140737488351232 ∧ ∃ A : Addr, co = some A ∧ ∃ sj cj, W.cell? (A.add (i * 2)) = some (.int .i64 x.1) ∧ W.cell? ⟨(A.add (i * 2)).block, (A.add (i * 2)).off + 1, none⟩ = some (.slice sj x.2.length cj) ∧ x.2.length ≤ cj ∧ SrcV W sj (bc x.2) := by
    intro i hil
    obtain ⟨A, hA, hf0⟩ := hi i hil
    obtain ⟨n0, v0, y0, e0, t0, _⟩ := hf0 0 _ rfl
    obtain ⟨n1, v1, y1, e1, t1, w1⟩ := hf0 1 _ rfl
    obtain ⟨z0, rfl, _⟩ := open_intW Try.underlying2 t0
    obtain ⟨sj, lj, cj, rfl⟩ := open_sliceW Try.underlying41 t1
    have hcap := open_capW Try.underlying41 t1
    obtain ⟨bs, hbl, hbs, _, _, hbw⟩ := open_intsW Try.underlying41 Try.underlying5 (by kernel_rfl) t1 w1
    rw [show Try.prog.bytesOf 5 = 1 from by kernel_rfl, Nat.mul_one] at hbw
    subst hbl
    exact ⟨(z0, bs), hbw, A, hA, sj, cj, e0, by rw [← Go.Deep.add_add] at e1; exact e1, hcap, hbs⟩
  obtain ⟨es, hes, hes2⟩ := list_of len hone
  refine ⟨es, hes, fun h0 => ?_, fun x hx => ?_⟩
  · obtain ⟨A, hA, _⟩ := (hes2 0 _ (List.getElem?_eq_getElem h0)).2
    refine ⟨A, hA, fun j x hx => ?_⟩
    obtain ⟨_, A', hA', hr⟩ := hes2 j x hx
    rw [hA] at hA'
    injection hA' with hA'
    subst hA'
    exact hr
  · obtain ⟨j, hj⟩ := List.mem_iff_getElem?.1 hx
    exact (hes2 j x hj).1
set_option maxRecDepth 100000 in
theorem open_call {fuel : Nat} {cs : List Value} {x : DataW H × List MemPlace} (h : DataW.trod enc Try.prog W 0 (fun _ => true) true fuel 72 cs = some x) (hw : ∀ q ∈ x.1.weights Try.prog 72, q ≤ 140737488351232) :
    ∃ c : CV, cs = c.cells ∧ SrcV W c.sd (bc c.d) ∧ c.d.length ≤ 140737488351232 ∧ ELV W c.sp c.p.l ∧ c.p.l.length ≤ c.cp ∧ ∀ x ∈ c.p.l, x.2.length ≤ 140737488351232 := by
  obtain ⟨ys, n', hn', hy, hlen, hyl, hf⟩ := DataW.trod_struct Try.underlying72 h
  rw [show Try.prog.cellsOf 72 = 11 from by kernel_rfl] at hlen
  obtain ⟨c0, c1, c2, c3, c4, c5, c6, c7, c8, c9, c10, rfl⟩ : ∃ a b c d e f g h i j k, cs = [a, b, c, d, e, f, g, h, i, j, k] := by
    match cs, hlen with
    | [a, b, c, d, e, f, g, h, i, j, k], _ => exact ⟨a, b, c, d, e, f, g, h, i, j, k, rfl⟩
  obtain ⟨y0, y1, y2, y3, y4, rfl⟩ : ∃ a b c d e, ys = [a, b, c, d, e] := by
    have h4 : ys.length = 5 := hyl
    match ys, h4 with
    | [a, b, c, d, e], _ => exact ⟨a, b, c, d, e, rfl⟩
  have ki : Try.prog.cellsOf 3 = 1 := by kernel_rfl
  have kb : Try.prog.cellsOf 41 = 1 := by kernel_rfl
  have kp : Try.prog.cellsOf 69 = 5 := by kernel_rfl
  have ka : Try.prog.cellsOf 70 = 3 := by kernel_rfl
  have f0 : DataW.trod enc Try.prog W 0 (fun _ => true) true n' 3 [c0] = some y0 := by
    have e : (List.drop 0 [c0, c1, c2, c3, c4, c5, c6, c7, c8, c9, c10]).take (Try.prog.cellsOf 3) = [c0] := by rw [ki]; rfl
    rw [← e]; exact hf 0 _ rfl
  have f1 : DataW.trod enc Try.prog W 0 (fun _ => true) true n' 41 [c1] = some y1 := by
    have e : (List.drop 1 [c0, c1, c2, c3, c4, c5, c6, c7, c8, c9, c10]).take (Try.prog.cellsOf 41) = [c1] := by rw [kb]; rfl
    rw [← e]; exact hf 1 _ rfl
  have f2 : DataW.trod enc Try.prog W 0 (fun _ => true) true n' 3 [c2] = some y2 := by
    have e : (List.drop 2 [c0, c1, c2, c3, c4, c5, c6, c7, c8, c9, c10]).take (Try.prog.cellsOf 3) = [c2] := by rw [ki]; rfl
    rw [← e]; exact hf 2 _ rfl
  have f3 : DataW.trod enc Try.prog W 0 (fun _ => true) true n' 69 [c3, c4, c5, c6, c7] = some y3 := by
    have e : (List.drop 3 [c0, c1, c2, c3, c4, c5, c6, c7, c8, c9, c10]).take (Try.prog.cellsOf 69) = [c3, c4, c5, c6, c7] := by rw [kp]; rfl
    rw [← e]; exact hf 3 _ rfl
  have f4 : DataW.trod enc Try.prog W 0 (fun _ => true) true n' 70 [c8, c9, c10] = some y4 := by
    have e : (List.drop 8 [c0, c1, c2, c3, c4, c5, c6, c7, c8, c9, c10]).take (Try.prog.cellsOf 70) = [c8, c9, c10] := by rw [ka]; rfl
    rw [← e]; exact hf 4 _ rfl
  have hw1 : ∀ q ∈ y1.1.weights Try.prog 41, q ≤ 140737488351232 := fun q hq => hw q (by
    rw [hy]; simp only [DataW.weights, Try.underlying72]
    exact DataW.weights_mem_each (j := 1) (t := 41) rfl rfl q hq)
  have hw3 : ∀ q ∈ y3.1.weights Try.prog 69, q ≤ 140737488351232 := fun q hq => hw q (by
    rw [hy]; simp only [DataW.weights, Try.underlying72]
    exact DataW.weights_mem_each (j := 3) (t := 69) rfl rfl q hq)
  obtain ⟨z0, rfl, _⟩ := open_intW Try.underlying3 f0
  obtain ⟨sd, ld, cd, rfl⟩ := open_sliceW Try.underlying41 f1
  obtain ⟨bs, hbl, hbs, _, _, hbw⟩ := open_intsW Try.underlying41 Try.underlying5 (by kernel_rfl) f1 hw1
  rw [show Try.prog.bytesOf 5 = 1 from by kernel_rfl, Nat.mul_one] at hbw
  subst hbl
  obtain ⟨z2, rfl, _⟩ := open_intW Try.underlying3 f2
  have g := open_one Try.underlying69 (by kernel_rfl) f3 rfl
  obtain ⟨v0, n0, u0, e0, t0, _⟩ := g 0 _ rfl
  obtain ⟨v1, n1, u1, e1, t1, _⟩ := g 1 _ rfl
  obtain ⟨v2, n2, u2, e2, t2, _⟩ := g 2 _ rfl
  obtain ⟨v3, n3, u3, e3, t3, w3⟩ := g 3 _ rfl
  obtain ⟨v4, n4, u4, e4, t4, _⟩ := g 4 _ rfl
  injection e0 with e0; injection e1 with e1; injection e2 with e2; injection e3 with e3; injection e4 with e4
  subst e0; subst e1; subst e2; subst e3; subst e4
  obtain ⟨p0, rfl, _⟩ := open_intW Try.underlying2 t0
  obtain ⟨p1, rfl, _⟩ := open_intW Try.underlying3 t1
  obtain ⟨p2, rfl, _⟩ := open_intW Try.underlying2 t2
  obtain ⟨sp, lp, cp, rfl⟩ := open_sliceW Try.underlying25 t3
  obtain ⟨p4, rfl, _⟩ := open_intW Try.underlying3 t4
  have hcp := open_capW Try.underlying25 t3
  obtain ⟨es, hes, hel, hez⟩ := open_entsW t3 (fun q hq => hw3 q (w3 q hq))
  subst hes
  have g' := open_one Try.underlying70 (by kernel_rfl) f4 rfl
  obtain ⟨v0, n0, u0, e0, t0, _⟩ := g' 0 _ rfl
  obtain ⟨v1, n1, u1, e1, t1, _⟩ := g' 1 _ rfl
  obtain ⟨v2, n2, u2, e2, t2, _⟩ := g' 2 _ rfl
  injection e0 with e0; injection e1 with e1; injection e2 with e2
  subst e0; subst e1; subst e2
  obtain ⟨q0, rfl, _⟩ := open_intW Try.underlying2 t0
  obtain ⟨q1, rfl⟩ := open_boolW Try.underlying4 t1
  obtain ⟨q2, rfl, _⟩ := open_intW Try.underlying3 t2
  exact ⟨⟨z0, bs, sd, cd, z2, ⟨p0, p1, p2, es, p4⟩, sp, cp, (q0, q1, q2)⟩, rfl, hbs, hbw, hel, hcp, hez⟩
theorem open_calls {co : Option Addr} {len cap : Nat} {d : DataW H} {p : List MemPlace}
    (h : DataW.Trod enc Try.prog W 0 (fun _ => true) true 62 (.slice co len cap) d p) (hw : ∀ q ∈ d.weights Try.prog 62, q ≤ 140737488351232) : CLS W co len := by
  obtain ⟨fuel, hf0⟩ := h
  have hf : DataW.trod enc Try.prog W 0 (fun _ => true) true fuel 62 [.slice co len cap] = some (d, p) := hf0
  rcases open_slice Try.underlying62 hf with ⟨hcs, _⟩ | ⟨A, l, c, m, n, D, Pl, hcs, hb, hl, hm, hmm, hx, hi⟩
  · simp only [List.cons.injEq, Value.slice.injEq, and_true] at hcs
    obtain ⟨rfl, rfl, rfl⟩ := hcs
    exact ⟨[], rfl, by omega, fun j c hj => by simp at hj⟩
  · simp only [List.cons.injEq, Value.slice.injEq, and_true] at hcs
    obtain ⟨rfl, rfl, rfl⟩ := hcs
    have hm2 : m = cap := hmm
    subst hm2
    simp only [Prod.mk.injEq] at hx
    have hall : ∀ i, i < len → ∃ c : CV, CallAt W A i c := by
      intro i him
      obtain ⟨cs', hc, ht'⟩ := hi i (by omega)
      rw [show Try.prog.cellsOf 72 = 11 from by kernel_rfl] at hc
      obtain ⟨_, hcl, hat⟩ := World.cells?_some hc
      have hwi : ∀ q ∈ (D i).weights Try.prog 72, q ≤ 140737488351232 := fun q hq => hw q (by
        rw [hx.1]
        simp only [DataW.weights, Try.underlying62, List.mem_cons, List.mem_append]
        exact .inr (.inl (wt_all (d := D i) (List.mem_map.2 ⟨i, by simpa using him, rfl⟩) q hq)))
      obtain ⟨cv, rfl, h1, h2, h3, h4, h5⟩ := open_call ht' hwi
      refine ⟨cv, fun j v hv => ?_, h1, h2, h3, h4, h5⟩
      have hj : j < 11 := (List.getElem?_eq_some_iff.1 hv).1
      rw [← Go.Deep.add_add, hat j hj]
      exact hv
    obtain ⟨cs, hcs, hcs2⟩ := list_of len hall
    exact ⟨cs, hcs, by unfold maxLen at hm; omega, fun j c hj => ⟨A, rfl, hcs2 j c hj⟩⟩
end
end Go.Proofs.Ytofpkmfjigjlhaa.Own
