/- What a slice of calls holds that comes in. No conditions beside those in the lemmas. -/
import Derived.Test.YtplonehidfefdaaOpen03
import Derived.Deep.Slices
import Derived.Deep.Fields
import Derived.ChangeSame
namespace Go.Proofs.Ytplonehidfefdaa.Own
open Go.RowKit Go.WideShapes Go.ChangeShapes Go.Deep
theorem open_slice_fields {H : Type} {enc : TypeId × Value → H} {P : Program} {w : World} {base : Nat} {spare : Nat → Bool} {held : Bool} {t e : TypeId} {fs : Array Field} {fuel : Nat} {cs : List Value} {x : DataW H × List MemPlace} (ht : P.underlying t = some (.slice e)) (he : P.underlying e = some (.struct fs))
    (hone : oneCellFields P fs = true) (hC : P.cellsOf e = fs.size) (h : DataW.trod enc P w base spare held fuel t cs = some x) :
    (cs = [.slice none 0 0] ∧ x = (.nil, [])) ∨
    ∃ (a : Addr) (len cap m : Nat), cs = [.slice (some a) len cap] ∧ len ≤ cap ∧ cap ≤ maxLen ∧ m = (if spare a.block then cap else len) ∧
      ∀ i, i < m → ∀ (j : Nat) (f : Field), fs[j]? = some f → ∃ (n : Nat) (v : Value) (y : DataW H × List MemPlace), w.cell? (a.add (i * fs.size + j)) = some v ∧ DataW.trod enc P w base spare held n f.type [v] = some y := by
  rcases open_slice ht h with h0 | ⟨a, len, cap, m, n, D, Pl, hcs, hb, hl, hm, hmm, hx, hi⟩
  · exact .inl h0
  · refine .inr ⟨a, len, cap, m, hcs, hl, hm, hmm, fun i him => ?_⟩
    obtain ⟨cs', hc, ht'⟩ := hi i him
    rw [hC] at hc
    obtain ⟨ys, n', hn', hy, hlen, hyl, hf⟩ := DataW.trod_struct he ht'
    obtain ⟨_, hcl, hat⟩ := World.cells?_some hc
    intro j f hj
    obtain ⟨ho, hk⟩ := hone_of hone j f hj
    have hjl : j < fs.size := (Array.getElem?_eq_some_iff.1 hj).1
    have hcell := hat j hjl
    have hv : cs'[j]? = some (cs'[j]'(by omega)) := List.getElem?_eq_getElem (by omega)
    have h1 := hf j f hj
    rw [ho, hk] at h1
    have hone' : (cs'.drop j).take 1 = [cs'[j]'(by omega)] := by
      rw [List.drop_eq_getElem_cons (by omega)]
      rfl
    rw [hone'] at h1
    have hys : ys[j]? = some (ys[j]'(by omega)) := List.getElem?_eq_getElem (by omega)
    refine ⟨_, _, _, ?_, h1.trans hys⟩
    rw [← Go.Deep.add_add, hcell, hv]
/-- A call as it lies in memory, with what its slices hold. -/
structure AV where
  kind : Int
  f : Int
  g : Int
  n : Int
  bs : List Int
  ks : List Int
  nb : Nat
  nk : Nat
  bp : Option Addr
  bcap : Nat
  kp : Option Addr
  kcap : Nat
structure AvAt (W : World) (A : Addr) (i : Nat) (x : AV) : Prop where
  c0 : W.cell? (A.add (i * 6)) = some (.int .i64 x.kind)
  c1 : W.cell? (A.add (i * 6 + 1)) = some (.int .i64 x.f)
  c2 : W.cell? (A.add (i * 6 + 2)) = some (.int .i64 x.g)
  c3 : W.cell? (A.add (i * 6 + 3)) = some (.slice x.bp x.nb x.bcap)
  c4 : W.cell? (A.add (i * 6 + 4)) = some (.int .i64 x.n)
  c5 : W.cell? (A.add (i * 6 + 5)) = some (.slice x.kp x.nk x.kcap)
  hb : x.bs.length = x.nb
  sb : Src W x.bp x.bs
  mb : x.nb ≤ 9223372036854775807
  hk : x.ks.length = x.nk
  sk : ∀ j : Nat, j < x.nk → ∃ B : Addr, x.kp = some B ∧ W.cell? (B.add j) = some (.int .i64 (x.ks.getD j 0))
  lo : -9223372036854775808 ≤ x.n
  hi : x.n ≤ 9223372036854775807
theorem av_keep {W W' : World} {A : Addr} {i : Nat} {x : AV} (h : AvAt W A i x) (hb : Below W.heap.size W W') : AvAt W' A i x := by
  have hc : ∀ (p : Addr) (v : Value), W.cell? p = some v → W'.cell? p = some v := fun p v hp => by
    rw [← hp]; exact hb.cell (World.block_lt_of_cell? W _ hp)
  refine ⟨hc _ _ h.c0, hc _ _ h.c1, hc _ _ h.c2, hc _ _ h.c3, hc _ _ h.c4, hc _ _ h.c5, h.hb, src_keep h.sb hb, h.mb, h.hk, fun j hj => ?_, h.lo, h.hi⟩
  obtain ⟨B, hB, hx⟩ := h.sk j hj
  exact ⟨B, hB, hc _ _ hx⟩
theorem trod_i64 {H : Type} {enc : TypeId × Value → H} {W : World} {t : TypeId} (ht : Try.prog.underlying t = some (.int .i64)) {n : Nat} {v : Value} {y : DataW H × List MemPlace} (h : DataW.trod enc Try.prog W 0 (fun _ => true) true n t [v] = some y) :
    ∃ z : Int, v = .int .i64 z ∧ -9223372036854775808 ≤ z ∧ z ≤ 9223372036854775807 := by
  obtain ⟨z, hz, rfl, hw⟩ := DataW.trod_int ht h
  have := bounds_i64 hw
  simp at hz
  exact ⟨z, hz, this.1, this.2⟩
theorem open_acts {H : Type} {enc : TypeId × Value → H} {W : World} {co : Option Addr} {len cap : Nat} {d : DataW H} {p : List MemPlace}
    (h : DataW.Trod enc Try.prog W 0 (fun _ => true) true 23 (.slice co len cap) d p) : ∃ xs : List AV, xs.length = len ∧ len ≤ 9223372036854775807 ∧ ∀ (j : Nat) (x : AV), xs[j]? = some x → ∃ A : Addr, co = some A ∧ AvAt W A j x := by
  obtain ⟨fuel, hf⟩ := h
  rcases open_slice_fields Try.underlying23 Try.underlying32 (by kernel_rfl) (by kernel_rfl) hf with ⟨hcs, _⟩ | ⟨A, l, c, m, hcs, hl, hm, hmm, hi⟩
  · simp [Value.cells] at hcs
    obtain ⟨rfl, rfl, rfl⟩ := hcs
    exact ⟨[], rfl, by omega, fun j x hx => by simp at hx⟩
  · simp [Value.cells] at hcs
    obtain ⟨rfl, rfl, rfl⟩ := hcs
    have hm2 : m = cap := hmm
    subst hm2
    have hone : ∀ i, i < len → ∃ x, AvAt W A i x := by
      intro i hil
      have hf0 := hi i (by omega)
      obtain ⟨n0, v0, y0, e0, t0⟩ := hf0 0 _ rfl
      obtain ⟨n1, v1, y1, e1, t1⟩ := hf0 1 _ rfl
      obtain ⟨n2, v2, y2, e2, t2⟩ := hf0 2 _ rfl
      obtain ⟨n3, v3, y3, e3, t3⟩ := hf0 3 _ rfl
      obtain ⟨n4, v4, y4, e4, t4⟩ := hf0 4 _ rfl
      obtain ⟨n5, v5, y5, e5, t5⟩ := hf0 5 _ rfl
      obtain ⟨z0, rfl, _, _⟩ := trod_i64 Try.underlying3 t0
      obtain ⟨z1, rfl, _, _⟩ := trod_i64 Try.underlying3 t1
      obtain ⟨z2, rfl, _, _⟩ := trod_i64 Try.underlying3 t2
      obtain ⟨z4, rfl, lo, hi4⟩ := trod_i64 Try.underlying3 t4
      have s3 : ∃ sp nb cb, v3 = .slice sp nb cb := by
        rcases open_slice Try.underlying22 t3 with ⟨q, _⟩ | ⟨a, l, c, _, _, _, _, q, _⟩
        · exact ⟨_, _, _, by simpa using q⟩
        · exact ⟨_, _, _, by simpa using q⟩
      have s5 : ∃ sp nb cb, v5 = .slice sp nb cb := by
        rcases open_slice Try.underlying30 t5 with ⟨q, _⟩ | ⟨a, l, c, _, _, _, _, q, _⟩
        · exact ⟨_, _, _, by simpa using q⟩
        · exact ⟨_, _, _, by simpa using q⟩
      obtain ⟨bp, nb, cb, rfl⟩ := s3
      obtain ⟨kp, nk, ck, rfl⟩ := s5
      obtain ⟨bs, hb1, hb2, hb3⟩ := open_bytes ⟨n3, t3⟩
      obtain ⟨ks, hk1, hk2⟩ := open_nums ⟨n5, t5⟩
      exact ⟨⟨z0, z1, z2, z4, bs, ks, nb, nk, bp, cb, kp, ck⟩, e0, e1, e2, e3, e4, e5, hb1, hb2, hb3, hk1, hk2, lo, hi4⟩
    have hall : ∀ n, n ≤ len → ∃ xs : List AV, xs.length = n ∧ ∀ (j : Nat) (x : AV), xs[j]? = some x → AvAt W A j x := by
      intro n
      induction n with
      | zero => exact fun _ => ⟨[], rfl, fun j x hx => by simp at hx⟩
      | succ n ih =>
        intro hn
        obtain ⟨xs, hx, hall⟩ := ih (by omega)
        obtain ⟨x, hx1⟩ := hone n (by omega)
        refine ⟨xs ++ [x], by simp [hx], fun j y hy => ?_⟩
        by_cases hj : j < xs.length
        · rw [List.getElem?_append_left hj] at hy
          exact hall j y hy
        · have hlt := (List.getElem?_eq_some_iff.1 hy).1
          simp only [List.length_append, List.length_singleton] at hlt
          have e : j = n := by omega
          subst e
          rw [← hx] at hy
          simp at hy
          subst hy
          exact hx1
    obtain ⟨xs, hx, hx2⟩ := hall len (Nat.le_refl _)
    exact ⟨xs, hx, Nat.le_trans hl (Nat.le_trans hm (by decide)), fun j x hj => ⟨A, rfl, hx2 j x hj⟩⟩
end Go.Proofs.Ytplonehidfefdaa.Own
