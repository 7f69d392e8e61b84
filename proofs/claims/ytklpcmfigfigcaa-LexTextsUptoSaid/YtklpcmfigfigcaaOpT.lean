/- Words that come in, of a bulk that is bounded. No conditions beside those in the lemmas. -/
import Derived.Test.YtklpcmfigfigcaaLtT
import Derived.Test.YtklpcmfigfigcaaOp
import Derived.Test.YtklpcmfigfigcaaRows
namespace Go.Proofs.Ytklpcmfigfigcaa.Own
open Go.RowKit Go.WideShapes Go.ChangeShapes Go.Deep Go.Proofs.YtklpcmfigfigcaaW.PrintWords Go.Proofs.Ytklpcmfigfigcaa.Pt
set_option linter.unusedSimpArgs false
set_option linter.unusedVariables false
/-- The bytes of words, and one more for each. -/
def wsum : List S45 → Nat
  | [] => 0
  | t :: l => t.f1.size + 1 + wsum l
theorem wsum_app (l m : List S45) : wsum (l ++ m) = wsum l + wsum m := by
  induction l with
  | nil => simp [wsum]
  | cons t l ih => simp only [List.cons_append, wsum, ih]; omega
theorem wsum_len (l : List S45) : l.length ≤ wsum l := by
  induction l with
  | nil => simp [wsum]
  | cons t l ih => simp only [List.length_cons, wsum]; omega
theorem tail_wsum (l : List S45) : (Lib.joinTail [32] (l.map (·.f1.data.toList))).length = wsum l := by
  induction l with
  | nil => rfl
  | cons t l ih =>
    have e : t.f1.data.toList.length = t.f1.size := by rw [Array.length_toList]; rfl
    have h : Lib.joinTail [32] ((t :: l).map (·.f1.data.toList)) = ([32] ++ t.f1.data.toList) ++ Lib.joinTail [32] (l.map (·.f1.data.toList)) := rfl
    rw [h, List.length_append, List.length_append, ih, e, wsum]
    show 1 + t.f1.size + wsum l = _
    omega
theorem jn_wsum (l : List S45) : (jn l l.length).size ≤ wsum l := by
  rw [jn_size, List.take_length]
  cases l with
  | nil => simp [Lib.join_nil, wsum]
  | cons t l =>
    have e : t.f1.data.toList.length = t.f1.size := by rw [Array.length_toList]; rfl
    rw [List.map_cons, Lib.join_cons, List.length_append, tail_wsum, wsum, e]
    omega
theorem bulkAll_app {H : Type} (l r : List (DataW H)) : Rows.uptoBulkAll (l ++ r) = Rows.uptoBulkAll l + Rows.uptoBulkAll r := by
  induction l with
  | nil => simp [Rows.uptoBulkAll]
  | cons x l ih => simp only [List.cons_append, Rows.uptoBulkAll, ih]; omega
/-- A struct's one string among its bulk. -/
theorem bulk_str {H : Type} (a b c : DataW H) (s : List UInt8) : s.length + 1 ≤ Rows.uptoBulk (.agg [a, .lit (.string s), b, c]) := by
  simp only [Rows.uptoBulk, Rows.uptoBulkAll]
  omega
section
variable {H : Type} {enc : TypeId × Value → H} {W : World}
theorem open_tok {fuel : Nat} {cs : List Value} {x : DataW H × List MemPlace} (h : DataW.trod enc Try.prog W 0 (fun _ => true) true fuel 45 cs = some x) :
    ∃ t : S45, cs = [.int .i64 t.f0, .string t.f1, .int .i64 t.f2, .int .i64 t.f3] ∧ t.f1.size + 1 ≤ Rows.uptoBulk x.1 ∧ (Lit.int .i64 t.f0).wf = true := by
  obtain ⟨ys, n', hn', hy, hlen, hyl, hf⟩ := DataW.trod_struct Try.underlying45 h
  rw [show Try.prog.cellsOf 45 = 4 from by kernel_rfl] at hlen
  obtain ⟨c0, c1, c2, c3, rfl⟩ : ∃ a b c d, cs = [a, b, c, d] := by
    match cs, hlen with
    | [a, b, c, d], _ => exact ⟨a, b, c, d, rfl⟩
  obtain ⟨y0, y1, y2, y3, rfl⟩ : ∃ a b c d, ys = [a, b, c, d] := by
    have h4 : ys.length = 4 := hyl
    match ys, h4 with
    | [a, b, c, d], _ => exact ⟨a, b, c, d, rfl⟩
  have k3 : Try.prog.cellsOf 3 = 1 := by kernel_rfl
  have k9 : Try.prog.cellsOf 9 = 1 := by kernel_rfl
  have k8 : Try.prog.cellsOf 2 = 1 := by kernel_rfl
  have f0 : DataW.trod enc Try.prog W 0 (fun _ => true) true n' 3 [c0] = some y0 := by
    have e : (List.drop 0 [c0, c1, c2, c3]).take (Try.prog.cellsOf 3) = [c0] := by rw [k3]; rfl
    rw [← e]
    exact hf 0 _ rfl
  have f1 : DataW.trod enc Try.prog W 0 (fun _ => true) true n' 9 [c1] = some y1 := by
    have e : (List.drop 1 [c0, c1, c2, c3]).take (Try.prog.cellsOf 9) = [c1] := by rw [k9]; rfl
    rw [← e]
    exact hf 1 _ rfl
  have f2 : DataW.trod enc Try.prog W 0 (fun _ => true) true n' 2 [c2] = some y2 := by
    have e : (List.drop 2 [c0, c1, c2, c3]).take (Try.prog.cellsOf 2) = [c2] := by rw [k8]; rfl
    rw [← e]
    exact hf 2 _ rfl
  have f3 : DataW.trod enc Try.prog W 0 (fun _ => true) true n' 3 [c3] = some y3 := by
    have e : (List.drop 3 [c0, c1, c2, c3]).take (Try.prog.cellsOf 3) = [c3] := by rw [k3]; rfl
    rw [← e]
    exact hf 3 _ rfl
  obtain ⟨z0, rfl, w0⟩ := open_intW Try.underlying3 f0
  obtain ⟨s, hs, hs2, _⟩ := DataW.trod_string Try.underlying9 f1
  obtain ⟨z2, rfl, _⟩ := open_intW Try.underlying2 f2
  obtain ⟨z3, rfl, _⟩ := open_intW Try.underlying3 f3
  simp at hs
  subst hs
  refine ⟨⟨z0, s, z2, z3⟩, rfl, ?_, w0⟩
  rw [hy]
  rw [hs2]
  have e : s.data.toList.length = s.size := by rw [Array.length_toList]; rfl
  simp only [List.map_cons, List.map_nil, Rows.uptoBulk, Rows.uptoBulkAll, e]
  omega
theorem open_toks {co : Option Addr} {len cap : Nat} {d : DataW H} {p : List MemPlace} (h : DataW.Trod enc Try.prog W 0 (fun _ => true) true 33 (.slice co len cap) d p) :
    ∃ ts : List S45, ts.length = len ∧ len ≤ cap ∧ Kd.C k45 W co len ts ∧ wsum ts ≤ Rows.uptoBulk d := by
  obtain ⟨fuel, hf0⟩ := h
  have hf : DataW.trod enc Try.prog W 0 (fun _ => true) true fuel 33 [.slice co len cap] = some (d, p) := hf0
  rcases open_slice Try.underlying33 hf with ⟨hcs, _⟩ | ⟨A, l, c, m, n, D, Pl, hcs, hb, hl, hm, hmm, hx, hi⟩
  · simp only [List.cons.injEq, Value.slice.injEq, and_true] at hcs
    obtain ⟨rfl, rfl, rfl⟩ := hcs
    exact ⟨[], rfl, Nat.le_refl _, ⟨rfl, by omega, fun h => absurd h (by omega)⟩, by simp [wsum]⟩
  · simp only [List.cons.injEq, Value.slice.injEq, and_true] at hcs
    obtain ⟨rfl, rfl, rfl⟩ := hcs
    have hm2 : m = cap := hmm
    subst hm2
    have hall : ∀ i, i < len → ∃ t : S45, t.f1.size + 1 ≤ Rows.uptoBulk (D i) ∧ ∀ j u, [Value.int .i64 t.f0, .string t.f1, .int .i64 t.f2, .int .i64 t.f3][j]? = some u → W.cell? (A.add (i * 4 + j)) = some u := by
      intro i him
      obtain ⟨cs', hc, ht'⟩ := hi i (by omega)
      rw [show Try.prog.cellsOf 45 = 4 from by kernel_rfl] at hc
      obtain ⟨t, rfl, hbk, _⟩ := open_tok ht'
      obtain ⟨_, hcl, hat⟩ := World.cells?_some hc
      refine ⟨t, hbk, fun j u hu => ?_⟩
      have hj : j < 4 := (List.getElem?_eq_some_iff.1 hu).1
      rw [← Go.Deep.add_add, hat j hj]
      exact hu
    obtain ⟨ts, hts, hts2⟩ := list_of len hall
    have hsum : ∀ k, k ≤ len → wsum (ts.take k) ≤ Rows.uptoBulkAll ((List.range k).map D) := by
      intro k
      induction k with
      | zero => intro _; simp [wsum, Rows.uptoBulkAll]
      | succ k ih =>
        intro hk
        have hg : ts[k]? = some (ts[k]'(by omega)) := List.getElem?_eq_getElem (by omega)
        have h1 := (hts2 k _ hg).1
        have h2 := ih (by omega)
        rw [List.range_succ, List.map_append, bulkAll_app, List.take_add_one, hg, wsum_app]
        simp only [List.map_cons, List.map_nil, Rows.uptoBulkAll, Option.toList_some, wsum]
        omega
    have h3 := hsum len (Nat.le_refl _)
    rw [List.take_of_length_le (by omega)] at h3
    refine ⟨ts, hts, hl, ⟨hts, by unfold maxLen at hm; omega, fun _ => ⟨A, rfl, fun j t ht => ⟨_, rfl, k45_mk W t, (hts2 j t ht).2⟩⟩⟩, ?_⟩
    simp only [Prod.mk.injEq] at hx
    rw [hx.1]
    simp only [Rows.uptoBulk]
    omega
end
theorem texts_k {W : World} (ts : List S45) (a : ByteArray) (at_ : Int) (co : Option Addr) (cap : Nat) (hC : Kd.C k45 W co ts.length ts) (hc : ts.length ≤ cap) (hz : wsum ts ≤ 1048576) (ha : a.size ≤ 1048576) :
    Calls Try.prog 7 #[.slice co ts.length cap, .string a, .int .i64 at_] W fun e W' => e = .returned (.bool true) ∧ Below W.heap.size W W' := by
  have h1 := wsum_len ts
  have h2 := jn_wsum ts
  exact dayshiftlaw07_LexTexts.calls 4000000 co cap ts a at_ true W hC hc (texts_f ts a at_ (by omega) (by omega) (by omega))
end Go.Proofs.Ytklpcmfigfigcaa.Own
