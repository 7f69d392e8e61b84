/- What a law over a log keeps beside it: bytes and records that lie in rows in sight, or came in; calls that come in. No conditions beside those in each lemma. -/
import Derived.Test.YtaonaifnaecpiaaKpP
import Derived.Test.YtaonaifnaecpiaaME
import Derived.Test.YtaonaifnaecpiaaWtn
import Derived.Test.YtaonaifnaecpiaaOpL4
import Derived.Test.YtaonaifnaecpiaaApF
namespace Go.Proofs.Ytaonaifnaecpiaa.Own
open Go.RowKit Go.WideShapes Go.ChangeShapes Go.Deep
set_option linter.unusedSimpArgs false
set_option linter.unusedVariables false
/-- Bytes that are read as long as the rows xs lie as they lie. -/
def SB (w : World) (xs : List (Nat × List Value)) (s : Option Addr) (bs : List Int) : Prop := ∀ W1, KR w xs W1 → SrcV W1 s (bcl bs)
def RB (w : World) (xs : List (Nat × List Value)) (s : Option Addr) (R : List (List Int)) : Prop :=
  ∃ vals : List Value, vals.length = R.length ∧ (∀ W1, KR w xs W1 → SrcV W1 s vals) ∧ ∀ (j : Nat) (u : Value) (r : List Int), vals[j]? = some u → R[j]? = some r → ∃ sj cj, u = .slice sj r.length cj ∧ SB w xs sj r
section
variable {w W : World} {xs ys l : List (Nat × List Value)} {s : Option Addr} {bs : List Int} {R : List (List Int)}
theorem sb_mono (h : SB w xs s bs) (hs : xs.Sublist ys) : SB w ys s bs := fun W1 H => h W1 (kr_sub H hs)
theorem rb_mono (h : RB w xs s R) (hs : xs.Sublist ys) : RB w ys s R := by
  obtain ⟨vals, h1, h2, h3⟩ := h
  refine ⟨vals, h1, fun W1 H => h2 W1 (kr_sub H hs), fun j u r hu hr => ?_⟩
  obtain ⟨sj, cj, h4, h5⟩ := h3 j u r hu hr
  exact ⟨sj, cj, h4, sb_mono h5 hs⟩
theorem sb_old (h : SrcV w s (bcl bs)) : SB w xs s bs := fun W1 H => srcV_keep h H.below
theorem sb_nil : SB w xs s [] := fun W1 _ h => absurd h (by simp [bcl])
theorem rb_nil : RB w xs s [] := ⟨[], rfl, fun W1 _ h => absurd h (by simp), fun j u r hu => by simp at hu⟩
theorem sb_fc {n c : Nat} (h : FC l (.slice s n c) bs) (hl : ∀ p ∈ l, p ∈ xs) : SB w xs s bs := fun W1 H => fc_srcV2 H (fc_monoL h hl)
theorem rb_rv {n c : Nat} (h : RV l (.slice s n c) R) (hl : ∀ p ∈ l, p ∈ xs) : RB w xs s R := by
  obtain ⟨sp, cap, h1, h2, h3⟩ := h
  injection h1 with e1 e2 e3
  subst e1
  by_cases h0 : 0 < R.length
  · obtain ⟨b, off, row, rfl, h5, h6⟩ := h3 h0
    have hlen : off + R.length ≤ row.length := by
      obtain ⟨u, h7, _⟩ := h6 (R.length - 1) _ (List.getElem?_eq_getElem (by omega))
      have := (List.getElem?_eq_some_iff.1 h7).1
      omega
    have hg : ∀ j, j < R.length → ((row.drop off).take R.length)[j]? = row[off + j]? := fun j hj => by rw [List.getElem?_take, if_pos hj, List.getElem?_drop]
    refine ⟨(row.drop off).take R.length, by rw [List.length_take, List.length_drop]; omega, fun W1 H _ => ⟨_, rfl, fun j v hv => ?_⟩, fun j u r hu hr => ?_⟩
    · have hj : j < R.length := by have := (List.getElem?_eq_some_iff.1 hv).1; rw [List.length_take] at this; omega
      rw [hg j hj] at hv
      rw [Addr.add_mid]
      exact range_cell (kr_mem H (hl _ h5)) _ _ hv
    · have hj := (List.getElem?_eq_some_iff.1 hr).1
      rw [hg j hj] at hu
      obtain ⟨u', h7, h8⟩ := h6 j r hr
      rw [hu] at h7
      injection h7 with h7
      subst h7
      obtain ⟨sj, cj, rfl, _⟩ := fc_form h8
      exact ⟨sj, cj, rfl, sb_fc h8 hl⟩
  · have : R = [] := List.eq_nil_of_length_eq_zero (by omega)
    subst this
    exact rb_nil
theorem rb_llv (h : RB w xs s R) (H : KR w xs W) : LLV W s R := fun h0 => by
  obtain ⟨vals, h1, h2, h3⟩ := h
  obtain ⟨A, hA, hc⟩ := h2 W H (by omega)
  refine ⟨A, hA, fun j r hr => ?_⟩
  have hj := (List.getElem?_eq_some_iff.1 hr).1
  have hv : vals[j]? = some (vals[j]'(by omega)) := List.getElem?_eq_getElem (by omega)
  obtain ⟨sj, cj, e, h4⟩ := h3 j _ r hv hr
  exact ⟨sj, cj, by rw [← e]; exact hc j _ hv, h4 W H⟩
theorem sc_stable {size n : Nat} {v : Value} {cs : List Value} (h : SC l size v n cs) (hl : ∀ p ∈ l, p ∈ xs) : ∃ s c, v = .slice s n c ∧ ∀ W1, KR w xs W1 → SrcV W1 s cs := by
  rcases h with ⟨rfl, rfl, rfl⟩ | ⟨b, cap, row, rfl, h1, h2, h3, h4⟩
  · exact ⟨_, _, rfl, fun W1 _ h => absurd h (by simp)⟩
  · exact ⟨_, _, rfl, fun W1 H => srcV_row H (hl _ h1) h4⟩
/-- A record more, in a list of its own. -/
theorem rb_push {n : Nat} {v : Value} {vals : List Value} {sb : Option Addr} {m cb : Nat} (hv : vals.length = R.length) (hR : R.length = n) (hel : ∀ (j : Nat) (u : Value) (r : List Int), vals[j]? = some u → R[j]? = some r → ∃ sj cj, u = .slice sj r.length cj ∧ SB w xs sj r)
    (hm : bs.length = m) (hb : SB w xs sb bs) (h : SC l 1 v (n + 1) (vals ++ [.slice sb m cb])) : ∃ s c, v = .slice s (n + 1) c ∧ RB w (l ++ xs) s (R ++ [bs]) := by
  obtain ⟨s, c, rfl, hs⟩ := sc_stable (w := w) (xs := l ++ xs) h (fun p hp => List.mem_append_left _ hp)
  refine ⟨s, c, rfl, vals ++ [.slice sb m cb], by rw [List.length_append, List.length_append, hv]; rfl, hs, fun j u r hu hr => ?_⟩
  by_cases hj : j < R.length
  · rw [List.getElem?_append_left (by omega)] at hu
    rw [List.getElem?_append_left hj] at hr
    obtain ⟨sj, cj, h1, h2⟩ := hel j u r hu hr
    exact ⟨sj, cj, h1, sb_mono h2 (List.sublist_append_right _ _)⟩
  · rw [List.getElem?_append_right (by omega)] at hu hr
    have e : j - vals.length = 0 := by
      have := (List.getElem?_eq_some_iff.1 hu).1
      simp at this
      omega
    rw [e] at hu
    rw [← hv, e] at hr
    simp at hu hr
    subst hr
    exact ⟨sb, cb, by rw [← hu, hm], sb_mono hb (List.sublist_append_right _ _)⟩
end
theorem ub_info : (Try.prog.info? 23).map (fun i => (i.zero, i.size, i.bytes)) = some (some (.slice none 0 0), 1, 24) := by kernel_rfl
theorem src_made4 {W : World} (cs : List Value) (t : TypeId) : SrcV (W.alloc (.cells cs.toArray t)) (some ⟨W.heap.size, 0, none⟩) cs := fun _ => ⟨_, rfl, fun j v hv => by
  rw [Addr.add_mid, Nat.zero_add, World.cell?_alloc_new]; simpa using hv⟩
/-! Calls that come in. -/
structure A4 where
  k : Int
  b : List Int
  sb : Option Addr
  cb : Nat
  n : Int
  ks : List Int
  sk : Option Addr
  ck : Nat
structure A4At (W : World) (A : Addr) (i : Nat) (a : A4) : Prop where
  c0 : W.cell? (A.add (i * 4)) = some (.int .i64 a.k)
  c1 : W.cell? ⟨(A.add (i * 4)).block, (A.add (i * 4)).off + 1, none⟩ = some (.slice a.sb a.b.length a.cb)
  c2 : W.cell? ⟨(A.add (i * 4)).block, (A.add (i * 4)).off + 2, none⟩ = some (.int .i64 a.n)
  c3 : W.cell? ⟨(A.add (i * 4)).block, (A.add (i * 4)).off + 3, none⟩ = some (.slice a.sk a.ks.length a.ck)
  src : SrcV W a.sb (bcl a.b)
  isb : isB a.b
  bl : a.b.length ≤ 140737488351232
  kp : SrcV W a.sk (a.ks.map (.int .i64))
  wn : (Lit.int .i64 a.n).wf = true
def ACS (W : World) (co : Option Addr) (len : Nat) : Prop := ∃ cs : List A4, cs.length = len ∧ len ≤ 9223372036854775807 ∧ ∀ (j : Nat) (a : A4), cs[j]? = some a → ∃ A : Addr, co = some A ∧ A4At W A j a
theorem open_acts4 {H : Type} {enc : TypeId × Value → H} {W : World} {co : Option Addr} {len cap : Nat} {d : DataW H} {p : List MemPlace}
    (h : DataW.Trod enc Try.prog W 0 (fun _ => true) true 41 (.slice co len cap) d p) (hw : ∀ q ∈ d.weights Try.prog 41, q ≤ 140737488351232) : ACS W co len := by
  obtain ⟨fuel, hf⟩ := h
  obtain ⟨hlen, _, hi⟩ := open_fieldsW Try.underlying41 Try.underlying49 (by kernel_rfl) (by kernel_rfl) hf hw
  have hone : ∀ i, i < len → ∃ a : A4, ∃ A : Addr, co = some A ∧ A4At W A i a := by
    intro i hil
    obtain ⟨A, hA, hf0⟩ := hi i hil
    obtain ⟨n0, v0, y0, e0, t0, _⟩ := hf0 0 _ rfl
    obtain ⟨n1, v1, y1, e1, t1, w1⟩ := hf0 1 _ rfl
    obtain ⟨n2, v2, y2, e2, t2, _⟩ := hf0 2 _ rfl
    obtain ⟨n3, v3, y3, e3, t3, w3⟩ := hf0 3 _ rfl
    obtain ⟨z0, rfl, _⟩ := open_intW Try.underlying3 t0
    obtain ⟨sb, lb, cb, rfl⟩ := open_sliceW Try.underlying23 t1
    obtain ⟨bs, h1, h2, h3, h4, h5⟩ := open_bytesW0 t1 w1
    obtain ⟨z2, rfl, b2⟩ := open_intW Try.underlying3 t2
    obtain ⟨sk, lk, ck, rfl⟩ := open_sliceW Try.underlying47 t3
    obtain ⟨ks, k1, k2, _, _, _⟩ := open_intsW Try.underlying47 Try.underlying3 (by kernel_rfl) t3 w3
    subst h1
    subst k1
    rw [← Go.Deep.add_add] at e1 e2 e3
    exact ⟨⟨z0, bs, sb, cb, z2, ks, sk, ck⟩, A, hA, ⟨e0, e1, e2, e3, h2, h3, h4, k2, b2⟩⟩
  obtain ⟨cs, hx, hx2⟩ := list_of len hone
  exact ⟨cs, hx, by unfold maxLen at hlen; omega, hx2⟩
theorem act_keep {w : World} {a : A4} {A : Addr} {i : Nat} (h : A4At w A i a) {xs : List (Nat × List Value)} : ∀ W1, KR w xs W1 → ∀ j, j < a.ks.length → ∃ A, a.sk = some A ∧ W1.cell? (A.add j) = some (.int .i64 (a.ks.getD j 0)) := fun W1 H j hj => by
  obtain ⟨B, hB, hc⟩ := srcV_keep h.kp H.below (by rw [List.length_map]; omega)
  refine ⟨B, hB, hc j _ ?_⟩
  rw [List.getElem?_map, List.getD_eq_getElem?_getD, List.getElem?_eq_getElem hj]
  rfl
end Go.Proofs.Ytaonaifnaecpiaa.Own
