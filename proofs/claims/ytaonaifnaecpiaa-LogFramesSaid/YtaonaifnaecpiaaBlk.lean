/- Blocks that are known whole; what the printed texts say of rows, and what this session's rows say of them. No conditions beside those in each theorem. -/
import Derived.Test.YtaonaifnaecpiaaLent
import Derived.Test.YtaonaifnaecpiaaWWords
import Derived.Laws.Rows
namespace Go.Proofs.Ytaonaifnaecpiaa.Own
open Go.RowKit Go.Proofs.YtaonaifnaecpiaaW.PrintWords
/-- A block is these cells. -/
def Blk (W : World) (g : Nat) (l : List Value) (t : TypeId) : Prop := W.heap[g]? = some (.cells l.toArray t (0, 0))
theorem blk_cell {W : World} {g : Nat} {l : List Value} {t : TypeId} (h : Blk W g l t) (j : Nat) : W.cell? ⟨g, j, none⟩ = l[j]? := by
  rw [cell_of_row _ _ j _ _ _ h]; simp
theorem blk_free {W : World} {g : Nat} {l : List Value} {t : TypeId} (h : Blk W g l t) (j : Nat) : W.frozen? ⟨g, j, none⟩ = false := by
  unfold World.frozen?
  simp only [Blk] at h
  simp [h]
theorem blk_lt {W : World} {g : Nat} {l : List Value} {t : TypeId} (h : Blk W g l t) : g < W.heap.size := (Array.getElem?_eq_some_iff.1 h).1
theorem blk_set {W : World} {g : Nat} {l : List Value} {t : TypeId} (h : Blk W g l t) (j : Nat) (v : Value) : Blk (W.setCell ⟨g, j, none⟩ v) g (l.set j v) t := by
  unfold Blk at h ⊢
  simp only [World.setCell, Array.getElem?_modify, h]
  simp
theorem blk_below {W W' : World} {g : Nat} {l : List Value} {t : TypeId} (h : Blk W g l t) (hb : Below W.heap.size W W') : Blk W' g l t := by
  unfold Blk
  rw [hb.block g (blk_lt h)]
  exact h
theorem blk_drew {W : World} {g : Nat} {l : List Value} {t : TypeId} (h : Blk W g l t) : Blk W.drew g l t := h
theorem blk_drewN {W : World} {g : Nat} {l : List Value} {t : TypeId} (h : Blk W g l t) (n : Nat) : Blk (W.drewN n) g l t := h
theorem blk_new (W : World) (l : List Value) (t : TypeId) : Blk (W.alloc (.cells l.toArray t)) W.heap.size l t := heap_alloc_new W _
theorem blk_srcV {W : World} {g : Nat} {l : List Value} {t : TypeId} (h : Blk W g l t) (off : Nat) (cs : List Value) (hc : ∀ j v, cs[j]? = some v → l[off + j]? = some v) : SrcV W (some ⟨g, off, none⟩) cs := fun _ => ⟨_, rfl, fun j v hv => by
  rw [Addr.add_mid, blk_cell h]; exact hc j v hv⟩
theorem blk_kr {w W : World} {rs : List (Nat × List Value)} (HK : KR w rs W) {g : Nat} {l : List Value} {t : TypeId} (h : Blk W g l t) (h0 : w.heap.size ≤ g) (hne : ∀ p ∈ rs, p.1 ≠ g) : KR w ((g, l) :: rs) W := by
  refine ⟨HK.below, fun p hp => ?_, List.Pairwise.cons (fun q hq e => hne q hq e.symm) HK.apart⟩
  rcases List.mem_cons.1 hp with rfl | hp
  · refine ⟨h0, blk_lt h, fun j v hv => ?_, fun j hj => ⟨?_, ?_⟩⟩
    · rw [Nat.zero_add, blk_cell h]; exact hv
    · rw [Nat.zero_add, blk_cell h, List.getElem?_eq_getElem hj]; rfl
    · rw [Nat.zero_add]; exact blk_free h j
  · exact HK.rows p hp
/-- What a printed text reads, as this session's sources. -/
theorem c_srcV {W : World} {k : IntKind} {A : Option Addr} {n : Nat} {xs : List Int} (h : Kd.C (Kd.int k) W A n xs) : SrcV W A (xs.map (.int k)) := fun hl => by
  have hp : 0 < n := by rw [← h.1]; simpa using hl
  obtain ⟨ad, hA, hc⟩ := h.2.2 hp
  refine ⟨ad, hA, fun j v hv => ?_⟩
  rw [List.getElem?_map] at hv
  obtain ⟨x, hx, rfl⟩ := Option.map_eq_some_iff.1 hv
  obtain ⟨c, hc1, hc2, hc3⟩ := hc j x hx
  have hc2' : c = [Value.int k x] := hc2
  subst hc2'
  have hz : (Kd.int k).sz = 1 := rfl
  have := hc3 0 _ rfl
  rwa [hz, Nat.mul_one, Nat.add_zero] at this
theorem srcV_c {W : World} {k : IntKind} {A : Option Addr} {n : Nat} {xs : List Int} (hn : xs.length = n) (h2 : n ≤ 9223372036854775807) (h : SrcV W A (xs.map (.int k))) : Kd.C (Kd.int k) W A n xs := by
  refine ⟨hn, h2, fun hp => ?_⟩
  obtain ⟨ad, hA, hc⟩ := h (by rw [List.length_map, hn]; exact hp)
  refine ⟨ad, hA, fun j p hj => ⟨[.int k p], rfl, rfl, fun i u hu => ?_⟩⟩
  have hi : i = 0 := by
    have := (List.getElem?_eq_some_iff.1 hu).1
    simp at this
    exact this
  subst hi
  simp only [List.getElem?_cons_zero, Option.some.injEq] at hu
  subst hu
  have hz : (Kd.int k).sz = 1 := rfl
  rw [hz, Nat.mul_one, Nat.add_zero]
  exact hc j _ (by rw [List.getElem?_map, hj]; rfl)
theorem reps_int (k : IntKind) (xs : List Int) (P : Int → List Value → Prop) (hP : ∀ x, P x [Value.int k x]) : Reps P 1 xs (xs.map (.int k)) := by
  refine ⟨by simp, fun j p hj => ?_⟩
  have hlt := (List.getElem?_eq_some_iff.1 hj).1
  have e : ((xs.map (Value.int k)).drop (j * 1)).take 1 = [Value.int k p] := by
    rw [Nat.mul_one, List.drop_eq_getElem_cons (by simpa using hlt)]
    simp [(List.getElem?_eq_some_iff.1 hj).2]
  rw [e]
  exact hP p
/-- A block of the call's own, as the printed texts have it. -/
theorem own_R {w W : World} {rs : List (Nat × List Value)} {k : IntKind} {e : TypeId} {v : Value} {xs : List Int} (h : Own w rs e 1 v xs.length (xs.map (.int k)) W) : Kd.R (Kd.int k) e W w.heap.size (fun _ => True) v xs :=
  ⟨fun _ _ => trivial, xs.map (.int k), h.1, reps_int k xs _ (fun _ => rfl)⟩
theorem blk_R {w W : World} {k : IntKind} {e : TypeId} {g cap : Nat} {l : List Value} {xs : List Int} (h : Blk W g l e) (h0 : w.heap.size ≤ g) (hc : l.length = cap) (hm : cap ≤ maxLen) (hn : xs.length ≤ cap) (ht : l.take xs.length = xs.map (.int k)) : Kd.R (Kd.int k) e W w.heap.size (fun _ => True) (.slice (some ⟨g, 0, none⟩) xs.length cap) xs :=
  own_R (rs := []) ⟨⟨by simp, .inr ⟨g, cap, l.toArray, rfl, h0, h, hn, hm, by simp [hc], by simpa using ht⟩⟩, fun k hk p hp => by simp at hp⟩
/-- And back: what was made by a printed function is a row. -/
theorem r_rows {w W W' : World} {rs : List (Nat × List Value)} (HK : KR w rs W) (hb : Below W.heap.size W W') {k : IntKind} {e : TypeId} {ok : Nat → Prop} {v : Value} {xs : List Int} (h : Kd.R (Kd.int k) e W' W.heap.size ok v xs) : ∃ l, KR w (l ++ rs) W' ∧ SC l 1 v xs.length (xs.map (.int k)) := by
  obtain ⟨_, inner, ho, hr⟩ := h
  have hz : (Kd.int k).sz = 1 := rfl
  rw [hz] at ho hr
  have hin : inner = xs.map (.int k) := by
    apply List.ext_getElem?
    intro j
    rw [List.getElem?_map]
    by_cases hj : j < xs.length
    · have h1 := hr.2 j _ (List.getElem?_eq_getElem hj)
      have h2 : ((inner.drop (j * 1)).take 1) = [Value.int k xs[j]] := h1
      have hl : j < inner.length := by have := hr.1; omega
      rw [Nat.mul_one, List.drop_eq_getElem_cons hl, List.take_succ_cons, List.take_zero] at h2
      injection h2 with h2
      rw [List.getElem?_eq_getElem hl, List.getElem?_eq_getElem hj, h2]
      rfl
    · rw [List.getElem?_eq_none (by have := hr.1; omega), List.getElem?_eq_none (by omega)]
      rfl
  rw [hin] at ho
  have HK' := kr_call HK hb
  have hown : Own w rs e 1 v xs.length (xs.map (.int k)) W' := by
    refine ⟨⟨ho.1, ?_⟩, fun q hq p hp => ?_⟩
    · rcases ho.2 with h0 | ⟨g, cap, cur, h1, h2, h3⟩
      · exact .inl h0
      · exact .inr ⟨g, cap, cur, h1, Nat.le_trans HK.below.size h2, h3⟩
    · have h1 := (ho.lt q hq).1
      have h2 := (HK.rows p hp).2.1
      omega
  exact own_settle HK' hown
end Go.Proofs.Ytaonaifnaecpiaa.Own
