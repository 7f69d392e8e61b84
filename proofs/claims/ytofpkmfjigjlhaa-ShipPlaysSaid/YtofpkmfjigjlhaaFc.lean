/- Bytes in rows; copies; what was made. No conditions beside those in each theorem. -/
import Derived.Test.YtofpkmfjigjlhaaProg
import Derived.Test.YtofpkmfjigjlhaaLent
import Derived.Laws.CopyOwn
import Derived.Deep.OwnRows
import Derived.Deep.DeepCutAuto
namespace Go.Proofs.Ytofpkmfjigjlhaa.Own
set_option linter.unusedVariables false
set_option linter.unusedSimpArgs false
open Go.RowKit
/-- Bytes as cells. -/
def bc (bs : List Int) : List Value := bs.map (.int .u8)
/-- A slice holds bytes, in one of the rows. -/
def FC (rs : List (Nat × List Value)) (v : Value) (bs : List Int) : Prop :=
  (v = .slice none 0 0 ∧ bs = []) ∨ ∃ b cap l, v = .slice (some ⟨b, 0, none⟩) bs.length cap ∧ (b, l) ∈ rs ∧ bs.length ≤ cap ∧ cap ≤ l.length ∧ l.take bs.length = bc bs
theorem bc_len (bs : List Int) : (bc bs).length = bs.length := by simp [bc]
theorem bc_one (bs : List Int) : ∀ v ∈ bc bs, v.oneCell' = true := by
  intro v hv
  simp only [bc, List.mem_map] at hv
  obtain ⟨n, _, rfl⟩ := hv
  rfl
theorem src_cells {W : World} {b n : Nat} {l cs : List Value} (h : W.rangeAt b 0 l) (ht : l.take n = cs) (j : Nat) (v : Value) (hv : cs[j]? = some v) : W.cell? ((⟨b, 0, none⟩ : Addr).add j) = some v := by
  rw [Addr.add_mid]
  refine h j v ?_
  rw [← ht, List.getElem?_take] at hv
  split at hv
  · exact hv
  · cases hv
theorem kr_made {w W1 w2 : World} {rs : List (Nat × List Value)} {cs : List Value} {t : TypeId} (HK : KR w rs W1) (hb : Below W1.heap.size W1 w2) (hr : w2.heap[W1.heap.size]? = some (.cells cs.toArray t (0, 0))) : KR w ((W1.heap.size, cs) :: rs) w2 := by
  have h2 := kr_call HK hb
  have hlt : W1.heap.size < w2.heap.size := (Array.getElem?_eq_some_iff.1 hr).1
  refine ⟨h2.below, fun p hp => ?_, ?_⟩
  · rcases List.mem_cons.1 hp with rfl | hp
    · refine ⟨HK.below.size, hlt, fun j v hv => ?_, fun j hj => ⟨?_, ?_⟩⟩
      · rw [Nat.zero_add, cell_of_row _ _ j _ _ _ hr]
        simpa using hv
      · rw [Nat.zero_add, cell_of_row _ _ j _ _ _ hr]
        have : j < cs.length := hj
        simp [this]
      · unfold World.frozen?
        simp [hr]
    · exact h2.rows p hp
  · refine List.Pairwise.cons (fun q hq e => ?_) HK.apart
    have := (HK.rows q hq).2.1
    exact absurd e (Nat.ne_of_gt this)
theorem splice_all {α : Type} (L cs : List α) (h : cs.length = L.length) : splice L 0 cs = cs := by
  unfold splice
  simp [h]
theorem u8_info : (Try.prog.info? 5).map (fun i => (i.zero, i.size, i.bytes)) = some (some (.int .u8 0), 1, 1) := by kernel_rfl
theorem u8_size : (Try.prog.info? 5).map (·.size) = some 1 := by kernel_rfl
theorem made_len (n : Nat) : (madeCells #[Value.int .u8 0] n).toList.length = n := by simp [madeCells]
theorem make_row8 (n : Nat) (hn : n ≤ 140737488351232) (W : World) : (Instr.makeSlice 41 (.int .i64 (n : Int)) (.int .i64 (n : Int))).run Try.prog W = .ok (.slice (some ⟨W.heap.size, 0, none⟩) n n) (W.alloc (.cells (madeCells #[.int .u8 0] n) 5)) :=
  run_make_row' _ _ _ _ Try.underlying41 u8_info rfl .i64 .i64 n (by omega) (by omega) W
theorem kr_join {w W W' : World} {rs l : List (Nat × List Value)} (h : KR w rs W) (h2 : KR W l W') : KR w (l ++ rs) W' := by
  have h3 := kr_call h h2.below
  refine ⟨h3.below, fun p hp => ?_, List.pairwise_append.2 ⟨h2.apart, h.apart, fun p hp q hq e => ?_⟩⟩
  · rcases List.mem_append.1 hp with hp | hp
    · obtain ⟨a, b⟩ := h2.rows p hp
      exact ⟨Nat.le_trans h.below.size a, b⟩
    · exact h3.rows p hp
  · have h4 := (h2.rows p hp).1
    have h5 := (h.rows q hq).2.1
    omega
theorem own_later {w W W' : World} {rs l : List (Nat × List Value)} {e : TypeId} {size : Nat} {v : Value} {n : Nat} {xs : List Value} (h : Own w rs e size v n xs W) (h2 : KR W l W') : Own w (l ++ rs) e size v n xs W' := by
  have hlt : ∀ k, v.ownBlock = some k → k < W.heap.size := fun k hk => (h.1.lt k hk).2
  refine ⟨⟨h.1.1, ?_⟩, fun k hk p hp => ?_⟩
  · rcases h.1.2 with h0 | ⟨g, cap, cur, rfl, h1, hg, h3⟩
    · exact .inl h0
    · exact .inr ⟨g, cap, cur, rfl, h1, by rw [h2.below.block g (Array.getElem?_eq_some_iff.1 hg).1]; exact hg, h3⟩
  · rcases List.mem_append.1 hp with hp | hp
    · have h4 := (h2.rows p hp).1
      have h5 := hlt k hk
      omega
    · exact h.2 k hk p hp
theorem sc_mono {rs rs' : List (Nat × List Value)} {size : Nat} {v : Value} {n : Nat} {cs : List Value} (h : SC rs size v n cs) (hs : ∀ p ∈ rs, p ∈ rs') : SC rs' size v n cs := by
  rcases h with h | ⟨b, cap, l, h1, h2, h3⟩
  · exact .inl h
  · exact .inr ⟨b, cap, l, h1, hs _ h2, h3⟩
theorem fc_monoL {rs rs' : List (Nat × List Value)} {v : Value} {bs : List Int} (h : FC rs v bs) (hs : ∀ p ∈ rs, p ∈ rs') : FC rs' v bs := by
  rcases h with h | ⟨b, cap, l, h1, h2, h3⟩
  · exact .inl h
  · exact .inr ⟨b, cap, l, h1, hs _ h2, h3⟩
theorem fc_form {rs : List (Nat × List Value)} {v : Value} {bs : List Int} (h : FC rs v bs) : ∃ sp cap, v = .slice sp bs.length cap ∧ bs.length ≤ cap := by
  rcases h with ⟨rfl, rfl⟩ | ⟨b, cap, l, rfl, h2, h3, _⟩
  · exact ⟨_, _, rfl, Nat.le_refl _⟩
  · exact ⟨_, _, rfl, h3⟩
theorem fc_srcL {w W : World} {rs : List (Nat × List Value)} {v : Value} {bs : List Int} (HK : KR w rs W) (h : FC rs v bs) : ∃ sp cap, v = .slice sp bs.length cap ∧ bs.length ≤ cap ∧ SrcV W sp (bc bs) := by
  rcases h with ⟨rfl, rfl⟩ | ⟨b, cap, l, rfl, h2, h3, h4, h5⟩
  · exact ⟨_, _, rfl, Nat.le_refl _, fun h => absurd h (by simp [bc])⟩
  · exact ⟨_, _, rfl, h3, srcV_row HK h2 h5⟩
theorem sc_fc {rs : List (Nat × List Value)} {v : Value} {bs : List Int} {n : Nat} (hn : bs.length = n) (h : SC rs 1 v n (bc bs)) : FC rs v bs := by
  subst hn
  rcases h with ⟨rfl, h1, h2⟩ | ⟨b, cap, l, rfl, h2, h3, h4, h5⟩
  · exact .inl ⟨by rw [], List.eq_nil_of_length_eq_zero h1⟩
  · exact .inr ⟨b, cap, l, rfl, h2, h3, by omega, by rw [Nat.mul_one] at h5; exact h5⟩
end Go.Proofs.Ytofpkmfjigjlhaa.Own
