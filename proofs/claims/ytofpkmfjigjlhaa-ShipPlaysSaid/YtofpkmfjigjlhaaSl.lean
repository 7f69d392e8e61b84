/- Small lemmas on worlds and blocks that the walks of this seat share. No conditions beside those in each lemma. -/
import Derived.WalkKit
import Derived.KernelRfl
import Derived.Laws.BytesArg
import Derived.Deep.QuietTactic
import Derived.RowKit3
namespace Go.Proofs.Ytofpkmfjigjlhaa.Own
set_option linter.unusedVariables false
set_option linter.unusedSimpArgs false
open Go.RowKit

theorem bw_cell {W w1 : World} (hb : Below W.heap.size W w1) : (∀ b o, b < W.heap.size → w1.cell? ⟨b, o, none⟩ = W.cell? ⟨b, o, none⟩) ∧ (∀ b o, b < W.heap.size → w1.frozen? ⟨b, o, none⟩ = W.frozen? ⟨b, o, none⟩) ∧ (∀ n, n < W.heap.size → n < w1.heap.size) :=
  ⟨fun b o h => hb.cell (p := ⟨b, o, none⟩) h, fun b o h => hb.frozen (p := ⟨b, o, none⟩) h, fun _ h => Nat.lt_of_lt_of_le h hb.size⟩
theorem bw_keep {W w1 : World} {b o : Nat} {v : Value} (hb : Below W.heap.size W w1) (h : W.cell? ⟨b, o, none⟩ = some v) : w1.cell? ⟨b, o, none⟩ = some v := (hb.cell (World.block_lt_of_cell? W _ h)).trans h
theorem frozen_absent {w : World} {b o : Nat} (h : w.heap.size ≤ b) : w.frozen? ⟨b, o, none⟩ = false := by unfold World.frozen?; simp [Array.getElem?_eq_none h]
theorem bw_lt {G : Prop} {W w1 : World} (n : Nat) (hb : Below W.heap.size W w1) (h : n < W.heap.size) (k : n < w1.heap.size → G) : G := k (Nat.lt_of_lt_of_le h hb.size)
theorem bw_step {w w1 w2 : World} (h : Below w.heap.size w w1) (k : Below w1.heap.size w1 w2) : Below w.heap.size w w2 :=
  h.trans ⟨k.os, k.tape, k.output, k.size, fun i hi => k.block i (Nat.lt_of_lt_of_le hi h.size)⟩
theorem bw_alloc {w W : World} (h : Below w.heap.size w W) (o : Obj) : Below w.heap.size w (W.alloc o) := h.alloc h.size o
theorem bw_drew {w W : World} (h : Below w.heap.size w W) : Below w.heap.size w W.drew := ⟨h.os, h.tape, h.output, h.size, h.block⟩
theorem bw_drewN {w W : World} (h : Below w.heap.size w W) (n : Nat) : Below w.heap.size w (W.drewN n) := ⟨h.os, h.tape, h.output, h.size, h.block⟩

/-- All that lay in W0 lies in W as it was: for regions that read what lay there, between calls that make memory. -/
abbrev KS (W0 W : World) : Prop := (∀ b o, b < W0.heap.size → W.cell? ⟨b, o, none⟩ = W0.cell? ⟨b, o, none⟩) ∧ (∀ b o, b < W0.heap.size → W.frozen? ⟨b, o, none⟩ = W0.frozen? ⟨b, o, none⟩) ∧ (∀ n, n < W0.heap.size → n < W.heap.size) ∧ Hid (Below W0.heap.size W0 W)
theorem ks_of {W0 W : World} (h : Below W0.heap.size W0 W) : KS W0 W := ⟨(bw_cell h).1, (bw_cell h).2.1, (bw_cell h).2.2, h⟩
theorem ks_refl (W : World) : KS W W := ks_of (Below.refl _ _)
theorem ks_drew {W0 W : World} (h : KS W0 W) : KS W0 W.drew := ks_of (bw_drew h.2.2.2)
theorem ks_alloc {W0 W : World} (h : KS W0 W) (o : Obj) : KS W0 (W.alloc o) := ks_of (bw_alloc h.2.2.2 o)
theorem ks_step {W0 W w1 : World} (h : KS W0 W) (k : Below W.heap.size W w1) : KS W0 w1 := ks_of (bw_step h.2.2.2 k)

theorem frozen_setCell (w : World) (p x : Addr) (v : Value) : (w.setCell p v).frozen? x = w.frozen? x := by simp
theorem isSome_setCell {w : World} {a p : Addr} (h : (w.cell? a).isSome = true) (v : Value) : ((w.setCell p v).cell? a).isSome = true := by
  by_cases e : p = a
  · subst e
    rw [World.cell?_setCell_same' w p v h]; rfl
  · rw [World.cell?_setCell_other (h := e)]; exact h
/-- What a cell holds, by the world. -/
@[irreducible] def cellD (w : World) (g j : Nat) : Value := (w.cell? ⟨g, j, none⟩).getD undef
theorem cellD_of {w : World} {g j : Nat} (h : (w.cell? ⟨g, j, none⟩).isSome = true) : w.cell? ⟨g, j, none⟩ = some (cellD w g j) := by
  obtain ⟨u, hu⟩ := Option.isSome_iff_exists.1 h
  unfold cellD
  rw [hu]; rfl
theorem isSome_of {w : World} {g j : Nat} (h : w.cell? ⟨g, j, none⟩ = some (cellD w g j)) : (w.cell? ⟨g, j, none⟩).isSome = true := by rw [h]; rfl
/-- KS, and block g has n cells that may be written. -/
abbrev KT (W1 : World) (g n : Nat) (W : World) : Prop := (∀ b o, b < W1.heap.size → W.cell? ⟨b, o, none⟩ = W1.cell? ⟨b, o, none⟩) ∧ (∀ b o, b < W1.heap.size → W.frozen? ⟨b, o, none⟩ = W1.frozen? ⟨b, o, none⟩) ∧ (∀ n, n < W1.heap.size → n < W.heap.size) ∧ Hid (Below W1.heap.size W1 W) ∧
  (∀ j, j < n → W.cell? ⟨g, j, none⟩ = some (cellD W g j)) ∧ (∀ j, j < n → W.frozen? ⟨g, j, none⟩ = false)
theorem kt_of {W1 W : World} {g n : Nat} (h : Below W1.heap.size W1 W) (hc : ∀ j, j < n → (W.cell? ⟨g, j, none⟩).isSome = true) (hf : ∀ j, j < n → W.frozen? ⟨g, j, none⟩ = false) : KT W1 g n W := ⟨(bw_cell h).1, (bw_cell h).2.1, (bw_cell h).2.2, h, fun j hj => cellD_of (hc j hj), hf⟩
theorem kt_drew {W1 W : World} {g n : Nat} (h : KT W1 g n W) : KT W1 g n W.drew := kt_of (bw_drew h.2.2.2.1) (fun j hj => by rw [World.cell?_drew]; exact isSome_of (h.2.2.2.2.1 j hj)) (fun j hj => by rw [World.frozen?_drew]; exact h.2.2.2.2.2 j hj)
theorem isSome_lt {W : World} {b o : Nat} (h : (W.cell? ⟨b, o, none⟩).isSome = true) : b < W.heap.size := by
  obtain ⟨u, hu⟩ := Option.isSome_iff_exists.1 h
  exact World.block_lt_of_cell? W _ hu
theorem kt_step {W1 W w1 : World} {g n : Nat} (h : KT W1 g n W) (k : Below W.heap.size W w1) : KT W1 g n w1 :=
  kt_of (bw_step h.2.2.2.1 k) (fun j hj => by rw [(bw_cell k).1 _ _ (isSome_lt (isSome_of (h.2.2.2.2.1 j hj)))]; exact isSome_of (h.2.2.2.2.1 j hj)) (fun j hj => by rw [(bw_cell k).2.1 _ _ (isSome_lt (isSome_of (h.2.2.2.2.1 j hj)))]; exact h.2.2.2.2.2 j hj)
theorem kt_alloc {W1 W : World} {g n : Nat} (h : KT W1 g n W) (o : Obj) : KT W1 g n (W.alloc o) := kt_step h (bw_alloc (Below.refl _ _) o)
theorem kt_set {W1 W : World} {g n : Nat} (hg : W1.heap.size ≤ g) (h : KT W1 g n W) (j : Nat) (v : Value) : KT W1 g n (W.setCell ⟨g, j, none⟩ v) :=
  kt_of ((show Below W1.heap.size W1 W from h.2.2.2.1).setCell hg _) (fun i hi => isSome_setCell (isSome_of (h.2.2.2.2.1 i hi)) v) (fun i hi => by rw [frozen_setCell]; exact h.2.2.2.2.2 i hi)
theorem kt_new {W1 : World} (cs : Array Value) (t : TypeId) : KT W1 W1.heap.size cs.size (W1.alloc (.cells cs t)) := by
  refine kt_of (bw_alloc (Below.refl _ _) _) (fun j hj => ?_) (fun j hj => World.frozen?_alloc_new _ _ _ _)
  rw [World.cell?_alloc_new]
  simp [hj]
theorem kt_new' {W1 : World} {g n : Nat} (cs : Array Value) (t : TypeId) (hg : g = W1.heap.size) (hn : n = cs.size) : KT W1 g n (W1.alloc (.cells cs t)) := by
  subst hg hn; exact kt_new cs t
theorem mm_max2 (k k' : IntKind) (x y : Int) : Builtin.max2 (.int k x) (.int k' y) = pure (.int k (if x < y then y else x)) := by simp only [Builtin.max2, gt_iff_lt]
theorem mm_min2 (k k' : IntKind) (x y : Int) : Builtin.min2 (.int k x) (.int k' y) = pure (.int k (if y < x then y else x)) := by simp only [Builtin.min2]
theorem mm_max_two (ats : Array TypeId) (ty : TypeId) (a b : Value) : Builtin.max_ ats ty #[a, b] = (Builtin.max2 a b >>= fun s => pure s) := by simp only [Builtin.max_, List.foldlM_cons, List.foldlM_nil]
theorem mm_min_two (ats : Array TypeId) (ty : TypeId) (a b : Value) : Builtin.min_ ats ty #[a, b] = (Builtin.min2 a b >>= fun s => pure s) := by simp only [Builtin.min_, List.foldlM_cons, List.foldlM_nil]
end Go.Proofs.Ytofpkmfjigjlhaa.Own
