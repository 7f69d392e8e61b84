/- Small lemmas on worlds and blocks that the walks of this seat share. No conditions beside those in each lemma. -/
import Derived.WalkKit
import Derived.KernelRfl
import Derived.Laws.BytesArg
import Derived.Deep.QuietTactic
import Derived.RowKit3
import Derived.Deep.WholeRow
import Derived.Deep.MidRow
import Derived.BigFrame
import Derived.Deep.RegionHeld3
import Derived.Test.YtaonaifnaecpiaaProg
import Derived.Laws.CopyOwn
import Derived.Deep.OwnRows
import Derived.Lib.SlBytesConst
namespace Go.Proofs.Ytaonaifnaecpiaa.Own
set_option linter.unusedVariables false
open Go.RowKit

theorem bw_cell {W w1 : World} (hb : Below W.heap.size W w1) : (∀ b o, b < W.heap.size → w1.cell? ⟨b, o, none⟩ = W.cell? ⟨b, o, none⟩) ∧ (∀ b o, b < W.heap.size → w1.frozen? ⟨b, o, none⟩ = W.frozen? ⟨b, o, none⟩) ∧ (∀ n, n < W.heap.size → n < w1.heap.size) :=
  ⟨fun b o h => hb.cell (p := ⟨b, o, none⟩) h, fun b o h => hb.frozen (p := ⟨b, o, none⟩) h, fun _ h => Nat.lt_of_lt_of_le h hb.size⟩
theorem bw_keep {W w1 : World} {b o : Nat} {v : Value} (hb : Below W.heap.size W w1) (h : W.cell? ⟨b, o, none⟩ = some v) : w1.cell? ⟨b, o, none⟩ = some v := (hb.cell (World.block_lt_of_cell? W _ h)).trans h
theorem frozen_absent {w : World} {b o : Nat} (h : w.heap.size ≤ b) : w.frozen? ⟨b, o, none⟩ = false := by unfold World.frozen?; simp [Array.getElem?_eq_none h]
theorem bw_lt {G : Prop} {W w1 : World} (n : Nat) (hb : Below W.heap.size W w1) (h : n < W.heap.size) (k : n < w1.heap.size → G) : G := k (Nat.lt_of_lt_of_le h hb.size)
theorem bw_step {w w1 w2 : World} (h : Below w.heap.size w w1) (k : Below w1.heap.size w1 w2) : Below w.heap.size w w2 :=
  h.trans ⟨k.os, k.tape, k.output, k.size, fun i hi => k.block i (Nat.lt_of_lt_of_le hi h.size)⟩
theorem bw_alloc {w W : World} (h : Below w.heap.size w W) (o : Obj) : Below w.heap.size w (W.alloc o) := h.alloc h.size o
theorem bw_drew {w W : World} (h : Below w.heap.size w W) : Below w.heap.size w W.drew := ⟨h.os, h.tape, h.output, h.size, h.block⟩
theorem bw_drewN {w W : World} (h : Below w.heap.size w W) (n : Nat) : Below w.heap.size w (W.drewN n) := ⟨h.os, h.tape, h.output, h.size, h.block⟩

/-- All that lay in W0 lies in W as it was: for regions that read what lay there, between calls that make memory. -/
abbrev KS (W0 W : World) : Prop := (∀ b o, b < W0.heap.size → W.cell? ⟨b, o, none⟩ = W0.cell? ⟨b, o, none⟩) ∧ (∀ b o, b < W0.heap.size → W.frozen? ⟨b, o, none⟩ = W0.frozen? ⟨b, o, none⟩) ∧ (∀ n, n < W0.heap.size → n < W.heap.size) ∧ Hid (Below W0.heap.size W0 W)
theorem ks_of {W0 W : World} (h : Below W0.heap.size W0 W) : KS W0 W := ⟨(bw_cell h).1, (bw_cell h).2.1, (bw_cell h).2.2, h⟩
theorem ks_refl (W : World) : KS W W := ks_of (Below.refl _ _)
theorem ks_drew {W0 W : World} (h : KS W0 W) : KS W0 W.drew := ks_of (bw_drew h.2.2.2)
theorem ks_alloc {W0 W : World} (h : KS W0 W) (o : Obj) : KS W0 (W.alloc o) := ks_of (bw_alloc h.2.2.2 o)
theorem ks_step {W0 W w1 : World} (h : KS W0 W) (k : Below W.heap.size W w1) : KS W0 w1 := ks_of (bw_step h.2.2.2 k)

theorem frozen_setCell (w : World) (p x : Addr) (v : Value) : (w.setCell p v).frozen? x = w.frozen? x := by simp
theorem isSome_setCell {w : World} {a p : Addr} (h : (w.cell? a).isSome = true) (v : Value) : ((w.setCell p v).cell? a).isSome = true := by
  by_cases e : p = a
  · subst e
    rw [World.cell?_setCell_same' w p v h]; rfl
  · rw [World.cell?_setCell_other (h := e)]; exact h
/-- What a cell holds, by the world. -/
@[irreducible] def cellD (w : World) (g j : Nat) : Value := (w.cell? ⟨g, j, none⟩).getD undef
theorem cellD_of {w : World} {g j : Nat} (h : (w.cell? ⟨g, j, none⟩).isSome = true) : w.cell? ⟨g, j, none⟩ = some (cellD w g j) := by
  obtain ⟨u, hu⟩ := Option.isSome_iff_exists.1 h
  unfold cellD
  rw [hu]; rfl
theorem isSome_of {w : World} {g j : Nat} (h : w.cell? ⟨g, j, none⟩ = some (cellD w g j)) : (w.cell? ⟨g, j, none⟩).isSome = true := by rw [h]; rfl
/-- KS, and block g has n cells that may be written. -/
abbrev KT (W1 : World) (g n : Nat) (W : World) : Prop := (∀ b o, b < W1.heap.size → W.cell? ⟨b, o, none⟩ = W1.cell? ⟨b, o, none⟩) ∧ (∀ b o, b < W1.heap.size → W.frozen? ⟨b, o, none⟩ = W1.frozen? ⟨b, o, none⟩) ∧ (∀ n, n < W1.heap.size → n < W.heap.size) ∧ Hid (Below W1.heap.size W1 W) ∧
  (∀ j, j < n → W.cell? ⟨g, j, none⟩ = some (cellD W g j)) ∧ (∀ j, j < n → W.frozen? ⟨g, j, none⟩ = false)
theorem kt_of {W1 W : World} {g n : Nat} (h : Below W1.heap.size W1 W) (hc : ∀ j, j < n → (W.cell? ⟨g, j, none⟩).isSome = true) (hf : ∀ j, j < n → W.frozen? ⟨g, j, none⟩ = false) : KT W1 g n W := ⟨(bw_cell h).1, (bw_cell h).2.1, (bw_cell h).2.2, h, fun j hj => cellD_of (hc j hj), hf⟩
theorem kt_drew {W1 W : World} {g n : Nat} (h : KT W1 g n W) : KT W1 g n W.drew := kt_of (bw_drew h.2.2.2.1) (fun j hj => by rw [World.cell?_drew]; exact isSome_of (h.2.2.2.2.1 j hj)) (fun j hj => by rw [World.frozen?_drew]; exact h.2.2.2.2.2 j hj)
theorem isSome_lt {W : World} {b o : Nat} (h : (W.cell? ⟨b, o, none⟩).isSome = true) : b < W.heap.size := by
  obtain ⟨u, hu⟩ := Option.isSome_iff_exists.1 h
  exact World.block_lt_of_cell? W _ hu
theorem kt_step {W1 W w1 : World} {g n : Nat} (h : KT W1 g n W) (k : Below W.heap.size W w1) : KT W1 g n w1 :=
  kt_of (bw_step h.2.2.2.1 k) (fun j hj => by rw [(bw_cell k).1 _ _ (isSome_lt (isSome_of (h.2.2.2.2.1 j hj)))]; exact isSome_of (h.2.2.2.2.1 j hj)) (fun j hj => by rw [(bw_cell k).2.1 _ _ (isSome_lt (isSome_of (h.2.2.2.2.1 j hj)))]; exact h.2.2.2.2.2 j hj)
theorem kt_alloc {W1 W : World} {g n : Nat} (h : KT W1 g n W) (o : Obj) : KT W1 g n (W.alloc o) := kt_step h (bw_alloc (Below.refl _ _) o)
theorem kt_set {W1 W : World} {g n : Nat} (hg : W1.heap.size ≤ g) (h : KT W1 g n W) (j : Nat) (v : Value) : KT W1 g n (W.setCell ⟨g, j, none⟩ v) :=
  kt_of ((show Below W1.heap.size W1 W from h.2.2.2.1).setCell hg _) (fun i hi => isSome_setCell (isSome_of (h.2.2.2.2.1 i hi)) v) (fun i hi => by rw [frozen_setCell]; exact h.2.2.2.2.2 i hi)
theorem kt_new {W1 : World} (cs : Array Value) (t : TypeId) : KT W1 W1.heap.size cs.size (W1.alloc (.cells cs t)) := by
  refine kt_of (bw_alloc (Below.refl _ _) _) (fun j hj => ?_) (fun j hj => World.frozen?_alloc_new _ _ _ _)
  rw [World.cell?_alloc_new]
  simp [hj]
theorem kt_new' {W1 : World} {g n : Nat} (cs : Array Value) (t : TypeId) (hg : g = W1.heap.size) (hn : n = cs.size) : KT W1 g n (W1.alloc (.cells cs t)) := by
  subst hg hn; exact kt_new cs t
theorem mm_max2 (k k' : IntKind) (x y : Int) : Builtin.max2 (.int k x) (.int k' y) = pure (.int k (if x < y then y else x)) := by simp only [Builtin.max2, gt_iff_lt]
theorem mm_min2 (k k' : IntKind) (x y : Int) : Builtin.min2 (.int k x) (.int k' y) = pure (.int k (if y < x then y else x)) := by simp only [Builtin.min2]
theorem mm_max_two (ats : Array TypeId) (ty : TypeId) (a b : Value) : Builtin.max_ ats ty #[a, b] = (Builtin.max2 a b >>= fun s => pure s) := by simp only [Builtin.max_, List.foldlM_cons, List.foldlM_nil]
theorem mm_min_two (ats : Array TypeId) (ty : TypeId) (a b : Value) : Builtin.min_ ats ty #[a, b] = (Builtin.min2 a b >>= fun s => pure s) := by simp only [Builtin.min_, List.foldlM_cons, List.foldlM_nil]
end Go.Proofs.Ytaonaifnaecpiaa.Own

namespace Go.Proofs.Ytaonaifnaecpiaa.Own
open Go.RowKit
variable {P : Program}

theorem wl_build {ops : Array Oper} {rest : List Oper} {op : Oper} {a : Act} {w : World} {Q : Exit → Act → World → Prop} (t : TypeId) (parts : Array (Nat × Operand)) (cs : List Value) (ho : op.op = .build t parts) (hgd : op.guard = none)
    (hb : P.built t (parts.map fun (i, x) => (i, a.eval x)).toList = some cs.toArray) (h : wpList P ops Q rest (a.put op.dst (.agg cs.toArray)) w) : wpList P ops Q (op :: rest) a w :=
  wpList_plain hgd fun K hK => by
    unfold Oper.wp execOp
    simp only [ho, Sem.run_bind, Sem.run_pure, Result.andThen_ok, run_build w t _ _ hb]
    exact hK _ _ h
theorem wl_alloc {ops : Array Oper} {rest : List Oper} {op : Oper} {a : Act} {w : World} {Q : Exit → Act → World → Prop} (t : TypeId) (zs : List Value) (n : Nat) (ho : op.op = .alloc t) (hgd : op.guard = none)
    (hz : (P.info? t).map (fun i => (i.zero, i.size)) = some (some (.agg zs.toArray), n)) (h : wpList P ops Q rest (a.put op.dst (.pointer (some ⟨w.heap.size, 0, none⟩))) (w.alloc (.cells zs.toArray t))) : wpList P ops Q (op :: rest) a w :=
  wpList_plain hgd fun K hK => by
    have hz' := (zero_of_info hz).1 w
    unfold Oper.wp execOp
    simp [ho, Sem.run_bind, Result.andThen_ok, Instr.alloc, hz', newVar, Value.cells]
    exact hK _ _ h
theorem wl_store {ops : Array Oper} {rest : List Oper} {op : Oper} {a : Act} {w : World} {Q : Exit → Act → World → Prop} (t : TypeId) (x y : Operand) (zs cs : List Value) (ho : op.op = .store t x y) (hgd : op.guard = none)
    (hx : a.eval x = .pointer (some ⟨w.heap.size, 0, none⟩)) (hy : a.eval y = .agg cs.toArray)
    (hi : (P.info? t).map (·.size) = some cs.length) (hl : zs.length = cs.length) (h1 : ∀ v ∈ cs, v.oneCell' = true)
    (h : wpList P ops Q rest (a.put op.dst undef) (w.alloc (.cells cs.toArray t))) : wpList P ops Q (op :: rest) a (w.alloc (.cells zs.toArray t)) :=
  wpList_plain hgd fun K hK => by
    unfold Oper.wp execOp
    simp only [ho, hx, hy, Sem.run_bind, Sem.run_pure, Result.andThen_ok, run_storeAt_new w t zs.toArray cs.toArray (by simpa using hi) (by simpa using hl) (all_oneCell_toArray h1)]
    exact hK _ _ h
theorem wl_load {ops : Array Oper} {rest : List Oper} {op : Oper} {a : Act} {w : World} {Q : Exit → Act → World → Prop} (ty : TypeId) (x : Operand) (ho : op.op = .load ty x) (hw : Region.wanted op (yielded ops a.tmps) = true)
    (b o : Nat) (hx : a.eval x = .pointer (some ⟨b, o, none⟩)) (cs : List Value) (d : TypeDesc) (hc : w.rangeAt b o cs) (hu : P.underlying ty = some d) (hd : d.isRow = true) (hi : (P.info? ty).map (·.size) = some cs.length)
    (h : wpList P ops Q rest (a.put op.dst (.agg cs.toArray)) w) : wpList P ops Q (op :: rest) a w :=
  BigFrame.wpList_want hw fun _ hK => wp_load_mid ty x ho b o hx cs d hc hu hd hi (hK _ _ h)
theorem range_new (w : World) (cs : List Value) (t : TypeId) : (w.alloc (.cells cs.toArray t)).rangeAt w.heap.size 0 cs := fun j v hv => by
  rw [World.cell?_alloc_new]; simpa using hv
theorem range_new' {w : World} {b : Nat} (cs : List Value) (t : TypeId) (h : b = w.heap.size) : (w.alloc (.cells cs.toArray t)).rangeAt b 0 cs := by subst h; exact range_new w cs t
theorem range_below {W w1 : World} {b : Nat} {cs : List Value} (hb : Below W.heap.size W w1) (h : W.rangeAt b 0 cs) : w1.rangeAt b 0 cs := fun j v hv => bw_keep hb (h j v hv)
theorem range_lt {W : World} {b : Nat} {c : Value} {cs : List Value} (h : W.rangeAt b 0 (c :: cs)) : b < W.heap.size := World.block_lt_of_cell? W _ (h 0 c rfl)
theorem range_cell {W : World} {b : Nat} {cs : List Value} (h : W.rangeAt b 0 cs) (j : Nat) (v : Value) (hv : cs[j]? = some v) : W.cell? ⟨b, j, none⟩ = some v := by have := h j v hv; rwa [Nat.zero_add] at this
theorem res_row {fn : Func} {p : Tmp} {ty : TypeId} (h : fn.results = #[.cell p ty]) (tmps : Array Value) (w : World) (g : Nat) (cs : List Value) (d : TypeDesc)
    (hp : tmps.getD p undef = .pointer (some ⟨g, 0, none⟩)) (hc : w.rangeAt g 0 cs) (hu : P.underlying ty = some d) (hd : d.isRow = true) (hi : (P.info? ty).map (·.size) = some cs.length) :
    (results fn tmps).run P w = .ok (.agg cs.toArray) w := by
  have hp' : tmps[p]?.getD undef = .pointer (some ⟨g, 0, none⟩) := by simpa using hp
  simp [results, h, hp', asAddr, run_loadVar_mid w g 0 ty cs d hc hu hd hi]
end Go.Proofs.Ytaonaifnaecpiaa.Own

namespace Go.Proofs.Ytaonaifnaecpiaa.Own
open Go.RowKit
/-- The rows rs lie in W, apart from one another, above all that w holds; what w holds is as it was. -/
structure KR (w : World) (rs : List (Nat × List Value)) (W : World) : Prop where
  below : Below w.heap.size w W
  rows : ∀ p ∈ rs, w.heap.size ≤ p.1 ∧ p.1 < W.heap.size ∧ W.rangeAt p.1 0 p.2 ∧ W.there p.1 0 p.2.length
  apart : rs.Pairwise (fun p q => p.1 ≠ q.1)
theorem kr_refl (w : World) : KR w [] w := ⟨Below.refl _ _, fun p hp => by simp at hp, List.Pairwise.nil⟩
theorem there_below {W w1 : World} {b n : Nat} (hb : Below W.heap.size W w1) (hlt : b < W.heap.size) (h : W.there b 0 n) : w1.there b 0 n := fun j hj => by
  obtain ⟨h1, h2⟩ := h j hj
  exact ⟨by rw [(bw_cell hb).1 _ _ hlt]; exact h1, by rw [(bw_cell hb).2.1 _ _ hlt]; exact h2⟩
theorem kr_call {w W w1 : World} {rs : List (Nat × List Value)} (h : KR w rs W) (q : Below W.heap.size W w1) : KR w rs w1 :=
  ⟨bw_step h.below q, fun p hp => by
    obtain ⟨h0, h1, h2, h3⟩ := h.rows p hp
    exact ⟨h0, Nat.lt_of_lt_of_le h1 q.size, range_below q h2, there_below q h1 h3⟩, h.apart⟩
theorem kr_drew {w W : World} {rs : List (Nat × List Value)} (h : KR w rs W) : KR w rs W.drew :=
  ⟨bw_drew h.below, fun p hp => by
    obtain ⟨h0, h1, h2, h3⟩ := h.rows p hp
    exact ⟨h0, h1, (World.rangeAt_drew _ _ _ _).2 h2, (World.there_drew _ _ _ _).2 h3⟩, h.apart⟩
theorem kr_alloc {w W : World} {rs : List (Nat × List Value)} (h : KR w rs W) (o : Obj) : KR w rs (W.alloc o) := kr_call h (bw_alloc (Below.refl _ _) o)
theorem kr_tail {w W : World} {rs : List (Nat × List Value)} {p : Nat × List Value} (h : KR w (p :: rs) W) : KR w rs W := ⟨h.below, fun q hq => h.rows q (List.mem_cons_of_mem _ hq), h.apart.tail⟩
theorem kr_new {w W : World} {rs : List (Nat × List Value)} (h : KR w rs W) (cs : List Value) (t : TypeId) : KR w ((W.heap.size, cs) :: rs) (W.alloc (.cells cs.toArray t)) := by
  have h' := kr_alloc h (.cells cs.toArray t)
  refine ⟨h'.below, fun p hp => ?_, ?_⟩
  · rcases List.mem_cons.1 hp with rfl | hp
    · refine ⟨h.below.size, by simp, range_new _ _ _, fun j hj => ⟨?_, World.frozen?_alloc_new _ _ _ _⟩⟩
      rw [World.cell?_alloc_new]
      have : j < cs.length := hj
      simp [this]
    · exact h'.rows p hp
  · refine List.Pairwise.cons (fun q hq e => ?_) h.apart
    have := (h.rows q hq).2.1
    exact absurd e (Nat.ne_of_gt this)
theorem kr_get {w W : World} {rs : List (Nat × List Value)} {b : Nat} {cs : List Value} (h : KR w rs W) (i : Nat) (hi : rs[i]? = some (b, cs)) : W.rangeAt b 0 cs := (h.rows (b, cs) (List.mem_of_getElem? hi)).2.2.1
theorem kr_cell {w W : World} {rs : List (Nat × List Value)} {b : Nat} {cs : List Value} (h : KR w rs W) (i : Nat) (hi : rs[i]? = some (b, cs)) (j : Nat) (v : Value) (hv : cs[j]? = some v) : W.cell? ⟨b, j, none⟩ = some v := range_cell (kr_get h i hi) j v hv
theorem kr_lt {w W : World} {rs : List (Nat × List Value)} {b : Nat} {cs : List Value} (h : KR w rs W) (i : Nat) (hi : rs[i]? = some (b, cs)) : b < W.heap.size := (h.rows (b, cs) (List.mem_of_getElem? hi)).2.1
theorem kr_thereN {w W : World} {rs : List (Nat × List Value)} {b : Nat} {cs : List Value} (h : KR w rs W) (i : Nat) (hi : rs[i]? = some (b, cs)) (ds : List Value) (hl : ds.length = cs.length) : W.there b 0 ds.toArray.size := by
  have := (h.rows (b, cs) (List.mem_of_getElem? hi)).2.2.2
  rw [← hl] at this
  simpa using this
theorem below_setCells {w : World} {b : Nat} (hb : w.heap.size ≤ b) : ∀ (vs : List Value) (o : Nat) (W : World), Below w.heap.size w W → Below w.heap.size w (W.setCells b o vs)
  | [], _, _, h => h
  | v :: r, o, W, h => by rw [World.setCells]; exact below_setCells hb r (o + 1) _ (h.setCell hb v)
theorem size_setCells (b : Nat) : ∀ (vs : List Value) (o : Nat) (W : World), (W.setCells b o vs).heap.size = W.heap.size
  | [], _, _ => rfl
  | v :: r, o, W => by rw [World.setCells, size_setCells b r (o + 1)]; simp
theorem kr_setN {w W : World} {rs : List (Nat × List Value)} {b : Nat} {cs : List Value} (h : KR w rs W) (i : Nat) (hi : rs[i]? = some (b, cs)) (ds : List Value) (hl : ds.length = cs.length) : KR w (rs.set i (b, ds)) (W.setCells b 0 ds) := by
  have hb := h.rows (b, cs) (List.mem_of_getElem? hi)
  have hlt : i < rs.length := (List.getElem?_eq_some_iff.1 hi).1
  refine ⟨below_setCells hb.1 _ _ _ h.below, fun p hp => ?_, ?_⟩
  · rw [size_setCells]
    obtain ⟨k, hk, hpk⟩ := List.mem_iff_getElem.1 hp
    rw [List.getElem_set] at hpk
    rw [List.length_set] at hk
    by_cases e : i = k
    · rw [if_pos e] at hpk
      subst hpk
      have h4 : W.there b 0 ds.length := by rw [hl]; exact hb.2.2.2
      exact ⟨hb.1, hb.2.1, World.rangeAt_setCells_same _ _ _ _ h4, World.there_setCells h4 _ _ _⟩
    · rw [if_neg e] at hpk
      have hm : p ∈ rs := by rw [← hpk]; exact List.getElem_mem _
      obtain ⟨h0, h1, h2, h3⟩ := h.rows p hm
      refine ⟨h0, h1, World.rangeAt_setCells_apart h2 _ _ _ (.inl ?_), World.there_setCells h3 _ _ _⟩
      have hp2 := List.pairwise_iff_getElem.1 h.apart
      have hib : rs[i]'hlt = (b, cs) := (List.getElem?_eq_some_iff.1 hi).2
      rcases Nat.lt_or_gt_of_ne e with hlt' | hgt
      · have := hp2 i k hlt hk hlt'
        rw [hib, hpk] at this
        exact fun e => this e.symm
      · have := hp2 k i hk hlt hgt
        rw [hib, hpk] at this
        exact this
  · have : (rs.set i (b, ds)).map Prod.fst = rs.map Prod.fst := by
      apply List.ext_getElem?
      intro k
      simp only [List.getElem?_map, List.getElem?_set]
      by_cases e : i = k
      · subst e
        simp [hlt, (List.getElem?_eq_some_iff.1 hi).2]
      · simp [e]
    have h1 := (List.pairwise_map (f := Prod.fst) (R := fun (x y : Nat) => x ≠ y) (l := rs)).2 h.apart
    rw [← this] at h1
    exact (List.pairwise_map (f := Prod.fst) (R := fun (x y : Nat) => x ≠ y)).1 h1
theorem kr_mem {w W : World} {rs : List (Nat × List Value)} {b : Nat} {cs : List Value} (h : KR w rs W) (hm : (b, cs) ∈ rs) : W.rangeAt b 0 cs := (h.rows (b, cs) hm).2.2.1
theorem kr_swap {w W : World} {rs : List (Nat × List Value)} {p q : Nat × List Value} (h : KR w (p :: q :: rs) W) : KR w (q :: p :: rs) W :=
  ⟨h.below, fun x hx => h.rows x (by simp only [List.mem_cons] at hx ⊢; rcases hx with h1 | h1 | h1; exact .inr (.inl h1); exact .inl h1; exact .inr (.inr h1)), by
    have h1 := h.apart
    rw [List.pairwise_cons, List.pairwise_cons] at h1
    rw [List.pairwise_cons, List.pairwise_cons]
    refine ⟨fun x hx => ?_, fun x hx => h1.1 x (List.mem_cons_of_mem _ hx), h1.2.2⟩
    rcases List.mem_cons.1 hx with rfl | hx
    · exact fun e => h1.1 q List.mem_cons_self e.symm
    · exact h1.2.1 x hx⟩
theorem kr_drop {w W : World} {rs : List (Nat × List Value)} {p q : Nat × List Value} (h : KR w (p :: q :: rs) W) : KR w (p :: rs) W := kr_tail (kr_swap h)
theorem kr_old {w W : World} {rs : List (Nat × List Value)} (h : KR w rs W) {p : Addr} {v : Value} (hp : w.cell? p = some v) : W.cell? p = some v := by
  rw [← hp]
  exact h.below.cell (World.block_lt_of_cell? w _ hp)
variable {P : Program}
theorem wl_box {ops : Array Oper} {rest : List Oper} {op : Oper} {a : Act} {w : World} {Q : Exit → Act → World → Prop} (t : TypeId) (x : Operand) (cs : List Value) (ho : op.op = .box t x) (hgd : op.guard = none) (hx : a.eval x = .agg cs.toArray)
    (h : wpList P ops Q rest (a.put op.dst (.pointer (some ⟨w.heap.size, 0, none⟩))) (w.alloc (.cells cs.toArray t))) : wpList P ops Q (op :: rest) a w :=
  wpList_plain hgd fun K hK => by
    unfold Oper.wp execOp
    simp [ho, hx]
    exact hK _ _ h
theorem wl_boxK {ops : Array Oper} {rest : List Oper} {op : Oper} {a : Act} {w0 w : World} {rs : List (Nat × List Value)} {Q : Exit → Act → World → Prop} (t : TypeId) (x : Operand) (cs : List Value) (HK : KR w0 rs w) (ho : op.op = .box t x) (hgd : op.guard = none) (hx : a.eval x = .agg cs.toArray)
    (h : KR w0 ((w.heap.size, cs) :: rs) (w.alloc (.cells cs.toArray t)) → wpList P ops Q rest (a.put op.dst (.pointer (some ⟨w.heap.size, 0, none⟩))) (w.alloc (.cells cs.toArray t))) : wpList P ops Q (op :: rest) a w :=
  wl_box t x cs ho hgd hx (h (kr_new HK cs t))
theorem wl_storeK {ops : Array Oper} {rest : List Oper} {op : Oper} {a : Act} {w0 w : World} {rs : List (Nat × List Value)} {Q : Exit → Act → World → Prop} (t : TypeId) (x y : Operand) (zs cs : List Value) (HK : KR w0 rs w) (ho : op.op = .store t x y) (hgd : op.guard = none)
    (hx : a.eval x = .pointer (some ⟨w.heap.size, 0, none⟩)) (hy : a.eval y = .agg cs.toArray)
    (hi : (P.info? t).map (·.size) = some cs.length) (hl : zs.length = cs.length) (h1 : ∀ v ∈ cs, v.oneCell' = true)
    (h : KR w0 ((w.heap.size, cs) :: rs) (w.alloc (.cells cs.toArray t)) → wpList P ops Q rest (a.put op.dst undef) (w.alloc (.cells cs.toArray t))) : wpList P ops Q (op :: rest) a (w.alloc (.cells zs.toArray t)) :=
  wl_store t x y zs cs ho hgd hx hy hi hl h1 (h (kr_new HK cs t))
theorem wl_fload {ops : Array Oper} {rest : List Oper} {op : Oper} {a : Act} {w : World} {Q : Exit → Act → World → Prop} (t : TypeId) (x : Operand) (ho : op.op = .load t x) (hw : Region.wanted op (yielded ops a.tmps) = true) (p : Addr) (hx : a.eval x = .pointer (some p)) (v : Value)
    (hr : (Instr.loadAt t (.pointer (some p))).run P w = .ok v w) (h : wpList P ops Q rest (a.put op.dst v) w) : wpList P ops Q (op :: rest) a w :=
  BigFrame.wpList_want hw fun _ hK => by
    unfold Oper.wp execOp
    simp only [ho, hx, Sem.run_bind, Sem.run_pure, Result.andThen_ok, hr]
    exact hK _ _ h
theorem wl_fstore {ops : Array Oper} {rest : List Oper} {op : Oper} {a : Act} {w : World} {Q : Exit → Act → World → Prop} (t : TypeId) (x y : Operand) (ho : op.op = .store t x y) (hgd : op.guard = none) (p : Addr) (hx : a.eval x = .pointer (some p)) (v : Value) (hy : a.eval y = v)
    (hr : (Instr.storeAt t (.pointer (some p)) v).run P w = .ok () (w.setCell p v)) (h : wpList P ops Q rest (a.put op.dst undef) (w.setCell p v)) : wpList P ops Q (op :: rest) a w :=
  wpList_plain hgd fun _ hK => by
    unfold Oper.wp execOp
    simp only [ho, hx, hy, Sem.run_bind, Sem.run_pure, Result.andThen_ok, hr]
    exact hK _ _ h
theorem kr_fset {w W : World} {rs : List (Nat × List Value)} {b : Nat} {cs : List Value} (h : KR w rs W) (i : Nat) (hi : rs[i]? = some (b, cs)) (j : Nat) (hj : j < cs.length) (v : Value) (ds : List Value) (hd : cs.set j v = ds) : KR w (rs.set i (b, ds)) (W.setCell ⟨b, j, none⟩ v) := by
  subst hd
  have hb := h.rows (b, cs) (List.mem_of_getElem? hi)
  have hlt : i < rs.length := (List.getElem?_eq_some_iff.1 hi).1
  have hset : (W.setCell ⟨b, j, none⟩ v) = W.setCells b j [v] := by rw [World.setCells, World.setCells]
  refine ⟨h.below.setCell hb.1 v, fun p hp => ?_, ?_⟩
  · rw [World.size_setCell]
    obtain ⟨k, hk, hpk⟩ := List.mem_iff_getElem.1 hp
    rw [List.getElem_set] at hpk
    rw [List.length_set] at hk
    by_cases e : i = k
    · rw [if_pos e] at hpk
      subst hpk
      refine ⟨hb.1, hb.2.1, fun m u hm => ?_, ?_⟩
      · rw [List.getElem?_set] at hm
        by_cases em : j = m
        · subst em
          rw [if_pos rfl, if_pos hj] at hm
          injection hm with hm
          subst hm
          rw [Nat.zero_add]
          have := (hb.2.2.2 j hj).1
          rw [Nat.zero_add] at this
          obtain ⟨u0, hu0⟩ := Option.isSome_iff_exists.1 this
          rw [World.cell?_setCell_same _ _ _ hu0]
        · rw [if_neg em] at hm
          rw [World.cell?_setCell_other (h := by intro e2; injection e2 with _ e3 _; omega)]
          exact hb.2.2.1 m u hm
      · rw [List.length_set, hset]
        exact World.there_setCells hb.2.2.2 _ _ _
    · rw [if_neg e] at hpk
      have hm : p ∈ rs := by rw [← hpk]; exact List.getElem_mem _
      obtain ⟨h0, h1, h2, h3⟩ := h.rows p hm
      have hp2 := List.pairwise_iff_getElem.1 h.apart
      have hib : rs[i]'hlt = (b, cs) := (List.getElem?_eq_some_iff.1 hi).2
      have hne : p.1 ≠ b := by
        rcases Nat.lt_or_gt_of_ne e with hlt' | hgt
        · have := hp2 i k hlt hk hlt'
          rw [hib, hpk] at this
          exact fun e => this e.symm
        · have := hp2 k i hk hlt hgt
          rw [hib, hpk] at this
          exact this
      rw [hset]
      exact ⟨h0, h1, World.rangeAt_setCells_apart h2 _ _ _ (.inl hne), World.there_setCells h3 _ _ _⟩
  · have : (rs.set i (b, cs.set j v)).map Prod.fst = rs.map Prod.fst := by
      apply List.ext_getElem?
      intro k
      simp only [List.getElem?_map, List.getElem?_set]
      by_cases e : i = k
      · subst e
        simp [hlt, (List.getElem?_eq_some_iff.1 hi).2]
      · simp [e]
    have h1 := (List.pairwise_map (f := Prod.fst) (R := fun (x y : Nat) => x ≠ y) (l := rs)).2 h.apart
    rw [← this] at h1
    exact (List.pairwise_map (f := Prod.fst) (R := fun (x y : Nat) => x ≠ y)).1 h1
theorem kr_frozen {w W : World} {rs : List (Nat × List Value)} {b : Nat} {cs : List Value} (h : KR w rs W) (i : Nat) (hi : rs[i]? = some (b, cs)) (j : Nat) (hj : j < cs.length) : W.frozen? ⟨b, j, none⟩ = false := by
  have := ((h.rows (b, cs) (List.mem_of_getElem? hi)).2.2.2 j hj).2
  rwa [Nat.zero_add] at this
/-- One operation of a drawn region: a new row. -/
theorem ow_alloc {op : Oper} {a : Act} {w : World} {K : Act → World → Prop} {Q : Exit → Act → World → Prop} (t : TypeId) (zs : List Value) (n : Nat) (ho : op.op = .alloc t)
    (hz : (P.info? t).map (fun i => (i.zero, i.size)) = some (some (.agg zs.toArray), n)) (h : K (a.put op.dst (.pointer (some ⟨w.heap.size, 0, none⟩))) (w.alloc (.cells zs.toArray t))) : op.wp P a w K Q := by
  have hz' := (zero_of_info hz).1 w
  unfold Oper.wp execOp
  simp [ho, Sem.run_bind, Result.andThen_ok, Instr.alloc, hz', newVar, Value.cells]
  exact h
/-- The beginning of a drawn region under rows kept in sight. -/
theorem kr_begin {id : Nat} {ops : Array Oper} {a : Act} {w W : World} {Q : Exit → Act → World → Prop} {rs : List (Nat × List Value)} (HK : KR w rs W) (hm : P.follows .mixedOrders = true)
    (h : KR w rs W.drew → wpAnyH P .any ops Q (fun W => KR w rs W) ops.size (Array.replicate ops.size false) a W.drew) : (Code.region id ops true).wp P Q a W := wp_region_held_drew (S := fun W => KR w rs W) hm (kr_drew HK) h
end Go.Proofs.Ytaonaifnaecpiaa.Own

namespace Go.Proofs.Ytaonaifnaecpiaa.Own
open Go.RowKit
/-- A disk's cells: eight files (a slice and a number), a count, a mark. -/
structure Dk where
  f : Nat → Value × Int
  left : Int
  dead : Bool
def Dk.l (d : Dk) : List Value := [(d.f 0).1, .int .i64 (d.f 0).2, (d.f 1).1, .int .i64 (d.f 1).2, (d.f 2).1, .int .i64 (d.f 2).2, (d.f 3).1, .int .i64 (d.f 3).2, (d.f 4).1, .int .i64 (d.f 4).2, (d.f 5).1, .int .i64 (d.f 5).2, (d.f 6).1, .int .i64 (d.f 6).2, (d.f 7).1, .int .i64 (d.f 7).2, .int .i64 d.left, .bool d.dead]
def upd (f : Nat → Value × Int) (k : Nat) (x : Value × Int) : Nat → Value × Int := fun j => if j = k then x else f j
theorem dk_len (d : Dk) : d.l.length = 18 := rfl
theorem dk_a (d : Dk) (k : Nat) (hk : k < 8) : d.l[k * 2]? = some (d.f k).1 := by
  match k, hk with
  | 0, _ => rfl
  | 1, _ => rfl
  | 2, _ => rfl
  | 3, _ => rfl
  | 4, _ => rfl
  | 5, _ => rfl
  | 6, _ => rfl
  | 7, _ => rfl
theorem dk_b (d : Dk) (k : Nat) (hk : k < 8) : d.l[k * 2 + 1]? = some (.int .i64 (d.f k).2) := by
  match k, hk with
  | 0, _ => rfl
  | 1, _ => rfl
  | 2, _ => rfl
  | 3, _ => rfl
  | 4, _ => rfl
  | 5, _ => rfl
  | 6, _ => rfl
  | 7, _ => rfl
theorem dk_left (d : Dk) : d.l[16]? = some (.int .i64 d.left) := rfl
theorem dk_dead (d : Dk) : d.l[17]? = some (.bool d.dead) := rfl
theorem dk_setA (d : Dk) (k : Nat) (hk : k < 8) (v : Value) : d.l.set (k * 2) v = ({ d with f := upd d.f k (v, (d.f k).2) } : Dk).l := by
  match k, hk with
  | 0, _ => rfl
  | 1, _ => rfl
  | 2, _ => rfl
  | 3, _ => rfl
  | 4, _ => rfl
  | 5, _ => rfl
  | 6, _ => rfl
  | 7, _ => rfl
theorem dk_setB (d : Dk) (k : Nat) (hk : k < 8) (n : Int) : d.l.set (k * 2 + 1) (.int .i64 n) = ({ d with f := upd d.f k ((d.f k).1, n) } : Dk).l := by
  match k, hk with
  | 0, _ => rfl
  | 1, _ => rfl
  | 2, _ => rfl
  | 3, _ => rfl
  | 4, _ => rfl
  | 5, _ => rfl
  | 6, _ => rfl
  | 7, _ => rfl
theorem dk_setL (d : Dk) (n : Int) : d.l.set 16 (.int .i64 n) = ({ d with left := n } : Dk).l := rfl
theorem dk_setD (d : Dk) (b : Bool) : d.l.set 17 (.bool b) = ({ d with dead := b } : Dk).l := rfl
attribute [irreducible] Dk.l
attribute [local go_sem] mm_max2 mm_min2 mm_max_two mm_min_two
theorem safe_k (d : Dk) (D : Nat) (k : Nat) (hk : k < 8) {w W : World} {rs : List (Nat × List Value)} (HK : KR w ((D, d.l) :: rs) W) : Calls Try.prog 59 #[.pointer (some ⟨D, 0, none⟩), .int .i64 k] W fun e W' => e = .returned (.int .i64 (d.f k).2) ∧ W = W' := by
  have kb := kr_cell HK 0 rfl _ _ (dk_b d k hk)
  have hk2 : (k : Int) < 8 := by omega
  clear HK
  go_enter Try.func59, Try.ntmps59
  go_wp2
  all_goals go_ret
  all_goals exact ⟨rfl, rfl⟩
theorem safe_out (D : Nat) (f : Int) (hf : f < 0 ∨ 8 ≤ f) (W : World) : Calls Try.prog 59 #[.pointer (some ⟨D, 0, none⟩), .int .i64 f] W fun e W' => e = .returned (.int .i64 0) ∧ W = W' := by
  rcases hf with hf | hf
  all_goals (
    go_enter Try.func59, Try.ntmps59
    go_wp2
    all_goals go_ret
    all_goals exact ⟨rfl, rfl⟩)
theorem safe_nil (f : Int) (W : World) : Calls Try.prog 59 #[.pointer none, .int .i64 f] W fun e W' => e = .returned (.int .i64 0) ∧ W = W' := by
  go_enter Try.func59, Try.ntmps59
  go_wp2
  all_goals go_ret
  all_goals exact ⟨rfl, rfl⟩
theorem dead_k (d : Dk) (D : Nat) {w W : World} {rs : List (Nat × List Value)} (HK : KR w ((D, d.l) :: rs) W) : Calls Try.prog 61 #[.pointer (some ⟨D, 0, none⟩)] W fun e W' => e = .returned (.bool d.dead) ∧ W = W' := by
  have kb := kr_cell HK 0 rfl _ _ (dk_dead d)
  clear HK
  go_enter Try.func61, Try.ntmps61
  go_wp2
  all_goals go_ret
  all_goals exact ⟨rfl, rfl⟩
theorem dead_nil (W : World) : Calls Try.prog 61 #[.pointer none] W fun e W' => e = .returned (.bool false) ∧ W = W' := by
  go_enter Try.func61, Try.ntmps61
  go_wp2
  all_goals go_ret
  all_goals exact ⟨rfl, rfl⟩
/-- What a call's numbers and the mark say. -/
def mayD (d : Dk) (xs : List Int) : Int := if ∃ x ∈ xs, x < 0 ∨ 8 ≤ x then 1 else if d.dead = true then 13 else 0
set_option maxHeartbeats 1000000 in
theorem may_k (d : Dk) (D b : Nat) (xs : List Int) {w W : World} {rs : List (Nat × List Value)} (HK : KR w ((D, d.l) :: rs) W) (hlen : xs.length ≤ 100) (hx : ∀ j, j < xs.length → W.cell? ⟨b, j, none⟩ = some (.int .i64 (xs.getD j 0))) :
    Calls Try.prog 55 #[.pointer (some ⟨D, 0, none⟩), .slice (some ⟨b, 0, none⟩) xs.length xs.length] W fun e W' => e = .returned (.int .i64 (mayD d xs)) ∧ W = W' := by
  have kb := kr_cell HK 0 rfl _ _ (dk_dead d)
  have HC : Hid (∀ j, j < xs.length → W.cell? ⟨b, j, none⟩ = some (.int .i64 (xs.getD j 0))) := hx
  clear HK hx
  go_enter Try.func55, Try.ntmps55
  go_wp2
  go_loop [6, 11] (fun _ i => ∃ k : Nat, k ≤ xs.length ∧ i = .int .i64 k ∧ ∀ j, j < k → 0 ≤ xs.getD j 0 ∧ xs.getD j 0 < 8) (fun _ i => xs.length - (intOf i).toNat)
  case atStart => exact ⟨0, Nat.zero_le _, rfl, fun j hj => absurd hj (by omega)⟩
  case round =>
    obtain ⟨k, hk, rfl, hne⟩ := hrel
    have HN : Hid (∀ j, j < k → 0 ≤ xs.getD j 0 ∧ xs.getD j 0 < 8) := hne
    clear hne
    by_cases hlt : k < xs.length
    · obtain ⟨x, hxk⟩ : ∃ x, x = xs.getD k 0 := ⟨_, rfl⟩
      have hck : W.cell? ⟨b, k, none⟩ = some (.int .i64 x) := by rw [hxk]; exact HC k hlt
      have HX : Hid (x = xs.getD k 0) := hxk
      clear hxk
      have HM : Hid (x ∈ xs) := by
        show _ ∈ _
        rw [show x = xs.getD k 0 from HX, List.getD_eq_getElem?_getD, List.getElem?_eq_getElem hlt]
        exact List.getElem_mem hlt
      by_cases h0 : x < 0
      · have hE : Hid (mayD d xs = 1) := by show _ = _; unfold mayD; rw [if_pos ⟨x, HM, .inl h0⟩]
        go_wp2
        go_ret
        exact ⟨by rw [show mayD d xs = 1 from hE]; rfl, rfl⟩
      · by_cases h8 : 8 ≤ x
        · have hE : Hid (mayD d xs = 1) := by show _ = _; unfold mayD; rw [if_pos ⟨x, HM, .inr h8⟩]
          go_wp2
          all_goals go_ret
          all_goals exact ⟨by rw [show mayD d xs = 1 from hE]; rfl, rfl⟩
        · have hb : 0 ≤ x ∧ x < 8 := by omega
          have Hb : Hid (0 ≤ x ∧ x < 8) := hb
          go_wp2
          go_round
          case rel => exact ⟨k + 1, by omega, by go_num, fun j hj => by
            rcases Nat.lt_or_ge j k with h | h
            · exact HN j h
            · obtain rfl : j = k := by omega
              rw [← HX]; exact Hb⟩
          case measure => (simp [intOf]; try omega)
    · have HA : Hid (¬ ∃ x ∈ xs, x < 0 ∨ 8 ≤ x) := by
        show ¬ _
        rintro ⟨x, hx, hb⟩
        obtain ⟨j, hj, he⟩ := List.getElem_of_mem hx
        have := HN j (by omega)
        rw [List.getD_eq_getElem?_getD, List.getElem?_eq_getElem hj] at this
        simp only [Option.getD_some, he] at this
        omega
      cases hd : d.dead
      · have hE : Hid (mayD d xs = 0) := by show _ = _; unfold mayD; rw [if_neg HA, hd]; rfl
        rw [hd] at kb
        clear hd
        go_wp2
        go_ret
        exact ⟨by rw [show mayD d xs = 0 from hE]; rfl, rfl⟩
      · have hE : Hid (mayD d xs = 13) := by show _ = _; unfold mayD; rw [if_neg HA, hd]; rfl
        rw [hd] at kb
        clear hd
        go_wp2
        go_ret
        exact ⟨by rw [show mayD d xs = 13 from hE]; rfl, rfl⟩
theorem may_nil (b n c : Nat) (W : World) : Calls Try.prog 55 #[.pointer none, .slice (some ⟨b, 0, none⟩) n c] W fun e W' => e = .returned (.int .i64 2) ∧ W = W' := by
  go_enter Try.func55, Try.ntmps55
  go_wp2
  all_goals go_ret
  all_goals exact ⟨rfl, rfl⟩
/-- A disk behind a call that may fail. -/
def cnt (d : Dk) : Dk := if 0 < d.left then { d with left := d.left - 1, dead := decide (d.left - 1 = 0) } else d
def cntE (d : Dk) : Int := if (cnt d).dead = true then 13 else 0
theorem fs_3 {W : World} {p : Addr} {u : Value} {n : Int} (h : W.cell? p = some u) (hf : W.frozen? p = false) : (Instr.storeAt 3 (.pointer (some p)) (.int .i64 n)).run Try.prog W = .ok () (W.setCell p (.int .i64 n)) := by go_simp
set_option maxHeartbeats 1000000 in
theorem count_k (d : Dk) (D : Nat) {w W : World} {rs : List (Nat × List Value)} (HK : KR w ((D, d.l) :: rs) W) (hl : d.left ≤ 9223372036854775807) : Calls Try.prog 56 #[.pointer (some ⟨D, 0, none⟩)] W fun e W' => e = .returned (.int .i64 (cntE d)) ∧ KR w ((D, (cnt d).l) :: rs) W' := by
  have kl := kr_cell HK 0 rfl _ _ (dk_left d)
  have kd := kr_cell HK 0 rfl _ _ (dk_dead d)
  have fl := kr_frozen HK 0 rfl 16 (by rw [dk_len]; omega)
  have fd := kr_frozen HK 0 rfl 17 (by rw [dk_len]; omega)
  by_cases h0 : 0 < d.left
  · by_cases h1 : d.left - 1 = 0
    · have Hc : cnt d = { d with left := 0, dead := true } := by unfold cnt; rw [if_pos h0, h1]; rfl
      have H1 := kr_fset HK 0 rfl 16 (by rw [dk_len]; omega) (.int .i64 (0)) _ (dk_setL d (0))
      have H2 := kr_fset H1 0 rfl 17 (by rw [dk_len]; omega) (.bool true) _ (dk_setD _ true)
      simp only [List.set_cons_zero] at H2
      have HH : Hid (KR w ((D, (cnt d).l) :: rs) ((W.setCell ⟨D, 16, none⟩ (.int .i64 (0))).setCell ⟨D, 17, none⟩ (.bool true))) := by rw [Hc]; exact H2
      have hE : Hid (cntE d = 13) := by show _ = _; unfold cntE; rw [Hc]; rfl
      clear H1 H2 HK Hc
      go_enter Try.func56, Try.ntmps56
      go_wp2
      all_goals go_ret
      all_goals exact ⟨by rw [show cntE d = 13 from hE]; rfl, HH⟩
    · have hb : (d.left - 1 == 0) = false := by simpa using h1
      have Hc : cnt d = { d with left := d.left - 1, dead := false } := by unfold cnt; rw [if_pos h0, decide_eq_false h1]
      have H1 := kr_fset HK 0 rfl 16 (by rw [dk_len]; omega) (.int .i64 (d.left - 1)) _ (dk_setL d (d.left - 1))
      have H2 := kr_fset H1 0 rfl 17 (by rw [dk_len]; omega) (.bool false) _ (dk_setD _ false)
      simp only [List.set_cons_zero] at H2
      have HH : Hid (KR w ((D, (cnt d).l) :: rs) ((W.setCell ⟨D, 16, none⟩ (.int .i64 (d.left - 1))).setCell ⟨D, 17, none⟩ (.bool false))) := by rw [Hc]; exact H2
      have hE : Hid (cntE d = 0) := by show _ = _; unfold cntE; rw [Hc]; rfl
      clear H1 H2 HK Hc
      go_enter Try.func56, Try.ntmps56
      go_wp2
      all_goals go_ret
      all_goals exact ⟨by rw [show cntE d = 0 from hE]; rfl, HH⟩
  · have Hc : Hid (cnt d = d) := by show _ = _; unfold cnt; rw [if_neg h0]
    have HH : Hid (KR w _ _) := HK
    clear HK
    cases hd : d.dead
    · have hE : Hid (cntE d = 0) := by show _ = _; unfold cntE; rw [show cnt d = d from Hc, hd]; rfl
      rw [hd] at kd
      clear hd
      go_enter Try.func56, Try.ntmps56
      go_wp2
      all_goals go_ret
      all_goals exact ⟨by rw [show cntE d = 0 from hE]; rfl, by rw [show cnt d = d from Hc]; exact HH⟩
    · have hE : Hid (cntE d = 13) := by show _ = _; unfold cntE; rw [show cnt d = d from Hc, hd]; rfl
      rw [hd] at kd
      clear hd
      go_enter Try.func56, Try.ntmps56
      go_wp2
      all_goals go_ret
      all_goals exact ⟨by rw [show cntE d = 13 from hE]; rfl, by rw [show cnt d = d from Hc]; exact HH⟩
end Go.Proofs.Ytaonaifnaecpiaa.Own

namespace Go.Proofs.Ytaonaifnaecpiaa.Own
open Go.RowKit
attribute [local go_sem] mm_max2 mm_min2 mm_max_two mm_min_two
def dk0 : Dk := ⟨fun _ => (.slice none 0 0, 0), 0, false⟩
theorem dk0_build : Try.prog.built 78 [] = some dk0.l.toArray := by unfold Dk.l; kernel_rfl
theorem dk0_zero : (Try.prog.info? 78).map (fun i => (i.zero, i.size)) = some (some (.agg dk0.l.toArray), 18) := by unfold Dk.l; kernel_rfl
theorem dk_len' (d : Dk) : d.l.length = 18 := dk_len d
theorem dk_size (d : Dk) : (Try.prog.info? 78).map (·.size) = some d.l.length := by
  have h : (Try.prog.info? 78).map (·.size) = some 18 := by kernel_rfl
  rw [h, dk_len]
theorem dk_under : Try.prog.underlying 78 = some (.struct (match Try.prog.underlying 78 with | some (.struct f) => f | _ => #[])) := by kernel_rfl
theorem dk_one (d : Dk) (h : ∀ i, i < 8 → (d.f i).1.oneCell' = true) : ∀ v ∈ d.l, v.oneCell' = true := by
  unfold Dk.l
  intro v hv
  simp only [List.mem_cons, List.not_mem_nil, or_false] at hv
  rcases hv with rfl | rfl | rfl | rfl | rfl | rfl | rfl | rfl | rfl | rfl | rfl | rfl | rfl | rfl | rfl | rfl | rfl | rfl
  all_goals first | rfl | (exact h _ (by omega))
theorem new_k {w W : World} {rs : List (Nat × List Value)} (HK : KR w rs W) : Calls Try.prog 23 #[] W fun e W' => ∃ D, e = .returned (.pointer (some ⟨D, 0, none⟩)) ∧ KR w ((D, dk0.l) :: rs) W' := by
  go_enter Try.func23, Try.ntmps23
  go_wp2_with (first | ((with_reducible show wpList _ _ _ (Oper.mk _ (Op.build 78 _) _ _ _ _ :: _) _ _); refine wl_build 78 #[] dk0.l rfl rfl (by unfold Dk.l; kernel_rfl) ?_) | ((with_reducible show wpList _ _ _ (Oper.mk _ (Op.box 78 _) _ _ _ _ :: _) _ _); refine wl_boxK 78 _ dk0.l HK rfl rfl rfl (fun HK2 => ?_); clear HK; have HK := HK2; clear HK2))
  go_ret
  exact ⟨_, rfl, HK⟩
def maxZ (n : Int) : Int := if n < 0 then 0 else n
theorem maxZ_neg {n : Int} (h : n < 0) : maxZ n = 0 := by unfold maxZ; rw [if_pos h]
theorem maxZ_pos {n : Int} (h : ¬ n < 0) : maxZ n = n := by unfold maxZ; rw [if_neg h]
attribute [irreducible] maxZ
theorem fail_k (d : Dk) (D : Nat) (n : Int) {w W : World} {rs : List (Nat × List Value)} (HK : KR w ((D, d.l) :: rs) W) : Calls Try.prog 27 #[.pointer (some ⟨D, 0, none⟩), .int .i64 n] W fun e W' => e = .returned (.tuple #[]) ∧ KR w ((D, ({ d with left := maxZ n } : Dk).l) :: rs) W' := by
  have kl := kr_cell HK 0 rfl _ _ (dk_left d)
  have fl := kr_frozen HK 0 rfl 16 (by rw [dk_len]; omega)
  by_cases hn : n < 0
  · have H1 := kr_fset HK 0 rfl 16 (by rw [dk_len]; omega) (.int .i64 0) _ (dk_setL d 0)
    simp only [List.set_cons_zero] at H1
    have HH : Hid (KR w ((D, ({ d with left := maxZ n } : Dk).l) :: rs) (W.setCell ⟨D, 16, none⟩ (.int .i64 0))) := by rw [maxZ_neg hn]; exact H1
    clear H1 HK
    go_enter Try.func27, Try.ntmps27
    go_wp2
    all_goals exact bodyPost_end (results_none rfl _ _ _) rfl ⟨rfl, HH⟩
  · have H1 := kr_fset HK 0 rfl 16 (by rw [dk_len]; omega) (.int .i64 n) _ (dk_setL d n)
    simp only [List.set_cons_zero] at H1
    have HH : Hid (KR w ((D, ({ d with left := maxZ n } : Dk).l) :: rs) (W.setCell ⟨D, 16, none⟩ (.int .i64 n))) := by rw [maxZ_pos hn]; exact H1
    clear H1 HK
    go_enter Try.func27, Try.ntmps27
    go_wp2
    all_goals exact bodyPost_end (results_none rfl _ _ _) rfl ⟨rfl, HH⟩
theorem fail_nil (n : Int) (W : World) : Calls Try.prog 27 #[.pointer none, .int .i64 n] W fun e W' => e = .returned (.tuple #[]) ∧ W = W' := by
  go_enter Try.func27, Try.ntmps27
  go_wp2
  all_goals exact bodyPost_end (results_none rfl _ _ _) rfl ⟨rfl, rfl⟩
end Go.Proofs.Ytaonaifnaecpiaa.Own

namespace Go.Proofs.Ytaonaifnaecpiaa.Own
open Go.RowKit
/-- Bytes as cells. -/
def bc (bs : List Int) : List Value := bs.map (.int .u8)
/-- A file's slice holds bytes, in one of the rows. -/
def FC (rs : List (Nat × List Value)) (v : Value) (bs : List Int) : Prop :=
  (v = .slice none 0 0 ∧ bs = []) ∨ ∃ b cap l, v = .slice (some ⟨b, 0, none⟩) bs.length cap ∧ (b, l) ∈ rs ∧ bs.length ≤ cap ∧ cap ≤ l.length ∧ l.take bs.length = bc bs
theorem bc_len (bs : List Int) : (bc bs).length = bs.length := by simp [bc]
theorem bc_one (bs : List Int) : ∀ v ∈ bc bs, v.oneCell' = true := by
  intro v hv
  simp only [bc, List.mem_map] at hv
  obtain ⟨n, _, rfl⟩ := hv
  rfl
theorem src_cells {W : World} {b n : Nat} {l cs : List Value} (h : W.rangeAt b 0 l) (ht : l.take n = cs) (j : Nat) (v : Value) (hv : cs[j]? = some v) : W.cell? ((⟨b, 0, none⟩ : Addr).add j) = some v := by
  rw [Addr.add_mid]
  refine h j v ?_
  rw [← ht, List.getElem?_take] at hv
  split at hv
  · exact hv
  · cases hv
theorem kr_made {w W1 w2 : World} {rs : List (Nat × List Value)} {cs : List Value} {t : TypeId} (HK : KR w rs W1) (hb : Below W1.heap.size W1 w2) (hr : w2.heap[W1.heap.size]? = some (.cells cs.toArray t (0, 0))) : KR w ((W1.heap.size, cs) :: rs) w2 := by
  have h2 := kr_call HK hb
  have hlt : W1.heap.size < w2.heap.size := (Array.getElem?_eq_some_iff.1 hr).1
  refine ⟨h2.below, fun p hp => ?_, ?_⟩
  · rcases List.mem_cons.1 hp with rfl | hp
    · refine ⟨HK.below.size, hlt, fun j v hv => ?_, fun j hj => ⟨?_, ?_⟩⟩
      · rw [Nat.zero_add, cell_of_row _ _ j _ _ _ hr]
        simpa using hv
      · rw [Nat.zero_add, cell_of_row _ _ j _ _ _ hr]
        have : j < cs.length := hj
        simp [this]
      · unfold World.frozen?
        simp [hr]
    · exact h2.rows p hp
  · refine List.Pairwise.cons (fun q hq e => ?_) HK.apart
    have := (HK.rows q hq).2.1
    exact absurd e (Nat.ne_of_gt this)
theorem splice_all {α : Type} (L cs : List α) (h : cs.length = L.length) : splice L 0 cs = cs := by
  unfold splice
  simp [h]
theorem u8_info : (Try.prog.info? 5).map (fun i => (i.zero, i.size, i.bytes)) = some (some (.int .u8 0), 1, 1) := by kernel_rfl
theorem u8_size : (Try.prog.info? 5).map (·.size) = some 1 := by kernel_rfl
theorem made_len (n : Nat) : (madeCells #[Value.int .u8 0] n).toList.length = n := by simp [madeCells]
theorem may_one (d : Dk) (D : Nat) (k : Nat) {w : World} {rs : List (Nat × List Value)} (W1 : World) (b1 : Nat) (H1 : KR w ((b1, [.int .i64 k]) :: (D, d.l) :: rs) W1) : Calls Try.prog 55 #[.pointer (some ⟨D, 0, none⟩), .slice (some ⟨b1, 0, none⟩) 1 1] W1 fun e W' => e = .returned (.int .i64 (mayD d [(k : Int)])) ∧ W1 = W' :=
  may_k d D b1 [(k : Int)] (kr_tail H1) (by simp) (by intro j hj; match j, hj with | 0, _ => exact kr_cell H1 0 rfl 0 _ rfl)
theorem mayD_in (d : Dk) (k : Nat) (hk : k < 8) : mayD d [(k : Int)] = if d.dead = true then 13 else 0 := by
  unfold mayD
  rw [if_neg (by simp; omega)]
theorem read_k (d : Dk) (D : Nat) (k : Nat) (hk : k < 8) (bs : List Int) (hb : bs.length ≤ 2000000) {w W : World} {rs : List (Nat × List Value)} (HK : KR w ((D, d.l) :: rs) W) (hf : FC rs (d.f k).1 bs) :
    Calls Try.prog 45 #[.pointer (some ⟨D, 0, none⟩), .int .i64 k] W fun e W' => ∃ g, e = .returned (.tuple #[.slice (some ⟨g, 0, none⟩) bs.length bs.length, .int .i64 0]) ∧ KR w ((g, bc bs) :: (D, d.l) :: rs) W' := by
  have kb := kr_cell HK 0 rfl _ _ (dk_a d k hk)
  have hk2 : (k : Int) < 8 := by omega
  have hM := fun W1 b1 H1 => may_one d D k (w := w) (rs := rs) W1 b1 H1
  have hm0 : mayD d [(k : Int)] = 0 ∨ mayD d [(k : Int)] = 13 := by
    rw [mayD_in d k hk]
    split
    · exact .inr rfl
    · exact .inl rfl
  have hms : ∀ W : World, (Instr.makeSlice 23 (.int .i64 (bs.length : Int)) (.int .i64 (bs.length : Int))).run Try.prog W = .ok (.slice (some ⟨W.heap.size, 0, none⟩) bs.length bs.length) (W.alloc (.cells (madeCells #[.int .u8 0] bs.length) 5)) := fun W => run_make_row' _ _ _ _ Try.underlying23 u8_info rfl .i64 .i64 bs.length (by omega) (by omega) W
  rcases hf with ⟨h1, hn⟩ | ⟨b, cap, l, h1, hm, hc1, hc2, ht⟩
  · have hl0 : bs.length = 0 := by rw [hn]; rfl
    rw [h1, ← hl0] at kb
    rw [← hl0] at h1
    have HL : Hid (bs.length = 0) := hl0
    clear hl0 hn
    rcases hm0 with h0 | h0
    · skip
      rw [h0] at hM
      go_enter Try.func45, Try.ntmps45
      go_wp2_with (first | (go_at_call 55; have HK2 := kr_new HK [.int .i64 (k : Int)] 3; clear HK; have HK := HK2; clear HK2; refine (hM _ _ HK).mono ?_; rintro e w' ⟨rfl, rfl⟩; have kb2 := kr_cell HK 1 rfl _ _ (dk_a d k hk); rw [h1] at kb2; have zD := kr_lt HK 1 rfl; clear kb; generalize W.alloc _ = W1 at HK kb2 zD ⊢) | ((with_reducible show wpList _ _ _ (Oper.mk _ (Op.call _) _ _ _ _ :: _) _ _); refine wpList_copy_splice rfl _ _ 23 23 rfl 5 Try.underlying23 u8_size _ _ _ _ _ _ rfl rfl W1.heap.size 0 (madeCells #[.int .u8 0] bs.length).toList 5 (heap_alloc_last _ _) (bc bs) (by rw [bc_len]; simp) (fun h => absurd h (by rw [bc_len, show bs.length = 0 from HL]; omega)) (by rw [bc_len, made_len]; omega) (bc_one bs) W1.heap.size W1 (bw_alloc (Below.refl _ _) _) (Nat.le_refl _) (fun w2 HG HB => ?_)))
      go_ret2
      exact ⟨_, rfl, kr_drop (kr_made HK HB (by rw [HG.out, splice_all _ _ (by rw [bc_len, made_len])]))⟩
    · skip
      rw [h0] at hM
      go_enter Try.func45, Try.ntmps45
      go_wp2_with (first | (go_at_call 55; have HK2 := kr_new HK [.int .i64 (k : Int)] 3; clear HK; have HK := HK2; clear HK2; refine (hM _ _ HK).mono ?_; rintro e w' ⟨rfl, rfl⟩; have kb2 := kr_cell HK 1 rfl _ _ (dk_a d k hk); rw [h1] at kb2; have zD := kr_lt HK 1 rfl; clear kb; generalize W.alloc _ = W1 at HK kb2 zD ⊢) | ((with_reducible show wpList _ _ _ (Oper.mk _ (Op.call _) _ _ _ _ :: _) _ _); refine wpList_copy_splice rfl _ _ 23 23 rfl 5 Try.underlying23 u8_size _ _ _ _ _ _ rfl rfl W1.heap.size 0 (madeCells #[.int .u8 0] bs.length).toList 5 (heap_alloc_last _ _) (bc bs) (by rw [bc_len]; simp) (fun h => absurd h (by rw [bc_len, show bs.length = 0 from HL]; omega)) (by rw [bc_len, made_len]; omega) (bc_one bs) W1.heap.size W1 (bw_alloc (Below.refl _ _) _) (Nat.le_refl _) (fun w2 HG HB => ?_)))
      go_ret2
      exact ⟨_, rfl, kr_drop (kr_made HK HB (by rw [HG.out, splice_all _ _ (by rw [bc_len, made_len])]))⟩
  · rw [h1] at kb
    rcases hm0 with h0 | h0
    · skip
      rw [h0] at hM
      go_enter Try.func45, Try.ntmps45
      go_wp2_with (first | (go_at_call 55; have HK2 := kr_new HK [.int .i64 (k : Int)] 3; clear HK; have HK := HK2; clear HK2; refine (hM _ _ HK).mono ?_; rintro e w' ⟨rfl, rfl⟩; have kb2 := kr_cell HK 1 rfl _ _ (dk_a d k hk); rw [h1] at kb2; have zD := kr_lt HK 1 rfl; clear kb; generalize W.alloc _ = W1 at HK kb2 zD ⊢) | ((with_reducible show wpList _ _ _ (Oper.mk _ (Op.call _) _ _ _ _ :: _) _ _); refine wpList_copy_splice rfl _ _ 23 23 rfl 5 Try.underlying23 u8_size _ _ _ _ _ _ rfl rfl W1.heap.size 0 (madeCells #[.int .u8 0] bs.length).toList 5 (heap_alloc_last _ _) (bc bs) (by rw [bc_len]; simp) (fun _ => ⟨rfl, _, rfl, src_cells (World.rangeAt_alloc (kr_mem HK (List.mem_cons_of_mem _ (List.mem_cons_of_mem _ hm))) _) ht⟩) (by rw [bc_len, made_len]; omega) (bc_one bs) W1.heap.size W1 (bw_alloc (Below.refl _ _) _) (Nat.le_refl _) (fun w2 HG HB => ?_)))
      go_ret2
      exact ⟨_, rfl, kr_drop (kr_made HK HB (by rw [HG.out, splice_all _ _ (by rw [bc_len, made_len])]))⟩
    · skip
      rw [h0] at hM
      go_enter Try.func45, Try.ntmps45
      go_wp2_with (first | (go_at_call 55; have HK2 := kr_new HK [.int .i64 (k : Int)] 3; clear HK; have HK := HK2; clear HK2; refine (hM _ _ HK).mono ?_; rintro e w' ⟨rfl, rfl⟩; have kb2 := kr_cell HK 1 rfl _ _ (dk_a d k hk); rw [h1] at kb2; have zD := kr_lt HK 1 rfl; clear kb; generalize W.alloc _ = W1 at HK kb2 zD ⊢) | ((with_reducible show wpList _ _ _ (Oper.mk _ (Op.call _) _ _ _ _ :: _) _ _); refine wpList_copy_splice rfl _ _ 23 23 rfl 5 Try.underlying23 u8_size _ _ _ _ _ _ rfl rfl W1.heap.size 0 (madeCells #[.int .u8 0] bs.length).toList 5 (heap_alloc_last _ _) (bc bs) (by rw [bc_len]; simp) (fun _ => ⟨rfl, _, rfl, src_cells (World.rangeAt_alloc (kr_mem HK (List.mem_cons_of_mem _ (List.mem_cons_of_mem _ hm))) _) ht⟩) (by rw [bc_len, made_len]; omega) (bc_one bs) W1.heap.size W1 (bw_alloc (Below.refl _ _) _) (Nat.le_refl _) (fun w2 HG HB => ?_)))
      go_ret2
      exact ⟨_, rfl, kr_drop (kr_made HK HB (by rw [HG.out, splice_all _ _ (by rw [bc_len, made_len])]))⟩
end Go.Proofs.Ytaonaifnaecpiaa.Own

namespace Go.Proofs.Ytaonaifnaecpiaa.Own
open Go.RowKit
/-- A slice's elements are these bytes. -/
def Src (W : World) (sp : Option Addr) (ys : List Int) : Prop := 0 < ys.length → ∃ A, sp = some A ∧ ∀ j v, (bc ys)[j]? = some v → W.cell? (A.add j) = some v
theorem src_keep {W W' : World} {sp : Option Addr} {ys : List Int} (h : Src W sp ys) (hb : Below W.heap.size W W') : Src W' sp ys := by
  intro hp
  obtain ⟨A, rfl, h3⟩ := h hp
  refine ⟨A, rfl, fun j v hv => ?_⟩
  have := h3 j v hv
  rw [← this]
  exact hb.cell (World.block_lt_of_cell? W _ this)
theorem bc_app (xs ys : List Int) : bc (xs ++ ys) = bc xs ++ bc ys := by simp [bc]
theorem splice_two (L X Y : List Value) (h : L.length = X.length + Y.length) : splice (splice L 0 X) X.length Y = X ++ Y := by
  unfold splice
  simp [h]
/-- A file behind an append. -/
def putA (d : Dk) (k : Nat) (v : Value) : Dk := { d with f := upd d.f k (v, (d.f k).2) }
theorem append_okc (d : Dk) (D : Nat) (k : Nat) (hk : k < 8) (xs ys : List Int) (m n : Nat) (hX : Hid (xs.length = m)) (hY : Hid (ys.length = n)) (hy : n + m ≤ 1048576) (hl : d.left ≤ 9223372036854775807) (h0 : d.dead = false) {w W : World} {rs : List (Nat × List Value)} (HK : KR w ((D, d.l) :: rs) W) (sp : Option Addr) (cap : Nat) (hS : Src W sp ys)
    (sx : Option Addr) (cx : Nat) (h1 : (d.f k).1 = .slice sx m cx) (hx : ∀ W1, KR w rs W1 → Src W1 sx xs) :
    Calls Try.prog 37 #[.pointer (some ⟨D, 0, none⟩), .int .i64 k, .slice sp n cap] W fun e W' => ∃ g, e = .returned (.int .i64 (cntE (putA d k (.slice (some ⟨g, 0, none⟩) (m + n) (m + n))))) ∧ KR w ((D, (cnt (putA d k (.slice (some ⟨g, 0, none⟩) (m + n) (m + n)))).l) :: (g, bc (xs ++ ys)) :: rs) W' := by
  have kb := kr_cell HK 0 rfl _ _ (dk_a d k hk)
  have hk2 : (k : Int) < 8 := by omega
  have hM := fun W1 b1 H1 => may_one d D k (w := w) (rs := rs) W1 b1 H1
  have hm0 : mayD d [(k : Int)] = 0 := by rw [mayD_in d k hk, h0]; rfl
  rw [hm0] at hM
  clear hm0 h0
  have hms : ∀ W : World, (Instr.makeSlice 23 (.int .i64 ((m : Int) + (n : Int))) (.int .i64 ((m : Int) + (n : Int)))).run Try.prog W = .ok (.slice (some ⟨W.heap.size, 0, none⟩) (m + n) (m + n)) (W.alloc (.cells (madeCells #[.int .u8 0] (m + n)) 5)) := fun W => by
    have := run_make_row' _ _ _ _ Try.underlying23 u8_info rfl .i64 .i64 (m + n) (by omega) (by omega) W
    rwa [Int.natCast_add] at this
  rw [h1] at kb
  have hfull : (n : Int) ≤ 1048576 - (m : Int) := by omega
  have lX : (bc xs).length = m := by rw [bc_len]; exact hX
  have lY : (bc ys).length = n := by rw [bc_len]; exact hY
  have LX : Hid ((bc xs).length = m) := lX
  have LY : Hid ((bc ys).length = n) := lY
  clear lX lY
  go_enter Try.func37, Try.ntmps37
  go_wp2_with (first | (go_at_call 55; have HK2 := kr_new HK [.int .i64 (k : Int)] 3; have hS2 := src_keep hS (bw_alloc (Below.refl _ W) (.cells [.int .i64 (k : Int)].toArray 3)); clear HK hS; have HK := HK2; have hS := hS2; clear HK2 hS2; refine (hM _ _ HK).mono ?_; rintro e w' ⟨rfl, rfl⟩; have kb2 := kr_cell HK 1 rfl _ _ (dk_a d k hk); rw [h1] at kb2; have zD := kr_lt HK 1 rfl; clear kb; generalize W.alloc _ = W1 at HK hS kb2 zD ⊢) | ((with_reducible show wpList _ _ _ (Oper.mk (some 46) (Op.call _) _ _ _ _ :: _) _ _); refine wpList_copy_splice rfl _ _ 23 23 rfl 5 Try.underlying23 u8_size _ _ _ _ _ _ rfl rfl W1.heap.size 0 (madeCells #[.int .u8 0] (m + n)).toList 5 (heap_alloc_last _ _) (bc xs) (by rw [LX.out]; exact (Nat.min_eq_left (by omega)).symm) (fun h => ⟨rfl, src_keep (hx W1 (kr_tail (kr_tail HK))) (bw_alloc (Below.refl _ _) _) (by rw [bc_len] at h; exact h)⟩) (by rw [LX.out, made_len]; omega) (bc_one xs) W1.heap.size W1 (bw_alloc (Below.refl _ _) _) (Nat.le_refl _) (fun w2 HG HB => ?_); have hS2 := src_keep hS HB; clear hS; have hS := hS2; clear hS2; rw [LX.out]) | ((with_reducible show wpList _ _ _ (Oper.mk (some 49) (Op.call _) _ _ _ _ :: _) _ _); refine wpList_copy_splice rfl _ _ 23 23 rfl 5 Try.underlying23 u8_size _ _ _ _ _ _ rfl rfl W1.heap.size m (splice (madeCells #[.int .u8 0] (m + n)).toList 0 (bc xs)) 5 HG.out (bc ys) (by rw [LY.out]; first | exact (Nat.min_self n).symm | (simp; omega) | omega) (fun h => ⟨by first | rfl | (rw [LY.out] at h; rw [if_neg (by omega)]), hS (by rw [bc_len] at h; exact h)⟩) (by rw [LY.out, length_splice _ _ _ (by rw [LX.out, made_len]; omega), made_len]; omega) (bc_one ys) W1.heap.size W1 HB (Nat.le_refl _) (fun w3 HG3 HB3 => ?_); have HK3 := kr_drop (kr_made (cs := bc xs ++ bc ys) HK HB3 (by rw [HG3.out, ← LX.out, splice_two _ _ _ (by rw [made_len, LX.out, LY.out])])); have kD := kr_cell HK3 1 rfl _ _ (dk_a d k hk); rw [h1] at kD; have fD := kr_frozen HK3 1 rfl (k * 2) (by rw [dk_len]; omega); clear HK kb2 zD HG HB hS; rw [LY.out]))
  all_goals (
    try rw [show (Value.slice (some ⟨W1.heap.size, 0, none⟩) m m) = Value.slice (some ⟨W1.heap.size, 0, none⟩) (m + n) (m + n) by rw [show m + n = m by omega]]
    have HK4 := kr_fset HK3 1 rfl (k * 2) (by rw [dk_len]; omega) (.slice (some ⟨W1.heap.size, 0, none⟩) (m + n) (m + n)) _ (dk_setA d k hk _)
    simp only [List.set_cons_succ, List.set_cons_zero] at HK4
    have HK5 := kr_swap HK4
    clear HK3 HK4 kD fD hM hms
    refine (count_k (putA d k (.slice (some ⟨W1.heap.size, 0, none⟩) (m + n) (m + n))) D HK5 hl).mono ?_
    rintro e w' ⟨rfl, HK6⟩
    clear HK5
    go_wp2
    go_ret
    first | exact ⟨_, rfl, by rw [bc_app]; exact HK6⟩ | (refine ⟨W1.heap.size, ?_, by rw [bc_app]; exact HK6⟩; rw [show m + n = m by omega]; rfl))
end Go.Proofs.Ytaonaifnaecpiaa.Own

namespace Go.Proofs.Ytaonaifnaecpiaa.Own
open Go.RowKit
theorem mayD_out (d : Dk) (f : Int) (hf : f < 0 ∨ 8 ≤ f) : mayD d [f] = 1 := by
  unfold mayD
  rw [if_pos ⟨f, by simp, hf⟩]
theorem may_oneI (d : Dk) (D : Nat) (f : Int) {w : World} {rs : List (Nat × List Value)} (W1 : World) (b1 : Nat) (H1 : KR w ((b1, [.int .i64 f]) :: (D, d.l) :: rs) W1) : Calls Try.prog 55 #[.pointer (some ⟨D, 0, none⟩), .slice (some ⟨b1, 0, none⟩) 1 1] W1 fun e W' => e = .returned (.int .i64 (mayD d [f])) ∧ W1 = W' :=
  may_k d D b1 [f] (kr_tail H1) (by simp) (by intro j hj; match j, hj with | 0, _ => exact kr_cell H1 0 rfl 0 _ rfl)
theorem append_no (d : Dk) (D : Nat) (f : Int) (m : Int) (hm : mayD d [f] = m) (h0 : m ≠ 0) {w W : World} {rs : List (Nat × List Value)} (HK : KR w ((D, d.l) :: rs) W) (v : Value) :
    Calls Try.prog 37 #[.pointer (some ⟨D, 0, none⟩), .int .i64 f, v] W fun e W' => e = .returned (.int .i64 m) ∧ KR w ((D, d.l) :: rs) W' := by
  have hM := fun W1 b1 H1 => may_oneI d D f (w := w) (rs := rs) W1 b1 H1
  rw [hm] at hM
  clear hm
  go_enter Try.func37, Try.ntmps37
  go_wp2_with (go_at_call 55; have HK2 := kr_new HK [.int .i64 f] 3; clear HK; have HK := HK2; clear HK2; refine (hM _ _ HK).mono ?_; rintro e w' ⟨rfl, rfl⟩)
  all_goals go_ret
  all_goals exact ⟨rfl, kr_tail HK⟩
theorem append_nil (f : Int) (v : Value) {w W : World} {rs : List (Nat × List Value)} (HK : KR w rs W) :
    Calls Try.prog 37 #[.pointer none, .int .i64 f, v] W fun e W' => e = .returned (.int .i64 2) ∧ KR w rs W' := by
  go_enter Try.func37, Try.ntmps37
  go_wp2_with (go_at_call 55; have HK2 := kr_new HK [.int .i64 f] 3; clear HK; have HK := HK2; clear HK2; refine (may_nil _ _ _ _).mono ?_; rintro e w' ⟨rfl, rfl⟩)
  all_goals go_ret
  all_goals exact ⟨rfl, kr_tail HK⟩
theorem append_full (d : Dk) (D : Nat) (k : Nat) (hk : k < 8) (m n : Nat) (hy : 1048576 < n + m) (hm : m ≤ 1048576) (h0 : d.dead = false) {w W : World} {rs : List (Nat × List Value)} (HK : KR w ((D, d.l) :: rs) W) (sp : Option Addr) (cap : Nat) (sx : Option Addr) (cx : Nat) (h1 : (d.f k).1 = .slice sx m cx) :
    Calls Try.prog 37 #[.pointer (some ⟨D, 0, none⟩), .int .i64 k, .slice sp n cap] W fun e W' => e = .returned (.int .i64 4) ∧ KR w ((D, d.l) :: rs) W' := by
  have kb := kr_cell HK 0 rfl _ _ (dk_a d k hk)
  have hk2 : (k : Int) < 8 := by omega
  have hM := fun W1 b1 H1 => may_one d D k (w := w) (rs := rs) W1 b1 H1
  have hm0 : mayD d [(k : Int)] = 0 := by rw [mayD_in d k hk, h0]; rfl
  rw [hm0] at hM
  clear hm0 h0
  rw [h1] at kb
  have hfull : (1048576 : Int) - (m : Int) < (n : Int) := by omega
  go_enter Try.func37, Try.ntmps37
  go_wp2_with (go_at_call 55; have HK2 := kr_new HK [.int .i64 (k : Int)] 3; clear HK; have HK := HK2; clear HK2; refine (hM _ _ HK).mono ?_; rintro e w' ⟨rfl, rfl⟩; have kb2 := kr_cell HK 1 rfl _ _ (dk_a d k hk); rw [h1] at kb2; have zD := kr_lt HK 1 rfl; clear kb; generalize W.alloc _ = W1 at HK kb2 zD ⊢)
  all_goals go_ret
  all_goals exact ⟨rfl, kr_tail HK⟩
theorem read_out (d : Dk) (D : Nat) (f : Int) (hf : f < 0 ∨ 8 ≤ f) {w W : World} {rs : List (Nat × List Value)} (HK : KR w ((D, d.l) :: rs) W) :
    Calls Try.prog 45 #[.pointer (some ⟨D, 0, none⟩), .int .i64 f] W fun e W' => e = .returned (.tuple #[.slice none 0 0, .int .i64 1]) ∧ KR w ((D, d.l) :: rs) W' := by
  have hM := fun W1 b1 H1 => may_oneI d D f (w := w) (rs := rs) W1 b1 H1
  rw [mayD_out d f hf] at hM
  clear hf
  go_enter Try.func45, Try.ntmps45
  go_wp2_with (go_at_call 55; have HK2 := kr_new HK [.int .i64 f] 3; clear HK; have HK := HK2; clear HK2; refine (hM _ _ HK).mono ?_; rintro e w' ⟨rfl, rfl⟩)
  all_goals go_ret2
  all_goals exact ⟨rfl, kr_tail HK⟩
theorem read_nil (f : Int) {w W : World} {rs : List (Nat × List Value)} (HK : KR w rs W) :
    Calls Try.prog 45 #[.pointer none, .int .i64 f] W fun e W' => e = .returned (.tuple #[.slice none 0 0, .int .i64 2]) ∧ KR w rs W' := by
  go_enter Try.func45, Try.ntmps45
  go_wp2_with (go_at_call 55; have HK2 := kr_new HK [.int .i64 f] 3; clear HK; have HK := HK2; clear HK2; refine (may_nil _ _ _ _).mono ?_; rintro e w' ⟨rfl, rfl⟩)
  all_goals go_ret2
  all_goals exact ⟨rfl, kr_tail HK⟩
/-- What a file's slice holds, as a source. -/
theorem fc_src {rs : List (Nat × List Value)} {v : Value} {xs : List Int} (h : FC rs v xs) : ∃ sx cx, v = .slice sx xs.length cx ∧ ∀ (w W1 : World), KR w rs W1 → Src W1 sx xs := by
  rcases h with ⟨rfl, rfl⟩ | ⟨b, cap, l, rfl, hm, _, _, ht⟩
  · exact ⟨none, 0, rfl, fun w W1 _ hp => absurd hp (by simp)⟩
  · exact ⟨_, cap, rfl, fun w W1 HK _ => ⟨_, rfl, src_cells (kr_mem HK hm) ht⟩⟩
theorem append_ok (d : Dk) (D : Nat) (k : Nat) (hk : k < 8) (xs ys : List Int) (hy : ys.length + xs.length ≤ 1048576) (hl : d.left ≤ 9223372036854775807) (h0 : d.dead = false) {w W : World} {rs : List (Nat × List Value)} (HK : KR w ((D, d.l) :: rs) W) (hf : FC rs (d.f k).1 xs) (sp : Option Addr) (cap : Nat) (hS : Src W sp ys) :
    Calls Try.prog 37 #[.pointer (some ⟨D, 0, none⟩), .int .i64 k, .slice sp ys.length cap] W fun e W' => ∃ g, e = .returned (.int .i64 (cntE (putA d k (.slice (some ⟨g, 0, none⟩) (xs.length + ys.length) (xs.length + ys.length))))) ∧ KR w ((D, (cnt (putA d k (.slice (some ⟨g, 0, none⟩) (xs.length + ys.length) (xs.length + ys.length)))).l) :: (g, bc (xs ++ ys)) :: rs) W' := by
  obtain ⟨sx, cx, h1, hx⟩ := fc_src hf
  exact append_okc d D k hk xs ys xs.length ys.length rfl rfl hy hl h0 HK sp cap hS sx cx h1 (fun W1 H => hx w W1 H)
end Go.Proofs.Ytaonaifnaecpiaa.Own

namespace Go.Proofs.Ytaonaifnaecpiaa.Own
open Go.RowKit
def chE (d : Dk) (xs : List Int) : Int := if mayD d xs = 0 then cntE d else mayD d xs
def chD (d : Dk) (xs : List Int) (d2 : Dk) : Dk := if mayD d xs = 0 then (if cntE d = 0 then d2 else cnt d) else d
theorem change_sync (d : Dk) (D b : Nat) (xs : List Int) (hlen : xs.length ≤ 100) (p1 p2 : Nat) (d2 : Dk) (hl : d.left ≤ 9223372036854775807) {w W : World} {rows : List (Nat × List Value)} (HK : KR w ((D, d.l) :: rows) W)
    (hx : ∀ W1, KR w ((D, d.l) :: rows) W1 → ∀ j, j < xs.length → W1.cell? ⟨b, j, none⟩ = some (.int .i64 (xs.getD j 0)))
    (hdo : mayD d xs = 0 → cntE d = 0 → ∀ W1, KR w ((D, (cnt d).l) :: rows) W1 → Calls Try.prog 67 #[.pointer (some ⟨p1, 0, none⟩), .pointer (some ⟨p2, 0, none⟩)] W1 fun e W' => e = .returned (.tuple #[]) ∧ KR w ((D, d2.l) :: rows) W') :
    Calls Try.prog 66 #[.pointer (some ⟨D, 0, none⟩), .func (.func 67) #[] #[.pointer (some ⟨p1, 0, none⟩), .pointer (some ⟨p2, 0, none⟩)], .slice (some ⟨b, 0, none⟩) xs.length xs.length] W fun e W' => e = .returned (.int .i64 (chE d xs)) ∧ KR w ((D, (chD d xs d2).l) :: rows) W' := by
  have hM := fun W1 H1 => may_k d D b xs (w := w) (W := W1) (rs := rows) H1 hlen (hx W1 H1)
  have hC := fun W1 H1 => count_k d D (w := w) (W := W1) (rs := rows) H1 hl
  clear hx
  by_cases hm : mayD d xs = 0
  · rw [hm] at hM
    by_cases hE : cntE d = 0
    · rw [hE] at hC
      have h1 : Hid (chE d xs = 0) := by show _ = _; unfold chE; rw [if_pos hm, hE]
      have h2 : Hid (chD d xs d2 = d2) := by show _ = _; unfold chD; rw [if_pos hm, if_pos hE]
      have hd := hdo hm hE
      clear hdo hm hE
      generalize xs.length = n at *
      go_enter Try.func66, Try.ntmps66
      go_wp2_with (first | (go_at_call 55; refine (hM _ HK).mono ?_; rintro e w' ⟨rfl, rfl⟩) | (go_at_call 56; refine (hC _ HK).mono ?_; rintro e w' ⟨rfl, HK2⟩; clear HK; have HK := HK2; clear HK2) | (go_at_call 67; refine (hd _ HK).mono ?_; rintro e w' ⟨rfl, HK2⟩; clear HK; have HK := HK2; clear HK2))
      all_goals go_ret
      all_goals exact ⟨by rw [show chE d xs = 0 from h1]; rfl, by rw [show chD d xs d2 = d2 from h2]; exact HK⟩
    · have h1 : Hid (chE d xs = cntE d) := by show _ = _; unfold chE; rw [if_pos hm]
      have h2 : Hid (chD d xs d2 = cnt d) := by show _ = _; unfold chD; rw [if_pos hm, if_neg hE]
      clear hdo hm
      generalize cntE d = q at *
      generalize xs.length = n at *
      go_enter Try.func66, Try.ntmps66
      go_wp2_with (first | (go_at_call 55; refine (hM _ HK).mono ?_; rintro e w' ⟨rfl, rfl⟩) | (go_at_call 56; refine (hC _ HK).mono ?_; rintro e w' ⟨rfl, HK2⟩; clear HK; have HK := HK2; clear HK2))
      all_goals go_ret
      all_goals exact ⟨by rw [show chE d xs = q from h1]; rfl, by rw [show chD d xs d2 = cnt d from h2]; exact HK⟩
  · have h1 : Hid (chE d xs = mayD d xs) := by show _ = _; unfold chE; rw [if_neg hm]
    have h2 : Hid (chD d xs d2 = d) := by show _ = _; unfold chD; rw [if_neg hm]
    clear hdo hC
    generalize mayD d xs = q at *
    generalize xs.length = n at *
    go_enter Try.func66, Try.ntmps66
    go_wp2_with (first | (go_at_call 55; refine (hM _ HK).mono ?_; rintro e w' ⟨rfl, rfl⟩))
    all_goals go_ret
    all_goals exact ⟨by rw [show chE d xs = q from h1]; rfl, by rw [show chD d xs d2 = d from h2]; exact HK⟩
theorem change_clear (d : Dk) (D b : Nat) (xs : List Int) (hlen : xs.length ≤ 100) (p1 p2 : Nat) (d2 : Dk) (hl : d.left ≤ 9223372036854775807) {w W : World} {rows : List (Nat × List Value)} (HK : KR w ((D, d.l) :: rows) W)
    (hx : ∀ W1, KR w ((D, d.l) :: rows) W1 → ∀ j, j < xs.length → W1.cell? ⟨b, j, none⟩ = some (.int .i64 (xs.getD j 0)))
    (hdo : mayD d xs = 0 → cntE d = 0 → ∀ W1, KR w ((D, (cnt d).l) :: rows) W1 → Calls Try.prog 68 #[.pointer (some ⟨p1, 0, none⟩), .pointer (some ⟨p2, 0, none⟩)] W1 fun e W' => e = .returned (.tuple #[]) ∧ KR w ((D, d2.l) :: rows) W') :
    Calls Try.prog 66 #[.pointer (some ⟨D, 0, none⟩), .func (.func 68) #[] #[.pointer (some ⟨p1, 0, none⟩), .pointer (some ⟨p2, 0, none⟩)], .slice (some ⟨b, 0, none⟩) xs.length xs.length] W fun e W' => e = .returned (.int .i64 (chE d xs)) ∧ KR w ((D, (chD d xs d2).l) :: rows) W' := by
  have hM := fun W1 H1 => may_k d D b xs (w := w) (W := W1) (rs := rows) H1 hlen (hx W1 H1)
  have hC := fun W1 H1 => count_k d D (w := w) (W := W1) (rs := rows) H1 hl
  clear hx
  by_cases hm : mayD d xs = 0
  · rw [hm] at hM
    by_cases hE : cntE d = 0
    · rw [hE] at hC
      have h1 : Hid (chE d xs = 0) := by show _ = _; unfold chE; rw [if_pos hm, hE]
      have h2 : Hid (chD d xs d2 = d2) := by show _ = _; unfold chD; rw [if_pos hm, if_pos hE]
      have hd := hdo hm hE
      clear hdo hm hE
      generalize xs.length = n at *
      go_enter Try.func66, Try.ntmps66
      go_wp2_with (first | (go_at_call 55; refine (hM _ HK).mono ?_; rintro e w' ⟨rfl, rfl⟩) | (go_at_call 56; refine (hC _ HK).mono ?_; rintro e w' ⟨rfl, HK2⟩; clear HK; have HK := HK2; clear HK2) | (go_at_call 68; refine (hd _ HK).mono ?_; rintro e w' ⟨rfl, HK2⟩; clear HK; have HK := HK2; clear HK2))
      all_goals go_ret
      all_goals exact ⟨by rw [show chE d xs = 0 from h1]; rfl, by rw [show chD d xs d2 = d2 from h2]; exact HK⟩
    · have h1 : Hid (chE d xs = cntE d) := by show _ = _; unfold chE; rw [if_pos hm]
      have h2 : Hid (chD d xs d2 = cnt d) := by show _ = _; unfold chD; rw [if_pos hm, if_neg hE]
      clear hdo hm
      generalize cntE d = q at *
      generalize xs.length = n at *
      go_enter Try.func66, Try.ntmps66
      go_wp2_with (first | (go_at_call 55; refine (hM _ HK).mono ?_; rintro e w' ⟨rfl, rfl⟩) | (go_at_call 56; refine (hC _ HK).mono ?_; rintro e w' ⟨rfl, HK2⟩; clear HK; have HK := HK2; clear HK2))
      all_goals go_ret
      all_goals exact ⟨by rw [show chE d xs = q from h1]; rfl, by rw [show chD d xs d2 = cnt d from h2]; exact HK⟩
  · have h1 : Hid (chE d xs = mayD d xs) := by show _ = _; unfold chE; rw [if_neg hm]
    have h2 : Hid (chD d xs d2 = d) := by show _ = _; unfold chD; rw [if_neg hm]
    clear hdo hC
    generalize mayD d xs = q at *
    generalize xs.length = n at *
    go_enter Try.func66, Try.ntmps66
    go_wp2_with (first | (go_at_call 55; refine (hM _ HK).mono ?_; rintro e w' ⟨rfl, rfl⟩))
    all_goals go_ret
    all_goals exact ⟨by rw [show chE d xs = q from h1]; rfl, by rw [show chD d xs d2 = d from h2]; exact HK⟩
theorem change_rename (d : Dk) (D b : Nat) (xs : List Int) (hlen : xs.length ≤ 100) (p1 p2 p3 : Nat) (d2 : Dk) (hl : d.left ≤ 9223372036854775807) {w W : World} {rows : List (Nat × List Value)} (HK : KR w ((D, d.l) :: rows) W)
    (hx : ∀ W1, KR w ((D, d.l) :: rows) W1 → ∀ j, j < xs.length → W1.cell? ⟨b, j, none⟩ = some (.int .i64 (xs.getD j 0)))
    (hdo : mayD d xs = 0 → cntE d = 0 → ∀ W1, KR w ((D, (cnt d).l) :: rows) W1 → Calls Try.prog 69 #[.pointer (some ⟨p1, 0, none⟩), .pointer (some ⟨p2, 0, none⟩), .pointer (some ⟨p3, 0, none⟩)] W1 fun e W' => e = .returned (.tuple #[]) ∧ KR w ((D, d2.l) :: rows) W') :
    Calls Try.prog 66 #[.pointer (some ⟨D, 0, none⟩), .func (.func 69) #[] #[.pointer (some ⟨p1, 0, none⟩), .pointer (some ⟨p2, 0, none⟩), .pointer (some ⟨p3, 0, none⟩)], .slice (some ⟨b, 0, none⟩) xs.length xs.length] W fun e W' => e = .returned (.int .i64 (chE d xs)) ∧ KR w ((D, (chD d xs d2).l) :: rows) W' := by
  have hM := fun W1 H1 => may_k d D b xs (w := w) (W := W1) (rs := rows) H1 hlen (hx W1 H1)
  have hC := fun W1 H1 => count_k d D (w := w) (W := W1) (rs := rows) H1 hl
  clear hx
  by_cases hm : mayD d xs = 0
  · rw [hm] at hM
    by_cases hE : cntE d = 0
    · rw [hE] at hC
      have h1 : Hid (chE d xs = 0) := by show _ = _; unfold chE; rw [if_pos hm, hE]
      have h2 : Hid (chD d xs d2 = d2) := by show _ = _; unfold chD; rw [if_pos hm, if_pos hE]
      have hd := hdo hm hE
      clear hdo hm hE
      generalize xs.length = n at *
      go_enter Try.func66, Try.ntmps66
      go_wp2_with (first | (go_at_call 55; refine (hM _ HK).mono ?_; rintro e w' ⟨rfl, rfl⟩) | (go_at_call 56; refine (hC _ HK).mono ?_; rintro e w' ⟨rfl, HK2⟩; clear HK; have HK := HK2; clear HK2) | (go_at_call 69; refine (hd _ HK).mono ?_; rintro e w' ⟨rfl, HK2⟩; clear HK; have HK := HK2; clear HK2))
      all_goals go_ret
      all_goals exact ⟨by rw [show chE d xs = 0 from h1]; rfl, by rw [show chD d xs d2 = d2 from h2]; exact HK⟩
    · have h1 : Hid (chE d xs = cntE d) := by show _ = _; unfold chE; rw [if_pos hm]
      have h2 : Hid (chD d xs d2 = cnt d) := by show _ = _; unfold chD; rw [if_pos hm, if_neg hE]
      clear hdo hm
      generalize cntE d = q at *
      generalize xs.length = n at *
      go_enter Try.func66, Try.ntmps66
      go_wp2_with (first | (go_at_call 55; refine (hM _ HK).mono ?_; rintro e w' ⟨rfl, rfl⟩) | (go_at_call 56; refine (hC _ HK).mono ?_; rintro e w' ⟨rfl, HK2⟩; clear HK; have HK := HK2; clear HK2))
      all_goals go_ret
      all_goals exact ⟨by rw [show chE d xs = q from h1]; rfl, by rw [show chD d xs d2 = cnt d from h2]; exact HK⟩
  · have h1 : Hid (chE d xs = mayD d xs) := by show _ = _; unfold chE; rw [if_neg hm]
    have h2 : Hid (chD d xs d2 = d) := by show _ = _; unfold chD; rw [if_neg hm]
    clear hdo hC
    generalize mayD d xs = q at *
    generalize xs.length = n at *
    go_enter Try.func66, Try.ntmps66
    go_wp2_with (first | (go_at_call 55; refine (hM _ HK).mono ?_; rintro e w' ⟨rfl, rfl⟩))
    all_goals go_ret
    all_goals exact ⟨by rw [show chE d xs = q from h1]; rfl, by rw [show chD d xs d2 = d from h2]; exact HK⟩
end Go.Proofs.Ytaonaifnaecpiaa.Own

namespace Go.Proofs.Ytaonaifnaecpiaa.Own
open Go.RowKit
set_option linter.unusedSimpArgs false
/-- A file's number of safe bytes. -/
def putS (d : Dk) (k : Nat) (n : Int) : Dk := { d with f := upd d.f k ((d.f k).1, n) }
theorem putS_a (d : Dk) (k : Nat) (n : Int) : ((putS d k n).f k).1 = (d.f k).1 := by simp [putS, upd]
theorem putS_self (d : Dk) (k : Nat) : putS d k (d.f k).2 = d := by
  obtain ⟨f, left, dead⟩ := d
  simp only [putS, Dk.mk.injEq, and_true]
  funext j
  unfold upd
  split
  · rename_i h; rw [h]
  · rfl
theorem putS_two (d : Dk) (k : Nat) (n m : Int) : ({ putS d k n with f := upd (putS d k n).f k (((putS d k n).f k).1, m) } : Dk) = putS d k m := by
  obtain ⟨f, left, dead⟩ := d
  simp only [putS, Dk.mk.injEq, and_true]
  funext j
  unfold upd
  split <;> simp_all
set_option maxHeartbeats 4000000 in
theorem sync1_k (d : Dk) (D p1 p2 : Nat) (k : Nat) (hk : k < 8) (m : Nat) (sx : Option Addr) (cx : Nat) (h1 : (d.f k).1 = .slice sx m cx) {w W : World} {rows : List (Nat × List Value)} (HK : KR w ((D, d.l) :: rows) W) (hp1 : (p1, [.pointer (some ⟨D, 0, none⟩)]) ∈ rows) (hp2 : (p2, [.int .i64 (k : Int)]) ∈ rows) :
    Calls Try.prog 67 #[.pointer (some ⟨p1, 0, none⟩), .pointer (some ⟨p2, 0, none⟩)] W fun e W' => e = .returned (.tuple #[]) ∧ KR w ((D, (putS d k m).l) :: rows) W' := by
  have hS0 : ∃ n, KR w ((D, (putS d k n).l) :: rows) W.drew := ⟨(d.f k).2, by rw [putS_self]; exact kr_drew HK⟩
  have hk2 : (k : Int) < 8 := by omega
  clear HK
  go_enter Try.func67, Try.ntmps67
  go_wp2_with fail
  refine wp_region_held_drew (S := fun W => ∃ n, KR w ((D, (putS d k n).l) :: rows) W) (by kernel_rfl) hS0 (fun hHeld => ?_)
  refine wpAnyH_take (i := 0) (v := ?_) rfl (by kernel_rfl) (by kernel_rfl) (by kernel_rfl) (fun _ _ _ h => h) (Or.inl ⟨by rfl, ?_⟩) (by assumption) ?_
  rotate_left
  · (intro W hSw; (try dsimp only at hSw); obtain ⟨n0, hK0⟩ := hSw; have k1 := range_cell (kr_mem hK0 (List.mem_cons_of_mem _ hp1)) 0 _ rfl; have k2 := range_cell (kr_mem hK0 (List.mem_cons_of_mem _ hp2)) 0 _ rfl; have k3 := kr_cell hK0 0 rfl _ _ (dk_a (putS d k n0) k hk); rw [putS_a, h1] at k3; go_simp); (try with_reducible rfl)
  simp only [Act.put, List.setIfInBounds_toArray, List.set_cons_zero, List.set_cons_succ, List.getElem_toArray, List.getElem_cons_zero, List.getElem_cons_succ]
  refine wpAnyH_take (i := 1) (v := ?_) rfl (by kernel_rfl) (by kernel_rfl) (by kernel_rfl) (fun _ _ _ h => h) (Or.inl ⟨by rfl, ?_⟩) (by assumption) ?_
  rotate_left
  · (intro W hSw; (try dsimp only at hSw); obtain ⟨n0, hK0⟩ := hSw; have k1 := range_cell (kr_mem hK0 (List.mem_cons_of_mem _ hp1)) 0 _ rfl; have k2 := range_cell (kr_mem hK0 (List.mem_cons_of_mem _ hp2)) 0 _ rfl; have k3 := kr_cell hK0 0 rfl _ _ (dk_a (putS d k n0) k hk); rw [putS_a, h1] at k3; go_simp); (try with_reducible rfl)
  simp only [Act.put, List.setIfInBounds_toArray, List.set_cons_zero, List.set_cons_succ, List.getElem_toArray, List.getElem_cons_zero, List.getElem_cons_succ]
  refine wpAnyH_take (i := 2) (v := ?_) rfl (by kernel_rfl) (by kernel_rfl) (by kernel_rfl) (fun _ _ _ h => h) (Or.inl ⟨by rfl, ?_⟩) (by assumption) ?_
  rotate_left
  · (intro W hSw; (try dsimp only at hSw); obtain ⟨n0, hK0⟩ := hSw; have k1 := range_cell (kr_mem hK0 (List.mem_cons_of_mem _ hp1)) 0 _ rfl; have k2 := range_cell (kr_mem hK0 (List.mem_cons_of_mem _ hp2)) 0 _ rfl; have k3 := kr_cell hK0 0 rfl _ _ (dk_a (putS d k n0) k hk); rw [putS_a, h1] at k3; go_simp); (try with_reducible rfl)
  simp only [Act.put, List.setIfInBounds_toArray, List.set_cons_zero, List.set_cons_succ, List.getElem_toArray, List.getElem_cons_zero, List.getElem_cons_succ]
  refine wpAnyH_take (i := 3) (v := ?_) rfl (by kernel_rfl) (by kernel_rfl) (by kernel_rfl) (fun _ _ _ h => h) (Or.inl ⟨by rfl, ?_⟩) (by assumption) ?_
  rotate_left
  · (intro W hSw; (try dsimp only at hSw); obtain ⟨n0, hK0⟩ := hSw; have k1 := range_cell (kr_mem hK0 (List.mem_cons_of_mem _ hp1)) 0 _ rfl; have k2 := range_cell (kr_mem hK0 (List.mem_cons_of_mem _ hp2)) 0 _ rfl; have k3 := kr_cell hK0 0 rfl _ _ (dk_a (putS d k n0) k hk); rw [putS_a, h1] at k3; go_simp); (try with_reducible rfl)
  simp only [Act.put, List.setIfInBounds_toArray, List.set_cons_zero, List.set_cons_succ, List.getElem_toArray, List.getElem_cons_zero, List.getElem_cons_succ]
  refine wpAnyH_take (i := 4) (v := ?_) rfl (by kernel_rfl) (by kernel_rfl) (by kernel_rfl) (fun _ _ _ h => h) (Or.inl ⟨by rfl, ?_⟩) (by assumption) ?_
  rotate_left
  · (intro W hSw; (try dsimp only at hSw);  go_simp); (try with_reducible rfl)
  simp only [Act.put, List.setIfInBounds_toArray, List.set_cons_zero, List.set_cons_succ, List.getElem_toArray, List.getElem_cons_zero, List.getElem_cons_succ]
  refine wpAnyH_take (i := 5) (v := ?_) rfl (by kernel_rfl) (by kernel_rfl) (by kernel_rfl) (fun _ _ _ h => h) (Or.inl ⟨by rfl, ?_⟩) (by assumption) ?_
  rotate_left
  · (intro W hSw; (try dsimp only at hSw);  go_simp); (try with_reducible rfl)
  simp only [Act.put, List.setIfInBounds_toArray, List.set_cons_zero, List.set_cons_succ, List.getElem_toArray, List.getElem_cons_zero, List.getElem_cons_succ]
  refine wpAnyH_take (i := 6) (v := ?_) rfl (by kernel_rfl) (by kernel_rfl) (by kernel_rfl) (fun _ _ _ h => h) (Or.inl ⟨by rfl, ?_⟩) (by assumption) ?_
  rotate_left
  · (intro W hSw; (try dsimp only at hSw);  go_simp); (try with_reducible rfl)
  simp only [Act.put, List.setIfInBounds_toArray, List.set_cons_zero, List.set_cons_succ, List.getElem_toArray, List.getElem_cons_zero, List.getElem_cons_succ]
  refine wpAnyH_take (i := 7) (v := ?_) rfl (by kernel_rfl) (by kernel_rfl) (by kernel_rfl) (fun _ _ _ h => h) (Or.inl ⟨by rfl, ?_⟩) (by assumption) ?_
  rotate_left
  · (intro W hSw; (try dsimp only at hSw);  go_simp); (try with_reducible rfl)
  simp only [Act.put, List.setIfInBounds_toArray, List.set_cons_zero, List.set_cons_succ, List.getElem_toArray, List.getElem_cons_zero, List.getElem_cons_succ]
  refine wpAnyH_take (i := 8) (v := ?_) rfl (by kernel_rfl) (by kernel_rfl) (by kernel_rfl) (fun _ _ _ h => h) (Or.inl ⟨by rfl, ?_⟩) (by assumption) ?_
  rotate_left
  · (intro W hSw; (try dsimp only at hSw); obtain ⟨n0, hK0⟩ := hSw; have k1 := range_cell (kr_mem hK0 (List.mem_cons_of_mem _ hp1)) 0 _ rfl; have k2 := range_cell (kr_mem hK0 (List.mem_cons_of_mem _ hp2)) 0 _ rfl; have k3 := kr_cell hK0 0 rfl _ _ (dk_a (putS d k n0) k hk); rw [putS_a, h1] at k3; go_simp); (try with_reducible rfl)
  simp only [Act.put, List.setIfInBounds_toArray, List.set_cons_zero, List.set_cons_succ, List.getElem_toArray, List.getElem_cons_zero, List.getElem_cons_succ]
  refine wpAnyH_take (i := 9) (v := ?_) rfl (by kernel_rfl) (by kernel_rfl) (by kernel_rfl) (fun _ _ _ h => h) (Or.inl ⟨by rfl, ?_⟩) (by assumption) ?_
  rotate_left
  · (intro W hSw; (try dsimp only at hSw);  go_simp); (try with_reducible rfl)
  simp only [Act.put, List.setIfInBounds_toArray, List.set_cons_zero, List.set_cons_succ, List.getElem_toArray, List.getElem_cons_zero, List.getElem_cons_succ]
  refine wpAnyH_take (i := 10) (v := ?_) rfl (by kernel_rfl) (by kernel_rfl) (by kernel_rfl) (fun _ _ _ h => h) (Or.inl ⟨by rfl, ?_⟩) (by assumption) ?_
  rotate_left
  · (intro W hSw; (try dsimp only at hSw);  go_simp); (try with_reducible rfl)
  simp only [Act.put, List.setIfInBounds_toArray, List.set_cons_zero, List.set_cons_succ, List.getElem_toArray, List.getElem_cons_zero, List.getElem_cons_succ]
  refine wpAnyH_take (i := 11) (v := ?_) rfl (by kernel_rfl) (by kernel_rfl) (by kernel_rfl) (fun _ _ _ h => h) (Or.inl ⟨by rfl, ?_⟩) (by assumption) ?_
  rotate_left
  · (intro W hSw; (try dsimp only at hSw);  go_simp); (try with_reducible rfl)
  simp only [Act.put, List.setIfInBounds_toArray, List.set_cons_zero, List.set_cons_succ, List.getElem_toArray, List.getElem_cons_zero, List.getElem_cons_succ]
  refine wpAnyH_take (i := 12) (v := ?_) rfl (by kernel_rfl) (by kernel_rfl) (by kernel_rfl) (fun _ _ _ h => h) (Or.inl ⟨by rfl, ?_⟩) (by assumption) ?_
  rotate_left
  · (intro W hSw; (try dsimp only at hSw);  go_simp); (try with_reducible rfl)
  simp only [Act.put, List.setIfInBounds_toArray, List.set_cons_zero, List.set_cons_succ, List.getElem_toArray, List.getElem_cons_zero, List.getElem_cons_succ]
  refine wpAnyH_take (i := 13) (v := ?_) rfl (by kernel_rfl) (by kernel_rfl) (by kernel_rfl) (fun _ _ _ h => h) (Or.inl ⟨by rfl, ?_⟩) (by assumption) ?_
  rotate_left
  · (intro W hSw; (try dsimp only at hSw);  go_simp); (try with_reducible rfl)
  simp only [Act.put, List.setIfInBounds_toArray, List.set_cons_zero, List.set_cons_succ, List.getElem_toArray, List.getElem_cons_zero, List.getElem_cons_succ]
  refine wpAnyH_ready (rs := [14]) (by kernel_rfl) (by simp) ?_
  refine AllReadyH.cons rfl (fun K hK => ?_) AllReadyH.nil
  (try simp only [List.getElem_toArray, List.getElem_cons_zero, List.getElem_cons_succ])
  obtain ⟨n0, hK0⟩ := hHeld
  have k4 := kr_cell hK0 0 rfl _ _ (dk_b (putS d k n0) k hk)
  have f4 := kr_frozen hK0 0 rfl (k * 2 + 1) (by rw [dk_len]; omega)
  have HF := kr_fset hK0 0 rfl (k * 2 + 1) (by rw [dk_len]; omega) (.int .i64 (m : Int)) _ (dk_setB (putS d k n0) k hk m)
  rw [putS_two] at HF
  simp only [List.set_cons_zero] at HF
  clear hS0 hK0
  go_simp
  refine hK.out _ _ ⟨m, HF⟩ (fun hNew => ?_)
  (try (simp only [Act.put, List.setIfInBounds_toArray, List.set_cons_zero, List.set_cons_succ, List.getElem_toArray, List.getElem_cons_zero, List.getElem_cons_succ]))
  refine wpAnyH_done (by kernel_rfl) ?_ _
  clear hNew hK K
  go_wp2
  exact bodyPost_end (results_none rfl _ _ _) rfl ⟨rfl, HF⟩
end Go.Proofs.Ytaonaifnaecpiaa.Own

namespace Go.Proofs.Ytaonaifnaecpiaa.Own
open Go.RowKit
set_option linter.unusedSimpArgs false
theorem kr_perm {w W : World} {rs rs' : List (Nat × List Value)} (h : KR w rs W) (hp : rs.Perm rs') : KR w rs' W :=
  ⟨h.below, fun p hm => h.rows p (hp.mem_iff.2 hm), (hp.pairwise_iff (fun {_ _} h e => h e.symm)).1 h.apart⟩
theorem kr_head {w W : World} {p : Nat × List Value} (l : List (Nat × List Value)) {rs : List (Nat × List Value)} (h : KR w (l ++ p :: rs) W) : KR w (p :: (l ++ rs)) W := kr_perm h List.perm_middle
theorem cnt_f (d : Dk) : (cnt d).f = d.f := by unfold cnt; split <;> rfl
theorem mayD_zero {d : Dk} {k : Nat} (h : mayD d [(k : Int)] = 0) : k < 8 := by
  unfold mayD at h
  split at h
  · cases h
  · rename_i h1
    simp at h1
    omega
/-- A file's number and what it says of the disk behind a sync. -/
def synD (d : Dk) (f : Int) : Dk := chD d [f] (putS (cnt d) f.toNat (match (d.f f.toNat).1 with | .slice _ m _ => m | _ => 0))
theorem sync_k (d : Dk) (D : Nat) (f : Int) (hf : ∀ i, i < 8 → ∃ sx m cx, (d.f i).1 = .slice sx m cx) (hl : d.left ≤ 9223372036854775807) {w W : World} {rs : List (Nat × List Value)} (HK : KR w ((D, d.l) :: rs) W) :
    Calls Try.prog 48 #[.pointer (some ⟨D, 0, none⟩), .int .i64 f] W fun e W' => e = .returned (.int .i64 (chE d [f])) ∧ KR w ((D, (synD d f).l) :: rs) W' := by
  have hC : ∀ (p1 p2 b : Nat) (W1 : World), KR w ((b, [.int .i64 f]) :: (p2, [.int .i64 f]) :: (p1, [.pointer (some ⟨D, 0, none⟩)]) :: (D, d.l) :: rs) W1 →
      Calls Try.prog 66 #[.pointer (some ⟨D, 0, none⟩), .func (.func 67) #[] #[.pointer (some ⟨p1, 0, none⟩), .pointer (some ⟨p2, 0, none⟩)], .slice (some ⟨b, 0, none⟩) 1 1] W1 fun e W' => e = .returned (.int .i64 (chE d [f])) ∧ KR w ((D, (synD d f).l) :: rs) W' := by
    intro p1 p2 b W1 H1
    have H2 := kr_head [(b, [.int .i64 f]), (p2, [.int .i64 f]), (p1, [.pointer (some ⟨D, 0, none⟩)])] H1
    refine (change_sync d D b [f] (by simp) p1 p2 (putS (cnt d) f.toNat (match (d.f f.toNat).1 with | .slice _ m _ => m | _ => 0)) hl H2 (fun W2 H3 j hj => by
      match j, hj with
      | 0, _ => exact kr_cell H3 1 rfl 0 _ rfl) (fun hm hE W2 H3 => ?_)).mono ?_
    · by_cases hk : 0 ≤ f ∧ f < 8
      · obtain ⟨sx, m, cx, h1⟩ := hf f.toNat (by omega)
        have hft : ((f.toNat : Nat) : Int) = f := by omega
        rw [h1]
        exact sync1_k (cnt d) D p1 p2 f.toNat (by omega) m sx cx (by rw [cnt_f]; exact h1) H3 (by simp) (by rw [hft]; simp)
      · exact absurd (mayD_out d f (by omega)) (by rw [hm]; omega)
    · rintro e w' ⟨rfl, H3⟩
      exact ⟨rfl, kr_drop (kr_drop (kr_drop H3))⟩
  clear hf
  go_enter Try.func48, Try.ntmps48
  go_wp2_with (go_at_call 66; have H1 := kr_new (kr_new (kr_new HK [.pointer (some ⟨D, 0, none⟩)] 42) [.int .i64 f] 3) [.int .i64 f] 3; simp only [World.size_alloc] at H1; refine (hC _ _ _ _ H1).mono ?_; rintro e w' ⟨rfl, HK2⟩)
  go_ret
  exact ⟨rfl, HK2⟩
end Go.Proofs.Ytaonaifnaecpiaa.Own

namespace Go.Proofs.Ytaonaifnaecpiaa.Own
open Go.RowKit
set_option linter.unusedSimpArgs false
/-- A disk with another file at a place. -/
def putF (d : Dk) (k : Nat) (v : Value) (n : Int) : Dk := { d with f := upd d.f k (v, n) }
theorem putF_self (d : Dk) (k : Nat) : putF d k (d.f k).1 (d.f k).2 = d := by
  obtain ⟨f, left, dead⟩ := d
  simp only [putF, Dk.mk.injEq, and_true]
  funext j
  unfold upd
  split
  · rename_i h; rw [h]
  · rfl
theorem putF_set (d : Dk) (k : Nat) (v0 v : Value) (n0 n : Int) : ({ ({ putF d k v0 n0 with f := upd (putF d k v0 n0).f k (v, ((putF d k v0 n0).f k).2) } : Dk) with f := upd ({ putF d k v0 n0 with f := upd (putF d k v0 n0).f k (v, ((putF d k v0 n0).f k).2) } : Dk).f k ((({ putF d k v0 n0 with f := upd (putF d k v0 n0).f k (v, ((putF d k v0 n0).f k).2) } : Dk).f k).1, n) } : Dk) = putF d k v n := by
  obtain ⟨f, left, dead⟩ := d
  simp only [putF, Dk.mk.injEq, and_true]
  funext j
  unfold upd
  split <;> simp_all
theorem kr_file {w W : World} {rows : List (Nat × List Value)} {d : Dk} {D k : Nat} {v0 : Value} {n0 : Int} (hk : k < 8) (h : KR w ((D, (putF d k v0 n0).l) :: rows) W) (v : Value) (n : Int) : KR w ((D, (putF d k v n).l) :: rows) ((W.setCell ⟨D, k * 2, none⟩ v).setCell ⟨D, k * 2 + 1, none⟩ (.int .i64 n)) := by
  have H1 := kr_fset h 0 rfl (k * 2) (by rw [dk_len]; omega) v _ (dk_setA (putF d k v0 n0) k hk v)
  have H2 := kr_fset H1 0 rfl (k * 2 + 1) (by rw [dk_len]; omega) (.int .i64 n) _ (dk_setB _ k hk n)
  rw [putF_set] at H2
  simp only [List.set_cons_zero] at H2
  exact H2
set_option maxHeartbeats 4000000 in
theorem clear1_k (d : Dk) (D p1 p2 : Nat) (k : Nat) (hk : k < 8) {w W : World} {rows : List (Nat × List Value)} (HK : KR w ((D, d.l) :: rows) W) (hp1 : (p1, [.pointer (some ⟨D, 0, none⟩)]) ∈ rows) (hp2 : (p2, [.int .i64 (k : Int)]) ∈ rows) :
    Calls Try.prog 68 #[.pointer (some ⟨p1, 0, none⟩), .pointer (some ⟨p2, 0, none⟩)] W fun e W' => e = .returned (.tuple #[]) ∧ KR w ((D, (putF d k (.slice none 0 0) 0).l) :: rows) W' := by
  have hS0 : ∃ v n, KR w ((D, (putF d k v n).l) :: rows) W.drew := ⟨(d.f k).1, (d.f k).2, by rw [putF_self]; exact kr_drew HK⟩
  have hk2 : (k : Int) < 8 := by omega
  clear HK
  go_enter Try.func68, Try.ntmps68
  go_wp2_with fail
  refine wp_region_held_drew (S := fun W => ∃ v n, KR w ((D, (putF d k v n).l) :: rows) W) (by kernel_rfl) hS0 (fun hHeld => ?_)
  refine wpAnyH_take (i := 0) (v := ?_) rfl (by kernel_rfl) (by kernel_rfl) (by kernel_rfl) (fun _ _ _ h => h) (Or.inl ⟨by rfl, ?_⟩) (by assumption) ?_
  rotate_left
  · (intro W hSw; (try dsimp only at hSw); obtain ⟨v0, n0, hK0⟩ := hSw; have k1 := range_cell (kr_mem hK0 (List.mem_cons_of_mem _ hp1)) 0 _ rfl; have k2 := range_cell (kr_mem hK0 (List.mem_cons_of_mem _ hp2)) 0 _ rfl; go_simp); (try with_reducible rfl)
  simp only [Act.put, List.setIfInBounds_toArray, List.set_cons_zero, List.set_cons_succ, List.getElem_toArray, List.getElem_cons_zero, List.getElem_cons_succ]
  refine wpAnyH_take (i := 1) (v := ?_) rfl (by kernel_rfl) (by kernel_rfl) (by kernel_rfl) (fun _ _ _ h => h) (Or.inl ⟨by rfl, ?_⟩) (by assumption) ?_
  rotate_left
  · (intro W hSw; (try dsimp only at hSw); obtain ⟨v0, n0, hK0⟩ := hSw; have k1 := range_cell (kr_mem hK0 (List.mem_cons_of_mem _ hp1)) 0 _ rfl; have k2 := range_cell (kr_mem hK0 (List.mem_cons_of_mem _ hp2)) 0 _ rfl; go_simp); (try with_reducible rfl)
  simp only [Act.put, List.setIfInBounds_toArray, List.set_cons_zero, List.set_cons_succ, List.getElem_toArray, List.getElem_cons_zero, List.getElem_cons_succ]
  refine wpAnyH_take (i := 2) (v := ?_) rfl (by kernel_rfl) (by kernel_rfl) (by kernel_rfl) (fun _ _ _ h => h) (Or.inl ⟨by rfl, ?_⟩) (by assumption) ?_
  rotate_left
  · (intro W hSw; (try dsimp only at hSw);  go_simp); (try with_reducible rfl)
  simp only [Act.put, List.setIfInBounds_toArray, List.set_cons_zero, List.set_cons_succ, List.getElem_toArray, List.getElem_cons_zero, List.getElem_cons_succ]
  refine wpAnyH_take (i := 3) (v := ?_) rfl (by kernel_rfl) (by kernel_rfl) (by kernel_rfl) (fun _ _ _ h => h) (Or.inl ⟨by rfl, ?_⟩) (by assumption) ?_
  rotate_left
  · (intro W hSw; (try dsimp only at hSw);  go_simp); (try with_reducible rfl)
  simp only [Act.put, List.setIfInBounds_toArray, List.set_cons_zero, List.set_cons_succ, List.getElem_toArray, List.getElem_cons_zero, List.getElem_cons_succ]
  refine wpAnyH_take (i := 4) (v := ?_) rfl (by kernel_rfl) (by kernel_rfl) (by kernel_rfl) (fun _ _ _ h => h) (Or.inl ⟨by rfl, ?_⟩) (by assumption) ?_
  rotate_left
  · (intro W hSw; (try dsimp only at hSw);  go_simp); (try with_reducible rfl)
  simp only [Act.put, List.setIfInBounds_toArray, List.set_cons_zero, List.set_cons_succ, List.getElem_toArray, List.getElem_cons_zero, List.getElem_cons_succ]
  refine wpAnyH_take (i := 5) (v := ?_) rfl (by kernel_rfl) (by kernel_rfl) (by kernel_rfl) (fun _ _ _ h => h) (Or.inl ⟨by rfl, ?_⟩) (by assumption) ?_
  rotate_left
  · (intro W hSw; (try dsimp only at hSw);  go_simp); (try with_reducible rfl)
  simp only [Act.put, List.setIfInBounds_toArray, List.set_cons_zero, List.set_cons_succ, List.getElem_toArray, List.getElem_cons_zero, List.getElem_cons_succ]
  refine wpAnyH_ready (rs := [6]) (by kernel_rfl) (by simp) ?_
  refine AllReadyH.cons rfl (fun K hK => ?_) AllReadyH.nil
  (try simp only [List.getElem_toArray, List.getElem_cons_zero, List.getElem_cons_succ])
  obtain ⟨v0, n0, hK0⟩ := hHeld
  have k3 := kr_cell hK0 0 rfl _ _ (dk_a (putF d k v0 n0) k hk)
  have f3 := kr_frozen hK0 0 rfl (k * 2) (by rw [dk_len]; omega)
  have k4 := kr_cell hK0 0 rfl _ _ (dk_b (putF d k v0 n0) k hk)
  have f4 := kr_frozen hK0 0 rfl (k * 2 + 1) (by rw [dk_len]; omega)
  have k3w := k3
  have k4w := k4
  have f3w := f3
  have f4w := f4
  rw [World.cell?_drew] at k3w k4w
  rw [World.frozen?_drew] at f3w f4w
  have HF := kr_file hk hK0 (.slice none 0 0) 0
  clear hS0 hK0
  go_simp
  refine hK.out _ _ ⟨_, _, HF⟩ (fun hNew => ?_)
  (try (simp only [Act.put, List.setIfInBounds_toArray, List.set_cons_zero, List.set_cons_succ, List.getElem_toArray, List.getElem_cons_zero, List.getElem_cons_succ]))
  refine wpAnyH_done (by kernel_rfl) ?_ _
  clear hNew hK K
  go_wp2
  exact bodyPost_end (results_none rfl _ _ _) rfl ⟨rfl, HF⟩
/-- A disk behind a clear. -/
def clrD (d : Dk) (f : Int) : Dk := chD d [f] (putF (cnt d) f.toNat (.slice none 0 0) 0)
theorem clear_k (d : Dk) (D : Nat) (f : Int) (hl : d.left ≤ 9223372036854775807) {w W : World} {rs : List (Nat × List Value)} (HK : KR w ((D, d.l) :: rs) W) :
    Calls Try.prog 49 #[.pointer (some ⟨D, 0, none⟩), .int .i64 f] W fun e W' => e = .returned (.int .i64 (chE d [f])) ∧ KR w ((D, (clrD d f).l) :: rs) W' := by
  have hC : ∀ (p1 p2 b : Nat) (W1 : World), KR w ((b, [.int .i64 f]) :: (p2, [.int .i64 f]) :: (p1, [.pointer (some ⟨D, 0, none⟩)]) :: (D, d.l) :: rs) W1 →
      Calls Try.prog 66 #[.pointer (some ⟨D, 0, none⟩), .func (.func 68) #[] #[.pointer (some ⟨p1, 0, none⟩), .pointer (some ⟨p2, 0, none⟩)], .slice (some ⟨b, 0, none⟩) 1 1] W1 fun e W' => e = .returned (.int .i64 (chE d [f])) ∧ KR w ((D, (clrD d f).l) :: rs) W' := by
    intro p1 p2 b W1 H1
    have H2 := kr_head [(b, [.int .i64 f]), (p2, [.int .i64 f]), (p1, [.pointer (some ⟨D, 0, none⟩)])] H1
    refine (change_clear d D b [f] (by simp) p1 p2 (putF (cnt d) f.toNat (.slice none 0 0) 0) hl H2 (fun W2 H3 j hj => by
      match j, hj with
      | 0, _ => exact kr_cell H3 1 rfl 0 _ rfl) (fun hm hE W2 H3 => ?_)).mono ?_
    · by_cases hk : 0 ≤ f ∧ f < 8
      · have hft : ((f.toNat : Nat) : Int) = f := by omega
        exact clear1_k (cnt d) D p1 p2 f.toNat (by omega) H3 (by simp) (by rw [hft]; simp)
      · exact absurd (mayD_out d f (by omega)) (by rw [hm]; omega)
    · rintro e w' ⟨rfl, H3⟩
      exact ⟨rfl, kr_drop (kr_drop (kr_drop H3))⟩
  go_enter Try.func49, Try.ntmps49
  go_wp2_with (go_at_call 66; have H1 := kr_new (kr_new (kr_new HK [.pointer (some ⟨D, 0, none⟩)] 42) [.int .i64 f] 3) [.int .i64 f] 3; simp only [World.size_alloc] at H1; refine (hC _ _ _ _ H1).mono ?_; rintro e w' ⟨rfl, HK2⟩)
  go_ret
  exact ⟨rfl, HK2⟩
end Go.Proofs.Ytaonaifnaecpiaa.Own

namespace Go.Proofs.Ytaonaifnaecpiaa.Own
open Go.RowKit
set_option linter.unusedSimpArgs false
set_option maxHeartbeats 4000000 in
theorem rename1_k (d : Dk) (D p1 p2 p3 : Nat) (i j : Nat) (hi : i < 8) (hj : j < 8) (sx : Option Addr) (m cx : Nat) (n : Int) (h1 : d.f i = (.slice sx m cx, n)) {w W : World} {rows : List (Nat × List Value)} (HK : KR w ((D, d.l) :: rows) W) (hp1 : (p1, [.pointer (some ⟨D, 0, none⟩)]) ∈ rows) (hp2 : (p2, [.int .i64 (i : Int)]) ∈ rows) (hp3 : (p3, [.int .i64 (j : Int)]) ∈ rows) :
    Calls Try.prog 69 #[.pointer (some ⟨p1, 0, none⟩), .pointer (some ⟨p2, 0, none⟩), .pointer (some ⟨p3, 0, none⟩)] W fun e W' => e = .returned (.tuple #[]) ∧ KR w ((D, (putF (putF d i (.slice none 0 0) 0) j (.slice sx m cx) n).l) :: rows) W' := by
  have hi2 : (i : Int) < 8 := by omega
  have hj2 : (j : Int) < 8 := by omega
  go_enter Try.func69, Try.ntmps69
  go_wp2_with fail
  refine wp_region_held_drew (S := fun W => KR w ((D, d.l) :: rows) W) (by kernel_rfl) (kr_drew HK) (fun hHeld => ?_)
  refine wpAnyH_take (i := 0) (v := ?_) rfl (by kernel_rfl) (by kernel_rfl) (by kernel_rfl) (fun _ _ _ h => h) (Or.inl ⟨by rfl, ?_⟩) (by assumption) ?_
  rotate_left
  · (intro W hSw; (try dsimp only at hSw); have hK0 := hSw; have k1 := range_cell (kr_mem hK0 (List.mem_cons_of_mem _ hp1)) 0 _ rfl; have k2 := range_cell (kr_mem hK0 (List.mem_cons_of_mem _ hp2)) 0 _ rfl; have k3 := range_cell (kr_mem hK0 (List.mem_cons_of_mem _ hp3)) 0 _ rfl; go_simp); (try with_reducible rfl)
  simp only [Act.put, List.setIfInBounds_toArray, List.set_cons_zero, List.set_cons_succ, List.getElem_toArray, List.getElem_cons_zero, List.getElem_cons_succ]
  refine wpAnyH_take (i := 1) (v := ?_) rfl (by kernel_rfl) (by kernel_rfl) (by kernel_rfl) (fun _ _ _ h => h) (Or.inl ⟨by rfl, ?_⟩) (by assumption) ?_
  rotate_left
  · (intro W hSw; (try dsimp only at hSw); have hK0 := hSw; have k1 := range_cell (kr_mem hK0 (List.mem_cons_of_mem _ hp1)) 0 _ rfl; have k2 := range_cell (kr_mem hK0 (List.mem_cons_of_mem _ hp2)) 0 _ rfl; have k3 := range_cell (kr_mem hK0 (List.mem_cons_of_mem _ hp3)) 0 _ rfl; go_simp); (try with_reducible rfl)
  simp only [Act.put, List.setIfInBounds_toArray, List.set_cons_zero, List.set_cons_succ, List.getElem_toArray, List.getElem_cons_zero, List.getElem_cons_succ]
  refine wpAnyH_take (i := 2) (v := ?_) rfl (by kernel_rfl) (by kernel_rfl) (by kernel_rfl) (fun _ _ _ h => h) (Or.inl ⟨by rfl, ?_⟩) (by assumption) ?_
  rotate_left
  · (intro W hSw; (try dsimp only at hSw);  go_simp); (try with_reducible rfl)
  simp only [Act.put, List.setIfInBounds_toArray, List.set_cons_zero, List.set_cons_succ, List.getElem_toArray, List.getElem_cons_zero, List.getElem_cons_succ]
  refine wpAnyH_take (i := 3) (v := ?_) rfl (by kernel_rfl) (by kernel_rfl) (by kernel_rfl) (fun _ _ _ h => h) (Or.inl ⟨by rfl, ?_⟩) (by assumption) ?_
  rotate_left
  · (intro W hSw; (try dsimp only at hSw);  go_simp); (try with_reducible rfl)
  simp only [Act.put, List.setIfInBounds_toArray, List.set_cons_zero, List.set_cons_succ, List.getElem_toArray, List.getElem_cons_zero, List.getElem_cons_succ]
  refine wpAnyH_take (i := 4) (v := ?_) rfl (by kernel_rfl) (by kernel_rfl) (by kernel_rfl) (fun _ _ _ h => h) (Or.inl ⟨by rfl, ?_⟩) (by assumption) ?_
  rotate_left
  · (intro W hSw; (try dsimp only at hSw);  go_simp); (try with_reducible rfl)
  simp only [Act.put, List.setIfInBounds_toArray, List.set_cons_zero, List.set_cons_succ, List.getElem_toArray, List.getElem_cons_zero, List.getElem_cons_succ]
  refine wpAnyH_take (i := 5) (v := ?_) rfl (by kernel_rfl) (by kernel_rfl) (by kernel_rfl) (fun _ _ _ h => h) (Or.inl ⟨by rfl, ?_⟩) (by assumption) ?_
  rotate_left
  · (intro W hSw; (try dsimp only at hSw); have hK0 := hSw; have k1 := range_cell (kr_mem hK0 (List.mem_cons_of_mem _ hp1)) 0 _ rfl; have k2 := range_cell (kr_mem hK0 (List.mem_cons_of_mem _ hp2)) 0 _ rfl; have k3 := range_cell (kr_mem hK0 (List.mem_cons_of_mem _ hp3)) 0 _ rfl; have ka := kr_cell hK0 0 rfl _ _ (dk_a d i hi); have kb := kr_cell hK0 0 rfl _ _ (dk_b d i hi); rw [h1] at ka kb; dsimp only at ka kb; go_simp); (try with_reducible rfl)
  simp only [Act.put, List.setIfInBounds_toArray, List.set_cons_zero, List.set_cons_succ, List.getElem_toArray, List.getElem_cons_zero, List.getElem_cons_succ]
  refine wpAnyH_ready (rs := [6]) (by kernel_rfl) (by simp) ?_
  refine AllReadyH.cons rfl (fun K hK => ?_) AllReadyH.nil
  (try simp only [List.getElem_toArray, List.getElem_cons_zero, List.getElem_cons_succ])
  clear hHeld
  go_simp
  refine hK.out _ _ (kr_drew (kr_alloc HK _)) (fun hNew => ?_)
  clear hK K
  (try (simp only [Act.put, List.setIfInBounds_toArray, List.set_cons_zero, List.set_cons_succ, List.getElem_toArray, List.getElem_cons_zero, List.getElem_cons_succ]))
  refine wpAnyH_ready (rs := [7]) (by kernel_rfl) (by simp) ?_
  refine AllReadyH.cons rfl (fun K hK => ?_) AllReadyH.nil
  (try simp only [List.getElem_toArray, List.getElem_cons_zero, List.getElem_cons_succ])
  go_simp
  refine hK.out _ _ (kr_drew (kr_alloc HK _)) (fun hNew2 => ?_)
  (try (simp only [Act.put, List.setIfInBounds_toArray, List.set_cons_zero, List.set_cons_succ, List.getElem_toArray, List.getElem_cons_zero, List.getElem_cons_succ]))
  refine wpAnyH_done (by kernel_rfl) ?_ _
  clear hNew hNew2 hK K
  have HK1 := kr_drew (kr_swap (kr_new HK [.slice sx m cx, .int .i64 n] 75))
  clear HK
  generalize W.heap.size = g at HK1 ⊢
  generalize (W.alloc _).drew = W1 at HK1 ⊢
  go_wp2_with fail
  have hS1 : ∃ v n', KR w ((D, (putF d i v n').l) :: (g, [.slice sx m cx, .int .i64 n]) :: rows) W1.drew := ⟨(d.f i).1, (d.f i).2, by rw [putF_self]; exact kr_drew HK1⟩
  clear HK1
  refine wp_region_held_drew (S := fun W => ∃ v n', KR w ((D, (putF d i v n').l) :: (g, [.slice sx m cx, .int .i64 n]) :: rows) W) (by kernel_rfl) hS1 (fun hHeld => ?_)
  refine wpAnyH_take (i := 0) (v := ?_) rfl (by kernel_rfl) (by kernel_rfl) (by kernel_rfl) (fun _ _ _ h => h) (Or.inl ⟨by rfl, ?_⟩) (by assumption) ?_
  rotate_left
  · (intro W hSw; (try dsimp only at hSw); obtain ⟨v0, n0, hK0⟩ := hSw; have k1 := range_cell (kr_mem hK0 (List.mem_cons_of_mem _ (List.mem_cons_of_mem _ hp1))) 0 _ rfl; have k2 := range_cell (kr_mem hK0 (List.mem_cons_of_mem _ (List.mem_cons_of_mem _ hp2))) 0 _ rfl; have k3 := range_cell (kr_mem hK0 (List.mem_cons_of_mem _ (List.mem_cons_of_mem _ hp3))) 0 _ rfl; go_simp); (try with_reducible rfl)
  simp only [Act.put, List.setIfInBounds_toArray, List.set_cons_zero, List.set_cons_succ, List.getElem_toArray, List.getElem_cons_zero, List.getElem_cons_succ]
  refine wpAnyH_take (i := 1) (v := ?_) rfl (by kernel_rfl) (by kernel_rfl) (by kernel_rfl) (fun _ _ _ h => h) (Or.inl ⟨by rfl, ?_⟩) (by assumption) ?_
  rotate_left
  · (intro W hSw; (try dsimp only at hSw); obtain ⟨v0, n0, hK0⟩ := hSw; have k1 := range_cell (kr_mem hK0 (List.mem_cons_of_mem _ (List.mem_cons_of_mem _ hp1))) 0 _ rfl; have k2 := range_cell (kr_mem hK0 (List.mem_cons_of_mem _ (List.mem_cons_of_mem _ hp2))) 0 _ rfl; have k3 := range_cell (kr_mem hK0 (List.mem_cons_of_mem _ (List.mem_cons_of_mem _ hp3))) 0 _ rfl; go_simp); (try with_reducible rfl)
  simp only [Act.put, List.setIfInBounds_toArray, List.set_cons_zero, List.set_cons_succ, List.getElem_toArray, List.getElem_cons_zero, List.getElem_cons_succ]
  refine wpAnyH_take (i := 2) (v := ?_) rfl (by kernel_rfl) (by kernel_rfl) (by kernel_rfl) (fun _ _ _ h => h) (Or.inl ⟨by rfl, ?_⟩) (by assumption) ?_
  rotate_left
  · (intro W hSw; (try dsimp only at hSw);  go_simp); (try with_reducible rfl)
  simp only [Act.put, List.setIfInBounds_toArray, List.set_cons_zero, List.set_cons_succ, List.getElem_toArray, List.getElem_cons_zero, List.getElem_cons_succ]
  refine wpAnyH_take (i := 3) (v := ?_) rfl (by kernel_rfl) (by kernel_rfl) (by kernel_rfl) (fun _ _ _ h => h) (Or.inl ⟨by rfl, ?_⟩) (by assumption) ?_
  rotate_left
  · (intro W hSw; (try dsimp only at hSw);  go_simp); (try with_reducible rfl)
  simp only [Act.put, List.setIfInBounds_toArray, List.set_cons_zero, List.set_cons_succ, List.getElem_toArray, List.getElem_cons_zero, List.getElem_cons_succ]
  refine wpAnyH_take (i := 4) (v := ?_) rfl (by kernel_rfl) (by kernel_rfl) (by kernel_rfl) (fun _ _ _ h => h) (Or.inl ⟨by rfl, ?_⟩) (by assumption) ?_
  rotate_left
  · (intro W hSw; (try dsimp only at hSw);  go_simp); (try with_reducible rfl)
  simp only [Act.put, List.setIfInBounds_toArray, List.set_cons_zero, List.set_cons_succ, List.getElem_toArray, List.getElem_cons_zero, List.getElem_cons_succ]
  refine wpAnyH_take (i := 5) (v := ?_) rfl (by kernel_rfl) (by kernel_rfl) (by kernel_rfl) (fun _ _ _ h => h) (Or.inl ⟨by rfl, ?_⟩) (by assumption) ?_
  rotate_left
  · (intro W hSw; (try dsimp only at hSw);  go_simp); (try with_reducible rfl)
  simp only [Act.put, List.setIfInBounds_toArray, List.set_cons_zero, List.set_cons_succ, List.getElem_toArray, List.getElem_cons_zero, List.getElem_cons_succ]
  refine wpAnyH_ready (rs := [6]) (by kernel_rfl) (by simp) ?_
  refine AllReadyH.cons rfl (fun K hK => ?_) AllReadyH.nil
  (try simp only [List.getElem_toArray, List.getElem_cons_zero, List.getElem_cons_succ])
  obtain ⟨v0, n0, hK0⟩ := hHeld
  have k3 := kr_cell hK0 0 rfl _ _ (dk_a (putF d i v0 n0) i hi)
  have f3 := kr_frozen hK0 0 rfl (i * 2) (by rw [dk_len]; omega)
  have k4 := kr_cell hK0 0 rfl _ _ (dk_b (putF d i v0 n0) i hi)
  have f4 := kr_frozen hK0 0 rfl (i * 2 + 1) (by rw [dk_len]; omega)
  have k3w := k3
  have k4w := k4
  have f3w := f3
  have f4w := f4
  rw [World.cell?_drew] at k3w k4w
  rw [World.frozen?_drew] at f3w f4w
  have HF := kr_file hi hK0 (.slice none 0 0) 0
  clear hK0
  go_simp
  refine hK.out _ _ ⟨_, _, HF⟩ (fun hNew => ?_)
  (try (simp only [Act.put, List.setIfInBounds_toArray, List.set_cons_zero, List.set_cons_succ, List.getElem_toArray, List.getElem_cons_zero, List.getElem_cons_succ]))
  refine wpAnyH_done (by kernel_rfl) ?_ _
  clear hNew hK K k3 f3 k4 f4 k3w k4w f3w f4w
  clear hS1
  have HK2 : KR w ((D, (putF d i (.slice none 0 0) 0).l) :: (g, [.slice sx m cx, .int .i64 n]) :: rows) (((W1.setCell ⟨D, i * 2, none⟩ (.slice none 0 0)).setCell ⟨D, i * 2 + 1, none⟩ (.int .i64 0))).drew := HF
  clear HF
  generalize (((W1.setCell ⟨D, i * 2, none⟩ (.slice none 0 0)).setCell ⟨D, i * 2 + 1, none⟩ (.int .i64 0))).drew = W2 at HK2 ⊢
  go_wp2_with fail
  have hS2 : ∃ v n', KR w ((D, (putF (putF d i (.slice none 0 0) 0) j v n').l) :: (g, [.slice sx m cx, .int .i64 n]) :: rows) W2.drew := ⟨((putF d i (.slice none 0 0) 0).f j).1, ((putF d i (.slice none 0 0) 0).f j).2, by rw [putF_self]; exact kr_drew HK2⟩
  clear HK2
  refine wp_region_held_drew (S := fun W => ∃ v n', KR w ((D, (putF (putF d i (.slice none 0 0) 0) j v n').l) :: (g, [.slice sx m cx, .int .i64 n]) :: rows) W) (by kernel_rfl) hS2 (fun hHeld => ?_)
  refine wpAnyH_take (i := 0) (v := ?_) rfl (by kernel_rfl) (by kernel_rfl) (by kernel_rfl) (fun _ _ _ h => h) (Or.inl ⟨by rfl, ?_⟩) (by assumption) ?_
  rotate_left
  · (intro W hSw; (try dsimp only at hSw); obtain ⟨v0, n0, hK0⟩ := hSw; have k1 := range_cell (kr_mem hK0 (List.mem_cons_of_mem _ (List.mem_cons_of_mem _ hp1))) 0 _ rfl; have k2 := range_cell (kr_mem hK0 (List.mem_cons_of_mem _ (List.mem_cons_of_mem _ hp2))) 0 _ rfl; have k3 := range_cell (kr_mem hK0 (List.mem_cons_of_mem _ (List.mem_cons_of_mem _ hp3))) 0 _ rfl; have kx := range_cell (kr_mem hK0 (List.mem_cons_of_mem _ (List.mem_cons_self))) 0 _ rfl; have ky := range_cell (kr_mem hK0 (List.mem_cons_of_mem _ (List.mem_cons_self))) 1 _ rfl; go_simp); (try with_reducible rfl)
  simp only [Act.put, List.setIfInBounds_toArray, List.set_cons_zero, List.set_cons_succ, List.getElem_toArray, List.getElem_cons_zero, List.getElem_cons_succ]
  refine wpAnyH_take (i := 1) (v := ?_) rfl (by kernel_rfl) (by kernel_rfl) (by kernel_rfl) (fun _ _ _ h => h) (Or.inl ⟨by rfl, ?_⟩) (by assumption) ?_
  rotate_left
  · (intro W hSw; (try dsimp only at hSw); obtain ⟨v0, n0, hK0⟩ := hSw; have k1 := range_cell (kr_mem hK0 (List.mem_cons_of_mem _ (List.mem_cons_of_mem _ hp1))) 0 _ rfl; have k2 := range_cell (kr_mem hK0 (List.mem_cons_of_mem _ (List.mem_cons_of_mem _ hp2))) 0 _ rfl; have k3 := range_cell (kr_mem hK0 (List.mem_cons_of_mem _ (List.mem_cons_of_mem _ hp3))) 0 _ rfl; have kx := range_cell (kr_mem hK0 (List.mem_cons_of_mem _ (List.mem_cons_self))) 0 _ rfl; have ky := range_cell (kr_mem hK0 (List.mem_cons_of_mem _ (List.mem_cons_self))) 1 _ rfl; go_simp); (try with_reducible rfl)
  simp only [Act.put, List.setIfInBounds_toArray, List.set_cons_zero, List.set_cons_succ, List.getElem_toArray, List.getElem_cons_zero, List.getElem_cons_succ]
  refine wpAnyH_take (i := 2) (v := ?_) rfl (by kernel_rfl) (by kernel_rfl) (by kernel_rfl) (fun _ _ _ h => h) (Or.inl ⟨by rfl, ?_⟩) (by assumption) ?_
  rotate_left
  · (intro W hSw; (try dsimp only at hSw); obtain ⟨v0, n0, hK0⟩ := hSw; have k1 := range_cell (kr_mem hK0 (List.mem_cons_of_mem _ (List.mem_cons_of_mem _ hp1))) 0 _ rfl; have k2 := range_cell (kr_mem hK0 (List.mem_cons_of_mem _ (List.mem_cons_of_mem _ hp2))) 0 _ rfl; have k3 := range_cell (kr_mem hK0 (List.mem_cons_of_mem _ (List.mem_cons_of_mem _ hp3))) 0 _ rfl; have kx := range_cell (kr_mem hK0 (List.mem_cons_of_mem _ (List.mem_cons_self))) 0 _ rfl; have ky := range_cell (kr_mem hK0 (List.mem_cons_of_mem _ (List.mem_cons_self))) 1 _ rfl; go_simp); (try with_reducible rfl)
  simp only [Act.put, List.setIfInBounds_toArray, List.set_cons_zero, List.set_cons_succ, List.getElem_toArray, List.getElem_cons_zero, List.getElem_cons_succ]
  refine wpAnyH_take (i := 3) (v := ?_) rfl (by kernel_rfl) (by kernel_rfl) (by kernel_rfl) (fun _ _ _ h => h) (Or.inl ⟨by rfl, ?_⟩) (by assumption) ?_
  rotate_left
  · (intro W hSw; (try dsimp only at hSw);  go_simp); (try with_reducible rfl)
  simp only [Act.put, List.setIfInBounds_toArray, List.set_cons_zero, List.set_cons_succ, List.getElem_toArray, List.getElem_cons_zero, List.getElem_cons_succ]
  refine wpAnyH_take (i := 4) (v := ?_) rfl (by kernel_rfl) (by kernel_rfl) (by kernel_rfl) (fun _ _ _ h => h) (Or.inl ⟨by rfl, ?_⟩) (by assumption) ?_
  rotate_left
  · (intro W hSw; (try dsimp only at hSw);  go_simp); (try with_reducible rfl)
  simp only [Act.put, List.setIfInBounds_toArray, List.set_cons_zero, List.set_cons_succ, List.getElem_toArray, List.getElem_cons_zero, List.getElem_cons_succ]
  refine wpAnyH_take (i := 5) (v := ?_) rfl (by kernel_rfl) (by kernel_rfl) (by kernel_rfl) (fun _ _ _ h => h) (Or.inl ⟨by rfl, ?_⟩) (by assumption) ?_
  rotate_left
  · (intro W hSw; (try dsimp only at hSw);  go_simp); (try with_reducible rfl)
  simp only [Act.put, List.setIfInBounds_toArray, List.set_cons_zero, List.set_cons_succ, List.getElem_toArray, List.getElem_cons_zero, List.getElem_cons_succ]
  refine wpAnyH_ready (rs := [6]) (by kernel_rfl) (by simp) ?_
  refine AllReadyH.cons rfl (fun K hK => ?_) AllReadyH.nil
  (try simp only [List.getElem_toArray, List.getElem_cons_zero, List.getElem_cons_succ])
  obtain ⟨v0, n0, hK0⟩ := hHeld
  have k3 := kr_cell hK0 0 rfl _ _ (dk_a (putF (putF d i (.slice none 0 0) 0) j v0 n0) j hj)
  have f3 := kr_frozen hK0 0 rfl (j * 2) (by rw [dk_len]; omega)
  have k4 := kr_cell hK0 0 rfl _ _ (dk_b (putF (putF d i (.slice none 0 0) 0) j v0 n0) j hj)
  have f4 := kr_frozen hK0 0 rfl (j * 2 + 1) (by rw [dk_len]; omega)
  have k3w := k3
  have k4w := k4
  have f3w := f3
  have f4w := f4
  rw [World.cell?_drew] at k3w k4w
  rw [World.frozen?_drew] at f3w f4w
  have HF := kr_file hj hK0 (.slice sx m cx) n
  clear hK0
  go_simp
  refine hK.out _ _ ⟨_, _, HF⟩ (fun hNew => ?_)
  (try (simp only [Act.put, List.setIfInBounds_toArray, List.set_cons_zero, List.set_cons_succ, List.getElem_toArray, List.getElem_cons_zero, List.getElem_cons_succ]))
  refine wpAnyH_done (by kernel_rfl) ?_ _
  clear hNew hK K k3 f3 k4 f4 k3w k4w f3w f4w
  go_wp2
  exact bodyPost_end (results_none rfl _ _ _) rfl ⟨rfl, kr_drop HF⟩
end Go.Proofs.Ytaonaifnaecpiaa.Own

namespace Go.Proofs.Ytaonaifnaecpiaa.Own
open Go.RowKit
set_option linter.unusedSimpArgs false
theorem mayD_out2 (d : Dk) (f t : Int) (hf : ¬ ((0 ≤ f ∧ f < 8) ∧ (0 ≤ t ∧ t < 8))) : mayD d [f, t] = 1 := by
  unfold mayD
  rw [if_pos]
  by_cases h : 0 ≤ f ∧ f < 8
  · exact ⟨t, by simp, by omega⟩
  · exact ⟨f, by simp, by omega⟩
/-- A disk behind a rename. -/
def renD (d : Dk) (f t : Int) : Dk := chD d [f, t] (putF (putF (cnt d) f.toNat (.slice none 0 0) 0) t.toNat (d.f f.toNat).1 (d.f f.toNat).2)
theorem rename_k (d : Dk) (D : Nat) (f t : Int) (hf : ∀ i, i < 8 → ∃ sx m cx, (d.f i).1 = .slice sx m cx) (hl : d.left ≤ 9223372036854775807) {w W : World} {rs : List (Nat × List Value)} (HK : KR w ((D, d.l) :: rs) W) :
    Calls Try.prog 65 #[.pointer (some ⟨D, 0, none⟩), .int .i64 f, .int .i64 t] W fun e W' => e = .returned (.int .i64 (chE d [f, t])) ∧ KR w ((D, (renD d f t).l) :: rs) W' := by
  have hC : ∀ (p1 p2 p3 b : Nat) (W1 : World), KR w ((b, [.int .i64 f, .int .i64 t]) :: (p3, [.int .i64 t]) :: (p2, [.int .i64 f]) :: (p1, [.pointer (some ⟨D, 0, none⟩)]) :: (D, d.l) :: rs) W1 →
      Calls Try.prog 66 #[.pointer (some ⟨D, 0, none⟩), .func (.func 69) #[] #[.pointer (some ⟨p1, 0, none⟩), .pointer (some ⟨p2, 0, none⟩), .pointer (some ⟨p3, 0, none⟩)], .slice (some ⟨b, 0, none⟩) 2 2] W1 fun e W' => e = .returned (.int .i64 (chE d [f, t])) ∧ KR w ((D, (renD d f t).l) :: rs) W' := by
    intro p1 p2 p3 b W1 H1
    have H2 := kr_head [(b, [.int .i64 f, .int .i64 t]), (p3, [.int .i64 t]), (p2, [.int .i64 f]), (p1, [.pointer (some ⟨D, 0, none⟩)])] H1
    refine (change_rename d D b [f, t] (by simp) p1 p2 p3 (putF (putF (cnt d) f.toNat (.slice none 0 0) 0) t.toNat (d.f f.toNat).1 (d.f f.toNat).2) hl H2 (fun W2 H3 j hj => by
      match j, hj with
      | 0, _ => exact kr_cell H3 1 rfl 0 _ rfl
      | 1, _ => exact kr_cell H3 1 rfl 1 _ rfl) (fun hm hE W2 H3 => ?_)).mono ?_
    · by_cases hk : (0 ≤ f ∧ f < 8) ∧ (0 ≤ t ∧ t < 8)
      · obtain ⟨sx, m, cx, h1⟩ := hf f.toNat (by omega)
        have hft : ((f.toNat : Nat) : Int) = f := by omega
        have htt : ((t.toNat : Nat) : Int) = t := by omega
        rw [h1]
        exact rename1_k (cnt d) D p1 p2 p3 f.toNat t.toNat (by omega) (by omega) sx m cx (d.f f.toNat).2 (by rw [cnt_f, ← h1]) H3 (by simp) (by rw [hft]; simp) (by rw [htt]; simp)
      · exact absurd (mayD_out2 d f t hk) (by rw [hm]; omega)
    · rintro e w' ⟨rfl, H3⟩
      exact ⟨rfl, kr_drop (kr_drop (kr_drop (kr_drop H3)))⟩
  clear hf
  go_enter Try.func65, Try.ntmps65
  go_wp2_with (go_at_call 66; have H1 := kr_new (kr_new (kr_new (kr_new HK [.pointer (some ⟨D, 0, none⟩)] 42) [.int .i64 f] 3) [.int .i64 t] 3) [.int .i64 f, .int .i64 t] 3; simp only [World.size_alloc] at H1; refine (hC _ _ _ _ _ H1).mono ?_; rintro e w' ⟨rfl, HK2⟩)
  go_ret
  exact ⟨rfl, HK2⟩
theorem sync_nil (f : Int) {w W : World} {rs : List (Nat × List Value)} (HK : KR w rs W) : Calls Try.prog 48 #[.pointer none, .int .i64 f] W fun e W' => e = .returned (.int .i64 2) ∧ KR w rs W' := by
  have hC : ∀ (fn v : Value) (b n : Nat) (W1 : World), KR w rs W1 → Calls Try.prog 66 #[.pointer none, fn, .slice (some ⟨b, 0, none⟩) n n] W1 fun e W' => e = .returned (.int .i64 2) ∧ KR w rs W' := by
    intro fn v b n W1 H1
    go_enter Try.func66, Try.ntmps66
    go_wp2_with (go_at_call 55; refine (may_nil _ _ _ _).mono ?_; rintro e w' ⟨rfl, rfl⟩)
    all_goals go_ret
    all_goals exact ⟨rfl, H1⟩
  go_enter Try.func48, Try.ntmps48
  go_wp2_with (go_at_call 66; have H1 := kr_alloc (kr_alloc (kr_alloc HK (.cells #[.pointer none] 42)) (.cells #[.int .i64 f] 3)) (.cells #[.int .i64 f] 3); refine (hC _ undef _ _ _ H1).mono ?_; rintro e w' ⟨rfl, HK2⟩)
  go_ret
  exact ⟨rfl, HK2⟩
end Go.Proofs.Ytaonaifnaecpiaa.Own

namespace Go.Proofs.Ytaonaifnaecpiaa.Own
open Go.RowKit
set_option linter.unusedSimpArgs false
attribute [local go_sem] mm_max2 mm_min2 mm_max_two mm_min_two
/-- A file behind a crash: so many bytes are kept. -/
def crN (s m : Nat) (x : Option Int) : Nat := match x with
  | some x => s + (min (max x 0) ((m : Int) - (s : Int))).toNat
  | none => s
theorem crash_nil (v : Value) (W : World) : Calls Try.prog 28 #[.pointer none, v] W fun e W' => e = .returned (.tuple #[]) ∧ W = W' := by
  go_enter Try.func28, Try.ntmps28
  go_wp2
  all_goals exact bodyPost_ret (results_none rfl _ _ _) rfl ⟨rfl, rfl⟩
def crF (p : Value × Int) (x : Option Int) : Value × Int := match p.1 with
  | .slice sx m _ => (.slice sx (crN p.2.toNat m x) (crN p.2.toNat m x), (crN p.2.toNat m x : Nat))
  | _ => p
def crD (d : Dk) (keeps : List Int) (k : Nat) : Dk := { d with f := fun j => if j < k then crF (d.f j) keeps[j]? else d.f j }
theorem crD_zero (d : Dk) (keeps : List Int) : crD d keeps 0 = d := by unfold crD; simp
theorem wrap_id (x : Int) (h0 : -9223372036854775808 ≤ x) (h1 : x ≤ 9223372036854775807) : IntKind.i64.wrap x = x := by
  rw [IntKind.wrap_i64]; omega
theorem crN_le (s m : Nat) (x : Option Int) (h : s ≤ m) : crN s m x ≤ m := by
  unfold crN
  split
  · omega
  · exact h
theorem crN_val (s m : Nat) (x y : Int) (h : s ≤ m) (h3 : m ≤ 1048576) (hy : y = max x 0) : IntKind.i64.wrap ((s : Int) + if IntKind.i64.wrap ((m : Int) - (s : Int)) < y then IntKind.i64.wrap ((m : Int) - (s : Int)) else y) = ((crN s m (some x) : Nat) : Int) := by
  rw [wrap_id ((m : Int) - (s : Int)) (by omega) (by omega)]
  unfold crN
  dsimp only
  split
  · rw [wrap_id _ (by omega) (by omega)]; omega
  · rw [wrap_id _ (by omega) (by omega)]; omega
theorem crD_next (d : Dk) (keeps : List Int) (k : Nat) (v : Value) (n : Int) (h : crF (d.f k) keeps[k]? = (v, n)) : putF (crD d keeps k) k v n = crD d keeps (k + 1) := by
  obtain ⟨f, left, dead⟩ := d
  simp only [putF, crD, Dk.mk.injEq, and_true]
  funext j
  unfold upd
  dsimp only
  by_cases hj : j = k
  · subst hj
    rw [if_pos rfl, if_pos (by omega)]
    exact h.symm
  · rw [if_neg hj]
    by_cases h2 : j < k
    · rw [if_pos h2, if_pos (by omega)]
    · rw [if_neg h2, if_neg (by omega)]
theorem kr_crash {w W : World} {rows : List (Nat × List Value)} {d : Dk} {keeps : List Int} {D k : Nat} (hk : k < 8) (h : KR w ((D, (crD d keeps k).l) :: rows) W) (v : Value) (n : Int) (hv : crF (d.f k) keeps[k]? = (v, n)) : KR w ((D, (crD d keeps (k + 1)).l) :: rows) ((W.setCell ⟨D, k * 2, none⟩ v).setCell ⟨D, k * 2 + 1, none⟩ (.int .i64 n)) := by
  rw [← putF_self (crD d keeps k) k] at h
  have := kr_file hk h v n
  rwa [crD_next d keeps k v n hv] at this
theorem crash_k (d : Dk) (D : Nat) (keeps : List Int) (n : Nat) (hn : Hid (keeps.length = n)) (co : Option Addr) (cap : Nat) (hf : ∀ i, i < 8 → ∃ sx m cx s, d.f i = (.slice sx m cx, ((s : Nat) : Int)) ∧ s ≤ m ∧ m ≤ cx ∧ m ≤ 1048576 ∧ (sx = none → cx = 0)) {w W : World} {rs : List (Nat × List Value)} (HK : KR w ((D, d.l) :: rs) W)
    (hkeep : ∀ (d' : Dk) (W1 : World), KR w ((D, d'.l) :: rs) W1 → ∀ j, j < n → ∃ A, co = some A ∧ W1.cell? (A.add j) = some (.int .i64 (keeps.getD j 0))) :
    Calls Try.prog 28 #[.pointer (some ⟨D, 0, none⟩), .slice co n cap] W fun e W' => e = .returned (.tuple #[]) ∧ KR w ((D, ({ crD d keeps 8 with left := 0, dead := false } : Dk).l) :: rs) W' := by
  go_enter Try.func28, Try.ntmps28
  go_wp2
  go_loopw [9] (fun v9 W => ∃ k : Nat, v9 = .int .i64 k ∧ k ≤ 8 ∧ KR w ((D, (crD d keeps k).l) :: rs) W) (fun v9 _ => 8 - (intOf v9).toNat)
  case atStart => exact ⟨0, rfl, by omega, by rw [crD_zero]; exact HK⟩
  case round =>
    clear HK
    obtain ⟨k, rfl, hk, HK⟩ := hrel
    by_cases hlt : k < 8
    · obtain ⟨sx, m, cx, s, h1, hs1, hs2, hs3, hs4⟩ := hf k hlt
      have ka := kr_cell HK 0 rfl _ _ (dk_a (crD d keeps k) k hlt)
      have kb := kr_cell HK 0 rfl _ _ (dk_b (crD d keeps k) k hlt)
      have hfk : (crD d keeps k).f k = (.slice sx m cx, ((s : Nat) : Int)) := by unfold crD; simp [h1]
      rw [hfk] at ka kb
      have fa := kr_frozen HK 0 rfl (k * 2) (by rw [dk_len]; omega)
      have fb := kr_frozen HK 0 rfl (k * 2 + 1) (by rw [dk_len]; omega)
      have hk2 : (k : Int) < 8 := by omega
      by_cases hkn : k < n
      · obtain ⟨A, hA, hx⟩ := hkeep (crD d keeps k) _ HK k hkn
        subst hA
        obtain ⟨x, hxe⟩ : ∃ x, keeps.getD k 0 = x := ⟨_, rfl⟩
        rw [hxe] at hx
        have hv : ∀ n' : Nat, n' = crN s m (some x) → crF (d.f k) keeps[k]? = (.slice sx n' n', ((n' : Nat) : Int)) := by
          intro n' h
          have hkl : k < keeps.length := by have := hn.out; omega
          rw [h1, List.getElem?_eq_getElem hkl]
          have : keeps[k] = x := by rw [← hxe, List.getD_eq_getElem?_getD, List.getElem?_eq_getElem hkl]; rfl
          rw [this, h]
          simp [crF]
        have HN : Hid (∀ n' : Nat, n' = crN s m (some x) → KR w ((D, (crD d keeps (k + 1)).l) :: rs) ((wr.drew.setCell ⟨D, k * 2, none⟩ (.slice sx n' n')).setCell ⟨D, k * 2 + 1, none⟩ (.int .i64 (n' : Int)))) := fun n' h => kr_crash hlt (kr_drew HK) _ _ (hv n' h)
        clear HK hkeep hf hfk h1 hv hxe
        by_cases hx0 : x < 0
        · skip
          go_wp2_with fail
          go_region_held3 (fun W => W.cell? ⟨D, k * 2, none⟩ = some (.slice sx m cx) ∧ W.cell? ⟨D, k * 2 + 1, none⟩ = some (.int .i64 (s : Int)) ∧ W.cell? (A.add k) = some (.int .i64 x)) (go_keep) (fail)
          rw [crN_val s m x 0 hs1 hs3 (by omega)]
          have hle := crN_le s m (some x) hs1
          have HN2 := HN.out _ rfl
          clear HN
          generalize crN s m (some x) = n' at hle HN2 ⊢
          have HH : Hid (KR w _ _) := HN2
          clear HN2
          go_wp2_with fail
          go_round
          case rel => exact ⟨k + 1, by simp, by omega, HH⟩
          case measure => (simp [intOf]; try omega)
        · have hx1 : 0 ≤ x := by omega
          go_wp2_with fail
          go_region_held3 (fun W => W.cell? ⟨D, k * 2, none⟩ = some (.slice sx m cx) ∧ W.cell? ⟨D, k * 2 + 1, none⟩ = some (.int .i64 (s : Int)) ∧ W.cell? (A.add k) = some (.int .i64 x)) (go_keep) (fail)
          rw [crN_val s m x (if x < 0 then 0 else x) hs1 hs3 (by rw [if_neg (by omega)]; omega)]
          have hle := crN_le s m (some x) hs1
          have HN2 := HN.out _ rfl
          clear HN
          generalize crN s m (some x) = n' at hle HN2 ⊢
          have HH : Hid (KR w _ _) := HN2
          clear HN2
          go_wp2_with fail
          go_round
          case rel => exact ⟨k + 1, by simp, by omega, HH⟩
          case measure => (simp [intOf]; try omega)
      · have hv : crF (d.f k) keeps[k]? = (.slice sx s s, ((s : Nat) : Int)) := by
          rw [h1, List.getElem?_eq_none (by have := hn.out; omega)]
          simp [crF, crN]
        have HN : Hid (KR w _ _) := kr_crash hlt HK _ _ hv
        clear HK hkeep hf hfk h1 hv
        go_wp2_with fail
        go_round
        case rel => exact ⟨k + 1, by simp, by omega, HN⟩
        case measure => (simp [intOf]; try omega)
    · obtain rfl : k = 8 := by omega
      clear hkeep hf
      have kl := kr_cell HK 0 rfl _ _ (dk_left (crD d keeps 8))
      have kd := kr_cell HK 0 rfl _ _ (dk_dead (crD d keeps 8))
      have fl := kr_frozen HK 0 rfl 16 (by rw [dk_len]; omega)
      have fd := kr_frozen HK 0 rfl 17 (by rw [dk_len]; omega)
      have H1 := kr_fset HK 0 rfl 16 (by rw [dk_len]; omega) (.int .i64 0) _ (dk_setL (crD d keeps 8) 0)
      have H2 := kr_fset H1 0 rfl 17 (by rw [dk_len]; omega) (.bool false) _ (dk_setD _ false)
      simp only [List.set_cons_zero] at H2
      clear H1 HK
      go_wp2_with fail
      all_goals exact bodyPost_end (results_none rfl _ _ _) rfl ⟨rfl, H2⟩
end Go.Proofs.Ytaonaifnaecpiaa.Own

namespace Go.Proofs.Ytaonaifnaecpiaa.Own
open Go.RowKit
set_option linter.unusedSimpArgs false
theorem clear_nil (f : Int) {w W : World} {rs : List (Nat × List Value)} (HK : KR w rs W) : Calls Try.prog 49 #[.pointer none, .int .i64 f] W fun e W' => e = .returned (.int .i64 2) ∧ KR w rs W' := by
  have hC : ∀ (fn : Value) (b n : Nat) (W1 : World), KR w rs W1 → Calls Try.prog 66 #[.pointer none, fn, .slice (some ⟨b, 0, none⟩) n n] W1 fun e W' => e = .returned (.int .i64 2) ∧ KR w rs W' := by
    intro fn b n W1 H1
    go_enter Try.func66, Try.ntmps66
    go_wp2_with (go_at_call 55; refine (may_nil _ _ _ _).mono ?_; rintro e w' ⟨rfl, rfl⟩)
    all_goals go_ret
    all_goals exact ⟨rfl, H1⟩
  go_enter Try.func49, Try.ntmps49
  go_wp2_with (go_at_call 66; have H1 := kr_alloc (kr_alloc (kr_alloc HK (.cells #[.pointer none] 42)) (.cells #[.int .i64 f] 3)) (.cells #[.int .i64 f] 3); refine (hC _ _ _ _ H1).mono ?_; rintro e w' ⟨rfl, HK2⟩)
  go_ret
  exact ⟨rfl, HK2⟩
theorem rename_nil (f t : Int) {w W : World} {rs : List (Nat × List Value)} (HK : KR w rs W) : Calls Try.prog 65 #[.pointer none, .int .i64 f, .int .i64 t] W fun e W' => e = .returned (.int .i64 2) ∧ KR w rs W' := by
  have hC : ∀ (fn : Value) (b n : Nat) (W1 : World), KR w rs W1 → Calls Try.prog 66 #[.pointer none, fn, .slice (some ⟨b, 0, none⟩) n n] W1 fun e W' => e = .returned (.int .i64 2) ∧ KR w rs W' := by
    intro fn b n W1 H1
    go_enter Try.func66, Try.ntmps66
    go_wp2_with (go_at_call 55; refine (may_nil _ _ _ _).mono ?_; rintro e w' ⟨rfl, rfl⟩)
    all_goals go_ret
    all_goals exact ⟨rfl, H1⟩
  go_enter Try.func65, Try.ntmps65
  go_wp2_with (go_at_call 66; have H1 := kr_alloc (kr_alloc (kr_alloc (kr_alloc HK (.cells #[.pointer none] 42)) (.cells #[.int .i64 f] 3)) (.cells #[.int .i64 t] 3)) (.cells #[.int .i64 f, .int .i64 t] 3); refine (hC _ _ _ _ H1).mono ?_; rintro e w' ⟨rfl, HK2⟩)
  go_ret
  exact ⟨rfl, HK2⟩
theorem cnt_zero {d : Dk} (h : d.left = 0) : cnt d = d := by unfold cnt; rw [if_neg (by omega)]
theorem cntE_zero {d : Dk} (h : d.left = 0) (h2 : d.dead = false) : cntE d = 0 := by unfold cntE; rw [cnt_zero h, h2]; rfl
theorem src_const (w : World) (xs : List Int) (t : TypeId) (m : Nat × Nat) : Src (w.alloc (.cells (bc xs).toArray t m)) (some ⟨w.heap.size, 0, none⟩) xs := fun _ => ⟨_, rfl, fun j v hv => by
  rw [Addr.add_mid, Nat.zero_add, World.cell?_alloc_mark]; simpa using hv⟩
/-- The disk of the fixed calls: its first file has bytes, some of them safe. -/
def kd (v : Value) (n : Int) : Dk := ⟨fun j => if j = 0 then (v, n) else (.slice none 0 0, 0), 0, false⟩
theorem kd_put (v v' : Value) (n : Int) : putA (kd v n) 0 v' = kd v' n := by
  simp only [putA, kd, Dk.mk.injEq, and_true]
  funext j
  unfold upd
  split <;> simp_all
theorem kd_dk0 : kd (.slice none 0 0) 0 = dk0 := by
  simp only [dk0, kd, Dk.mk.injEq, and_true]
  funext j
  split <;> rfl
theorem kd_file (v : Value) (n : Int) : (kd v n).f 0 = (v, n) := rfl
theorem kd_append (v : Value) (n : Int) (D : Nat) (xs ys : List Int) (hy : ys.length + xs.length ≤ 1048576) {w W : World} {rs : List (Nat × List Value)} (HK : KR w ((D, (kd v n).l) :: rs) W) (hf : FC rs v xs) (sp : Option Addr) (cap : Nat) (hS : Src W sp ys) :
    Calls Try.prog 37 #[.pointer (some ⟨D, 0, none⟩), .int .i64 0, .slice sp ys.length cap] W fun e W' => ∃ g, e = .returned (.int .i64 0) ∧ KR w ((D, (kd (.slice (some ⟨g, 0, none⟩) (xs.length + ys.length) (xs.length + ys.length)) n).l) :: (g, bc (xs ++ ys)) :: rs) W' := by
  refine (append_ok (kd v n) D 0 (by omega) xs ys hy (by show (0 : Int) ≤ _; omega) rfl HK hf sp cap hS).mono ?_
  rintro e w' ⟨g, rfl, H⟩
  rw [kd_put, cnt_zero rfl] at H
  refine ⟨g, ?_, H⟩
  rw [kd_put, cntE_zero rfl rfl]
theorem kd_sync (sx : Option Addr) (m cx : Nat) (n : Int) (D : Nat) {w W : World} {rs : List (Nat × List Value)} (HK : KR w ((D, (kd (.slice sx m cx) n).l) :: rs) W) :
    Calls Try.prog 48 #[.pointer (some ⟨D, 0, none⟩), .int .i64 0] W fun e W' => e = .returned (.int .i64 0) ∧ KR w ((D, (kd (.slice sx m cx) m).l) :: rs) W' := by
  refine (sync_k (kd (.slice sx m cx) n) D 0 (fun i hi => by
    by_cases h : i = 0
    · subst h; exact ⟨_, _, _, rfl⟩
    · exact ⟨none, 0, 0, by unfold kd; simp [h]⟩) (by show (0 : Int) ≤ _; omega) HK).mono ?_
  rintro e w' ⟨rfl, H⟩
  have h0 : mayD (kd (.slice sx m cx) n) [0] = 0 := mayD_in _ 0 (by omega)
  have e1 : chE (kd (.slice sx m cx) n) [0] = 0 := by unfold chE; rw [if_pos h0, cntE_zero rfl rfl]
  have e2 : synD (kd (.slice sx m cx) n) 0 = kd (.slice sx m cx) m := by
    unfold synD chD
    rw [if_pos h0, if_pos (cntE_zero rfl rfl), cnt_zero rfl]
    simp only [putS, kd, Dk.mk.injEq, and_true]
    funext j
    unfold upd
    split <;> simp_all
  rw [e1]
  rw [e2] at H
  exact ⟨rfl, H⟩
theorem kd_crash (sx : Option Addr) (m cx s : Nat) (hs : s ≤ m) (hm : m ≤ cx) (hm2 : m ≤ 1048576) (hx : sx = none → cx = 0) (D b : Nat) (x : Int) {w W : World} {rs : List (Nat × List Value)} (HK : KR w ((D, (kd (.slice sx m cx) s).l) :: (b, [.int .i64 x]) :: rs) W) :
    Calls Try.prog 28 #[.pointer (some ⟨D, 0, none⟩), .slice (some ⟨b, 0, none⟩) 1 1] W fun e W' => e = .returned (.tuple #[]) ∧ KR w ((D, (kd (.slice sx (crN s m (some x)) (crN s m (some x))) (crN s m (some x) : Nat)).l) :: rs) W' := by
  refine (crash_k (kd (.slice sx m cx) s) D [x] 1 rfl _ _ (fun i hi => by
    by_cases h : i = 0
    · subst h; exact ⟨_, _, _, _, rfl, hs, hm, hm2, hx⟩
    · exact ⟨none, 0, 0, 0, by unfold kd; simp [h], by omega, by omega, by omega, fun _ => rfl⟩) HK (fun d' W1 H1 j hj => by
      obtain rfl : j = 0 := by omega
      exact ⟨_, rfl, kr_cell H1 1 rfl 0 _ rfl⟩)).mono ?_
  rintro e w' ⟨rfl, H⟩
  have e2 : ({ crD (kd (.slice sx m cx) s) [x] 8 with left := 0, dead := false } : Dk) = kd (.slice sx (crN s m (some x)) (crN s m (some x))) (crN s m (some x) : Nat) := by
    unfold crD
    simp only [kd, Dk.mk.injEq, and_true]
    funext j
    by_cases h : j = 0
    · subst h; simp [crF]
    · simp only [h, if_false]
      split
      · have : [x][j]? = none := by simp; omega
        rw [this]; simp [crF, crN]
      · rfl
  rw [e2] at H
  exact ⟨rfl, kr_drop H⟩
end Go.Proofs.Ytaonaifnaecpiaa.Own

namespace Go.Proofs.Ytaonaifnaecpiaa.Own
open Go.RowKit
set_option linter.unusedSimpArgs false
/-- A plain disk: eight files, each with its bytes and how many of them are safe; a count; a mark. -/
structure PD where
  f : Nat → List Int × Nat
  left : Int
  dead : Bool
def PD.put (p : PD) (k : Nat) (x : List Int × Nat) : PD := { p with f := fun j => if j = k then x else p.f j }
def pmay (p : PD) (xs : List Int) : Int := if ∃ x ∈ xs, x < 0 ∨ 8 ≤ x then 1 else if p.dead = true then 13 else 0
def pcnt (p : PD) : PD := if 0 < p.left then { p with left := p.left - 1, dead := decide (p.left - 1 = 0) } else p
def pcntE (p : PD) : Int := if (pcnt p).dead = true then 13 else 0
def pchE (p : PD) (xs : List Int) : Int := if pmay p xs = 0 then pcntE p else pmay p xs
def pchD (p : PD) (xs : List Int) (q : PD) : PD := if pmay p xs = 0 then (if pcntE p = 0 then q else pcnt p) else p
def pgrow (p : PD) (k : Nat) (ys : List Int) : PD := p.put k ((p.f k).1 ++ ys, (p.f k).2)
def pappE (p : PD) (f : Int) (ys : List Int) : Int := if pmay p [f] = 0 then (if 1048576 < ys.length + (p.f f.toNat).1.length then 4 else pcntE p) else pmay p [f]
def pappD (p : PD) (f : Int) (ys : List Int) : PD := if pmay p [f] = 0 then (if 1048576 < ys.length + (p.f f.toNat).1.length then p else pcnt (pgrow p f.toNat ys)) else p
def psyncD (p : PD) (f : Int) : PD := pchD p [f] ((pcnt p).put f.toNat ((p.f f.toNat).1, (p.f f.toNat).1.length))
def pclrD (p : PD) (f : Int) : PD := pchD p [f] ((pcnt p).put f.toNat ([], 0))
def prenD (p : PD) (f t : Int) : PD := pchD p [f, t] (((pcnt p).put f.toNat ([], 0)).put t.toNat (p.f f.toNat))
def pfail (p : PD) (n : Int) : PD := { p with left := maxZ n }
def pcrF (x : List Int × Nat) (o : Option Int) : List Int × Nat := (x.1.take (crN x.2 x.1.length o), crN x.2 x.1.length o)
def pcrash (p : PD) (keeps : List Int) : PD := { f := fun j => pcrF (p.f j) keeps[j]?, left := 0, dead := false }
def pnew : PD := ⟨fun _ => ([], 0), 0, false⟩
def pread (p : PD) (f : Int) : List Int := if f < 0 ∨ 8 ≤ f then [] else (p.f f.toNat).1
def preadE (f : Int) : Int := if f < 0 ∨ 8 ≤ f then 1 else 0
def psafe (p : PD) (f : Int) : Int := if f < 0 ∨ 8 ≤ f then 0 else ((p.f f.toNat).2 : Nat)
/-- The disk in memory is the plain disk. -/
structure VW (fs : List (Nat × List Value)) (d : Dk) (p : PD) : Prop where
  left : d.left = p.left
  dead : d.dead = p.dead
  lo : 0 ≤ p.left
  hi : p.left ≤ 9223372036854775807
  file : ∀ i, i < 8 → FC fs (d.f i).1 (p.f i).1 ∧ (d.f i).2 = ((p.f i).2 : Nat) ∧ (p.f i).2 ≤ (p.f i).1.length ∧ (p.f i).1.length ≤ 1048576
def DV (w W : World) (D : Nat) (p : PD) (fs : List (Nat × List Value)) : Prop := ∃ d, KR w ((D, d.l) :: fs) W ∧ VW fs d p
theorem fc_mono {fs fs' : List (Nat × List Value)} {v : Value} {bs : List Int} (h : FC fs v bs) (hs : ∀ x ∈ fs, x ∈ fs') : FC fs' v bs := by
  rcases h with h | ⟨b, cap, l, h1, h2, h3⟩
  · exact .inl h
  · exact .inr ⟨b, cap, l, h1, hs _ h2, h3⟩
theorem vw_mono {fs fs' : List (Nat × List Value)} {d : Dk} {p : PD} (h : VW fs d p) (hs : ∀ x ∈ fs, x ∈ fs') : VW fs' d p :=
  ⟨h.left, h.dead, h.lo, h.hi, fun i hi => ⟨fc_mono (h.file i hi).1 hs, (h.file i hi).2⟩⟩
theorem vw_may {fs : List (Nat × List Value)} {d : Dk} {p : PD} (h : VW fs d p) (xs : List Int) : mayD d xs = pmay p xs := by unfold mayD pmay; rw [h.dead]
theorem vw_cnt {fs : List (Nat × List Value)} {d : Dk} {p : PD} (h : VW fs d p) : VW fs (cnt d) (pcnt p) := by
  have h1 := h.lo
  have h2 := h.hi
  unfold cnt pcnt
  rw [h.left]
  by_cases hz : 0 < p.left
  · rw [if_pos hz, if_pos hz]
    exact ⟨rfl, rfl, by show 0 ≤ p.left - 1; omega, by show p.left - 1 ≤ _; omega, h.file⟩
  · rw [if_neg hz, if_neg hz]
    exact h
theorem vw_cntE {fs : List (Nat × List Value)} {d : Dk} {p : PD} (h : VW fs d p) : cntE d = pcntE p := by unfold cntE pcntE; rw [(vw_cnt h).dead]
theorem vw_chE {fs : List (Nat × List Value)} {d : Dk} {p : PD} (h : VW fs d p) (xs : List Int) : chE d xs = pchE p xs := by unfold chE pchE; rw [vw_may h, vw_cntE h]
theorem vw_chD {fs : List (Nat × List Value)} {d d2 : Dk} {p p2 : PD} (h : VW fs d p) (xs : List Int) (h2 : pmay p xs = 0 → VW fs d2 p2) : VW fs (chD d xs d2) (pchD p xs p2) := by
  unfold chD pchD
  rw [vw_may h, vw_cntE h]
  split
  · rename_i hm
    split
    · exact h2 hm
    · exact vw_cnt h
  · exact h
theorem vw_put {fs : List (Nat × List Value)} {d : Dk} {p : PD} (h : VW fs d p) (k : Nat) (v : Value) (n : Int) (x : List Int × Nat) (hf : FC fs v x.1) (hn : n = (x.2 : Nat)) (h1 : x.2 ≤ x.1.length) (h2 : x.1.length ≤ 1048576) : VW fs (putF d k v n) (p.put k x) := by
  refine ⟨h.left, h.dead, h.lo, h.hi, fun i hi => ?_⟩
  show FC fs (upd d.f k (v, n) i).1 (if i = k then x else p.f i).1 ∧ (upd d.f k (v, n) i).2 = ((if i = k then x else p.f i).2 : Nat) ∧ (if i = k then x else p.f i).2 ≤ (if i = k then x else p.f i).1.length ∧ (if i = k then x else p.f i).1.length ≤ 1048576
  unfold upd
  by_cases e : i = k
  · rw [if_pos e, if_pos e]; exact ⟨hf, hn, h1, h2⟩
  · rw [if_neg e, if_neg e]; exact h.file i hi
theorem pmay_in {p : PD} {f : Int} (h : pmay p [f] = 0) : f.toNat < 8 ∧ ((f.toNat : Nat) : Int) = f ∧ p.dead = false := by
  unfold pmay at h
  split at h
  · cases h
  · rename_i h1
    simp at h1
    split at h
    · cases h
    · rename_i h2
      exact ⟨by omega, by omega, by simpa using h2⟩
theorem fc_slice {fs : List (Nat × List Value)} {v : Value} {bs : List Int} (h : FC fs v bs) : ∃ sx cx, v = .slice sx bs.length cx ∧ bs.length ≤ cx ∧ (sx = none → cx = 0) := by
  rcases h with ⟨rfl, rfl⟩ | ⟨b, cap, l, rfl, hm, h1, _, _⟩
  · exact ⟨none, 0, rfl, by simp, fun _ => rfl⟩
  · exact ⟨_, cap, rfl, h1, fun h => by cases h⟩
theorem fc_cut {fs : List (Nat × List Value)} {sx : Option Addr} {m cx : Nat} {bs : List Int} (h : FC fs (.slice sx m cx) bs) (n : Nat) (hn : n ≤ bs.length) : FC fs (.slice sx n n) (bs.take n) := by
  rcases h with ⟨h1, rfl⟩ | ⟨b, cap, l, h1, hm, h2, h3, h4⟩
  · injection h1 with h1 _ _
    subst h1
    obtain rfl : n = 0 := by simpa using hn
    exact .inl ⟨rfl, by simp⟩
  · injection h1 with h1 _ _
    subst h1
    have e : (bs.take n).length = n := by rw [List.length_take]; omega
    refine .inr ⟨b, n, l, by rw [e], hm, by omega, by omega, ?_⟩
    rw [e]
    have := congrArg (List.take n) h4
    rw [List.take_take, Nat.min_eq_left hn] at this
    rw [this]
    simp [bc, List.map_take]
theorem vw_files {fs : List (Nat × List Value)} {d : Dk} {p : PD} (h : VW fs d p) : ∀ i, i < 8 → ∃ sx m cx, (d.f i).1 = .slice sx m cx := fun i hi => by
  obtain ⟨sx, cx, h1, _⟩ := fc_slice (h.file i hi).1
  exact ⟨sx, _, cx, h1⟩
theorem vw_hl {fs : List (Nat × List Value)} {d : Dk} {p : PD} (h : VW fs d p) : d.left ≤ 9223372036854775807 := by rw [h.left]; exact h.hi
theorem dv_new (w W : World) {rs : List (Nat × List Value)} (HK : KR w rs W) : Calls Try.prog 23 #[] W fun e W' => ∃ D, e = .returned (.pointer (some ⟨D, 0, none⟩)) ∧ DV w W' D pnew rs := by
  refine (new_k HK).mono ?_
  rintro e w' ⟨D, rfl, H⟩
  exact ⟨D, rfl, dk0, H, rfl, rfl, by decide, by decide, fun i _ => ⟨.inl ⟨rfl, rfl⟩, rfl, Nat.le_refl 0, Nat.zero_le _⟩⟩
theorem pcntE_grow (p : PD) (k : Nat) (ys : List Int) : pcntE (pgrow p k ys) = pcntE p := by
  unfold pcntE pcnt pgrow PD.put
  dsimp only
  split <;> rfl
theorem dv_append {w W : World} {D : Nat} {p : PD} {fs : List (Nat × List Value)} (h : DV w W D p fs) (f : Int) (ys : List Int) (n : Nat) (hn : ys.length = n) (sp : Option Addr) (cap : Nat) (hS : Src W sp ys) :
    Calls Try.prog 37 #[.pointer (some ⟨D, 0, none⟩), .int .i64 f, .slice sp n cap] W fun e W' => e = .returned (.int .i64 (pappE p f ys)) ∧ ∃ l, DV w W' D (pappD p f ys) (l ++ fs) := by
  subst hn
  obtain ⟨d, HK, hV⟩ := h
  unfold pappE pappD
  by_cases hm : pmay p [f] = 0
  · rw [if_pos hm, if_pos hm]
    obtain ⟨hk, hft, hd⟩ := pmay_in hm
    generalize hfk : f.toNat = k at hk hft ⊢
    subst hft
    obtain ⟨hF, hs1, hs2, hs3⟩ := hV.file k hk
    by_cases hfull : 1048576 < ys.length + (p.f k).1.length
    · rw [if_pos hfull, if_pos hfull]
      obtain ⟨sx, cx, h1, _⟩ := fc_slice hF
      refine (append_full d D k hk (p.f k).1.length ys.length hfull hs3 (by rw [hV.dead]; exact hd) HK sp cap sx cx h1).mono ?_
      rintro e w' ⟨rfl, H⟩
      exact ⟨rfl, [], d, H, hV⟩
    · rw [if_neg hfull, if_neg hfull]
      refine (append_ok d D k hk (p.f k).1 ys (by omega) (vw_hl hV) (by rw [hV.dead]; exact hd) HK hF sp cap hS).mono ?_
      rintro e w' ⟨g, rfl, H⟩
      have hg : VW ((g, bc ((p.f k).1 ++ ys)) :: fs) (putA d k (.slice (some ⟨g, 0, none⟩) ((p.f k).1.length + ys.length) ((p.f k).1.length + ys.length))) (pgrow p k ys) := by
        have := vw_put (vw_mono hV (fun x hx => List.mem_cons_of_mem (g, bc ((p.f k).1 ++ ys)) hx)) k (.slice (some ⟨g, 0, none⟩) ((p.f k).1.length + ys.length) ((p.f k).1.length + ys.length)) (d.f k).2 ((p.f k).1 ++ ys, (p.f k).2)
          (.inr ⟨g, _, _, by rw [List.length_append], List.mem_cons_self, by rw [List.length_append]; omega, by rw [bc_len, List.length_append]; omega, by rw [← bc_len, List.take_length]⟩) hs1 (by rw [List.length_append]; omega) (by rw [List.length_append]; omega)
        exact this
      refine ⟨?_, [(g, bc ((p.f k).1 ++ ys))], _, H, vw_cnt hg⟩
      rw [vw_cntE hg, pcntE_grow]
  · rw [if_neg hm, if_neg hm]
    refine (append_no d D f (pmay p [f]) (vw_may hV _) hm HK _).mono ?_
    rintro e w' ⟨rfl, H⟩
    exact ⟨rfl, [], d, H, hV⟩
theorem dv_sync {w W : World} {D : Nat} {p : PD} {fs : List (Nat × List Value)} (h : DV w W D p fs) (f : Int) :
    Calls Try.prog 48 #[.pointer (some ⟨D, 0, none⟩), .int .i64 f] W fun e W' => e = .returned (.int .i64 (pchE p [f])) ∧ DV w W' D (psyncD p f) fs := by
  obtain ⟨d, HK, hV⟩ := h
  refine (sync_k d D f (vw_files hV) (vw_hl hV) HK).mono ?_
  rintro e w' ⟨rfl, H⟩
  refine ⟨by rw [vw_chE hV], _, H, vw_chD hV _ (fun hm => ?_)⟩
  obtain ⟨hk, hft, hd⟩ := pmay_in hm
  obtain ⟨hF, hs1, hs2, hs3⟩ := hV.file f.toNat hk
  obtain ⟨sx, cx, h1, _⟩ := fc_slice hF
  rw [h1]
  rw [h1] at hF
  have := vw_put (vw_cnt hV) f.toNat (d.f f.toNat).1 ((p.f f.toNat).1.length : Nat) ((p.f f.toNat).1, (p.f f.toNat).1.length) (by rw [h1]; exact hF) rfl (Nat.le_refl _) hs3
  have e2 : putF (cnt d) f.toNat (d.f f.toNat).1 ((p.f f.toNat).1.length : Nat) = putS (cnt d) f.toNat ((p.f f.toNat).1.length : Nat) := by unfold putF putS; rw [cnt_f]
  rw [e2] at this
  exact this
theorem dv_clear {w W : World} {D : Nat} {p : PD} {fs : List (Nat × List Value)} (h : DV w W D p fs) (f : Int) :
    Calls Try.prog 49 #[.pointer (some ⟨D, 0, none⟩), .int .i64 f] W fun e W' => e = .returned (.int .i64 (pchE p [f])) ∧ DV w W' D (pclrD p f) fs := by
  obtain ⟨d, HK, hV⟩ := h
  refine (clear_k d D f (vw_hl hV) HK).mono ?_
  rintro e w' ⟨rfl, H⟩
  exact ⟨by rw [vw_chE hV], _, H, vw_chD hV _ (fun hm => vw_put (vw_cnt hV) _ _ _ ([], 0) (.inl ⟨rfl, rfl⟩) rfl (by simp) (by simp))⟩
theorem pmay_in2 {p : PD} {f t : Int} (h : pmay p [f, t] = 0) : f.toNat < 8 ∧ t.toNat < 8 := by
  unfold pmay at h
  split at h
  · cases h
  · rename_i h1
    simp at h1
    omega
theorem dv_rename {w W : World} {D : Nat} {p : PD} {fs : List (Nat × List Value)} (h : DV w W D p fs) (f t : Int) :
    Calls Try.prog 65 #[.pointer (some ⟨D, 0, none⟩), .int .i64 f, .int .i64 t] W fun e W' => e = .returned (.int .i64 (pchE p [f, t])) ∧ DV w W' D (prenD p f t) fs := by
  obtain ⟨d, HK, hV⟩ := h
  refine (rename_k d D f t (vw_files hV) (vw_hl hV) HK).mono ?_
  rintro e w' ⟨rfl, H⟩
  refine ⟨by rw [vw_chE hV], _, H, vw_chD hV _ (fun hm => ?_)⟩
  obtain ⟨hF, hs1, hs2, hs3⟩ := hV.file f.toNat (pmay_in2 hm).1
  exact vw_put (vw_put (vw_cnt hV) _ _ _ ([], 0) (.inl ⟨rfl, rfl⟩) rfl (by simp) (by simp)) _ _ _ _ hF hs1 hs2 hs3
theorem dv_fail {w W : World} {D : Nat} {p : PD} {fs : List (Nat × List Value)} (h : DV w W D p fs) (n : Int) (hn : n ≤ 9223372036854775807) :
    Calls Try.prog 27 #[.pointer (some ⟨D, 0, none⟩), .int .i64 n] W fun e W' => e = .returned (.tuple #[]) ∧ DV w W' D (pfail p n) fs := by
  obtain ⟨d, HK, hV⟩ := h
  refine (fail_k d D n HK).mono ?_
  rintro e w' ⟨rfl, H⟩
  refine ⟨rfl, _, H, rfl, hV.dead, ?_, ?_, hV.file⟩
  · show 0 ≤ maxZ n
    by_cases h0 : n < 0
    · rw [maxZ_neg h0]; omega
    · rw [maxZ_pos h0]; omega
  · show maxZ n ≤ _
    by_cases h0 : n < 0
    · rw [maxZ_neg h0]; omega
    · rw [maxZ_pos h0]; omega
theorem dv_crash {w W : World} {D : Nat} {p : PD} {fs : List (Nat × List Value)} (h : DV w W D p fs) (keeps : List Int) (n : Nat) (hn : keeps.length = n) (co : Option Addr) (cap : Nat)
    (hkeep : ∀ (d' : Dk) (W1 : World), KR w ((D, d'.l) :: fs) W1 → ∀ j, j < n → ∃ A, co = some A ∧ W1.cell? (A.add j) = some (.int .i64 (keeps.getD j 0))) :
    Calls Try.prog 28 #[.pointer (some ⟨D, 0, none⟩), .slice co n cap] W fun e W' => e = .returned (.tuple #[]) ∧ DV w W' D (pcrash p keeps) fs := by
  obtain ⟨d, HK, hV⟩ := h
  have hfile : ∀ i, i < 8 → ∃ sx cx, d.f i = (.slice sx (p.f i).1.length cx, (((p.f i).2 : Nat) : Int)) ∧ (p.f i).2 ≤ (p.f i).1.length ∧ (p.f i).1.length ≤ cx ∧ (p.f i).1.length ≤ 1048576 ∧ (sx = none → cx = 0) ∧ FC fs (.slice sx (p.f i).1.length cx) (p.f i).1 := fun i hi => by
    obtain ⟨hF, hs1, hs2, hs3⟩ := hV.file i hi
    obtain ⟨sx, cx, h1, h2, h3⟩ := fc_slice hF
    rw [h1] at hF
    exact ⟨sx, cx, Prod.ext h1 hs1, hs2, h2, hs3, h3, hF⟩
  refine (crash_k d D keeps n hn co cap (fun i hi => by
    obtain ⟨sx, cx, h1, h2, h3, h4, h5, _⟩ := hfile i hi
    exact ⟨sx, _, cx, _, h1, h2, h3, h4, h5⟩) HK hkeep).mono ?_
  rintro e w' ⟨rfl, H⟩
  refine ⟨rfl, _, H, rfl, rfl, by show (0 : Int) ≤ 0; omega, by show (0 : Int) ≤ _; omega, fun i hi => ?_⟩
  obtain ⟨sx, cx, h1, h2, h3, h4, h5, hF⟩ := hfile i hi
  have hle := crN_le (p.f i).2 (p.f i).1.length keeps[i]? h2
  have hf : (crD d keeps 8).f i = (.slice sx (crN (p.f i).2 (p.f i).1.length keeps[i]?) (crN (p.f i).2 (p.f i).1.length keeps[i]?), ((crN (p.f i).2 (p.f i).1.length keeps[i]? : Nat) : Int)) := by
    unfold crD
    dsimp only
    rw [if_pos hi, h1]
    simp [crF]
  show FC fs ((crD d keeps 8).f i).1 (pcrF (p.f i) keeps[i]?).1 ∧ ((crD d keeps 8).f i).2 = ((pcrF (p.f i) keeps[i]?).2 : Nat) ∧ (pcrF (p.f i) keeps[i]?).2 ≤ (pcrF (p.f i) keeps[i]?).1.length ∧ (pcrF (p.f i) keeps[i]?).1.length ≤ 1048576
  rw [hf]
  unfold pcrF
  refine ⟨fc_cut hF _ hle, rfl, ?_, ?_⟩
  · show _ ≤ (List.take _ _).length
    rw [List.length_take]; omega
  · show (List.take _ _).length ≤ _
    rw [List.length_take]; omega
theorem dv_read {w W : World} {D : Nat} {p : PD} {fs : List (Nat × List Value)} (h : DV w W D p fs) (f : Int) :
    Calls Try.prog 45 #[.pointer (some ⟨D, 0, none⟩), .int .i64 f] W fun e W' => ∃ v l, e = .returned (.tuple #[v, .int .i64 (preadE f)]) ∧ FC (l ++ fs) v (pread p f) ∧ DV w W' D p (l ++ fs) := by
  obtain ⟨d, HK, hV⟩ := h
  unfold preadE pread
  by_cases ho : f < 0 ∨ 8 ≤ f
  · rw [if_pos ho, if_pos ho]
    refine (read_out d D f ho HK).mono ?_
    rintro e w' ⟨rfl, H⟩
    exact ⟨_, [], rfl, .inl ⟨rfl, rfl⟩, d, H, hV⟩
  · rw [if_neg ho, if_neg ho]
    obtain ⟨k, rfl⟩ : ∃ k : Nat, f = k := ⟨f.toNat, by omega⟩
    have hk : k < 8 := by omega
    rw [Int.toNat_natCast]
    obtain ⟨hF, hs1, hs2, hs3⟩ := hV.file k hk
    refine (read_k d D k hk (p.f k).1 (by omega) HK hF).mono ?_
    rintro e w' ⟨g, rfl, H⟩
    exact ⟨_, [(g, bc (p.f k).1)], rfl, .inr ⟨g, _, _, rfl, List.mem_cons_self, Nat.le_refl _, by rw [bc_len]; omega, by rw [← bc_len, List.take_length]⟩, d, kr_swap H, vw_mono hV (fun x hx => List.mem_cons_of_mem _ hx)⟩
theorem dv_safe {w W : World} {D : Nat} {p : PD} {fs : List (Nat × List Value)} (h : DV w W D p fs) (f : Int) :
    Calls Try.prog 59 #[.pointer (some ⟨D, 0, none⟩), .int .i64 f] W fun e W' => e = .returned (.int .i64 (psafe p f)) ∧ W = W' := by
  obtain ⟨d, HK, hV⟩ := h
  unfold psafe
  by_cases ho : f < 0 ∨ 8 ≤ f
  · rw [if_pos ho]
    exact safe_out D f ho W
  · rw [if_neg ho]
    obtain ⟨k, rfl⟩ : ∃ k : Nat, f = k := ⟨f.toNat, by omega⟩
    have hk : k < 8 := by omega
    rw [Int.toNat_natCast, ← (hV.file k hk).2.1]
    exact safe_k d D k hk HK
theorem dv_dead {w W : World} {D : Nat} {p : PD} {fs : List (Nat × List Value)} (h : DV w W D p fs) :
    Calls Try.prog 61 #[.pointer (some ⟨D, 0, none⟩)] W fun e W' => e = .returned (.bool p.dead) ∧ W = W' := by
  obtain ⟨d, HK, hV⟩ := h
  rw [← hV.dead]
  exact dead_k d D HK
/-- Bytes as a string. -/
theorem conv_src {W : World} {co : Option Addr} {bs : List Int} (len cap : Nat) (hl : bs.length = len) (h : Src W co bs) : (convert 23 9 (.slice co len cap)).run Try.prog W = .ok (.string (strOfNums bs)) W := by
  subst hl
  rcases co with _ | A
  · have h0 : bs = [] := by
      rcases bs with _ | ⟨b, bs⟩
      · rfl
      · obtain ⟨A, hA, _⟩ := h (by simp)
        cases hA
    subst h0
    exact run_convert_bytes_nil W 23 5 Try.underlying23 Try.underlying5 _ _ _ Try.underlying9
  · have hl : (loadCells A bs.length).run Try.prog W = .ok (bs.map (Value.int .u8)).toArray W := by
      have := run_loadCells_list (P := Try.prog) W A (bs.map (Value.int .u8)) (fun j v hj => by
        have hp : 0 < bs.length := by
          have := (List.getElem?_eq_some_iff.1 hj).1
          rw [List.length_map] at this
          omega
        obtain ⟨B, hB, hc⟩ := h hp
        injection hB with hB
        subst hB
        exact hc j v hj)
      simpa using this
    rw [run_convert_bytes_string W 23 9 5 (some A) bs.length cap Try.underlying23 Try.underlying5 Try.underlying9, run_bytesToString W A bs.length cap bs hl, foldl_push_bytes]
    simp [strOfNums, ByteArray.empty, ByteArray.emptyWithCapacity]
    rfl
theorem fc_conv {w W : World} {fs : List (Nat × List Value)} {v : Value} {bs : List Int} (h : FC fs v bs) (HK : KR w fs W) : (convert 23 9 v).run Try.prog W = .ok (.string (strOfNums bs)) W := by
  obtain ⟨sx, cx, rfl, hS⟩ := fc_src h
  exact conv_src _ _ rfl (hS w W HK)
theorem dv_kr {w W : World} {D : Nat} {p : PD} {fs : List (Nat × List Value)} (h : DV w W D p fs) : KR w fs W := by
  obtain ⟨d, HK, _⟩ := h
  exact kr_tail HK
theorem dv_src {w W : World} {D : Nat} {p : PD} {fs : List (Nat × List Value)} (h : DV w W D p fs) {co : Option Addr} {bs : List Int} (hs : Src w co bs) : Src W co bs := src_keep hs (dv_kr h).below
end Go.Proofs.Ytaonaifnaecpiaa.Own
