/- Rows that a walk keeps in sight: what lies where, behind calls, new rows and stores. No conditions beside those in each lemma. -/
import Derived.Test.YtofpkmfjigjlhaaRw
import Derived.Deep.RegionHeld3
namespace Go.Proofs.Ytofpkmfjigjlhaa.Own
set_option linter.unusedVariables false
set_option linter.unusedSimpArgs false
open Go.RowKit
/-- The rows rs lie in W, apart from one another, above all that w holds; what w holds is as it was. -/
structure KR (w : World) (rs : List (Nat × List Value)) (W : World) : Prop where
  below : Below w.heap.size w W
  rows : ∀ p ∈ rs, w.heap.size ≤ p.1 ∧ p.1 < W.heap.size ∧ W.rangeAt p.1 0 p.2 ∧ W.there p.1 0 p.2.length
  apart : rs.Pairwise (fun p q => p.1 ≠ q.1)
theorem kr_refl (w : World) : KR w [] w := ⟨Below.refl _ _, fun p hp => by simp at hp, List.Pairwise.nil⟩
theorem there_below {W w1 : World} {b n : Nat} (hb : Below W.heap.size W w1) (hlt : b < W.heap.size) (h : W.there b 0 n) : w1.there b 0 n := fun j hj => by
  obtain ⟨h1, h2⟩ := h j hj
  exact ⟨by rw [(bw_cell hb).1 _ _ hlt]; exact h1, by rw [(bw_cell hb).2.1 _ _ hlt]; exact h2⟩
theorem kr_call {w W w1 : World} {rs : List (Nat × List Value)} (h : KR w rs W) (q : Below W.heap.size W w1) : KR w rs w1 :=
  ⟨bw_step h.below q, fun p hp => by
    obtain ⟨h0, h1, h2, h3⟩ := h.rows p hp
    exact ⟨h0, Nat.lt_of_lt_of_le h1 q.size, range_below q h2, there_below q h1 h3⟩, h.apart⟩
theorem kr_drew {w W : World} {rs : List (Nat × List Value)} (h : KR w rs W) : KR w rs W.drew :=
  ⟨bw_drew h.below, fun p hp => by
    obtain ⟨h0, h1, h2, h3⟩ := h.rows p hp
    exact ⟨h0, h1, (World.rangeAt_drew _ _ _ _).2 h2, (World.there_drew _ _ _ _).2 h3⟩, h.apart⟩
theorem kr_alloc {w W : World} {rs : List (Nat × List Value)} (h : KR w rs W) (o : Obj) : KR w rs (W.alloc o) := kr_call h (bw_alloc (Below.refl _ _) o)
theorem kr_tail {w W : World} {rs : List (Nat × List Value)} {p : Nat × List Value} (h : KR w (p :: rs) W) : KR w rs W := ⟨h.below, fun q hq => h.rows q (List.mem_cons_of_mem _ hq), h.apart.tail⟩
theorem kr_new {w W : World} {rs : List (Nat × List Value)} (h : KR w rs W) (cs : List Value) (t : TypeId) : KR w ((W.heap.size, cs) :: rs) (W.alloc (.cells cs.toArray t)) := by
  have h' := kr_alloc h (.cells cs.toArray t)
  refine ⟨h'.below, fun p hp => ?_, ?_⟩
  · rcases List.mem_cons.1 hp with rfl | hp
    · refine ⟨h.below.size, by simp, range_new _ _ _, fun j hj => ⟨?_, World.frozen?_alloc_new _ _ _ _⟩⟩
      rw [World.cell?_alloc_new]
      have : j < cs.length := hj
      simp [this]
    · exact h'.rows p hp
  · refine List.Pairwise.cons (fun q hq e => ?_) h.apart
    have := (h.rows q hq).2.1
    exact absurd e (Nat.ne_of_gt this)
theorem kr_get {w W : World} {rs : List (Nat × List Value)} {b : Nat} {cs : List Value} (h : KR w rs W) (i : Nat) (hi : rs[i]? = some (b, cs)) : W.rangeAt b 0 cs := (h.rows (b, cs) (List.mem_of_getElem? hi)).2.2.1
theorem kr_cell {w W : World} {rs : List (Nat × List Value)} {b : Nat} {cs : List Value} (h : KR w rs W) (i : Nat) (hi : rs[i]? = some (b, cs)) (j : Nat) (v : Value) (hv : cs[j]? = some v) : W.cell? ⟨b, j, none⟩ = some v := range_cell (kr_get h i hi) j v hv
theorem kr_lt {w W : World} {rs : List (Nat × List Value)} {b : Nat} {cs : List Value} (h : KR w rs W) (i : Nat) (hi : rs[i]? = some (b, cs)) : b < W.heap.size := (h.rows (b, cs) (List.mem_of_getElem? hi)).2.1
theorem kr_thereN {w W : World} {rs : List (Nat × List Value)} {b : Nat} {cs : List Value} (h : KR w rs W) (i : Nat) (hi : rs[i]? = some (b, cs)) (ds : List Value) (hl : ds.length = cs.length) : W.there b 0 ds.toArray.size := by
  have := (h.rows (b, cs) (List.mem_of_getElem? hi)).2.2.2
  rw [← hl] at this
  simpa using this
theorem below_setCells {w : World} {b : Nat} (hb : w.heap.size ≤ b) : ∀ (vs : List Value) (o : Nat) (W : World), Below w.heap.size w W → Below w.heap.size w (W.setCells b o vs)
  | [], _, _, h => h
  | v :: r, o, W, h => by rw [World.setCells]; exact below_setCells hb r (o + 1) _ (h.setCell hb v)
theorem size_setCells (b : Nat) : ∀ (vs : List Value) (o : Nat) (W : World), (W.setCells b o vs).heap.size = W.heap.size
  | [], _, _ => rfl
  | v :: r, o, W => by rw [World.setCells, size_setCells b r (o + 1)]; simp
theorem kr_setN {w W : World} {rs : List (Nat × List Value)} {b : Nat} {cs : List Value} (h : KR w rs W) (i : Nat) (hi : rs[i]? = some (b, cs)) (ds : List Value) (hl : ds.length = cs.length) : KR w (rs.set i (b, ds)) (W.setCells b 0 ds) := by
  have hb := h.rows (b, cs) (List.mem_of_getElem? hi)
  have hlt : i < rs.length := (List.getElem?_eq_some_iff.1 hi).1
  refine ⟨below_setCells hb.1 _ _ _ h.below, fun p hp => ?_, ?_⟩
  · rw [size_setCells]
    obtain ⟨k, hk, hpk⟩ := List.mem_iff_getElem.1 hp
    rw [List.getElem_set] at hpk
    rw [List.length_set] at hk
    by_cases e : i = k
    · rw [if_pos e] at hpk
      subst hpk
      have h4 : W.there b 0 ds.length := by rw [hl]; exact hb.2.2.2
      exact ⟨hb.1, hb.2.1, World.rangeAt_setCells_same _ _ _ _ h4, World.there_setCells h4 _ _ _⟩
    · rw [if_neg e] at hpk
      have hm : p ∈ rs := by rw [← hpk]; exact List.getElem_mem _
      obtain ⟨h0, h1, h2, h3⟩ := h.rows p hm
      refine ⟨h0, h1, World.rangeAt_setCells_apart h2 _ _ _ (.inl ?_), World.there_setCells h3 _ _ _⟩
      have hp2 := List.pairwise_iff_getElem.1 h.apart
      have hib : rs[i]'hlt = (b, cs) := (List.getElem?_eq_some_iff.1 hi).2
      rcases Nat.lt_or_gt_of_ne e with hlt' | hgt
      · have := hp2 i k hlt hk hlt'
        rw [hib, hpk] at this
        exact fun e => this e.symm
      · have := hp2 k i hk hlt hgt
        rw [hib, hpk] at this
        exact this
  · have : (rs.set i (b, ds)).map Prod.fst = rs.map Prod.fst := by
      apply List.ext_getElem?
      intro k
      simp only [List.getElem?_map, List.getElem?_set]
      by_cases e : i = k
      · subst e
        simp [hlt, (List.getElem?_eq_some_iff.1 hi).2]
      · simp [e]
    have h1 := (List.pairwise_map (f := Prod.fst) (R := fun (x y : Nat) => x ≠ y) (l := rs)).2 h.apart
    rw [← this] at h1
    exact (List.pairwise_map (f := Prod.fst) (R := fun (x y : Nat) => x ≠ y)).1 h1
theorem kr_mem {w W : World} {rs : List (Nat × List Value)} {b : Nat} {cs : List Value} (h : KR w rs W) (hm : (b, cs) ∈ rs) : W.rangeAt b 0 cs := (h.rows (b, cs) hm).2.2.1
theorem kr_swap {w W : World} {rs : List (Nat × List Value)} {p q : Nat × List Value} (h : KR w (p :: q :: rs) W) : KR w (q :: p :: rs) W :=
  ⟨h.below, fun x hx => h.rows x (by simp only [List.mem_cons] at hx ⊢; rcases hx with h1 | h1 | h1; exact .inr (.inl h1); exact .inl h1; exact .inr (.inr h1)), by
    have h1 := h.apart
    rw [List.pairwise_cons, List.pairwise_cons] at h1
    rw [List.pairwise_cons, List.pairwise_cons]
    refine ⟨fun x hx => ?_, fun x hx => h1.1 x (List.mem_cons_of_mem _ hx), h1.2.2⟩
    rcases List.mem_cons.1 hx with rfl | hx
    · exact fun e => h1.1 q List.mem_cons_self e.symm
    · exact h1.2.1 x hx⟩
theorem kr_drop {w W : World} {rs : List (Nat × List Value)} {p q : Nat × List Value} (h : KR w (p :: q :: rs) W) : KR w (p :: rs) W := kr_tail (kr_swap h)
theorem kr_old {w W : World} {rs : List (Nat × List Value)} (h : KR w rs W) {p : Addr} {v : Value} (hp : w.cell? p = some v) : W.cell? p = some v := by
  rw [← hp]
  exact h.below.cell (World.block_lt_of_cell? w _ hp)
variable {P : Program}
theorem wl_box {ops : Array Oper} {rest : List Oper} {op : Oper} {a : Act} {w : World} {Q : Exit → Act → World → Prop} (t : TypeId) (x : Operand) (cs : List Value) (ho : op.op = .box t x) (hgd : op.guard = none) (hx : a.eval x = .agg cs.toArray)
    (h : wpList P ops Q rest (a.put op.dst (.pointer (some ⟨w.heap.size, 0, none⟩))) (w.alloc (.cells cs.toArray t))) : wpList P ops Q (op :: rest) a w :=
  wpList_plain hgd fun K hK => by
    unfold Oper.wp execOp
    simp [ho, hx]
    exact hK _ _ h
theorem wl_boxK {ops : Array Oper} {rest : List Oper} {op : Oper} {a : Act} {w0 w : World} {rs : List (Nat × List Value)} {Q : Exit → Act → World → Prop} (t : TypeId) (x : Operand) (cs : List Value) (HK : KR w0 rs w) (ho : op.op = .box t x) (hgd : op.guard = none) (hx : a.eval x = .agg cs.toArray)
    (h : KR w0 ((w.heap.size, cs) :: rs) (w.alloc (.cells cs.toArray t)) → wpList P ops Q rest (a.put op.dst (.pointer (some ⟨w.heap.size, 0, none⟩))) (w.alloc (.cells cs.toArray t))) : wpList P ops Q (op :: rest) a w :=
  wl_box t x cs ho hgd hx (h (kr_new HK cs t))
theorem wl_storeK {ops : Array Oper} {rest : List Oper} {op : Oper} {a : Act} {w0 w : World} {rs : List (Nat × List Value)} {Q : Exit → Act → World → Prop} (t : TypeId) (x y : Operand) (zs cs : List Value) (HK : KR w0 rs w) (ho : op.op = .store t x y) (hgd : op.guard = none)
    (hx : a.eval x = .pointer (some ⟨w.heap.size, 0, none⟩)) (hy : a.eval y = .agg cs.toArray)
    (hi : (P.info? t).map (·.size) = some cs.length) (hl : zs.length = cs.length) (h1 : ∀ v ∈ cs, v.oneCell' = true)
    (h : KR w0 ((w.heap.size, cs) :: rs) (w.alloc (.cells cs.toArray t)) → wpList P ops Q rest (a.put op.dst undef) (w.alloc (.cells cs.toArray t))) : wpList P ops Q (op :: rest) a (w.alloc (.cells zs.toArray t)) :=
  wl_store t x y zs cs ho hgd hx hy hi hl h1 (h (kr_new HK cs t))
theorem wl_fload {ops : Array Oper} {rest : List Oper} {op : Oper} {a : Act} {w : World} {Q : Exit → Act → World → Prop} (t : TypeId) (x : Operand) (ho : op.op = .load t x) (hw : Region.wanted op (yielded ops a.tmps) = true) (p : Addr) (hx : a.eval x = .pointer (some p)) (v : Value)
    (hr : (Instr.loadAt t (.pointer (some p))).run P w = .ok v w) (h : wpList P ops Q rest (a.put op.dst v) w) : wpList P ops Q (op :: rest) a w :=
  BigFrame.wpList_want hw fun _ hK => by
    unfold Oper.wp execOp
    simp only [ho, hx, Sem.run_bind, Sem.run_pure, Result.andThen_ok, hr]
    exact hK _ _ h
theorem wl_fstore {ops : Array Oper} {rest : List Oper} {op : Oper} {a : Act} {w : World} {Q : Exit → Act → World → Prop} (t : TypeId) (x y : Operand) (ho : op.op = .store t x y) (hgd : op.guard = none) (p : Addr) (hx : a.eval x = .pointer (some p)) (v : Value) (hy : a.eval y = v)
    (hr : (Instr.storeAt t (.pointer (some p)) v).run P w = .ok () (w.setCell p v)) (h : wpList P ops Q rest (a.put op.dst undef) (w.setCell p v)) : wpList P ops Q (op :: rest) a w :=
  wpList_plain hgd fun _ hK => by
    unfold Oper.wp execOp
    simp only [ho, hx, hy, Sem.run_bind, Sem.run_pure, Result.andThen_ok, hr]
    exact hK _ _ h
theorem kr_fset {w W : World} {rs : List (Nat × List Value)} {b : Nat} {cs : List Value} (h : KR w rs W) (i : Nat) (hi : rs[i]? = some (b, cs)) (j : Nat) (hj : j < cs.length) (v : Value) (ds : List Value) (hd : cs.set j v = ds) : KR w (rs.set i (b, ds)) (W.setCell ⟨b, j, none⟩ v) := by
  subst hd
  have hb := h.rows (b, cs) (List.mem_of_getElem? hi)
  have hlt : i < rs.length := (List.getElem?_eq_some_iff.1 hi).1
  have hset : (W.setCell ⟨b, j, none⟩ v) = W.setCells b j [v] := by rw [World.setCells, World.setCells]
  refine ⟨h.below.setCell hb.1 v, fun p hp => ?_, ?_⟩
  · rw [World.size_setCell]
    obtain ⟨k, hk, hpk⟩ := List.mem_iff_getElem.1 hp
    rw [List.getElem_set] at hpk
    rw [List.length_set] at hk
    by_cases e : i = k
    · rw [if_pos e] at hpk
      subst hpk
      refine ⟨hb.1, hb.2.1, fun m u hm => ?_, ?_⟩
      · rw [List.getElem?_set] at hm
        by_cases em : j = m
        · subst em
          rw [if_pos rfl, if_pos hj] at hm
          injection hm with hm
          subst hm
          rw [Nat.zero_add]
          have := (hb.2.2.2 j hj).1
          rw [Nat.zero_add] at this
          obtain ⟨u0, hu0⟩ := Option.isSome_iff_exists.1 this
          rw [World.cell?_setCell_same _ _ _ hu0]
        · rw [if_neg em] at hm
          rw [World.cell?_setCell_other (h := by intro e2; injection e2 with _ e3 _; omega)]
          exact hb.2.2.1 m u hm
      · rw [List.length_set, hset]
        exact World.there_setCells hb.2.2.2 _ _ _
    · rw [if_neg e] at hpk
      have hm : p ∈ rs := by rw [← hpk]; exact List.getElem_mem _
      obtain ⟨h0, h1, h2, h3⟩ := h.rows p hm
      have hp2 := List.pairwise_iff_getElem.1 h.apart
      have hib : rs[i]'hlt = (b, cs) := (List.getElem?_eq_some_iff.1 hi).2
      have hne : p.1 ≠ b := by
        rcases Nat.lt_or_gt_of_ne e with hlt' | hgt
        · have := hp2 i k hlt hk hlt'
          rw [hib, hpk] at this
          exact fun e => this e.symm
        · have := hp2 k i hk hlt hgt
          rw [hib, hpk] at this
          exact this
      rw [hset]
      exact ⟨h0, h1, World.rangeAt_setCells_apart h2 _ _ _ (.inl hne), World.there_setCells h3 _ _ _⟩
  · have : (rs.set i (b, cs.set j v)).map Prod.fst = rs.map Prod.fst := by
      apply List.ext_getElem?
      intro k
      simp only [List.getElem?_map, List.getElem?_set]
      by_cases e : i = k
      · subst e
        simp [hlt, (List.getElem?_eq_some_iff.1 hi).2]
      · simp [e]
    have h1 := (List.pairwise_map (f := Prod.fst) (R := fun (x y : Nat) => x ≠ y) (l := rs)).2 h.apart
    rw [← this] at h1
    exact (List.pairwise_map (f := Prod.fst) (R := fun (x y : Nat) => x ≠ y)).1 h1
theorem kr_frozen {w W : World} {rs : List (Nat × List Value)} {b : Nat} {cs : List Value} (h : KR w rs W) (i : Nat) (hi : rs[i]? = some (b, cs)) (j : Nat) (hj : j < cs.length) : W.frozen? ⟨b, j, none⟩ = false := by
  have := ((h.rows (b, cs) (List.mem_of_getElem? hi)).2.2.2 j hj).2
  rwa [Nat.zero_add] at this
/-- One operation of a drawn region: a new row. -/
theorem ow_alloc {op : Oper} {a : Act} {w : World} {K : Act → World → Prop} {Q : Exit → Act → World → Prop} (t : TypeId) (zs : List Value) (n : Nat) (ho : op.op = .alloc t)
    (hz : (P.info? t).map (fun i => (i.zero, i.size)) = some (some (.agg zs.toArray), n)) (h : K (a.put op.dst (.pointer (some ⟨w.heap.size, 0, none⟩))) (w.alloc (.cells zs.toArray t))) : op.wp P a w K Q := by
  have hz' := (zero_of_info hz).1 w
  unfold Oper.wp execOp
  simp [ho, Sem.run_bind, Result.andThen_ok, Instr.alloc, hz', newVar, Value.cells]
  exact h
/-- The beginning of a drawn region under rows kept in sight. -/
theorem kr_begin {id : Nat} {ops : Array Oper} {a : Act} {w W : World} {Q : Exit → Act → World → Prop} {rs : List (Nat × List Value)} (HK : KR w rs W) (hm : P.follows .mixedOrders = true)
    (h : KR w rs W.drew → wpAnyH P .any ops Q (fun W => KR w rs W) ops.size (Array.replicate ops.size false) a W.drew) : (Code.region id ops true).wp P Q a W := wp_region_held_drew (S := fun W => KR w rs W) hm (kr_drew HK) h
end Go.Proofs.Ytofpkmfjigjlhaa.Own
