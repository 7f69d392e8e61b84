/- Rows of states that a walk keeps in sight: what lies where, behind calls, new rows and stores. No conditions beside those in each lemma. -/
import Derived.Test.YtfefbmglimdgjaaRow17
import Derived.Deep.RegionHeld3
namespace Go.Proofs.Ytfefbmglimdgjaa.Own
open Go.RowKit
/-- The rows rs lie in W, apart from one another, above all that w holds; what w holds is as it was. -/
structure KR (w : World) (rs : List (Nat × List Value)) (W : World) : Prop where
  below : Below w.heap.size w W
  rows : ∀ p ∈ rs, w.heap.size ≤ p.1 ∧ p.1 < W.heap.size ∧ W.rangeAt p.1 0 p.2 ∧ W.there p.1 0 p.2.length
  apart : rs.Pairwise (fun p q => p.1 ≠ q.1)
theorem kr_refl (w : World) : KR w [] w := ⟨Below.refl _ _, fun p hp => by simp at hp, List.Pairwise.nil⟩
theorem st_len (s : St) : s.l.length = 10 := by unfold St.l; rfl
theorem there_below {W w1 : World} {b n : Nat} (hb : Below W.heap.size W w1) (hlt : b < W.heap.size) (h : W.there b 0 n) : w1.there b 0 n := fun j hj => by
  obtain ⟨h1, h2⟩ := h j hj
  exact ⟨by rw [(bw_cell hb).1 _ _ hlt]; exact h1, by rw [(bw_cell hb).2.1 _ _ hlt]; exact h2⟩
theorem kr_call {w W w1 : World} {rs : List (Nat × List Value)} (h : KR w rs W) (q : Below W.heap.size W w1) : KR w rs w1 :=
  ⟨bw_step h.below q, fun p hp => by
    obtain ⟨h0, h1, h2, h3⟩ := h.rows p hp
    exact ⟨h0, Nat.lt_of_lt_of_le h1 q.size, range_below q h2, there_below q h1 h3⟩, h.apart⟩
theorem kr_drew {w W : World} {rs : List (Nat × List Value)} (h : KR w rs W) : KR w rs W.drew :=
  ⟨bw_drew h.below, fun p hp => by
    obtain ⟨h0, h1, h2, h3⟩ := h.rows p hp
    exact ⟨h0, h1, (World.rangeAt_drew _ _ _ _).2 h2, (World.there_drew _ _ _ _).2 h3⟩, h.apart⟩
theorem kr_alloc {w W : World} {rs : List (Nat × List Value)} (h : KR w rs W) (o : Obj) : KR w rs (W.alloc o) := kr_call h (bw_alloc (Below.refl _ _) o)
theorem kr_tail {w W : World} {rs : List (Nat × List Value)} {p : Nat × List Value} (h : KR w (p :: rs) W) : KR w rs W := ⟨h.below, fun q hq => h.rows q (List.mem_cons_of_mem _ hq), h.apart.tail⟩
theorem kr_new {w W : World} {rs : List (Nat × List Value)} (h : KR w rs W) (cs : List Value) (t : TypeId) : KR w ((W.heap.size, cs) :: rs) (W.alloc (.cells cs.toArray t)) := by
  have h' := kr_alloc h (.cells cs.toArray t)
  refine ⟨h'.below, fun p hp => ?_, ?_⟩
  · rcases List.mem_cons.1 hp with rfl | hp
    · refine ⟨h.below.size, by simp, range_new _ _ _, fun j hj => ⟨?_, World.frozen?_alloc_new _ _ _ _⟩⟩
      rw [World.cell?_alloc_new]
      have : j < cs.length := hj
      simp [this]
    · exact h'.rows p hp
  · refine List.Pairwise.cons (fun q hq e => ?_) h.apart
    have := (h.rows q hq).2.1
    exact absurd e (Nat.ne_of_gt this)
theorem kr_get {w W : World} {rs : List (Nat × List Value)} {b : Nat} {cs : List Value} (h : KR w rs W) (i : Nat) (hi : rs[i]? = some (b, cs)) : W.rangeAt b 0 cs := (h.rows (b, cs) (List.mem_of_getElem? hi)).2.2.1
theorem kr_cell {w W : World} {rs : List (Nat × List Value)} {b : Nat} {cs : List Value} (h : KR w rs W) (i : Nat) (hi : rs[i]? = some (b, cs)) (j : Nat) (v : Value) (hv : cs[j]? = some v) : W.cell? ⟨b, j, none⟩ = some v := range_cell (kr_get h i hi) j v hv
theorem kr_lt {w W : World} {rs : List (Nat × List Value)} {b : Nat} {cs : List Value} (h : KR w rs W) (i : Nat) (hi : rs[i]? = some (b, cs)) : b < W.heap.size := (h.rows (b, cs) (List.mem_of_getElem? hi)).2.1
theorem kr_thereN {w W : World} {rs : List (Nat × List Value)} {b : Nat} {cs : List Value} (h : KR w rs W) (i : Nat) (hi : rs[i]? = some (b, cs)) (ds : List Value) (hl : ds.length = cs.length) : W.there b 0 ds.toArray.size := by
  have := (h.rows (b, cs) (List.mem_of_getElem? hi)).2.2.2
  rw [← hl] at this
  simpa using this
theorem kr_there {w W : World} {rs : List (Nat × List Value)} {b : Nat} {s : St} (h : KR w rs W) (i : Nat) (hi : rs[i]? = some (b, s.l)) (t : St) : W.there b 0 t.l.toArray.size := kr_thereN h i hi t.l (by rw [st_len, st_len])
theorem below_setCells {w : World} {b : Nat} (hb : w.heap.size ≤ b) : ∀ (vs : List Value) (o : Nat) (W : World), Below w.heap.size w W → Below w.heap.size w (W.setCells b o vs)
  | [], _, _, h => h
  | v :: r, o, W, h => by rw [World.setCells]; exact below_setCells hb r (o + 1) _ (h.setCell hb v)
theorem size_setCells (b : Nat) : ∀ (vs : List Value) (o : Nat) (W : World), (W.setCells b o vs).heap.size = W.heap.size
  | [], _, _ => rfl
  | v :: r, o, W => by rw [World.setCells, size_setCells b r (o + 1)]; simp
theorem kr_setN {w W : World} {rs : List (Nat × List Value)} {b : Nat} {cs : List Value} (h : KR w rs W) (i : Nat) (hi : rs[i]? = some (b, cs)) (ds : List Value) (hl : ds.length = cs.length) : KR w (rs.set i (b, ds)) (W.setCells b 0 ds) := by
  have hb := h.rows (b, cs) (List.mem_of_getElem? hi)
  have hlt : i < rs.length := (List.getElem?_eq_some_iff.1 hi).1
  refine ⟨below_setCells hb.1 _ _ _ h.below, fun p hp => ?_, ?_⟩
  · rw [size_setCells]
    obtain ⟨k, hk, hpk⟩ := List.mem_iff_getElem.1 hp
    rw [List.getElem_set] at hpk
    rw [List.length_set] at hk
    by_cases e : i = k
    · rw [if_pos e] at hpk
      subst hpk
      have h4 : W.there b 0 ds.length := by rw [hl]; exact hb.2.2.2
      exact ⟨hb.1, hb.2.1, World.rangeAt_setCells_same _ _ _ _ h4, World.there_setCells h4 _ _ _⟩
    · rw [if_neg e] at hpk
      have hm : p ∈ rs := by rw [← hpk]; exact List.getElem_mem _
      obtain ⟨h0, h1, h2, h3⟩ := h.rows p hm
      refine ⟨h0, h1, World.rangeAt_setCells_apart h2 _ _ _ (.inl ?_), World.there_setCells h3 _ _ _⟩
      have hp2 := List.pairwise_iff_getElem.1 h.apart
      have hib : rs[i]'hlt = (b, cs) := (List.getElem?_eq_some_iff.1 hi).2
      rcases Nat.lt_or_gt_of_ne e with hlt' | hgt
      · have := hp2 i k hlt hk hlt'
        rw [hib, hpk] at this
        exact fun e => this e.symm
      · have := hp2 k i hk hlt hgt
        rw [hib, hpk] at this
        exact this
  · have : (rs.set i (b, ds)).map Prod.fst = rs.map Prod.fst := by
      apply List.ext_getElem?
      intro k
      simp only [List.getElem?_map, List.getElem?_set]
      by_cases e : i = k
      · subst e
        simp [hlt, (List.getElem?_eq_some_iff.1 hi).2]
      · simp [e]
    have h1 := (List.pairwise_map (f := Prod.fst) (R := fun (x y : Nat) => x ≠ y) (l := rs)).2 h.apart
    rw [← this] at h1
    exact (List.pairwise_map (f := Prod.fst) (R := fun (x y : Nat) => x ≠ y)).1 h1
theorem kr_set {w W : World} {rs : List (Nat × List Value)} {b : Nat} {s : St} (h : KR w rs W) (i : Nat) (hi : rs[i]? = some (b, s.l)) (t : St) : KR w (rs.set i (b, t.l)) (W.setCells b 0 t.l) := kr_setN h i hi t.l (by rw [st_len, st_len])
variable {P : Program}
theorem wl_box {ops : Array Oper} {rest : List Oper} {op : Oper} {a : Act} {w : World} {Q : Exit → Act → World → Prop} (t : TypeId) (x : Operand) (cs : List Value) (ho : op.op = .box t x) (hgd : op.guard = none) (hx : a.eval x = .agg cs.toArray)
    (h : wpList P ops Q rest (a.put op.dst (.pointer (some ⟨w.heap.size, 0, none⟩))) (w.alloc (.cells cs.toArray t))) : wpList P ops Q (op :: rest) a w :=
  wpList_plain hgd fun K hK => by
    unfold Oper.wp execOp
    simp [ho, hx]
    exact hK _ _ h
theorem wl_boxK {ops : Array Oper} {rest : List Oper} {op : Oper} {a : Act} {w0 w : World} {rs : List (Nat × List Value)} {Q : Exit → Act → World → Prop} (t : TypeId) (x : Operand) (cs : List Value) (HK : KR w0 rs w) (ho : op.op = .box t x) (hgd : op.guard = none) (hx : a.eval x = .agg cs.toArray)
    (h : KR w0 ((w.heap.size, cs) :: rs) (w.alloc (.cells cs.toArray t)) → wpList P ops Q rest (a.put op.dst (.pointer (some ⟨w.heap.size, 0, none⟩))) (w.alloc (.cells cs.toArray t))) : wpList P ops Q (op :: rest) a w :=
  wl_box t x cs ho hgd hx (h (kr_new HK cs t))
theorem wl_storeK {ops : Array Oper} {rest : List Oper} {op : Oper} {a : Act} {w0 w : World} {rs : List (Nat × List Value)} {Q : Exit → Act → World → Prop} (t : TypeId) (x y : Operand) (zs cs : List Value) (HK : KR w0 rs w) (ho : op.op = .store t x y) (hgd : op.guard = none)
    (hx : a.eval x = .pointer (some ⟨w.heap.size, 0, none⟩)) (hy : a.eval y = .agg cs.toArray)
    (hi : (P.info? t).map (·.size) = some cs.length) (hl : zs.length = cs.length) (h1 : ∀ v ∈ cs, v.oneCell' = true)
    (h : KR w0 ((w.heap.size, cs) :: rs) (w.alloc (.cells cs.toArray t)) → wpList P ops Q rest (a.put op.dst undef) (w.alloc (.cells cs.toArray t))) : wpList P ops Q (op :: rest) a (w.alloc (.cells zs.toArray t)) :=
  wl_store t x y zs cs ho hgd hx hy hi hl h1 (h (kr_new HK cs t))
theorem wl_setK {ops : Array Oper} {rest : List Oper} {op : Oper} {a : Act} {w0 w : World} {rs : List (Nat × List Value)} {Q : Exit → Act → World → Prop} (t : TypeId) (x y : Operand) (b : Nat) (s s' : St) (HK : KR w0 rs w) (i : Nat) (hi : rs[i]? = some (b, s.l)) (ho : op.op = .store t x y) (hgd : op.guard = none)
    (hx : a.eval x = .pointer (some ⟨b, 0, none⟩)) (hy : a.eval y = .agg s'.l.toArray) (hs : (P.info? t).map (·.size) = some s'.l.length)
    (h : KR w0 (rs.set i (b, s'.l)) (w.setCells b 0 s'.l) → wpList P ops Q rest (a.put op.dst undef) (w.setCells b 0 s'.l)) : wpList P ops Q (op :: rest) a w :=
  wpList_store_mid hgd t x y ho b 0 s'.l.toArray hx hy (kr_there HK i hi s') (by simpa using hs) (all_oneCell_toArray (st_one s')) (h (kr_set HK i hi s'))
/-- One operation of a drawn region: a new row. -/
theorem ow_alloc {op : Oper} {a : Act} {w : World} {K : Act → World → Prop} {Q : Exit → Act → World → Prop} (t : TypeId) (zs : List Value) (n : Nat) (ho : op.op = .alloc t)
    (hz : (P.info? t).map (fun i => (i.zero, i.size)) = some (some (.agg zs.toArray), n)) (h : K (a.put op.dst (.pointer (some ⟨w.heap.size, 0, none⟩))) (w.alloc (.cells zs.toArray t))) : op.wp P a w K Q := by
  have hz' := (zero_of_info hz).1 w
  unfold Oper.wp execOp
  simp [ho, Sem.run_bind, Result.andThen_ok, Instr.alloc, hz', newVar, Value.cells]
  exact h
/-- The beginning of a drawn region under rows kept in sight. -/
theorem kr_begin {id : Nat} {ops : Array Oper} {a : Act} {w W : World} {Q : Exit → Act → World → Prop} {rs : List (Nat × List Value)} (HK : KR w rs W) (hm : P.follows .mixedOrders = true)
    (h : KR w rs W.drew → wpAnyH P .any ops Q (fun W => KR w rs W) ops.size (Array.replicate ops.size false) a W.drew) : (Code.region id ops true).wp P Q a W := wp_region_held_drew (S := fun W => KR w rs W) hm (kr_drew HK) h
theorem row_neq (s : St) (W : World) : (binOp .neq 23 (.agg s.l.toArray) (.agg s.l.toArray)).run Try.prog W = .ok (.bool false) W := by
  unfold St.l
  show (binOp .neq 23 (.agg #[.int .i64 s.id, .int .i64 s.job, .int .i64 s.day, .int .i64 s.state, .bool s.hold, .bool s.force, .int .i64 s.runs, .int .i64 s.tries, .int .i64 s.run, .int .i64 s.at_]) (.agg #[.int .i64 s.id, .int .i64 s.job, .int .i64 s.day, .int .i64 s.state, .bool s.hold, .bool s.force, .int .i64 s.runs, .int .i64 s.tries, .int .i64 s.run, .int .i64 s.at_])).run Try.prog W = _
  go_simp
theorem row_eq (s : St) (W : World) : (binOp .eql 23 (.agg s.l.toArray) (.agg s.l.toArray)).run Try.prog W = .ok (.bool true) W := by
  unfold St.l
  show (binOp .eql 23 (.agg #[.int .i64 s.id, .int .i64 s.job, .int .i64 s.day, .int .i64 s.state, .bool s.hold, .bool s.force, .int .i64 s.runs, .int .i64 s.tries, .int .i64 s.run, .int .i64 s.at_]) (.agg #[.int .i64 s.id, .int .i64 s.job, .int .i64 s.day, .int .i64 s.state, .bool s.hold, .bool s.force, .int .i64 s.runs, .int .i64 s.tries, .int .i64 s.run, .int .i64 s.at_])).run Try.prog W = _
  go_simp
end Go.Proofs.Ytfefbmglimdgjaa.Own
