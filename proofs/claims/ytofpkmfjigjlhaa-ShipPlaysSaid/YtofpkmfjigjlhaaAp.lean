/- append under rows kept in sight: onto nothing, or onto a slice of the call's own. No conditions beside those in each lemma. -/
import Derived.Test.YtofpkmfjigjlhaaKr
import Derived.Maps.AppendAt
import Derived.Deep.AppendLies
import Derived.Deep.Heap
import Derived.RegionTactic
namespace Go.Proofs.Ytofpkmfjigjlhaa.Own
set_option linter.unusedVariables false
set_option linter.unusedSimpArgs false
open Go.RowKit
/-- What a source of an append, or of a copy, holds. -/
def SrcV (W : World) (sp : Option Addr) (cs : List Value) : Prop := 0 < cs.length → ∃ A, sp = some A ∧ ∀ j v, cs[j]? = some v → W.cell? (A.add j) = some v
/-- A slice of the call's own: its cells, in a block of no row in sight. -/
def Own (w : World) (rs : List (Nat × List Value)) (e : TypeId) (size : Nat) (v : Value) (n : Nat) (xs : List Value) (W : World) : Prop :=
  W.ownsRow w.heap.size e size v n xs ∧ ∀ k, v.ownBlock = some k → ∀ p ∈ rs, p.1 ≠ k
theorem own_nil (w W : World) (rs : List (Nat × List Value)) (e : TypeId) (size : Nat) : Own w rs e size (.slice none 0 0) 0 [] W := ⟨World.ownsRow_nil _ _ _ _, fun k hk => by simp [Value.ownBlock] at hk⟩
theorem kr_grown {w W W' : World} {rs : List (Nat × List Value)} {row : Option Nat} (HK : KR w rs W) (hg : W.grownBy W' row) (hr : ∀ k, row = some k → w.heap.size ≤ k ∧ ∀ p ∈ rs, p.1 ≠ k) : KR w rs W' := by
  have hcell : ∀ (b o : Nat), b < W.heap.size → some b ≠ row → W'.cell? ⟨b, o, none⟩ = W.cell? ⟨b, o, none⟩ := fun b o hb hn => World.cell?_of_block (hg.block b hb hn)
  have hfro : ∀ (b o : Nat), b < W.heap.size → some b ≠ row → W'.frozen? ⟨b, o, none⟩ = W.frozen? ⟨b, o, none⟩ := fun b o hb hn => World.frozen?_of_block (hg.block b hb hn)
  refine ⟨⟨hg.os.trans HK.below.os, hg.tape.trans HK.below.tape, hg.output.trans HK.below.output, Nat.le_trans HK.below.size hg.size, fun i hi => ?_⟩, fun p hp => ?_, HK.apart⟩
  · rw [hg.block i (Nat.lt_of_lt_of_le hi HK.below.size) (fun e => by have := (hr i e.symm).1; omega)]
    exact HK.below.block i hi
  · obtain ⟨h0, h1, h2, h3⟩ := HK.rows p hp
    have hne : some p.1 ≠ row := fun e => (hr p.1 e.symm).2 p hp rfl
    refine ⟨h0, Nat.lt_of_lt_of_le h1 hg.size, fun j v hv => ?_, fun j hj => ?_⟩
    · rw [hcell _ _ h1 hne]; exact h2 j v hv
    · rw [hcell _ _ h1 hne, hfro _ _ h1 hne]; exact h3 j hj
variable {P : Program}
theorem run_append_nothing' (W : World) (t ty e : TypeId) (i : TypeInfo) (ht : P.underlying t = some (.slice e)) (hi : P.info? e = some i) (base size : Nat)
    (v : Value) (n : Nat) (xs : List Value) (hown : W.ownsRow base e size v n xs) (c : Nat) : (Builtin.append_ #[t, t] ty #[v, .slice none 0 c]).run P W = .ok v W := by
  rcases hown.2 with ⟨rfl, rfl⟩ | ⟨g, cap, cur, rfl, _, _, hnc, _⟩
  · simp [Builtin.append_, run_underlying ht, sizeOf, typeInfo, hi, Builtin.lenOf, Builtin.firstCells]
  · simp [Builtin.append_, run_underlying ht, sizeOf, typeInfo, hi, Builtin.lenOf, Builtin.firstCells, hnc, storeCells]
theorem kr_append {w W : World} {rs : List (Nat × List Value)} (HK : KR w rs W) (t ty e : TypeId) (z : Value) (size bytes : Nat) (ht : P.underlying t = some (.slice e))
    (hi : (P.info? e).map (fun i => (i.zero, i.size, i.bytes)) = some (some z, size, bytes)) (hzs : z.cells.size = size) (hsz : 0 < size) {v : Value} {n : Nat} {xs : List Value} (hown : Own w rs e size v n xs W)
    (sp : Option Addr) (m c : Nat) (news : List Value) (hl : news.length = m * size) (hS : SrcV W sp news) (h1 : ∀ u ∈ news, u.oneCell' = true) (h63 : n + m ≤ maxLen) (hbytes : (n + m) * bytes ≤ 140737488355328) :
    ∃ v' W', (Builtin.append_ #[t, t] ty #[v, .slice sp m c]).run P W = .ok v' W' ∧ Own w rs e size v' (n + m) (xs ++ news) W' ∧ KR w rs W' ∧ W.heap.size ≤ W'.heap.size := by
  obtain ⟨i, hi0, hi1⟩ := Option.map_eq_some_iff.1 hi
  simp only [Prod.mk.injEq] at hi1
  obtain ⟨hz, hs, hb⟩ := hi1
  rcases sp with _ | A
  · have hm : m = 0 := by
      rcases Nat.eq_zero_or_pos m with h0 | h0
      · exact h0
      · obtain ⟨A, hA, _⟩ := hS (by rw [hl]; exact Nat.mul_pos h0 hsz)
        cases hA
    subst hm
    have hn : news = [] := List.eq_nil_of_length_eq_zero (by simpa using hl)
    subst hn
    refine ⟨v, W, run_append_nothing' W t ty e i ht hi0 w.heap.size size v n xs hown.1 c, by simpa using hown, HK, Nat.le_refl _⟩
  · have hcells : ∀ j u, news[j]? = some u → W.cell? (A.add j) = some u := fun j u hu => by
      obtain ⟨B, hB, hc⟩ := hS (Nat.lt_of_le_of_lt (Nat.zero_le j) (List.getElem?_eq_some_iff.1 hu).1)
      injection hB with hB
      subst hB
      exact hc j u hu
    obtain ⟨v', W', hr, h2, h3, _, h5⟩ := run_append_own_at (P := P) W w.heap.size t ty e i z size bytes ht hi0 hz hs hb hzs hsz v n xs hown.1 A m c news hl hcells h1 h63 hbytes HK.below.size
    refine ⟨v', W', hr, ⟨h2, fun k hk p hp => ?_⟩, kr_grown HK h3 (fun k hk => ⟨(hown.1.lt k hk).1, hown.2 k hk⟩), h3.size⟩
    rcases h5 with h5 | h5
    · exact hown.2 k (h5 ▸ hk) p hp
    · rw [h5] at hk
      injection hk with hk
      have := (HK.rows p hp).2.1
      omega
/-- What a slice holds, in one of the rows: n elements, the cells cs. -/
def SC (rs : List (Nat × List Value)) (size : Nat) (v : Value) (n : Nat) (cs : List Value) : Prop :=
  (v = .slice none 0 0 ∧ n = 0 ∧ cs = []) ∨ ∃ b cap l, v = .slice (some ⟨b, 0, none⟩) n cap ∧ (b, l) ∈ rs ∧ n ≤ cap ∧ cap * size = l.length ∧ l.take (n * size) = cs
theorem own_settle {w W : World} {rs : List (Nat × List Value)} (HK : KR w rs W) {e : TypeId} {size : Nat} {v : Value} {n : Nat} {xs : List Value} (h : Own w rs e size v n xs W) : ∃ l, KR w (l ++ rs) W ∧ SC l size v n xs := by
  rcases h.1.2 with ⟨rfl, rfl⟩ | ⟨g, cap, cur, rfl, hb, hg, hn, hm, hs, ht⟩
  · exact ⟨[], HK, .inl ⟨rfl, rfl, List.eq_nil_of_length_eq_zero (by simpa using h.1.1)⟩⟩
  · have hlt : g < W.heap.size := (Array.getElem?_eq_some_iff.1 hg).1
    refine ⟨[(g, cur.toList)], ⟨HK.below, fun p hp => ?_, ?_⟩, .inr ⟨g, cap, cur.toList, rfl, List.mem_singleton.2 rfl, hn, by rw [Array.length_toList, hs], ht⟩⟩
    · rcases List.mem_cons.1 hp with rfl | hp
      · refine ⟨hb, hlt, fun j v hv => ?_, fun j hj => ⟨?_, ?_⟩⟩
        · rw [Nat.zero_add, cell_of_row _ _ j _ _ _ hg]; simpa using hv
        · rw [Nat.zero_add, cell_of_row _ _ j _ _ _ hg]
          have : j < cur.size := by simpa using hj
          simp [this]
        · unfold World.frozen?
          simp [hg]
      · exact HK.rows p hp
    · exact List.Pairwise.cons (fun q hq e => h.2 g rfl q hq e.symm) HK.apart
theorem own_settle1 {w W : World} {rs : List (Nat × List Value)} (HK : KR w rs W) {e : TypeId} {size : Nat} {v : Value} {n : Nat} {xs : List Value} (h : Own w rs e size v n xs W) (h0 : 0 < n) :
    ∃ g cap cur, v = .slice (some ⟨g, 0, none⟩) n cap ∧ KR w ((g, cur) :: rs) W ∧ n ≤ cap ∧ cap * size = cur.length ∧ cur.take (n * size) = xs := by
  rcases h.1.2 with ⟨_, h1⟩ | ⟨g, cap, cur, rfl, hb, hg, hn, hm, hs, ht⟩
  · omega
  · have hlt : g < W.heap.size := (Array.getElem?_eq_some_iff.1 hg).1
    refine ⟨g, cap, cur.toList, rfl, ⟨HK.below, fun p hp => ?_, ?_⟩, hn, by rw [Array.length_toList, hs], ht⟩
    · rcases List.mem_cons.1 hp with rfl | hp
      · refine ⟨hb, hlt, fun j v hv => ?_, fun j hj => ⟨?_, ?_⟩⟩
        · rw [Nat.zero_add, cell_of_row _ _ j _ _ _ hg]; simpa using hv
        · rw [Nat.zero_add, cell_of_row _ _ j _ _ _ hg]
          have : j < cur.size := by simpa using hj
          simp [this]
        · unfold World.frozen?
          simp [hg]
      · exact HK.rows p hp
    · exact List.Pairwise.cons (fun q hq e => h.2 g rfl q hq e.symm) HK.apart
theorem own_set {w W : World} {rs : List (Nat × List Value)} {e : TypeId} {size : Nat} {v : Value} {n : Nat} {xs : List Value} (h : Own w rs e size v n xs W) {b : Nat} {l : List Value} (hb : (b, l) ∈ rs) (o : Nat) (u : Value) : Own w rs e size v n xs (W.setCell ⟨b, o, none⟩ u) := by
  refine ⟨⟨h.1.1, ?_⟩, h.2⟩
  rcases h.1.2 with h0 | ⟨g, cap, cur, rfl, h1, hg, h2⟩
  · exact .inl h0
  · exact .inr ⟨g, cap, cur, rfl, h1, by rw [Go.Deep.blk_setCell_other _ _ _ _ (fun e => h.2 g rfl _ hb e.symm)]; exact hg, h2⟩
theorem own_form {w W : World} {rs : List (Nat × List Value)} {e : TypeId} {size : Nat} {v : Value} {n : Nat} {xs : List Value} (h : Own w rs e size v n xs W) : ∃ sx cx, v = .slice sx n cx := by
  rcases h.1.2 with ⟨h0, h1⟩ | ⟨g, cap, cur, h0, _⟩
  · exact ⟨_, _, by rw [h0, h1]⟩
  · exact ⟨_, _, h0⟩
theorem own_drew {w W : World} {rs : List (Nat × List Value)} {e : TypeId} {size : Nat} {v : Value} {n : Nat} {xs : List Value} (h : Own w rs e size v n xs W) : Own w rs e size v n xs W.drew := h
theorem own_rows {w W : World} {rs rs' : List (Nat × List Value)} {e : TypeId} {size : Nat} {v : Value} {n : Nat} {xs : List Value} (h : Own w rs e size v n xs W) (hs : ∀ p ∈ rs', ∃ q ∈ rs, q.1 = p.1) : Own w rs' e size v n xs W :=
  ⟨h.1, fun k hk p hp => by obtain ⟨q, hq, e⟩ := hs p hp; rw [← e]; exact h.2 k hk q hq⟩
theorem kr_permA {w W : World} {rs rs' : List (Nat × List Value)} (h : KR w rs W) (hp : rs'.Perm rs) : KR w rs' W :=
  ⟨h.below, fun p hq => h.rows p (hp.mem_iff.1 hq), hp.symm.pairwise h.apart (fun hne e => hne e.symm)⟩
theorem kr_sub {w W : World} {rs rs' : List (Nat × List Value)} (h : KR w rs W) (hp : rs'.Sublist rs) : KR w rs' W :=
  ⟨h.below, fun p hq => h.rows p (hp.subset hq), h.apart.sublist hp⟩
theorem wp_appendK {o : Oper} {a : Act} {K : Act → World → Prop} {Q : Exit → Act → World → Prop} (s x : Operand) (t e : TypeId) (z : Value) (size bytes : Nat) {w W : World} {rs : List (Nat × List Value)} (HK : KR w rs W) {v : Value} {n : Nat} {xs : List Value} (hown : Own w rs e size v n xs W)
    (sp : Option Addr) (m c : Nat) (news : List Value) (hS : SrcV W sp news) (hl : news.length = m * size) (h1 : ∀ u ∈ news, u.oneCell' = true) (h63 : n + m ≤ maxLen) (hbytes : (n + m) * bytes ≤ 140737488355328)
    (ht : P.underlying t = some (.slice e)) (hi : (P.info? e).map (fun i => (i.zero, i.size, i.bytes)) = some (some z, size, bytes)) (hzs : z.cells.size = size) (hsz : 0 < size)
    (ho : o.op = .call { callee := .builtin .append, args := #[s, x], argTypes := #[t, t] }) (hs : a.eval s = v) (hx : a.eval x = .slice sp m c)
    (h : ∀ v' W', Own w rs e size v' (n + m) (xs ++ news) W' → KR w rs W' → W.heap.size ≤ W'.heap.size → K (a.put o.dst v') W') : o.wp P a W K Q := by
  obtain ⟨v', W', hr, h2, h3, h4⟩ := kr_append (P := P) HK t o.type e z size bytes ht hi hzs hsz hown sp m c news hl hS h1 h63 hbytes
  unfold Oper.wp execOp
  simp only [ho, resolve, invoke, builtin, Sem.run_bind, Sem.run_pure, Result.andThen_ok, List.map_toArray, List.map_cons, List.map_nil, hs, hx, hr]
  exact h v' W' h2 h3 h4
theorem wl_appendK {ops : Array Oper} {rest : List Oper} {o : Oper} {a : Act} {Q : Exit → Act → World → Prop} (s x : Operand) (t e : TypeId) (z : Value) (size bytes : Nat) {w W : World} {rs : List (Nat × List Value)} (HK : KR w rs W) {v : Value} {n : Nat} {xs : List Value} (hown : Own w rs e size v n xs W)
    (sp : Option Addr) (m c : Nat) (news : List Value) (hS : SrcV W sp news) (hl : news.length = m * size) (h1 : ∀ u ∈ news, u.oneCell' = true) (h63 : n + m ≤ maxLen) (hbytes : (n + m) * bytes ≤ 140737488355328)
    (ht : P.underlying t = some (.slice e)) (hi : (P.info? e).map (fun i => (i.zero, i.size, i.bytes)) = some (some z, size, bytes)) (hzs : z.cells.size = size) (hsz : 0 < size)
    (hgd : o.guard = none) (ho : o.op = .call { callee := .builtin .append, args := #[s, x], argTypes := #[t, t] }) (hs : a.eval s = v) (hx : a.eval x = .slice sp m c)
    (h : ∀ v' W', Own w rs e size v' (n + m) (xs ++ news) W' → KR w rs W' → W.heap.size ≤ W'.heap.size → wpList P ops Q rest (a.put o.dst v') W') : wpList P ops Q (o :: rest) a W :=
  wpList_plain hgd fun _ hK => wp_appendK s x t e z size bytes HK hown sp m c news hS hl h1 h63 hbytes ht hi hzs hsz ho hs hx fun v' W' h2 h3 h4 => hK _ _ (h v' W' h2 h3 h4)
/-- At a step of a region that draws. -/
theorem step_appendK {ops : Array Oper} {o : Oper} {a : Act} {K : Act → World → Prop} {Q : Exit → Act → World → Prop} {E : Prop} (s x : Operand) (t e : TypeId) (z : Value) (size bytes : Nat) {w W : World} {rs : List (Nat × List Value)} (HK : KR w rs W) {v : Value} {n : Nat} {xs : List Value} (hown : Own w rs e size v n xs W)
    (sp : Option Addr) (m c : Nat) (news : List Value) (hS : SrcV W sp news) (hl : news.length = m * size) (h1 : ∀ u ∈ news, u.oneCell' = true) (h63 : n + m ≤ maxLen) (hbytes : (n + m) * bytes ≤ 140737488355328)
    (ht : P.underlying t = some (.slice e)) (hi : (P.info? e).map (fun i => (i.zero, i.size, i.bytes)) = some (some z, size, bytes)) (hzs : z.cells.size = size) (hsz : 0 < size)
    (hgd : o.guard = none) (ho : o.op = .call { callee := .builtin .append, args := #[s, x], argTypes := #[t, t] }) (hs : a.eval s = v) (hx : a.eval x = .slice sp m c)
    (h : ∀ v' W', Own w rs e size v' (n + m) (xs ++ news) W' → KR w rs W' → W.heap.size ≤ W'.heap.size → K (a.put o.dst v') W') : if Region.wanted o (yielded ops a.tmps) = true then Oper.wp P o a W K Q else E := by
  have hw : Region.wanted o (yielded ops a.tmps) = true := by simp [Region.wanted, hgd]
  rw [if_pos hw]
  exact wp_appendK s x t e z size bytes HK hown sp m c news hS hl h1 h63 hbytes ht hi hzs hsz ho hs hx h
end Go.Proofs.Ytofpkmfjigjlhaa.Own
