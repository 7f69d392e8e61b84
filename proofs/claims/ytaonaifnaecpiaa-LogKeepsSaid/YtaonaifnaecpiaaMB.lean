/- append under rows kept in sight: onto nothing, or onto a slice of the call's own. No conditions beside those in each lemma. -/
import Derived.Test.YtaonaifnaecpiaaMA
import Derived.Maps.AppendAt
import Derived.Deep.AppendLies
import Derived.Deep.Heap
import Derived.RegionTactic
import Derived.Deep.RegionLaw
import Derived.Deep.DeepCutAuto
import Derived.Test.YtaonaifnaecpiaaProg
import Derived.Laws.MakeOwn
import Derived.Laws.BytesArg
import Derived.Deep.QuietTactic
import Derived.BigQuiet
namespace Go.Proofs.Ytaonaifnaecpiaa.Own
open Go.RowKit
/-- What a source of an append, or of a copy, holds. -/
def SrcV (W : World) (sp : Option Addr) (cs : List Value) : Prop := 0 < cs.length → ∃ A, sp = some A ∧ ∀ j v, cs[j]? = some v → W.cell? (A.add j) = some v
/-- A slice of the call's own: its cells, in a block of no row in sight. -/
def Own (w : World) (rs : List (Nat × List Value)) (e : TypeId) (size : Nat) (v : Value) (n : Nat) (xs : List Value) (W : World) : Prop :=
  W.ownsRow w.heap.size e size v n xs ∧ ∀ k, v.ownBlock = some k → ∀ p ∈ rs, p.1 ≠ k
theorem own_nil (w W : World) (rs : List (Nat × List Value)) (e : TypeId) (size : Nat) : Own w rs e size (.slice none 0 0) 0 [] W := ⟨World.ownsRow_nil _ _ _ _, fun k hk => by simp [Value.ownBlock] at hk⟩
theorem kr_grown {w W W' : World} {rs : List (Nat × List Value)} {row : Option Nat} (HK : KR w rs W) (hg : W.grownBy W' row) (hr : ∀ k, row = some k → w.heap.size ≤ k ∧ ∀ p ∈ rs, p.1 ≠ k) : KR w rs W' := by
  have hcell : ∀ (b o : Nat), b < W.heap.size → some b ≠ row → W'.cell? ⟨b, o, none⟩ = W.cell? ⟨b, o, none⟩ := fun b o hb hn => World.cell?_of_block (hg.block b hb hn)
  have hfro : ∀ (b o : Nat), b < W.heap.size → some b ≠ row → W'.frozen? ⟨b, o, none⟩ = W.frozen? ⟨b, o, none⟩ := fun b o hb hn => World.frozen?_of_block (hg.block b hb hn)
  refine ⟨⟨hg.os.trans HK.below.os, hg.tape.trans HK.below.tape, hg.output.trans HK.below.output, Nat.le_trans HK.below.size hg.size, fun i hi => ?_⟩, fun p hp => ?_, HK.apart⟩
  · rw [hg.block i (Nat.lt_of_lt_of_le hi HK.below.size) (fun e => by have := (hr i e.symm).1; omega)]
    exact HK.below.block i hi
  · obtain ⟨h0, h1, h2, h3⟩ := HK.rows p hp
    have hne : some p.1 ≠ row := fun e => (hr p.1 e.symm).2 p hp rfl
    refine ⟨h0, Nat.lt_of_lt_of_le h1 hg.size, fun j v hv => ?_, fun j hj => ?_⟩
    · rw [hcell _ _ h1 hne]; exact h2 j v hv
    · rw [hcell _ _ h1 hne, hfro _ _ h1 hne]; exact h3 j hj
variable {P : Program}
theorem run_append_nothing' (W : World) (t ty e : TypeId) (i : TypeInfo) (ht : P.underlying t = some (.slice e)) (hi : P.info? e = some i) (base size : Nat)
    (v : Value) (n : Nat) (xs : List Value) (hown : W.ownsRow base e size v n xs) (c : Nat) : (Builtin.append_ #[t, t] ty #[v, .slice none 0 c]).run P W = .ok v W := by
  rcases hown.2 with ⟨rfl, rfl⟩ | ⟨g, cap, cur, rfl, _, _, hnc, _⟩
  · simp [Builtin.append_, run_underlying ht, sizeOf, typeInfo, hi, Builtin.lenOf, Builtin.firstCells]
  · simp [Builtin.append_, run_underlying ht, sizeOf, typeInfo, hi, Builtin.lenOf, Builtin.firstCells, hnc, storeCells]
theorem kr_append {w W : World} {rs : List (Nat × List Value)} (HK : KR w rs W) (t ty e : TypeId) (z : Value) (size bytes : Nat) (ht : P.underlying t = some (.slice e))
    (hi : (P.info? e).map (fun i => (i.zero, i.size, i.bytes)) = some (some z, size, bytes)) (hzs : z.cells.size = size) (hsz : 0 < size) {v : Value} {n : Nat} {xs : List Value} (hown : Own w rs e size v n xs W)
    (sp : Option Addr) (m c : Nat) (news : List Value) (hl : news.length = m * size) (hS : SrcV W sp news) (h1 : ∀ u ∈ news, u.oneCell' = true) (h63 : n + m ≤ maxLen) (hbytes : (n + m) * bytes ≤ 140737488355328) :
    ∃ v' W', (Builtin.append_ #[t, t] ty #[v, .slice sp m c]).run P W = .ok v' W' ∧ Own w rs e size v' (n + m) (xs ++ news) W' ∧ KR w rs W' ∧ W.heap.size ≤ W'.heap.size := by
  obtain ⟨i, hi0, hi1⟩ := Option.map_eq_some_iff.1 hi
  simp only [Prod.mk.injEq] at hi1
  obtain ⟨hz, hs, hb⟩ := hi1
  rcases sp with _ | A
  · have hm : m = 0 := by
      rcases Nat.eq_zero_or_pos m with h0 | h0
      · exact h0
      · obtain ⟨A, hA, _⟩ := hS (by rw [hl]; exact Nat.mul_pos h0 hsz)
        cases hA
    subst hm
    have hn : news = [] := List.eq_nil_of_length_eq_zero (by simpa using hl)
    subst hn
    refine ⟨v, W, run_append_nothing' W t ty e i ht hi0 w.heap.size size v n xs hown.1 c, by simpa using hown, HK, Nat.le_refl _⟩
  · have hcells : ∀ j u, news[j]? = some u → W.cell? (A.add j) = some u := fun j u hu => by
      obtain ⟨B, hB, hc⟩ := hS (Nat.lt_of_le_of_lt (Nat.zero_le j) (List.getElem?_eq_some_iff.1 hu).1)
      injection hB with hB
      subst hB
      exact hc j u hu
    obtain ⟨v', W', hr, h2, h3, _, h5⟩ := run_append_own_at (P := P) W w.heap.size t ty e i z size bytes ht hi0 hz hs hb hzs hsz v n xs hown.1 A m c news hl hcells h1 h63 hbytes HK.below.size
    refine ⟨v', W', hr, ⟨h2, fun k hk p hp => ?_⟩, kr_grown HK h3 (fun k hk => ⟨(hown.1.lt k hk).1, hown.2 k hk⟩), h3.size⟩
    rcases h5 with h5 | h5
    · exact hown.2 k (h5 ▸ hk) p hp
    · rw [h5] at hk
      injection hk with hk
      have := (HK.rows p hp).2.1
      omega
/-- What a slice holds, in one of the rows: n elements, the cells cs. -/
def SC (rs : List (Nat × List Value)) (size : Nat) (v : Value) (n : Nat) (cs : List Value) : Prop :=
  (v = .slice none 0 0 ∧ n = 0 ∧ cs = []) ∨ ∃ b cap l, v = .slice (some ⟨b, 0, none⟩) n cap ∧ (b, l) ∈ rs ∧ n ≤ cap ∧ cap * size = l.length ∧ l.take (n * size) = cs
theorem own_settle {w W : World} {rs : List (Nat × List Value)} (HK : KR w rs W) {e : TypeId} {size : Nat} {v : Value} {n : Nat} {xs : List Value} (h : Own w rs e size v n xs W) : ∃ l, KR w (l ++ rs) W ∧ SC l size v n xs := by
  rcases h.1.2 with ⟨rfl, rfl⟩ | ⟨g, cap, cur, rfl, hb, hg, hn, hm, hs, ht⟩
  · exact ⟨[], HK, .inl ⟨rfl, rfl, List.eq_nil_of_length_eq_zero (by simpa using h.1.1)⟩⟩
  · have hlt : g < W.heap.size := (Array.getElem?_eq_some_iff.1 hg).1
    refine ⟨[(g, cur.toList)], ⟨HK.below, fun p hp => ?_, ?_⟩, .inr ⟨g, cap, cur.toList, rfl, List.mem_singleton.2 rfl, hn, by rw [Array.length_toList, hs], ht⟩⟩
    · rcases List.mem_cons.1 hp with rfl | hp
      · refine ⟨hb, hlt, fun j v hv => ?_, fun j hj => ⟨?_, ?_⟩⟩
        · rw [Nat.zero_add, cell_of_row _ _ j _ _ _ hg]; simpa using hv
        · rw [Nat.zero_add, cell_of_row _ _ j _ _ _ hg]
          have : j < cur.size := by simpa using hj
          simp [this]
        · unfold World.frozen?
          simp [hg]
      · exact HK.rows p hp
    · exact List.Pairwise.cons (fun q hq e => h.2 g rfl q hq e.symm) HK.apart
theorem own_settle1 {w W : World} {rs : List (Nat × List Value)} (HK : KR w rs W) {e : TypeId} {size : Nat} {v : Value} {n : Nat} {xs : List Value} (h : Own w rs e size v n xs W) (h0 : 0 < n) :
    ∃ g cap cur, v = .slice (some ⟨g, 0, none⟩) n cap ∧ KR w ((g, cur) :: rs) W ∧ n ≤ cap ∧ cap * size = cur.length ∧ cur.take (n * size) = xs := by
  rcases h.1.2 with ⟨_, h1⟩ | ⟨g, cap, cur, rfl, hb, hg, hn, hm, hs, ht⟩
  · omega
  · have hlt : g < W.heap.size := (Array.getElem?_eq_some_iff.1 hg).1
    refine ⟨g, cap, cur.toList, rfl, ⟨HK.below, fun p hp => ?_, ?_⟩, hn, by rw [Array.length_toList, hs], ht⟩
    · rcases List.mem_cons.1 hp with rfl | hp
      · refine ⟨hb, hlt, fun j v hv => ?_, fun j hj => ⟨?_, ?_⟩⟩
        · rw [Nat.zero_add, cell_of_row _ _ j _ _ _ hg]; simpa using hv
        · rw [Nat.zero_add, cell_of_row _ _ j _ _ _ hg]
          have : j < cur.size := by simpa using hj
          simp [this]
        · unfold World.frozen?
          simp [hg]
      · exact HK.rows p hp
    · exact List.Pairwise.cons (fun q hq e => h.2 g rfl q hq e.symm) HK.apart
theorem own_set {w W : World} {rs : List (Nat × List Value)} {e : TypeId} {size : Nat} {v : Value} {n : Nat} {xs : List Value} (h : Own w rs e size v n xs W) {b : Nat} {l : List Value} (hb : (b, l) ∈ rs) (o : Nat) (u : Value) : Own w rs e size v n xs (W.setCell ⟨b, o, none⟩ u) := by
  refine ⟨⟨h.1.1, ?_⟩, h.2⟩
  rcases h.1.2 with h0 | ⟨g, cap, cur, rfl, h1, hg, h2⟩
  · exact .inl h0
  · exact .inr ⟨g, cap, cur, rfl, h1, by rw [Go.Deep.blk_setCell_other _ _ _ _ (fun e => h.2 g rfl _ hb e.symm)]; exact hg, h2⟩
theorem own_form {w W : World} {rs : List (Nat × List Value)} {e : TypeId} {size : Nat} {v : Value} {n : Nat} {xs : List Value} (h : Own w rs e size v n xs W) : ∃ sx cx, v = .slice sx n cx := by
  rcases h.1.2 with ⟨h0, h1⟩ | ⟨g, cap, cur, h0, _⟩
  · exact ⟨_, _, by rw [h0, h1]⟩
  · exact ⟨_, _, h0⟩
theorem own_drew {w W : World} {rs : List (Nat × List Value)} {e : TypeId} {size : Nat} {v : Value} {n : Nat} {xs : List Value} (h : Own w rs e size v n xs W) : Own w rs e size v n xs W.drew := h
theorem own_rows {w W : World} {rs rs' : List (Nat × List Value)} {e : TypeId} {size : Nat} {v : Value} {n : Nat} {xs : List Value} (h : Own w rs e size v n xs W) (hs : ∀ p ∈ rs', ∃ q ∈ rs, q.1 = p.1) : Own w rs' e size v n xs W :=
  ⟨h.1, fun k hk p hp => by obtain ⟨q, hq, e⟩ := hs p hp; rw [← e]; exact h.2 k hk q hq⟩
theorem kr_permA {w W : World} {rs rs' : List (Nat × List Value)} (h : KR w rs W) (hp : rs'.Perm rs) : KR w rs' W :=
  ⟨h.below, fun p hq => h.rows p (hp.mem_iff.1 hq), hp.symm.pairwise h.apart (fun hne e => hne e.symm)⟩
theorem kr_sub {w W : World} {rs rs' : List (Nat × List Value)} (h : KR w rs W) (hp : rs'.Sublist rs) : KR w rs' W :=
  ⟨h.below, fun p hq => h.rows p (hp.subset hq), h.apart.sublist hp⟩
theorem wp_appendK {o : Oper} {a : Act} {K : Act → World → Prop} {Q : Exit → Act → World → Prop} (s x : Operand) (t e : TypeId) (z : Value) (size bytes : Nat) {w W : World} {rs : List (Nat × List Value)} (HK : KR w rs W) {v : Value} {n : Nat} {xs : List Value} (hown : Own w rs e size v n xs W)
    (sp : Option Addr) (m c : Nat) (news : List Value) (hS : SrcV W sp news) (hl : news.length = m * size) (h1 : ∀ u ∈ news, u.oneCell' = true) (h63 : n + m ≤ maxLen) (hbytes : (n + m) * bytes ≤ 140737488355328)
    (ht : P.underlying t = some (.slice e)) (hi : (P.info? e).map (fun i => (i.zero, i.size, i.bytes)) = some (some z, size, bytes)) (hzs : z.cells.size = size) (hsz : 0 < size)
    (ho : o.op = .call { callee := .builtin .append, args := #[s, x], argTypes := #[t, t] }) (hs : a.eval s = v) (hx : a.eval x = .slice sp m c)
    (h : ∀ v' W', Own w rs e size v' (n + m) (xs ++ news) W' → KR w rs W' → W.heap.size ≤ W'.heap.size → K (a.put o.dst v') W') : o.wp P a W K Q := by
  obtain ⟨v', W', hr, h2, h3, h4⟩ := kr_append (P := P) HK t o.type e z size bytes ht hi hzs hsz hown sp m c news hl hS h1 h63 hbytes
  unfold Oper.wp execOp
  simp only [ho, resolve, invoke, builtin, Sem.run_bind, Sem.run_pure, Result.andThen_ok, List.map_toArray, List.map_cons, List.map_nil, hs, hx, hr]
  exact h v' W' h2 h3 h4
theorem wl_appendK {ops : Array Oper} {rest : List Oper} {o : Oper} {a : Act} {Q : Exit → Act → World → Prop} (s x : Operand) (t e : TypeId) (z : Value) (size bytes : Nat) {w W : World} {rs : List (Nat × List Value)} (HK : KR w rs W) {v : Value} {n : Nat} {xs : List Value} (hown : Own w rs e size v n xs W)
    (sp : Option Addr) (m c : Nat) (news : List Value) (hS : SrcV W sp news) (hl : news.length = m * size) (h1 : ∀ u ∈ news, u.oneCell' = true) (h63 : n + m ≤ maxLen) (hbytes : (n + m) * bytes ≤ 140737488355328)
    (ht : P.underlying t = some (.slice e)) (hi : (P.info? e).map (fun i => (i.zero, i.size, i.bytes)) = some (some z, size, bytes)) (hzs : z.cells.size = size) (hsz : 0 < size)
    (hgd : o.guard = none) (ho : o.op = .call { callee := .builtin .append, args := #[s, x], argTypes := #[t, t] }) (hs : a.eval s = v) (hx : a.eval x = .slice sp m c)
    (h : ∀ v' W', Own w rs e size v' (n + m) (xs ++ news) W' → KR w rs W' → W.heap.size ≤ W'.heap.size → wpList P ops Q rest (a.put o.dst v') W') : wpList P ops Q (o :: rest) a W :=
  wpList_plain hgd fun _ hK => wp_appendK s x t e z size bytes HK hown sp m c news hS hl h1 h63 hbytes ht hi hzs hsz ho hs hx fun v' W' h2 h3 h4 => hK _ _ (h v' W' h2 h3 h4)
/-- At a step of a region that draws. -/
theorem step_appendK {ops : Array Oper} {o : Oper} {a : Act} {K : Act → World → Prop} {Q : Exit → Act → World → Prop} {E : Prop} (s x : Operand) (t e : TypeId) (z : Value) (size bytes : Nat) {w W : World} {rs : List (Nat × List Value)} (HK : KR w rs W) {v : Value} {n : Nat} {xs : List Value} (hown : Own w rs e size v n xs W)
    (sp : Option Addr) (m c : Nat) (news : List Value) (hS : SrcV W sp news) (hl : news.length = m * size) (h1 : ∀ u ∈ news, u.oneCell' = true) (h63 : n + m ≤ maxLen) (hbytes : (n + m) * bytes ≤ 140737488355328)
    (ht : P.underlying t = some (.slice e)) (hi : (P.info? e).map (fun i => (i.zero, i.size, i.bytes)) = some (some z, size, bytes)) (hzs : z.cells.size = size) (hsz : 0 < size)
    (hgd : o.guard = none) (ho : o.op = .call { callee := .builtin .append, args := #[s, x], argTypes := #[t, t] }) (hs : a.eval s = v) (hx : a.eval x = .slice sp m c)
    (h : ∀ v' W', Own w rs e size v' (n + m) (xs ++ news) W' → KR w rs W' → W.heap.size ≤ W'.heap.size → K (a.put o.dst v') W') : if Region.wanted o (yielded ops a.tmps) = true then Oper.wp P o a W K Q else E := by
  have hw : Region.wanted o (yielded ops a.tmps) = true := by simp [Region.wanted, hgd]
  rw [if_pos hw]
  exact wp_appendK s x t e z size bytes HK hown sp m c news hS hl h1 h63 hbytes ht hi hzs hsz ho hs hx h
end Go.Proofs.Ytaonaifnaecpiaa.Own

namespace Go.Proofs.Ytaonaifnaecpiaa.Own
open Go.RowKit
set_option linter.unusedSimpArgs false
def rH (d : Dk) (B cap : Nat) : List Value := [.slice (some ⟨B, 0, none⟩) 8 cap, .int .i64 d.left, .bool d.dead]
def rF (d : Dk) (tl : List Value) : List Value := (d.f 0).1 :: .int .i64 (d.f 0).2 :: (d.f 1).1 :: .int .i64 (d.f 1).2 :: (d.f 2).1 :: .int .i64 (d.f 2).2 :: (d.f 3).1 :: .int .i64 (d.f 3).2 :: (d.f 4).1 :: .int .i64 (d.f 4).2 :: (d.f 5).1 :: .int .i64 (d.f 5).2 :: (d.f 6).1 :: .int .i64 (d.f 6).2 :: (d.f 7).1 :: .int .i64 (d.f 7).2 :: tl
theorem rF_len (d : Dk) (tl : List Value) : (rF d tl).length = 16 + tl.length := by simp [rF]; omega
theorem rF_a (d : Dk) (tl : List Value) (k : Nat) (hk : k < 8) : (rF d tl)[k * 2]? = some (d.f k).1 := by
  match k, hk with
  | 0, _ => rfl
  | 1, _ => rfl
  | 2, _ => rfl
  | 3, _ => rfl
  | 4, _ => rfl
  | 5, _ => rfl
  | 6, _ => rfl
  | 7, _ => rfl
theorem rF_b (d : Dk) (tl : List Value) (k : Nat) (hk : k < 8) : (rF d tl)[k * 2 + 1]? = some (.int .i64 (d.f k).2) := by
  match k, hk with
  | 0, _ => rfl
  | 1, _ => rfl
  | 2, _ => rfl
  | 3, _ => rfl
  | 4, _ => rfl
  | 5, _ => rfl
  | 6, _ => rfl
  | 7, _ => rfl
theorem rF_setA (d : Dk) (tl : List Value) (k : Nat) (hk : k < 8) (v : Value) : (rF d tl).set (k * 2) v = rF { d with f := upd d.f k (v, (d.f k).2) } tl := by
  match k, hk with
  | 0, _ => rfl
  | 1, _ => rfl
  | 2, _ => rfl
  | 3, _ => rfl
  | 4, _ => rfl
  | 5, _ => rfl
  | 6, _ => rfl
  | 7, _ => rfl
theorem rF_setB (d : Dk) (tl : List Value) (k : Nat) (hk : k < 8) (n : Int) : (rF d tl).set (k * 2 + 1) (.int .i64 n) = rF { d with f := upd d.f k ((d.f k).1, n) } tl := by
  match k, hk with
  | 0, _ => rfl
  | 1, _ => rfl
  | 2, _ => rfl
  | 3, _ => rfl
  | 4, _ => rfl
  | 5, _ => rfl
  | 6, _ => rfl
  | 7, _ => rfl
theorem rF_left (d : Dk) (tl : List Value) (n : Int) : rF { d with left := n } tl = rF d tl := rfl
theorem rF_dead (d : Dk) (tl : List Value) (b : Bool) : rF { d with dead := b } tl = rF d tl := rfl
theorem rF_app (d : Dk) (tl : List Value) : rF d tl = rF d [] ++ tl := rfl
theorem rF_one (d : Dk) (h : ∀ i, i < 8 → (d.f i).1.oneCell' = true) : ∀ v ∈ rF d [], v.oneCell' = true := by
  intro v hv
  simp only [rF, List.mem_cons, List.not_mem_nil, or_false] at hv
  rcases hv with rfl | rfl | rfl | rfl | rfl | rfl | rfl | rfl | rfl | rfl | rfl | rfl | rfl | rfl | rfl | rfl
  all_goals first | rfl | (exact h _ (by omega))
attribute [irreducible] rF
attribute [local go_sem] mm_max2 mm_min2 mm_max_two mm_min_two
/-- The two rows of the reference's disk. -/
def RR (w W : World) (R B cap : Nat) (tl : List Value) (d : Dk) (rs : List (Nat × List Value)) : Prop := KR w ((R, rH d B cap) :: (B, rF d tl) :: rs) W
theorem rr_h0 {w W : World} {R B cap : Nat} {tl : List Value} {d : Dk} {rs : List (Nat × List Value)} (h : RR w W R B cap tl d rs) : W.cell? ⟨R, 0, none⟩ = some (.slice (some ⟨B, 0, none⟩) 8 cap) := kr_cell h 0 rfl 0 _ rfl
theorem rr_h1 {w W : World} {R B cap : Nat} {tl : List Value} {d : Dk} {rs : List (Nat × List Value)} (h : RR w W R B cap tl d rs) : W.cell? ⟨R, 1, none⟩ = some (.int .i64 d.left) := kr_cell h 0 rfl 1 _ rfl
theorem rr_h2 {w W : World} {R B cap : Nat} {tl : List Value} {d : Dk} {rs : List (Nat × List Value)} (h : RR w W R B cap tl d rs) : W.cell? ⟨R, 2, none⟩ = some (.bool d.dead) := kr_cell h 0 rfl 2 _ rfl
theorem rr_f1 {w W : World} {R B cap : Nat} {tl : List Value} {d : Dk} {rs : List (Nat × List Value)} (h : RR w W R B cap tl d rs) : W.frozen? ⟨R, 1, none⟩ = false := kr_frozen h 0 rfl 1 (by simp [rH])
theorem rr_f2 {w W : World} {R B cap : Nat} {tl : List Value} {d : Dk} {rs : List (Nat × List Value)} (h : RR w W R B cap tl d rs) : W.frozen? ⟨R, 2, none⟩ = false := kr_frozen h 0 rfl 2 (by simp [rH])
theorem rr_a {w W : World} {R B cap : Nat} {tl : List Value} {d : Dk} {rs : List (Nat × List Value)} (h : RR w W R B cap tl d rs) (k : Nat) (hk : k < 8) : W.cell? ⟨B, k * 2, none⟩ = some (d.f k).1 := kr_cell h 1 rfl _ _ (rF_a d tl k hk)
theorem rr_b {w W : World} {R B cap : Nat} {tl : List Value} {d : Dk} {rs : List (Nat × List Value)} (h : RR w W R B cap tl d rs) (k : Nat) (hk : k < 8) : W.cell? ⟨B, k * 2 + 1, none⟩ = some (.int .i64 (d.f k).2) := kr_cell h 1 rfl _ _ (rF_b d tl k hk)
theorem rr_fa {w W : World} {R B cap : Nat} {tl : List Value} {d : Dk} {rs : List (Nat × List Value)} (h : RR w W R B cap tl d rs) (k : Nat) (hk : k < 8) : W.frozen? ⟨B, k * 2, none⟩ = false := kr_frozen h 1 rfl _ (by rw [rF_len]; omega)
theorem rr_fb {w W : World} {R B cap : Nat} {tl : List Value} {d : Dk} {rs : List (Nat × List Value)} (h : RR w W R B cap tl d rs) (k : Nat) (hk : k < 8) : W.frozen? ⟨B, k * 2 + 1, none⟩ = false := kr_frozen h 1 rfl _ (by rw [rF_len]; omega)
theorem rr_setL {w W : World} {R B cap : Nat} {tl : List Value} {d : Dk} {rs : List (Nat × List Value)} (h : RR w W R B cap tl d rs) (n : Int) : RR w (W.setCell ⟨R, 1, none⟩ (.int .i64 n)) R B cap tl { d with left := n } rs := by
  have := kr_fset h 0 rfl 1 (by simp [rH]) (.int .i64 n) _ rfl
  simp only [List.set_cons_zero] at this
  unfold RR
  rw [rF_left]
  exact this
theorem rr_setD {w W : World} {R B cap : Nat} {tl : List Value} {d : Dk} {rs : List (Nat × List Value)} (h : RR w W R B cap tl d rs) (b : Bool) : RR w (W.setCell ⟨R, 2, none⟩ (.bool b)) R B cap tl { d with dead := b } rs := by
  have := kr_fset h 0 rfl 2 (by simp [rH]) (.bool b) _ rfl
  simp only [List.set_cons_zero] at this
  unfold RR
  rw [rF_dead]
  exact this
theorem rr_setS {w W : World} {R B cap : Nat} {tl : List Value} {d : Dk} {rs : List (Nat × List Value)} (h : RR w W R B cap tl d rs) (k : Nat) (hk : k < 8) (n : Int) : RR w (W.setCell ⟨B, k * 2 + 1, none⟩ (.int .i64 n)) R B cap tl (putF d k (d.f k).1 n) rs := by
  have := kr_fset h 1 rfl (k * 2 + 1) (by rw [rF_len]; omega) (.int .i64 n) _ (rF_setB d tl k hk n)
  simp only [List.set_cons_succ, List.set_cons_zero] at this
  exact this
theorem rr_setF {w W : World} {R B cap : Nat} {tl : List Value} {d : Dk} {rs : List (Nat × List Value)} (h : RR w W R B cap tl d rs) (k : Nat) (hk : k < 8) (v : Value) (n : Int) : RR w ((W.setCell ⟨B, k * 2, none⟩ v).setCell ⟨B, k * 2 + 1, none⟩ (.int .i64 n)) R B cap tl (putF d k v n) rs := by
  have H1 := kr_fset h 1 rfl (k * 2) (by rw [rF_len]; omega) v _ (rF_setA d tl k hk v)
  simp only [List.set_cons_succ, List.set_cons_zero] at H1
  have H2 := rr_setS (tl := tl) (d := { d with f := upd d.f k (v, (d.f k).2) }) (cap := cap) H1 k hk n
  have e : putF { d with f := upd d.f k (v, (d.f k).2) } k (({ d with f := upd d.f k (v, (d.f k).2) } : Dk).f k).1 n = putF d k v n := by
    simp only [putF, Dk.mk.injEq, and_true]
    funext j
    unfold upd
    split <;> simp_all
  rw [e] at H2
  exact H2
theorem rr_ne {w W : World} {R B cap : Nat} {tl : List Value} {d : Dk} {rs : List (Nat × List Value)} (h : RR w W R B cap tl d rs) : R ≠ B := (List.pairwise_cons.1 h.apart).1 _ List.mem_cons_self
theorem set_drew {W : World} {b c : Nat} (h : b ≠ c) (i j : Nat) (v : Value) : (W.setCell ⟨b, i, none⟩ v).drew.cell? ⟨c, j, none⟩ = W.cell? ⟨c, j, none⟩ := by
  rw [World.cell?_drew, World.cell?_setCell_other (h := by intro e; injection e with e; exact h e)]
theorem set_drew2 {W : World} {b i j : Nat} (h : i ≠ j) (v : Value) : (W.setCell ⟨b, i, none⟩ v).drew.cell? ⟨b, j, none⟩ = W.cell? ⟨b, j, none⟩ := by
  rw [World.cell?_drew, World.cell?_setCell_other (h := by intro e; injection e with _ e; exact h e)]
theorem set_drew3 {W : World} {b c : Nat} (h : b ≠ c) (i j q : Nat) (u v : Value) : ((W.setCell ⟨b, i, none⟩ u).setCell ⟨b, j, none⟩ v).drew.cell? ⟨c, q, none⟩ = W.cell? ⟨c, q, none⟩ := by
  rw [set_drew h, World.cell?_setCell_other (h := by intro e; injection e with e; exact h e)]
theorem set_drew4 {W : World} {b i j q : Nat} (h : ¬ i = q) (h' : ¬ j = q) (u v : Value) : ((W.setCell ⟨b, i, none⟩ u).setCell ⟨b, j, none⟩ v).drew.cell? ⟨b, q, none⟩ = W.cell? ⟨b, q, none⟩ := by
  rw [set_drew2 h', World.cell?_setCell_other (h := by intro e; injection e with _ e; exact h e)]
theorem rr_drew {w W : World} {R B cap : Nat} {tl : List Value} {d : Dk} {rs : List (Nat × List Value)} (h : RR w W R B cap tl d rs) : RR w W.drew R B cap tl d rs := kr_drew h
theorem file_info : (Try.prog.info? 95).map (fun i => (i.zero, i.size, i.bytes)) = some (some (.agg #[.slice none 0 0, .int .i64 0]), 2, 32) := by kernel_rfl
theorem rnew_k {w W : World} {rs : List (Nat × List Value)} (HK : KR w rs W) : Calls Try.prog 31 #[] W fun e W' => ∃ R B, e = .returned (.pointer (some ⟨R, 0, none⟩)) ∧ RR w W' R B 8 [] dk0 rs := by
  have hmk : ∀ w : World, (Instr.makeSlice 87 (.int .i64 8) (.int .i64 8)).run Try.prog w = .ok (.slice (some ⟨w.heap.size, 0, none⟩) 8 8) (w.alloc (.cells (rF dk0 []).toArray 95)) := fun _ => by unfold rF; kernel_rfl
  have H1 := kr_new HK (rF dk0 []) 95
  have H2 := kr_new H1 (rH dk0 W.heap.size 8) 89
  have HH : Hid (KR w _ _) := H2
  clear HK H1 H2
  go_enter Try.func31, Try.ntmps31
  go_wp2
  go_ret
  refine ⟨W.heap.size + 1, W.heap.size, rfl, ?_⟩
  have := HH.out
  simp only [World.size_alloc] at this
  exact this
theorem right_yes (f : Int) (W : World) (h0 : 0 ≤ f) (h8 : f < 8) : Calls Try.prog 57 #[.int .i64 f] W fun e W' => e = .returned (.bool true) ∧ W = W' := by
  go_enter Try.func57, Try.ntmps57
  go_wp2
  go_ret
  exact ⟨rfl, rfl⟩
theorem right_no (f : Int) (W : World) (h : f < 0 ∨ 8 ≤ f) : Calls Try.prog 57 #[.int .i64 f] W fun e W' => e = .returned (.bool false) ∧ W = W' := by
  rcases h with h | h
  · go_enter Try.func57, Try.ntmps57
    go_wp2
    all_goals go_ret
    all_goals exact ⟨rfl, rfl⟩
  · have hd : decide (f < 8) = false := by simpa using h
    have h0 : 0 ≤ f := by omega
    go_enter Try.func57, Try.ntmps57
    go_wp2
    all_goals go_ret
    all_goals exact ⟨rfl, rfl⟩
theorem rsafe_k (d : Dk) (R B cap : Nat) (tl : List Value) (k : Nat) (hk : k < 8) {w W : World} {rs : List (Nat × List Value)} (HK : RR w W R B cap tl d rs) : Calls Try.prog 60 #[.pointer (some ⟨R, 0, none⟩), .int .i64 k] W fun e W' => e = .returned (.int .i64 (d.f k).2) ∧ W = W' := by
  have k0 := rr_h0 HK
  have kb := rr_b HK k hk
  have hk2 : (k : Int) < 8 := by omega
  clear HK
  go_enter Try.func60, Try.ntmps60
  go_wp2_with (go_at_call 57; refine (right_yes _ _ (by omega) (by omega)).mono ?_; rintro e w' ⟨rfl, rfl⟩)
  all_goals go_ret
  all_goals exact ⟨rfl, rfl⟩
theorem rsafe_out (R : Nat) (f : Int) (hf : f < 0 ∨ 8 ≤ f) (W : World) : Calls Try.prog 60 #[.pointer (some ⟨R, 0, none⟩), .int .i64 f] W fun e W' => e = .returned (.int .i64 0) ∧ W = W' := by
  have hr := fun W => right_no f W hf
  clear hf
  go_enter Try.func60, Try.ntmps60
  go_wp2_with (go_at_call 57; refine (hr _).mono ?_; rintro e w' ⟨rfl, rfl⟩)
  all_goals go_ret
  all_goals exact ⟨rfl, rfl⟩
theorem fs_b {W : World} {p : Addr} {u : Value} {n : Bool} (h : W.cell? p = some u) (hf : W.frozen? p = false) : (Instr.storeAt 4 (.pointer (some p)) (.bool n)).run Try.prog W = .ok () (W.setCell p (.bool n)) := by go_simp
theorem rfail_k (d : Dk) (R B cap : Nat) (tl : List Value) (n : Int) {w W : World} {rs : List (Nat × List Value)} (HK : RR w W R B cap tl d rs) : Calls Try.prog 36 #[.pointer (some ⟨R, 0, none⟩), .int .i64 n] W fun e W' => e = .returned (.tuple #[]) ∧ RR w W' R B cap tl { d with left := maxZ n } rs := by
  have k1 := rr_h1 HK
  have f1 := rr_f1 HK
  have H1 := rr_setL HK n
  by_cases hn : n < 1
  · have e : maxZ n = 0 := by
      by_cases h : n < 0
      · exact maxZ_neg h
      · rw [maxZ_pos h]; omega
    have HH : Hid (RR w ((W.setCell ⟨R, 1, none⟩ (.int .i64 n)).setCell ⟨R, 1, none⟩ (.int .i64 0)) R B cap tl { d with left := 0 } rs) := rr_setL H1 0
    have H2 : Hid (maxZ n = 0) := e
    clear HK H1 e
    go_enter Try.func36, Try.ntmps36
    go_wp2
    all_goals refine bodyPost_end (results_none rfl _ _ _) rfl ⟨rfl, ?_⟩
    all_goals rw [H2.out]
    all_goals exact HH.out
  · have H2 : Hid (maxZ n = n) := maxZ_pos (by omega)
    have HH : Hid (RR w _ R B cap tl _ rs) := H1
    clear HK H1
    go_enter Try.func36, Try.ntmps36
    go_wp2
    all_goals refine bodyPost_end (results_none rfl _ _ _) rfl ⟨rfl, ?_⟩
    all_goals rw [H2.out]
    all_goals exact HH.out
set_option maxHeartbeats 1000000 in
theorem counts_k (d : Dk) (R B cap : Nat) (tl : List Value) (hdead : d.dead = false) (hl : d.left ≤ 9223372036854775807) {w W : World} {rs : List (Nat × List Value)} (HK : RR w W R B cap tl d rs) : Calls Try.prog 58 #[.pointer (some ⟨R, 0, none⟩)] W fun e W' => e = .returned (.bool (cnt d).dead) ∧ RR w W' R B cap tl (cnt d) rs := by
  have k1 := rr_h1 HK
  have k2 := rr_h2 HK
  have f1 := rr_f1 HK
  have f2 := rr_f2 HK
  by_cases h0 : 0 < d.left
  · have hn1 : 1 ≤ d.left := by omega
    by_cases h1 : d.left - 1 = 0
    · have Hc : cnt d = { d with left := 0, dead := true } := by unfold cnt; rw [if_pos h0, h1]; rfl
      rw [Hc]
      have HH : Hid (RR w _ R B cap tl _ rs) := rr_setD (rr_setL HK 0) true
      have e1 : d.left = 1 := by omega
      rw [e1] at k1
      clear HK Hc hdead hl h0 h1 hn1 e1
      go_enter Try.func58, Try.ntmps58
      go_wp2
      all_goals go_ret
      all_goals exact ⟨rfl, HH.out⟩
    · have hb : (d.left - 1 == 0) = false := by simpa using h1
      have Hc : cnt d = { d with left := d.left - 1, dead := false } := by unfold cnt; rw [if_pos h0, decide_eq_false h1]
      rw [Hc]
      have HH : Hid (RR w _ R B cap tl _ rs) := rr_setD (rr_setL HK (d.left - 1)) false
      clear HK Hc hdead h1
      go_enter Try.func58, Try.ntmps58
      go_wp2
      all_goals go_ret
      all_goals exact ⟨rfl, HH.out⟩
  · have Hc : cnt d = d := by unfold cnt; rw [if_neg h0]
    rw [Hc, hdead]
    have HH : Hid (RR w _ R B cap tl _ rs) := HK
    clear HK Hc hdead
    go_enter Try.func58, Try.ntmps58
    go_wp2
    all_goals go_ret
    all_goals exact ⟨rfl, HH.out⟩
end Go.Proofs.Ytaonaifnaecpiaa.Own

namespace Go.Proofs.Ytaonaifnaecpiaa.Own
open Go.RowKit
set_option linter.unusedSimpArgs false
attribute [local go_sem] mm_max2 mm_min2 mm_max_two mm_min_two
theorem mayD_outI (d : Dk) (f : Int) (hf : f < 0 ∨ 8 ≤ f) : mayD d [f] = 1 := mayD_out d f hf
theorem mayD_inI (d : Dk) (f : Int) (h0 : 0 ≤ f) (h8 : f < 8) : mayD d [f] = if d.dead = true then 13 else 0 := by
  unfold mayD
  rw [if_neg (by simp; omega)]
theorem rclear_k (d : Dk) (R B cap : Nat) (hcap : 8 ≤ cap) (tl : List Value) (f : Int) (hl : d.left ≤ 9223372036854775807) {w W : World} {rs : List (Nat × List Value)} (HK : RR w W R B cap tl d rs) :
    Calls Try.prog 51 #[.pointer (some ⟨R, 0, none⟩), .int .i64 f] W fun e W' => e = .returned (.int .i64 (chE d [f])) ∧ RR w W' R B cap tl (chD d [f] (putF (cnt d) f.toNat (.slice none 0 0) 0)) rs := by
  by_cases hf : f < 0 ∨ 8 ≤ f
  · have hm := mayD_outI d f hf
    have e1 : chE d [f] = 1 := by unfold chE; rw [hm]; rfl
    have e2 : ∀ d2, chD d [f] d2 = d := fun d2 => by unfold chD; rw [hm]; rfl
    rw [e1, e2]
    clear hm e1 e2
    have hr := fun W => right_no f W hf
    clear hf
    have HH : Hid _ := HK
    clear HK
    go_enter Try.func51, Try.ntmps51
    go_wp2_with (go_at_call 57; refine (hr _).mono ?_; rintro e w' ⟨rfl, rfl⟩)
    all_goals go_ret
    all_goals exact ⟨rfl, HH.out⟩
  · obtain ⟨k, rfl⟩ : ∃ k : Nat, f = k := ⟨f.toNat, by omega⟩
    have hk : k < 8 := by omega
    have hk2 : (k : Int) < 8 := by omega
    have hr := fun W => right_yes (k : Int) W (by omega) hk2
    have hm := mayD_inI d (k : Int) (by omega) hk2
    rw [Int.toNat_natCast]
    have hkc : k < cap := by omega
    clear hf
    cases hd : d.dead
    · rw [hd] at hm
      have e1 : chE d [(k : Int)] = cntE d := by unfold chE; rw [hm]; rfl
      have e2 : ∀ d2, chD d [(k : Int)] d2 = if cntE d = 0 then d2 else cnt d := fun d2 => by unfold chD; rw [hm]; rfl
      rw [e1, e2]
      clear e1 e2 hm
      have hc := fun W (H : RR w W R B cap tl d rs) => counts_k d R B cap tl hd hl H
      have k2 := rr_h2 HK
      rw [hd] at k2
      clear hd
      cases hcd : (cnt d).dead
      · have e3 : cntE d = 0 := by unfold cntE; rw [hcd]; rfl
        rw [e3, if_pos rfl]
        rw [hcd] at hc
        clear e3 hcd
        generalize cnt d = dc at hc ⊢
        go_enter Try.func51, Try.ntmps51
        go_wp2_with (first | (go_at_call 57; refine (hr _).mono ?_; rintro e w' ⟨rfl, rfl⟩) | (go_at_call 58; refine (hc _ HK).mono ?_; rintro e w' ⟨rfl, HK2⟩; clear HK hc; have k0 := rr_h0 HK2; have ga := rr_a HK2 k hk; have gb := rr_b HK2 k hk; have fa := rr_fa HK2 k hk; have fb := rr_fb HK2 k hk; have hRB := rr_ne HK2; have hBR := Ne.symm hRB; have HH : Hid (RR w _ R B cap tl _ rs) := rr_setF (HK2) k hk (.slice none 0 0) 0; clear HK2))
        all_goals go_ret
        all_goals exact ⟨rfl, HH.out⟩
      · have e3 : cntE d = 13 := by unfold cntE; rw [hcd]; rfl
        rw [e3, if_neg (by decide)]
        rw [hcd] at hc
        clear e3 hcd
        go_enter Try.func51, Try.ntmps51
        go_wp2_with (first | (go_at_call 57; refine (hr _).mono ?_; rintro e w' ⟨rfl, rfl⟩) | (go_at_call 58; refine (hc _ HK).mono ?_; rintro e w' ⟨rfl, HK2⟩; clear HK; have HK : Hid _ := HK2; clear HK2))
        all_goals go_ret
        all_goals exact ⟨rfl, HK.out⟩
    · rw [hd] at hm
      have e1 : chE d [(k : Int)] = 13 := by unfold chE; rw [hm]; rfl
      have e2 : ∀ d2, chD d [(k : Int)] d2 = d := fun d2 => by unfold chD; rw [hm]; rfl
      rw [e1, e2]
      have k2 := rr_h2 HK
      rw [hd] at k2
      clear e1 e2 hm hd
      have HH : Hid _ := HK
      clear HK
      go_enter Try.func51, Try.ntmps51
      go_wp2_with (go_at_call 57; refine (hr _).mono ?_; rintro e w' ⟨rfl, rfl⟩)
      all_goals go_ret
      all_goals exact ⟨rfl, HH.out⟩
def lenV (v : Value) : Int := match v with
  | .slice _ n _ => (n : Int)
  | _ => 0
theorem rsync_k (d : Dk) (R B cap : Nat) (hcap : 8 ≤ cap) (tl : List Value) (f : Int) (hl : d.left ≤ 9223372036854775807) (hv : ∀ i, i < 8 → ∃ sx m cx, (d.f i).1 = .slice sx m cx) {w W : World} {rs : List (Nat × List Value)} (HK : RR w W R B cap tl d rs) :
    Calls Try.prog 52 #[.pointer (some ⟨R, 0, none⟩), .int .i64 f] W fun e W' => e = .returned (.int .i64 (chE d [f])) ∧ RR w W' R B cap tl (chD d [f] (putF (cnt d) f.toNat ((cnt d).f f.toNat).1 (lenV ((cnt d).f f.toNat).1))) rs := by
  by_cases hf : f < 0 ∨ 8 ≤ f
  · have hm := mayD_outI d f hf
    have e1 : chE d [f] = 1 := by unfold chE; rw [hm]; rfl
    have e2 : ∀ d2, chD d [f] d2 = d := fun d2 => by unfold chD; rw [hm]; rfl
    rw [e1, e2]
    clear hm e1 e2
    have hr := fun W => right_no f W hf
    clear hf
    have HH : Hid _ := HK
    clear HK
    go_enter Try.func52, Try.ntmps52
    go_wp2_with (go_at_call 57; refine (hr _).mono ?_; rintro e w' ⟨rfl, rfl⟩)
    all_goals go_ret
    all_goals exact ⟨rfl, HH.out⟩
  · obtain ⟨k, rfl⟩ : ∃ k : Nat, f = k := ⟨f.toNat, by omega⟩
    have hk : k < 8 := by omega
    have hk2 : (k : Int) < 8 := by omega
    have hr := fun W => right_yes (k : Int) W (by omega) hk2
    have hm := mayD_inI d (k : Int) (by omega) hk2
    rw [Int.toNat_natCast]
    have hkc : k < cap := by omega
    clear hf
    cases hd : d.dead
    · rw [hd] at hm
      have e1 : chE d [(k : Int)] = cntE d := by unfold chE; rw [hm]; rfl
      have e2 : ∀ d2, chD d [(k : Int)] d2 = if cntE d = 0 then d2 else cnt d := fun d2 => by unfold chD; rw [hm]; rfl
      rw [e1, e2]
      clear e1 e2 hm
      have hc := fun W (H : RR w W R B cap tl d rs) => counts_k d R B cap tl hd hl H
      have k2 := rr_h2 HK
      rw [hd] at k2
      clear hd
      cases hcd : (cnt d).dead
      · have e3 : cntE d = 0 := by unfold cntE; rw [hcd]; rfl
        rw [e3, if_pos rfl]
        rw [hcd] at hc
        clear e3 hcd
        obtain ⟨sx, m, cx, hv1⟩ := hv k hk
        rw [← cnt_f] at hv1
        clear hv
        rw [show lenV ((cnt d).f k).1 = (m : Int) from by rw [hv1]; rfl]
        generalize cnt d = dc at hc hv1 ⊢
        go_enter Try.func52, Try.ntmps52
        go_wp2_with (first | (go_at_call 57; refine (hr _).mono ?_; rintro e w' ⟨rfl, rfl⟩) | (go_at_call 58; refine (hc _ HK).mono ?_; rintro e w' ⟨rfl, HK2⟩; clear HK hc; have k0 := rr_h0 HK2; have ga := rr_a HK2 k hk; have gb := rr_b HK2 k hk; have fa := rr_fa HK2 k hk; have fb := rr_fb HK2 k hk; have hRB := rr_ne HK2; have hBR := Ne.symm hRB; rw [hv1] at ga; clear hv1; have HH : Hid (RR w _ R B cap tl _ rs) := rr_setS (rr_drew HK2) k hk (m : Int); clear HK2))
        go_region_held3 (fun W => W.cell? ⟨R, 0, none⟩ = some (.slice (some ⟨B, 0, none⟩) 8 cap) ∧ W.cell? ⟨B, k * 2, none⟩ = some (.slice sx m cx)) (first | (refine ⟨?_, ?_⟩; exact (set_drew hBR _ _ _).trans k0; exact (set_drew2 (Nat.succ_ne_self _) _).trans ga) | go_keep) (fail)
        go_wp2
        all_goals go_ret
        all_goals exact ⟨rfl, HH.out⟩
      · have e3 : cntE d = 13 := by unfold cntE; rw [hcd]; rfl
        rw [e3, if_neg (by decide)]
        rw [hcd] at hc
        clear e3 hcd
        go_enter Try.func52, Try.ntmps52
        go_wp2_with (first | (go_at_call 57; refine (hr _).mono ?_; rintro e w' ⟨rfl, rfl⟩) | (go_at_call 58; refine (hc _ HK).mono ?_; rintro e w' ⟨rfl, HK2⟩; clear HK; have HK : Hid _ := HK2; clear HK2))
        all_goals go_ret
        all_goals exact ⟨rfl, HK.out⟩
    · rw [hd] at hm
      have e1 : chE d [(k : Int)] = 13 := by unfold chE; rw [hm]; rfl
      have e2 : ∀ d2, chD d [(k : Int)] d2 = d := fun d2 => by unfold chD; rw [hm]; rfl
      rw [e1, e2]
      have k2 := rr_h2 HK
      rw [hd] at k2
      clear e1 e2 hm hd
      have HH : Hid _ := HK
      clear HK
      go_enter Try.func52, Try.ntmps52
      go_wp2_with (go_at_call 57; refine (hr _).mono ?_; rintro e w' ⟨rfl, rfl⟩)
      all_goals go_ret
      all_goals exact ⟨rfl, HH.out⟩
end Go.Proofs.Ytaonaifnaecpiaa.Own

namespace Go.Proofs.Ytaonaifnaecpiaa.Own
open Go.RowKit
set_option linter.unusedSimpArgs false
theorem sc_fc {l : List (Nat × List Value)} {v : Value} {bs : List Int} {n : Nat} (hn : bs.length = n) (h : SC l 1 v n (bc bs)) : FC l v bs := by
  subst hn
  rcases h with ⟨h1, h2, h3⟩ | ⟨b, cap, q, h1, h2, h3, h4, h5⟩
  · exact .inl ⟨h1, List.eq_nil_of_length_eq_zero h2⟩
  · exact .inr ⟨b, cap, q, h1, h2, h3, by omega, by rwa [Nat.mul_one] at h5⟩
theorem src_srcV {W : World} {sp : Option Addr} {bs : List Int} (h : Src W sp bs) : SrcV W sp (bc bs) := fun hl => h (by rwa [bc_len] at hl)
theorem rread_k (d : Dk) (R B cap : Nat) (hcap : 8 ≤ cap) (tl : List Value) (k : Nat) (hk : k < 8) (bs : List Int) (m : Nat) (hm : Hid (bs.length = m)) (hb : m ≤ 2000000) {w W : World} {rs : List (Nat × List Value)} (HK : RR w W R B cap tl d rs)
    (sx : Option Addr) (cx : Nat) (hv : (d.f k).1 = .slice sx m cx) (hS : Src W sx bs) :
    Calls Try.prog 50 #[.pointer (some ⟨R, 0, none⟩), .int .i64 k] W fun e W' => ∃ v l, e = .returned (.tuple #[v, .int .i64 0]) ∧ FC l v bs ∧ RR w W' R B cap tl d (l ++ rs) := by
  have k0 := rr_h0 HK
  have ka := rr_a HK k hk
  rw [hv] at ka
  have hk2 : (k : Int) < 8 := by omega
  have hkc : k < cap := by omega
  have hS' : Hid (SrcV W sx (bc bs)) := src_srcV hS
  have HH : Hid (RR w W R B cap tl d rs) := HK
  clear HK hS hv
  go_enter Try.func50, Try.ntmps50
  go_wp2_with (first | (go_at_call 57; refine (right_yes _ _ (by omega) (by omega)).mono ?_; rintro e w' ⟨rfl, rfl⟩) | (at_builtin; refine wl_appendK _ _ 23 5 (.int .u8 0) 1 1 HH.out (own_nil w _ _ 5 1) sx m cx (bc bs) hS'.out (by rw [bc_len, hm.out]; omega) (bc_one bs) (by unfold maxLen; omega) (by omega) Try.underlying23 u8_info rfl (by omega) rfl rfl (by rfl) (by rfl) (fun v' W' O H2 hz => ?_)))
  obtain ⟨l, HL, hC⟩ := own_settle H2 O
  go_ret2
  rw [Nat.zero_add, List.nil_append] at hC
  exact ⟨_, l, rfl, sc_fc hm.out hC, kr_perm HL (by
    have h1 : (l ++ (R, rH d B cap) :: (B, rF d tl) :: rs).Perm ((R, rH d B cap) :: (l ++ (B, rF d tl) :: rs)) := List.perm_middle
    exact h1.trans (List.Perm.cons _ List.perm_middle))⟩
theorem rread_out (R : Nat) (f : Int) (hf : f < 0 ∨ 8 ≤ f) (W : World) : Calls Try.prog 50 #[.pointer (some ⟨R, 0, none⟩), .int .i64 f] W fun e W' => e = .returned (.tuple #[.slice none 0 0, .int .i64 1]) ∧ W = W' := by
  have hr := fun W => right_no f W hf
  clear hf
  go_enter Try.func50, Try.ntmps50
  go_wp2_with (go_at_call 57; refine (hr _).mono ?_; rintro e w' ⟨rfl, rfl⟩)
  go_ret2
  exact ⟨rfl, rfl⟩
end Go.Proofs.Ytaonaifnaecpiaa.Own

namespace Go.Proofs.Ytaonaifnaecpiaa.Own
open Go.RowKit
set_option linter.unusedSimpArgs false
theorem rappend_no (d : Dk) (R B cap : Nat) (tl : List Value) (f : Int) (q : Int) (hq : mayD d [f] = q) (h0 : q ≠ 0) (v : Value) {w W : World} {rs : List (Nat × List Value)} (HK : RR w W R B cap tl d rs) :
    Calls Try.prog 38 #[.pointer (some ⟨R, 0, none⟩), .int .i64 f, v] W fun e W' => e = .returned (.int .i64 q) ∧ W = W' := by
  by_cases hf : f < 0 ∨ 8 ≤ f
  · obtain rfl : q = 1 := by rw [← hq]; exact mayD_outI d f hf
    have hr := fun W => right_no f W hf
    clear hf HK hq
    go_enter Try.func38, Try.ntmps38
    go_wp2_with (go_at_call 57; refine (hr _).mono ?_; rintro e w' ⟨rfl, rfl⟩)
    all_goals go_ret
    all_goals exact ⟨rfl, rfl⟩
  · have hr := fun W => right_yes f W (by omega) (by omega)
    have hm := mayD_inI d f (by omega) (by omega)
    have k2 := rr_h2 HK
    rw [hq] at hm
    cases hd : d.dead
    · rw [hd] at hm
      exact absurd hm h0
    · rw [hd] at hm k2
      obtain rfl : q = 13 := hm
      clear HK hq hf hd
      go_enter Try.func38, Try.ntmps38
      go_wp2_with (go_at_call 57; refine (hr _).mono ?_; rintro e w' ⟨rfl, rfl⟩)
      all_goals go_ret
      all_goals exact ⟨rfl, rfl⟩
theorem rappend_full (d : Dk) (R B cap : Nat) (hcap : 8 ≤ cap) (tl : List Value) (k : Nat) (hk : k < 8) (m n : Nat) (hy : 1048576 < n + m) (hm : m ≤ 1048576) (h0 : d.dead = false) {w W : World} {rs : List (Nat × List Value)} (HK : RR w W R B cap tl d rs) (sp : Option Addr) (cp : Nat) (sx : Option Addr) (cx : Nat) (h1 : (d.f k).1 = .slice sx m cx) :
    Calls Try.prog 38 #[.pointer (some ⟨R, 0, none⟩), .int .i64 k, .slice sp n cp] W fun e W' => e = .returned (.int .i64 4) ∧ W = W' := by
  have k0 := rr_h0 HK
  have k2 := rr_h2 HK
  have ka := rr_a HK k hk
  rw [h1] at ka
  rw [h0] at k2
  have hk2 : (k : Int) < 8 := by omega
  have hkc : k < cap := by omega
  have hm2 : (m : Int) ≤ 1048576 := by omega
  have hy2 : (1048576 : Int) - (m : Int) < (n : Int) := by omega
  have hr := fun W => right_yes (k : Int) W (by omega) hk2
  clear HK h1 h0
  go_enter Try.func38, Try.ntmps38
  go_wp2_with (go_at_call 57; refine (hr _).mono ?_; rintro e w' ⟨rfl, rfl⟩)
  all_goals go_ret
  all_goals exact ⟨rfl, rfl⟩
set_option maxHeartbeats 2000000 in
theorem rappend_ok (d : Dk) (R B cap : Nat) (hcap : 8 ≤ cap) (tl : List Value) (k : Nat) (hk : k < 8) (xs ys : List Int) (m n : Nat) (hX : Hid (xs.length = m)) (hY : Hid (ys.length = n)) (hy : n + m ≤ 1048576) (hl : d.left ≤ 9223372036854775807) (h0 : d.dead = false) {w W : World} {rs : List (Nat × List Value)} (HK : RR w W R B cap tl d rs)
    (sp : Option Addr) (cp : Nat) (sx : Option Addr) (cx : Nat) (h1 : (d.f k).1 = .slice sx m cx) (hS : ∀ W1, KR w rs W1 → Src W1 sp ys) (hT : ∀ W1, KR w rs W1 → Src W1 sx xs) :
    Calls Try.prog 38 #[.pointer (some ⟨R, 0, none⟩), .int .i64 k, .slice sp n cp] W fun e W' => e = .returned (.int .i64 (cntE d)) ∧ ∃ l v, FC l v (xs ++ ys) ∧ RR w W' R B cap tl (putF (cnt d) k v (d.f k).2) (l ++ rs) := by
  have hk2 : (k : Int) < 8 := by omega
  have hr := fun W => right_yes (k : Int) W (by omega) hk2
  have hkc : k < cap := by omega
  have k0 := rr_h0 HK
  have k2 := rr_h2 HK
  have ka := rr_a HK k hk
  rw [h1] at ka
  rw [h0] at k2
  have hm2 : (m : Int) ≤ 1048576 := by omega
  have hn2 : (n : Int) ≤ (1048576 : Int) - (m : Int) := by omega
  have hSS : Hid (∀ W1, KR w rs W1 → Src W1 sp ys) := hS
  have hTT : Hid (∀ W1, KR w rs W1 → Src W1 sx xs) := hT
  have hc := fun W (H : RR w W R B cap tl d rs) => counts_k d R B cap tl h0 hl H
  have hfc := cnt_f d
  have hce : cntE d = if (cnt d).dead = true then 13 else 0 := rfl
  rw [← hfc, hce]
  rw [← hfc] at h1
  clear hfc hce h0 hS hT
  generalize cnt d = dc at *
  generalize hdd : dc.dead = dd at *
  go_enter Try.func38, Try.ntmps38
  go_wp2_with (first | (go_at_call 57; refine (hr _).mono ?_; rintro e w' ⟨rfl, rfl⟩) | (go_at_call 58; refine (hc _ HK).mono ?_; rintro e w2 ⟨rfl, HK2⟩; clear HK hc k0 k2 ka; have k0 := rr_h0 HK2; have ka := rr_a HK2 k hk; rw [h1] at ka; have kb := rr_b HK2 k hk))
  have HK3 := kr_new HK2 [.slice none 0 0, .int .i64 (dc.f k).2] 95
  obtain ⟨X, hXX⟩ : ∃ X, w2.heap.size = X := ⟨_, rfl⟩
  rw [hXX] at HK3 ⊢
  generalize w2.alloc (.cells #[.slice none 0 0, .int .i64 (dc.f k).2] 95) = w3 at HK3 ⊢
  clear HK2 k0 ka kb hXX
  have k0 := kr_cell HK3 1 rfl 0 _ rfl
  have kx0 := kr_cell HK3 0 rfl 0 _ rfl
  have ka := kr_cell HK3 2 rfl _ _ (rF_a dc tl k hk)
  rw [h1] at ka
  go_cut [] (fun wx => ∃ s3 c3, Own w ((X, [.slice s3 m c3, .int .i64 (dc.f k).2]) :: (R, rH dc B cap) :: (B, rF dc tl) :: rs) 5 1 (.slice s3 m c3) m (bc xs) wx ∧ KR w ((X, [.slice s3 m c3, .int .i64 (dc.f k).2]) :: (R, rH dc B cap) :: (B, rF dc tl) :: rs) wx)
  case first =>
    go_region_law ((refine step_appendK _ _ 23 5 (.int .u8 0) 1 1 (kr_drew HK3) (own_nil w _ _ 5 1) sx m cx (bc xs) (src_srcV (hTT.out _ (kr_tail (kr_tail (kr_tail (kr_drew HK3)))))) (by rw [bc_len, hX.out]; omega) (bc_one xs) (by unfold maxLen; omega) (by omega) Try.underlying23 u8_info rfl (by omega) rfl rfl (by rfl) (by rfl) ?_; intro v' W' O H2 hz; obtain ⟨s3, c3, rfl⟩ := own_form O; have q0 := kr_cell H2 0 rfl 0 _ rfl; have q1 := kr_frozen H2 0 rfl 0 (by simp); have q2 := kr_fset H2 0 rfl 0 (by simp) (.slice s3 (0 + m) c3) _ rfl; have q3 := own_set O List.mem_cons_self 0 (.slice s3 (0 + m) c3); simp only [List.set_cons_zero, Nat.zero_add, List.nil_append] at q2 q3))
    all_goals (go_wp2_with fail; go_meet; exact ⟨s3, c3, own_rows q3 (fun p hp => by rcases List.mem_cons.1 hp with rfl | hp; exact ⟨_, List.mem_cons_self, rfl⟩; exact ⟨p, List.mem_cons_of_mem _ hp, rfl⟩), q2⟩)
  case rest =>
    obtain ⟨s3, c3, O, HK⟩ := hcut
    clear HK3 k0 kx0 ka
    have hRB := (List.pairwise_cons.1 (List.pairwise_cons.1 HK.apart).2).1 (B, rF dc tl) List.mem_cons_self
    have hBR : B ≠ R := fun e => hRB e.symm
    have hBX : B ≠ X := fun e => (List.pairwise_cons.1 HK.apart).1 (B, rF dc tl) (List.mem_cons_of_mem _ List.mem_cons_self) e.symm
    have kx0 := kr_cell HK 0 rfl 0 _ rfl
    have HS2 : SrcV wc sp (bc ys) := src_srcV (hSS.out _ (kr_tail (kr_tail (kr_tail HK))))
    have HS3 : Hid (SrcV wc sp (bc ys)) := HS2
    clear HS2 hr
    go_wp2_with (at_builtin; refine wl_appendK _ _ 23 5 (.int .u8 0) 1 1 HK O sp n cp (bc ys) HS3.out (by rw [bc_len, hY.out]; omega) (bc_one ys) (by unfold maxLen; omega) (by omega) Try.underlying23 u8_info rfl (by omega) rfl rfl (by rfl) (by rfl) (fun v' W' O2 H2 hz => ?_); obtain ⟨s4, c4, rfl⟩ := own_form O2; have q0 := kr_cell H2 0 rfl 0 _ rfl; have q1 := kr_frozen H2 0 rfl 0 (by simp); have q2 := kr_fset H2 0 rfl 0 (by simp) (.slice s4 (m + n) c4) _ rfl; have q3 := own_set O2 List.mem_cons_self 0 (.slice s4 (m + n) c4); simp only [List.set_cons_zero] at q2)
    have q4 := own_rows (rs' := (X, [.slice s4 (m + n) c4, .int .i64 (dc.f k).2]) :: (R, rH dc B cap) :: (B, rF dc tl) :: rs) q3 (fun p hp => by rcases List.mem_cons.1 hp with rfl | hp; exact ⟨_, List.mem_cons_self, rfl⟩; exact ⟨p, List.mem_cons_of_mem _ hp, rfl⟩)
    clear q0 q1 q3 O2 H2 hz O HK kx0
    generalize W'.setCell ⟨X, 0, none⟩ (.slice s4 (m + n) c4) = W4 at q2 q4 ⊢
    obtain ⟨l, HL, hC⟩ := own_settle q2 q4
    have HP : KR w ((X, [.slice s4 (m + n) c4, .int .i64 (dc.f k).2]) :: (R, rH dc B cap) :: (B, rF dc tl) :: (l ++ rs)) W4 := kr_permA HL (by
      have h1 : (l ++ (X, [.slice s4 (m + n) c4, .int .i64 (dc.f k).2]) :: (R, rH dc B cap) :: (B, rF dc tl) :: rs).Perm ((X, [.slice s4 (m + n) c4, .int .i64 (dc.f k).2]) :: (l ++ (R, rH dc B cap) :: (B, rF dc tl) :: rs)) := List.perm_middle
      exact (h1.trans (List.Perm.cons _ (List.perm_middle.trans (List.Perm.cons _ List.perm_middle)))).symm)
    have HF : Hid (FC l (.slice s4 (m + n) c4) (xs ++ ys)) := sc_fc (by rw [List.length_append, hX.out, hY.out]) (by rw [bc_app]; exact hC)
    have k0 := kr_cell HP 1 rfl 0 _ rfl
    have kx0 := kr_cell HP 0 rfl 0 _ rfl
    have kx1 := kr_cell HP 0 rfl 1 _ rfl
    have ka := kr_cell HP 2 rfl _ _ (rF_a dc tl k hk)
    have kb := kr_cell HP 2 rfl _ _ (rF_b dc tl k hk)
    have fa := kr_frozen HP 2 rfl (k * 2) (by rw [rF_len]; omega)
    have fb := kr_frozen HP 2 rfl (k * 2 + 1) (by rw [rF_len]; omega)
    have HQ : Hid (RR w _ R B cap tl _ (l ++ rs)) := rr_setF (rr_drew (kr_tail HP)) k hk (.slice s4 (m + n) c4) (dc.f k).2
    clear q2 q4 HL hC HP
    go_region_held3 (fun W => W.cell? ⟨R, 0, none⟩ = some (.slice (some ⟨B, 0, none⟩) 8 cap) ∧ W.cell? ⟨X, 0, none⟩ = some (.slice s4 (m + n) c4) ∧ W.cell? ⟨X, 1, none⟩ = some (.int .i64 (dc.f k).2)) (go_keep) (fail)
    cases dd
    all_goals go_wp2
    all_goals go_ret
    all_goals exact ⟨by first | rfl | (rw [hdd]; rfl), l, _, HF.out, HQ.out⟩
end Go.Proofs.Ytaonaifnaecpiaa.Own

namespace Go.Proofs.Ytaonaifnaecpiaa.Own
open Go.RowKit
set_option linter.unusedSimpArgs false
theorem mayD_two (d : Dk) (f t : Int) (hf : 0 ≤ f ∧ f < 8) (ht : 0 ≤ t ∧ t < 8) : mayD d [f, t] = if d.dead = true then 13 else 0 := by
  unfold mayD
  rw [if_neg (by simp; omega)]
theorem rrename_no (d : Dk) (R B cap : Nat) (tl : List Value) (f t : Int) (q : Int) (hq : mayD d [f, t] = q) (h0 : q ≠ 0) {w W : World} {rs : List (Nat × List Value)} (HK : RR w W R B cap tl d rs) :
    Calls Try.prog 53 #[.pointer (some ⟨R, 0, none⟩), .int .i64 f, .int .i64 t] W fun e W' => e = .returned (.int .i64 q) ∧ W = W' := by
  by_cases hf : f < 0 ∨ 8 ≤ f
  · obtain rfl : q = 1 := by rw [← hq]; unfold mayD; rw [if_pos ⟨f, by simp, hf⟩]
    have hr := fun W => right_no f W hf
    clear hf HK hq
    go_enter Try.func53, Try.ntmps53
    go_wp2_with (go_at_call 57; refine (hr _).mono ?_; rintro e w' ⟨rfl, rfl⟩)
    all_goals go_ret
    all_goals exact ⟨rfl, rfl⟩
  · have hr := fun W => right_yes f W (by omega) (by omega)
    by_cases ht : t < 0 ∨ 8 ≤ t
    · obtain rfl : q = 1 := by rw [← hq]; unfold mayD; rw [if_pos ⟨t, by simp, ht⟩]
      have hr2 := fun W => right_no t W ht
      clear hf HK hq ht
      go_enter Try.func53, Try.ntmps53
      go_wp2_with fail
      refine (hr _).mono ?_
      rintro e w' ⟨rfl, rfl⟩
      go_wp2_with fail
      refine (hr2 _).mono ?_
      rintro e w' ⟨rfl, rfl⟩
      go_wp2_with fail
      all_goals go_ret
      all_goals exact ⟨rfl, rfl⟩
    · have hr2 := fun W => right_yes t W (by omega) (by omega)
      have hm := mayD_two d f t (by omega) (by omega)
      have k2 := rr_h2 HK
      rw [hq] at hm
      cases hd : d.dead
      · rw [hd] at hm
        exact absurd hm h0
      · rw [hd] at hm k2
        obtain rfl : q = 13 := hm
        clear HK hq hf hd ht
        go_enter Try.func53, Try.ntmps53
        go_wp2_with fail
        refine (hr _).mono ?_
        rintro e w' ⟨rfl, rfl⟩
        go_wp2_with fail
        refine (hr2 _).mono ?_
        rintro e w' ⟨rfl, rfl⟩
        go_wp2_with fail
        all_goals go_ret
        all_goals exact ⟨rfl, rfl⟩
def rren (d : Dk) (f t : Nat) : Dk := if f = t then d else putF (putF d t (d.f f).1 (d.f f).2) f (.slice none 0 0) 0
set_option maxHeartbeats 2000000 in
theorem rrename_ok (d : Dk) (R B cap : Nat) (hcap : 8 ≤ cap) (tl : List Value) (f t : Nat) (hf : f < 8) (ht : t < 8) (hl : d.left ≤ 9223372036854775807) (hd : d.dead = false) (hv : ∃ sx m cx, (d.f f).1 = .slice sx m cx) {w W : World} {rs : List (Nat × List Value)} (HK : RR w W R B cap tl d rs) :
    Calls Try.prog 53 #[.pointer (some ⟨R, 0, none⟩), .int .i64 f, .int .i64 t] W fun e W' => e = .returned (.int .i64 (cntE d)) ∧ RR w W' R B cap tl (if cntE d = 0 then rren (cnt d) f t else cnt d) rs := by
  have hf2 : (f : Int) < 8 := by omega
  have ht2 : (t : Int) < 8 := by omega
  have hfc : f < cap := by omega
  have htc : t < cap := by omega
  have hr := fun W => right_yes (f : Int) W (by omega) hf2
  have hr2 := fun W => right_yes (t : Int) W (by omega) ht2
  have hc := fun W (H : RR w W R B cap tl d rs) => counts_k d R B cap tl hd hl H
  have k2 := rr_h2 HK
  rw [hd] at k2
  obtain ⟨sx, m, cx, hv1⟩ := hv
  rw [← cnt_f] at hv1
  cases hcd : (cnt d).dead
  · have e3 : cntE d = 0 := by unfold cntE; rw [hcd]; rfl
    rw [e3, if_pos rfl]
    rw [hcd] at hc
    clear e3 hcd hd
    generalize cnt d = dc at hc hv1 ⊢
    by_cases hft : f = t
    · subst hft
      have e4 : rren dc f f = dc := by unfold rren; rw [if_pos rfl]
      rw [e4]
      clear e4 hv1
      go_enter Try.func53, Try.ntmps53
      go_wp2_with (first | (go_at_call 57; refine (hr _).mono ?_; rintro e w' ⟨rfl, rfl⟩) | (go_at_call 58; refine (hc _ HK).mono ?_; rintro e w' ⟨rfl, HK2⟩; clear HK; have HK : Hid _ := HK2; clear HK2))
      all_goals go_ret
      all_goals exact ⟨rfl, HK.out⟩
    · have hb : ((f : Int) == (t : Int)) = false := by simp; omega
      have e4 : rren dc f t = putF (putF dc t (.slice sx m cx) (dc.f f).2) f (.slice none 0 0) 0 := by unfold rren; rw [if_neg hft, hv1]
      rw [e4]
      have HV : Hid ((dc.f f).1 = .slice sx m cx) := hv1
      have HF : Hid (¬ f = t) := hft
      clear e4 hv1 hft
      go_enter Try.func53, Try.ntmps53
      go_wp2_with fail
      refine (hr _).mono ?_
      rintro e w' ⟨rfl, rfl⟩
      go_wp2_with fail
      refine (hr2 _).mono ?_
      rintro e w' ⟨rfl, rfl⟩
      go_wp2_with (go_at_call 58; refine (hc _ HK).mono ?_; rintro e w' ⟨rfl, HK2⟩; clear HK hc; have k0 := rr_h0 HK2; have ga := rr_a HK2 f hf; have gb := rr_b HK2 f hf; rw [HV.out] at ga; have fa := rr_fa HK2 t ht; have fb := rr_fb HK2 t ht; have ta := rr_a HK2 t ht; have tb := rr_b HK2 t ht; have hRB := rr_ne HK2; have hBR := Ne.symm hRB)
      have n1 : ¬ t * 2 = f * 2 := by have := HF.out; omega
      have n2 : ¬ t * 2 + 1 = f * 2 := by omega
      have n3 : ¬ t * 2 = f * 2 + 1 := by omega
      have n4 : ¬ t * 2 + 1 = f * 2 + 1 := by have := HF.out; omega
      have H3 : RR w ((w'.setCell ⟨B, t * 2, none⟩ (.slice sx m cx)).setCell ⟨B, t * 2 + 1, none⟩ (.int .i64 (dc.f f).2)).drew R B cap tl _ rs := rr_setF (rr_drew HK2) t ht (.slice sx m cx) (dc.f f).2
      clear HK2
      go_region_held3 (fun W => W.cell? ⟨R, 0, none⟩ = some (.slice (some ⟨B, 0, none⟩) 8 cap) ∧ W.cell? ⟨B, f * 2, none⟩ = some (.slice sx m cx) ∧ W.cell? ⟨B, f * 2 + 1, none⟩ = some (.int .i64 (dc.f f).2)) (first | (refine ⟨?_, ?_, ?_⟩; exact (set_drew3 hBR _ _ _ _ _).trans k0; exact (set_drew4 n1 n2 _ _).trans ga; exact (set_drew4 n3 n4 _ _).trans gb) | go_keep) (fail)
      clear k0 ga gb fa fb ta tb n1 n2 n3 n4 k2
      generalize ((w'.setCell ⟨B, t * 2, none⟩ (.slice sx m cx)).setCell ⟨B, t * 2 + 1, none⟩ (.int .i64 (dc.f f).2)).drew = W2 at H3 ⊢
      have k0 := rr_h0 H3
      have fa := rr_fa H3 f hf
      have fb := rr_fb H3 f hf
      have ta := rr_a H3 f hf
      have tb := rr_b H3 f hf
      have H4 : Hid (RR w _ R B cap tl _ rs) := rr_setF H3 f hf (.slice none 0 0) 0
      clear H3
      go_wp2
      all_goals go_ret
      all_goals exact ⟨rfl, H4.out⟩
  · have e3 : cntE d = 13 := by unfold cntE; rw [hcd]; rfl
    rw [e3, if_neg (by decide)]
    rw [hcd] at hc
    clear e3 hcd hv1
    go_enter Try.func53, Try.ntmps53
    go_wp2_with fail
    refine (hr _).mono ?_
    rintro e w' ⟨rfl, rfl⟩
    go_wp2_with fail
    refine (hr2 _).mono ?_
    rintro e w' ⟨rfl, rfl⟩
    go_wp2_with (go_at_call 58; refine (hc _ HK).mono ?_; rintro e w' ⟨rfl, HK2⟩; clear HK; have HK : Hid _ := HK2; clear HK2)
    all_goals go_ret
    all_goals exact ⟨rfl, HK.out⟩
end Go.Proofs.Ytaonaifnaecpiaa.Own

namespace Go.Proofs.Ytaonaifnaecpiaa.Own
open Go.RowKit
set_option linter.unusedSimpArgs false
theorem rr_crash {w W : World} {R B cap : Nat} {tl : List Value} {rs : List (Nat × List Value)} {d : Dk} {keeps : List Int} {k : Nat} (hk : k < 8) (h : RR w W R B cap tl (crD d keeps k) rs) (v : Value) (n : Int) (hv : crF (d.f k) keeps[k]? = (v, n)) : RR w ((W.setCell ⟨B, k * 2, none⟩ v).setCell ⟨B, k * 2 + 1, none⟩ (.int .i64 n)) R B cap tl (crD d keeps (k + 1)) rs := by
  have := rr_setF h k hk v n
  rwa [crD_next d keeps k v n hv] at this
set_option maxHeartbeats 2000000 in
theorem rcrash_k (d : Dk) (R B cap : Nat) (hcap : 8 ≤ cap) (tl : List Value) (keeps : List Int) (n : Nat) (hn : Hid (keeps.length = n)) (co : Option Addr) (cp : Nat) (hf : ∀ i, i < 8 → ∃ sx m cx s, d.f i = (.slice sx m cx, ((s : Nat) : Int)) ∧ s ≤ m ∧ m ≤ cx ∧ m ≤ 1048576 ∧ (sx = none → cx = 0)) {w W : World} {rs : List (Nat × List Value)} (HK : RR w W R B cap tl d rs)
    (hkeep : ∀ (W1 : World), KR w rs W1 → ∀ j, j < n → ∃ A, co = some A ∧ W1.cell? (A.add j) = some (.int .i64 (keeps.getD j 0))) :
    Calls Try.prog 39 #[.pointer (some ⟨R, 0, none⟩), .slice co n cp] W fun e W' => e = .returned (.tuple #[]) ∧ RR w W' R B cap tl ({ crD d keeps 8 with left := 0, dead := false } : Dk) rs := by
  have hRB := rr_ne HK
  have hBR := Ne.symm hRB
  go_enter Try.func39, Try.ntmps39
  go_wp2
  go_loopw [4] (fun v4 W => ∃ k : Nat, v4 = .int .i64 k ∧ k ≤ 8 ∧ RR w W R B cap tl (crD d keeps k) rs) (fun v4 _ => 8 - (intOf v4).toNat)
  case atStart => exact ⟨0, rfl, by omega, by rw [crD_zero]; exact HK⟩
  case round =>
    clear HK
    obtain ⟨k, rfl, hk, HK⟩ := hrel
    by_cases hlt : k < 8
    · obtain ⟨sx, m, cx, s, h1, hs1, hs2, hs3, hs4⟩ := hf k hlt
      have k0 := rr_h0 HK
      have ka := rr_a HK k hlt
      have kb := rr_b HK k hlt
      have hfk : (crD d keeps k).f k = (.slice sx m cx, ((s : Nat) : Int)) := by unfold crD; simp [h1]
      rw [hfk] at ka kb
      have fa := rr_fa HK k hlt
      have fb := rr_fb HK k hlt
      have hk2 : (k : Int) < 8 := by omega
      have hkc : k < cap := by omega
      by_cases hkn : k < n
      · obtain ⟨A, hA, hx⟩ := hkeep _ (kr_tail (kr_tail HK)) k hkn
        subst hA
        obtain ⟨x, hxe⟩ : ∃ x, keeps.getD k 0 = x := ⟨_, rfl⟩
        rw [hxe] at hx
        have hv : ∀ n' : Nat, n' = crN s m (some x) → crF (d.f k) keeps[k]? = (.slice sx n' n', ((n' : Nat) : Int)) := by
          intro n' h
          have hkl : k < keeps.length := by have := hn.out; omega
          rw [h1, List.getElem?_eq_getElem hkl]
          have : keeps[k] = x := by rw [← hxe, List.getD_eq_getElem?_getD, List.getElem?_eq_getElem hkl]; rfl
          rw [this, h]
          simp [crF]
        have HH : Hid (RR w wr R B cap tl (crD d keeps k) rs) := HK
        have HV : Hid (∀ n' : Nat, n' = crN s m (some x) → crF (d.f k) keeps[k]? = (.slice sx n' n', ((n' : Nat) : Int))) := hv
        clear HK hkeep hf hfk h1 hv hxe
        by_cases hx0 : 0 < x
        · by_cases hx1 : (m : Int) - (s : Int) < x
          · go_wp2_with fail
            obtain ⟨n', hn'⟩ : ∃ n' : Nat, n' = m := ⟨_, rfl⟩
            rw [show ((s : Int) + ((m : Int) - (s : Int))) = ((n' : Nat) : Int) from by omega]
            have HL : Hid (n' ≤ m ∧ crF (d.f k) keeps[k]? = (.slice sx n' n', ((n' : Nat) : Int))) := ⟨by omega, HV.out n' (by unfold crN; dsimp only; omega)⟩
            clear hn' hx0 hx1 HV
            have hle1 : n' ≤ m := HL.out.1
            have hle2 : (n' : Int) ≤ (m : Int) := by omega
            have hle3 : n' ≤ cx := by omega
            have hle4 : (n' : Int) ≤ (cx : Int) := by omega
            have hvn := HL.out.2
            clear HL
            have HX := kr_new HH.out [.slice sx m cx, .int .i64 (s : Int)] 95
            obtain ⟨X, hXX⟩ : ∃ X, wr.heap.size = X := ⟨_, rfl⟩
            rw [hXX] at HX ⊢
            generalize wr.alloc (.cells #[.slice sx m cx, .int .i64 (s : Int)] 95) = w2 at HX ⊢
            clear hXX k0 ka kb fa fb
            have hBX : B ≠ X := fun e => (List.pairwise_cons.1 HX.apart).1 (B, rF (crD d keeps k) tl) (List.mem_cons_of_mem _ List.mem_cons_self) e.symm
            have kx0 := kr_cell HX 0 rfl 0 _ rfl
            have HR : RR w w2 R B cap tl (crD d keeps k) rs := kr_tail HX
            have k0 := rr_h0 HR
            have ka := rr_a HR k hlt
            have kb := rr_b HR k hlt
            have fa := rr_fa HR k hlt
            have fb := rr_fb HR k hlt
            have HN : Hid (RR w _ R B cap tl (crD d keeps (k + 1)) rs) := rr_crash hlt (rr_drew HR) (.slice sx n' n') (n' : Int) hvn
            clear HX HR HH hvn
            go_region_held3 (fun W => W.cell? ⟨R, 0, none⟩ = some (.slice (some ⟨B, 0, none⟩) 8 cap) ∧ W.cell? ⟨X, 0, none⟩ = some (.slice sx m cx)) (go_keep) (fail)
            clear k0 ka kb fa fb kx0
            go_wp2_with fail
            go_round
            case rel => exact ⟨k + 1, by simp, by omega, HN.out⟩
            case measure => (simp [intOf]; try omega)
          · go_wp2_with fail
            obtain ⟨n', hn'⟩ : ∃ n' : Nat, (n' : Int) = (s : Int) + x := ⟨((s : Int) + x).toNat, by omega⟩
            rw [← hn']
            have HL : Hid (n' ≤ m ∧ crF (d.f k) keeps[k]? = (.slice sx n' n', ((n' : Nat) : Int))) := ⟨by omega, HV.out n' (by unfold crN; dsimp only; omega)⟩
            clear hn' hx0 hx1 HV
            have hle1 : n' ≤ m := HL.out.1
            have hle2 : (n' : Int) ≤ (m : Int) := by omega
            have hle3 : n' ≤ cx := by omega
            have hle4 : (n' : Int) ≤ (cx : Int) := by omega
            have hvn := HL.out.2
            clear HL
            have HX := kr_new HH.out [.slice sx m cx, .int .i64 (s : Int)] 95
            obtain ⟨X, hXX⟩ : ∃ X, wr.heap.size = X := ⟨_, rfl⟩
            rw [hXX] at HX ⊢
            generalize wr.alloc (.cells #[.slice sx m cx, .int .i64 (s : Int)] 95) = w2 at HX ⊢
            clear hXX k0 ka kb fa fb
            have hBX : B ≠ X := fun e => (List.pairwise_cons.1 HX.apart).1 (B, rF (crD d keeps k) tl) (List.mem_cons_of_mem _ List.mem_cons_self) e.symm
            have kx0 := kr_cell HX 0 rfl 0 _ rfl
            have HR : RR w w2 R B cap tl (crD d keeps k) rs := kr_tail HX
            have k0 := rr_h0 HR
            have ka := rr_a HR k hlt
            have kb := rr_b HR k hlt
            have fa := rr_fa HR k hlt
            have fb := rr_fb HR k hlt
            have HN : Hid (RR w _ R B cap tl (crD d keeps (k + 1)) rs) := rr_crash hlt (rr_drew HR) (.slice sx n' n') (n' : Int) hvn
            clear HX HR HH hvn
            go_region_held3 (fun W => W.cell? ⟨R, 0, none⟩ = some (.slice (some ⟨B, 0, none⟩) 8 cap) ∧ W.cell? ⟨X, 0, none⟩ = some (.slice sx m cx)) (go_keep) (fail)
            clear k0 ka kb fa fb kx0
            go_wp2_with fail
            go_round
            case rel => exact ⟨k + 1, by simp, by omega, HN.out⟩
            case measure => (simp [intOf]; try omega)
        · go_wp2_with fail
          obtain ⟨n', hn'⟩ : ∃ n' : Nat, n' = s := ⟨_, rfl⟩
          have HL : Hid (n' ≤ m ∧ crF (d.f k) keeps[k]? = (.slice sx n' n', ((n' : Nat) : Int))) := ⟨by omega, HV.out n' (by unfold crN; dsimp only; omega)⟩
          subst hn'
          clear hx0 HV
          have hle1 : n' ≤ m := HL.out.1
          have hle2 : (n' : Int) ≤ (m : Int) := by omega
          have hle3 : n' ≤ cx := by omega
          have hle4 : (n' : Int) ≤ (cx : Int) := by omega
          have hvn := HL.out.2
          clear HL
          have HX := kr_new HH.out [.slice sx m cx, .int .i64 (n' : Int)] 95
          obtain ⟨X, hXX⟩ : ∃ X, wr.heap.size = X := ⟨_, rfl⟩
          rw [hXX] at HX ⊢
          generalize wr.alloc (.cells #[.slice sx m cx, .int .i64 (n' : Int)] 95) = w2 at HX ⊢
          clear hXX k0 ka kb fa fb
          have hBX : B ≠ X := fun e => (List.pairwise_cons.1 HX.apart).1 (B, rF (crD d keeps k) tl) (List.mem_cons_of_mem _ List.mem_cons_self) e.symm
          have kx0 := kr_cell HX 0 rfl 0 _ rfl
          have HR : RR w w2 R B cap tl (crD d keeps k) rs := kr_tail HX
          have k0 := rr_h0 HR
          have ka := rr_a HR k hlt
          have kb := rr_b HR k hlt
          have fa := rr_fa HR k hlt
          have fb := rr_fb HR k hlt
          have HN : Hid (RR w _ R B cap tl (crD d keeps (k + 1)) rs) := rr_crash hlt (rr_drew HR) (.slice sx n' n') (n' : Int) hvn
          clear HX HR HH hvn
          go_region_held3 (fun W => W.cell? ⟨R, 0, none⟩ = some (.slice (some ⟨B, 0, none⟩) 8 cap) ∧ W.cell? ⟨X, 0, none⟩ = some (.slice sx m cx)) (go_keep) (fail)
          clear k0 ka kb fa fb kx0
          go_wp2_with fail
          go_round
          case rel => exact ⟨k + 1, by simp, by omega, HN.out⟩
          case measure => (simp [intOf]; try omega)
      · have hv : crF (d.f k) keeps[k]? = (.slice sx s s, ((s : Nat) : Int)) := by
          rw [h1, List.getElem?_eq_none (by have := hn.out; omega)]
          simp [crF, crN]
        have HH : Hid (RR w wr R B cap tl (crD d keeps k) rs) := HK
        have HL0 : Hid (s ≤ m ∧ crF (d.f k) keeps[k]? = (.slice sx s s, ((s : Nat) : Int))) := ⟨hs1, hv⟩
        clear HK hkeep hf hfk h1 hv
        go_wp2_with fail
        obtain ⟨n', hn'⟩ : ∃ n' : Nat, n' = s := ⟨_, rfl⟩
        subst hn'
        have HL := HL0
        clear HL0
        have hle1 : n' ≤ m := HL.out.1
        have hle2 : (n' : Int) ≤ (m : Int) := by omega
        have hle3 : n' ≤ cx := by omega
        have hle4 : (n' : Int) ≤ (cx : Int) := by omega
        have hvn := HL.out.2
        clear HL
        have HX := kr_new HH.out [.slice sx m cx, .int .i64 (n' : Int)] 95
        obtain ⟨X, hXX⟩ : ∃ X, wr.heap.size = X := ⟨_, rfl⟩
        rw [hXX] at HX ⊢
        generalize wr.alloc (.cells #[.slice sx m cx, .int .i64 (n' : Int)] 95) = w2 at HX ⊢
        clear hXX k0 ka kb fa fb
        have hBX : B ≠ X := fun e => (List.pairwise_cons.1 HX.apart).1 (B, rF (crD d keeps k) tl) (List.mem_cons_of_mem _ List.mem_cons_self) e.symm
        have kx0 := kr_cell HX 0 rfl 0 _ rfl
        have HR : RR w w2 R B cap tl (crD d keeps k) rs := kr_tail HX
        have k0 := rr_h0 HR
        have ka := rr_a HR k hlt
        have kb := rr_b HR k hlt
        have fa := rr_fa HR k hlt
        have fb := rr_fb HR k hlt
        have HN : Hid (RR w _ R B cap tl (crD d keeps (k + 1)) rs) := rr_crash hlt (rr_drew HR) (.slice sx n' n') (n' : Int) hvn
        clear HX HR HH hvn
        go_region_held3 (fun W => W.cell? ⟨R, 0, none⟩ = some (.slice (some ⟨B, 0, none⟩) 8 cap) ∧ W.cell? ⟨X, 0, none⟩ = some (.slice sx m cx)) (go_keep) (fail)
        clear k0 ka kb fa fb kx0
        go_wp2_with fail
        go_round
        case rel => exact ⟨k + 1, by simp, by omega, HN.out⟩
        case measure => (simp [intOf]; try omega)
    · obtain rfl : k = 8 := by omega
      clear hkeep hf
      have k0 := rr_h0 HK
      have kl := rr_h1 HK
      have kd := rr_h2 HK
      have fl := rr_f1 HK
      have fd := rr_f2 HK
      have H2 : Hid (RR w _ R B cap tl _ rs) := rr_setD (rr_setL HK 0) false
      clear HK
      go_wp2_with fail
      all_goals exact bodyPost_end (results_none rfl _ _ _) rfl ⟨rfl, H2.out⟩
end Go.Proofs.Ytaonaifnaecpiaa.Own

namespace Go.Proofs.Ytaonaifnaecpiaa.Own
open Go.RowKit
set_option linter.unusedSimpArgs false
theorem dg_sync {w W : World} {D : Nat} {p : PD} {d : Dk} {rs gs : List (Nat × List Value)} (HK : KR w ((D, d.l) :: rs) W) (hV : VW gs d p) (f : Int) :
    Calls Try.prog 48 #[.pointer (some ⟨D, 0, none⟩), .int .i64 f] W fun e W' => e = .returned (.int .i64 (pchE p [f])) ∧ ∃ d', KR w ((D, d'.l) :: rs) W' ∧ VW gs d' (psyncD p f) := by
  refine (sync_k d D f (vw_files hV) (vw_hl hV) HK).mono ?_
  rintro e w' ⟨rfl, H⟩
  refine ⟨by rw [vw_chE hV], _, H, vw_chD hV _ (fun hm => ?_)⟩
  obtain ⟨hk, hft, hd⟩ := pmay_in hm
  obtain ⟨hF, hs1, hs2, hs3⟩ := hV.file f.toNat hk
  obtain ⟨sx, cx, h1, _⟩ := fc_slice hF
  rw [h1]
  rw [h1] at hF
  have := vw_put (vw_cnt hV) f.toNat (d.f f.toNat).1 ((p.f f.toNat).1.length : Nat) ((p.f f.toNat).1, (p.f f.toNat).1.length) (by rw [h1]; exact hF) rfl (Nat.le_refl _) hs3
  have e2 : putF (cnt d) f.toNat (d.f f.toNat).1 ((p.f f.toNat).1.length : Nat) = putS (cnt d) f.toNat ((p.f f.toNat).1.length : Nat) := by unfold putF putS; rw [cnt_f]
  rw [e2] at this
  exact this
theorem dg_clear {w W : World} {D : Nat} {p : PD} {d : Dk} {rs gs : List (Nat × List Value)} (HK : KR w ((D, d.l) :: rs) W) (hV : VW gs d p) (f : Int) :
    Calls Try.prog 49 #[.pointer (some ⟨D, 0, none⟩), .int .i64 f] W fun e W' => e = .returned (.int .i64 (pchE p [f])) ∧ ∃ d', KR w ((D, d'.l) :: rs) W' ∧ VW gs d' (pclrD p f) := by
  refine (clear_k d D f (vw_hl hV) HK).mono ?_
  rintro e w' ⟨rfl, H⟩
  exact ⟨by rw [vw_chE hV], _, H, vw_chD hV _ (fun hm => vw_put (vw_cnt hV) _ _ _ ([], 0) (.inl ⟨rfl, rfl⟩) rfl (by simp) (by simp))⟩
theorem dg_rename {w W : World} {D : Nat} {p : PD} {d : Dk} {rs gs : List (Nat × List Value)} (HK : KR w ((D, d.l) :: rs) W) (hV : VW gs d p) (f t : Int) :
    Calls Try.prog 65 #[.pointer (some ⟨D, 0, none⟩), .int .i64 f, .int .i64 t] W fun e W' => e = .returned (.int .i64 (pchE p [f, t])) ∧ ∃ d', KR w ((D, d'.l) :: rs) W' ∧ VW gs d' (prenD p f t) := by
  refine (rename_k d D f t (vw_files hV) (vw_hl hV) HK).mono ?_
  rintro e w' ⟨rfl, H⟩
  refine ⟨by rw [vw_chE hV], _, H, vw_chD hV _ (fun hm => ?_)⟩
  obtain ⟨hF, hs1, hs2, hs3⟩ := hV.file f.toNat (pmay_in2 hm).1
  exact vw_put (vw_put (vw_cnt hV) _ _ _ ([], 0) (.inl ⟨rfl, rfl⟩) rfl (by simp) (by simp)) _ _ _ _ hF hs1 hs2 hs3
theorem dg_fail {w W : World} {D : Nat} {p : PD} {d : Dk} {rs gs : List (Nat × List Value)} (HK : KR w ((D, d.l) :: rs) W) (hV : VW gs d p) (n : Int) (hn : n ≤ 9223372036854775807) :
    Calls Try.prog 27 #[.pointer (some ⟨D, 0, none⟩), .int .i64 n] W fun e W' => e = .returned (.tuple #[]) ∧ ∃ d', KR w ((D, d'.l) :: rs) W' ∧ VW gs d' (pfail p n) := by
  refine (fail_k d D n HK).mono ?_
  rintro e w' ⟨rfl, H⟩
  refine ⟨rfl, _, H, rfl, hV.dead, ?_, ?_, hV.file⟩
  · show 0 ≤ maxZ n
    by_cases h0 : n < 0
    · rw [maxZ_neg h0]; omega
    · rw [maxZ_pos h0]; omega
  · show maxZ n ≤ _
    by_cases h0 : n < 0
    · rw [maxZ_neg h0]; omega
    · rw [maxZ_pos h0]; omega
theorem dg_crash {w W : World} {D : Nat} {p : PD} {d : Dk} {rs gs : List (Nat × List Value)} (HK : KR w ((D, d.l) :: rs) W) (hV : VW gs d p) (keeps : List Int) (n : Nat) (hn : keeps.length = n) (co : Option Addr) (cap : Nat)
    (hkeep : ∀ (d' : Dk) (W1 : World), KR w ((D, d'.l) :: rs) W1 → ∀ j, j < n → ∃ A, co = some A ∧ W1.cell? (A.add j) = some (.int .i64 (keeps.getD j 0))) :
    Calls Try.prog 28 #[.pointer (some ⟨D, 0, none⟩), .slice co n cap] W fun e W' => e = .returned (.tuple #[]) ∧ ∃ d', KR w ((D, d'.l) :: rs) W' ∧ VW gs d' (pcrash p keeps) := by
  have hfile : ∀ i, i < 8 → ∃ sx cx, d.f i = (.slice sx (p.f i).1.length cx, (((p.f i).2 : Nat) : Int)) ∧ (p.f i).2 ≤ (p.f i).1.length ∧ (p.f i).1.length ≤ cx ∧ (p.f i).1.length ≤ 1048576 ∧ (sx = none → cx = 0) ∧ FC gs (.slice sx (p.f i).1.length cx) (p.f i).1 := fun i hi => by
    obtain ⟨hF, hs1, hs2, hs3⟩ := hV.file i hi
    obtain ⟨sx, cx, h1, h2, h3⟩ := fc_slice hF
    rw [h1] at hF
    exact ⟨sx, cx, Prod.ext h1 hs1, hs2, h2, hs3, h3, hF⟩
  refine (crash_k d D keeps n hn co cap (fun i hi => by
    obtain ⟨sx, cx, h1, h2, h3, h4, h5, _⟩ := hfile i hi
    exact ⟨sx, _, cx, _, h1, h2, h3, h4, h5⟩) HK hkeep).mono ?_
  rintro e w' ⟨rfl, H⟩
  refine ⟨rfl, _, H, rfl, rfl, by show (0 : Int) ≤ 0; omega, by show (0 : Int) ≤ _; omega, fun i hi => ?_⟩
  obtain ⟨sx, cx, h1, h2, h3, h4, h5, hF⟩ := hfile i hi
  have hle := crN_le (p.f i).2 (p.f i).1.length keeps[i]? h2
  have hf : (crD d keeps 8).f i = (.slice sx (crN (p.f i).2 (p.f i).1.length keeps[i]?) (crN (p.f i).2 (p.f i).1.length keeps[i]?), ((crN (p.f i).2 (p.f i).1.length keeps[i]? : Nat) : Int)) := by
    unfold crD
    dsimp only
    rw [if_pos hi, h1]
    simp [crF]
  show FC gs ((crD d keeps 8).f i).1 (pcrF (p.f i) keeps[i]?).1 ∧ ((crD d keeps 8).f i).2 = ((pcrF (p.f i) keeps[i]?).2 : Nat) ∧ (pcrF (p.f i) keeps[i]?).2 ≤ (pcrF (p.f i) keeps[i]?).1.length ∧ (pcrF (p.f i) keeps[i]?).1.length ≤ 1048576
  rw [hf]
  unfold pcrF
  refine ⟨fc_cut hF _ hle, rfl, ?_, ?_⟩
  · show _ ≤ (List.take _ _).length
    rw [List.length_take]; omega
  · show (List.take _ _).length ≤ _
    rw [List.length_take]; omega
theorem dg_append {w W : World} {D : Nat} {p : PD} {d : Dk} {rs gs : List (Nat × List Value)} (HK : KR w ((D, d.l) :: rs) W) (hV : VW gs d p) (hs : ∀ x ∈ gs, x ∈ rs) (f : Int) (ys : List Int) (n : Nat) (hn : ys.length = n) (sp : Option Addr) (cap : Nat) (hS : Src W sp ys) :
    Calls Try.prog 37 #[.pointer (some ⟨D, 0, none⟩), .int .i64 f, .slice sp n cap] W fun e W' => e = .returned (.int .i64 (pappE p f ys)) ∧ ∃ l d', KR w ((D, d'.l) :: (l ++ rs)) W' ∧ VW (l ++ gs) d' (pappD p f ys) := by
  subst hn
  unfold pappE pappD
  by_cases hm : pmay p [f] = 0
  · rw [if_pos hm, if_pos hm]
    obtain ⟨hk, hft, hd⟩ := pmay_in hm
    generalize hfk : f.toNat = k at hk hft ⊢
    subst hft
    obtain ⟨hF, hs1, hs2, hs3⟩ := hV.file k hk
    by_cases hfull : 1048576 < ys.length + (p.f k).1.length
    · rw [if_pos hfull, if_pos hfull]
      obtain ⟨sx, cx, h1, _⟩ := fc_slice hF
      refine (append_full d D k hk (p.f k).1.length ys.length hfull hs3 (by rw [hV.dead]; exact hd) HK sp cap sx cx h1).mono ?_
      rintro e w' ⟨rfl, H⟩
      exact ⟨rfl, [], d, H, hV⟩
    · rw [if_neg hfull, if_neg hfull]
      refine (append_ok d D k hk (p.f k).1 ys (by omega) (vw_hl hV) (by rw [hV.dead]; exact hd) HK (fc_mono hF hs) sp cap hS).mono ?_
      rintro e w' ⟨g, rfl, H⟩
      have hg : VW ((g, bc ((p.f k).1 ++ ys)) :: gs) (putA d k (.slice (some ⟨g, 0, none⟩) ((p.f k).1.length + ys.length) ((p.f k).1.length + ys.length))) (pgrow p k ys) := by
        have := vw_put (vw_mono hV (fun x hx => List.mem_cons_of_mem (g, bc ((p.f k).1 ++ ys)) hx)) k (.slice (some ⟨g, 0, none⟩) ((p.f k).1.length + ys.length) ((p.f k).1.length + ys.length)) (d.f k).2 ((p.f k).1 ++ ys, (p.f k).2)
          (.inr ⟨g, _, _, by rw [List.length_append], List.mem_cons_self, by rw [List.length_append]; omega, by rw [bc_len, List.length_append]; omega, by rw [← bc_len, List.take_length]⟩) hs1 (by rw [List.length_append]; omega) (by rw [List.length_append]; omega)
        exact this
      refine ⟨?_, [(g, bc ((p.f k).1 ++ ys))], _, H, vw_cnt hg⟩
      rw [vw_cntE hg, pcntE_grow]
  · rw [if_neg hm, if_neg hm]
    refine (append_no d D f (pmay p [f]) (vw_may hV _) hm HK _).mono ?_
    rintro e w' ⟨rfl, H⟩
    exact ⟨rfl, [], d, H, hV⟩
theorem dg_read {w W : World} {D : Nat} {p : PD} {d : Dk} {rs gs : List (Nat × List Value)} (HK : KR w ((D, d.l) :: rs) W) (hV : VW gs d p) (hs : ∀ x ∈ gs, x ∈ rs) (f : Int) :
    Calls Try.prog 45 #[.pointer (some ⟨D, 0, none⟩), .int .i64 f] W fun e W' => ∃ v l, e = .returned (.tuple #[v, .int .i64 (preadE f)]) ∧ FC l v (pread p f) ∧ KR w ((D, d.l) :: (l ++ rs)) W' := by
  unfold preadE pread
  by_cases ho : f < 0 ∨ 8 ≤ f
  · rw [if_pos ho, if_pos ho]
    refine (read_out d D f ho HK).mono ?_
    rintro e w' ⟨rfl, H⟩
    exact ⟨_, [], rfl, .inl ⟨rfl, rfl⟩, H⟩
  · rw [if_neg ho, if_neg ho]
    obtain ⟨k, rfl⟩ : ∃ k : Nat, f = k := ⟨f.toNat, by omega⟩
    have hk : k < 8 := by omega
    rw [Int.toNat_natCast]
    obtain ⟨hF, hs1, hs2, hs3⟩ := hV.file k hk
    refine (read_k d D k hk (p.f k).1 (by omega) HK (fc_mono hF hs)).mono ?_
    rintro e w' ⟨g, rfl, H⟩
    exact ⟨_, [(g, bc (p.f k).1)], rfl, .inr ⟨g, _, _, rfl, List.mem_cons_self, Nat.le_refl _, by rw [bc_len]; omega, by rw [← bc_len, List.take_length]⟩, kr_swap H⟩
theorem dg_safe {w W : World} {D : Nat} {p : PD} {d : Dk} {rs gs : List (Nat × List Value)} (HK : KR w ((D, d.l) :: rs) W) (hV : VW gs d p) (f : Int) :
    Calls Try.prog 59 #[.pointer (some ⟨D, 0, none⟩), .int .i64 f] W fun e W' => e = .returned (.int .i64 (psafe p f)) ∧ W = W' := by
  unfold psafe
  by_cases ho : f < 0 ∨ 8 ≤ f
  · rw [if_pos ho]
    exact safe_out D f ho W
  · rw [if_neg ho]
    obtain ⟨k, rfl⟩ : ∃ k : Nat, f = k := ⟨f.toNat, by omega⟩
    have hk : k < 8 := by omega
    rw [Int.toNat_natCast, ← (hV.file k hk).2.1]
    exact safe_k d D k hk HK
theorem dg_dead {w W : World} {D : Nat} {p : PD} {d : Dk} {rs gs : List (Nat × List Value)} (HK : KR w ((D, d.l) :: rs) W) (hV : VW gs d p) :
    Calls Try.prog 61 #[.pointer (some ⟨D, 0, none⟩)] W fun e W' => e = .returned (.bool p.dead) ∧ W = W' := by
  rw [← hV.dead]
  exact dead_k d D HK
end Go.Proofs.Ytaonaifnaecpiaa.Own

namespace Go.Proofs.Ytaonaifnaecpiaa.Own
open Go.RowKit
set_option linter.unusedSimpArgs false
theorem vw_ext {gs : List (Nat × List Value)} {d : Dk} {p q : PD} (h : VW gs d p) (h1 : ∀ j, p.f j = q.f j) (h2 : p.left = q.left) (h3 : p.dead = q.dead) : VW gs d q :=
  ⟨h2 ▸ h.left, h3 ▸ h.dead, h2 ▸ h.lo, h2 ▸ h.hi, fun i hi => by rw [← h1]; exact h.file i hi⟩
theorem pcnt_f (p : PD) : (pcnt p).f = p.f := by unfold pcnt; split <;> rfl
theorem pcnt_put (p : PD) (k : Nat) (x : List Int × Nat) : pcnt (p.put k x) = (pcnt p).put k x := by
  unfold pcnt PD.put
  dsimp only
  split <;> rfl
theorem rg_new {w W : World} {rs : List (Nat × List Value)} (HK : KR w rs W) : Calls Try.prog 31 #[] W fun e W' => ∃ R B, e = .returned (.pointer (some ⟨R, 0, none⟩)) ∧ RR w W' R B 8 [] dk0 rs := rnew_k HK
theorem vw_new (gs : List (Nat × List Value)) : VW gs dk0 pnew := ⟨rfl, rfl, by decide, by decide, fun i _ => ⟨.inl ⟨rfl, rfl⟩, rfl, Nat.le_refl 0, Nat.zero_le _⟩⟩
theorem rg_append {w W : World} {R B cap : Nat} (hcap : 8 ≤ cap) {tl : List Value} {p : PD} {d : Dk} {rs gs : List (Nat × List Value)} (HK : RR w W R B cap tl d rs) (hV : VW gs d p) (hs : ∀ x ∈ gs, x ∈ rs) (f : Int) (ys : List Int) (n : Nat) (hn : ys.length = n) (sp : Option Addr) (cp : Nat) (hS : ∀ W1, KR w rs W1 → Src W1 sp ys) :
    Calls Try.prog 38 #[.pointer (some ⟨R, 0, none⟩), .int .i64 f, .slice sp n cp] W fun e W' => e = .returned (.int .i64 (pappE p f ys)) ∧ ∃ l d', RR w W' R B cap tl d' (l ++ rs) ∧ VW (l ++ gs) d' (pappD p f ys) := by
  subst hn
  unfold pappE pappD
  by_cases hm : pmay p [f] = 0
  · rw [if_pos hm, if_pos hm]
    obtain ⟨hk, hft, hd⟩ := pmay_in hm
    generalize hfk : f.toNat = k at hk hft ⊢
    subst hft
    obtain ⟨hF, hs1, hs2, hs3⟩ := hV.file k hk
    obtain ⟨sx, cx, h1, h2⟩ := fc_src (fc_mono hF hs)
    by_cases hfull : 1048576 < ys.length + (p.f k).1.length
    · rw [if_pos hfull, if_pos hfull]
      refine (rappend_full d R B cap hcap tl k hk (p.f k).1.length ys.length hfull hs3 (by rw [hV.dead]; exact hd) HK sp cp sx cx h1).mono ?_
      rintro e w' ⟨rfl, rfl⟩
      exact ⟨rfl, [], d, HK, hV⟩
    · rw [if_neg hfull, if_neg hfull]
      refine (rappend_ok d R B cap hcap tl k hk (p.f k).1 ys _ _ rfl rfl (by omega) (vw_hl hV) (by rw [hV.dead]; exact hd) HK sp cp sx cx h1 hS (fun W1 H => h2 w W1 H)).mono ?_
      rintro e w' ⟨rfl, l, v, hl, H⟩
      refine ⟨by rw [vw_cntE hV], l, _, H, ?_⟩
      have := vw_put (vw_cnt (vw_mono hV (fs' := l ++ gs) (fun x hx => List.mem_append_right _ hx))) k v (d.f k).2 ((p.f k).1 ++ ys, (p.f k).2) (fc_mono hl (fun x hx => List.mem_append_left _ hx)) hs1 (by rw [List.length_append]; omega) (by rw [List.length_append]; omega)
      unfold pgrow
      rw [pcnt_put]
      exact this
  · rw [if_neg hm, if_neg hm]
    refine (rappend_no d R B cap tl f (pmay p [f]) (vw_may hV _) hm _ HK).mono ?_
    rintro e w' ⟨rfl, rfl⟩
    exact ⟨rfl, [], d, HK, hV⟩
theorem rg_sync {w W : World} {R B cap : Nat} (hcap : 8 ≤ cap) {tl : List Value} {p : PD} {d : Dk} {rs gs : List (Nat × List Value)} (HK : RR w W R B cap tl d rs) (hV : VW gs d p) (f : Int) :
    Calls Try.prog 52 #[.pointer (some ⟨R, 0, none⟩), .int .i64 f] W fun e W' => e = .returned (.int .i64 (pchE p [f])) ∧ ∃ d', RR w W' R B cap tl d' rs ∧ VW gs d' (psyncD p f) := by
  refine (rsync_k d R B cap hcap tl f (vw_hl hV) (vw_files hV) HK).mono ?_
  rintro e w' ⟨rfl, H⟩
  refine ⟨by rw [vw_chE hV], _, H, vw_chD hV _ (fun hm => ?_)⟩
  obtain ⟨hk, hft, hd⟩ := pmay_in hm
  obtain ⟨hF, hs1, hs2, hs3⟩ := hV.file f.toNat hk
  obtain ⟨sx, cx, h1, _⟩ := fc_slice hF
  rw [cnt_f, h1]
  rw [h1] at hF
  exact vw_put (vw_cnt hV) f.toNat _ ((p.f f.toNat).1.length : Nat) ((p.f f.toNat).1, (p.f f.toNat).1.length) hF rfl (Nat.le_refl _) hs3
theorem rg_clear {w W : World} {R B cap : Nat} (hcap : 8 ≤ cap) {tl : List Value} {p : PD} {d : Dk} {rs gs : List (Nat × List Value)} (HK : RR w W R B cap tl d rs) (hV : VW gs d p) (f : Int) :
    Calls Try.prog 51 #[.pointer (some ⟨R, 0, none⟩), .int .i64 f] W fun e W' => e = .returned (.int .i64 (pchE p [f])) ∧ ∃ d', RR w W' R B cap tl d' rs ∧ VW gs d' (pclrD p f) := by
  refine (rclear_k d R B cap hcap tl f (vw_hl hV) HK).mono ?_
  rintro e w' ⟨rfl, H⟩
  exact ⟨by rw [vw_chE hV], _, H, vw_chD hV _ (fun hm => vw_put (vw_cnt hV) _ _ _ ([], 0) (.inl ⟨rfl, rfl⟩) rfl (by simp) (by simp))⟩
theorem pmay_in3 {p : PD} {f t : Int} (h : pmay p [f, t] = 0) : f.toNat < 8 ∧ t.toNat < 8 ∧ ((f.toNat : Nat) : Int) = f ∧ ((t.toNat : Nat) : Int) = t ∧ p.dead = false := by
  unfold pmay at h
  split at h
  · cases h
  · rename_i h1
    simp at h1
    split at h
    · cases h
    · rename_i h2
      exact ⟨by omega, by omega, by omega, by omega, by simpa using h2⟩
theorem rg_rename {w W : World} {R B cap : Nat} (hcap : 8 ≤ cap) {tl : List Value} {p : PD} {d : Dk} {rs gs : List (Nat × List Value)} (HK : RR w W R B cap tl d rs) (hV : VW gs d p) (f t : Int) :
    Calls Try.prog 53 #[.pointer (some ⟨R, 0, none⟩), .int .i64 f, .int .i64 t] W fun e W' => e = .returned (.int .i64 (pchE p [f, t])) ∧ ∃ d', RR w W' R B cap tl d' rs ∧ VW gs d' (prenD p f t) := by
  by_cases hm : pmay p [f, t] = 0
  · have e1 : pchE p [f, t] = pcntE p := by unfold pchE; rw [if_pos hm]
    have e2 : ∀ q, pchD p [f, t] q = if pcntE p = 0 then q else pcnt p := fun q => by unfold pchD; rw [if_pos hm]
    unfold prenD
    rw [e1, e2]
    obtain ⟨hf, ht, hff, htt, hd⟩ := pmay_in3 hm
    clear e1 e2 hm
    generalize f.toNat = a at *
    generalize t.toNat = b at *
    subst hff htt
    obtain ⟨hF, hs1, hs2, hs3⟩ := hV.file a hf
    obtain ⟨sx, cx, h1, _⟩ := fc_slice hF
    refine (rrename_ok d R B cap hcap tl a b hf ht (vw_hl hV) (by rw [hV.dead]; exact hd) ⟨_, _, _, h1⟩ HK).mono ?_
    rintro e w' ⟨rfl, H⟩
    refine ⟨by rw [vw_cntE hV], _, H, ?_⟩
    rw [vw_cntE hV]
    split
    · unfold rren
      split
      · rename_i hab
        subst hab
        refine vw_ext (vw_cnt hV) (fun j => ?_) rfl rfl
        rw [pcnt_f]
        unfold PD.put
        dsimp only
        rw [pcnt_f]
        by_cases e : j = a
        · rw [if_pos e, e]
        · rw [if_neg e, if_neg e]
      · rename_i hab
        rw [cnt_f]
        have := vw_put (vw_put (vw_cnt hV) b _ _ (p.f a) hF hs1 hs2 hs3) a (.slice none 0 0) 0 ([], 0) (.inl ⟨rfl, rfl⟩) rfl (by simp) (by simp)
        refine vw_ext this (fun j => ?_) rfl rfl
        unfold PD.put
        dsimp only
        by_cases e : j = a
        · rw [if_pos e, e, if_neg hab, if_pos rfl]
        · rw [if_neg e, if_neg e]
    · exact vw_cnt hV
  · have e1 : pchE p [f, t] = pmay p [f, t] := by unfold pchE; rw [if_neg hm]
    have e2 : ∀ q, pchD p [f, t] q = p := fun q => by unfold pchD; rw [if_neg hm]
    unfold prenD
    rw [e1, e2]
    refine (rrename_no d R B cap tl f t (pmay p [f, t]) (vw_may hV _) hm HK).mono ?_
    rintro e w' ⟨rfl, rfl⟩
    exact ⟨rfl, d, HK, hV⟩
theorem rg_fail {w W : World} {R B cap : Nat} {tl : List Value} {p : PD} {d : Dk} {rs gs : List (Nat × List Value)} (HK : RR w W R B cap tl d rs) (hV : VW gs d p) (n : Int) (hn : n ≤ 9223372036854775807) :
    Calls Try.prog 36 #[.pointer (some ⟨R, 0, none⟩), .int .i64 n] W fun e W' => e = .returned (.tuple #[]) ∧ ∃ d', RR w W' R B cap tl d' rs ∧ VW gs d' (pfail p n) := by
  refine (rfail_k d R B cap tl n HK).mono ?_
  rintro e w' ⟨rfl, H⟩
  refine ⟨rfl, _, H, rfl, hV.dead, ?_, ?_, hV.file⟩
  · show 0 ≤ maxZ n
    by_cases h0 : n < 0
    · rw [maxZ_neg h0]; omega
    · rw [maxZ_pos h0]; omega
  · show maxZ n ≤ _
    by_cases h0 : n < 0
    · rw [maxZ_neg h0]; omega
    · rw [maxZ_pos h0]; omega
theorem rg_crash {w W : World} {R B cap : Nat} (hcap : 8 ≤ cap) {tl : List Value} {p : PD} {d : Dk} {rs gs : List (Nat × List Value)} (HK : RR w W R B cap tl d rs) (hV : VW gs d p) (keeps : List Int) (n : Nat) (hn : keeps.length = n) (co : Option Addr) (cp : Nat)
    (hkeep : ∀ (W1 : World), KR w rs W1 → ∀ j, j < n → ∃ A, co = some A ∧ W1.cell? (A.add j) = some (.int .i64 (keeps.getD j 0))) :
    Calls Try.prog 39 #[.pointer (some ⟨R, 0, none⟩), .slice co n cp] W fun e W' => e = .returned (.tuple #[]) ∧ ∃ d', RR w W' R B cap tl d' rs ∧ VW gs d' (pcrash p keeps) := by
  have hfile : ∀ i, i < 8 → ∃ sx cx, d.f i = (.slice sx (p.f i).1.length cx, (((p.f i).2 : Nat) : Int)) ∧ (p.f i).2 ≤ (p.f i).1.length ∧ (p.f i).1.length ≤ cx ∧ (p.f i).1.length ≤ 1048576 ∧ (sx = none → cx = 0) ∧ FC gs (.slice sx (p.f i).1.length cx) (p.f i).1 := fun i hi => by
    obtain ⟨hF, hs1, hs2, hs3⟩ := hV.file i hi
    obtain ⟨sx, cx, h1, h2, h3⟩ := fc_slice hF
    rw [h1] at hF
    exact ⟨sx, cx, Prod.ext h1 hs1, hs2, h2, hs3, h3, hF⟩
  refine (rcrash_k d R B cap hcap tl keeps n hn co cp (fun i hi => by
    obtain ⟨sx, cx, h1, h2, h3, h4, h5, _⟩ := hfile i hi
    exact ⟨sx, _, cx, _, h1, h2, h3, h4, h5⟩) HK hkeep).mono ?_
  rintro e w' ⟨rfl, H⟩
  refine ⟨rfl, _, H, rfl, rfl, by show (0 : Int) ≤ 0; omega, by show (0 : Int) ≤ _; omega, fun i hi => ?_⟩
  obtain ⟨sx, cx, h1, h2, h3, h4, h5, hF⟩ := hfile i hi
  have hle := crN_le (p.f i).2 (p.f i).1.length keeps[i]? h2
  have hf : (crD d keeps 8).f i = (.slice sx (crN (p.f i).2 (p.f i).1.length keeps[i]?) (crN (p.f i).2 (p.f i).1.length keeps[i]?), ((crN (p.f i).2 (p.f i).1.length keeps[i]? : Nat) : Int)) := by
    unfold crD
    dsimp only
    rw [if_pos hi, h1]
    simp [crF]
  show FC gs ((crD d keeps 8).f i).1 (pcrF (p.f i) keeps[i]?).1 ∧ ((crD d keeps 8).f i).2 = ((pcrF (p.f i) keeps[i]?).2 : Nat) ∧ (pcrF (p.f i) keeps[i]?).2 ≤ (pcrF (p.f i) keeps[i]?).1.length ∧ (pcrF (p.f i) keeps[i]?).1.length ≤ 1048576
  rw [hf]
  unfold pcrF
  refine ⟨fc_cut hF _ hle, rfl, ?_, ?_⟩
  · show _ ≤ (List.take _ _).length
    rw [List.length_take]; omega
  · show (List.take _ _).length ≤ _
    rw [List.length_take]; omega
theorem rg_read {w W : World} {R B cap : Nat} (hcap : 8 ≤ cap) {tl : List Value} {p : PD} {d : Dk} {rs gs : List (Nat × List Value)} (HK : RR w W R B cap tl d rs) (hV : VW gs d p) (hs : ∀ x ∈ gs, x ∈ rs) (f : Int) :
    Calls Try.prog 50 #[.pointer (some ⟨R, 0, none⟩), .int .i64 f] W fun e W' => ∃ v l, e = .returned (.tuple #[v, .int .i64 (preadE f)]) ∧ FC l v (pread p f) ∧ RR w W' R B cap tl d (l ++ rs) := by
  unfold preadE pread
  by_cases ho : f < 0 ∨ 8 ≤ f
  · rw [if_pos ho, if_pos ho]
    refine (rread_out R f ho W).mono ?_
    rintro e w' ⟨rfl, rfl⟩
    exact ⟨_, [], rfl, .inl ⟨rfl, rfl⟩, HK⟩
  · rw [if_neg ho, if_neg ho]
    obtain ⟨k, rfl⟩ : ∃ k : Nat, f = k := ⟨f.toNat, by omega⟩
    have hk : k < 8 := by omega
    rw [Int.toNat_natCast]
    obtain ⟨hF, hs1, hs2, hs3⟩ := hV.file k hk
    obtain ⟨sx, cx, h1, h2⟩ := fc_src (fc_mono hF hs)
    refine (rread_k d R B cap hcap tl k hk (p.f k).1 _ rfl (by omega) HK sx cx h1 (h2 w W (kr_tail (kr_tail HK)))).mono ?_
    rintro e w' ⟨v, l, rfl, hl, H⟩
    exact ⟨v, l, rfl, hl, H⟩
theorem rg_safe {w W : World} {R B cap : Nat} {tl : List Value} {p : PD} {d : Dk} {rs gs : List (Nat × List Value)} (HK : RR w W R B cap tl d rs) (hV : VW gs d p) (f : Int) :
    Calls Try.prog 60 #[.pointer (some ⟨R, 0, none⟩), .int .i64 f] W fun e W' => e = .returned (.int .i64 (psafe p f)) ∧ W = W' := by
  unfold psafe
  by_cases ho : f < 0 ∨ 8 ≤ f
  · rw [if_pos ho]
    exact rsafe_out R f ho W
  · rw [if_neg ho]
    obtain ⟨k, rfl⟩ : ∃ k : Nat, f = k := ⟨f.toNat, by omega⟩
    have hk : k < 8 := by omega
    rw [Int.toNat_natCast, ← (hV.file k hk).2.1]
    exact rsafe_k d R B cap tl k hk HK
theorem vw_one {gs : List (Nat × List Value)} {d : Dk} {p : PD} (hV : VW gs d p) : ∀ i, i < 8 → (d.f i).1.oneCell' = true := fun i hi => by
  obtain ⟨sx, m, cx, h⟩ := vw_files hV i hi
  rw [h]; rfl
end Go.Proofs.Ytaonaifnaecpiaa.Own

namespace Go.Proofs.Ytaonaifnaecpiaa.Own
open Go.RowKit
set_option linter.unusedSimpArgs false
theorem own_alloc {w W : World} {rs : List (Nat × List Value)} {e : TypeId} {size : Nat} {v : Value} {n : Nat} {xs : List Value} (h : Own w rs e size v n xs W) (o : Obj) : Own w rs e size v n xs (W.alloc o) := ⟨h.1.alloc o, h.2⟩
theorem lu8_info : (Try.prog.info? 5).map (fun i => (i.zero, i.size, i.bytes)) = some (some (.int .u8 0), 1, 1) := by kernel_rfl
theorem make_u8 (n : Nat) (hn : n ≤ 140737488351232) (W : World) : (Instr.makeSlice 23 (.int .i64 0) (.int .i64 ((n : Int) + 8))).run Try.prog W = .ok (.slice (some ⟨W.heap.size, 0, none⟩) 0 (n + 8)) (W.alloc (.cells (madeCells #[.int .u8 0] (n + 8)) 5)) := by
  obtain ⟨i, hi0, hi1⟩ := Option.map_eq_some_iff.1 lu8_info
  simp only [Prod.mk.injEq] at hi1
  obtain ⟨hz, hs, hb⟩ := hi1
  have hr := run_make (P := Try.prog) W 23 5 i (.int .u8 0) Try.underlying23 hi0 hz .i64 .i64 0 ((n : Int) + 8) (by omega) (by omega) (by rw [hb]; omega) (by omega)
  rw [hs, show ((n : Int) + 8).toNat = n + 8 from by omega, Nat.mul_one] at hr
  exact hr
def a5s : List Value := [.int .u8 165, .int .u8 165, .int .u8 165, .int .u8 165, .int .u8 165, .int .u8 165, .int .u8 165, .int .u8 165]
theorem a5s_src (W : World) (m : Nat × Nat) : SrcV (W.alloc (.cells a5s.toArray 5 m)) (some ⟨W.heap.size, 0, none⟩) a5s := fun _ => ⟨_, rfl, fun j v hv => by
  have hadd : (⟨W.heap.size, 0, none⟩ : Addr).add j = ⟨W.heap.size, j, none⟩ := by unfold Addr.add; split <;> simp_all
  rw [hadd, World.cell?_alloc_mark]; simpa using hv⟩
set_option maxHeartbeats 1000000 in
theorem lent_k {w W : World} {rs : List (Nat × List Value)} (HK : KR w rs W) (bs : List Int) (n : Nat) (hn : Hid (bs.length = n)) (h2 : n ≤ 140737488351232) (sp : Option Addr) (cp : Nat) (hS : ∀ W1, KR w rs W1 → SrcV W1 sp (bs.map (.int .u8))) :
    Calls Try.prog 10 #[.slice sp n cp] W fun e W' => ∃ g cap cur, e = .returned (.slice (some ⟨g, 0, none⟩) n cap) ∧ n + 8 ≤ cap ∧ cap = cur.length ∧ cur.take (n + 8) = bs.map (.int .u8) ++ a5s ∧ KR w ((g, cur) :: rs) W' := by
  have hmk := make_u8 n h2
  have h3 : (n : Int) ≤ 140737488351232 := by omega
  have HS : Hid (∀ W1, KR w rs W1 → SrcV W1 sp (bs.map (.int .u8))) := hS
  have H1 := kr_alloc HK (.cells (madeCells #[.int .u8 0] (n + 8)) 5)
  have O1 : Own w rs 5 1 (.slice (some ⟨W.heap.size, 0, none⟩) 0 (n + 8)) 0 [] (W.alloc (.cells (madeCells #[.int .u8 0] (n + 8)) 5)) :=
    ⟨World.ownsRow_made W (madeCells #[.int .u8 0] (n + 8)) (n + 8) HK.below.size (by unfold maxLen; omega) (by simp [madeCells]), fun k hk p hp => by
      simp only [Value.ownBlock, Option.some.injEq] at hk
      have := (HK.rows p hp).2.1
      omega⟩
  clear hS HK
  go_enter Try.func10, Try.ntmps10
  go_wp2_with (first | (at_builtin; refine wl_appendK _ _ 23 5 (.int .u8 0) 1 1 H1 O1 sp n cp (bs.map (.int .u8)) (HS.out _ H1) (by rw [List.length_map, hn.out]; omega) (by intro v hv; simp only [List.mem_map] at hv; obtain ⟨x, _, rfl⟩ := hv; rfl) (by unfold maxLen; omega) (by omega) Try.underlying23 lu8_info rfl (by omega) rfl rfl (by rfl) (by rfl) (fun v' W' O2 H2 hz => ?_); clear H1 O1 HS; rw [Nat.zero_add, List.nil_append] at O2; obtain ⟨s4, c4, rfl⟩ := own_form O2) | (at_builtin; refine wl_appendK _ _ 23 5 (.int .u8 0) 1 1 (kr_alloc H2 _) (own_alloc O2 _) _ 8 8 a5s (a5s_src _ _) rfl (by decide) (by unfold maxLen; omega) (by omega) Try.underlying23 lu8_info rfl (by omega) rfl rfl (by rfl) (by rfl) (fun v3 W3 O3 H3 hz3 => ?_); clear H2 O2; obtain ⟨g, cap, cur, rfl, HL, hc1, hc2, hc3⟩ := own_settle1 H3 O3 (by omega); have hc4 : n ≤ cap := (by omega)))
  go_ret
  refine ⟨g, cap, cur, rfl, by omega, by omega, ?_, HL⟩
  rw [Nat.mul_one] at hc3
  exact hc3
theorem strOfNums_append (a b : List Int) : strOfNums (a ++ b) = strOfNums a ++ strOfNums b := by
  apply ByteArray.ext
  simp [strOfNums]
/-- Bytes as a string, out of cells. -/
theorem conv_cells {W : World} {co : Option Addr} {bs : List Int} (len cap : Nat) (hl : bs.length = len) (h : SrcV W co (bs.map (.int .u8))) : (convert 23 9 (.slice co len cap)).run Try.prog W = .ok (.string (strOfNums bs)) W := by
  subst hl
  rcases co with _ | A
  · have h0 : bs = [] := by
      rcases bs with _ | ⟨b, bs⟩
      · rfl
      · obtain ⟨A, hA, _⟩ := h (by simp)
        cases hA
    subst h0
    exact run_convert_bytes_nil W 23 5 Try.underlying23 Try.underlying5 _ _ _ Try.underlying9
  · have hl : (loadCells A bs.length).run Try.prog W = .ok (bs.map (Value.int .u8)).toArray W := by
      have := run_loadCells_list (P := Try.prog) W A (bs.map (Value.int .u8)) (fun j v hj => by
        obtain ⟨B, hB, hc⟩ := h (by
          have := (List.getElem?_eq_some_iff.1 hj).1
          omega)
        injection hB with hB
        subst hB
        exact hc j v hj)
      simpa using this
    rw [run_convert_bytes_string W 23 9 5 (some A) bs.length cap Try.underlying23 Try.underlying5 Try.underlying9, run_bytesToString W A bs.length cap bs hl, foldl_push_bytes]
    simp [strOfNums, ByteArray.empty, ByteArray.emptyWithCapacity]
    rfl
theorem srcV_row {w W : World} {rs : List (Nat × List Value)} {g : Nat} {cur cs : List Value} {m : Nat} (HK : KR w rs W) (hm : (g, cur) ∈ rs) (ht : cur.take m = cs) : SrcV W (some ⟨g, 0, none⟩) cs := fun _ => ⟨_, rfl, fun j v hv => by
  rw [Addr.add_mid]
  refine kr_mem HK hm j v ?_
  rw [← ht, List.getElem?_take] at hv
  split at hv
  · exact hv
  · cases hv⟩
theorem srcV_keep {W W' : World} {sp : Option Addr} {cs : List Value} (h : SrcV W sp cs) (hb : Below W.heap.size W W') : SrcV W' sp cs := fun hl => by
  obtain ⟨A, hA, hc⟩ := h hl
  refine ⟨A, hA, fun j v hv => ?_⟩
  rw [← hc j v hv]
  exact hb.cell (World.block_lt_of_cell? W _ (hc j v hv))
set_option maxRecDepth 100000 in
set_option maxHeartbeats 1000000 in
theorem kept_k {w W : World} {rs : List (Nat × List Value)} (HK : KR w rs W) (bs : List Int) (n : Nat) (hn : Hid (bs.length = n)) (h2 : n ≤ 140737488351232) (sp : Option Addr) (cp : Nat) (hS : SrcV W sp (bs.map (.int .u8))) (g cap : Nat) (cur : List Value) (hg : (g, cur) ∈ rs) (hc : n + 8 ≤ cap) (ht : cur.take (n + 8) = bs.map (.int .u8) ++ a5s) :
    Calls Try.prog 18 #[.slice (some ⟨g, 0, none⟩) n cap, .slice sp n cp] W fun e W' => e = .returned (.bool true) ∧ ∃ k, W' = W.drewN k := by
  have h3 : (n : Int) ≤ 140737488351232 := by omega
  have hc2 : (n : Int) + 8 ≤ (cap : Int) := by omega
  have ht2 : cur.take n = bs.map (.int .u8) := by
    have := congrArg (List.take n) ht
    rw [List.take_take, Nat.min_eq_left (by omega), List.take_append_of_le_length (by rw [List.length_map, hn.out]; omega), List.take_of_length_le (l := bs.map (Value.int .u8)) (by rw [List.length_map, hn.out]; omega)] at this
    exact this
  have s1 : SrcV W (some ⟨g, 0, none⟩) (bs.map (.int .u8)) := srcV_row HK hg ht2
  have s2 : SrcV W (some ⟨g, 0, none⟩) ((bs ++ [165, 165, 165, 165, 165, 165, 165, 165]).map (.int .u8)) := by
    rw [List.map_append]
    exact srcV_row HK hg ht
  have q1 : ∀ nq, (convert 23 9 (.slice (some ⟨g, 0, none⟩) n cap)).run Try.prog (W.drewN nq) = .ok (.string (strOfNums bs)) (W.drewN nq) := fun nq => conv_cells n cap hn.out (srcV_keep s1 (bw_drewN (Below.refl _ _) nq))
  have q2 : ∀ nq, (convert 23 9 (.slice sp n cp)).run Try.prog (W.drewN nq) = .ok (.string (strOfNums bs)) (W.drewN nq) := fun nq => conv_cells n cp hn.out (srcV_keep hS (bw_drewN (Below.refl _ _) nq))
  have q3 : ∀ nq, (convert 23 9 (.slice (some ⟨g, 0, none⟩) (n + 8) cap)).run Try.prog (W.drewN nq) = .ok (.string (strOfNums bs ++ ⟨#[165, 165, 165, 165, 165, 165, 165, 165]⟩)) (W.drewN nq) := fun nq => by
    have := conv_cells (n + 8) cap (by rw [List.length_append, hn.out]; rfl) (srcV_keep s2 (bw_drewN (Below.refl _ _) nq))
    rw [strOfNums_append] at this
    exact this
  have q10 := q1 0
  have q20 := q2 0
  simp only [World.drewN_zero] at q10 q20
  have hsz : (strOfNums bs).size ≤ 140737488351232 := by rw [strOfNums_size, hn.out]; omega
  generalize strOfNums bs = sb at q1 q2 q3 q10 q20 hsz
  clear s1 s2 hS ht ht2 hg HK
  go_enter Try.func18, Try.ntmps18
  go_wp2_with fail
  go_quiet (fail)
  clear q1 q2 q3 q10 q20
  go_wp2_with fail
  go_ret
  exact ⟨rfl, _, rfl⟩
theorem spoil_k {w W : World} {rs : List (Nat × List Value)} (g n cap : Nat) (cur : List Value) (hn : n ≤ cur.length) (h2 : n ≤ 9223372036854775807) (HK : KR w ((g, cur) :: rs) W) :
    Calls Try.prog 34 #[.slice (some ⟨g, 0, none⟩) n cap] W fun e W' => e = .returned (.tuple #[]) ∧ ∃ cur', cur'.length = cur.length ∧ KR w ((g, cur') :: rs) W' := by
  have h3 : (n : Int) ≤ 9223372036854775807 := by omega
  go_enter Try.func34, Try.ntmps34
  go_wp2
  go_loopw [2] (fun v2 W => ∃ k : Nat, v2 = .int .i64 k ∧ k ≤ n ∧ ∃ c : List Value, c.length = cur.length ∧ KR w ((g, c) :: rs) W) (fun v2 _ => n - (intOf v2).toNat)
  case atStart => exact ⟨0, rfl, Nat.zero_le _, cur, rfl, HK⟩
  case round =>
    clear HK
    obtain ⟨k, rfl, hk, c, hc, HK⟩ := hrel
    by_cases hlt : k < n
    · have hkc : k < c.length := by omega
      have k0 := kr_cell HK 0 rfl k _ (List.getElem?_eq_getElem hkc)
      have f0 := kr_frozen HK 0 rfl k hkc
      have HN : KR w _ _ := kr_fset HK 0 rfl k hkc (.int .u8 90) _ rfl
      simp only [List.set_cons_zero] at HN
      have HH : Hid ((c.set k (.int .u8 90)).length = cur.length ∧ KR w ((g, c.set k (.int .u8 90)) :: rs) (wr.setCell ⟨g, k, none⟩ (.int .u8 90))) := ⟨by rw [List.length_set, hc], HN⟩
      generalize c[k]'hkc = u at k0
      clear HK HN hc
      go_wp2_with fail
      go_round
      case rel => exact ⟨k + 1, by simp, by omega, _, HH.out⟩
      case measure => (simp [intOf]; try omega)
    · have HH : Hid (c.length = cur.length ∧ KR w ((g, c) :: rs) wr) := ⟨hc, HK⟩
      clear HK hc
      go_wp2_with fail
      exact bodyPost_end (results_none rfl _ _ _) rfl ⟨rfl, c, HH.out⟩
theorem spoil_none (cap : Nat) (W : World) : Calls Try.prog 34 #[.slice none 0 cap] W fun e W' => e = .returned (.tuple #[]) ∧ W = W' := by
  go_enter Try.func34, Try.ntmps34
  go_wp2
  go_loop [2] (fun v2 => v2 = .int .i64 0) (fun _ => 0)
  case atStart => rfl
  case round =>
    subst hrel
    go_wp2_with fail
    exact bodyPost_end (results_none rfl _ _ _) rfl ⟨rfl, rfl⟩
end Go.Proofs.Ytaonaifnaecpiaa.Own

namespace Go.Proofs.Ytaonaifnaecpiaa.Own
open Go.RowKit
set_option linter.unusedSimpArgs false
set_option linter.unusedVariables false
/-- The rows xs, the program's disk as the plain disk p, the reference's as the plain disk q. -/
def PV (w W : World) (D R : Nat) (p q : PD) (xs ks : List (Nat × List Value)) : Prop :=
  ∃ d r B cap tl gs, KR w (xs ++ (D, d.l) :: (R, rH r B cap) :: (B, rF r tl) :: gs) W ∧ VW gs d p ∧ VW gs r q ∧ 8 ≤ cap ∧ ∀ x ∈ ks, x ∈ gs
theorem perm_prog (x y z : Nat × List Value) (l xs gs : List (Nat × List Value)) : (xs ++ x :: y :: z :: (l ++ gs)).Perm (x :: (l ++ (xs ++ y :: z :: gs))) := by
  have h1 : (xs ++ x :: y :: z :: (l ++ gs)).Perm (x :: (xs ++ y :: z :: (l ++ gs))) := List.perm_middle
  have h2 : (y :: z :: (l ++ gs)).Perm (l ++ y :: z :: gs) := ((List.perm_middle (l₁ := l) (l₂ := z :: gs) (a := y)).trans (List.Perm.cons _ List.perm_middle)).symm
  have h3 : (xs ++ y :: z :: (l ++ gs)).Perm (xs ++ (l ++ y :: z :: gs)) := List.Perm.append_left xs h2
  have h4 : (xs ++ (l ++ y :: z :: gs)).Perm (l ++ (xs ++ y :: z :: gs)) := by
    rw [← List.append_assoc, ← List.append_assoc]
    exact List.Perm.append_right _ List.perm_append_comm
  exact h1.trans (List.Perm.cons _ (h3.trans h4))
theorem perm_ref (x y z : Nat × List Value) (l xs gs : List (Nat × List Value)) : (xs ++ x :: y :: z :: (l ++ gs)).Perm (y :: z :: (l ++ (xs ++ x :: gs))) := by
  have h1 : (xs ++ x :: y :: z :: (l ++ gs)).Perm (xs ++ y :: z :: x :: (l ++ gs)) := List.Perm.append_left xs ((List.Perm.swap y x _).trans (List.Perm.cons _ (List.Perm.swap z x _)))
  have h2 : (xs ++ y :: z :: x :: (l ++ gs)).Perm (y :: z :: (xs ++ x :: (l ++ gs))) := List.perm_middle.trans (List.Perm.cons _ List.perm_middle)
  have h3 : (xs ++ x :: (l ++ gs)).Perm (l ++ (xs ++ x :: gs)) := by
    have : (x :: (l ++ gs)).Perm (l ++ x :: gs) := List.perm_middle.symm
    refine (List.Perm.append_left xs this).trans ?_
    rw [← List.append_assoc, ← List.append_assoc]
    exact List.Perm.append_right _ List.perm_append_comm
  exact h2 |> h1.trans |>.trans (List.Perm.cons _ (List.Perm.cons _ h3))
theorem pv_kr {ks : List (Nat × List Value)} {w W : World} {D R : Nat} {p q : PD} {xs : List (Nat × List Value)} (h : PV w W D R p q xs ks) : KR w xs W := by
  obtain ⟨d, r, B, cap, tl, gs, HK, _⟩ := h
  exact kr_sub HK (List.sublist_append_left _ _)
theorem pv_below {ks : List (Nat × List Value)} {w W : World} {D R : Nat} {p q : PD} {xs : List (Nat × List Value)} (h : PV w W D R p q xs ks) : Below w.heap.size w W := (pv_kr h).below
theorem pv_tail {ks : List (Nat × List Value)} {w W : World} {D R : Nat} {p q : PD} {x : Nat × List Value} {xs : List (Nat × List Value)} (h : PV w W D R p q (x :: xs) ks) : PV w W D R p q xs ks := by
  obtain ⟨d, r, B, cap, tl, gs, HK, h⟩ := h
  exact ⟨d, r, B, cap, tl, gs, kr_tail HK, h⟩
theorem pv_sub {ks : List (Nat × List Value)} {w W : World} {D R : Nat} {p q : PD} {xs ys : List (Nat × List Value)} (h : PV w W D R p q xs ks) (hs : ys.Sublist xs) : PV w W D R p q ys ks := by
  obtain ⟨d, r, B, cap, tl, gs, HK, h⟩ := h
  exact ⟨d, r, B, cap, tl, gs, kr_sub HK (List.Sublist.append hs (List.Sublist.refl _)), h⟩
theorem pv_alloc {ks : List (Nat × List Value)} {w W : World} {D R : Nat} {p q : PD} {xs : List (Nat × List Value)} (h : PV w W D R p q xs ks) (o : Obj) : PV w (W.alloc o) D R p q xs ks := by
  obtain ⟨d, r, B, cap, tl, gs, HK, h⟩ := h
  exact ⟨d, r, B, cap, tl, gs, kr_alloc HK o, h⟩
theorem pv_new {ks : List (Nat × List Value)} {w W : World} {D R : Nat} {p q : PD} {xs : List (Nat × List Value)} (h : PV w W D R p q xs ks) (cs : List Value) (t : TypeId) : PV w (W.alloc (.cells cs.toArray t)) D R p q ((W.heap.size, cs) :: xs) ks := by
  obtain ⟨d, r, B, cap, tl, gs, HK, h⟩ := h
  exact ⟨d, r, B, cap, tl, gs, kr_new HK cs t, h⟩
theorem pv_call {ks : List (Nat × List Value)} {w W W' : World} {D R : Nat} {p q : PD} {xs : List (Nat × List Value)} (h : PV w W D R p q xs ks) (hb : Below W.heap.size W W') : PV w W' D R p q xs ks := by
  obtain ⟨d, r, B, cap, tl, gs, HK, h⟩ := h
  exact ⟨d, r, B, cap, tl, gs, kr_call HK hb, h⟩
theorem pv_drew {ks : List (Nat × List Value)} {w W : World} {D R : Nat} {p q : PD} {xs : List (Nat × List Value)} (h : PV w W D R p q xs ks) : PV w W.drew D R p q xs ks := pv_call h (bw_drew (Below.refl _ _))
theorem pv_drewN {ks : List (Nat × List Value)} {w W : World} {D R : Nat} {p q : PD} {xs : List (Nat × List Value)} (h : PV w W D R p q xs ks) (n : Nat) : PV w (W.drewN n) D R p q xs ks := pv_call h (bw_drewN (Below.refl _ _) n)
theorem pv_prog {ks : List (Nat × List Value)} {w W : World} {D R : Nat} {p p' q : PD} {xs : List (Nat × List Value)} (h : PV w W D R p q xs ks) {f : FuncId} {args : Array Value} {ret : Value}
    (hc : ∀ d rs gs, (∀ W1, KR w rs W1 → KR w xs W1) → KR w ((D, d.l) :: rs) W → VW gs d p → (∀ x ∈ gs, x ∈ rs) → Calls Try.prog f args W fun e W' => e = .returned ret ∧ ∃ l d', KR w ((D, d'.l) :: (l ++ rs)) W' ∧ VW (l ++ gs) d' p') :
    Calls Try.prog f args W fun e W' => e = .returned ret ∧ PV w W' D R p' q xs ks := by
  obtain ⟨d, r, B, cap, tl, gs, HK, hV, hU, hcap⟩ := h
  refine (hc d (xs ++ (R, rH r B cap) :: (B, rF r tl) :: gs) gs (fun W1 H => kr_sub H (List.sublist_append_left _ _)) (kr_head xs HK) hV (fun x hx => List.mem_append_right _ (List.mem_cons_of_mem _ (List.mem_cons_of_mem _ hx)))).mono ?_
  rintro e w' ⟨rfl, l, d', H, hV'⟩
  exact ⟨rfl, d', r, B, cap, tl, l ++ gs, kr_permA H (perm_prog _ _ _ _ _ _), hV', vw_mono hU (fun x hx => List.mem_append_right _ hx), hcap.1, fun x hx => List.mem_append_right _ (hcap.2 x hx)⟩
theorem pv_ref {ks : List (Nat × List Value)} {w W : World} {D R : Nat} {p q q' : PD} {xs : List (Nat × List Value)} (h : PV w W D R p q xs ks) {f : FuncId} {args : Array Value} {ret : Value}
    (hc : ∀ r B cap tl rs gs, 8 ≤ cap → (∀ W1, KR w rs W1 → KR w xs W1) → RR w W R B cap tl r rs → VW gs r q → (∀ x ∈ gs, x ∈ rs) → Calls Try.prog f args W fun e W' => e = .returned ret ∧ ∃ l r', RR w W' R B cap tl r' (l ++ rs) ∧ VW (l ++ gs) r' q') :
    Calls Try.prog f args W fun e W' => e = .returned ret ∧ PV w W' D R p q' xs ks := by
  obtain ⟨d, r, B, cap, tl, gs, HK, hV, hU, hcap⟩ := h
  refine (hc r B cap tl (xs ++ (D, d.l) :: gs) gs hcap.1 (fun W1 H => kr_sub H (List.sublist_append_left _ _)) (kr_permA HK (perm_ref (D, d.l) (R, rH r B cap) (B, rF r tl) [] xs gs).symm) hU (fun x hx => List.mem_append_right _ (List.mem_cons_of_mem _ hx))).mono ?_
  rintro e w' ⟨rfl, l, r', H, hU'⟩
  exact ⟨rfl, d, r', B, cap, tl, l ++ gs, kr_permA H (perm_ref _ _ _ _ _ _), vw_mono hV (fun x hx => List.mem_append_right _ hx), hU', hcap.1, fun x hx => List.mem_append_right _ (hcap.2 x hx)⟩
theorem pv_append {ks : List (Nat × List Value)} {w W : World} {D R : Nat} {p q : PD} {xs : List (Nat × List Value)} (h : PV w W D R p q xs ks) (f : Int) (ys : List Int) (n : Nat) (hn : ys.length = n) (sp : Option Addr) (cp : Nat) (hS : ∀ W1, KR w xs W1 → Src W1 sp ys) :
    Calls Try.prog 37 #[.pointer (some ⟨D, 0, none⟩), .int .i64 f, .slice sp n cp] W fun e W' => e = .returned (.int .i64 (pappE p f ys)) ∧ PV w W' D R (pappD p f ys) q xs ks :=
  pv_prog h (fun d rs gs hx HK hV hs => (dg_append HK hV hs f ys n hn sp cp (hS W (hx W (kr_tail HK)))).mono fun e W' ⟨he, H⟩ => ⟨he, H⟩)
theorem pv_rappend {ks : List (Nat × List Value)} {w W : World} {D R : Nat} {p q : PD} {xs : List (Nat × List Value)} (h : PV w W D R p q xs ks) (f : Int) (ys : List Int) (n : Nat) (hn : ys.length = n) (sp : Option Addr) (cp : Nat) (hS : ∀ W1, KR w xs W1 → Src W1 sp ys) :
    Calls Try.prog 38 #[.pointer (some ⟨R, 0, none⟩), .int .i64 f, .slice sp n cp] W fun e W' => e = .returned (.int .i64 (pappE q f ys)) ∧ PV w W' D R p (pappD q f ys) xs ks :=
  pv_ref h (fun r B cap tl rs gs hcap hx HK hV hs => (rg_append hcap HK hV hs f ys n hn sp cp (fun W1 H => hS W1 (hx W1 H))).mono fun e W' ⟨he, H⟩ => ⟨he, H⟩)
theorem pv_sync {ks : List (Nat × List Value)} {w W : World} {D R : Nat} {p q : PD} {xs : List (Nat × List Value)} (h : PV w W D R p q xs ks) (f : Int) :
    Calls Try.prog 48 #[.pointer (some ⟨D, 0, none⟩), .int .i64 f] W fun e W' => e = .returned (.int .i64 (pchE p [f])) ∧ PV w W' D R (psyncD p f) q xs ks :=
  pv_prog h (fun d rs gs hx HK hV hs => (dg_sync HK hV f).mono fun e W' ⟨he, H⟩ => ⟨he, by obtain ⟨d', H1, H2⟩ := H; exact ⟨[], d', H1, H2⟩⟩)
theorem pv_rsync {ks : List (Nat × List Value)} {w W : World} {D R : Nat} {p q : PD} {xs : List (Nat × List Value)} (h : PV w W D R p q xs ks) (f : Int) :
    Calls Try.prog 52 #[.pointer (some ⟨R, 0, none⟩), .int .i64 f] W fun e W' => e = .returned (.int .i64 (pchE q [f])) ∧ PV w W' D R p (psyncD q f) xs ks :=
  pv_ref h (fun r B cap tl rs gs hcap hx HK hV hs => (rg_sync hcap HK hV f).mono fun e W' ⟨he, H⟩ => ⟨he, by obtain ⟨d', H1, H2⟩ := H; exact ⟨[], d', H1, H2⟩⟩)
theorem pv_clear {ks : List (Nat × List Value)} {w W : World} {D R : Nat} {p q : PD} {xs : List (Nat × List Value)} (h : PV w W D R p q xs ks) (f : Int) :
    Calls Try.prog 49 #[.pointer (some ⟨D, 0, none⟩), .int .i64 f] W fun e W' => e = .returned (.int .i64 (pchE p [f])) ∧ PV w W' D R (pclrD p f) q xs ks :=
  pv_prog h (fun d rs gs hx HK hV hs => (dg_clear HK hV f).mono fun e W' ⟨he, H⟩ => ⟨he, by obtain ⟨d', H1, H2⟩ := H; exact ⟨[], d', H1, H2⟩⟩)
theorem pv_rclear {ks : List (Nat × List Value)} {w W : World} {D R : Nat} {p q : PD} {xs : List (Nat × List Value)} (h : PV w W D R p q xs ks) (f : Int) :
    Calls Try.prog 51 #[.pointer (some ⟨R, 0, none⟩), .int .i64 f] W fun e W' => e = .returned (.int .i64 (pchE q [f])) ∧ PV w W' D R p (pclrD q f) xs ks :=
  pv_ref h (fun r B cap tl rs gs hcap hx HK hV hs => (rg_clear hcap HK hV f).mono fun e W' ⟨he, H⟩ => ⟨he, by obtain ⟨d', H1, H2⟩ := H; exact ⟨[], d', H1, H2⟩⟩)
theorem pv_rename {ks : List (Nat × List Value)} {w W : World} {D R : Nat} {p q : PD} {xs : List (Nat × List Value)} (h : PV w W D R p q xs ks) (f t : Int) :
    Calls Try.prog 65 #[.pointer (some ⟨D, 0, none⟩), .int .i64 f, .int .i64 t] W fun e W' => e = .returned (.int .i64 (pchE p [f, t])) ∧ PV w W' D R (prenD p f t) q xs ks :=
  pv_prog h (fun d rs gs hx HK hV hs => (dg_rename HK hV f t).mono fun e W' ⟨he, H⟩ => ⟨he, by obtain ⟨d', H1, H2⟩ := H; exact ⟨[], d', H1, H2⟩⟩)
theorem pv_rrename {ks : List (Nat × List Value)} {w W : World} {D R : Nat} {p q : PD} {xs : List (Nat × List Value)} (h : PV w W D R p q xs ks) (f t : Int) :
    Calls Try.prog 53 #[.pointer (some ⟨R, 0, none⟩), .int .i64 f, .int .i64 t] W fun e W' => e = .returned (.int .i64 (pchE q [f, t])) ∧ PV w W' D R p (prenD q f t) xs ks :=
  pv_ref h (fun r B cap tl rs gs hcap hx HK hV hs => (rg_rename hcap HK hV f t).mono fun e W' ⟨he, H⟩ => ⟨he, by obtain ⟨d', H1, H2⟩ := H; exact ⟨[], d', H1, H2⟩⟩)
theorem pv_fail {ks : List (Nat × List Value)} {w W : World} {D R : Nat} {p q : PD} {xs : List (Nat × List Value)} (h : PV w W D R p q xs ks) (n : Int) (hn : n ≤ 9223372036854775807) :
    Calls Try.prog 27 #[.pointer (some ⟨D, 0, none⟩), .int .i64 n] W fun e W' => e = .returned (.tuple #[]) ∧ PV w W' D R (pfail p n) q xs ks :=
  pv_prog h (fun d rs gs hx HK hV hs => (dg_fail HK hV n hn).mono fun e W' ⟨he, H⟩ => ⟨he, by obtain ⟨d', H1, H2⟩ := H; exact ⟨[], d', H1, H2⟩⟩)
theorem pv_rfail {ks : List (Nat × List Value)} {w W : World} {D R : Nat} {p q : PD} {xs : List (Nat × List Value)} (h : PV w W D R p q xs ks) (n : Int) (hn : n ≤ 9223372036854775807) :
    Calls Try.prog 36 #[.pointer (some ⟨R, 0, none⟩), .int .i64 n] W fun e W' => e = .returned (.tuple #[]) ∧ PV w W' D R p (pfail q n) xs ks :=
  pv_ref h (fun r B cap tl rs gs hcap hx HK hV hs => (rg_fail HK hV n hn).mono fun e W' ⟨he, H⟩ => ⟨he, by obtain ⟨d', H1, H2⟩ := H; exact ⟨[], d', H1, H2⟩⟩)
theorem pv_crash {ks : List (Nat × List Value)} {w W : World} {D R : Nat} {p q : PD} {xs : List (Nat × List Value)} (h : PV w W D R p q xs ks) (keeps : List Int) (n : Nat) (hn : keeps.length = n) (co : Option Addr) (cp : Nat) (hk : ∀ W1, KR w xs W1 → ∀ j, j < n → ∃ A, co = some A ∧ W1.cell? (A.add j) = some (.int .i64 (keeps.getD j 0))) :
    Calls Try.prog 28 #[.pointer (some ⟨D, 0, none⟩), .slice co n cp] W fun e W' => e = .returned (.tuple #[]) ∧ PV w W' D R (pcrash p keeps) q xs ks :=
  pv_prog h (fun d rs gs hx HK hV hs => (dg_crash HK hV keeps n hn co cp (fun d' W1 H => hk W1 (hx W1 (kr_tail H)))).mono fun e W' ⟨he, H⟩ => ⟨he, by obtain ⟨d', H1, H2⟩ := H; exact ⟨[], d', H1, H2⟩⟩)
theorem pv_rcrash {ks : List (Nat × List Value)} {w W : World} {D R : Nat} {p q : PD} {xs : List (Nat × List Value)} (h : PV w W D R p q xs ks) (keeps : List Int) (n : Nat) (hn : keeps.length = n) (co : Option Addr) (cp : Nat) (hk : ∀ W1, KR w xs W1 → ∀ j, j < n → ∃ A, co = some A ∧ W1.cell? (A.add j) = some (.int .i64 (keeps.getD j 0))) :
    Calls Try.prog 39 #[.pointer (some ⟨R, 0, none⟩), .slice co n cp] W fun e W' => e = .returned (.tuple #[]) ∧ PV w W' D R p (pcrash q keeps) xs ks :=
  pv_ref h (fun r B cap tl rs gs hcap hx HK hV hs => (rg_crash hcap HK hV keeps n hn co cp (fun W1 H => hk W1 (hx W1 H))).mono fun e W' ⟨he, H⟩ => ⟨he, by obtain ⟨d', H1, H2⟩ := H; exact ⟨[], d', H1, H2⟩⟩)
theorem pv_safe {ks : List (Nat × List Value)} {w W : World} {D R : Nat} {p q : PD} {xs : List (Nat × List Value)} (h : PV w W D R p q xs ks) (f : Int) : Calls Try.prog 59 #[.pointer (some ⟨D, 0, none⟩), .int .i64 f] W fun e W' => e = .returned (.int .i64 (psafe p f)) ∧ W = W' := by
  obtain ⟨d, r, B, cap, tl, gs, HK, hV, hU, hcap⟩ := h
  exact dg_safe (kr_head xs HK) hV f
theorem pv_rsafe {ks : List (Nat × List Value)} {w W : World} {D R : Nat} {p q : PD} {xs : List (Nat × List Value)} (h : PV w W D R p q xs ks) (f : Int) : Calls Try.prog 60 #[.pointer (some ⟨R, 0, none⟩), .int .i64 f] W fun e W' => e = .returned (.int .i64 (psafe q f)) ∧ W = W' := by
  obtain ⟨d, r, B, cap, tl, gs, HK, hV, hU, hcap⟩ := h
  exact rg_safe (kr_permA HK (perm_ref (D, d.l) (R, rH r B cap) (B, rF r tl) [] xs gs).symm) hU f
theorem pv_dead {ks : List (Nat × List Value)} {w W : World} {D R : Nat} {p q : PD} {xs : List (Nat × List Value)} (h : PV w W D R p q xs ks) : Calls Try.prog 61 #[.pointer (some ⟨D, 0, none⟩)] W fun e W' => e = .returned (.bool p.dead) ∧ W = W' := by
  obtain ⟨d, r, B, cap, tl, gs, HK, hV, hU, hcap⟩ := h
  exact dg_dead (kr_head xs HK) hV
theorem pv_rdead {ks : List (Nat × List Value)} {w W : World} {D R : Nat} {p q : PD} {xs : List (Nat × List Value)} (h : PV w W D R p q xs ks) : W.cell? ⟨R, 2, none⟩ = some (.bool q.dead) := by
  obtain ⟨d, r, B, cap, tl, gs, HK, hV, hU, hcap⟩ := h
  rw [← hU.dead]
  exact rr_h2 (kr_permA HK (perm_ref (D, d.l) (R, rH r B cap) (B, rF r tl) [] xs gs).symm)
theorem perm_in (x y z : Nat × List Value) (l xs gs : List (Nat × List Value)) : ((l ++ xs) ++ x :: y :: z :: gs).Perm (x :: (l ++ (xs ++ y :: z :: gs))) := by
  rw [List.append_assoc]
  have h1 : (xs ++ x :: y :: z :: gs).Perm (x :: (xs ++ y :: z :: gs)) := List.perm_middle
  exact (List.Perm.append_left l h1).trans List.perm_middle
theorem perm_inR (x y z : Nat × List Value) (l xs gs : List (Nat × List Value)) : ((l ++ xs) ++ x :: y :: z :: gs).Perm (y :: z :: (l ++ (xs ++ x :: gs))) := by
  rw [List.append_assoc]
  have h1 : (xs ++ x :: y :: z :: gs).Perm (y :: z :: (xs ++ x :: gs)) := perm_ref x y z [] xs gs
  exact (List.Perm.append_left l h1).trans (List.perm_middle.trans (List.Perm.cons _ List.perm_middle))
theorem pv_read {ks : List (Nat × List Value)} {w W : World} {D R : Nat} {p q : PD} {xs : List (Nat × List Value)} (h : PV w W D R p q xs ks) (f : Int) :
    Calls Try.prog 45 #[.pointer (some ⟨D, 0, none⟩), .int .i64 f] W fun e W' => ∃ v l, e = .returned (.tuple #[v, .int .i64 (preadE f)]) ∧ FC l v (pread p f) ∧ PV w W' D R p q (l ++ xs) ks := by
  obtain ⟨d, r, B, cap, tl, gs, HK, hV, hU, hcap⟩ := h
  refine (dg_read (kr_head xs HK) hV (fun x hx => List.mem_append_right _ (List.mem_cons_of_mem _ (List.mem_cons_of_mem _ hx))) f).mono ?_
  rintro e w' ⟨v, l, rfl, hF, H⟩
  exact ⟨v, l, rfl, hF, d, r, B, cap, tl, gs, kr_permA H (perm_in _ _ _ _ _ _), hV, hU, hcap⟩
theorem pv_readk {ks : List (Nat × List Value)} {w W : World} {D R : Nat} {p q : PD} {xs : List (Nat × List Value)} (h : PV w W D R p q xs ks) (k : Nat) (hk : k < 8) :
    Calls Try.prog 45 #[.pointer (some ⟨D, 0, none⟩), .int .i64 k] W fun e W' => ∃ g, e = .returned (.tuple #[.slice (some ⟨g, 0, none⟩) (p.f k).1.length (p.f k).1.length, .int .i64 0]) ∧ PV w W' D R p q ((g, bc (p.f k).1) :: xs) ks := by
  obtain ⟨d, r, B, cap, tl, gs, HK, hV, hU, hcap⟩ := h
  obtain ⟨hF, hs1, hs2, hs3⟩ := hV.file k hk
  refine (read_k d D k hk (p.f k).1 (by omega) (kr_head xs HK) (fc_mono hF (fun x hx => List.mem_append_right _ (List.mem_cons_of_mem _ (List.mem_cons_of_mem _ hx))))).mono ?_
  rintro e w' ⟨g, rfl, H⟩
  exact ⟨g, rfl, d, r, B, cap, tl, gs, kr_permA (kr_swap H) (perm_in _ _ _ [_] _ _), hV, hU, hcap⟩
theorem pv_rread {ks : List (Nat × List Value)} {w W : World} {D R : Nat} {p q : PD} {xs : List (Nat × List Value)} (h : PV w W D R p q xs ks) (f : Int) :
    Calls Try.prog 50 #[.pointer (some ⟨R, 0, none⟩), .int .i64 f] W fun e W' => ∃ v l, e = .returned (.tuple #[v, .int .i64 (preadE f)]) ∧ FC l v (pread q f) ∧ PV w W' D R p q (l ++ xs) ks := by
  obtain ⟨d, r, B, cap, tl, gs, HK, hV, hU, hcap⟩ := h
  refine (rg_read hcap.1 (kr_permA HK (perm_ref (D, d.l) (R, rH r B cap) (B, rF r tl) [] xs gs).symm) hU (fun x hx => List.mem_append_right _ (List.mem_append_right _ (List.mem_cons_of_mem _ hx))) f).mono ?_
  rintro e w' ⟨v, l, rfl, hF, H⟩
  exact ⟨v, l, rfl, hF, d, r, B, cap, tl, gs, kr_permA H (perm_inR _ _ _ _ _ _), hV, hU, hcap⟩
theorem pv_len {ks : List (Nat × List Value)} {w W : World} {D R : Nat} {p q : PD} {xs : List (Nat × List Value)} (h : PV w W D R p q xs ks) (k : Nat) (hk : k < 8) : (p.f k).1.length ≤ 1048576 ∧ (p.f k).2 ≤ (p.f k).1.length := by
  obtain ⟨d, r, B, cap, tl, gs, HK, hV, hU, hcap⟩ := h
  exact ⟨(hV.file k hk).2.2.2, (hV.file k hk).2.2.1⟩
theorem pv_begin {w W : World} {D R B : Nat} {rs : List (Nat × List Value)} (h : RR w W R B 8 [] dk0 ((D, dk0.l) :: rs)) : PV w W D R pnew pnew rs [] :=
  ⟨dk0, dk0, B, 8, [], [], kr_permA h (by
    have := perm_ref (D, dk0.l) (R, rH dk0 B 8) (B, rF dk0 []) [] rs []
    refine this.trans ?_
    simp only [List.nil_append]
    exact List.Perm.cons _ (List.Perm.cons _ (List.perm_append_comm))), vw_new _, vw_new _, by omega, fun x hx => by simp at hx⟩
end Go.Proofs.Ytaonaifnaecpiaa.Own
