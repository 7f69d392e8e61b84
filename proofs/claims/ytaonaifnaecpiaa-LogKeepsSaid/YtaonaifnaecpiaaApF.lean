/- append onto a slice that has no room (its capacity is its length), under rows kept in sight. No conditions beside those in each lemma. -/
import Derived.Test.YtaonaifnaecpiaaMB
namespace Go.Proofs.Ytaonaifnaecpiaa.Own
set_option linter.unusedVariables false
set_option linter.unusedSimpArgs false
open Go.RowKit
variable {P : Program}
theorem zeroCells_len (cells : Array Value) (n : Nat) : (Builtin.zeroCells cells n).size = n * cells.size := by simp [Builtin.zeroCells, Nat.mul_comm]
theorem own_nilF (w : World) (rs : List (Nat × List Value)) (W : World) (e : TypeId) (size : Nat) : Own w rs e size (.slice none 0 0) 0 [] W := ⟨World.ownsRow_nil _ _ _ _, fun k hk => by simp [Value.ownBlock] at hk⟩
theorem kr_appendF {w W : World} {rs : List (Nat × List Value)} (HK : KR w rs W) (t ty e : TypeId) (z : Value) (size bytes : Nat) (ht : P.underlying t = some (.slice e))
    (hi : (P.info? e).map (fun i => (i.zero, i.size, i.bytes)) = some (some z, size, bytes)) (hzs : z.cells.size = size) (hsz : 0 < size) (sx : Option Addr) (n : Nat) (xs : List Value) (hX : SrcV W sx xs) (hlx : xs.length = n * size)
    (sp : Option Addr) (m c : Nat) (news : List Value) (h0 : 0 < m) (hl : news.length = m * size) (hS : SrcV W sp news) (h1 : ∀ u ∈ news, u.oneCell' = true) (h63 : n + m ≤ maxLen) (hbytes : (n + m) * bytes ≤ 140737488355328) :
    ∃ v' W', (Builtin.append_ #[t, t] ty #[.slice sx n n, .slice sp m c]).run P W = .ok v' W' ∧ Own w rs e size v' (n + m) (xs ++ news) W' ∧ KR w rs W' ∧ W.heap.size ≤ W'.heap.size := by
  rcases sx with _ | B
  · have hn : n = 0 := by
      rcases Nat.eq_zero_or_pos n with h | h
      · exact h
      · obtain ⟨A, hA, _⟩ := hX (by rw [hlx]; exact Nat.mul_pos h hsz)
        cases hA
    subst hn
    have hx : xs = [] := List.eq_nil_of_length_eq_zero (by simpa using hlx)
    subst hx
    exact kr_append HK t ty e z size bytes ht hi hzs hsz (own_nilF w rs W e size) sp m c news hl hS h1 h63 hbytes
  · obtain ⟨i, hi0, hi1⟩ := Option.map_eq_some_iff.1 hi
    simp only [Prod.mk.injEq] at hi1
    obtain ⟨hz, hs, hb⟩ := hi1
    obtain ⟨A, rfl, hc⟩ := hS (by rw [hl]; exact Nat.mul_pos h0 hsz)
    have hxc : ∀ j v, xs[j]? = some v → W.cell? (B.add j) = some v := fun j v hv => by
      obtain ⟨B', hB, hc'⟩ := hX (Nat.lt_of_le_of_lt (Nat.zero_le j) (List.getElem?_eq_some_iff.1 hv).1)
      injection hB with hB
      subst hB
      exact hc' j v hv
    have hr := run_append_grow (P := P) (w := W) t ty e i z ht hi0 hz B n n xs (by rw [hs]; exact hlx) hxc A m c news (by rw [hs]; exact hl) hc (by omega) (by unfold maxLen at h63; omega) (by rw [hb]; exact growslice_fits (by omega) hbytes)
    refine ⟨_, _, hr, ?_, kr_alloc (kr_drew HK) _, by simp⟩
    have hG := grownCap_ge W (n + m) n e
    have hG2 := grownCap_le_maxLen W (n + m) n e h63
    generalize grownCap W (n + m) n e = G at hG hG2
    refine ⟨⟨by rw [List.length_append, hlx, hl, Nat.add_mul], .inr ⟨W.heap.size, G, _, rfl, HK.below.size, heap_alloc_new W.drew _, hG, hG2, ?_, ?_⟩⟩, fun k hk p hp => ?_⟩
    · rw [Array.size_append, Array.size_append, zeroCells_len, hzs]
      simp only [List.size_toArray]
      rw [hlx, hl, ← Nat.add_mul, ← Nat.add_mul]
      congr 1; omega
    · rw [Array.toList_append, Array.toList_append]
      simp only []
      rw [List.take_append_of_le_length (by rw [List.length_append, hlx, hl, Nat.add_mul]; exact Nat.le_refl _), List.take_of_length_le (by rw [List.length_append, hlx, hl, Nat.add_mul]; exact Nat.le_refl _)]
    · simp only [Value.ownBlock, Option.some.injEq] at hk
      have := (HK.rows p hp).2.1
      omega
theorem wp_appendF {o : Oper} {a : Act} {K : Act → World → Prop} {Q : Exit → Act → World → Prop} (s x : Operand) (t e : TypeId) (z : Value) (size bytes : Nat) {w W : World} {rs : List (Nat × List Value)} (HK : KR w rs W) (sx : Option Addr) (n : Nat) (xs : List Value) (hX : SrcV W sx xs) (hlx : xs.length = n * size)
    (sp : Option Addr) (m c : Nat) (news : List Value) (h0 : 0 < m) (hS : SrcV W sp news) (hl : news.length = m * size) (h1 : ∀ u ∈ news, u.oneCell' = true) (h63 : n + m ≤ maxLen) (hbytes : (n + m) * bytes ≤ 140737488355328)
    (ht : P.underlying t = some (.slice e)) (hi : (P.info? e).map (fun i => (i.zero, i.size, i.bytes)) = some (some z, size, bytes)) (hzs : z.cells.size = size) (hsz : 0 < size)
    (ho : o.op = .call { callee := .builtin .append, args := #[s, x], argTypes := #[t, t] }) (hs : a.eval s = .slice sx n n) (hx : a.eval x = .slice sp m c)
    (h : ∀ v' W', Own w rs e size v' (n + m) (xs ++ news) W' → KR w rs W' → W.heap.size ≤ W'.heap.size → K (a.put o.dst v') W') : o.wp P a W K Q := by
  obtain ⟨v', W', hr, h2, h3, h4⟩ := kr_appendF (P := P) HK t o.type e z size bytes ht hi hzs hsz sx n xs hX hlx sp m c news h0 hl hS h1 h63 hbytes
  unfold Oper.wp execOp
  simp only [ho, resolve, invoke, builtin, Sem.run_bind, Sem.run_pure, Result.andThen_ok, List.map_toArray, List.map_cons, List.map_nil, hs, hx, hr]
  exact h v' W' h2 h3 h4
theorem wl_appendF {ops : Array Oper} {rest : List Oper} {o : Oper} {a : Act} {Q : Exit → Act → World → Prop} (s x : Operand) (t e : TypeId) (z : Value) (size bytes : Nat) {w W : World} {rs : List (Nat × List Value)} (HK : KR w rs W) (sx : Option Addr) (n : Nat) (xs : List Value) (hX : SrcV W sx xs) (hlx : xs.length = n * size)
    (sp : Option Addr) (m c : Nat) (news : List Value) (h0 : 0 < m) (hS : SrcV W sp news) (hl : news.length = m * size) (h1 : ∀ u ∈ news, u.oneCell' = true) (h63 : n + m ≤ maxLen) (hbytes : (n + m) * bytes ≤ 140737488355328)
    (ht : P.underlying t = some (.slice e)) (hi : (P.info? e).map (fun i => (i.zero, i.size, i.bytes)) = some (some z, size, bytes)) (hzs : z.cells.size = size) (hsz : 0 < size)
    (hgd : o.guard = none) (ho : o.op = .call { callee := .builtin .append, args := #[s, x], argTypes := #[t, t] }) (hs : a.eval s = .slice sx n n) (hx : a.eval x = .slice sp m c)
    (h : ∀ v' W', Own w rs e size v' (n + m) (xs ++ news) W' → KR w rs W' → W.heap.size ≤ W'.heap.size → wpList P ops Q rest (a.put o.dst v') W') : wpList P ops Q (o :: rest) a W :=
  wpList_plain hgd fun _ hK => wp_appendF s x t e z size bytes HK sx n xs hX hlx sp m c news h0 hS hl h1 h63 hbytes ht hi hzs hsz ho hs hx fun v' W' h2 h3 h4 => hK _ _ (h v' W' h2 h3 h4)
/-- At a step of a region that draws. -/
theorem step_appendF {ops : Array Oper} {o : Oper} {a : Act} {K : Act → World → Prop} {Q : Exit → Act → World → Prop} {E : Prop} (s x : Operand) (t e : TypeId) (z : Value) (size bytes : Nat) {w W : World} {rs : List (Nat × List Value)} (HK : KR w rs W) (sx : Option Addr) (n : Nat) (xs : List Value) (hX : SrcV W sx xs) (hlx : xs.length = n * size)
    (sp : Option Addr) (m c : Nat) (news : List Value) (h0 : 0 < m) (hS : SrcV W sp news) (hl : news.length = m * size) (h1 : ∀ u ∈ news, u.oneCell' = true) (h63 : n + m ≤ maxLen) (hbytes : (n + m) * bytes ≤ 140737488355328)
    (ht : P.underlying t = some (.slice e)) (hi : (P.info? e).map (fun i => (i.zero, i.size, i.bytes)) = some (some z, size, bytes)) (hzs : z.cells.size = size) (hsz : 0 < size)
    (hgd : o.guard = none) (ho : o.op = .call { callee := .builtin .append, args := #[s, x], argTypes := #[t, t] }) (hs : a.eval s = .slice sx n n) (hx : a.eval x = .slice sp m c)
    (h : ∀ v' W', Own w rs e size v' (n + m) (xs ++ news) W' → KR w rs W' → W.heap.size ≤ W'.heap.size → K (a.put o.dst v') W') : if Region.wanted o (yielded ops a.tmps) = true then Oper.wp P o a W K Q else E := by
  have hw : Region.wanted o (yielded ops a.tmps) = true := by simp [Region.wanted, hgd]
  rw [if_pos hw]
  exact wp_appendF s x t e z size bytes HK sx n xs hX hlx sp m c news h0 hS hl h1 h63 hbytes ht hi hzs hsz ho hs hx h
end Go.Proofs.Ytaonaifnaecpiaa.Own
