/- append under rows kept in sight, with the wider bound of bytes. No conditions beside those in each lemma. -/
import Derived.Test.YtaonaifnaecpiaaAp
import Derived.Deep.DeepAppendWide
namespace Go.Proofs.Ytaonaifnaecpiaa.Own
open Go.RowKit
variable {P : Program}
theorem kr_appendW {w W : World} {rs : List (Nat × List Value)} (HK : KR w rs W) (t ty e : TypeId) (z : Value) (size bytes : Nat) (ht : P.underlying t = some (.slice e))
    (hi : (P.info? e).map (fun i => (i.zero, i.size, i.bytes)) = some (some z, size, bytes)) (hzs : z.cells.size = size) (hsz : 0 < size) {v : Value} {n : Nat} {xs : List Value} (hown : Own w rs e size v n xs W)
    (A : Addr) (m c : Nat) (news : List Value) (hl : news.length = m * size) (hcells : ∀ j u, news[j]? = some u → W.cell? (A.add j) = some u) (h1 : ∀ u ∈ news, u.oneCell' = true) (h63 : n + m ≤ maxLen) (hbytes : ((n + m) + (n + m) / 4 + 192) * bytes ≤ 281474976710656) :
    ∃ v' W', (Builtin.append_ #[t, t] ty #[v, .slice (some A) m c]).run P W = .ok v' W' ∧ Own w rs e size v' (n + m) (xs ++ news) W' ∧ KR w rs W' ∧ W.heap.size ≤ W'.heap.size := by
  obtain ⟨i, hi0, hi1⟩ := Option.map_eq_some_iff.1 hi
  simp only [Prod.mk.injEq] at hi1
  obtain ⟨hz, hs, hb⟩ := hi1
  obtain ⟨v', W', hr, h2, h3, h4⟩ := run_append_own_wide (P := P) W w.heap.size t ty e i z size bytes ht hi0 hz hs hb hzs hsz v n xs hown.1 A m c news hl hcells h1 h63 hbytes HK.below.size
  have h5 : ∀ k, v'.ownBlock = some k → v.ownBlock = some k ∨ W.heap.size ≤ k := by
    rcases hown.1.2 with ⟨rfl, rfl⟩ | ⟨g, cap, cur, rfl, hbg, hg, hnc, hcm, hcs, htake⟩
    · have hx : xs = [] := List.eq_nil_of_length_eq_zero (by simpa using hown.1.1)
      subst hx
      obtain ⟨v2, W2, hr2, h22, _⟩ := run_append_own_wide (P := P) W W.heap.size t ty e i z size bytes ht hi0 hz hs hb hzs hsz (.slice none 0 0) 0 [] (World.ownsRow_nil _ _ _ _) A m c news hl hcells h1 h63 hbytes (Nat.le_refl _)
      rw [hr] at hr2
      injection hr2 with e1 e2
      subst e1
      exact fun k hk => .inr (h22.lt k hk).1
    · subst hs
      by_cases hroom : n + m ≤ cap
      · have hfit : n * i.size + news.length ≤ cur.size := by rw [hl, hcs, ← Nat.add_mul]; exact Nat.mul_le_mul_right _ hroom
        have hr2 := run_append_room (P := P) W t ty e i ht hi0 g n cap cur hg A m c news hl hcells h1 hroom hfit
        rw [hr] at hr2
        injection hr2 with e1 e2
        subst e1
        exact fun k hk => .inl hk
      · have holds : ∀ j u, xs[j]? = some u → W.cell? ((⟨g, 0, none⟩ : Addr).add j) = some u := hown.1.cells (g := g) rfl
        have hr2 := run_append_grow (P := P) W t ty e i z ht hi0 hz ⟨g, 0, none⟩ n cap xs hown.1.1 holds A m c news hl hcells (by omega) (by unfold maxLen at h63; omega) (growslice_fits_wide (by omega) (by rw [hb]; exact hbytes))
        rw [hr] at hr2
        injection hr2 with e1 e2
        subst e1
        intro k hk
        simp only [Value.ownBlock, Option.some.injEq] at hk
        exact .inr (by omega)
  refine ⟨v', W', hr, ⟨h2, fun k hk p hp => ?_⟩, kr_grown HK h3 (fun k hk => ⟨(hown.1.lt k hk).1, hown.2 k hk⟩), h3.size⟩
  rcases h5 k hk with h5 | h5
  · exact hown.2 k h5 p hp
  · have := (HK.rows p hp).2.1
    omega
theorem wl_appendW {ops : Array Oper} {rest : List Oper} {o : Oper} {a : Act} {Q : Exit → Act → World → Prop} (s x : Operand) (t e : TypeId) (z : Value) (size bytes : Nat) {w W : World} {rs : List (Nat × List Value)} (HK : KR w rs W) {v : Value} {n : Nat} {xs : List Value} (hown : Own w rs e size v n xs W)
    (A : Addr) (m c : Nat) (news : List Value) (hS : SrcV W (some A) news) (hp : 0 < m) (hl : news.length = m * size) (h1 : ∀ u ∈ news, u.oneCell' = true) (h63 : n + m ≤ maxLen) (hbytes : ((n + m) + (n + m) / 4 + 192) * bytes ≤ 281474976710656)
    (ht : P.underlying t = some (.slice e)) (hi : (P.info? e).map (fun i => (i.zero, i.size, i.bytes)) = some (some z, size, bytes)) (hzs : z.cells.size = size) (hsz : 0 < size)
    (hgd : o.guard = none) (ho : o.op = .call { callee := .builtin .append, args := #[s, x], argTypes := #[t, t] }) (hs : a.eval s = v) (hx : a.eval x = .slice (some A) m c)
    (h : ∀ v' W', Own w rs e size v' (n + m) (xs ++ news) W' → KR w rs W' → W.heap.size ≤ W'.heap.size → wpList P ops Q rest (a.put o.dst v') W') : wpList P ops Q (o :: rest) a W :=
  wpList_plain hgd fun _ hK => by
    obtain ⟨v', W', hr, h2, h3, h4⟩ := kr_appendW (P := P) HK t o.type e z size bytes ht hi hzs hsz hown A m c news hl (fun j u hu => by
      obtain ⟨B, hB, hc⟩ := hS (by rw [hl]; exact Nat.mul_pos hp hsz)
      injection hB with hB
      subst hB
      exact hc j u hu) h1 h63 hbytes
    unfold Oper.wp execOp
    simp only [ho, resolve, invoke, builtin, Sem.run_bind, Sem.run_pure, Result.andThen_ok, List.map_toArray, List.map_cons, List.map_nil, hs, hx, hr]
    exact hK _ _ (h v' W' h2 h3 h4)
end Go.Proofs.Ytaonaifnaecpiaa.Own
