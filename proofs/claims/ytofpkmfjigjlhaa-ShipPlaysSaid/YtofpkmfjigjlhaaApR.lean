/- append onto a slice that lies in a row kept in sight (in place, or into a new row). No conditions beside those in each lemma. -/
import Derived.Test.YtofpkmfjigjlhaaApF
import Derived.Test.YtofpkmfjigjlhaaLent
import Derived.ArgAppend
namespace Go.Proofs.Ytofpkmfjigjlhaa.Own
set_option linter.unusedVariables false
set_option linter.unusedSimpArgs false
open Go.RowKit
variable {P : Program}
/-- A slice of the call's own, in the row wx (or nothing, and no row). -/
def WS (wx : List (Nat × List Value)) (size : Nat) (v : Value) (n : Nat) (cs : List Value) : Prop :=
  (v = .slice none 0 0 ∧ n = 0 ∧ cs = [] ∧ wx = []) ∨ ∃ g cap cur, wx = [(g, cur)] ∧ v = .slice (some ⟨g, 0, none⟩) n cap ∧ n ≤ cap ∧ cap ≤ maxLen ∧ cap * size = cur.length ∧ cur.take (n * size) = cs
theorem ws_nil (size : Nat) : WS [] size (.slice none 0 0) 0 [] := .inl ⟨rfl, rfl, rfl, rfl⟩
theorem ws_form {wx : List (Nat × List Value)} {size : Nat} {v : Value} {n : Nat} {cs : List Value} (h : WS wx size v n cs) : ∃ s c, v = .slice s n c ∧ n ≤ c ∧ (s = none ∨ ∃ b, s = some ⟨b, 0, none⟩) := by
  rcases h with ⟨rfl, rfl, _⟩ | ⟨g, cap, cur, _, rfl, h, _⟩
  · exact ⟨_, _, rfl, Nat.le_refl _, .inl rfl⟩
  · exact ⟨_, _, rfl, h, .inr ⟨g, rfl⟩⟩
theorem ws_len {wx : List (Nat × List Value)} {size : Nat} {v : Value} {n : Nat} {cs : List Value} (h : WS wx size v n cs) : cs.length = n * size := by
  rcases h with ⟨_, rfl, rfl, _⟩ | ⟨g, cap, cur, _, rfl, h1, _, h2, h3⟩
  · simp
  · rw [← h3, List.length_take, ← h2]
    exact Nat.min_eq_left (Nat.mul_le_mul_right _ h1)
theorem ws_src {wx : List (Nat × List Value)} {size : Nat} {s : Option Addr} {n c : Nat} {cs : List Value} (h : WS wx size (.slice s n c) n cs) : ∀ {w W1 : World} {rs : List (Nat × List Value)}, KR w rs W1 → (∀ p ∈ wx, p ∈ rs) → SrcV W1 s cs := by
  intro w W1 rs H hm
  rcases h with ⟨h0, h1, rfl, _⟩ | ⟨g, cap, cur, rfl, h0, h1, _, h2, h3⟩
  · exact fun h => absurd h (by simp)
  · injection h0 with h0 _ _
    subst h0
    exact srcV_row H (hm _ List.mem_cons_self) h3
theorem ws_cell {wx : List (Nat × List Value)} {size : Nat} {b n c : Nat} {cs : List Value} (h : WS wx size (.slice (some ⟨b, 0, none⟩) n c) n cs) {w W1 : World} {rs : List (Nat × List Value)} (H : KR w rs W1) (hm : ∀ p ∈ wx, p ∈ rs) (j : Nat) (v : Value) (hv : cs[j]? = some v) : W1.cell? ⟨b, j, none⟩ = some v := by
  rcases h with ⟨h0, _⟩ | ⟨g, cap, cur, rfl, h0, h1, _, h2, h3⟩
  · cases h0
  · injection h0 with h0 _ _
    injection h0 with h0
    injection h0 with h0 _ _
    subst h0
    refine range_cell (kr_mem H (hm _ List.mem_cons_self)) j v ?_
    rw [← h3, List.getElem?_take] at hv
    split at hv
    · exact hv
    · cases hv
theorem kr_setMid {w : World} {b : Nat} {rs : List (Nat × List Value)} : ∀ (vs : List Value) (o : Nat) (W : World) (cur : List Value), KR w ((b, cur) :: rs) W → o + vs.length ≤ cur.length → ∃ cur', cur'.length = cur.length ∧ cur'.take (o + vs.length) = cur.take o ++ vs ∧ KR w ((b, cur') :: rs) (W.setCells b o vs) := by
  intro vs
  induction vs with
  | nil => intro o W cur H h; exact ⟨cur, rfl, by simp, H⟩
  | cons v vs ih =>
    intro o W cur H h
    rw [List.length_cons] at h
    have H1 : KR w ((b, cur.set o v) :: rs) (W.setCell ⟨b, o, none⟩ v) := by
      have := kr_fset H 0 rfl o (by omega) v _ rfl
      simpa using this
    obtain ⟨cur', h1, h2, h3⟩ := ih (o + 1) _ _ H1 (by rw [List.length_set]; omega)
    refine ⟨cur', by rw [h1, List.length_set], ?_, by rw [World.setCells]; exact h3⟩
    rw [List.length_cons, show o + (vs.length + 1) = o + 1 + vs.length from by omega, h2]
    have : (cur.set o v).take (o + 1) = cur.take o ++ [v] := by
      rw [List.take_add_one, List.take_set_of_le (Nat.le_refl _), List.getElem?_set_self (by omega)]; rfl
    rw [this, List.append_assoc]; rfl
theorem kr_appendR {w W : World} {wx rs : List (Nat × List Value)} (HK : KR w (wx ++ rs) W) (t ty e : TypeId) (z : Value) (size bytes : Nat) (ht : P.underlying t = some (.slice e))
    (hi : (P.info? e).map (fun i => (i.zero, i.size, i.bytes)) = some (some z, size, bytes)) (hzs : z.cells.size = size) (hsz : 0 < size) {v : Value} {n : Nat} {cs : List Value} (hw : WS wx size v n cs)
    (sp : Option Addr) (m c : Nat) (news : List Value) (h0 : 0 < m) (hl : news.length = m * size) (hS : SrcV W sp news) (h1 : ∀ u ∈ news, u.oneCell' = true) (h63 : n + m ≤ maxLen) (hbytes : (n + m) * bytes ≤ 140737488355328) :
    ∃ v' W' wx', (Builtin.append_ #[t, t] ty #[v, .slice sp m c]).run P W = .ok v' W' ∧ WS wx' size v' (n + m) (cs ++ news) ∧ KR w (wx' ++ rs) W' ∧ W.heap.size ≤ W'.heap.size ∧ (wx.length ≤ wx'.length) := by
  have hclen := ws_len hw
  rcases hw with ⟨rfl, rfl, rfl, rfl⟩ | ⟨g, cap, cur, rfl, rfl, hn, hm, hc, ht2⟩
  · obtain ⟨v', W', hr, h2, h3, h4⟩ := kr_append (P := P) HK t ty e z size bytes ht hi hzs hsz (own_nilF w ([] ++ rs) W e size) sp m c news hl hS h1 h63 hbytes
    obtain ⟨g, cap, cur, rfl, HL, h5, h6, h7⟩ := own_settle1 h3 h2 (by omega)
    have h8 : cap ≤ maxLen := by
      rcases h2.1.2 with ⟨h, _⟩ | ⟨g', cap', cur', h, _, _, _, h9, _⟩
      · cases h
      · injection h with _ _ h; omega
    exact ⟨_, W', [(g, cur)], hr, .inr ⟨g, cap, cur, rfl, rfl, h5, h8, h6, h7⟩, HL, h4, by simp⟩
  · obtain ⟨i, hi0, hi1⟩ := Option.map_eq_some_iff.1 hi
    simp only [Prod.mk.injEq] at hi1
    obtain ⟨hz, hs, hb⟩ := hi1
    obtain ⟨A, rfl, hcell⟩ := hS (by rw [hl]; exact Nat.mul_pos h0 hsz)
    have HK' : KR w ((g, cur) :: rs) W := HK
    by_cases hroom : n + m ≤ cap
    · have hfit : n * size + news.length ≤ cur.length := by rw [hl, ← hc, ← Nat.add_mul]; exact Nat.mul_le_mul_right _ hroom
      subst hs
      have hth := (HK'.rows (g, cur) List.mem_cons_self).2.2.2
      have hr := run_append_room_cells (P := P) W t ty e i ht hi0 g 0 n cap A m c news hl hcell h1 hroom (fun j hj => by have := (hth (n * i.size + j) (by simp only; omega)).1; rwa [show 0 + (n * i.size + j) = 0 + n * i.size + j from by omega] at this) (fun j hj => by have := (hth (n * i.size + j) (by simp only; omega)).2; rwa [show 0 + (n * i.size + j) = 0 + n * i.size + j from by omega] at this)
      rw [Nat.zero_add] at hr
      obtain ⟨cur', k1, k2, k3⟩ := kr_setMid news (n * i.size) W cur HK' hfit
      refine ⟨_, _, [(g, cur')], hr, .inr ⟨g, cap, cur', rfl, rfl, hroom, hm, by rw [k1, hc], by rw [Nat.add_mul, ← hl, k2, ht2]⟩, k3, by rw [size_setCells]; exact Nat.le_refl _, Nat.le_refl _⟩
    · have holds : ∀ j u, cs[j]? = some u → W.cell? ((⟨g, 0, none⟩ : Addr).add j) = some u := fun j u hu => by
        rw [Addr.add_mid, Nat.zero_add]
        refine range_cell (kr_mem HK' List.mem_cons_self) j u ?_
        rw [← ht2, List.getElem?_take] at hu
        split at hu
        · exact hu
        · cases hu
      have hr := run_append_grow (P := P) (w := W) t ty e i z ht hi0 hz ⟨g, 0, none⟩ n cap cs (by rw [hs]; exact hclen) holds A m c news (by rw [hs]; exact hl) hcell (by omega) (by unfold maxLen at h63; omega) (by rw [hb]; exact growslice_fits (by omega) hbytes)
      have hG := grownCap_ge W (n + m) cap e
      have hG2 := grownCap_le_maxLen W (n + m) cap e h63
      generalize grownCap W (n + m) cap e = G at hr hG hG2
      refine ⟨_, _, [(W.drew.heap.size, (cs.toArray ++ news.toArray ++ Builtin.zeroCells z.cells (G - (n + m))).toList)], hr, .inr ⟨_, G, _, rfl, rfl, hG, hG2, ?_, ?_⟩, ?_, by simp, Nat.le_refl _⟩
      · rw [Array.length_toList, Array.size_append, Array.size_append, zeroCells_len, hzs]
        simp only [List.size_toArray]
        rw [hclen, hl, ← Nat.add_mul, ← Nat.add_mul]
        congr 1; omega
      · rw [Array.toList_append, Array.toList_append]
        simp only []
        rw [List.take_append_of_le_length (by rw [List.length_append, hclen, hl, Nat.add_mul]; exact Nat.le_refl _), List.take_of_length_le (by rw [List.length_append, hclen, hl, Nat.add_mul]; exact Nat.le_refl _)]
      · have := kr_tail (kr_swap (kr_new (kr_drew HK') ((cs.toArray ++ news.toArray ++ Builtin.zeroCells z.cells (G - (n + m))).toList) e))
        exact this
theorem wp_appendR {o : Oper} {a : Act} {K : Act → World → Prop} {Q : Exit → Act → World → Prop} (s x : Operand) (t e : TypeId) (z : Value) (size bytes : Nat) {w W : World} {wx rs : List (Nat × List Value)} (HK : KR w (wx ++ rs) W) {v : Value} {n : Nat} {cs : List Value} (hw : WS wx size v n cs)
    (sp : Option Addr) (m c : Nat) (news : List Value) (h0 : 0 < m) (hS : SrcV W sp news) (hl : news.length = m * size) (h1 : ∀ u ∈ news, u.oneCell' = true) (h63 : n + m ≤ maxLen) (hbytes : (n + m) * bytes ≤ 140737488355328)
    (ht : P.underlying t = some (.slice e)) (hi : (P.info? e).map (fun i => (i.zero, i.size, i.bytes)) = some (some z, size, bytes)) (hzs : z.cells.size = size) (hsz : 0 < size)
    (ho : o.op = .call { callee := .builtin .append, args := #[s, x], argTypes := #[t, t] }) (hs : a.eval s = v) (hx : a.eval x = .slice sp m c)
    (h : ∀ v' W' wx', WS wx' size v' (n + m) (cs ++ news) → KR w (wx' ++ rs) W' → W.heap.size ≤ W'.heap.size → K (a.put o.dst v') W') : o.wp P a W K Q := by
  obtain ⟨v', W', wx', hr, h2, h3, h4, _⟩ := kr_appendR (P := P) HK t o.type e z size bytes ht hi hzs hsz hw sp m c news h0 hl hS h1 h63 hbytes
  unfold Oper.wp execOp
  simp only [ho, resolve, invoke, builtin, Sem.run_bind, Sem.run_pure, Result.andThen_ok, List.map_toArray, List.map_cons, List.map_nil, hs, hx, hr]
  exact h v' W' wx' h2 h3 h4
theorem wl_appendR {ops : Array Oper} {rest : List Oper} {o : Oper} {a : Act} {Q : Exit → Act → World → Prop} (s x : Operand) (t e : TypeId) (z : Value) (size bytes : Nat) {w W : World} {wx rs : List (Nat × List Value)} (HK : KR w (wx ++ rs) W) {v : Value} {n : Nat} {cs : List Value} (hw : WS wx size v n cs)
    (sp : Option Addr) (m c : Nat) (news : List Value) (h0 : 0 < m) (hS : SrcV W sp news) (hl : news.length = m * size) (h1 : ∀ u ∈ news, u.oneCell' = true) (h63 : n + m ≤ maxLen) (hbytes : (n + m) * bytes ≤ 140737488355328)
    (ht : P.underlying t = some (.slice e)) (hi : (P.info? e).map (fun i => (i.zero, i.size, i.bytes)) = some (some z, size, bytes)) (hzs : z.cells.size = size) (hsz : 0 < size)
    (hgd : o.guard = none) (ho : o.op = .call { callee := .builtin .append, args := #[s, x], argTypes := #[t, t] }) (hs : a.eval s = v) (hx : a.eval x = .slice sp m c)
    (h : ∀ v' W' wx', WS wx' size v' (n + m) (cs ++ news) → KR w (wx' ++ rs) W' → W.heap.size ≤ W'.heap.size → wpList P ops Q rest (a.put o.dst v') W') : wpList P ops Q (o :: rest) a W :=
  wpList_plain hgd fun _ hK => wp_appendR s x t e z size bytes HK hw sp m c news h0 hS hl h1 h63 hbytes ht hi hzs hsz ho hs hx fun v' W' wx' h2 h3 h4 => hK _ _ (h v' W' wx' h2 h3 h4)
/-- At a step of a region that draws. -/
theorem step_appendR {ops : Array Oper} {o : Oper} {a : Act} {K : Act → World → Prop} {Q : Exit → Act → World → Prop} {E : Prop} (s x : Operand) (t e : TypeId) (z : Value) (size bytes : Nat) {w W : World} {wx rs : List (Nat × List Value)} (HK : KR w (wx ++ rs) W) {v : Value} {n : Nat} {cs : List Value} (hw : WS wx size v n cs)
    (sp : Option Addr) (m c : Nat) (news : List Value) (h0 : 0 < m) (hS : SrcV W sp news) (hl : news.length = m * size) (h1 : ∀ u ∈ news, u.oneCell' = true) (h63 : n + m ≤ maxLen) (hbytes : (n + m) * bytes ≤ 140737488355328)
    (ht : P.underlying t = some (.slice e)) (hi : (P.info? e).map (fun i => (i.zero, i.size, i.bytes)) = some (some z, size, bytes)) (hzs : z.cells.size = size) (hsz : 0 < size)
    (hgd : o.guard = none) (ho : o.op = .call { callee := .builtin .append, args := #[s, x], argTypes := #[t, t] }) (hs : a.eval s = v) (hx : a.eval x = .slice sp m c)
    (h : ∀ v' W' wx', WS wx' size v' (n + m) (cs ++ news) → KR w (wx' ++ rs) W' → W.heap.size ≤ W'.heap.size → K (a.put o.dst v') W') : if Region.wanted o (yielded ops a.tmps) = true then Oper.wp P o a W K Q else E := by
  have hwt : Region.wanted o (yielded ops a.tmps) = true := by simp [Region.wanted, hgd]
  rw [if_pos hwt]
  exact wp_appendR s x t e z size bytes HK hw sp m c news h0 hS hl h1 h63 hbytes ht hi hzs hsz ho hs hx h
/-! Lists of blocks of one size. -/
def Same (k : Nat) (L : List (List Value)) : Prop := ∀ b ∈ L, b.length = k
theorem fl_len {k : Nat} : ∀ {L : List (List Value)}, Same k L → L.flatten.length = L.length * k := by
  intro L
  induction L with
  | nil => intro _; simp
  | cons b L ih => intro h; rw [List.flatten_cons, List.length_append, h b List.mem_cons_self, ih (fun x hx => h x (List.mem_cons_of_mem _ hx)), List.length_cons, Nat.add_mul, Nat.one_mul, Nat.add_comm]
theorem fl_get {k : Nat} : ∀ {L : List (List Value)}, Same k L → ∀ (j i : Nat) (b : List Value) (v : Value), L[j]? = some b → b[i]? = some v → L.flatten[j * k + i]? = some v := by
  intro L
  induction L with
  | nil => intro _ j i b v h; simp at h
  | cons c L ih =>
    intro h j i b v hb hv
    have hc := h c List.mem_cons_self
    cases j with
    | zero =>
      simp at hb; subst hb
      have hi := (List.getElem?_eq_some_iff.1 hv).1
      rw [List.flatten_cons, Nat.zero_mul, Nat.zero_add, List.getElem?_append_left hi]; exact hv
    | succ j =>
      rw [List.flatten_cons, List.getElem?_append_right (by rw [hc, Nat.add_mul]; omega), hc, show (j + 1) * k + i - k = j * k + i from by rw [Nat.add_mul]; omega]
      exact ih (fun x hx => h x (List.mem_cons_of_mem _ hx)) j i b v (by simpa using hb) hv
theorem fl_take {k : Nat} : ∀ {L : List (List Value)}, Same k L → ∀ n, L.flatten.take (n * k) = (L.take n).flatten := by
  intro L
  induction L with
  | nil => intro _ n; simp
  | cons b L ih =>
    intro h n
    have hb := h b List.mem_cons_self
    cases n with
    | zero => simp
    | succ n =>
      rw [List.flatten_cons, List.take_succ_cons, List.flatten_cons, ← ih (fun x hx => h x (List.mem_cons_of_mem _ hx)), List.take_append, hb, List.take_of_length_le (by rw [hb, Nat.add_mul]; omega), show (n + 1) * k - k = n * k from by rw [Nat.add_mul]; omega]
theorem fl_drop {k : Nat} : ∀ {L : List (List Value)}, Same k L → ∀ n, L.flatten.drop (n * k) = (L.drop n).flatten := by
  intro L
  induction L with
  | nil => intro _ n; simp
  | cons b L ih =>
    intro h n
    have hb := h b List.mem_cons_self
    cases n with
    | zero => simp
    | succ n =>
      rw [List.flatten_cons, List.drop_succ_cons, ← ih (fun x hx => h x (List.mem_cons_of_mem _ hx)), List.drop_append, hb, List.drop_eq_nil_of_le (by rw [hb, Nat.add_mul]; omega), List.nil_append, show (n + 1) * k - k = n * k from by rw [Nat.add_mul]; omega]
end Go.Proofs.Ytofpkmfjigjlhaa.Own
