/- Words that are joined are the same words. No conditions beside those in each theorem. -/
import Derived.Test.YtklpcmfigfigcaaLzR
import Derived.Lib.Join
namespace Go.Proofs.Ytklpcmfigfigcaa.Own
open Go.RowKit Go.Proofs.YtklpcmfigfigcaaW.PrintWords Go.Proofs.Ytklpcmfigfigcaa.Pz
set_option linter.unusedSimpArgs false
set_option linter.unusedVariables false
def isBy (l : List Int) : Prop := ∀ c ∈ l, 0 ≤ c ∧ c < 256
theorem bytes_son {l : List Int} (h : isBy l) : bytesOf (strOfNums l) = l := by
  unfold bytesOf strOfNums
  simp only [List.map_map]
  conv => rhs; rw [← List.map_id l]
  refine List.map_congr_left fun c hc => ?_
  have := h c hc
  simp only [Function.comp_apply, UInt8.toNat_ofNat', id_eq]
  omega
theorem bytes_by (s : ByteArray) : isBy (bytesOf s) := fun c hc => by
  unfold bytesOf at hc
  obtain ⟨b, _, rfl⟩ := List.mem_map.1 hc
  exact byte_range b
theorem by_drop {l : List Int} (h : isBy l) (n : Nat) : isBy (l.drop n) := fun c hc => h c (List.mem_of_mem_drop hc)
theorem by_take {l : List Int} (h : isBy l) (n : Nat) : isBy (l.take n) := fun c hc => h c (List.mem_of_mem_take hc)
theorem foldC_by {c : Int} (h : 0 ≤ c ∧ c < 256) : 0 ≤ foldC c ∧ foldC c < 256 := by unfold foldC; split <;> omega
theorem isLt_iff {c : Int} : isLt c = true ↔ (65 ≤ c ∧ c ≤ 90) ∨ (97 ≤ c ∧ c ≤ 122) := by unfold isLt; simp
theorem isDg_iff {c : Int} : isDg c = true ↔ 48 ≤ c ∧ c ≤ 57 := by unfold isDg; simp
theorem isPt_iff {c : Int} : isPt c = true ↔ ((65 ≤ c ∧ c ≤ 90) ∨ (97 ≤ c ∧ c ≤ 122)) ∨ (48 ≤ c ∧ c ≤ 57) ∨ c = 95 := by
  unfold isPt; rw [Bool.or_eq_true, Bool.or_eq_true, isLt_iff, isDg_iff]; simp [or_assoc]
theorem foldC_pt {c : Int} (h : isPt c = true) : isPt (foldC c) = true := by rw [isPt_iff] at *; unfold foldC; split <;> omega
theorem foldC_lt {c : Int} (h : isLt c = true) : isLt (foldC c) = true := by rw [isLt_iff] at *; unfold foldC; split <;> omega
theorem foldC_idem (c : Int) : foldC (foldC c) = foldC c := by unfold foldC; split <;> (try split) <;> omega
/-- What follows a word: nothing, or a blank. -/
def Nx (r : List Int) : Prop := r = [] ∨ ∃ x, r = 32 :: x
theorem runN_full {p : Int → Bool} (h32 : p 32 = false) {w r : List Int} (hw : ∀ c ∈ w, p c = true) (hr : Nx r) : runN p (w ++ r) = w.length := by
  induction w with
  | nil =>
    rcases hr with rfl | ⟨x, rfl⟩
    · rfl
    · rw [List.nil_append, runN_no h32]; rfl
  | cons c w ih =>
    rw [List.cons_append, runN_yes (hw c List.mem_cons_self), ih (fun x hx => hw x (List.mem_cons_of_mem _ hx)), List.length_cons]
    omega
theorem okAt_nx {w r : List Int} (hr : Nx r) : okAt (w ++ r) w.length = true := by
  rcases hr with rfl | ⟨x, rfl⟩
  · rw [List.append_nil]; exact okAt_end (Nat.le_refl _)
  · rw [okAt_in (c := 32) (by rw [List.getElem?_append_right (Nat.le_refl _), Nat.sub_self]; rfl)]; rfl
theorem nx_ne {w r : List Int} (hr : Nx r) : (w ++ r)[w.length]? ≠ some 58 := by
  rcases hr with rfl | ⟨x, rfl⟩
  · rw [List.append_nil, List.getElem?_eq_none (Nat.le_refl _)]; simp
  · rw [List.getElem?_append_right (Nat.le_refl _), Nat.sub_self]; simp
theorem runN_mem {p : Int → Bool} {l : List Int} : ∀ c ∈ l.take (runN p l), p c = true := fun c hc => by
  obtain ⟨j, hj⟩ := List.mem_iff_getElem?.1 hc
  rw [List.getElem?_take] at hj
  split at hj
  · rename_i h; exact runN_all h hj
  · cases hj
theorem numR_self {l : List Int} (h1 : 1 ≤ runN isDg l) (h : (numR l).2.2.2 = true) {r : List Int} (hr : Nx r) : numR ((numR l).2.1 ++ r) = ((numR l).1, (numR l).2.1, (numR l).2.2.1, true) ∧ ∃ c u, (numR l).2.1 = c :: u ∧ isDg c = true := by
  have hle := runN_le isDg l
  have hmem := runN_mem (p := isDg) (l := l)
  rw [numR_eq l] at *
  by_cases hc : runN isDg l = 2 ∧ l[2]? = some 58
  · rw [if_pos hc] at *
    by_cases h5 : l.length < 5
    · rw [if_pos h5] at h; simp at h
    · rw [if_neg h5] at *
      by_cases h6 : (wreadF (l.take 5)).2 ≠ 0
      · rw [if_pos h6] at h; simp at h
      · rw [if_neg h6] at *
        have h6' : (wreadF (l.take 5)).2 = 0 := by simpa using h6
        obtain ⟨a, b, x, c, d, ht, ha, hb, hcc, hd⟩ := wread_ok h6'
        have hx : x = 58 := by
          have h1 : (l.take 5)[2]? = some 58 := by rw [List.getElem?_take, if_pos (by omega)]; exact hc.2
          rw [ht] at h1; simpa using h1
        subst hx
        have h6'' : (wreadF [a, b, 58, c, d]).2 = 0 := by rw [← ht]; exact h6'
        simp only
        rw [ht] at *
        refine ⟨?_, a, _, rfl, ha⟩
        have hn : runN isDg ([a, b, 58, c, d] ++ r) = 2 := by
          show runN isDg (a :: b :: 58 :: c :: d :: r) = 2
          rw [runN_yes ha, runN_yes hb, runN_no (by rfl)]
        have hok5 : okAt ([a, b, 58, c, d] ++ r) 5 = true := okAt_nx (w := [a, b, 58, c, d]) hr
        rw [numR_eq, if_pos ⟨hn, rfl⟩, if_neg (by simp), show (([a, b, 58, c, d] ++ r : List Int)).take 5 = [a, b, 58, c, d] from rfl, if_neg (by rw [h6'']; simp), hok5]
  · rw [if_neg hc] at *
    by_cases h9 : 9 < runN isDg l
    · rw [if_pos h9] at h; simp at h
    · rw [if_neg h9] at *
      simp only
      have hlen : (l.take (runN isDg l)).length = runN isDg l := by rw [List.length_take]; omega
      have hrn := runN_full (p := isDg) rfl hmem hr
      rw [hlen] at hrn
      have hok := okAt_nx (w := l.take (runN isDg l)) hr
      have hnx := nx_ne (w := l.take (runN isDg l)) hr
      rw [hlen] at hok hnx
      have htk : (l.take (runN isDg l) ++ r).take (runN isDg l) = l.take (runN isDg l) := List.take_left' hlen
      refine ⟨?_, ?_⟩
      · rw [numR_eq, hrn, if_neg (by rintro ⟨h2, h3⟩; rw [← h2] at h3; exact hnx h3), if_neg h9, htk, hok]
      · cases hl : l.take (runN isDg l) with
        | nil => rw [hl] at hlen; simp at hlen; omega
        | cons c u => exact ⟨c, u, rfl, hmem c (by rw [hl]; exact List.mem_cons_self)⟩
/-- A word that is read as itself, whatever blank follows. -/
def Self (t : S28) : Prop := (∃ c u, bytesOf t.f1 = c :: u ∧ isBk c = false ∧ c ≠ 35) ∧ ∀ r, Nx r → tokR (bytesOf t.f1 ++ r) = (t.f0, bytesOf t.f1, t.f2, true)
theorem isSg_ne {c : Int} (h : isSg c = true) : isBk c = false ∧ c ≠ 35 := by
  have h1 : ∀ x : Int, isSg x = false → c ≠ x := fun x hx e => by rw [e, hx] at h; cases h
  have a1 := h1 32 (by decide)
  have a2 := h1 9 (by decide)
  have a3 := h1 10 (by decide)
  have a4 := h1 13 (by decide)
  have a5 := h1 35 (by decide)
  refine ⟨?_, a5⟩
  unfold isBk
  simp [a1, a2, a3, a4]
theorem bk_lt {c : Int} (h : isLt c = true) : isBk c = false ∧ c ≠ 35 := by
  rw [isLt_iff] at h
  unfold isBk
  simp
  omega
theorem bk_dg {c : Int} (h : isDg c = true) : isBk c = false ∧ c ≠ 35 := by
  rw [isDg_iff] at h
  unfold isBk
  simp
  omega
theorem tokR_self {c : Int} {l : List Int} (hb : isBy (c :: l)) (h : (tokR (c :: l)).2.2.2 = true) (p : Int) : Self ⟨(tokR (c :: l)).1, strOfNums (tokR (c :: l)).2.1, (tokR (c :: l)).2.2.1, p⟩ := by
  rw [tokR] at *
  by_cases hl : isLt c = true
  · rw [if_pos hl] at *
    have hle := runN_le isPt (c :: l)
    have h1 : 1 ≤ runN isPt (c :: l) := by rw [runN_yes (isPt_lt hl)]; omega
    have h20 : runN isPt (c :: l) ≤ 20 := by simpa using h
    have hw : isBy (((c :: l).take (runN isPt (c :: l))).map foldC) := fun x hx => by
      obtain ⟨y, hy, rfl⟩ := List.mem_map.1 hx
      exact foldC_by (by_take hb _ y hy)
    have hpt : ∀ x ∈ ((c :: l).take (runN isPt (c :: l))).map foldC, isPt x = true := fun x hx => by
      obtain ⟨y, hy, rfl⟩ := List.mem_map.1 hx
      exact foldC_pt (runN_mem y hy)
    have hlen : (((c :: l).take (runN isPt (c :: l))).map foldC).length = runN isPt (c :: l) := by rw [List.length_map, List.length_take]; omega
    have hhd : ∃ u, ((c :: l).take (runN isPt (c :: l))).map foldC = foldC c :: u := by
      obtain ⟨m, hm⟩ : ∃ m, runN isPt (c :: l) = m + 1 := ⟨runN isPt (c :: l) - 1, by omega⟩
      rw [hm]; exact ⟨_, rfl⟩
    have hid : (((c :: l).take (runN isPt (c :: l))).map foldC).map foldC = ((c :: l).take (runN isPt (c :: l))).map foldC := by
      rw [List.map_map]; exact List.map_congr_left fun x _ => foldC_idem x
    generalize ((c :: l).take (runN isPt (c :: l))).map foldC = w at *
    obtain ⟨u, rfl⟩ := hhd
    unfold Self
    simp only
    rw [bytes_son hw]
    refine ⟨⟨_, _, rfl, bk_lt (foldC_lt hl)⟩, fun r hr => ?_⟩
    have hrn := runN_full (p := isPt) rfl hpt hr
    rw [List.cons_append] at *
    rw [tokR, if_pos (foldC_lt hl), hrn, show foldC c :: (u ++ r) = (foldC c :: u) ++ r from rfl, List.take_left' rfl, hid, hlen, decide_eq_true h20]
  · rw [if_neg hl] at *
    by_cases hd : isDg c = true
    · rw [if_pos hd] at *
      have h1 : 1 ≤ runN isDg (c :: l) := by rw [runN_yes hd]; omega
      have hs := fun r (hr : Nx r) => numR_self h1 h hr
      have hf := numR_fold h
      obtain ⟨_, a, u, hau, had⟩ := hs [] (.inl rfl)
      have hw : isBy (numR (c :: l)).2.1 := by
        rw [← hf]
        intro x hx
        obtain ⟨y, hy, rfl⟩ := List.mem_map.1 hx
        exact foldC_by (by_take hb _ y hy)
      unfold Self
      simp only
      rw [bytes_son hw]
      refine ⟨⟨a, u, hau, bk_dg had⟩, fun r hr => ?_⟩
      have := (hs r hr).1
      rw [hau] at this ⊢
      rw [List.cons_append] at this ⊢
      rw [tokR, if_neg (by rw [isLt_iff]; rw [isDg_iff] at had; omega), if_pos had, this]
    · rw [if_neg hd] at *
      have hw : isBy [c] := fun x hx => by rw [List.mem_singleton.1 hx]; exact hb c List.mem_cons_self
      unfold Self
      simp only
      rw [bytes_son hw]
      refine ⟨⟨c, [], rfl, isSg_ne h⟩, fun r hr => ?_⟩
      rw [List.cons_append, tokR, if_neg hl, if_neg hd]
      simp only at h
      rw [h]
theorem lexF_self : ∀ (n : Nat) (l : List Int) (p : Nat) (ts : List S28), l.length ≤ n → isBy l → lexF l p = .ok ts → ∀ t ∈ ts, Self t := by
  intro n
  induction n with
  | zero =>
    intro l p ts hn hb h
    obtain rfl : l = [] := List.eq_nil_of_length_eq_zero (by omega)
    rw [lexF_nil p (by simp)] at h
    injection h with h
    subst h
    intro t ht; simp at ht
  | succ n ih =>
    intro l p ts hn hb h
    cases hx : l.drop (restF l) with
    | nil =>
      rw [lexF_nil p hx] at h
      injection h with h
      subst h
      intro t ht; simp at ht
    | cons c t =>
      rw [lexF_cons p hx] at h
      have hbt : isBy (c :: t) := by rw [← hx]; exact by_drop hb _
      have hlen : (c :: t).length ≤ l.length := by rw [← hx, List.length_drop]; omega
      by_cases hk : (tokR (c :: t)).2.2.2 = true
      · rw [if_pos hk] at h
        have hl := tokR_len hk
        cases hy : lexF ((c :: t).drop (tokR (c :: t)).2.1.length) (p + restF l + (tokR (c :: t)).2.1.length) with
        | error e => rw [hy] at h; cases h
        | ok us =>
          rw [hy] at h
          injection h with h
          subst h
          intro x hx2
          rcases List.mem_cons.1 hx2 with rfl | hx2
          · exact tokR_self hbt hk _
          · exact ih _ _ us (by rw [List.length_drop]; omega) (by_drop hbt _) hy x hx2
      · rw [if_neg hk] at h
        cases h
def jnT (ws : List (List Int)) : List Int := (ws.map (32 :: ·)).flatten
def jn : List (List Int) → List Int
  | [] => []
  | w :: ws => w ++ jnT ws
theorem jnT_cons (w : List Int) (ws : List (List Int)) : jnT (w :: ws) = 32 :: jn (w :: ws) := rfl
theorem jnT_nx (ws : List (List Int)) : Nx (jnT ws) := by
  cases ws with
  | nil => exact .inl rfl
  | cons w ws => exact .inr ⟨_, rfl⟩
theorem rest_zero {c : Int} {l : List Int} (h1 : isBk c = false) (h2 : c ≠ 35) : restF (c :: l) = 0 := by
  rw [restF_cons, if_neg (by simp [h1]), if_neg h2]
theorem lexF_jn : ∀ (ts : List S28) (p : Nat), (∀ t ∈ ts, Self t) → ∃ us, lexF (jn (ts.map fun t => bytesOf t.f1)) p = .ok us ∧ us.length = ts.length ∧ ∀ (i : Nat) (x y : S28), ts[i]? = some x → us[i]? = some y → x.f0 = y.f0 ∧ x.f1 = y.f1 ∧ x.f2 = y.f2 := by
  intro ts
  induction ts with
  | nil => exact fun p _ => ⟨[], lexF_nil p rfl, rfl, fun i x y h => by simp at h⟩
  | cons t ts ih =>
    intro p h
    obtain ⟨⟨c, u, hw, hb, h35⟩, hself⟩ := h t List.mem_cons_self
    have hs := hself _ (jnT_nx (ts.map fun t => bytesOf t.f1))
    have hz : restF (bytesOf t.f1 ++ jnT (ts.map fun t => bytesOf t.f1)) = 0 := by rw [hw, List.cons_append]; exact rest_zero hb h35
    obtain ⟨us, h1, h2, h3⟩ : ∃ us, lexF (jnT (ts.map fun t => bytesOf t.f1)) (p + (bytesOf t.f1).length) = .ok us ∧ us.length = ts.length ∧ ∀ (i : Nat) (x y : S28), ts[i]? = some x → us[i]? = some y → x.f0 = y.f0 ∧ x.f1 = y.f1 ∧ x.f2 = y.f2 := by
      cases ts with
      | nil => exact ⟨[], lexF_nil _ rfl, rfl, fun i x y h => by simp at h⟩
      | cons v vs =>
        obtain ⟨us, h1, h2, h3⟩ := ih (p + (bytesOf t.f1).length + 1) (fun x hx => h x (List.mem_cons_of_mem _ hx))
        refine ⟨us, ?_, h2, h3⟩
        rw [List.map_cons, jnT_cons, lexF_blank rfl]
        exact h1
    have hdr : (bytesOf t.f1 ++ jnT (ts.map fun t => bytesOf t.f1)).drop (restF (bytesOf t.f1 ++ jnT (ts.map fun t => bytesOf t.f1))) = c :: (u ++ jnT (ts.map fun t => bytesOf t.f1)) := by rw [hz, List.drop_zero, hw]; rfl
    have hct : c :: (u ++ jnT (ts.map fun t => bytesOf t.f1)) = bytesOf t.f1 ++ jnT (ts.map fun t => bytesOf t.f1) := by rw [hw]; rfl
    refine ⟨⟨t.f0, strOfNums (bytesOf t.f1), t.f2, ((p + 0 : Nat) : Int)⟩ :: us, ?_, by rw [List.length_cons, List.length_cons, h2], ?_⟩
    · show lexF (bytesOf t.f1 ++ jnT (ts.map fun t => bytesOf t.f1)) p = _
      rw [lexF_cons p hdr, hct, hs, hz]
      simp only
      rw [if_pos trivial, List.drop_left' rfl, Nat.add_zero, h1]
    · intro i x y hx hy
      cases i with
      | zero =>
        simp only [List.getElem?_cons_zero, Option.some.injEq] at hx hy
        subst hx
        subst hy
        exact ⟨rfl, (son_bytes _).symm, rfl⟩
      | succ i =>
        rw [List.getElem?_cons_succ] at hx hy
        exact h3 i x y hx hy
theorem bytes_mk (l : List UInt8) : bytesOf ⟨l.toArray⟩ = l.map fun b => (b.toNat : Int) := by unfold bytesOf; simp
theorem bytes_join (ls : List S28) : bytesOf ⟨(Lib.join (ls.map (·.f1.data.toList)) [32]).toArray⟩ = jn (ls.map fun t => bytesOf t.f1) := by
  rw [bytes_mk]
  cases ls with
  | nil => rfl
  | cons t ts =>
    rw [List.map_cons, Lib.join_cons, List.map_append, List.map_cons]
    show _ = bytesOf t.f1 ++ jnT _
    congr 1
    unfold Lib.joinTail jnT
    rw [List.map_flatten, List.map_map, List.map_map, List.map_map]
    congr 1
theorem jnT_len (M : Nat) : ∀ ws : List (List Int), (∀ w ∈ ws, w.length ≤ M) → (jnT ws).length ≤ ws.length * (M + 1) := by
  intro ws
  induction ws with
  | nil => intro _; simp [jnT]
  | cons w ws ih =>
    intro h
    have h1 := h w List.mem_cons_self
    have h2 := ih (fun x hx => h x (List.mem_cons_of_mem _ hx))
    show (32 :: (w ++ jnT ws)).length ≤ _
    rw [List.length_cons, List.length_append, List.length_cons, Nat.succ_mul]
    omega
theorem jn_len (M : Nat) (ws : List (List Int)) (h : ∀ w ∈ ws, w.length ≤ M) : (jn ws).length ≤ ws.length * (M + 1) := by
  cases ws with
  | nil => simp [jn]
  | cons w ws =>
    have h1 := h w List.mem_cons_self
    have h2 := jnT_len M ws (fun x hx => h x (List.mem_cons_of_mem _ hx))
    show (w ++ jnT ws).length ≤ _
    rw [List.length_append, List.length_cons, Nat.succ_mul]
    omega
end Go.Proofs.Ytklpcmfigfigcaa.Own
