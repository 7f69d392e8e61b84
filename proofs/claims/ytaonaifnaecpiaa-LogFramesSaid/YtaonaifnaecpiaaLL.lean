/- Lists of byte lists in memory: read, and made. No conditions beside those in each theorem. -/
import Derived.Test.YtaonaifnaecpiaaBlk
import Derived.Test.YtaonaifnaecpiaaRd3
import Derived.Test.YtaonaifnaecpiaaFr3
namespace Go.Proofs.Ytaonaifnaecpiaa.Own
open Go.RowKit Go.Proofs.YtaonaifnaecpiaaW.PrintWords
set_option linter.unusedSimpArgs false
set_option linter.unusedVariables false
theorem kr_join {w W W' : World} {rs l : List (Nat × List Value)} (h : KR w rs W) (h2 : KR W l W') : KR w (l ++ rs) W' := by
  have h3 := kr_call h h2.below
  refine ⟨h3.below, fun p hp => ?_, List.pairwise_append.2 ⟨h2.apart, h.apart, fun p hp q hq e => ?_⟩⟩
  · rcases List.mem_append.1 hp with hp | hp
    · obtain ⟨a, b⟩ := h2.rows p hp
      exact ⟨Nat.le_trans h.below.size a, b⟩
    · exact h3.rows p hp
  · have h4 := (h2.rows p hp).1
    have h5 := (h.rows q hq).2.1
    omega
theorem own_later {w W W' : World} {rs l : List (Nat × List Value)} {e : TypeId} {size : Nat} {v : Value} {n : Nat} {xs : List Value} (h : Own w rs e size v n xs W) (h2 : KR W l W') : Own w (l ++ rs) e size v n xs W' := by
  have hlt : ∀ k, v.ownBlock = some k → k < W.heap.size := fun k hk => (h.1.lt k hk).2
  refine ⟨⟨h.1.1, ?_⟩, fun k hk p hp => ?_⟩
  · rcases h.1.2 with h0 | ⟨g, cap, cur, rfl, h1, hg, h3⟩
    · exact .inl h0
    · exact .inr ⟨g, cap, cur, rfl, h1, by rw [h2.below.block g (Array.getElem?_eq_some_iff.1 hg).1]; exact hg, h3⟩
  · rcases List.mem_append.1 hp with hp | hp
    · have h4 := (h2.rows p hp).1
      have h5 := hlt k hk
      omega
    · exact h.2 k hk p hp
/-- What a printed function made, as rows. -/
theorem r_kr {w W : World} (hb : Below w.heap.size w W) {k : IntKind} {e : TypeId} {ok : Nat → Prop} {v : Value} {xs : List Int} (h : Kd.R (Kd.int k) e W w.heap.size ok v xs) : ∃ l, KR w l W ∧ SC l 1 v xs.length (xs.map (.int k)) := by
  obtain ⟨l, h1, h2⟩ := r_rows (kr_refl w) hb h
  rw [List.append_nil] at h1
  exact ⟨l, h1, h2⟩
theorem sc_mono {rs rs' : List (Nat × List Value)} {size : Nat} {v : Value} {n : Nat} {cs : List Value} (h : SC rs size v n cs) (hs : ∀ p ∈ rs, p ∈ rs') : SC rs' size v n cs := by
  rcases h with h | ⟨b, cap, l, h1, h2, h3⟩
  · exact .inl h
  · exact .inr ⟨b, cap, l, h1, hs _ h2, h3⟩
theorem fc_monoL {rs rs' : List (Nat × List Value)} {v : Value} {bs : List Int} (h : FC rs v bs) (hs : ∀ p ∈ rs, p ∈ rs') : FC rs' v bs := by
  rcases h with h | ⟨b, cap, l, h1, h2, h3⟩
  · exact .inl h
  · exact .inr ⟨b, cap, l, h1, hs _ h2, h3⟩
theorem fc_form {rs : List (Nat × List Value)} {v : Value} {bs : List Int} (h : FC rs v bs) : ∃ sp cap, v = .slice sp bs.length cap ∧ bs.length ≤ cap := by
  rcases h with ⟨rfl, rfl⟩ | ⟨b, cap, l, rfl, h2, h3, _⟩
  · exact ⟨_, _, rfl, Nat.le_refl _⟩
  · exact ⟨_, _, rfl, h3⟩
/-- A list of byte lists that is read. -/
def LLV (W : World) (sp : Option Addr) (rs : List (List Int)) : Prop := 0 < rs.length → ∃ A, sp = some A ∧ ∀ (j : Nat) (r : List Int), rs[j]? = some r → ∃ sj cj, W.cell? (A.add j) = some (.slice sj r.length cj) ∧ SrcV W sj (bcl r)
theorem llv_keep {W W' : World} {sp : Option Addr} {rs : List (List Int)} (h : LLV W sp rs) (hb : Below W.heap.size W W') : LLV W' sp rs := fun h0 => by
  obtain ⟨A, hA, hc⟩ := h h0
  refine ⟨A, hA, fun j r hr => ?_⟩
  obtain ⟨sj, cj, h1, h2⟩ := hc j r hr
  exact ⟨sj, cj, by rw [← h1]; exact hb.cell (World.block_lt_of_cell? W _ h1), srcV_keep h2 hb⟩
theorem llv_take {W : World} {sp : Option Addr} {rs : List (List Int)} (h : LLV W sp rs) (k : Nat) : LLV W sp (rs.take k) := fun h0 => by
  obtain ⟨A, hA, hc⟩ := h (by rw [List.length_take] at h0; omega)
  refine ⟨A, hA, fun j r hr => hc j r ?_⟩
  rw [List.getElem?_take] at hr
  split at hr
  · exact hr
  · cases hr
/-- A list of byte lists of the call's own, in rows. -/
def RL (rows : List (Nat × List Value)) (v : Value) (recs : List (List Int)) : Prop := ∃ vals : List Value, vals.length = recs.length ∧ SC rows 1 v recs.length vals ∧ ∀ (j : Nat) (u : Value) (r : List Int), vals[j]? = some u → recs[j]? = some r → FC rows u r
theorem fc_srcL {w W : World} {rs : List (Nat × List Value)} {v : Value} {bs : List Int} (HK : KR w rs W) (h : FC rs v bs) : ∃ sp cap, v = .slice sp bs.length cap ∧ SrcV W sp (bcl bs) := by
  rcases h with ⟨rfl, rfl⟩ | ⟨b, cap, l, rfl, h2, h3, h4, h5⟩
  · exact ⟨_, _, rfl, fun h => absurd h (by simp [bcl])⟩
  · exact ⟨_, _, rfl, srcV_row HK h2 h5⟩
theorem rl_llv {w W : World} {rows : List (Nat × List Value)} {v : Value} {recs : List (List Int)} (HK : KR w rows W) (h : RL rows v recs) : ∃ sp cap, v = .slice sp recs.length cap ∧ recs.length ≤ cap ∧ LLV W sp recs := by
  obtain ⟨vals, hl, hs, hf⟩ := h
  rcases hs with ⟨rfl, h1, h2⟩ | ⟨b, cap, l, rfl, h2, h3, h4, h5⟩
  · exact ⟨none, 0, by rw [h1], by omega, fun h0 => by omega⟩
  · refine ⟨_, cap, rfl, h3, fun h0 => ⟨_, rfl, fun j r hr => ?_⟩⟩
    have hj := (List.getElem?_eq_some_iff.1 hr).1
    have hv : vals[j]? = some (vals[j]'(by omega)) := List.getElem?_eq_getElem (by omega)
    have hF := hf j _ r hv hr
    obtain ⟨sj, cj, he, hS⟩ := fc_srcL HK hF
    refine ⟨sj, cj, ?_, hS⟩
    rw [Addr.add_mid, ← he]
    refine kr_mem HK h2 j _ ?_
    have h6 : (l.take (recs.length * 1))[j]? = some (vals[j]'(by omega)) := by rw [h5]; exact hv
    rw [Nat.mul_one, List.getElem?_take, if_pos (by omega)] at h6
    exact h6
theorem rl_mono {rs rs' : List (Nat × List Value)} {v : Value} {recs : List (List Int)} (h : RL rs v recs) (hs : ∀ p ∈ rs, p ∈ rs') : RL rs' v recs := by
  obtain ⟨vals, h1, h2, h3⟩ := h
  exact ⟨vals, h1, sc_mono h2 hs, fun j u r hu hr => fc_monoL (h3 j u r hu hr) hs⟩
/-- The records from a number on. -/
def scn : Nat → List Int → Nat → List (List Int)
  | 0, _, _ => []
  | n + 1, bs, q => match parse1 bs with
    | some (p, r) => if p = q ∧ q ≠ 0 then r :: scn n (bs.drop (16 + r.length)) (q + 1) else []
    | none => []
/-- The records of bytes, and the first one's number. -/
def scan (bs : List Int) : Nat × List (List Int) := match parse1 bs with
  | some (0, _) => (0, [])
  | some (q + 1, _) => (q + 1, scn bs.length bs (q + 1))
  | none => (0, [])
def flen : List (List Int) → Nat
  | [] => 0
  | r :: l => 16 + r.length + flen l
theorem flen_app (a b : List (List Int)) : flen (a ++ b) = flen a + flen b := by
  induction a with
  | nil => simp [flen]
  | cons r a ih => rw [List.cons_append, flen, flen, ih]; omega
theorem parse1_len {bs : List Int} {q : Nat} {r : List Int} (h : parse1 bs = some (q, r)) : 16 + r.length ≤ bs.length ∧ r.length ≤ 60000 := by
  unfold parse1 at h
  split at h
  · cases h
  · split at h
    · cases h
    · split at h
      · simp only [Option.some.injEq, Prod.mk.injEq] at h
        rw [← h.2, List.length_drop, List.length_take]
        omega
      · cases h
theorem parse1_q {bs : List Int} {q : Nat} {r : List Int} (hb : isB bs) (h : parse1 bs = some (q, r)) : q < 18446744073709551616 := by
  unfold parse1 at h
  split at h
  · cases h
  · split at h
    · cases h
    · split at h
      · simp only [Option.some.injEq, Prod.mk.injEq] at h
        rw [← h.1]
        have := numB_lt _ (isB_take (isB_drop (isB_take hb (16 + numB (bs.take 4))) 8) 8)
        rw [List.length_take] at this
        refine Nat.lt_of_lt_of_le this ?_
        exact Nat.le_trans (Nat.pow_le_pow_right (by omega) (Nat.min_le_left _ _)) (by decide)
      · cases h
theorem parse1_isB {bs : List Int} {q : Nat} {r : List Int} (hb : isB bs) (h : parse1 bs = some (q, r)) : isB r := by
  unfold parse1 at h
  split at h
  · cases h
  · split at h
    · cases h
    · split at h
      · simp only [Option.some.injEq, Prod.mk.injEq] at h
        rw [← h.2]
        exact isB_drop (isB_take hb _) _
      · cases h
theorem parse1_short {bs : List Int} (h : bs.length < 16) : parse1 bs = none := by unfold parse1; rw [if_pos h]
theorem scn_fuel : ∀ (n m : Nat) (bs : List Int) (q : Nat), bs.length ≤ n → bs.length ≤ m → scn n bs q = scn m bs q := by
  intro n
  induction n with
  | zero =>
    intro m bs q h1 h2
    rw [scn]
    cases m with
    | zero => rfl
    | succ m => rw [scn, parse1_short (by omega)]
  | succ n ih =>
    intro m bs q h1 h2
    cases m with
    | zero => rw [scn, scn, parse1_short (by omega)]
    | succ m =>
      rw [scn, scn]
      rcases hp : parse1 bs with _ | ⟨p, r⟩
      · rfl
      · have := parse1_len hp
        simp only
        rw [ih m _ _ (by rw [List.length_drop]; omega) (by rw [List.length_drop]; omega)]
def scnW (bs : List Int) (q : Nat) : List (List Int) := scn bs.length bs q
theorem scnW_eq (bs : List Int) (q : Nat) : scnW bs q = match parse1 bs with
    | some (p, r) => if p = q ∧ q ≠ 0 then r :: scnW (bs.drop (16 + r.length)) (q + 1) else []
    | none => [] := by
  unfold scnW
  rw [scn_fuel bs.length (bs.length + 1) bs q (by omega) (by omega), scn]
  rcases hp : parse1 bs with _ | ⟨p, r⟩
  · rfl
  · simp only
    rw [scn_fuel bs.length _ (bs.drop (16 + r.length)) (q + 1) (by rw [List.length_drop]; omega) (Nat.le_refl _)]
theorem scn_len : ∀ (n : Nat) (bs : List Int) (q : Nat), flen (scn n bs q) ≤ bs.length := by
  intro n
  induction n with
  | zero => intro bs q; simp [scn, flen]
  | succ n ih =>
    intro bs q
    rw [scn]
    rcases hp : parse1 bs with _ | ⟨p, r⟩
    · simp [flen]
    · have := parse1_len hp
      simp only
      split
      · rw [flen]
        have := ih (bs.drop (16 + r.length)) (q + 1)
        rw [List.length_drop] at this
        omega
      · simp [flen]
/-- What comes out in the end, with so much read. -/
def scanE (bs : List Int) (first : Nat) (recs : List (List Int)) : Nat × List (List Int) := if recs = [] then scan bs else (first, recs ++ scnW (bs.drop (flen recs)) (first + recs.length))
theorem flen_ge (l : List (List Int)) : 16 * l.length ≤ flen l := by
  induction l with
  | nil => simp [flen]
  | cons r l ih => rw [flen, List.length_cons]; omega
theorem scan_def (bs : List Int) : scan bs = match parse1 bs with
  | some (q, r) => if q = 0 then (0, []) else (q, r :: scnW (bs.drop (16 + r.length)) (q + 1))
  | none => (0, []) := by
  unfold scan
  have h := fun q => scnW_eq bs q
  rcases hp : parse1 bs with _ | ⟨q, r⟩
  · rfl
  · rcases q with _ | q
    · rfl
    · have := h (q + 1)
      rw [hp] at this
      simp only [if_pos (And.intro rfl (Nat.succ_ne_zero q))] at this
      simp only
      rw [if_neg (Nat.succ_ne_zero q)]
      unfold scnW at this ⊢
      rw [this, if_pos ⟨trivial, Nat.succ_ne_zero q⟩]
theorem scanE_stop (bs : List Int) (first : Nat) (recs : List (List Int)) (h : ∀ q r, parse1 (bs.drop (flen recs)) = some (q, r) → q = 0 ∨ recs ≠ [] ∧ q ≠ first + recs.length) : scanE bs first recs = (if recs = [] then 0 else first, recs) := by
  unfold scanE
  split
  · rename_i h0
    subst h0
    rw [scan_def]
    simp only [flen, List.drop_zero] at h
    rcases hp : parse1 bs with _ | ⟨q, r⟩
    · rfl
    · rcases h q r hp with h | h
      · simp [h]
      · exact absurd rfl h.1
  · rename_i h0
    rw [scnW_eq]
    rcases hp : parse1 (bs.drop (flen recs)) with _ | ⟨q, r⟩
    · simp
    · simp only
      rw [if_neg (by rintro ⟨h1, h2⟩; rcases h q r hp with h | h; omega; exact h.2 h1)]
      simp
theorem scanE_go (bs : List Int) (first : Nat) (recs : List (List Int)) (q : Nat) (r : List Int) (hp : parse1 (bs.drop (flen recs)) = some (q, r)) (hq : q ≠ 0) (h : recs ≠ [] → q = first + recs.length) : scanE bs first recs = scanE bs (if recs = [] then q else first) (recs ++ [r]) := by
  unfold scanE
  rw [if_neg (c := recs ++ [r] = []) (by simp)]
  by_cases h0 : recs = []
  · subst h0
    simp only [flen, List.drop_zero] at hp
    rw [scan_def, hp, if_pos rfl, if_pos rfl]
    simp only
    rw [if_neg hq]
    simp [flen]
  · rw [if_neg h0, if_neg h0, scnW_eq, hp]
    simp only
    have := h h0
    rw [if_pos ⟨this, by omega⟩, flen_app, List.drop_drop]
    simp [flen, this, Nat.add_assoc]
end Go.Proofs.Ytaonaifnaecpiaa.Own
