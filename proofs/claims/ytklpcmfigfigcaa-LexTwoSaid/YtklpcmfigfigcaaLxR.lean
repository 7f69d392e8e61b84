/- Where the words of a source stand; the same words behind a shift. No conditions beside those in each theorem. -/
import Derived.Test.YtklpcmfigfigcaaLxP
namespace Go.Proofs.Ytklpcmfigfigcaa.Own
open Go.RowKit Go.Proofs.YtklpcmfigfigcaaW.PrintWords Go.Proofs.Ytklpcmfigfigcaa.Px
set_option linter.unusedSimpArgs false
set_option linter.unusedVariables false
theorem foldC_id {c : Int} (h : c < 65 ∨ 90 < c) : foldC c = c := by unfold foldC; rw [if_neg (by omega)]
theorem foldC_sg {c : Int} (h : isLt c = false) : foldC c = c := by
  unfold isLt at h
  rw [Bool.or_eq_false_iff, Bool.and_eq_false_iff] at h
  simp at h
  exact foldC_id (by omega)
theorem foldC_dg {c : Int} (h : isDg c = true) : foldC c = c := foldC_id (by have := isDg_yes h; omega)
theorem wread_ok {bs : List Int} (h : (wreadF (bs.take 5)).2 = 0) : ∃ a b x c d, bs.take 5 = [a, b, x, c, d] ∧ isDg a = true ∧ isDg b = true ∧ isDg c = true ∧ isDg d = true := by
  generalize bs.take 5 = l at h
  match l with
  | [] => simp [wreadF] at h
  | [_] => simp [wreadF] at h
  | [_, _] => simp [wreadF] at h
  | [_, _, _] => simp [wreadF] at h
  | [_, _, _, _] => simp [wreadF] at h
  | [a, b, x, c, d] =>
    rw [wreadF_eq] at h
    split at h
    · rename_i hd
      simp only [Bool.and_eq_true] at hd
      exact ⟨a, b, x, c, d, rfl, hd.1.1.1, hd.1.1.2, hd.1.2, hd.2⟩
    · simp at h
  | _ :: _ :: _ :: _ :: _ :: _ :: _ => simp [wreadF] at h
theorem map_foldC_id : ∀ {l : List Int}, (∀ c ∈ l, foldC c = c) → l.map foldC = l := fun {l} h => by
  conv => rhs; rw [← List.map_id l]
  exact List.map_congr_left h
/-- A word's text stands at its place, but for great letters. -/
theorem numR_fold {l : List Int} (h : (numR l).2.2.2 = true) : (l.take (numR l).2.1.length).map foldC = (numR l).2.1 := by
  have hle := runN_le isDg l
  rw [numR_eq] at *
  split
  · rename_i hc
    rw [if_pos hc] at h
    split
    · rename_i h5; rw [if_pos h5] at h; simp at h
    · rename_i h5
      rw [if_neg h5] at h
      split
      · rename_i h6; rw [if_pos h6] at h; simp at h
      · rename_i h6
        have h6' : (wreadF (l.take 5)).2 = 0 := by simpa using h6
        obtain ⟨a, b, x, c, d, ht, ha, hb, hcc, hd⟩ := wread_ok h6'
        have hx : x = 58 := by
          have h1 : (l.take 5)[2]? = some 58 := by rw [List.getElem?_take, if_pos (by omega)]; exact hc.2
          rw [ht] at h1; simpa using h1
        simp only
        rw [List.length_take, Nat.min_eq_left (by omega), ht]
        refine map_foldC_id fun y hy => ?_
        simp only [List.mem_cons, List.not_mem_nil, or_false] at hy
        rcases hy with rfl | rfl | rfl | rfl | rfl
        · exact foldC_dg ha
        · exact foldC_dg hb
        · subst hx; rfl
        · exact foldC_dg hcc
        · exact foldC_dg hd
  · rename_i hc
    rw [if_neg hc] at h
    split
    · rename_i h9; rw [if_pos h9] at h; simp at h
    · simp only
      rw [List.length_take, Nat.min_eq_left hle]
      refine map_foldC_id fun y hy => ?_
      obtain ⟨j, hj⟩ := List.mem_iff_getElem?.1 hy
      rw [List.getElem?_take] at hj
      split at hj
      · rename_i hlt; exact foldC_dg (runN_all hlt hj)
      · cases hj
theorem tokR_fold {c : Int} {l : List Int} (h : (tokR (c :: l)).2.2.2 = true) : ((c :: l).take (tokR (c :: l)).2.1.length).map foldC = (tokR (c :: l)).2.1 := by
  rw [tokR] at *
  split
  · have h2 := runN_le isPt (c :: l)
    simp only [List.length_map, List.length_take]
    rw [Nat.min_eq_left h2]
  · rename_i hl
    rw [if_neg hl] at h
    split
    · rename_i hd
      rw [if_pos hd] at h
      exact numR_fold h
    · simp only [List.length_cons, List.length_nil, Nat.zero_add, List.take_succ_cons, List.take_zero, List.map_cons, List.map_nil]
      rw [foldC_sg (by simpa using hl)]
/-- Words that stand one behind the other. -/
def PlOK (bs : List Int) : Nat → List S28 → Prop
  | _, [] => True
  | q, t :: ts => ∃ a m : Nat, t.f3 = (a : Int) ∧ q ≤ a ∧ t.f1.size = m ∧ 1 ≤ m ∧ a + m ≤ bs.length ∧ strOfNums (((bs.drop a).take m).map foldC) = t.f1 ∧ PlOK bs (a + m) ts
theorem son_len (l : List Int) : (strOfNums l).size = l.length := by
  rw [← data_length]; unfold strOfNums; simp
theorem lexF_pl (bs : List Int) : ∀ (n p : Nat) (ts : List S28), (bs.drop p).length ≤ n → p ≤ bs.length → lexF (bs.drop p) p = .ok ts → PlOK bs p ts := by
  intro n
  induction n with
  | zero =>
    intro p ts hn hp h
    have e : bs.drop p = [] := List.eq_nil_of_length_eq_zero (by omega)
    rw [e, lexF_nil p (by simp)] at h
    injection h with h
    subst h
    trivial
  | succ n ih =>
    intro p ts hn hp h
    cases hx : (bs.drop p).drop (restF (bs.drop p)) with
    | nil =>
      rw [lexF_nil p hx] at h
      injection h with h
      subst h
      trivial
    | cons c t =>
      rw [lexF_cons p hx] at h
      by_cases hk : (tokR (c :: t)).2.2.2 = true
      · rw [if_pos hk] at h
        have hl := tokR_len hk
        have hf := tokR_fold hk
        rw [List.drop_drop] at hx
        obtain ⟨a, ha⟩ : ∃ a, a = p + restF (bs.drop p) := ⟨_, rfl⟩
        rw [← ha] at hx h
        have hct : (c :: t).length = bs.length - a := by
          have := congrArg List.length hx
          rw [List.length_drop] at this
          omega
        have hd2 : (c :: t).drop (tokR (c :: t)).2.1.length = bs.drop (a + (tokR (c :: t)).2.1.length) := by rw [← hx, List.drop_drop]
        rw [hd2] at h
        have hmle : (tokR (c :: t)).2.1.length ≤ bs.length - a := by rw [← hct]; exact hl.2
        cases hy : lexF (bs.drop (a + (tokR (c :: t)).2.1.length)) (a + (tokR (c :: t)).2.1.length) with
        | error e => rw [hy] at h; cases h
        | ok us =>
          rw [hy] at h
          injection h with h
          subst h
          refine ⟨a, (tokR (c :: t)).2.1.length, rfl, by omega, son_len _, hl.1, by omega, ?_, ih _ us (by rw [List.length_drop]; rw [List.length_drop] at hn; omega) (by omega) hy⟩
          simp only
          rw [hx, hf]
      · rw [if_neg hk] at h
        cases h
def shf (d : Nat) (t : S28) : S28 := ⟨t.f0, t.f1, t.f2, t.f3 + d⟩
theorem lexN_shift (d : Nat) : ∀ (n : Nat) (l : List Int) (p : Nat), lexN n l (p + d) = match lexN n l p with
    | .ok ts => .ok (ts.map (shf d))
    | .error e => .error (e + d) := by
  intro n
  induction n with
  | zero => intro l p; rfl
  | succ n ih =>
    intro l p
    rw [lexN, lexN]
    cases hx : l.drop (restF l) with
    | nil => rfl
    | cons c t =>
      simp only
      by_cases hk : (tokR (c :: t)).2.2.2 = true
      · rw [if_pos hk, if_pos hk, show p + d + restF l + (tokR (c :: t)).2.1.length = p + restF l + (tokR (c :: t)).2.1.length + d from by omega, ih]
        cases lexN n ((c :: t).drop (tokR (c :: t)).2.1.length) (p + restF l + (tokR (c :: t)).2.1.length) with
        | ok ts =>
          simp only [List.map_cons]
          congr 2
          unfold shf
          simp only
          congr 1
          omega
        | error e => rfl
      · rw [if_neg hk, if_neg hk]
        simp only
        congr 1
        omega
theorem lexF_shift (d : Nat) (l : List Int) (p : Nat) : lexF l (p + d) = match lexF l p with
    | .ok ts => .ok (ts.map (shf d))
    | .error e => .error (e + d) := lexN_shift d l.length l p
theorem lexF_blank {c : Int} (h : isBk c = true) (l : List Int) (p : Nat) : lexF (c :: l) p = lexF l (p + 1) := by
  have hr : restF (c :: l) = 1 + restF l := by rw [restF_cons, if_pos h]
  have hd : (c :: l).drop (restF (c :: l)) = l.drop (restF l) := by rw [hr, Nat.add_comm 1, List.drop_succ_cons]
  cases hx : l.drop (restF l) with
  | nil => rw [lexF_nil p (hd.trans hx), lexF_nil (p + 1) hx]
  | cons a t =>
    rw [lexF_cons p (hd.trans hx), lexF_cons (p + 1) hx, hr, show p + (1 + restF l) = p + 1 + restF l from by omega]
end Go.Proofs.Ytklpcmfigfigcaa.Own
