/- The words of a source, plain: what is passed over, what stands at the beginning, and two sources with a line's end between. No conditions beside those in each theorem. -/
import Derived.Test.YtklpcmfigfigcaaLx11
import Derived.Test.YtklpcmfigfigcaaPtx0
namespace Go.Proofs.Ytklpcmfigfigcaa.Own
open Go.RowKit Go.Proofs.YtklpcmfigfigcaaW.PrintWords Go.Proofs.Ytklpcmfigfigcaa.Pt
set_option linter.unusedSimpArgs false
set_option linter.unusedVariables false
theorem runN_app {p : Int → Bool} {c : Int} (hc : p c = false) (b : List Int) : ∀ l : List Int, runN p (l ++ c :: b) = runN p l := by
  intro l
  induction l with
  | nil => rw [List.nil_append, runN_no hc, runN_nil]
  | cons a l ih =>
    rw [List.cons_append]
    cases hp : p a with
    | true => rw [runN_yes hp, runN_yes hp, ih]
    | false => rw [runN_no hp, runN_no hp]
theorem okAt_app (l b : List Int) (n : Nat) (h : n ≤ l.length) : okAt (l ++ 10 :: b) n = okAt l n := by
  by_cases hn : n < l.length
  · unfold okAt; rw [List.getElem?_append_left hn]
  · have e : n = l.length := by omega
    subst e
    rw [okAt_end (Nat.le_refl _), okAt_in (c := 10) (by rw [List.getElem?_append_right (Nat.le_refl _), Nat.sub_self]; rfl)]
    rfl
theorem wread_bad {bs : List Int} (i : Nat) (hi : i = 3 ∨ i = 4) (h : bs[i]? = some 10) : (wreadF (bs.take 5)).2 ≠ 0 := by
  match bs with
  | [] => simp at h
  | [_] => rcases hi with rfl | rfl <;> simp at h
  | [_, _] => rcases hi with rfl | rfl <;> simp at h
  | [_, _, _] => rcases hi with rfl | rfl <;> simp at h
  | [_, _, _, _] => show (wreadF [_, _, _, _]).2 ≠ 0; simp [wreadF]
  | a :: b :: x :: c :: d :: l =>
    show (wreadF [a, b, x, c, d]).2 ≠ 0
    rw [wreadF_eq, if_neg]
    · simp
    · rcases hi with rfl | rfl
      · simp at h; subst h; simp [isDg]
      · simp at h; subst h; simp [isDg]
theorem numR_app (l b : List Int) : (numR (l ++ 10 :: b)).2.2.2 = (numR l).2.2.2 ∧ ((numR l).2.2.2 = true → numR (l ++ 10 :: b) = numR l) := by
  have hrn : runN isDg (l ++ 10 :: b) = runN isDg l := runN_app rfl b l
  have hle := runN_le isDg l
  rw [numR_eq, numR_eq, hrn]
  generalize runN isDg l = n at hle
  by_cases hc : n = 2 ∧ l[2]? = some 58
  · have hl : 2 < l.length := (List.getElem?_eq_some_iff.1 hc.2).1
    rw [if_pos hc, if_pos ⟨hc.1, by rw [List.getElem?_append_left hl]; exact hc.2⟩]
    by_cases h5 : l.length < 5
    · rw [if_pos h5]
      by_cases h5' : (l ++ 10 :: b).length < 5
      · rw [if_pos h5']; exact ⟨rfl, fun h => by simp at h⟩
      · rw [if_neg h5', if_pos (wread_bad l.length (by omega) (by rw [List.getElem?_append_right (Nat.le_refl _), Nat.sub_self]; rfl))]
        exact ⟨rfl, fun h => by simp at h⟩
    · rw [if_neg h5, if_neg (by rw [List.length_append]; omega), List.take_append_of_le_length (by omega), okAt_app l b 5 (by omega)]
      exact ⟨rfl, fun _ => rfl⟩
  · have hc' : ¬ (n = 2 ∧ (l ++ 10 :: b)[2]? = some 58) := by
      rintro ⟨h1, h2⟩
      by_cases hl : 2 < l.length
      · rw [List.getElem?_append_left hl] at h2
        exact hc ⟨h1, h2⟩
      · have e : l.length = 2 := by omega
        rw [List.getElem?_append_right (by omega), e] at h2
        simp at h2
    rw [if_neg hc, if_neg hc', List.take_append_of_le_length hle, okAt_app l b n hle]
    split
    · exact ⟨rfl, fun _ => rfl⟩
    · exact ⟨rfl, fun _ => rfl⟩
theorem tokR_app (c : Int) (l b : List Int) : (tokR (c :: l ++ 10 :: b)).2.2.2 = (tokR (c :: l)).2.2.2 ∧ ((tokR (c :: l)).2.2.2 = true → tokR (c :: l ++ 10 :: b) = tokR (c :: l)) := by
  have hrn : runN isPt ((c :: l) ++ 10 :: b) = runN isPt (c :: l) := runN_app rfl b _
  have hle := runN_le isPt (c :: l)
  rw [List.cons_append] at *
  rw [tokR, tokR]
  by_cases hl : isLt c = true
  · rw [if_pos hl, if_pos hl, hrn, show (c :: (l ++ 10 :: b)) = (c :: l) ++ 10 :: b from rfl, List.take_append_of_le_length hle]
    exact ⟨rfl, fun _ => rfl⟩
  · rw [if_neg hl, if_neg hl]
    by_cases hd : isDg c = true
    · rw [if_pos hd, if_pos hd]
      exact numR_app (c :: l) b
    · rw [if_neg hd, if_neg hd]
      exact ⟨rfl, fun _ => rfl⟩
theorem restF_le : ∀ (n : Nat) (l : List Int), l.length ≤ n → restF l ≤ l.length := by
  intro n
  induction n with
  | zero => intro l h; obtain rfl : l = [] := List.eq_nil_of_length_eq_zero (by omega); exact Nat.le_refl _
  | succ n ih =>
    intro l h
    cases l with
    | nil => rw [restF_nil]; exact Nat.le_refl _
    | cons c l =>
      rw [List.length_cons] at h
      rw [restF_cons]
      split
      · have := ih l (by omega); rw [List.length_cons]; omega
      · split
        · rename_i h35
          have h1 : 1 ≤ runN isNl (c :: l) := by rw [runN_yes (by subst h35; rfl)]; omega
          have h2 := runN_le isNl (c :: l)
          have h3 := ih ((c :: l).drop (runN isNl (c :: l))) (by rw [List.length_drop, List.length_cons]; omega)
          rw [List.length_drop] at h3
          omega
        · exact Nat.zero_le _
theorem restF_app : ∀ (n : Nat) (l b : List Int), l.length ≤ n → restF (l ++ 10 :: b) = if restF l = l.length then l.length + 1 + restF b else restF l := by
  intro n
  induction n with
  | zero =>
    intro l b h
    obtain rfl : l = [] := List.eq_nil_of_length_eq_zero (by omega)
    rw [List.nil_append, restF_cons, restF_nil]
    simp [isBk]
  | succ n ih =>
    intro l b h
    cases l with
    | nil => rw [List.nil_append, restF_cons, restF_nil]; simp [isBk]
    | cons c l =>
      rw [List.length_cons] at h
      rw [List.cons_append, restF_cons, restF_cons]
      by_cases hb : isBk c = true
      · rw [if_pos hb, if_pos hb, ih l b (by omega), List.length_cons]
        by_cases h2 : restF l = l.length
        · rw [if_pos h2, if_pos (by omega)]; omega
        · rw [if_neg h2, if_neg (by omega)]
      · rw [if_neg hb, if_neg hb]
        by_cases h35 : c = 35
        · rw [if_pos h35, if_pos h35, show c :: (l ++ 10 :: b) = (c :: l) ++ 10 :: b from rfl, runN_app rfl b (c :: l)]
          have h1 : 1 ≤ runN isNl (c :: l) := by rw [runN_yes (by subst h35; rfl)]; omega
          have h2 := runN_le isNl (c :: l)
          generalize runN isNl (c :: l) = m at h1 h2
          rw [List.drop_append_of_le_length h2, ih _ b (by rw [List.length_drop, List.length_cons]; omega), List.length_drop]
          by_cases h4 : restF ((c :: l).drop m) = (c :: l).length - m
          · rw [if_pos h4, if_pos (by omega)]; omega
          · rw [if_neg h4, if_neg (by omega)]
        · rw [if_neg h35, if_neg h35, if_neg (by rw [List.length_cons]; omega)]
theorem numR_len {l : List Int} (h1 : 1 ≤ runN isDg l) (h : (numR l).2.2.2 = true) : 1 ≤ (numR l).2.1.length ∧ (numR l).2.1.length ≤ l.length := by
  have hle := runN_le isDg l
  rw [numR_eq] at *
  split
  · rename_i hc
    rw [if_pos hc] at h
    split
    · rename_i h5; rw [if_pos h5] at h; simp at h
    · rename_i h5
      rw [if_neg h5] at h
      split
      · rename_i h6; rw [if_pos h6] at h; simp at h
      · simp only [List.length_take]; omega
  · rename_i hc
    rw [if_neg hc] at h
    split
    · rename_i h9; rw [if_pos h9] at h; simp at h
    · simp only [List.length_take]; omega
theorem isPt_lt {c : Int} (h : isLt c = true) : isPt c = true := by unfold isPt; rw [h]; rfl
theorem isPt_dg {c : Int} (h : isDg c = true) : isPt c = true := by unfold isPt; rw [h]; simp
theorem tokR_len {c : Int} {l : List Int} (h : (tokR (c :: l)).2.2.2 = true) : 1 ≤ (tokR (c :: l)).2.1.length ∧ (tokR (c :: l)).2.1.length ≤ (c :: l).length := by
  rw [tokR] at *
  split
  · rename_i hl
    have h1 : 1 ≤ runN isPt (c :: l) := by rw [runN_yes (isPt_lt hl)]; omega
    have h2 := runN_le isPt (c :: l)
    simp only [List.length_map, List.length_take]
    omega
  · rename_i hl
    rw [if_neg hl] at h
    split
    · rename_i hd
      rw [if_pos hd] at h
      exact numR_len (by rw [runN_yes hd]; omega) h
    · simp only [List.length_cons, List.length_nil]; omega
/-- The words from a place on. -/
def lexN : Nat → List Int → Nat → Except Nat (List S28)
  | 0, _, _ => .ok []
  | n + 1, l, p => match l.drop (restF l) with
    | [] => .ok []
    | c :: t => if (tokR (c :: t)).2.2.2 = true then (match lexN n ((c :: t).drop (tokR (c :: t)).2.1.length) (p + restF l + (tokR (c :: t)).2.1.length) with
        | .ok ts => .ok (⟨(tokR (c :: t)).1, strOfNums (tokR (c :: t)).2.1, (tokR (c :: t)).2.2.1, ((p + restF l : Nat) : Int)⟩ :: ts)
        | .error e => .error e) else .error (p + restF l)
theorem lexN_fuel : ∀ (n m : Nat) (l : List Int) (p : Nat), l.length ≤ n → l.length ≤ m → lexN n l p = lexN m l p := by
  intro n
  induction n with
  | zero =>
    intro m l p h1 h2
    obtain rfl : l = [] := List.eq_nil_of_length_eq_zero (by omega)
    cases m with
    | zero => rfl
    | succ m => rw [lexN, lexN]; simp
  | succ n ih =>
    intro m l p h1 h2
    cases m with
    | zero => obtain rfl : l = [] := List.eq_nil_of_length_eq_zero (by omega); rw [lexN, lexN]; simp
    | succ m =>
      rw [lexN, lexN]
      have hd : (l.drop (restF l)).length ≤ l.length := by rw [List.length_drop]; omega
      cases hx : l.drop (restF l) with
      | nil => rfl
      | cons c t =>
        rw [hx] at hd
        simp only
        by_cases hk : (tokR (c :: t)).2.2.2 = true
        · have hl := tokR_len hk
          rw [if_pos hk, if_pos hk, ih m _ _ (by rw [List.length_drop]; omega) (by rw [List.length_drop]; omega)]
        · rw [if_neg hk, if_neg hk]
def lexF (l : List Int) (p : Nat) : Except Nat (List S28) := lexN l.length l p
theorem lexF_nil {l : List Int} (p : Nat) (h : l.drop (restF l) = []) : lexF l p = .ok [] := by
  unfold lexF
  cases hl : l.length with
  | zero => rfl
  | succ n => rw [lexN, h]
theorem lexF_cons {l : List Int} {c : Int} {t : List Int} (p : Nat) (h : l.drop (restF l) = c :: t) : lexF l p = if (tokR (c :: t)).2.2.2 = true then (match lexF ((c :: t).drop (tokR (c :: t)).2.1.length) (p + restF l + (tokR (c :: t)).2.1.length) with
        | .ok ts => .ok (⟨(tokR (c :: t)).1, strOfNums (tokR (c :: t)).2.1, (tokR (c :: t)).2.2.1, ((p + restF l : Nat) : Int)⟩ :: ts)
        | .error e => .error e) else .error (p + restF l) := by
  have hd : (l.drop (restF l)).length ≤ l.length := by rw [List.length_drop]; omega
  rw [h] at hd
  unfold lexF
  cases hl : l.length with
  | zero => rw [hl] at hd; simp at hd
  | succ n =>
    rw [lexN, h]
    simp only
    by_cases hk : (tokR (c :: t)).2.2.2 = true
    · have h2 := tokR_len hk
      rw [if_pos hk, if_pos hk, lexN_fuel n ((c :: t).drop (tokR (c :: t)).2.1.length).length _ _ (by rw [List.length_drop]; omega) (Nat.le_refl _)]
    · rw [if_neg hk, if_neg hk]
/-- Two sources with a line's end between. -/
theorem lexF_app : ∀ (n : Nat) (l b : List Int) (p : Nat), l.length ≤ n → lexF (l ++ 10 :: b) p = match lexF l p with
    | .error e => .error e
    | .ok ts => match lexF b (p + l.length + 1) with
      | .error e => .error e
      | .ok us => .ok (ts ++ us) := by
  intro n
  induction n with
  | zero =>
    intro l b p h
    have e := List.eq_nil_of_length_eq_zero (Nat.le_zero.1 h)
    subst e
    rw [lexF_nil (l := []) p (by simp)]
    simp only [List.nil_append, List.length_nil, Nat.add_zero]
    have hr : restF (10 :: b) = 1 + restF b := by rw [restF_cons]; simp [isBk]
    have hd : (10 :: b).drop (restF (10 :: b)) = b.drop (restF b) := by rw [hr, Nat.add_comm 1, List.drop_succ_cons]
    cases hx : b.drop (restF b) with
    | nil => rw [lexF_nil p (hd.trans hx), lexF_nil (p + 1) hx]
    | cons c t =>
      rw [lexF_cons p (hd.trans hx), lexF_cons (p + 1) hx, hr, show p + (1 + restF b) = p + 1 + restF b from by omega]
      split
      · split <;> rfl
      · rfl
  | succ n ih =>
    intro l b p h
    have hra := restF_app l.length l b (Nat.le_refl _)
    have hrl := restF_le l.length l (Nat.le_refl _)
    cases hx : l.drop (restF l) with
    | nil =>
      have he : restF l = l.length := by
        have := congrArg List.length hx
        rw [List.length_drop, List.length_nil] at this
        omega
      rw [if_pos he] at hra
      rw [lexF_nil p hx]
      simp only [List.nil_append]
      have hd : (l ++ 10 :: b).drop (restF (l ++ 10 :: b)) = b.drop (restF b) := by
        rw [hra, show l.length + 1 + restF b = l.length + (1 + restF b) from by omega, ← List.drop_drop, List.drop_left, Nat.add_comm 1, List.drop_succ_cons]
      cases hy : b.drop (restF b) with
      | nil => rw [lexF_nil p (hd.trans hy), lexF_nil _ hy]
      | cons c t =>
        rw [lexF_cons p (hd.trans hy), lexF_cons _ hy, hra, show p + (l.length + 1 + restF b) = p + l.length + 1 + restF b from by omega]
        split
        · split <;> rfl
        · rfl
    | cons c t =>
      have hne : restF l ≠ l.length := by
        intro he
        rw [he, List.drop_length] at hx
        cases hx
      rw [if_neg hne] at hra
      have hd : (l ++ 10 :: b).drop (restF (l ++ 10 :: b)) = c :: (t ++ 10 :: b) := by
        rw [hra, List.drop_append_of_le_length hrl, hx]; rfl
      rw [lexF_cons p hd, lexF_cons p hx, hra]
      obtain ⟨h1, h2⟩ := tokR_app c t b
      rw [List.cons_append] at h1 h2
      rw [h1]
      by_cases hk : (tokR (c :: t)).2.2.2 = true
      · have hl := tokR_len hk
        have hlen : (c :: t).length + restF l = l.length := by
          have := congrArg List.length hx
          rw [List.length_drop] at this
          omega
        rw [if_pos hk, if_pos hk, h2 hk, show c :: (t ++ 10 :: b) = (c :: t) ++ 10 :: b from rfl, List.drop_append_of_le_length hl.2,
          ih _ b _ (by rw [List.length_drop]; omega), List.length_drop, show p + restF l + (tokR (c :: t)).2.1.length + ((c :: t).length - (tokR (c :: t)).2.1.length) + 1 = p + l.length + 1 from by omega]
        cases lexF ((c :: t).drop (tokR (c :: t)).2.1.length) (p + restF l + (tokR (c :: t)).2.1.length) with
        | error e => rfl
        | ok ts =>
          simp only
          cases lexF b (p + l.length + 1) with
          | error e => rfl
          | ok us => rfl
      · rw [if_neg hk, if_neg hk]
end Go.Proofs.Ytklpcmfigfigcaa.Own
