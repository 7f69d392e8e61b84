/- LexTwo, of the plain functions. No conditions beside those in each theorem. -/
import Derived.Test.YtklpcmfigfigcaaLxT
import Derived.Test.YtklpcmfigfigcaaPxx6
namespace Go.Proofs.Ytklpcmfigfigcaa.Pure
open Go.RowKit Go.Proofs.YtklpcmfigfigcaaW.PrintWords Go.Proofs.Ytklpcmfigfigcaa.Px Go.Proofs.Ytklpcmfigfigcaa.Own
set_option linter.unusedSimpArgs false
set_option linter.unusedVariables false
theorem two_l0 (x0 : ByteArray) (hs : x0.size ≤ 8192) (la lb : List S28) (hla : la.length ≤ 8192) (hlb : lb.length ≤ 8192) (hb : ∀ t ∈ lb, 0 ≤ t.f3 ∧ t.f3 ≤ 8192) : ∀ (n i : Nat), la.length + lb.length - i ≤ n → i ≤ la.length + lb.length → ∀ k, n + 41 ≤ k →
    dayshiftlaw07_LexTwo.l0 k x0 la lb (la ++ lb.map (shf (x0.size + 1))) (i : Int) = some true := by
  intro n
  induction n with
  | zero =>
    intro i hn hi k hk
    obtain ⟨k, rfl⟩ : ∃ k', k = k' + 1 := ⟨k - 1, by omega⟩
    rw [dayshiftlaw07_LexTwo.l0, if_neg (by rw [List.length_append, List.length_map]; omega), known_f k (by omega)]
    rfl
  | succ n ih =>
    intro i hn hi k hk
    obtain ⟨k, rfl⟩ : ∃ k', k = k' + 1 := ⟨k - 1, by omega⟩
    by_cases hlt : i < la.length + lb.length
    · rw [dayshiftlaw07_LexTwo.l0, if_pos (by rw [List.length_append, List.length_map]; omega)]
      have hrec := ih (i + 1) (by omega) (by omega) k (by omega)
      by_cases h1 : i < la.length
      · have hg : la[i]? = some la[i] := List.getElem?_eq_getElem h1
        have hg2 : (la ++ lb.map (shf (x0.size + 1)))[i]? = some la[i] := by rw [List.getElem?_append_left h1]; exact hg
        rw [if_pos (by omega), if_pos (by omega), rd_at hg, rd_at hg2, if_neg (by simp), w64 _ (by omega), show (i : Int) + 1 = ((i + 1 : Nat) : Int) from by omega]
        exact hrec
      · have hj : i - la.length < lb.length := by omega
        have hg : lb[i - la.length]? = some lb[i - la.length] := List.getElem?_eq_getElem hj
        have hg2 : (la ++ lb.map (shf (x0.size + 1)))[i]? = some (shf (x0.size + 1) lb[i - la.length]) := by rw [List.getElem?_append_right (by omega), List.getElem?_map, hg]; rfl
        have hbt := hb _ (List.getElem_mem hj)
        rw [if_neg (by omega), w64 ((i : Int) - (la.length : Int)) (by omega), show (i : Int) - (la.length : Int) = ((i - la.length : Nat) : Int) from by omega, if_pos (by omega), if_pos (by omega), if_pos (by omega), rd_at hg, rd_at hg2]
        generalize lb[i - la.length] = t at hbt
        rw [w64 (t.f3 + (x0.size : Int)) (by omega), w64 _ (by omega), if_neg (by simp [shf]; omega), w64 _ (by omega), show (i : Int) + 1 = ((i + 1 : Nat) : Int) from by omega]
        exact hrec
    · rw [dayshiftlaw07_LexTwo.l0, if_neg (by rw [List.length_append, List.length_map]; omega), known_f k (by omega)]
      rfl
theorem j0_true (k : Nat) (hk : 41 ≤ k) (x0 x1 : ByteArray) (a b : List S28) : dayshiftlaw07_LexTwo.j0 k x0 x1 a b true = some true := by
  obtain ⟨k, rfl⟩ : ∃ k', k = k' + 1 := ⟨k - 1, by omega⟩
  rw [dayshiftlaw07_LexTwo.j0, if_pos rfl, known_f k (by omega)]
  rfl
theorem two_f (a b : ByteArray) (k : Nat) (hk : 30000 ≤ k) : dayshiftlaw07_LexTwo.f (k + 2) a b = some true := by
  unfold dayshiftlaw07_LexTwo.f
  obtain ⟨l, x, y, h1, h2⟩ := tokens_any a (k + 2) (by omega)
  obtain ⟨l', x', y', h3, h4⟩ := tokens_any b (k + 2) (by omega)
  rw [h1, h3]
  simp only [Option.bind_some]
  by_cases hy : y = 0
  · rw [if_pos hy]
    obtain ⟨ha, hla⟩ := h2 hy
    by_cases hy' : y' = 0
    · rw [if_pos hy']
      obtain ⟨hb, hlb⟩ := h4 hy'
      by_cases hc : (b.size : Int) ≥ wrap64 (8192 - (a.size : Int))
      · rw [decide_eq_true hc]; exact j0_true _ (by omega) _ _ _ _
      · rw [decide_eq_false hc]
        rw [w64 _ (by omega)] at hc
        have hpa := lexF_pl (bytesOf a) a.size 0 l (by rw [List.drop_zero, bytesOf_length]; exact Nat.le_refl _) (Nat.zero_le _) (by rw [List.drop_zero]; exact hla)
        have hpb := lexF_pl (bytesOf b) b.size 0 l' (by rw [List.drop_zero, bytesOf_length]; exact Nat.le_refl _) (Nat.zero_le _) (by rw [List.drop_zero]; exact hlb)
        have hna := pl_len _ _ _ hpa (Nat.zero_le _)
        have hnb := pl_len _ _ _ hpb (Nat.zero_le _)
        have hatb := pl_at _ _ _ hpb
        rw [bytesOf_length] at hna hnb hatb
        rw [dayshiftlaw07_LexTwo.j0, if_neg (by simp), if_pos (by omega)]
        have hsz : (a ++ (⟨#[10]⟩ : ByteArray)).size = a.size + 1 := by rw [ByteArray.size_append]; rfl
        rw [hsz, if_pos (by omega)]
        have hsz2 : ((a ++ (⟨#[10]⟩ : ByteArray)) ++ b).size = a.size + 1 + b.size := by rw [ByteArray.size_append, hsz]
        have hbt : bytesOf ((a ++ (⟨#[10]⟩ : ByteArray)) ++ b) = bytesOf a ++ 10 :: bytesOf b := by
          rw [bytesOf_app, bytesOf_app, List.append_assoc]; rfl
        have hlx : lexF (bytesOf ((a ++ (⟨#[10]⟩ : ByteArray)) ++ b)) 0 = .ok (l ++ l'.map (shf (a.size + 1))) := by
          rw [hbt, lexF_app _ _ _ 0 (Nat.le_refl _), hla]
          simp only
          rw [show 0 + (bytesOf a).length + 1 = 0 + (a.size + 1) from by rw [bytesOf_length]; omega, lexF_shift, hlb]
        have he := tokens_f ((a ++ (⟨#[10]⟩ : ByteArray)) ++ b) (by omega) (k + 1) (by omega)
        rw [hlx] at he
        simp only at he
        rw [he, Option.bind_some, if_pos (rfl : (0 : Int) = 0)]
        have hj1 : (((l ++ l'.map (shf (a.size + 1))).length : Int) != wrap64 ((l.length : Int) + (l'.length : Int))) = false := by
          rw [w64 _ (by omega), List.length_append, List.length_map]
          simp
        rw [hj1, dayshiftlaw07_LexTwo.j1, if_neg (by simp)]
        exact two_l0 a ha l l' (by omega) (by omega) (fun t ht => by have := hatb t ht; omega) (l.length + l'.length) 0 (by omega) (by omega) k (by omega)
    · rw [if_neg hy']; exact j0_true _ (by omega) _ _ _ _
  · rw [if_neg hy]; exact j0_true _ (by omega) _ _ _ _
theorem LexTwo : dayshiftlaw07_LexTwo.Pure := fun a b _ _ => ⟨_, two_f a b 30000 (Nat.le_refl _)⟩
end Go.Proofs.Ytklpcmfigfigcaa.Pure
