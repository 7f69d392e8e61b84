/- DiskWhole: a file takes another one's place at once. No conditions beside those in each theorem. -/
import Derived.Test.YtplonehidfefdaaDisk15
namespace Go.Proofs.Ytplonehidfefdaa.Own
open Go.RowKit
set_option linter.unusedSimpArgs false
/-- A plain disk of two files. -/
def wq (x y : List Int × Nat) (left : Int) (dead : Bool) : PD := ⟨fun j => if j = 0 then x else if j = 1 then y else ([], 0), left, dead⟩
theorem pd_ext {p q : PD} (h1 : ∀ j, p.f j = q.f j) (h2 : p.left = q.left) (h3 : p.dead = q.dead) : p = q := by
  obtain ⟨f, l, d⟩ := p
  obtain ⟨f2, l2, d2⟩ := q
  simp only [PD.mk.injEq]
  exact ⟨funext h1, h2, h3⟩
theorem wq_put0 (x y z : List Int × Nat) (l : Int) (d : Bool) : (wq x y l d).put 0 z = wq z y l d := pd_ext (fun j => by simp only [wq, PD.put]; split <;> simp_all) rfl rfl
theorem wq_put1 (x y z : List Int × Nat) (l : Int) (d : Bool) : (wq x y l d).put 1 z = wq x z l d := pd_ext (fun j => by
  simp only [wq, PD.put]
  by_cases h0 : j = 0
  · subst h0; simp
  · by_cases h1 : j = 1
    · subst h1; simp
    · simp [h0, h1]) rfl rfl
theorem wq_may0 (x y : List Int × Nat) (l : Int) : pmay (wq x y l false) [0] = 0 := by unfold pmay; simp [wq]
theorem wq_may1 (x y : List Int × Nat) (l : Int) : pmay (wq x y l false) [1] = 0 := by unfold pmay; simp [wq]
theorem wq_may10 (x y : List Int × Nat) (l : Int) : pmay (wq x y l false) [1, 0] = 0 := by unfold pmay; simp [wq]
theorem wq_cnt0 (x y : List Int × Nat) : pcnt (wq x y 0 false) = wq x y 0 false := rfl
theorem wq_cntE0 (x y : List Int × Nat) : pcntE (wq x y 0 false) = 0 := rfl
theorem wq_cnt (x y : List Int × Nat) (l : Int) (h : 1 < l) : pcnt (wq x y l false) = wq x y (l - 1) false := by
  unfold pcnt
  rw [if_pos (show 0 < (wq x y l false).left by show 0 < l; omega)]
  show (⟨_, l - 1, decide (l - 1 = 0)⟩ : PD) = _
  rw [decide_eq_false (by omega)]
  rfl
theorem wq_cntE (x y : List Int × Nat) (l : Int) (h : 1 < l) : pcntE (wq x y l false) = 0 := by unfold pcntE; rw [wq_cnt x y l h]; rfl
theorem wq_cnt1 (x y : List Int × Nat) : pcnt (wq x y 1 false) = wq x y 0 true := rfl
theorem wq_cntE1 (x y : List Int × Nat) : pcntE (wq x y 1 false) = 13 := rfl

theorem pw_new (aa : List Int) (h : aa.length ≤ 1000) : pappE pnew 0 aa = 0 ∧ pappD pnew 0 aa = wq (aa, 0) ([], 0) 0 false := by
  have e : pnew = wq ([], 0) ([], 0) 0 false := pd_ext (fun j => by simp only [pnew, wq]; split <;> simp_all) rfl rfl
  unfold pappE pappD
  rw [e, wq_may0, if_pos rfl, if_pos rfl]
  rw [if_neg (by show ¬ 1048576 < aa.length + 0; omega), if_neg (by show ¬ 1048576 < aa.length + 0; omega)]
  refine ⟨rfl, ?_⟩
  unfold pgrow
  show pcnt ((wq ([], 0) ([], 0) 0 false).put 0 _) = _
  rw [wq_put0, wq_cnt0]
  rfl
theorem pw_sync (aa : List Int) : pchE (wq (aa, 0) ([], 0) 0 false) [0] = 0 ∧ psyncD (wq (aa, 0) ([], 0) 0 false) 0 = wq (aa, aa.length) ([], 0) 0 false := by
  unfold pchE psyncD pchD
  rw [wq_may0, if_pos rfl, if_pos rfl, wq_cntE0, if_pos rfl, wq_cnt0]
  refine ⟨rfl, ?_⟩
  show (wq (aa, 0) ([], 0) 0 false).put 0 _ = _
  rw [wq_put0]
  rfl
theorem pw_fail (aa : List Int) (n : Int) : pfail (wq (aa, aa.length) ([], 0) 0 false) n = wq (aa, aa.length) ([], 0) (maxZ n) false := rfl
theorem pw_app (aa bs : List Int) (l : Int) (h : bs.length ≤ 1000) : pappE (wq (aa, aa.length) ([], 0) l false) 1 bs = pcntE (wq (aa, aa.length) ([], 0) l false) ∧ pappD (wq (aa, aa.length) ([], 0) l false) 1 bs = pcnt (wq (aa, aa.length) (bs, 0) l false) := by
  unfold pappE pappD
  rw [wq_may1, if_pos rfl, if_pos rfl]
  rw [if_neg (by show ¬ 1048576 < bs.length + 0; omega), if_neg (by show ¬ 1048576 < bs.length + 0; omega)]
  refine ⟨rfl, ?_⟩
  unfold pgrow
  show pcnt ((wq (aa, aa.length) ([], 0) l false).put 1 _) = _
  rw [wq_put1]
  rfl
theorem pw_sync1 (aa bs : List Int) (l : Int) : pchE (wq (aa, aa.length) (bs, 0) l false) [1] = pcntE (wq (aa, aa.length) (bs, 0) l false) ∧
    psyncD (wq (aa, aa.length) (bs, 0) l false) 1 = if pcntE (wq (aa, aa.length) (bs, 0) l false) = 0 then pcnt (wq (aa, aa.length) (bs, bs.length) l false) else pcnt (wq (aa, aa.length) (bs, 0) l false) := by
  unfold pchE psyncD pchD
  rw [wq_may1, if_pos rfl, if_pos rfl]
  refine ⟨rfl, ?_⟩
  congr 1
  unfold pcnt
  show (if 0 < l then _ else _ : PD).put 1 (bs, bs.length) = if 0 < l then _ else _
  split
  · show (wq (aa, aa.length) (bs, 0) (l - 1) (decide (l - 1 = 0))).put 1 (bs, bs.length) = _
    rw [wq_put1]
    rfl
  · rw [wq_put1]
theorem pw_ren (aa bs : List Int) (l : Int) : prenD (wq (aa, aa.length) (bs, bs.length) l false) 1 0 = if pcntE (wq (aa, aa.length) (bs, bs.length) l false) = 0 then pcnt (wq (bs, bs.length) ([], 0) l false) else pcnt (wq (aa, aa.length) (bs, bs.length) l false) := by
  unfold prenD pchD
  rw [wq_may10, if_pos rfl]
  congr 1
  unfold pcnt
  show ((if 0 < l then _ else _ : PD).put 1 ([], 0)).put 0 (bs, bs.length) = if 0 < l then _ else _
  split
  · show ((wq (aa, aa.length) (bs, bs.length) (l - 1) (decide (l - 1 = 0))).put 1 ([], 0)).put 0 (bs, bs.length) = _
    rw [wq_put1, wq_put0]
    rfl
  · rw [wq_put1, wq_put0]
theorem pw_cr (aa : List Int) (y : List Int × Nat) (l : Int) (d : Bool) (keeps : List Int) : pread (pcrash (wq (aa, aa.length) y l d) keeps) 0 = aa := by
  unfold pread
  rw [if_neg (by omega)]
  show List.take (crN aa.length aa.length keeps[0]?) aa = aa
  rw [List.take_of_length_le]
  unfold crN
  split <;> omega
/-- The plain outcome. -/
theorem pw_all (aa bs : List Int) (n : Int) (hb : bs.length ≤ 1000) (keeps : List Int) :
    (pappE (pfail (wq (aa, aa.length) ([], 0) 0 false) n) 1 bs = 13 ∧ pread (pcrash (pappD (pfail (wq (aa, aa.length) ([], 0) 0 false) n) 1 bs) keeps) 0 = aa ∧ 1 ≤ n ∧ n ≤ 3) ∨
    (pappE (pfail (wq (aa, aa.length) ([], 0) 0 false) n) 1 bs = 0 ∧ pchE (pappD (pfail (wq (aa, aa.length) ([], 0) 0 false) n) 1 bs) [1] = 13 ∧ pread (pcrash (psyncD (pappD (pfail (wq (aa, aa.length) ([], 0) 0 false) n) 1 bs) 1) keeps) 0 = aa ∧ 1 ≤ n ∧ n ≤ 3) ∨
    (pappE (pfail (wq (aa, aa.length) ([], 0) 0 false) n) 1 bs = 0 ∧ pchE (pappD (pfail (wq (aa, aa.length) ([], 0) 0 false) n) 1 bs) [1] = 0 ∧ pread (pcrash (prenD (psyncD (pappD (pfail (wq (aa, aa.length) ([], 0) 0 false) n) 1 bs) 1) 1 0) keeps) 0 = aa ∧ 1 ≤ n ∧ n ≤ 3) ∨
    (pappE (pfail (wq (aa, aa.length) ([], 0) 0 false) n) 1 bs = 0 ∧ pchE (pappD (pfail (wq (aa, aa.length) ([], 0) 0 false) n) 1 bs) [1] = 0 ∧ pread (pcrash (prenD (psyncD (pappD (pfail (wq (aa, aa.length) ([], 0) 0 false) n) 1 bs) 1) 1 0) keeps) 0 = bs) := by
  rw [pw_fail, (pw_app aa bs (maxZ n) hb).1, (pw_app aa bs (maxZ n) hb).2]
  by_cases h0 : n < 1
  · have e : maxZ n = 0 := by
      by_cases h : n < 0
      · exact maxZ_neg h
      · rw [maxZ_pos h]; omega
    rw [e]
    refine .inr (.inr (.inr ⟨wq_cntE0 _ _, ?_, ?_⟩))
    · rw [wq_cnt0, (pw_sync1 aa bs 0).1, wq_cntE0]
    · rw [wq_cnt0, (pw_sync1 aa bs 0).2, wq_cntE0, if_pos rfl, wq_cnt0, pw_ren, wq_cntE0, if_pos rfl, wq_cnt0, pw_cr]
  · rw [maxZ_pos (by omega)]
    by_cases h1 : n = 1
    · subst h1
      refine .inl ⟨wq_cntE1 _ _, ?_, by omega, by omega⟩
      rw [wq_cnt1, pw_cr]
    · rw [wq_cntE _ _ n (by omega), wq_cnt _ _ n (by omega)]
      by_cases h2 : n = 2
      · subst h2
        refine .inr (.inl ⟨rfl, ?_, ?_, by omega, by omega⟩)
        · rw [(pw_sync1 aa bs _).1]; exact wq_cntE1 _ _
        · rw [(pw_sync1 aa bs _).2]
          show pread (pcrash (if pcntE (wq (aa, aa.length) (bs, 0) 1 false) = 0 then _ else pcnt (wq (aa, aa.length) (bs, 0) 1 false)) keeps) 0 = aa
          rw [wq_cntE1, if_neg (by decide), wq_cnt1, pw_cr]
      · rw [(pw_sync1 aa bs _).1, (pw_sync1 aa bs _).2, wq_cntE _ _ (n - 1) (by omega), if_pos rfl, wq_cnt _ _ (n - 1) (by omega)]
        by_cases h3 : n = 3
        · subst h3
          refine .inr (.inr (.inl ⟨rfl, rfl, ?_, by omega, by omega⟩))
          rw [pw_ren]
          show pread (pcrash (if pcntE (wq (aa, aa.length) (bs, bs.length) 1 false) = 0 then _ else pcnt (wq (aa, aa.length) (bs, bs.length) 1 false)) keeps) 0 = aa
          rw [wq_cntE1, if_neg (by decide), wq_cnt1, pw_cr]
        · refine .inr (.inr (.inr ⟨rfl, rfl, ?_⟩))
          rw [pw_ren, wq_cntE _ _ _ (by omega), if_pos rfl, wq_cnt _ _ _ (by omega), pw_cr]
end Go.Proofs.Ytplonehidfefdaa.Own
