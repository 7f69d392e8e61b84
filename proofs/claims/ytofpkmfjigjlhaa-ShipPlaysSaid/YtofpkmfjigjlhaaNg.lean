/- fresh of dayshift/ship. No conditions beside those in each theorem. -/
import Derived.Test.YtofpkmfjigjlhaaNf
namespace Go.Proofs.Ytofpkmfjigjlhaa.Own
open Go.RowKit
set_option linter.unusedSimpArgs false
set_option linter.unusedVariables false
theorem ret_i {a b : Int} (h : a = b) : Ending.returned (.int .i64 a) = .returned (.int .i64 b) := by rw [h]
theorem fresh_go (l m : List SE) (at_ k : Nat) (x y : SE) (hx : l[at_ + k]? = some x) (hy : m[k]? = some y) : fresh (l.drop (at_ + k)) (m.drop k) = if x.1 = y.1 then fresh (l.drop (at_ + (k + 1))) (m.drop (k + 1)) + 1 else 0 := by
  have hl := (List.getElem?_eq_some_iff.1 hx).1
  have hm := (List.getElem?_eq_some_iff.1 hy).1
  rw [List.drop_eq_getElem_cons hl, List.drop_eq_getElem_cons hm, fresh, (List.getElem?_eq_some_iff.1 hx).2, (List.getElem?_eq_some_iff.1 hy).2]
  rfl
theorem fresh_stop (l m : List SE) (at_ k : Nat) (h : l.length ≤ at_ + k ∨ m.length ≤ k) : fresh (l.drop (at_ + k)) (m.drop k) = 0 := by
  rcases h with h | h
  · rw [List.drop_eq_nil_of_le h]; rfl
  · rw [List.drop_eq_nil_of_le h]; cases l.drop (at_ + k) <;> rfl
set_option maxRecDepth 100000 in
set_option maxHeartbeats 1000000 in
theorem fresh_k {w : World} (es ms : List SE) (n m at_ : Nat) (hn : Hid (es.length = n)) (hm : Hid (ms.length = m)) (h2 : n ≤ 100000) (h3 : m ≤ 100000) (h4 : at_ ≤ 100000) (sp sq : Option Addr) (c d : Nat) (hE : Hid (ELV w sp es)) (hM : Hid (ELV w sq ms)) :
    Calls Try.prog 36 #[.slice sp n c, .int .i64 (at_ : Int), .slice sq m d] w fun e W' => e = .returned (.int .i64 (fresh (es.drop at_) ms : Int)) ∧ ∃ q, W' = w.drewN q := by
  have h2i : (n : Int) ≤ 100000 := by omega
  have h3i : (m : Int) ≤ 100000 := by omega
  have h4i : (at_ : Int) ≤ 100000 := by omega
  obtain ⟨F, hF⟩ : ∃ F, F = fresh (es.drop at_) ms := ⟨_, rfl⟩
  rw [← hF]
  have HF : Hid (F = 0 + fresh (es.drop (at_ + 0)) (ms.drop 0)) := by rw [hF, Nat.zero_add, Nat.add_zero, List.drop_zero]; rfl
  clear hF h2 h3 h4
  go_enter Try.func36, Try.ntmps36
  go_wp2
  go_loopw [7] (fun v7 W => ∃ (k : Nat) (q : Nat), v7 = .int .i64 (k : Int) ∧ k ≤ m ∧ F = k + fresh (es.drop (at_ + k)) (ms.drop k) ∧ W = w.drewN q) (fun v7 _ => m - (intOf v7).toNat)
  case atStart => exact ⟨0, 0, rfl, Nat.zero_le _, HF.out, rfl⟩
  case round =>
    clear HF
    obtain ⟨k, q, rfl, hk, hf, rfl⟩ := hrel
    have HF : Hid (F = k + fresh (es.drop (at_ + k)) (ms.drop k)) := hf
    clear hf
    have hki : (k : Int) ≤ 100000 := by omega
    have hw : wrap64 ((at_ : Int) + (k : Int)) = (at_ : Int) + (k : Int) := w64b _ (by omega)
    have hw2 : ((at_ : Int) + (k : Int)).toNat = at_ + k := by omega
    have hw3 : (0 : Int) ≤ (at_ : Int) + (k : Int) := by omega
    have HI : Hid (k ≤ m) := hk
    by_cases h1 : k < m
    · have h1i : (k : Int) < (m : Int) := by omega
      by_cases h2 : at_ + k < n
      · have h2i : (at_ : Int) + (k : Int) < (n : Int) := by omega
        obtain ⟨A, rfl, hc⟩ := hE.out (by rw [hn.out]; omega)
        obtain ⟨B, rfl, hd⟩ := hM.out (by rw [hm.out]; omega)
        have hga : es[at_ + k]? = some (es[at_ + k]'(by rw [hn.out]; exact h2)) := List.getElem?_eq_getElem (by rw [hn.out]; exact h2)
        have hgb : ms[k]? = some (ms[k]'(by rw [hm.out]; exact h1)) := List.getElem?_eq_getElem (by rw [hm.out]; exact h1)
        obtain ⟨sj, cj, a0, -⟩ := hc _ _ hga
        obtain ⟨sk, ck, b0, -⟩ := hd _ _ hgb
        have hfg := fresh_go es ms at_ k _ _ hga hgb
        generalize (es[at_ + k]'(by rw [hn.out]; exact h2)).1 = x at a0 hfg
        generalize (ms[k]'(by rw [hm.out]; exact h1)).1 = y at b0 hfg
        have HG : Hid (fresh (es.drop (at_ + k)) (ms.drop k) = if x = y then fresh (es.drop (at_ + (k + 1))) (ms.drop (k + 1)) + 1 else 0) := hfg
        have HLT : Hid (k < m) := h1
        clear hfg hga hgb hc hd h1 h2 hk
        by_cases hxy : x = y
        · subst hxy
          go_wp2_with fail
          go_quiet (fail)
          go_wp2_with fail
          go_round
          case rel => exact ⟨k + 1, _, by go_num, HLT.out, by have h1 := HF.out; have h2 := HG.out; rw [if_pos (by trivial)] at h2; omega, rfl⟩
          case measure => have := HLT.out; (simp [intOf]; try omega)
        · have hxy' : (x == y) = false := by simpa using hxy
          have HK : Hid (F = k) := by have h1 := HF.out; have h2 := HG.out; rw [if_neg hxy] at h2; show _ = _; omega
          clear HF HG
          go_wp2_with fail
          go_quiet (fail)
          go_wp2_with fail
          go_ret
          exact ⟨ret_i (by rw [HK.out]), q + nq, by simp⟩
      · have h2' : ¬ (at_ : Int) + (k : Int) < (n : Int) := by omega
        have h2'' : decide ((at_ : Int) + (k : Int) < (n : Int)) = false := by simpa using h2'
        have HK : Hid (F = k) := by have h1 := HF.out; rw [fresh_stop _ _ _ _ (.inl (by rw [hn.out]; omega))] at h1; exact h1
        clear HF h1 h2 hk
        go_wp2_with fail
        go_quiet (fail)
        go_wp2_with fail
        go_ret
        exact ⟨ret_i (by rw [HK.out]), q + nq, by simp⟩
    · have h1' : ¬ (k : Int) < (m : Int) := by omega
      have h1'' : decide (k < m) = false := by simpa using h1
      have HK : Hid (F = k) := by have h1 := HF.out; rw [fresh_stop _ _ _ _ (.inr (by rw [hm.out]; omega))] at h1; exact h1
      clear HF h1 hk
      go_wp2_with fail
      go_quiet (fail)
      go_wp2_with fail
      go_ret
      exact ⟨ret_i (by rw [HK.out]), q + nq, by simp⟩
end Go.Proofs.Ytofpkmfjigjlhaa.Own
