/- The program's text and the reference's text of a job are the same. No conditions beside those in each theorem. -/
import Derived.Test.YtfefbmglimdgjaaDt17
import Derived.Test.YtfefbmglimdgjaaJt17
import Derived.Test.YtfefbmglimdgjaaRow17
import Derived.Test.YtfefbmglimdgjaaPxx3
namespace Go.Proofs.Ytfefbmglimdgjaa.Own
open Go.RowKit Go.Proofs.YtfefbmglimdgjaaW.PrintWords Go.Proofs.Ytfefbmglimdgjaa.Px
theorem sp_size : (⟨#[32]⟩ : ByteArray).size = 1 := rfl
theorem num_size (k : Nat) (n : Int) : (strOfNums (digs k n)).size ≤ k + 1 := by rw [strOfNums_size]; exact digs_len k n
theorem rtext_eq (n y m d : Int) (hf : dayshiftref01_Date.f 100 n = some (y, m, d, 0)) (hy : 0 ≤ y ∧ y ≤ 9999) (hm : 0 ≤ m ∧ m ≤ 99) (hd : 0 ≤ d ∧ d ≤ 99) : dayshiftref01_Text.f 100 n = some (strOfNums (d8 (y * 10000 + m * 100 + d)), 0) := by
  unfold dayshiftref01_Text.f
  rw [hf]
  simp only [Option.bind_some]
  rw [if_pos trivial, digits_4 y hy.1 hy.2, digits_2 m hm.1 hm.2, digits_2 d hd.1 hd.2]
  simp only [Option.bind_some, ByteArray.size_append, strOfNums_size, List.length_cons, List.length_nil]
  rw [if_pos (by omega), if_pos (by omega), strOfNums_app, strOfNums_app]
  congr 3
  unfold d8
  simp
  omega
theorem stW_size (c : Int) : (stW c).size ≤ 4 := by
  unfold stW
  (repeat' split) <;> decide
theorem stW_at (c : Int) (h0 : 0 ≤ c) (h1 : c ≤ 3) : rdOf ByteArray.empty ([(⟨#[119, 97, 105, 116]⟩ : ByteArray), (⟨#[114, 117, 110]⟩ : ByteArray), (⟨#[103, 111, 111, 100]⟩ : ByteArray), (⟨#[98, 97, 100]⟩ : ByteArray)] : List ByteArray) c = stW c := by
  obtain rfl | rfl | rfl | rfl : c = 0 ∨ c = 1 ∨ c = 2 ∨ c = 3 := by omega
  all_goals rfl
theorem rtext17_eq (s : St) (hr : rightB s = true) (D : ByteArray) (hD : dayshiftref01_Text.f 100 s.day = some (D, 0)) (zD : D.size ≤ 100) (T1 T2 T3 : ByteArray) (z1 : T1.size ≤ 100) (z2 : T2.size ≤ 100) (z3 : T3.size ≤ 100)
    (h1 : dayshiftref01_Digits.f 100 s.id 1 = some T1) (h2 : dayshiftref01_Digits.f 100 s.job 1 = some T2) (h3 : dayshiftref01_Digits.f 99 s.run 1 = some T3) :
    dayshiftref17_Text.f 100 s.id s.job s.day s.state s.hold s.force s.runs s.tries s.run s.at_ = some (jtext s T1 T2 D T3) := by
  obtain ⟨_, _, _, hst, _, _, h7, h8⟩ := right_parts hr
  have zw := stW_size s.state
  have hw := stW_at s.state hst.1 hst.2
  unfold dayshiftref17_Text.f
  rw [show ref17_Right.f s.id s.job s.day s.state s.hold s.force s.runs s.tries s.run s.at_ = some true by unfold ref17_Right.f; rw [hr]]
  simp only [Option.bind_some, if_true, hD, h1, h2]
  rw [if_pos (by omega), if_pos (by simp only [ByteArray.size_append, sp_size]; omega), if_pos (by simp only [ByteArray.size_append, sp_size]; omega), if_pos (by simp only [ByteArray.size_append, sp_size]; omega), if_pos (by simp only [ByteArray.size_append, sp_size]; omega), if_pos hst.1, if_pos (by simp; omega)]
  simp only [hw]
  rw [if_pos (by simp only [ByteArray.size_append, sp_size]; omega)]
  unfold jtext
  have hX : (T1 ++ ⟨#[32]⟩ ++ T2 ++ ⟨#[32]⟩ ++ D ++ ⟨#[32]⟩ ++ stW s.state).size ≤ 500 := by simp only [ByteArray.size_append, sp_size]; omega
  obtain ⟨X, hXe⟩ : ∃ X, X = T1 ++ ⟨#[32]⟩ ++ T2 ++ ⟨#[32]⟩ ++ D ++ ⟨#[32]⟩ ++ stW s.state := ⟨_, rfl⟩
  rw [← hXe] at hX ⊢
  have l5 : (⟨#[32, 104, 101, 108, 100]⟩ : ByteArray).size = 5 := rfl
  have l7 : (⟨#[32, 102, 111, 114, 99, 101, 100]⟩ : ByteArray).size = 7 := rfl
  have l2 : (⟨#[32, 35]⟩ : ByteArray).size = 2 := rfl
  by_cases hh : s.hold = true
  · have hs0 : s.state = 0 := by
      by_cases hz : s.state = 0
      · exact hz
      · have := (h7 hz).1; rw [hh] at this; cases this
    have hf : s.force = false := h8 hh
    rw [if_pos hh, if_pos (by omega)]
    simp only [hh, if_true]
    rw [dayshiftref17_Text.j0, if_neg (by rw [hf]; simp), if_neg (by omega)]
  · rw [if_neg hh]
    simp only [if_neg hh]
    rw [dayshiftref17_Text.j0]
    by_cases hf : s.force = true
    · have hs0 : s.state = 0 := by
        by_cases hz : s.state = 0
        · exact hz
        · have := (h7 hz).2; rw [hf] at this; cases this
      rw [if_pos hf, if_pos (by omega), if_neg (by omega), if_pos hf]
    · rw [if_neg hf, if_neg hf]
      by_cases hs : s.state = 1
      · rw [if_pos hs, if_pos hs, if_pos (by omega), h3]
        simp only [Option.bind_some]
        rw [if_pos (by simp only [ByteArray.size_append, l2]; omega)]
      · rw [if_neg hs, if_neg hs]
theorem both_texts (s : St) : ∃ X : ByteArray, (∀ w : World, Calls Try.prog 19 #[.agg s.l.toArray] w fun e w' => e = .returned (.string X) ∧ Below w.heap.size w w') ∧
    (∀ w : World, Calls Try.prog 20 #[.agg s.l.toArray] w fun e w' => e = .returned (.string X) ∧ Below w.heap.size w w') := by
  have hl : (.agg s.l.toArray : Value) = s.v := by unfold St.l; rfl
  rw [hl]
  by_cases hr : rightB s = true
  · have hq := (right_iff s).1 hr
    have hrun : 0 ≤ s.run ∧ s.run ≤ 2147483647 := by
      by_cases hs : s.state = 1
      · have := hq.2.2.2.2.2.2.2.2.2.2.2.2.2.2.1 hs; omega
      · have := hq.2.2.2.2.2.2.2.2.2.2.2.2.2.2.2.1 hs; omega
    obtain ⟨y, m, d, hy0, hy1, hm0, hm1, hd0, hd1, hp, hf⟩ := date_both s.day hq.2.2.2.2.1 hq.2.2.2.2.2.1
    have hT := rtext_eq s.day y m d hf ⟨by omega, hy1⟩ ⟨by omega, by omega⟩ ⟨by omega, by omega⟩
    have z : ∀ n : Int, (strOfNums (digs 17 n)).size ≤ 100 := fun n => Nat.le_trans (num_size 17 n) (by omega)
    have zD : (strOfNums (d8 (y * 10000 + m * 100 + d))).size ≤ 100 := by rw [strOfNums_size]; unfold d8; simp
    have hN : ∀ n : Int, 0 ≤ n → n ≤ 2147483647 → ∀ w : World, Calls Try.prog 52 #[.int .i64 n] w fun e w' => e = .returned (.string (strOfNums (digs 17 n))) ∧ w = w' := fun n h0 h1 w => num_any 17 n w (by omega) h0 (by omega) (by omega)
    refine ⟨jtext s (strOfNums (digs 17 s.id)) (strOfNums (digs 17 s.job)) (strOfNums (d8 (y * 10000 + m * 100 + d))) (strOfNums (digs 17 s.run)), fun w => ?_, fun w => ?_⟩
    · exact jtext_any s hr _ _ _ _ (z _) (z _) zD (z _) (hN _ (by omega) (by omega)) (hN _ (by omega) (by omega)) (fun w => dtext_any s.day y m d w (fun w => Px.date_Date.calls 40 s.day y m d 0 w hp) ⟨by omega, hy1⟩ ⟨by omega, by omega⟩ ⟨by omega, by omega⟩) (hN _ hrun.1 hrun.2) w
    · have h3 : dayshiftref01_Digits.f 99 s.run 1 = some (strOfNums (digs 17 s.run)) := by
        unfold dayshiftref01_Digits.f
        by_cases h : s.run = 0
        · rw [h, dg_step 98 0 1 [] (by omega) (by omega) (by simp) (.inr (by simp)), show (0 : Int) / 10 = 0 by omega, dg_end 98 1 _ (by simp) (by simp) (by simp), digs]
          simp
        · rw [dg_many 17 s.run 1 [] 99 (by omega) (by omega) (by omega) (by omega) (by simp) (by simp) (by simp)]
          simp
      exact dayshiftref17_Text.calls 100 _ _ _ _ _ _ _ _ _ _ _ w (rtext17_eq s hr _ hT zD _ _ _ (z _) (z _) (z _) (digits_1 s.id (by omega) (by omega)) (digits_1 s.job (by omega) (by omega)) h3)
  · have hr' : rightB s = false := by simpa using hr
    refine ⟨⟨#[]⟩, fun w => jtext_wrong s hr' w, fun w => ?_⟩
    refine dayshiftref17_Text.calls 100 _ _ _ _ _ _ _ _ _ _ _ w ?_
    unfold dayshiftref17_Text.f
    rw [show ref17_Right.f s.id s.job s.day s.state s.hold s.force s.runs s.tries s.run s.at_ = some false by unfold ref17_Right.f; rw [hr']]
    simp
end Go.Proofs.Ytfefbmglimdgjaa.Own
