/- dayshift/lex's Tokens as the plain words of a source; the fixed calls. No conditions beside those in each theorem. -/
import Derived.Test.YtklpcmfigfigcaaLtP
import Derived.Test.YtklpcmfigfigcaaPtx2
namespace Go.Proofs.Ytklpcmfigfigcaa.Own
open Go.RowKit Go.Proofs.YtklpcmfigfigcaaW.PrintWords Go.Proofs.Ytklpcmfigfigcaa.Pt
set_option linter.unusedSimpArgs false
set_option linter.unusedVariables false
theorem w64 (n : Int) (h : -9223372036854775808 ≤ n ∧ n ≤ 9223372036854775807) : wrap64 n = n := by unfold wrap64; omega
theorem bytes_ext (x : ByteArray) (p : Nat) : bytesOf (x.extract p x.size) = (bytesOf x).drop p := by
  rw [bytesOf_extract, List.take_of_length_le (by rw [bytesOf_length]; exact Nat.le_refl _)]
theorem ext_size (x : ByteArray) (p : Nat) : (x.extract p x.size).size = x.size - p := by
  rw [ByteArray.size_extract]; omega
theorem son_size (l : List Int) : (strOfNums l).size = l.length := by
  rw [← data_length]; unfold strOfNums; simp
theorem tok_l0 (x0 : ByteArray) (hs : x0.size ≤ 8192) : ∀ (n p : Nat) (acc : List S28), ((bytesOf x0).drop p).length ≤ n → p ≤ x0.size → acc.length ≤ p → ∀ k, n < k →
    lex_Tokens.l0 k x0 acc ((p + restF ((bytesOf x0).drop p) : Nat) : Int) = match lexN n ((bytesOf x0).drop p) p with
      | .ok ts => some (acc ++ ts, 0, 0)
      | .error e => some ([], (e : Int), 20) := by
  intro n
  induction n with
  | zero =>
    intro p acc hn hp ha k hk
    obtain ⟨k, rfl⟩ : ∃ k', k = k' + 1 := ⟨k - 1, by omega⟩
    have he : (bytesOf x0).drop p = [] := List.eq_nil_of_length_eq_zero (by omega)
    have hps : p = x0.size := by
      have := hn
      rw [List.length_drop, bytesOf_length] at this
      omega
    rw [he, restF_nil, lexN, lex_Tokens.l0, if_neg (by omega)]
    simp
  | succ n ih =>
    intro p acc hn hp ha k hk
    obtain ⟨k, rfl⟩ : ∃ k', k = k' + 1 := ⟨k - 1, by omega⟩
    have hrl := restF_le _ ((bytesOf x0).drop p) (Nat.le_refl _)
    have hdl : ((bytesOf x0).drop p).length = x0.size - p := by rw [List.length_drop, bytesOf_length]
    rw [lexN, lex_Tokens.l0]
    cases hx : ((bytesOf x0).drop p).drop (restF ((bytesOf x0).drop p)) with
    | nil =>
      have : x0.size ≤ p + restF ((bytesOf x0).drop p) := by
        have h := congrArg List.length hx
        rw [List.length_drop, List.length_nil] at h
        omega
      rw [if_neg (by omega)]
      simp
    | cons c t =>
      have hlt : p + restF ((bytesOf x0).drop p) < x0.size := by
        have h := congrArg List.length hx
        rw [List.length_drop, List.length_cons] at h
        omega
      have hct : (c :: t).length = x0.size - (p + restF ((bytesOf x0).drop p)) := by
        have h := congrArg List.length hx
        rw [List.length_drop] at h
        omega
      rw [List.drop_drop] at hx
      generalize hat : p + restF ((bytesOf x0).drop p) = at_ at *
      rw [if_pos (by omega), if_pos (by omega), if_pos (by omega)]
      have hb : bytesOf (x0.extract ((at_ : Int).toNat) x0.size) = c :: t := by rw [Int.toNat_natCast, bytes_ext, hx]
      have hsz : (x0.extract ((at_ : Int).toNat) x0.size).size = x0.size - at_ := by rw [Int.toNat_natCast, ext_size]
      have ht : lex_token.f (x0.extract ((at_ : Int).toNat) x0.size) = some ((tokR (c :: t)).1, strOfNums (tokR (c :: t)).2.1, (tokR (c :: t)).2.2.1, 0, (tokR (c :: t)).2.2.2) := by
        unfold lex_token.f
        rw [if_pos (by omega), hb]
      rw [ht]
      simp only [Option.bind_some]
      by_cases hk2 : (tokR (c :: t)).2.2.2 = true
      · have hl := tokR_len hk2
        rw [hct] at hl
        rw [if_pos hk2, if_pos hk2, son_size]
        generalize htl : (tokR (c :: t)).2.1.length = m at *
        rw [w64 _ (by omega)]
        rw [if_pos (by omega), if_pos (by omega), if_pos (by omega)]
        have hr : lex_rest.f (x0.extract ((at_ : Int) + (m : Int)).toNat x0.size) = some ((restF ((bytesOf x0).drop (at_ + m)) : Nat) : Int) := by
          unfold lex_rest.f
          rw [show ((at_ : Int) + (m : Int)).toNat = at_ + m from by omega, if_pos (by rw [ext_size]; omega), bytes_ext]
        rw [hr]
        simp only [Option.bind_some]
        have hrl2 := restF_le _ ((bytesOf x0).drop (at_ + m)) (Nat.le_refl _)
        rw [List.length_drop, bytesOf_length] at hrl2
        rw [w64 _ (by omega), show (at_ : Int) + (m : Int) + ((restF ((bytesOf x0).drop (at_ + m)) : Nat) : Int) = ((at_ + m + restF ((bytesOf x0).drop (at_ + m)) : Nat) : Int) from by omega]
        have hd2 : (c :: t).drop m = (bytesOf x0).drop (at_ + m) := by rw [← hx, List.drop_drop]
        rw [ih (at_ + m) _ (by rw [List.length_drop, bytesOf_length]; omega) (by omega) (by rw [List.length_append]; simp; omega) k (by omega), hd2]
        cases lexN n ((bytesOf x0).drop (at_ + m)) (at_ + m) with
        | ok ts => simp
        | error e => rfl
      · rw [if_neg hk2, if_neg hk2]
theorem tokens_f (a0 : ByteArray) (hs : a0.size ≤ 8192) (k : Nat) (hk : a0.size < k) : lex_Tokens.f k a0 = match lexF (bytesOf a0) 0 with
      | .ok ts => some (ts, 0, 0)
      | .error e => some ([], (e : Int), 20) := by
  have h := tok_l0 a0 hs a0.size 0 [] (by rw [List.drop_zero, bytesOf_length]; exact Nat.le_refl _) (Nat.zero_le _) (Nat.zero_le _) k hk
  rw [List.drop_zero] at h
  unfold lex_Tokens.f lex_rest.f
  rw [if_neg (by omega), if_pos (by omega)]
  simp only [Option.bind_some]
  rw [Nat.zero_add] at h
  rw [h]
  unfold lexF
  rw [bytesOf_length]
  simp
theorem tokens_big (a0 : ByteArray) (hs : 8192 < a0.size) (k : Nat) : lex_Tokens.f k a0 = some ([], 0, 3) := by
  unfold lex_Tokens.f
  rw [if_pos (by omega)]
theorem known_f (k : Nat) (hk : 40 ≤ k) : dayshiftlaw07_known.f k = some true := by
  have h : dayshiftlaw07_known.f 40 = some true := by kernel_rfl
  exact at_rounds (fun k => dayshiftlaw07_known.mono k) hk h
end Go.Proofs.Ytklpcmfigfigcaa.Own
