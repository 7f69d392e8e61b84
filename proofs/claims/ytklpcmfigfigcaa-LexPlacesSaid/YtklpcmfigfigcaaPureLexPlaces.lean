/- LexPlaces, of the plain functions. No conditions beside those in each theorem. -/
import Derived.Test.YtklpcmfigfigcaaLxQ
import Derived.Test.YtklpcmfigfigcaaLxR
import Derived.Test.YtklpcmfigfigcaaPxx5
namespace Go.Proofs.Ytklpcmfigfigcaa.Pure
open Go.RowKit Go.Proofs.YtklpcmfigfigcaaW.PrintWords Go.Proofs.Ytklpcmfigfigcaa.Px Go.Proofs.Ytklpcmfigfigcaa.Own
set_option linter.unusedSimpArgs false
set_option linter.unusedVariables false
theorem rd_at {ts : List S28} {i : Nat} {t : S28} (h : ts[i]? = some t) : rd_T28 ts (i : Int) = t := by
  unfold rd_T28
  rw [Int.toNat_natCast, List.getD_eq_getElem?_getD, h]
  rfl
theorem places_l0 (x0 : ByteArray) (hs : x0.size ≤ 8192) (ts : List S28) (hl : ts.length ≤ 8192) : ∀ (n i q : Nat), ts.length - i ≤ n → PlOK (bytesOf x0) q (ts.drop i) → q ≤ 8192 → i ≤ 8192 → ∀ k, n + 41 ≤ k →
    dayshiftlaw07_LexPlaces.l0 k x0 ts (q : Int) (i : Int) = some true := by
  intro n
  induction n with
  | zero =>
    intro i q hn hp hq hi k hk
    obtain ⟨k, rfl⟩ : ∃ k', k = k' + 1 := ⟨k - 1, by omega⟩
    rw [dayshiftlaw07_LexPlaces.l0, if_neg (by omega), known_f k (by omega)]
    rfl
  | succ n ih =>
    intro i q hn hp hq hi k hk
    obtain ⟨k, rfl⟩ : ∃ k', k = k' + 1 := ⟨k - 1, by omega⟩
    by_cases hlt : i < ts.length
    · have hg : ts[i]? = some ts[i] := List.getElem?_eq_getElem hlt
      rw [List.drop_eq_getElem_cons hlt] at hp
      obtain ⟨a, m, h1, h2, h3, h4, h5, h6, h7⟩ := hp
      rw [bytesOf_length] at h5
      rw [dayshiftlaw07_LexPlaces.l0, if_pos (by omega), if_pos (by omega), rd_at hg, h1, h3]
      have hf : lex_Fold.f (x0.extract ((a : Int)).toNat (((a : Int) + (m : Int))).toNat) = some ts[i].f1 := by
        unfold lex_Fold.f
        rw [Int.toNat_natCast, show ((a : Int) + (m : Int)).toNat = a + m from by omega, if_pos (by rw [ByteArray.size_extract]; omega), bytesOf_extract, List.drop_take, show a + m - a = m from by omega, h6]
      rw [if_neg (by omega), if_neg (by omega), w64 _ (by omega), if_neg (by omega), if_pos (by omega), w64 _ (by omega), if_pos (by omega), if_pos (by omega), hf]
      simp only [Option.bind_some]
      rw [if_pos trivial, w64 _ (by omega), show (a : Int) + (m : Int) = ((a + m : Nat) : Int) from by omega, show (i : Int) + 1 = ((i + 1 : Nat) : Int) from by omega]
      exact ih (i + 1) (a + m) (by omega) h7 (by omega) (by omega) k (by omega)
    · rw [dayshiftlaw07_LexPlaces.l0, if_neg (by omega), known_f k (by omega)]
      rfl
theorem pl_len (bs : List Int) : ∀ (ts : List S28) (q : Nat), PlOK bs q ts → q ≤ bs.length → ts.length + q ≤ bs.length := by
  intro ts
  induction ts with
  | nil => intro q _ h; simpa using h
  | cons t ts ih =>
    intro q hp hq
    obtain ⟨a, m, h1, h2, h3, h4, h5, h6, h7⟩ := hp
    have := ih (a + m) h7 h5
    rw [List.length_cons]
    omega
theorem LexPlaces : dayshiftlaw07_LexPlaces.Pure := by
  intro a0 _
  by_cases hs : 8192 < a0.size
  · refine ⟨41, ?_⟩
    unfold dayshiftlaw07_LexPlaces.f
    rw [tokens_big a0 hs]
    simp only [Option.bind_some]
    rw [if_neg (by omega), known_f 41 (by omega)]
    rfl
  · refine ⟨10000, ?_⟩
    unfold dayshiftlaw07_LexPlaces.f
    rw [tokens_f a0 (by omega) 10000 (by omega)]
    have hpl := lexF_pl (bytesOf a0) a0.size 0
    rw [List.drop_zero] at hpl
    cases hx : lexF (bytesOf a0) 0 with
    | error e =>
      simp only [Option.bind_some]
      rw [if_neg (by omega), known_f 10000 (by omega)]
      rfl
    | ok ts =>
      have hp := hpl ts (by rw [bytesOf_length]; exact Nat.le_refl _) (Nat.zero_le _) hx
      have hl := pl_len _ _ _ hp (Nat.zero_le _)
      rw [bytesOf_length] at hl
      simp only [Option.bind_some]
      rw [if_pos trivial]
      exact places_l0 a0 (by omega) ts (by omega) 8192 0 0 (by omega) (by rw [List.drop_zero]; exact hp) (by omega) (by omega) 10000 (by omega)
end Go.Proofs.Ytklpcmfigfigcaa.Pure
