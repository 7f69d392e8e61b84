/- dayshift/lex's rest, Fold. No conditions beside those in each theorem. -/
import Derived.Test.YtklpcmfigfigcaaLx1
namespace Go.Proofs.Ytklpcmfigfigcaa.Own
open Go.RowKit Go.Proofs.YtklpcmfigfigcaaW.PrintWords Go.Proofs.Ytklpcmfigfigcaa.Pk
set_option linter.unusedSimpArgs false
set_option linter.unusedVariables false
theorem bytesOf_extract (s : ByteArray) (a b : Nat) : bytesOf (s.extract a b) = ((bytesOf s).take b).drop a := by
  unfold bytesOf
  rw [← List.map_take, ← List.map_drop]
  congr 1
  simp [ByteArray.data_extract]
  rw [List.drop_take]
def isBk (c : Int) : Bool := c == 32 || c == 9 || c == 10 || c == 13
def restN : Nat → List Int → Nat
  | 0, _ => 0
  | _, [] => 0
  | n + 1, c :: l => if isBk c then 1 + restN n l else if c = 35 then runN isNl (c :: l) + restN n ((c :: l).drop (runN isNl (c :: l))) else 0
/-- How many bytes are passed over. -/
def restF (bs : List Int) : Nat := restN bs.length bs
theorem restN_fuel : ∀ (n m : Nat) (bs : List Int), bs.length ≤ n → bs.length ≤ m → restN n bs = restN m bs := by
  intro n
  induction n with
  | zero =>
    intro m bs h1 h2
    have e : bs = [] := List.eq_nil_of_length_eq_zero (by omega)
    subst e
    cases m <;> rfl
  | succ n ih =>
    intro m bs h1 h2
    cases bs with
    | nil => cases m <;> rfl
    | cons c l =>
      cases m with
      | zero => simp at h2
      | succ m =>
        simp only [List.length_cons] at h1 h2
        rw [restN, restN]
        split
        · rw [ih m l (by omega) (by omega)]
        · split
          · rename_i h35
            have hp : isNl c = true := by subst h35; rfl
            rw [runN_yes hp, ih m _ (by rw [List.length_drop, List.length_cons]; omega) (by rw [List.length_drop, List.length_cons]; omega)]
          · rfl
theorem restF_nil : restF [] = 0 := rfl
theorem restF_cons (c : Int) (l : List Int) : restF (c :: l) = if isBk c then 1 + restF l else if c = 35 then runN isNl (c :: l) + restF ((c :: l).drop (runN isNl (c :: l))) else 0 := by
  unfold restF
  rw [List.length_cons, restN]
  split
  · rfl
  · split
    · rename_i h35
      have hp : isNl c = true := by subst h35; rfl
      rw [runN_yes hp]
      rw [restN_fuel l.length ((c :: l).drop (1 + runN isNl l)).length _ (by rw [List.length_drop, List.length_cons]; omega) (Nat.le_refl _)]
    · rfl
theorem rest_k (s : ByteArray) (hs : s.size ≤ 9223372036854775807) (w : World) : Calls Try.prog 19 #[.string s] w fun e W' => e = .returned (.int .i64 ((restF (bytesOf s) : Nat) : Int)) ∧ Below w.heap.size w W' := by
  have hsi : (s.size : Int) ≤ 9223372036854775807 := by omega
  have HS : Hid (s.size ≤ 9223372036854775807) := hs
  clear hs
  go_enter Try.func19, Try.ntmps19
  go_wp2
  go_loopw [3] (fun v3 W => ∃ k : Nat, v3 = .int .i64 (k : Int) ∧ k ≤ s.size ∧ Below w.heap.size w W ∧ restF (bytesOf s) = k + restF ((bytesOf s).drop k)) (fun v3 _ => s.size - (intOf v3).toNat)
  case atStart => exact ⟨0, rfl, Nat.zero_le _, Below.refl _ _, by simp⟩
  case round =>
    obtain ⟨k, rfl, hk, HB0, HE0⟩ := hrel
    have HB : Hid (Below w.heap.size w wr) := HB0
    clear HB0
    by_cases hlt : k < s.size
    · have hki : (k : Int) < (s.size : Int) := by omega
      have hd := bytes_drop s k hlt
      have hx : bytesOf (s.extract k s.size) = (bytesOf s).drop k := by rw [bytesOf_extract, List.take_of_length_le (by rw [bytesOf_length]; omega)]
      have hxs : (s.extract k s.size).size ≤ 9223372036854775807 := by
        have := HS.out
        rw [ByteArray.size_extract]
        omega
      have hr1 := run_rest (s.extract k s.size) wr hxs
      rw [hx] at hr1
      have hrl := runN_le isNl ((bytesOf s).drop k)
      rw [List.length_drop, bytesOf_length] at hrl
      rw [hd, restF_cons] at HE0
      by_cases h35 : ((s[k]'hlt).toNat : Int) = 35
      · have hpos : 1 ≤ runN isNl ((bytesOf s).drop k) := by rw [hd, runN_yes (by rw [h35]; rfl)]; omega
        rw [if_neg (by rw [h35]; decide), if_pos h35, ← hd, List.drop_drop] at HE0
        have HE : Hid (restF (bytesOf s) = k + (runN isNl ((bytesOf s).drop k) + restF ((bytesOf s).drop (k + runN isNl ((bytesOf s).drop k))))) := HE0
        clear HE0 hx hxs hd
        generalize runN isNl ((bytesOf s).drop k) = m at HE hr1 hrl hpos
        have hmi : (k : Int) + (m : Int) ≤ (s.size : Int) := by omega
        go_wp2_with (go_at_call 24; refine hr1.mono ?_; rintro e w1 ⟨rfl, HB1⟩)
        go_round
        case rel => exact ⟨k + m, by go_num, by omega, bw_step HB.out HB1, by rw [HE.out]; omega⟩
        case measure => (simp [intOf]; try omega)
      · by_cases hbk : isBk ((s[k]'hlt).toNat : Int) = true
        · rw [if_pos hbk] at HE0
          have HE : Hid (restF (bytesOf s) = k + (1 + restF ((bytesOf s).drop (k + 1)))) := HE0
          have hc : ((s[k]'hlt).toNat : Int) = 32 ∨ ((s[k]'hlt).toNat : Int) = 9 ∨ ((s[k]'hlt).toNat : Int) = 10 ∨ ((s[k]'hlt).toNat : Int) = 13 := by
            unfold isBk at hbk; simp only [Bool.or_eq_true, beq_iff_eq] at hbk; omega
          clear HE0 hx hxs hd hbk h35 hr1 hrl
          rcases hc with hc | hc | hc | hc
          all_goals go_wp2_with fail
          all_goals go_round
          all_goals first | exact ⟨k + 1, by go_num, by omega, HB.out, by rw [HE.out]; omega⟩ | (simp [intOf]; try omega)
        · rw [if_neg hbk, if_neg h35, Nat.add_zero] at HE0
          have HE : Hid (restF (bytesOf s) = k) := HE0
          have hc : ¬ ((s[k]'hlt).toNat : Int) = 32 ∧ ¬ ((s[k]'hlt).toNat : Int) = 9 ∧ ¬ ((s[k]'hlt).toNat : Int) = 10 ∧ ¬ ((s[k]'hlt).toNat : Int) = 13 := by
            unfold isBk at hbk; simp only [Bool.or_eq_true, beq_iff_eq] at hbk; omega
          obtain ⟨q1, q2, q3, q4⟩ := hc
          clear HE0 hx hxs hd hbk hr1 hrl
          go_wp2_with fail
          refine bodyPost_ret (v := .int .i64 (k : Int)) (by simp [results, Try.results19, go_sem]) rfl ⟨by rw [HE.out], HB.out⟩
    · obtain rfl : k = s.size := by omega
      rw [List.drop_eq_nil_of_le (by rw [bytesOf_length]; omega), restF_nil, Nat.add_zero] at HE0
      have HE : Hid (restF (bytesOf s) = s.size) := HE0
      clear HE0
      go_wp2_with fail
      refine bodyPost_ret (v := .int .i64 (s.size : Int)) (by simp [results, Try.results19, go_sem]) rfl ⟨by rw [HE.out], HB.out⟩
end Go.Proofs.Ytklpcmfigfigcaa.Own
