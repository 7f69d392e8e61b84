/- dayshift/lex: what a byte is, and runs of bytes. No conditions beside those in each theorem. -/
import Derived.Test.YtklpcmfigfigcaaPkx
import Derived.Test.YtklpcmfigfigcaaSl
namespace Go.Proofs.Ytklpcmfigfigcaa.Own
open Go.RowKit Go.Proofs.YtklpcmfigfigcaaW.PrintWords Go.Proofs.Ytklpcmfigfigcaa.Pk
set_option linter.unusedSimpArgs false
set_option linter.unusedVariables false
def isLt (c : Int) : Bool := (decide (65 ≤ c) && decide (c ≤ 90)) || (decide (97 ≤ c) && decide (c ≤ 122))
def isDg (c : Int) : Bool := decide (48 ≤ c) && decide (c ≤ 57)
def isPt (c : Int) : Bool := isLt c || isDg c || c == 95
def isNl (c : Int) : Bool := !(c == 10)
theorem kind_all : ∀ n : Fin 256, lex_kindOf.f (n.val : Int) = some (isLt (n.val : Int), isDg (n.val : Int)) := by decide +kernel
theorem part_all : ∀ n : Fin 256, lex_part.f (n.val : Int) = some (isPt (n.val : Int)) := by decide +kernel
theorem kindOf_k (c : Int) (h : 0 ≤ c ∧ c < 256) (w : World) : Calls Try.prog 27 #[.int .u8 c] w fun e W' => e = .returned (.agg #[.bool (isLt c), .bool (isDg c)]) ∧ Below w.heap.size w W' := by
  have := kind_all ⟨c.toNat, by omega⟩
  rw [show (((⟨c.toNat, by omega⟩ : Fin 256).val : Nat) : Int) = c from by show ((c.toNat : Nat) : Int) = c; omega] at this
  exact lex_kindOf.calls c _ _ w this
theorem part_k (w : World) (c : Int) (h : 0 ≤ c ∧ c < 256) : Calls Try.prog 28 #[.int .u8 c] w fun e W' => e = .returned (.bool (isPt c)) ∧ Below w.heap.size w W' := by
  have := part_all ⟨c.toNat, by omega⟩
  rw [show (((⟨c.toNat, by omega⟩ : Fin 256).val : Nat) : Int) = c from by show ((c.toNat : Nat) : Int) = c; omega] at this
  exact lex_part.calls c _ w this
theorem rest1_k (w : World) (c : Int) (h : 0 ≤ c ∧ c < 256) : Calls Try.prog 25 #[.int .u8 c] w fun e W' => e = .returned (.bool (isNl c)) ∧ Below w.heap.size w W' := by
  go_enter Try.func25, Try.ntmps25
  go_wp2
  go_ret
  exact ⟨rfl, Below.refl _ _⟩
theorem num1_k (w : World) (c : Int) (h : 0 ≤ c ∧ c < 256) : Calls Try.prog 38 #[.int .u8 c] w fun e W' => e = .returned (.bool (isDg c)) ∧ Below w.heap.size w W' := by
  have hfd : ∀ w : World, (Instr.field 55 (.agg #[.bool (isLt c), .bool (isDg c)]) 1).run Try.prog w = .ok (.bool (isDg c)) w := fun _ => by kernel_rfl
  go_enter Try.func38, Try.ntmps38
  go_wp2_with (go_at_call 27; refine (kindOf_k c h w).mono ?_; rintro e w1 ⟨rfl, HB⟩)
  refine bodyPost_ret (v := .bool (isDg c)) (by simp [results, Try.results38, go_sem]) rfl ⟨rfl, HB⟩
/-- How many at the beginning are so. -/
def runN (p : Int → Bool) (bs : List Int) : Nat := (bs.takeWhile p).length
theorem bytes_drop (s : ByteArray) (k : Nat) (h : k < s.size) : (bytesOf s).drop k = ((s[k]'h).toNat : Int) :: (bytesOf s).drop (k + 1) := by
  have hl : k < (bytesOf s).length := by rw [bytesOf_length]; exact h
  rw [List.drop_eq_getElem_cons hl]
  congr 1
  simp [bytesOf]
  rfl
theorem byte_range (b : UInt8) : 0 ≤ ((b.toNat : Nat) : Int) ∧ ((b.toNat : Nat) : Int) < 256 := by
  have := b.toNat_lt
  omega
theorem runN_nil (p : Int → Bool) : runN p [] = 0 := rfl
theorem runN_yes {p : Int → Bool} {c : Int} {l : List Int} (h : p c = true) : runN p (c :: l) = 1 + runN p l := by unfold runN; rw [List.takeWhile_cons_of_pos h, List.length_cons, Nat.add_comm]
theorem runN_no {p : Int → Bool} {c : Int} {l : List Int} (h : p c = false) : runN p (c :: l) = 0 := by unfold runN; rw [List.takeWhile_cons_of_neg (by simp [h])]; rfl
theorem runN_le (p : Int → Bool) (l : List Int) : runN p l ≤ l.length := (List.takeWhile_sublist _).length_le
theorem run_part (s : ByteArray) (w : World) (hs : s.size ≤ 9223372036854775807) : Calls Try.prog 24 #[.string s, .func (.func 28) #[] #[]] w fun e W' => e = .returned (.int .i64 ((runN isPt (bytesOf s) : Nat) : Int)) ∧ Below w.heap.size w W' := by
  have hsi : (s.size : Int) ≤ 9223372036854775807 := by omega
  clear hs
  go_enter Try.func24, Try.ntmps24
  go_wp2
  go_loopw [5] (fun v5 W => ∃ k : Nat, v5 = .int .i64 (k : Int) ∧ k ≤ s.size ∧ Below w.heap.size w W ∧ runN isPt (bytesOf s) = k + runN isPt ((bytesOf s).drop k)) (fun v5 _ => s.size - (intOf v5).toNat)
  case atStart => exact ⟨0, rfl, Nat.zero_le _, Below.refl _ _, by simp⟩
  case round =>
    obtain ⟨k, rfl, hk, HB0, HE0⟩ := hrel
    have HB : Hid (Below w.heap.size w wr) := HB0
    clear HB0
    by_cases hlt : k < s.size
    · have hki : (k : Int) < (s.size : Int) := by omega
      rw [bytes_drop s k hlt] at HE0
      have hc := part_k wr ((s[k]'hlt).toNat : Int) (byte_range _)
      cases hp : isPt ((s[k]'hlt).toNat : Int) with
      | true =>
        rw [hp] at hc
        rw [runN_yes hp] at HE0
        have HE : Hid (runN isPt (bytesOf s) = k + (1 + runN isPt ((bytesOf s).drop (k + 1)))) := HE0
        clear HE0 hp
        go_wp2_with (go_at_call 28; refine hc.mono ?_; rintro e w1 ⟨rfl, HB1⟩)
        go_round
        case rel => exact ⟨k + 1, by go_num, by omega, bw_step HB.out HB1, by rw [HE.out]; omega⟩
        case measure => (simp [intOf]; try omega)
      | false =>
        rw [hp] at hc
        rw [runN_no hp, Nat.add_zero] at HE0
        have HE : Hid (runN isPt (bytesOf s) = k) := HE0
        clear HE0 hp
        go_wp2_with (go_at_call 28; refine hc.mono ?_; rintro e w1 ⟨rfl, HB1⟩)
        refine bodyPost_ret (v := .int .i64 (k : Int)) (by simp [results, Try.results24, go_sem]) rfl ⟨by rw [HE.out], bw_step HB.out HB1⟩
    · obtain rfl : k = s.size := by omega
      rw [List.drop_eq_nil_of_le (by rw [bytesOf_length]; omega), runN_nil, Nat.add_zero] at HE0
      have HE : Hid (runN isPt (bytesOf s) = s.size) := HE0
      clear HE0
      go_wp2_with fail
      refine bodyPost_ret (v := .int .i64 (s.size : Int)) (by simp [results, Try.results24, go_sem]) rfl ⟨by rw [HE.out], HB.out⟩
theorem run_rest (s : ByteArray) (w : World) (hs : s.size ≤ 9223372036854775807) : Calls Try.prog 24 #[.string s, .func (.func 25) #[] #[]] w fun e W' => e = .returned (.int .i64 ((runN isNl (bytesOf s) : Nat) : Int)) ∧ Below w.heap.size w W' := by
  have hsi : (s.size : Int) ≤ 9223372036854775807 := by omega
  clear hs
  go_enter Try.func24, Try.ntmps24
  go_wp2
  go_loopw [5] (fun v5 W => ∃ k : Nat, v5 = .int .i64 (k : Int) ∧ k ≤ s.size ∧ Below w.heap.size w W ∧ runN isNl (bytesOf s) = k + runN isNl ((bytesOf s).drop k)) (fun v5 _ => s.size - (intOf v5).toNat)
  case atStart => exact ⟨0, rfl, Nat.zero_le _, Below.refl _ _, by simp⟩
  case round =>
    obtain ⟨k, rfl, hk, HB0, HE0⟩ := hrel
    have HB : Hid (Below w.heap.size w wr) := HB0
    clear HB0
    by_cases hlt : k < s.size
    · have hki : (k : Int) < (s.size : Int) := by omega
      rw [bytes_drop s k hlt] at HE0
      have hc := rest1_k wr ((s[k]'hlt).toNat : Int) (byte_range _)
      cases hp : isNl ((s[k]'hlt).toNat : Int) with
      | true =>
        rw [hp] at hc
        rw [runN_yes hp] at HE0
        have HE : Hid (runN isNl (bytesOf s) = k + (1 + runN isNl ((bytesOf s).drop (k + 1)))) := HE0
        clear HE0 hp
        go_wp2_with (go_at_call 25; refine hc.mono ?_; rintro e w1 ⟨rfl, HB1⟩)
        go_round
        case rel => exact ⟨k + 1, by go_num, by omega, bw_step HB.out HB1, by rw [HE.out]; omega⟩
        case measure => (simp [intOf]; try omega)
      | false =>
        rw [hp] at hc
        rw [runN_no hp, Nat.add_zero] at HE0
        have HE : Hid (runN isNl (bytesOf s) = k) := HE0
        clear HE0 hp
        go_wp2_with (go_at_call 25; refine hc.mono ?_; rintro e w1 ⟨rfl, HB1⟩)
        refine bodyPost_ret (v := .int .i64 (k : Int)) (by simp [results, Try.results24, go_sem]) rfl ⟨by rw [HE.out], bw_step HB.out HB1⟩
    · obtain rfl : k = s.size := by omega
      rw [List.drop_eq_nil_of_le (by rw [bytesOf_length]; omega), runN_nil, Nat.add_zero] at HE0
      have HE : Hid (runN isNl (bytesOf s) = s.size) := HE0
      clear HE0
      go_wp2_with fail
      refine bodyPost_ret (v := .int .i64 (s.size : Int)) (by simp [results, Try.results24, go_sem]) rfl ⟨by rw [HE.out], HB.out⟩
theorem run_num (s : ByteArray) (w : World) (hs : s.size ≤ 9223372036854775807) : Calls Try.prog 24 #[.string s, .func (.func 38) #[] #[]] w fun e W' => e = .returned (.int .i64 ((runN isDg (bytesOf s) : Nat) : Int)) ∧ Below w.heap.size w W' := by
  have hsi : (s.size : Int) ≤ 9223372036854775807 := by omega
  clear hs
  go_enter Try.func24, Try.ntmps24
  go_wp2
  go_loopw [5] (fun v5 W => ∃ k : Nat, v5 = .int .i64 (k : Int) ∧ k ≤ s.size ∧ Below w.heap.size w W ∧ runN isDg (bytesOf s) = k + runN isDg ((bytesOf s).drop k)) (fun v5 _ => s.size - (intOf v5).toNat)
  case atStart => exact ⟨0, rfl, Nat.zero_le _, Below.refl _ _, by simp⟩
  case round =>
    obtain ⟨k, rfl, hk, HB0, HE0⟩ := hrel
    have HB : Hid (Below w.heap.size w wr) := HB0
    clear HB0
    by_cases hlt : k < s.size
    · have hki : (k : Int) < (s.size : Int) := by omega
      rw [bytes_drop s k hlt] at HE0
      have hc := num1_k wr ((s[k]'hlt).toNat : Int) (byte_range _)
      cases hp : isDg ((s[k]'hlt).toNat : Int) with
      | true =>
        rw [hp] at hc
        rw [runN_yes hp] at HE0
        have HE : Hid (runN isDg (bytesOf s) = k + (1 + runN isDg ((bytesOf s).drop (k + 1)))) := HE0
        clear HE0 hp
        go_wp2_with (go_at_call 38; refine hc.mono ?_; rintro e w1 ⟨rfl, HB1⟩)
        go_round
        case rel => exact ⟨k + 1, by go_num, by omega, bw_step HB.out HB1, by rw [HE.out]; omega⟩
        case measure => (simp [intOf]; try omega)
      | false =>
        rw [hp] at hc
        rw [runN_no hp, Nat.add_zero] at HE0
        have HE : Hid (runN isDg (bytesOf s) = k) := HE0
        clear HE0 hp
        go_wp2_with (go_at_call 38; refine hc.mono ?_; rintro e w1 ⟨rfl, HB1⟩)
        refine bodyPost_ret (v := .int .i64 (k : Int)) (by simp [results, Try.results24, go_sem]) rfl ⟨by rw [HE.out], bw_step HB.out HB1⟩
    · obtain rfl : k = s.size := by omega
      rw [List.drop_eq_nil_of_le (by rw [bytesOf_length]; omega), runN_nil, Nat.add_zero] at HE0
      have HE : Hid (runN isDg (bytesOf s) = s.size) := HE0
      clear HE0
      go_wp2_with fail
      refine bodyPost_ret (v := .int .i64 (s.size : Int)) (by simp [results, Try.results24, go_sem]) rfl ⟨by rw [HE.out], HB.out⟩
end Go.Proofs.Ytklpcmfigfigcaa.Own
