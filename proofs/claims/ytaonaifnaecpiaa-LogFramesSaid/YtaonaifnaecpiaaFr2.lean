/- What dayshift/log's get and frame do. No conditions beside those in each theorem. -/
import Derived.Test.YtaonaifnaecpiaaInj4
namespace Go.Proofs.Ytaonaifnaecpiaa.Own
open Go.RowKit Go.Proofs.YtaonaifnaecpiaaW.PrintWords
set_option linter.unusedSimpArgs false
set_option linter.unusedVariables false
/-- Bytes as a number, the highest first. -/
def numB (bs : List Int) : Nat := (nb bs).foldl (fun a b => a * 256 + b) 0
theorem numB_snoc (bs : List Int) (c : Int) : numB (bs ++ [c]) = numB bs * 256 + c.toNat := by simp [numB, nb]
theorem numF_lt (l : List Nat) (h : ∀ c ∈ l, c < 256) : ∀ a : Nat, l.foldl (fun a b => a * 256 + b) a < (a + 1) * 256 ^ l.length := by
  induction l with
  | nil => intro a; simp
  | cons c l ih =>
    intro a
    have h1 := ih (fun x hx => h x (List.mem_cons_of_mem _ hx)) (a * 256 + c)
    have h2 := h c List.mem_cons_self
    rw [List.foldl_cons, List.length_cons, Nat.pow_succ]
    refine Nat.lt_of_lt_of_le h1 ?_
    rw [Nat.mul_comm (256 ^ l.length) 256, ← Nat.mul_assoc]
    exact Nat.mul_le_mul_right _ (by omega)
theorem numB_lt (bs : List Int) (h : isB bs) : numB bs < 256 ^ bs.length := by
  have := numF_lt (nb bs) (nb_lt h) 0
  simpa [numB, nb] using this
theorem or_low (a b : Nat) (hb : b < 256) : a * 256 ||| b = a * 256 + b := by
  have := Nat.two_pow_add_eq_or_of_lt (i := 8) (b := b) (by simpa using hb) a
  rw [show 2 ^ 8 * a = a * 256 from by omega] at this
  exact this.symm
theorem bits_or64 (a b : Nat) (ha : a < 18446744073709551616) (hb : b < 18446744073709551616) : bits .or .u64 (a : Int) (b : Int) = ((a ||| b : Nat) : Int) := by
  have hx : a ||| b < 2 ^ 64 := Nat.or_lt_two_pow (by omega) (by omega)
  unfold bits
  rw [show (IntKind.u64).bits = 64 from rfl, BitVec.ofInt_natCast, BitVec.ofInt_natCast]
  show IntKind.u64.wrap ((BitVec.ofNat 64 a ||| BitVec.ofNat 64 b).toNat : Int) = _
  rw [wrap_u64']
  simp only [BitVec.toNat_or, BitVec.toNat_ofNat]
  rw [Nat.mod_eq_of_lt (by omega : a < 2 ^ 64), Nat.mod_eq_of_lt (by omega : b < 2 ^ 64)]
  omega
set_option maxRecDepth 100000 in
theorem get_k {w : World} (bs : List Int) (n : Nat) (hn : Hid (bs.length = n)) (hb : isB bs) (h2 : n ≤ 8) (sp : Option Addr) (cp : Nat) (hS : SrcV w sp (bcl bs)) :
    Calls Try.prog 62 #[.slice sp n cp] w fun e W' => e = .returned (.int .u64 ((numB bs : Nat) : Int)) ∧ w = W' := by
  have HS : Hid (SrcV w sp (bcl bs)) := hS
  have HB : Hid (isB bs) := hb
  have h3 : (n : Int) ≤ 8 := by omega
  clear hS hb
  go_enter Try.func62, Try.ntmps62
  go_wp2
  go_loop [2, 7] (fun v2 v7 => ∃ j : Nat, v7 = .int .i64 j ∧ j ≤ n ∧ v2 = .int .u64 ((numB (bs.take j) : Nat) : Int)) (fun _ v7 => n - (intOf v7).toNat)
  case atStart => exact ⟨0, rfl, by omega, rfl⟩
  case round =>
    obtain ⟨j, rfl, hj, rfl⟩ := hrel
    by_cases hjn : j < n
    · have hjl : j < bs.length := by rw [hn.out]; exact hjn
      obtain ⟨A, hA, hc⟩ := HS.out (by rw [bcl_len]; omega)
      subst hA
      have hcj := hc j (.int .u8 bs[j]) (by unfold bcl; rw [List.getElem?_map, List.getElem?_eq_getElem hjl]; rfl)
      clear hc
      have hbj := HB.out bs[j] (List.getElem_mem hjl)
      have HT : Hid (numB (bs.take (j + 1)) = numB (bs.take j) * 256 + (bs[j]).toNat) := by
        show _ = _
        rw [List.take_succ_eq_append_getElem hjl, numB_snoc]
      have hlt : numB (bs.take j) < 256 ^ j := by
        have := numB_lt (bs.take j) (fun b hb => HB.out b (List.mem_of_mem_take hb))
        rwa [List.length_take, Nat.min_eq_left (by omega)] at this
      have hlt7 : numB (bs.take j) < 72057594037927936 := Nat.lt_of_lt_of_le hlt (Nat.le_trans (Nat.pow_le_pow_right (by omega) (by omega : j ≤ 7)) (by decide))
      obtain ⟨c, hcc⟩ : ∃ c : Nat, bs[j] = (c : Int) := ⟨bs[j].toNat, by omega⟩
      rw [hcc] at hcj HT hbj
      rw [Int.toNat_natCast] at HT
      have hc256 : c < 256 := by omega
      have hc256i : (c : Int) < 256 := by omega
      clear hcc hbj hjl hlt
      generalize numB (bs.take j) = s at hlt7 HT ⊢
      have x1 : bits .or .u64 ((s : Int) * 256) (c : Int) = ((s * 256 + c : Nat) : Int) := by
        have := bits_or64 (s * 256) c (by omega) (by omega)
        rw [or_low s c hc256] at this
        rw [← this]; rfl
      have s7 : (s : Int) * 256 < 18446744073709551616 := by omega
      have Hs7 : Hid (s < 72057594037927936) := hlt7
      have hwr : (s : Int) * 256 % 18446744073709551616 = (s : Int) * 256 := by omega
      clear hlt7 s7
      go_wp2_with fail
      go_round
      case rel => exact ⟨j + 1, by go_num, by omega, by rw [HT.out]; go_num⟩
      case measure => (simp [intOf]; try omega)
    · obtain rfl : j = n := by omega
      rw [List.take_of_length_le (by rw [hn.out]; omega)]
      go_wp2_with fail
      go_ret
      exact ⟨rfl, rfl⟩
end Go.Proofs.Ytaonaifnaecpiaa.Own
