/- What dayshift/log's write, may, Next, Size, Append and Install do with a disk in memory. No conditions beside those in each theorem. -/
import Derived.Test.YtaonaifnaecpiaaDx
import Derived.Test.YtaonaifnaecpiaaScan
namespace Go.Proofs.Ytaonaifnaecpiaa.Own
open Go.RowKit
set_option linter.unusedSimpArgs false
set_option linter.unusedVariables false
/-- A file's bytes are others, by way of another file. -/
def pwr (p : PD) (f t : Int) (ys : List Int) : PD × Int :=
  if pchE p [f] ≠ 0 then (pclrD p f, pchE p [f])
  else if pappE (pclrD p f) f ys ≠ 0 then (pappD (pclrD p f) f ys, pappE (pclrD p f) f ys)
  else if pchE (pappD (pclrD p f) f ys) [f] ≠ 0 then (psyncD (pappD (pclrD p f) f ys) f, pchE (pappD (pclrD p f) f ys) [f])
  else (prenD (psyncD (pappD (pclrD p f) f ys) f) f t, pchE (psyncD (pappD (pclrD p f) f ys) f) [f, t])
set_option maxRecDepth 100000 in
theorem write_k {ks : List (Nat × List Value)} {w W : World} {D : Nat} {p : PD} {xs : List (Nat × List Value)} (h : DX w W D p xs ks) (f t : Int) (ys : List Int) (n : Nat) (hn : ys.length = n) (sp : Option Addr) (cp : Nat) (hS : ∀ W1, KR w xs W1 → Src W1 sp ys) :
    Calls Try.prog 46 #[.pointer (some ⟨D, 0, none⟩), .int .i64 f, .int .i64 t, .slice sp n cp] W fun e W' => e = .returned (.int .i64 (pwr p f t ys).2) ∧ DX w W' D (pwr p f t ys).1 xs ks := by
  have c1 := dx_clear h f
  have c2 := fun W1 (H1 : DX w W1 D (pclrD p f) xs ks) => dx_append H1 f ys n hn sp cp hS
  have c3 := fun W1 (H1 : DX w W1 D (pappD (pclrD p f) f ys) xs ks) => dx_sync H1 f
  have c4 := fun W1 (H1 : DX w W1 D (psyncD (pappD (pclrD p f) f ys) f) xs ks) => dx_rename H1 f t
  unfold pwr
  clear h hS hn
  generalize psyncD (pappD (pclrD p f) f ys) f = p3 at *
  generalize pchE (pappD (pclrD p f) f ys) [f] = e3 at *
  generalize pappD (pclrD p f) f ys = p2 at *
  generalize pappE (pclrD p f) f ys = e2 at *
  generalize pclrD p f = p1 at *
  generalize pchE p [f] = e1 at *
  generalize pchE p3 [f, t] = e4 at *
  generalize prenD p3 f t = p4 at *
  by_cases h1 : e1 = 0
  · subst h1
    rw [if_neg (by simp)]
    by_cases h2 : e2 = 0
    · subst h2
      rw [if_neg (by simp)]
      by_cases h3 : e3 = 0
      · subst h3
        rw [if_neg (by simp)]
        go_enter Try.func46, Try.ntmps46
        go_wp2_with (first | (go_at_call 49; refine c1.mono ?_; rintro e w1 ⟨rfl, H1⟩) | (go_at_call 37; refine (c2 _ H1).mono ?_; rintro e w2 ⟨rfl, H2⟩) | (go_at_call 48; refine (c3 _ H2).mono ?_; rintro e w3 ⟨rfl, H3⟩) | (go_at_call 65; refine (c4 _ H3).mono ?_; rintro e w4 ⟨rfl, H4⟩))
        go_ret
        exact ⟨rfl, H4⟩
      · rw [if_pos h3]
        have hb : (e3 == 0) = false := by simpa using h3
        go_enter Try.func46, Try.ntmps46
        go_wp2_with (first | (go_at_call 49; refine c1.mono ?_; rintro e w1 ⟨rfl, H1⟩) | (go_at_call 37; refine (c2 _ H1).mono ?_; rintro e w2 ⟨rfl, H2⟩) | (go_at_call 48; refine (c3 _ H2).mono ?_; rintro e w3 ⟨rfl, H3⟩))
        go_ret
        exact ⟨rfl, H3⟩
    · rw [if_pos h2]
      have hb : (e2 == 0) = false := by simpa using h2
      go_enter Try.func46, Try.ntmps46
      go_wp2_with (first | (go_at_call 49; refine c1.mono ?_; rintro e w1 ⟨rfl, H1⟩) | (go_at_call 37; refine (c2 _ H1).mono ?_; rintro e w2 ⟨rfl, H2⟩))
      go_ret
      exact ⟨rfl, H2⟩
  · rw [if_pos h1]
    have hb : (e1 == 0) = false := by simpa using h1
    go_enter Try.func46, Try.ntmps46
    go_wp2_with (first | (go_at_call 49; refine c1.mono ?_; rintro e w1 ⟨rfl, H1⟩))
    go_ret
    exact ⟨rfl, H1⟩
/-- A log's cells. -/
def lgc (D : Nat) (next : Nat) (many : Nat) (bad : Bool) : List Value := [.pointer (some ⟨D, 0, none⟩), .int .u64 (next : Int), .int .i64 (many : Int), .bool bad]
theorem lmay_nil (W : World) : Calls Try.prog 47 #[.pointer none] W fun e W' => e = .returned (.int .i64 2) ∧ W = W' := by
  go_enter Try.func47, Try.ntmps47
  go_wp2
  go_ret
  exact ⟨rfl, rfl⟩
theorem lmay_k {w W : World} {rs : List (Nat × List Value)} {G D : Nat} (next many : Nat) (bad : Bool) (HK : KR w ((G, lgc D next many bad) :: rs) W) : Calls Try.prog 47 #[.pointer (some ⟨G, 0, none⟩)] W fun e W' => e = .returned (.int .i64 (if bad then 5 else 0)) ∧ W = W' := by
  have k3 := kr_cell HK 0 rfl 3 (.bool bad) rfl
  clear HK
  cases bad
  · go_enter Try.func47, Try.ntmps47
    go_wp2
    go_ret
    exact ⟨rfl, rfl⟩
  · go_enter Try.func47, Try.ntmps47
    go_wp2
    go_ret
    exact ⟨rfl, rfl⟩
theorem next_nil (W : World) : Calls Try.prog 29 #[.pointer none] W fun e W' => e = .returned (.int .u64 0) ∧ W = W' := by
  go_enter Try.func29, Try.ntmps29
  go_wp2
  go_ret
  exact ⟨rfl, rfl⟩
theorem next_k {w W : World} {rs : List (Nat × List Value)} {G D : Nat} (next many : Nat) (bad : Bool) (HK : KR w ((G, lgc D next many bad) :: rs) W) : Calls Try.prog 29 #[.pointer (some ⟨G, 0, none⟩)] W fun e W' => e = .returned (.int .u64 (next : Int)) ∧ W = W' := by
  have k3 := kr_cell HK 0 rfl 1 (.int .u64 (next : Int)) rfl
  clear HK
  go_enter Try.func29, Try.ntmps29
  go_wp2
  go_ret
  exact ⟨rfl, rfl⟩
theorem size_nil (W : World) : Calls Try.prog 30 #[.pointer none] W fun e W' => e = .returned (.int .i64 0) ∧ W = W' := by
  go_enter Try.func30, Try.ntmps30
  go_wp2
  go_ret
  exact ⟨rfl, rfl⟩
theorem size_k {w W : World} {rs : List (Nat × List Value)} {G D : Nat} (next many : Nat) (bad : Bool) (HK : KR w ((G, lgc D next many bad) :: rs) W) : Calls Try.prog 30 #[.pointer (some ⟨G, 0, none⟩)] W fun e W' => e = .returned (.int .i64 (many : Int)) ∧ W = W' := by
  have k3 := kr_cell HK 0 rfl 2 (.int .i64 (many : Int)) rfl
  clear HK
  go_enter Try.func30, Try.ntmps30
  go_wp2
  go_ret
  exact ⟨rfl, rfl⟩
end Go.Proofs.Ytaonaifnaecpiaa.Own
