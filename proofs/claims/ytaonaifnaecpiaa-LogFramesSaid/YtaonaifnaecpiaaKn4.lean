/- The fixed calls of dayshiftlaw04. No conditions beside those in each theorem. -/
import Derived.Test.YtaonaifnaecpiaaKnP
namespace Go.Proofs.Ytaonaifnaecpiaa.Own
open Go.RowKit Go.Proofs.YtaonaifnaecpiaaW.PrintWords
set_option linter.unusedSimpArgs false
set_option linter.unusedVariables false
theorem c_app1 : lapR pnew 1 0 false [97] = (0, kp1, 2, 1, false) := by
  have h1 := kn_app1.1
  have h2 := kn_app1.2
  have h3 : kp1 = (lapR pnew 1 0 false [97]).2.1 := rfl
  rw [h3]
  generalize lapR pnew 1 0 false [97] = x at h1 h2 ⊢
  obtain ⟨a, b, c⟩ := x
  simp only at h1 h2 ⊢
  rw [h1, h2]
theorem c_app2 : lapR kp1 2 1 false [98] = (0, kp2, 3, 2, false) := by
  have h1 := kn_app2.1
  have h2 := kn_app2.2
  have h3 : kp2 = (lapR kp1 2 1 false [98]).2.1 := rfl
  rw [h3]
  generalize lapR kp1 2 1 false [98] = x at h1 h2 ⊢
  obtain ⟨a, b, c⟩ := x
  simp only at h1 h2 ⊢
  rw [h1, h2]
theorem c_ins : linR kp4 3 2 false [115] = (0, kp5, 3, 0, false) := by
  have h1 := kn_ins.1
  have h2 := kn_ins.2
  have h3 : kp5 = (linR kp4 3 2 false [115]).2.1 := rfl
  rw [h3]
  generalize linR kp4 3 2 false [115] = x at h1 h2 ⊢
  obtain ⟨a, b, c⟩ := x
  simp only at h1 h2 ⊢
  rw [h1, h2]
theorem isB_dec {l : List Int} (h : decide (∀ b ∈ l, 0 ≤ b ∧ b < 256) = true) : isB l := of_decide_eq_true (p := ∀ b ∈ l, 0 ≤ b ∧ b < 256) h
/-- Open, where it answers no error. -/
theorem open_ok {ks : List (Nat × List Value)} {w W : World} {D : Nat} {p : PD} {xs : List (Nat × List Value)} (h : DX w W D p xs ks) (hb0 : isB (p.f 0).1) (hb1 : isB (p.f 1).1) (he : (openR p).1 = 0) :
    Calls Try.prog 24 #[.pointer (some ⟨D, 0, none⟩)] W fun e W' => ∃ G vs vr l, e = .returned (.tuple #[.pointer (some ⟨G, 0, none⟩), vs, vr, .int .i64 0]) ∧ DX w W' D (openR p).2.1 ((G, lgc D (openR p).2.2.1 (openR p).2.2.2.2.length false) :: (l ++ xs)) ks ∧ FC l vs (openR p).2.2.2.1 ∧ RV l vr (openR p).2.2.2.2 := by
  refine (open_k h hb0 hb1).mono ?_
  rintro e w' (⟨h1, _⟩ | ⟨_, h2⟩)
  · exact absurd he h1
  · exact h2
theorem kb_app {ks : List (Nat × List Value)} {w W : World} {D G : Nat} {p : PD} {xs : List (Nat × List Value)} {next many : Nat} {b : Int} (h : DX w W D p ((G, lgc D next many false) :: xs) ks) (hb : 0 ≤ b ∧ b < 256) (hn : next < 18446744073709551616) (hm : many ≤ 1000000000) (p' : PD) (n' m' : Nat) (hc : lapR p next many false [b] = (0, p', n', m', false)) (t : TypeId) (mk : Nat × Nat) (cp : Nat) :
    Calls Try.prog 25 #[.pointer (some ⟨G, 0, none⟩), .slice (some ⟨W.heap.size, 0, none⟩) 1 cp] (W.alloc (.cells #[.int .u8 b] t mk)) fun e W' => e = .returned (.int .i64 0) ∧ DX w W' D p' ((G, lgc D n' m' false) :: xs) ks := by
  have := lappend_k next many false (dx_call h (bw_alloc (Below.refl _ _) (.cells #[.int .u8 b] t mk))) hn hm [b] 1 rfl (fun x hx => by rw [List.mem_singleton.1 hx]; exact hb) (some ⟨W.heap.size, 0, none⟩) cp (srcV_built _ _ _)
  rw [hc] at this
  exact this
theorem kb_ins {ks : List (Nat × List Value)} {w W : World} {D G : Nat} {p : PD} {xs : List (Nat × List Value)} {next many : Nat} {b : Int} (h : DX w W D p ((G, lgc D next many false) :: xs) ks) (hb : 0 ≤ b ∧ b < 256) (hn : next < 18446744073709551616) (hm : many ≤ 1000000000) (p' : PD) (n' m' : Nat) (hc : linR p next many false [b] = (0, p', n', m', false)) (t : TypeId) (mk : Nat × Nat) (cp : Nat) :
    Calls Try.prog 26 #[.pointer (some ⟨G, 0, none⟩), .slice (some ⟨W.heap.size, 0, none⟩) 1 cp] (W.alloc (.cells #[.int .u8 b] t mk)) fun e W' => e = .returned (.int .i64 0) ∧ DX w W' D p' ((G, lgc D n' m' false) :: xs) ks := by
  have := linstall_k next many false (dx_call h (bw_alloc (Below.refl _ _) (.cells #[.int .u8 b] t mk))) hn hm [b] 1 rfl (fun x hx => by rw [List.mem_singleton.1 hx]; exact hb) (some ⟨W.heap.size, 0, none⟩) cp (srcV_built _ _ _)
  rw [hc] at this
  exact this
theorem open_k0 {ks : List (Nat × List Value)} {w W : World} {D : Nat} {xs : List (Nat × List Value)} (h : DX w W D pnew xs ks) :
    Calls Try.prog 24 #[.pointer (some ⟨D, 0, none⟩)] W fun e W' => ∃ G vs vr l, e = .returned (.tuple #[.pointer (some ⟨G, 0, none⟩), vs, vr, .int .i64 0]) ∧ DX w W' D pnew ((G, lgc D 1 0 false) :: (l ++ xs)) ks := by
  refine (open_ok h (isB_dec (by kernel_rfl)) (isB_dec (by kernel_rfl)) kn_open0.1).mono ?_
  rintro e w' ⟨G, vs, vr, l, rfl, h1, h2, h3⟩
  rw [kn_open0.2.1, kn_open0.2.2] at h1
  exact ⟨G, vs, vr, l, rfl, h1⟩
theorem open_k1 {ks : List (Nat × List Value)} {w W : World} {D : Nat} {xs : List (Nat × List Value)} (h : DX w W D kp3 xs ks) :
    Calls Try.prog 24 #[.pointer (some ⟨D, 0, none⟩)] W fun e W' => ∃ G vs vr l, e = .returned (.tuple #[.pointer (some ⟨G, 0, none⟩), vs, vr, .int .i64 0]) ∧ DX w W' D kp4 ((G, lgc D 3 2 false) :: (l ++ xs)) ks ∧ RV l vr [[97], [98]] := by
  refine (open_ok h (isB_dec (by kernel_rfl)) (isB_dec (by kernel_rfl)) kn_open1.1).mono ?_
  rintro e w' ⟨G, vs, vr, l, rfl, h1, h2, h3⟩
  have e2 := kn_open1.2
  rw [e2] at h1 h3
  exact ⟨G, vs, vr, l, rfl, h1, h3⟩
theorem open_k2 {ks : List (Nat × List Value)} {w W : World} {D : Nat} {xs : List (Nat × List Value)} (h : DX w W D kp5 xs ks) :
    Calls Try.prog 24 #[.pointer (some ⟨D, 0, none⟩)] W fun e W' => ∃ G vs vr l p, e = .returned (.tuple #[.pointer (some ⟨G, 0, none⟩), vs, vr, .int .i64 0]) ∧ DX w W' D p ((G, lgc D 3 0 false) :: (l ++ xs)) ks ∧ FC l vs [115] ∧ RV l vr [] := by
  refine (open_ok h (isB_dec (by kernel_rfl)) (isB_dec (by kernel_rfl)) kn_open2.1).mono ?_
  rintro e w' ⟨G, vs, vr, l, rfl, h1, h2, h3⟩
  have e2 := kn_open2.2
  rw [e2] at h1 h2 h3
  exact ⟨G, vs, vr, l, _, rfl, h1, h2, h3⟩
end Go.Proofs.Ytaonaifnaecpiaa.Own
