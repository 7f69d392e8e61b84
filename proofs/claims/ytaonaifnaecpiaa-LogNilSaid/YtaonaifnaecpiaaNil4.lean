/- LogNil: the walk. No conditions beside those in each theorem. -/
import Derived.Test.YtaonaifnaecpiaaME
namespace Go.Proofs.Ytaonaifnaecpiaa.Own
open Go.RowKit Go.Proofs.YtaonaifnaecpiaaW.PrintWords
set_option linter.unusedSimpArgs false
set_option linter.unusedVariables false
theorem open_nil {w W : World} {rs : List (Nat × List Value)} (HK : KR w rs W) :
    Calls Try.prog 24 #[.pointer none] W fun e W' => e = .returned (.tuple #[.pointer none, .slice none 0 0, .slice none 0 0, .int .i64 2]) ∧ KR w rs W' := by
  go_enter Try.func24, Try.ntmps24
  go_wp2_with (go_at_call 45; refine (read_nil 1 HK).mono ?_; rintro e w1 ⟨rfl, HK2⟩; clear HK)
  refine bodyPost_ret (v := .tuple #[.pointer none, .slice none 0 0, .slice none 0 0, .int .i64 2]) (by simp [results, Try.results24, go_sem]) rfl ⟨rfl, HK2⟩
theorem lappend_nil (W : World) (v : Value) : Calls Try.prog 25 #[.pointer none, v] W fun e W' => e = .returned (.int .i64 2) ∧ W = W' := by
  go_enter Try.func25, Try.ntmps25
  go_wp2_with (go_at_call 47; refine (lmay_nil W).mono ?_; rintro e w1 ⟨rfl, rfl⟩)
  refine bodyPost_ret (v := .int .i64 2) (by simp [results, Try.results25, go_sem]) rfl ⟨rfl, rfl⟩
theorem linstall_nil (W : World) (v : Value) : Calls Try.prog 26 #[.pointer none, v] W fun e W' => e = .returned (.int .i64 2) ∧ W = W' := by
  go_enter Try.func26, Try.ntmps26
  go_wp2_with (go_at_call 47; refine (lmay_nil W).mono ?_; rintro e w1 ⟨rfl, rfl⟩)
  refine bodyPost_ret (v := .int .i64 2) (by simp [results, Try.results26, go_sem]) rfl ⟨rfl, rfl⟩
set_option maxRecDepth 100000 in
set_option maxHeartbeats 2000000 in
theorem logNil_any (a : Option Addr) (len cap : Nat) (w : World) : Calls Try.prog 8 #[.slice a len cap] w fun e W' => e = .returned (.bool true) ∧ Below w.heap.size w W' := by
  have HK := kr_refl w
  go_enter Try.func8, Try.ntmps8
  go_wp2_with (go_at_call 24; refine (open_nil HK).mono ?_; rintro e w1 ⟨rfl, HK2⟩; clear HK; have HK := HK2; clear HK2)
  go_wp2_with (go_at_call 25; refine (lappend_nil _ _).mono ?_; rintro e w2 ⟨rfl, rfl⟩)
  go_wp2_with (go_at_call 26; refine (linstall_nil _ _).mono ?_; rintro e w2 ⟨rfl, rfl⟩)
  go_wp2_with (go_at_call 29; refine (next_nil _).mono ?_; rintro e w2 ⟨rfl, rfl⟩)
  go_wp2_with (go_at_call 30; refine (size_nil _).mono ?_; rintro e w2 ⟨rfl, rfl⟩)
  go_wp2_with (go_at_call 19; refine (known_k HK).mono ?_; rintro e w6 ⟨rfl, HK2⟩)
  refine bodyPost_ret (v := .bool true) (by simp [results, Try.results8, go_sem]) rfl ⟨rfl, HK2.below⟩
end Go.Proofs.Ytaonaifnaecpiaa.Own
