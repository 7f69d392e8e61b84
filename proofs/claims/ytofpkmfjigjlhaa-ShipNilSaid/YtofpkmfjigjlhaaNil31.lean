/- ShipNil: the walk. No conditions beside those in each theorem. -/
import Derived.Test.YtofpkmfjigjlhaaKn31
namespace Go.Proofs.Ytofpkmfjigjlhaa.Own
open Go.RowKit
set_option linter.unusedSimpArgs false
set_option linter.unusedVariables false
theorem prom_nil {W : World} : Calls Try.prog 19 #[.pointer none] W fun e W' => e = .returned (.tuple #[.int .i64 0, .int .i64 2]) ∧ W = W' := by
  go_enter Try.func19, Try.ntmps19
  go_wp2
  go_ret2
  exact ⟨rfl, rfl⟩
theorem dem_nil {W : World} : Calls Try.prog 18 #[.pointer none] W fun e W' => e = .returned (.int .i64 2) ∧ W = W' := by
  go_enter Try.func18, Try.ntmps18
  go_wp2_with (go_at_call 32; refine (leader_nil (w := W)).mono ?_; rintro e w1 ⟨rfl, rfl⟩)
  go_ret
  exact ⟨rfl, rfl⟩
theorem leads_nil {W : World} : Calls Try.prog 15 #[.pointer none] W fun e W' => e = .returned (.bool false) ∧ W = W' := by
  go_enter Try.func15, Try.ntmps15
  go_wp2
  go_ret
  exact ⟨rfl, rfl⟩
theorem epoch_nil {W : World} : Calls Try.prog 16 #[.pointer none] W fun e W' => e = .returned (.int .i64 0) ∧ W = W' := by
  go_enter Try.func16, Try.ntmps16
  go_wp2
  go_ret
  exact ⟨rfl, rfl⟩
theorem safe_nil {W : World} : Calls Try.prog 12 #[.pointer none] W fun e W' => e = .returned (.int .i64 0) ∧ W = W' := by
  go_enter Try.func12, Try.ntmps12
  go_wp2
  go_ret
  exact ⟨rfl, rfl⟩
theorem log_nil {W : World} : Calls Try.prog 11 #[.pointer none] W fun e W' => e = .returned (.slice none 0 0) ∧ W = W' := by
  go_enter Try.func11, Try.ntmps11
  go_wp2
  go_ret
  exact ⟨rfl, rfl⟩
theorem copy_nil {W : World} : Calls Try.prog 26 #[.pointer none] W fun e W' => e = .returned (.pointer none) ∧ W = W' := by
  go_enter Try.func26, Try.ntmps26
  go_wp2
  go_ret
  exact ⟨rfl, rfl⟩
set_option maxRecDepth 100000 in
set_option maxHeartbeats 2000000 in
theorem shipNil_any (a : Option Addr) (len cap : Nat) (most : Int) (w : World) : Calls Try.prog 7 #[.slice a len cap, .int .i64 most] w fun e W' => e = .returned (.bool true) ∧ Below w.heap.size w W' := by
  have HK := kr_refl w
  go_enter Try.func7, Try.ntmps7
  go_wp2_with (go_at_call 20; refine (app_nil _ _ _).mono ?_; rintro e w2 ⟨rfl, rfl⟩)
  go_wp2_with (go_at_call 21; refine (ship_nil _).mono ?_; rintro e w3 ⟨rfl, B3⟩; have HK3 := kr_call HK B3; clear HK B3)
  have HK4 := kr_alloc HK3 (.cells #[.int .i64 0, .int .i64 0, .int .i64 0, .slice none 0 0, .int .i64 0] 53)
  clear HK3
  go_wp2_with (go_at_call 22; refine take_nil.mono ?_; rintro e w4 ⟨rfl, B4⟩; have HK5 := kr_call HK4 B4; clear HK4 B4)
  have HK6 := kr_alloc HK5 (.cells #[.int .i64 0, .bool false, .int .i64 0] 57)
  clear HK5
  go_wp2_with (go_at_call 19; refine prom_nil.mono ?_; rintro e w5 ⟨rfl, rfl⟩)
  go_wp2_with (first | (go_at_call 23; refine taken_nil.mono ?_; rintro e w6 ⟨rfl, B6⟩; have HK7 := kr_call HK6 B6; clear HK6 B6) | (go_at_call 18; refine dem_nil.mono ?_; rintro e w7 ⟨rfl, rfl⟩) | (go_at_call 15; refine leads_nil.mono ?_; rintro e w7 ⟨rfl, rfl⟩) | (go_at_call 16; refine epoch_nil.mono ?_; rintro e w7 ⟨rfl, rfl⟩) | (go_at_call 12; refine safe_nil.mono ?_; rintro e w7 ⟨rfl, rfl⟩) | (go_at_call 11; refine log_nil.mono ?_; rintro e w7 ⟨rfl, rfl⟩) | (go_at_call 26; refine copy_nil.mono ?_; rintro e w7 ⟨rfl, rfl⟩) | (go_at_call 14; refine known31_k.mono ?_; rintro e w8 ⟨rfl, B8⟩; have HK9 := kr_call HK7 B8))
  refine bodyPost_ret (v := .bool true) (by simp [results, Try.results7, go_sem]) rfl ⟨rfl, HK9.below⟩
end Go.Proofs.Ytofpkmfjigjlhaa.Own
