/- DiskNil: a disk that is not there answers so. No conditions beside those in each theorem. -/
import Derived.Test.YtplonehidfefdaaDisk14
namespace Go.Proofs.Ytplonehidfefdaa.Own
open Go.RowKit
set_option linter.unusedSimpArgs false
theorem diskNil_any (f : Int) (co : Option Addr) (len cap : Nat) (w : World) : Calls Try.prog 6 #[.int .i64 f, .slice co len cap] w fun e W' => e = .returned (.bool true) ∧ Below w.heap.size w W' := by
  have HK := kr_refl w
  go_enter Try.func6, Try.ntmps6
  go_wp2_with (go_at_call 14; refine (read_nil f HK).mono ?_; rintro e w1 ⟨rfl, HK2⟩; clear HK; have HK := HK2; clear HK2)
  go_wp2_with (go_at_call 12; refine (fail_nil 3 _).mono ?_; rintro e w2 ⟨rfl, rfl⟩)
  go_wp2_with (go_at_call 13; refine (crash_nil _ _).mono ?_; rintro e w2 ⟨rfl, rfl⟩)
  go_wp2_with (go_at_call 9; refine (append_nil f _ HK).mono ?_; rintro e w2 ⟨rfl, HK2⟩; clear HK; have HK := HK2; clear HK2)
  go_wp2_with (go_at_call 10; refine (sync_nil f HK).mono ?_; rintro e w3 ⟨rfl, HK2⟩; clear HK; have HK := HK2; clear HK2)
  go_wp2_with (go_at_call 16; refine (rename_nil f f HK).mono ?_; rintro e w4 ⟨rfl, HK2⟩; clear HK; have HK := HK2; clear HK2)
  go_wp2_with (go_at_call 24; refine (clear_nil f HK).mono ?_; rintro e w5 ⟨rfl, HK2⟩; clear HK; have HK := HK2; clear HK2)
  go_wp2_with (go_at_call 15; refine (safe_nil f _).mono ?_; rintro e w6 ⟨rfl, rfl⟩)
  go_wp2_with (go_at_call 23; refine (dead_nil _).mono ?_; rintro e w6 ⟨rfl, rfl⟩)
  go_wp2_with (go_at_call 18; refine (copy_nil _).mono ?_; rintro e w6 ⟨rfl, rfl⟩)
  go_wp2_with (go_at_call 11; refine (known_k HK).mono ?_; rintro e w6 ⟨rfl, HK2⟩)
  all_goals go_ret
  all_goals exact ⟨rfl, HK2.below⟩
end Go.Proofs.Ytplonehidfefdaa.Own
