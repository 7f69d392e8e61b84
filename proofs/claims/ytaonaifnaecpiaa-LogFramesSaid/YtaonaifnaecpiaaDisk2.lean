/- What dayshift/disk's New, Fail and Copy do with a disk in memory. No conditions beside those in each theorem. -/
import Derived.Test.YtaonaifnaecpiaaDisk1
namespace Go.Proofs.Ytaonaifnaecpiaa.Own
open Go.RowKit
attribute [local go_sem] mm_max2 mm_min2 mm_max_two mm_min_two
def dk0 : Dk := ⟨fun _ => (.slice none 0 0, 0), 0, false⟩
theorem dk0_build : Try.prog.built 78 [] = some dk0.l.toArray := by unfold Dk.l; kernel_rfl
theorem dk0_zero : (Try.prog.info? 78).map (fun i => (i.zero, i.size)) = some (some (.agg dk0.l.toArray), 18) := by unfold Dk.l; kernel_rfl
theorem dk_len' (d : Dk) : d.l.length = 18 := dk_len d
theorem dk_size (d : Dk) : (Try.prog.info? 78).map (·.size) = some d.l.length := by
  have h : (Try.prog.info? 78).map (·.size) = some 18 := by kernel_rfl
  rw [h, dk_len]
theorem dk_under : Try.prog.underlying 78 = some (.struct (match Try.prog.underlying 78 with | some (.struct f) => f | _ => #[])) := by kernel_rfl
theorem dk_one (d : Dk) (h : ∀ i, i < 8 → (d.f i).1.oneCell' = true) : ∀ v ∈ d.l, v.oneCell' = true := by
  unfold Dk.l
  intro v hv
  simp only [List.mem_cons, List.not_mem_nil, or_false] at hv
  rcases hv with rfl | rfl | rfl | rfl | rfl | rfl | rfl | rfl | rfl | rfl | rfl | rfl | rfl | rfl | rfl | rfl | rfl | rfl
  all_goals first | rfl | (exact h _ (by omega))
theorem new_k {w W : World} {rs : List (Nat × List Value)} (HK : KR w rs W) : Calls Try.prog 23 #[] W fun e W' => ∃ D, e = .returned (.pointer (some ⟨D, 0, none⟩)) ∧ KR w ((D, dk0.l) :: rs) W' := by
  go_enter Try.func23, Try.ntmps23
  go_wp2_with (first | ((with_reducible show wpList _ _ _ (Oper.mk _ (Op.build 78 _) _ _ _ _ :: _) _ _); refine wl_build 78 #[] dk0.l rfl rfl (by unfold Dk.l; kernel_rfl) ?_) | ((with_reducible show wpList _ _ _ (Oper.mk _ (Op.box 78 _) _ _ _ _ :: _) _ _); refine wl_boxK 78 _ dk0.l HK rfl rfl rfl (fun HK2 => ?_); clear HK; have HK := HK2; clear HK2))
  go_ret
  exact ⟨_, rfl, HK⟩
def maxZ (n : Int) : Int := if n < 0 then 0 else n
theorem maxZ_neg {n : Int} (h : n < 0) : maxZ n = 0 := by unfold maxZ; rw [if_pos h]
theorem maxZ_pos {n : Int} (h : ¬ n < 0) : maxZ n = n := by unfold maxZ; rw [if_neg h]
attribute [irreducible] maxZ
theorem fail_k (d : Dk) (D : Nat) (n : Int) {w W : World} {rs : List (Nat × List Value)} (HK : KR w ((D, d.l) :: rs) W) : Calls Try.prog 27 #[.pointer (some ⟨D, 0, none⟩), .int .i64 n] W fun e W' => e = .returned (.tuple #[]) ∧ KR w ((D, ({ d with left := maxZ n } : Dk).l) :: rs) W' := by
  have kl := kr_cell HK 0 rfl _ _ (dk_left d)
  have fl := kr_frozen HK 0 rfl 16 (by rw [dk_len]; omega)
  by_cases hn : n < 0
  · have H1 := kr_fset HK 0 rfl 16 (by rw [dk_len]; omega) (.int .i64 0) _ (dk_setL d 0)
    simp only [List.set_cons_zero] at H1
    have HH : Hid (KR w ((D, ({ d with left := maxZ n } : Dk).l) :: rs) (W.setCell ⟨D, 16, none⟩ (.int .i64 0))) := by rw [maxZ_neg hn]; exact H1
    clear H1 HK
    go_enter Try.func27, Try.ntmps27
    go_wp2
    all_goals exact bodyPost_end (results_none rfl _ _ _) rfl ⟨rfl, HH⟩
  · have H1 := kr_fset HK 0 rfl 16 (by rw [dk_len]; omega) (.int .i64 n) _ (dk_setL d n)
    simp only [List.set_cons_zero] at H1
    have HH : Hid (KR w ((D, ({ d with left := maxZ n } : Dk).l) :: rs) (W.setCell ⟨D, 16, none⟩ (.int .i64 n))) := by rw [maxZ_pos hn]; exact H1
    clear H1 HK
    go_enter Try.func27, Try.ntmps27
    go_wp2
    all_goals exact bodyPost_end (results_none rfl _ _ _) rfl ⟨rfl, HH⟩
theorem fail_nil (n : Int) (W : World) : Calls Try.prog 27 #[.pointer none, .int .i64 n] W fun e W' => e = .returned (.tuple #[]) ∧ W = W' := by
  go_enter Try.func27, Try.ntmps27
  go_wp2
  all_goals exact bodyPost_end (results_none rfl _ _ _) rfl ⟨rfl, rfl⟩
end Go.Proofs.Ytaonaifnaecpiaa.Own
