/- What dayshift/job's Text shows of the state that the fixed calls ask for. -/
import Derived.Deep.RegionHeld3
import Derived.Test.YtfefbmglimdgjaaJob2
namespace Go.Proofs.Ytfefbmglimdgjaa.Own
open Go.RowKit
def n0S : ByteArray := ⟨#[48]⟩
def n1S : ByteArray := ⟨#[49]⟩
def n7S : ByteArray := ⟨#[55]⟩
def d1S : ByteArray := strOfNums [48, 48, 48, 49, 48, 49, 48, 49]
theorem results_own4 {fn : Func} {t u v x : Tmp} (h : fn.results = #[.tmp t, .tmp u, .tmp v, .tmp x]) (tmps : Array Value) (P : Program) (w : World) :
    (results fn tmps).run P w = .ok (.tuple #[tmps.getD t undef, tmps.getD u undef, tmps.getD v undef, tmps.getD x undef]) w := by
  simp [results, h]
theorem num_0 (w : World) : Calls Try.prog 52 #[.int .i64 0] w fun e w' => e = .returned (.string n0S) ∧ w = w' := by
  go_enter Try.func52, Try.ntmps52
  go_wp2
  all_goals go_ret
  all_goals exact ⟨rfl, rfl⟩
theorem num_1 (w : World) : Calls Try.prog 52 #[.int .i64 1] w fun e w' => e = .returned (.string n1S) ∧ w = w' := by
  go_enter Try.func52, Try.ntmps52
  go_wp2
  all_goals go_ret
  all_goals exact ⟨rfl, rfl⟩
theorem num_7 (w : World) : Calls Try.prog 52 #[.int .i64 7] w fun e w' => e = .returned (.string n7S) ∧ w = w' := by
  go_enter Try.func52, Try.ntmps52
  go_wp2
  all_goals go_ret
  all_goals exact ⟨rfl, rfl⟩
theorem before_1 (w : World) : Calls Try.prog 63 #[.int .i64 1] w fun e w' => e = .returned (.int .i64 0) ∧ w = w' := by
  go_enter Try.func63, Try.ntmps63
  go_wp2
  all_goals go_ret
  all_goals exact ⟨rfl, rfl⟩
theorem before_2 (w : World) : Calls Try.prog 63 #[.int .i64 2] w fun e w' => e = .returned (.int .i64 365) ∧ w = w' := by
  go_enter Try.func63, Try.ntmps63
  go_wp2
  all_goals go_ret
  all_goals exact ⟨rfl, rfl⟩
theorem len_11 (w : World) : Calls Try.prog 64 #[.int .i64 1, .int .i64 1] w fun e w' => e = .returned (.int .i64 31) ∧ Below w.heap.size w w' := by
  go_enter Try.func64, Try.ntmps64
  go_wp2
  all_goals go_ret
  all_goals exact ⟨rfl, by repeat (with_reducible first | exact Below.refl _ _ | assumption | refine bw_step ?_ (by assumption) | refine bw_alloc ?_ _ | refine bw_drew ?_)⟩
theorem date_1 (w : World) : Calls Try.prog 61 #[.int .i64 1] w fun e w' => e = .returned (.tuple #[.int .i64 1, .int .i64 1, .int .i64 1, .int .i64 0]) ∧ Below w.heap.size w w' := by
  go_enter Try.func61, Try.ntmps61
  go_wp2_with (first | (go_at_call 49; refine (dright_any _ _).mono ?_; rintro e w' ⟨rfl, rfl⟩) | (go_at_call 63; first | ((with_reducible refine (before_1 _).mono ?_); rintro e w' ⟨rfl, rfl⟩) | ((with_reducible refine (before_2 _).mono ?_); rintro e w' ⟨rfl, rfl⟩)) | (go_at_call 64; (with_reducible refine (len_11 _).mono ?_); rintro e w' ⟨rfl, hq1⟩))
  refine wp_loop_once ?_
  go_wp2_with (first | (go_at_call 49; refine (dright_any _ _).mono ?_; rintro e w' ⟨rfl, rfl⟩) | (go_at_call 63; first | ((with_reducible refine (before_1 _).mono ?_); rintro e w' ⟨rfl, rfl⟩) | ((with_reducible refine (before_2 _).mono ?_); rintro e w' ⟨rfl, rfl⟩)) | (go_at_call 64; (with_reducible refine (len_11 _).mono ?_); rintro e w' ⟨rfl, hq1⟩))
  all_goals ((try simp only [Exit.inBlock, Exit.then]); refine bodyPost_ret (results_own4 rfl _ _ _) rfl ?_)
  all_goals exact ⟨rfl, by repeat (with_reducible first | exact Below.refl _ _ | assumption | refine bw_step ?_ (by assumption) | refine bw_alloc ?_ _ | refine bw_drew ?_)⟩
theorem text_1 (w : World) : Calls Try.prog 51 #[.int .i64 1] w fun e w' => e = .returned (.tuple #[.string d1S, .int .i64 0]) ∧ Below w.heap.size w w' := by
  go_enter Try.func51, Try.ntmps51
  go_wp2_with (first | (go_at_call 61; refine (date_1 _).mono ?_; rintro e w' ⟨rfl, hq1⟩))
  refine wp_loop_rounds 9 ?_
  iterate 8 (rw [rounds_succ]; go_wp2)
  have hcv := run_convert_bytes_arg (P := Try.prog) (w'.alloc (.cells #[.int .u8 48, .int .u8 48, .int .u8 48, .int .u8 49, .int .u8 48, .int .u8 49, .int .u8 48, .int .u8 49] 87)) 88 5 Try.underlying88 Try.underlying5 w'.heap.size 0 8 8
    [48, 48, 48, 49, 48, 49, 48, 49] rfl (by
      intro i hi
      match i, hi with
      | 0, _ => go_simp
      | 1, _ => go_simp
      | 2, _ => go_simp
      | 3, _ => go_simp
      | 4, _ => go_simp
      | 5, _ => go_simp
      | 6, _ => go_simp
      | 7, _ => go_simp) 9 Try.underlying9
  rw [rounds_succ]
  go_wp2
  all_goals go_ret2
  all_goals exact ⟨rfl, by repeat (with_reducible first | exact Below.refl _ _ | assumption | refine bw_step ?_ (by assumption) | refine bw_alloc ?_ _ | refine bw_drew ?_)⟩
theorem n0S_size : n0S.size = 1 := rfl
theorem n1S_size : n1S.size = 1 := rfl
theorem n7S_size : n7S.size = 1 := rfl
theorem d1S_size : d1S.size = 8 := by decide +kernel
theorem jt_eq : n1S ++ ⟨#[32]⟩ ++ n0S ++ ⟨#[32]⟩ ++ d1S ++ ⟨#[32]⟩ ++ ⟨#[114, 117, 110]⟩ ++ ⟨#[32, 35]⟩ ++ n7S = strOfNums [49, 32, 48, 32, 48, 48, 48, 49, 48, 49, 48, 49, 32, 114, 117, 110, 32, 35, 55] := by decide +kernel
attribute [irreducible] n0S n1S n7S d1S
set_option maxHeartbeats 4000000 in
set_option maxRecDepth 20000 in
theorem jtext_1 (w : World) : Calls Try.prog 19 #[St.v ⟨1, 0, 1, 1, false, false, 1, 0, 7, 0⟩] w fun e w' => e = .returned (.string (strOfNums [49, 32, 48, 32, 48, 48, 48, 49, 48, 49, 48, 49, 32, 114, 117, 110, 32, 35, 55])) ∧ Below w.heap.size w w' := by
  have hR : rightB ⟨1, 0, 1, 1, false, false, 1, 0, 7, 0⟩ = true := by decide +kernel
  have z0 := n0S_size
  have z1 := n1S_size
  have z7 := n7S_size
  have zd := d1S_size
  have hidx : ∀ W : World, (Instr.index 81 (.agg #[.string ⟨#[119, 97, 105, 116]⟩, .string ⟨#[114, 117, 110]⟩, .string ⟨#[103, 111, 111, 100]⟩, .string ⟨#[98, 97, 100]⟩]) (.int .i64 1)).run Try.prog W = .ok (.string ⟨#[114, 117, 110]⟩) W := by
    intro W
    simp [Instr.index, go_sem]
  simp only [St.v]
  go_enter Try.func19, Try.ntmps19
  go_wp2_with (first | (go_at_call 16; refine (right_any ⟨1, 0, 1, 1, false, false, 1, 0, 7, 0⟩ _).mono ?_; rw [hR]; rintro e w1 ⟨rfl, hq1⟩; have hS1 := ks_step (ks_refl _) hq1; obtain ⟨hc1, hf1, _⟩ := bw_cell hq1) | (go_at_call 51; refine (text_1 _).mono ?_; rintro e w2 ⟨rfl, hq2⟩; have hS2 := ks_step hS1 hq2))
  go_region_held3 (fun W => KS (w.alloc (.cells #[.int .i64 1, .int .i64 0, .int .i64 1, .int .i64 1, .bool false, .bool false, .int .i64 1, .int .i64 0, .int .i64 7, .int .i64 0] 35)) W)
    (with_reducible (first | assumption | exact ks_drew (by assumption)))
    (first | (go_at_call 52; first | ((with_reducible refine (num_1 _).mono ?_); rintro e w' ⟨rfl, rfl⟩) | ((with_reducible refine (num_0 _).mono ?_); rintro e w' ⟨rfl, rfl⟩)))
  all_goals (
    rename_i hH
    obtain ⟨hc3, hf3, _, hB⟩ := hH
    go_wp2_with (go_at_call 52; (with_reducible refine (num_7 _).mono ?_); rintro e w' ⟨rfl, rfl⟩)
    go_ret
    exact ⟨congrArg (fun s => Ending.returned (.string s)) jt_eq, bw_step (bw_alloc (Below.refl _ _) _) hB⟩)
end Go.Proofs.Ytfefbmglimdgjaa.Own
