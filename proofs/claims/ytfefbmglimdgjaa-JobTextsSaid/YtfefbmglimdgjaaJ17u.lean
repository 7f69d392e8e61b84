/- dayshift/date's Text and dayshift/job's num in the shape in which the kit's printer takes a function. No conditions beside those in each theorem. -/
import Derived.Test.YtfefbmglimdgjaaLen17
import Derived.Test.YtfefbmglimdgjaaDat
import Derived.Test.YtfefbmglimdgjaaPxx1
namespace Go.Proofs.Ytfefbmglimdgjaa.Own
open Go.RowKit
/-- A number's eight digits. -/
def d8 (k : Int) : List Int := [48 + k / 10000000 % 10, 48 + k / 1000000 % 10, 48 + k / 100000 % 10, 48 + k / 10000 % 10, 48 + k / 1000 % 10, 48 + k / 100 % 10, 48 + k / 10 % 10, 48 + k % 10]
set_option maxHeartbeats 4000000 in
theorem dtext_any (n y m d : Int) (w : World) (hD : ∀ w : World, Calls Try.prog 61 #[.int .i64 n] w fun e w' => e = .returned (.tuple #[.int .i64 y, .int .i64 m, .int .i64 d, .int .i64 0]) ∧ Below w.heap.size w w') (hy : 0 ≤ y ∧ y ≤ 9999) (hm : 0 ≤ m ∧ m ≤ 99) (hd : 0 ≤ d ∧ d ≤ 99) :
    Calls Try.prog 51 #[.int .i64 n] w fun e w' => e = .returned (.tuple #[.string (strOfNums (d8 (y * 10000 + m * 100 + d))), .int .i64 0]) ∧ Below w.heap.size w w' := by
  obtain ⟨K0, hK⟩ : ∃ K0, y * 10000 + m * 100 + d = K0 := ⟨_, rfl⟩
  rw [hK]
  have k0 : 0 ≤ K0 := by omega
  have z0 : K0 < 100000000 := by omega
  obtain ⟨K1, q0⟩ : ∃ K1, K0 / 10 = K1 := ⟨_, rfl⟩
  have k1 : 0 ≤ K1 := by omega
  have z1 : K1 < 10000000 := by omega
  obtain ⟨K2, q1⟩ : ∃ K2, K1 / 10 = K2 := ⟨_, rfl⟩
  have k2 : 0 ≤ K2 := by omega
  have z2 : K2 < 1000000 := by omega
  obtain ⟨K3, q2⟩ : ∃ K3, K2 / 10 = K3 := ⟨_, rfl⟩
  have k3 : 0 ≤ K3 := by omega
  have z3 : K3 < 100000 := by omega
  obtain ⟨K4, q3⟩ : ∃ K4, K3 / 10 = K4 := ⟨_, rfl⟩
  have k4 : 0 ≤ K4 := by omega
  have z4 : K4 < 10000 := by omega
  obtain ⟨K5, q4⟩ : ∃ K5, K4 / 10 = K5 := ⟨_, rfl⟩
  have k5 : 0 ≤ K5 := by omega
  have z5 : K5 < 1000 := by omega
  obtain ⟨K6, q5⟩ : ∃ K6, K5 / 10 = K6 := ⟨_, rfl⟩
  have k6 : 0 ≤ K6 := by omega
  have z6 : K6 < 100 := by omega
  obtain ⟨K7, q6⟩ : ∃ K7, K6 / 10 = K7 := ⟨_, rfl⟩
  have k7 : 0 ≤ K7 := by omega
  have z7 : K7 < 10 := by omega
  obtain ⟨c0, r0⟩ : ∃ c0, K0 % 10 = c0 := ⟨_, rfl⟩
  have a0 : 0 ≤ c0 := by omega
  have b0 : c0 ≤ 9 := by omega
  obtain ⟨c1, r1⟩ : ∃ c1, K1 % 10 = c1 := ⟨_, rfl⟩
  have a1 : 0 ≤ c1 := by omega
  have b1 : c1 ≤ 9 := by omega
  obtain ⟨c2, r2⟩ : ∃ c2, K2 % 10 = c2 := ⟨_, rfl⟩
  have a2 : 0 ≤ c2 := by omega
  have b2 : c2 ≤ 9 := by omega
  obtain ⟨c3, r3⟩ : ∃ c3, K3 % 10 = c3 := ⟨_, rfl⟩
  have a3 : 0 ≤ c3 := by omega
  have b3 : c3 ≤ 9 := by omega
  obtain ⟨c4, r4⟩ : ∃ c4, K4 % 10 = c4 := ⟨_, rfl⟩
  have a4 : 0 ≤ c4 := by omega
  have b4 : c4 ≤ 9 := by omega
  obtain ⟨c5, r5⟩ : ∃ c5, K5 % 10 = c5 := ⟨_, rfl⟩
  have a5 : 0 ≤ c5 := by omega
  have b5 : c5 ≤ 9 := by omega
  obtain ⟨c6, r6⟩ : ∃ c6, K6 % 10 = c6 := ⟨_, rfl⟩
  have a6 : 0 ≤ c6 := by omega
  have b6 : c6 ≤ 9 := by omega
  obtain ⟨c7, r7⟩ : ∃ c7, K7 % 10 = c7 := ⟨_, rfl⟩
  have a7 : 0 ≤ c7 := by omega
  have b7 : c7 ≤ 9 := by omega
  have q7 : K7 / 10 = 0 := by omega
  have H8 : Hid (d8 K0 = [48 + c7, 48 + c6, 48 + c5, 48 + c4, 48 + c3, 48 + c2, 48 + c1, 48 + c0]) := by
    show _ = _
    unfold d8
    rw [show K0 / 10000000 % 10 = c7 by omega, show K0 / 1000000 % 10 = c6 by omega, show K0 / 100000 % 10 = c5 by omega, show K0 / 10000 % 10 = c4 by omega, show K0 / 1000 % 10 = c3 by omega, show K0 / 100 % 10 = c2 by omega, show K0 / 10 % 10 = c1 by omega, show K0 % 10 = c0 by omega]
  go_enter Try.func51, Try.ntmps51
  go_wp2_with (first | (go_at_call 61; refine (hD _).mono ?_; rintro e w' ⟨rfl, hq1⟩))
  clear hD
  refine wp_loop_rounds 9 ?_
  iterate 8 (rw [rounds_succ]; go_wp2)
  have hcv := run_convert_bytes_arg (P := Try.prog) (w'.alloc (.cells #[.int .u8 (48 + c7), .int .u8 (48 + c6), .int .u8 (48 + c5), .int .u8 (48 + c4), .int .u8 (48 + c3), .int .u8 (48 + c2), .int .u8 (48 + c1), .int .u8 (48 + c0)] 87)) 88 5 Try.underlying88 Try.underlying5 w'.heap.size 0 8 8
    [48 + c7, 48 + c6, 48 + c5, 48 + c4, 48 + c3, 48 + c2, 48 + c1, 48 + c0] rfl (by
      intro i hi
      match i, hi with
      | 0, _ => go_simp
      | 1, _ => go_simp
      | 2, _ => go_simp
      | 3, _ => go_simp
      | 4, _ => go_simp
      | 5, _ => go_simp
      | 6, _ => go_simp
      | 7, _ => go_simp) 9 Try.underlying9
  rw [rounds_succ]
  go_wp2
  all_goals go_ret2
  all_goals exact ⟨by rw [show d8 K0 = _ from H8]; rfl, by repeat (with_reducible first | exact Below.refl _ _ | assumption | refine bw_step ?_ (by assumption) | refine bw_alloc ?_ _ | refine bw_drew ?_)⟩
def job_num.f (a0 : Int) : Option ByteArray := if 0 ≤ a0 ∧ a0 < 1000000000000000000 then some (strOfNums (digs 17 a0)) else none
theorem job_num.calls (a0 : Int) (r : ByteArray) (w : World) (h : job_num.f a0 = some r) : Calls Try.prog 52 #[.int .i64 a0] w fun e w' => e = .returned (.string r) ∧ w = w' := by
  unfold job_num.f at h
  split at h
  · simp only [Option.some.injEq] at h
    subst h
    exact num_any 17 a0 w (by omega) (by omega) (by omega) (by omega)
  · cases h
def date_Text.f (a0 : Int) : Option (ByteArray × Int) := (Px.date_Date.f 40 a0).bind fun t => if t.2.2.2 = 0 ∧ (0 ≤ t.1 ∧ t.1 ≤ 9999) ∧ (0 ≤ t.2.1 ∧ t.2.1 ≤ 99) ∧ (0 ≤ t.2.2.1 ∧ t.2.2.1 ≤ 99) then some (strOfNums (d8 (t.1 * 10000 + t.2.1 * 100 + t.2.2.1)), 0) else none
theorem date_Text.calls (a0 : Int) (r1 : ByteArray) (r2 : Int) (w : World) (h : date_Text.f a0 = some (r1, r2)) : Calls Try.prog 51 #[.int .i64 a0] w fun e w' => e = .returned (.tuple #[.string r1, .int .i64 r2]) ∧ Below w.heap.size w w' := by
  unfold date_Text.f at h
  obtain ⟨⟨y, m, d, z⟩, h1, h2⟩ := Option.bind_eq_some_iff.mp h
  dsimp only at h2
  split at h2
  · rename_i hb
    obtain ⟨rfl, hy, hm, hd⟩ := hb
    simp only [Option.some.injEq, Prod.mk.injEq] at h2
    obtain ⟨rfl, rfl⟩ := h2
    exact dtext_any a0 y m d w (fun w => Px.date_Date.calls 40 a0 y m d 0 w h1) hy hm hd
  · cases h2
end Go.Proofs.Ytfefbmglimdgjaa.Own
