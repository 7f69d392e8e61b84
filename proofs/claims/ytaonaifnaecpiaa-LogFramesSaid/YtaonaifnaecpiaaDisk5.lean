/- What dayshift/disk's Append and Read refuse; Append by what a file holds. No conditions beside those in each theorem. -/
import Derived.Test.YtaonaifnaecpiaaDisk4
namespace Go.Proofs.Ytaonaifnaecpiaa.Own
open Go.RowKit
theorem mayD_out (d : Dk) (f : Int) (hf : f < 0 ∨ 8 ≤ f) : mayD d [f] = 1 := by
  unfold mayD
  rw [if_pos ⟨f, by simp, hf⟩]
theorem may_oneI (d : Dk) (D : Nat) (f : Int) {w : World} {rs : List (Nat × List Value)} (W1 : World) (b1 : Nat) (H1 : KR w ((b1, [.int .i64 f]) :: (D, d.l) :: rs) W1) : Calls Try.prog 55 #[.pointer (some ⟨D, 0, none⟩), .slice (some ⟨b1, 0, none⟩) 1 1] W1 fun e W' => e = .returned (.int .i64 (mayD d [f])) ∧ W1 = W' :=
  may_k d D b1 [f] (kr_tail H1) (by simp) (by intro j hj; match j, hj with | 0, _ => exact kr_cell H1 0 rfl 0 _ rfl)
theorem append_no (d : Dk) (D : Nat) (f : Int) (m : Int) (hm : mayD d [f] = m) (h0 : m ≠ 0) {w W : World} {rs : List (Nat × List Value)} (HK : KR w ((D, d.l) :: rs) W) (v : Value) :
    Calls Try.prog 37 #[.pointer (some ⟨D, 0, none⟩), .int .i64 f, v] W fun e W' => e = .returned (.int .i64 m) ∧ KR w ((D, d.l) :: rs) W' := by
  have hM := fun W1 b1 H1 => may_oneI d D f (w := w) (rs := rs) W1 b1 H1
  rw [hm] at hM
  clear hm
  go_enter Try.func37, Try.ntmps37
  go_wp2_with (go_at_call 55; have HK2 := kr_new HK [.int .i64 f] 3; clear HK; have HK := HK2; clear HK2; refine (hM _ _ HK).mono ?_; rintro e w' ⟨rfl, rfl⟩)
  all_goals go_ret
  all_goals exact ⟨rfl, kr_tail HK⟩
theorem append_nil (f : Int) (v : Value) {w W : World} {rs : List (Nat × List Value)} (HK : KR w rs W) :
    Calls Try.prog 37 #[.pointer none, .int .i64 f, v] W fun e W' => e = .returned (.int .i64 2) ∧ KR w rs W' := by
  go_enter Try.func37, Try.ntmps37
  go_wp2_with (go_at_call 55; have HK2 := kr_new HK [.int .i64 f] 3; clear HK; have HK := HK2; clear HK2; refine (may_nil _ _ _ _).mono ?_; rintro e w' ⟨rfl, rfl⟩)
  all_goals go_ret
  all_goals exact ⟨rfl, kr_tail HK⟩
theorem append_full (d : Dk) (D : Nat) (k : Nat) (hk : k < 8) (m n : Nat) (hy : 1048576 < n + m) (hm : m ≤ 1048576) (h0 : d.dead = false) {w W : World} {rs : List (Nat × List Value)} (HK : KR w ((D, d.l) :: rs) W) (sp : Option Addr) (cap : Nat) (sx : Option Addr) (cx : Nat) (h1 : (d.f k).1 = .slice sx m cx) :
    Calls Try.prog 37 #[.pointer (some ⟨D, 0, none⟩), .int .i64 k, .slice sp n cap] W fun e W' => e = .returned (.int .i64 4) ∧ KR w ((D, d.l) :: rs) W' := by
  have kb := kr_cell HK 0 rfl _ _ (dk_a d k hk)
  have hk2 : (k : Int) < 8 := by omega
  have hM := fun W1 b1 H1 => may_one d D k (w := w) (rs := rs) W1 b1 H1
  have hm0 : mayD d [(k : Int)] = 0 := by rw [mayD_in d k hk, h0]; rfl
  rw [hm0] at hM
  clear hm0 h0
  rw [h1] at kb
  have hfull : (1048576 : Int) - (m : Int) < (n : Int) := by omega
  go_enter Try.func37, Try.ntmps37
  go_wp2_with (go_at_call 55; have HK2 := kr_new HK [.int .i64 (k : Int)] 3; clear HK; have HK := HK2; clear HK2; refine (hM _ _ HK).mono ?_; rintro e w' ⟨rfl, rfl⟩; have kb2 := kr_cell HK 1 rfl _ _ (dk_a d k hk); rw [h1] at kb2; have zD := kr_lt HK 1 rfl; clear kb; generalize W.alloc _ = W1 at HK kb2 zD ⊢)
  all_goals go_ret
  all_goals exact ⟨rfl, kr_tail HK⟩
theorem read_out (d : Dk) (D : Nat) (f : Int) (hf : f < 0 ∨ 8 ≤ f) {w W : World} {rs : List (Nat × List Value)} (HK : KR w ((D, d.l) :: rs) W) :
    Calls Try.prog 45 #[.pointer (some ⟨D, 0, none⟩), .int .i64 f] W fun e W' => e = .returned (.tuple #[.slice none 0 0, .int .i64 1]) ∧ KR w ((D, d.l) :: rs) W' := by
  have hM := fun W1 b1 H1 => may_oneI d D f (w := w) (rs := rs) W1 b1 H1
  rw [mayD_out d f hf] at hM
  clear hf
  go_enter Try.func45, Try.ntmps45
  go_wp2_with (go_at_call 55; have HK2 := kr_new HK [.int .i64 f] 3; clear HK; have HK := HK2; clear HK2; refine (hM _ _ HK).mono ?_; rintro e w' ⟨rfl, rfl⟩)
  all_goals go_ret2
  all_goals exact ⟨rfl, kr_tail HK⟩
theorem read_nil (f : Int) {w W : World} {rs : List (Nat × List Value)} (HK : KR w rs W) :
    Calls Try.prog 45 #[.pointer none, .int .i64 f] W fun e W' => e = .returned (.tuple #[.slice none 0 0, .int .i64 2]) ∧ KR w rs W' := by
  go_enter Try.func45, Try.ntmps45
  go_wp2_with (go_at_call 55; have HK2 := kr_new HK [.int .i64 f] 3; clear HK; have HK := HK2; clear HK2; refine (may_nil _ _ _ _).mono ?_; rintro e w' ⟨rfl, rfl⟩)
  all_goals go_ret2
  all_goals exact ⟨rfl, kr_tail HK⟩
/-- What a file's slice holds, as a source. -/
theorem fc_src {rs : List (Nat × List Value)} {v : Value} {xs : List Int} (h : FC rs v xs) : ∃ sx cx, v = .slice sx xs.length cx ∧ ∀ (w W1 : World), KR w rs W1 → Src W1 sx xs := by
  rcases h with ⟨rfl, rfl⟩ | ⟨b, cap, l, rfl, hm, _, _, ht⟩
  · exact ⟨none, 0, rfl, fun w W1 _ hp => absurd hp (by simp)⟩
  · exact ⟨_, cap, rfl, fun w W1 HK _ => ⟨_, rfl, src_cells (kr_mem HK hm) ht⟩⟩
theorem append_ok (d : Dk) (D : Nat) (k : Nat) (hk : k < 8) (xs ys : List Int) (hy : ys.length + xs.length ≤ 1048576) (hl : d.left ≤ 9223372036854775807) (h0 : d.dead = false) {w W : World} {rs : List (Nat × List Value)} (HK : KR w ((D, d.l) :: rs) W) (hf : FC rs (d.f k).1 xs) (sp : Option Addr) (cap : Nat) (hS : Src W sp ys) :
    Calls Try.prog 37 #[.pointer (some ⟨D, 0, none⟩), .int .i64 k, .slice sp ys.length cap] W fun e W' => ∃ g, e = .returned (.int .i64 (cntE (putA d k (.slice (some ⟨g, 0, none⟩) (xs.length + ys.length) (xs.length + ys.length))))) ∧ KR w ((D, (cnt (putA d k (.slice (some ⟨g, 0, none⟩) (xs.length + ys.length) (xs.length + ys.length)))).l) :: (g, bc (xs ++ ys)) :: rs) W' := by
  obtain ⟨sx, cx, h1, hx⟩ := fc_src hf
  exact append_okc d D k hk xs ys xs.length ys.length rfl rfl hy hl h0 HK sp cap hS sx cx h1 (fun W1 H => hx w W1 H)
end Go.Proofs.Ytaonaifnaecpiaa.Own
