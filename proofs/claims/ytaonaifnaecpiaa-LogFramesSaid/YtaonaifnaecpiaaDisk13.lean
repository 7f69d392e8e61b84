/- What dayshift/disk's Clear and Rename refuse; the fixed calls. No conditions beside those in each theorem. -/
import Derived.Test.YtaonaifnaecpiaaDisk12
import Derived.Lib.SlBytesConst
import Derived.Laws.BytesArg
namespace Go.Proofs.Ytaonaifnaecpiaa.Own
open Go.RowKit
set_option linter.unusedSimpArgs false
theorem clear_nil (f : Int) {w W : World} {rs : List (Nat × List Value)} (HK : KR w rs W) : Calls Try.prog 49 #[.pointer none, .int .i64 f] W fun e W' => e = .returned (.int .i64 2) ∧ KR w rs W' := by
  have hC : ∀ (fn : Value) (b n : Nat) (W1 : World), KR w rs W1 → Calls Try.prog 66 #[.pointer none, fn, .slice (some ⟨b, 0, none⟩) n n] W1 fun e W' => e = .returned (.int .i64 2) ∧ KR w rs W' := by
    intro fn b n W1 H1
    go_enter Try.func66, Try.ntmps66
    go_wp2_with (go_at_call 55; refine (may_nil _ _ _ _).mono ?_; rintro e w' ⟨rfl, rfl⟩)
    all_goals go_ret
    all_goals exact ⟨rfl, H1⟩
  go_enter Try.func49, Try.ntmps49
  go_wp2_with (go_at_call 66; have H1 := kr_alloc (kr_alloc (kr_alloc HK (.cells #[.pointer none] 42)) (.cells #[.int .i64 f] 3)) (.cells #[.int .i64 f] 3); refine (hC _ _ _ _ H1).mono ?_; rintro e w' ⟨rfl, HK2⟩)
  go_ret
  exact ⟨rfl, HK2⟩
theorem rename_nil (f t : Int) {w W : World} {rs : List (Nat × List Value)} (HK : KR w rs W) : Calls Try.prog 65 #[.pointer none, .int .i64 f, .int .i64 t] W fun e W' => e = .returned (.int .i64 2) ∧ KR w rs W' := by
  have hC : ∀ (fn : Value) (b n : Nat) (W1 : World), KR w rs W1 → Calls Try.prog 66 #[.pointer none, fn, .slice (some ⟨b, 0, none⟩) n n] W1 fun e W' => e = .returned (.int .i64 2) ∧ KR w rs W' := by
    intro fn b n W1 H1
    go_enter Try.func66, Try.ntmps66
    go_wp2_with (go_at_call 55; refine (may_nil _ _ _ _).mono ?_; rintro e w' ⟨rfl, rfl⟩)
    all_goals go_ret
    all_goals exact ⟨rfl, H1⟩
  go_enter Try.func65, Try.ntmps65
  go_wp2_with (go_at_call 66; have H1 := kr_alloc (kr_alloc (kr_alloc (kr_alloc HK (.cells #[.pointer none] 42)) (.cells #[.int .i64 f] 3)) (.cells #[.int .i64 t] 3)) (.cells #[.int .i64 f, .int .i64 t] 3); refine (hC _ _ _ _ H1).mono ?_; rintro e w' ⟨rfl, HK2⟩)
  go_ret
  exact ⟨rfl, HK2⟩
theorem cnt_zero {d : Dk} (h : d.left = 0) : cnt d = d := by unfold cnt; rw [if_neg (by omega)]
theorem cntE_zero {d : Dk} (h : d.left = 0) (h2 : d.dead = false) : cntE d = 0 := by unfold cntE; rw [cnt_zero h, h2]; rfl
theorem src_const (w : World) (xs : List Int) (t : TypeId) (m : Nat × Nat) : Src (w.alloc (.cells (bc xs).toArray t m)) (some ⟨w.heap.size, 0, none⟩) xs := fun _ => ⟨_, rfl, fun j v hv => by
  rw [Addr.add_mid, Nat.zero_add, World.cell?_alloc_mark]; simpa using hv⟩
/-- The disk of the fixed calls: its first file has bytes, some of them safe. -/
def kd (v : Value) (n : Int) : Dk := ⟨fun j => if j = 0 then (v, n) else (.slice none 0 0, 0), 0, false⟩
theorem kd_put (v v' : Value) (n : Int) : putA (kd v n) 0 v' = kd v' n := by
  simp only [putA, kd, Dk.mk.injEq, and_true]
  funext j
  unfold upd
  split <;> simp_all
theorem kd_dk0 : kd (.slice none 0 0) 0 = dk0 := by
  simp only [dk0, kd, Dk.mk.injEq, and_true]
  funext j
  split <;> rfl
theorem kd_file (v : Value) (n : Int) : (kd v n).f 0 = (v, n) := rfl
theorem kd_append (v : Value) (n : Int) (D : Nat) (xs ys : List Int) (hy : ys.length + xs.length ≤ 1048576) {w W : World} {rs : List (Nat × List Value)} (HK : KR w ((D, (kd v n).l) :: rs) W) (hf : FC rs v xs) (sp : Option Addr) (cap : Nat) (hS : Src W sp ys) :
    Calls Try.prog 37 #[.pointer (some ⟨D, 0, none⟩), .int .i64 0, .slice sp ys.length cap] W fun e W' => ∃ g, e = .returned (.int .i64 0) ∧ KR w ((D, (kd (.slice (some ⟨g, 0, none⟩) (xs.length + ys.length) (xs.length + ys.length)) n).l) :: (g, bc (xs ++ ys)) :: rs) W' := by
  refine (append_ok (kd v n) D 0 (by omega) xs ys hy (by show (0 : Int) ≤ _; omega) rfl HK hf sp cap hS).mono ?_
  rintro e w' ⟨g, rfl, H⟩
  rw [kd_put, cnt_zero rfl] at H
  refine ⟨g, ?_, H⟩
  rw [kd_put, cntE_zero rfl rfl]
theorem kd_sync (sx : Option Addr) (m cx : Nat) (n : Int) (D : Nat) {w W : World} {rs : List (Nat × List Value)} (HK : KR w ((D, (kd (.slice sx m cx) n).l) :: rs) W) :
    Calls Try.prog 48 #[.pointer (some ⟨D, 0, none⟩), .int .i64 0] W fun e W' => e = .returned (.int .i64 0) ∧ KR w ((D, (kd (.slice sx m cx) m).l) :: rs) W' := by
  refine (sync_k (kd (.slice sx m cx) n) D 0 (fun i hi => by
    by_cases h : i = 0
    · subst h; exact ⟨_, _, _, rfl⟩
    · exact ⟨none, 0, 0, by unfold kd; simp [h]⟩) (by show (0 : Int) ≤ _; omega) HK).mono ?_
  rintro e w' ⟨rfl, H⟩
  have h0 : mayD (kd (.slice sx m cx) n) [0] = 0 := mayD_in _ 0 (by omega)
  have e1 : chE (kd (.slice sx m cx) n) [0] = 0 := by unfold chE; rw [if_pos h0, cntE_zero rfl rfl]
  have e2 : synD (kd (.slice sx m cx) n) 0 = kd (.slice sx m cx) m := by
    unfold synD chD
    rw [if_pos h0, if_pos (cntE_zero rfl rfl), cnt_zero rfl]
    simp only [putS, kd, Dk.mk.injEq, and_true]
    funext j
    unfold upd
    split <;> simp_all
  rw [e1]
  rw [e2] at H
  exact ⟨rfl, H⟩
theorem kd_crash (sx : Option Addr) (m cx s : Nat) (hs : s ≤ m) (hm : m ≤ cx) (hm2 : m ≤ 1048576) (hx : sx = none → cx = 0) (D b : Nat) (x : Int) {w W : World} {rs : List (Nat × List Value)} (HK : KR w ((D, (kd (.slice sx m cx) s).l) :: (b, [.int .i64 x]) :: rs) W) :
    Calls Try.prog 28 #[.pointer (some ⟨D, 0, none⟩), .slice (some ⟨b, 0, none⟩) 1 1] W fun e W' => e = .returned (.tuple #[]) ∧ KR w ((D, (kd (.slice sx (crN s m (some x)) (crN s m (some x))) (crN s m (some x) : Nat)).l) :: rs) W' := by
  refine (crash_k (kd (.slice sx m cx) s) D [x] 1 rfl _ _ (fun i hi => by
    by_cases h : i = 0
    · subst h; exact ⟨_, _, _, _, rfl, hs, hm, hm2, hx⟩
    · exact ⟨none, 0, 0, 0, by unfold kd; simp [h], by omega, by omega, by omega, fun _ => rfl⟩) HK (fun d' W1 H1 j hj => by
      obtain rfl : j = 0 := by omega
      exact ⟨_, rfl, kr_cell H1 1 rfl 0 _ rfl⟩)).mono ?_
  rintro e w' ⟨rfl, H⟩
  have e2 : ({ crD (kd (.slice sx m cx) s) [x] 8 with left := 0, dead := false } : Dk) = kd (.slice sx (crN s m (some x)) (crN s m (some x))) (crN s m (some x) : Nat) := by
    unfold crD
    simp only [kd, Dk.mk.injEq, and_true]
    funext j
    by_cases h : j = 0
    · subst h; simp [crF]
    · simp only [h, if_false]
      split
      · have : [x][j]? = none := by simp; omega
        rw [this]; simp [crF, crN]
      · rfl
  rw [e2] at H
  exact ⟨rfl, kr_drop H⟩
end Go.Proofs.Ytaonaifnaecpiaa.Own
