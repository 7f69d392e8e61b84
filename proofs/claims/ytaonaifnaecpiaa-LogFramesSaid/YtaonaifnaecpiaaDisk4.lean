/- What dayshift/disk's Append does with a disk in memory. No conditions beside those in each theorem. -/
import Derived.Test.YtaonaifnaecpiaaDisk3
namespace Go.Proofs.Ytaonaifnaecpiaa.Own
open Go.RowKit
/-- A slice's elements are these bytes. -/
def Src (W : World) (sp : Option Addr) (ys : List Int) : Prop := 0 < ys.length → ∃ A, sp = some A ∧ ∀ j v, (bc ys)[j]? = some v → W.cell? (A.add j) = some v
theorem src_keep {W W' : World} {sp : Option Addr} {ys : List Int} (h : Src W sp ys) (hb : Below W.heap.size W W') : Src W' sp ys := by
  intro hp
  obtain ⟨A, rfl, h3⟩ := h hp
  refine ⟨A, rfl, fun j v hv => ?_⟩
  have := h3 j v hv
  rw [← this]
  exact hb.cell (World.block_lt_of_cell? W _ this)
theorem bc_app (xs ys : List Int) : bc (xs ++ ys) = bc xs ++ bc ys := by simp [bc]
theorem splice_two (L X Y : List Value) (h : L.length = X.length + Y.length) : splice (splice L 0 X) X.length Y = X ++ Y := by
  unfold splice
  simp [h]
/-- A file behind an append. -/
def putA (d : Dk) (k : Nat) (v : Value) : Dk := { d with f := upd d.f k (v, (d.f k).2) }
theorem append_okc (d : Dk) (D : Nat) (k : Nat) (hk : k < 8) (xs ys : List Int) (m n : Nat) (hX : Hid (xs.length = m)) (hY : Hid (ys.length = n)) (hy : n + m ≤ 1048576) (hl : d.left ≤ 9223372036854775807) (h0 : d.dead = false) {w W : World} {rs : List (Nat × List Value)} (HK : KR w ((D, d.l) :: rs) W) (sp : Option Addr) (cap : Nat) (hS : Src W sp ys)
    (sx : Option Addr) (cx : Nat) (h1 : (d.f k).1 = .slice sx m cx) (hx : ∀ W1, KR w rs W1 → Src W1 sx xs) :
    Calls Try.prog 37 #[.pointer (some ⟨D, 0, none⟩), .int .i64 k, .slice sp n cap] W fun e W' => ∃ g, e = .returned (.int .i64 (cntE (putA d k (.slice (some ⟨g, 0, none⟩) (m + n) (m + n))))) ∧ KR w ((D, (cnt (putA d k (.slice (some ⟨g, 0, none⟩) (m + n) (m + n)))).l) :: (g, bc (xs ++ ys)) :: rs) W' := by
  have kb := kr_cell HK 0 rfl _ _ (dk_a d k hk)
  have hk2 : (k : Int) < 8 := by omega
  have hM := fun W1 b1 H1 => may_one d D k (w := w) (rs := rs) W1 b1 H1
  have hm0 : mayD d [(k : Int)] = 0 := by rw [mayD_in d k hk, h0]; rfl
  rw [hm0] at hM
  clear hm0 h0
  have hms : ∀ W : World, (Instr.makeSlice 23 (.int .i64 ((m : Int) + (n : Int))) (.int .i64 ((m : Int) + (n : Int)))).run Try.prog W = .ok (.slice (some ⟨W.heap.size, 0, none⟩) (m + n) (m + n)) (W.alloc (.cells (madeCells #[.int .u8 0] (m + n)) 5)) := fun W => by
    have := run_make_row' _ _ _ _ Try.underlying23 u8_info rfl .i64 .i64 (m + n) (by omega) (by omega) W
    rwa [Int.natCast_add] at this
  rw [h1] at kb
  have hfull : (n : Int) ≤ 1048576 - (m : Int) := by omega
  have lX : (bc xs).length = m := by rw [bc_len]; exact hX
  have lY : (bc ys).length = n := by rw [bc_len]; exact hY
  have LX : Hid ((bc xs).length = m) := lX
  have LY : Hid ((bc ys).length = n) := lY
  clear lX lY
  go_enter Try.func37, Try.ntmps37
  go_wp2_with (first | (go_at_call 55; have HK2 := kr_new HK [.int .i64 (k : Int)] 3; have hS2 := src_keep hS (bw_alloc (Below.refl _ W) (.cells [.int .i64 (k : Int)].toArray 3)); clear HK hS; have HK := HK2; have hS := hS2; clear HK2 hS2; refine (hM _ _ HK).mono ?_; rintro e w' ⟨rfl, rfl⟩; have kb2 := kr_cell HK 1 rfl _ _ (dk_a d k hk); rw [h1] at kb2; have zD := kr_lt HK 1 rfl; clear kb; generalize W.alloc _ = W1 at HK hS kb2 zD ⊢) | ((with_reducible show wpList _ _ _ (Oper.mk (some 46) (Op.call _) _ _ _ _ :: _) _ _); refine wpList_copy_splice rfl _ _ 23 23 rfl 5 Try.underlying23 u8_size _ _ _ _ _ _ rfl rfl W1.heap.size 0 (madeCells #[.int .u8 0] (m + n)).toList 5 (heap_alloc_last _ _) (bc xs) (by rw [LX.out]; exact (Nat.min_eq_left (by omega)).symm) (fun h => ⟨rfl, src_keep (hx W1 (kr_tail (kr_tail HK))) (bw_alloc (Below.refl _ _) _) (by rw [bc_len] at h; exact h)⟩) (by rw [LX.out, made_len]; omega) (bc_one xs) W1.heap.size W1 (bw_alloc (Below.refl _ _) _) (Nat.le_refl _) (fun w2 HG HB => ?_); have hS2 := src_keep hS HB; clear hS; have hS := hS2; clear hS2; rw [LX.out]) | ((with_reducible show wpList _ _ _ (Oper.mk (some 49) (Op.call _) _ _ _ _ :: _) _ _); refine wpList_copy_splice rfl _ _ 23 23 rfl 5 Try.underlying23 u8_size _ _ _ _ _ _ rfl rfl W1.heap.size m (splice (madeCells #[.int .u8 0] (m + n)).toList 0 (bc xs)) 5 HG.out (bc ys) (by rw [LY.out]; first | exact (Nat.min_self n).symm | (simp; omega) | omega) (fun h => ⟨by first | rfl | (rw [LY.out] at h; rw [if_neg (by omega)]), hS (by rw [bc_len] at h; exact h)⟩) (by rw [LY.out, length_splice _ _ _ (by rw [LX.out, made_len]; omega), made_len]; omega) (bc_one ys) W1.heap.size W1 HB (Nat.le_refl _) (fun w3 HG3 HB3 => ?_); have HK3 := kr_drop (kr_made (cs := bc xs ++ bc ys) HK HB3 (by rw [HG3.out, ← LX.out, splice_two _ _ _ (by rw [made_len, LX.out, LY.out])])); have kD := kr_cell HK3 1 rfl _ _ (dk_a d k hk); rw [h1] at kD; have fD := kr_frozen HK3 1 rfl (k * 2) (by rw [dk_len]; omega); clear HK kb2 zD HG HB hS; rw [LY.out]))
  all_goals (
    try rw [show (Value.slice (some ⟨W1.heap.size, 0, none⟩) m m) = Value.slice (some ⟨W1.heap.size, 0, none⟩) (m + n) (m + n) by rw [show m + n = m by omega]]
    have HK4 := kr_fset HK3 1 rfl (k * 2) (by rw [dk_len]; omega) (.slice (some ⟨W1.heap.size, 0, none⟩) (m + n) (m + n)) _ (dk_setA d k hk _)
    simp only [List.set_cons_succ, List.set_cons_zero] at HK4
    have HK5 := kr_swap HK4
    clear HK3 HK4 kD fD hM hms
    refine (count_k (putA d k (.slice (some ⟨W1.heap.size, 0, none⟩) (m + n) (m + n))) D HK5 hl).mono ?_
    rintro e w' ⟨rfl, HK6⟩
    clear HK5
    go_wp2
    go_ret
    first | exact ⟨_, rfl, by rw [bc_app]; exact HK6⟩ | (refine ⟨W1.heap.size, ?_, by rw [bc_app]; exact HK6⟩; rw [show m + n = m by omega]; rfl))
end Go.Proofs.Ytaonaifnaecpiaa.Own
