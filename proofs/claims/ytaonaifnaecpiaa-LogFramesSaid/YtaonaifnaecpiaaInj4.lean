/- Contracts of dayshift/log's Sum and Frame and of slices.Clone, as the printed texts want them. No conditions beside those in each theorem. -/
import Derived.Test.YtaonaifnaecpiaaFr
namespace Go.Proofs.Ytaonaifnaecpiaa.Own
open Go.RowKit Go.Proofs.YtaonaifnaecpiaaW.PrintWords
set_option linter.unusedSimpArgs false
set_option linter.unusedVariables false
def log_Sum.f (l0 : List Int) : Option Int := if (∀ b ∈ l0, 0 ≤ b ∧ b < 256) then some ((crc (nb l0) : Nat) : Int) else none
theorem log_Sum.calls (A0 : Option Addr) (c0 : Nat) (l0 : List Int) (r : Int) (w : World) (hr0 : Kd.C (Kd.int .u8) w A0 l0.length l0) (hc0 : l0.length ≤ c0) (h : log_Sum.f l0 = some r) :
    Calls Try.prog 16 #[.slice A0 l0.length c0] w fun e w' => e = .returned (.int .u32 r) ∧ Below w.heap.size w w' := by
  unfold log_Sum.f at h
  split at h
  · rename_i hb
    injection h with h
    subst h
    refine (sum_k (kr_refl w) l0 l0.length rfl hb hr0.2.1 A0 c0 (fun W1 H => srcV_keep (c_srcV hr0) H.below)).mono ?_
    rintro e w' ⟨rfl, H⟩
    exact ⟨rfl, H.below⟩
  · cases h
theorem log_Frame.calls (a0 : Int) (A1 : Option Addr) (c1 : Nat) (l1 : List Int) (r1 : List Int) (r2 : Int) (w : World) (hr1 : Kd.C (Kd.int .u8) w A1 l1.length l1) (hc1 : l1.length ≤ c1) (h : log_Frame.f a0 l1 = some (r1, r2)) :
    Calls Try.prog 11 #[.int .u64 a0, .slice A1 l1.length c1] w fun e w' => ∃ v0_ : Value, e = .returned (.tuple #[v0_, .int .i64 r2]) ∧ Kd.R (Kd.int .u8) 5 w' w.heap.size (fun _ => True) v0_ r1 ∧ Below w.heap.size w w' := by
  unfold log_Frame.f at h
  split at h
  · rename_i hl
    simp only [Option.some.injEq, Prod.mk.injEq] at h
    obtain ⟨rfl, rfl⟩ := h
    have hl2 : (60000 : Int) < (l1.length : Int) := hl
    clear hr1 hl
    generalize l1.length = n at hl2 hc1 ⊢
    have hd : decide ((60000 : Int) < (n : Int)) = true := decide_eq_true hl2
    go_enter Try.func11, Try.ntmps11
    go_wp2
    go_ret2
    exact ⟨_, rfl, Kd.R_nil _ _ _ _ _, Below.refl _ _⟩
  · split at h
    · rename_i hl hb
      simp only [Option.some.injEq, Prod.mk.injEq] at h
      obtain ⟨rfl, rfl⟩ := h
      obtain ⟨hb, h0, h1⟩ := hb
      obtain ⟨q, rfl⟩ : ∃ q : Nat, a0 = q := ⟨a0.toNat, by omega⟩
      rw [Int.toNat_natCast]
      refine (frame_k q (by omega) l1 l1.length rfl (by omega) hb A1 c1 (c_srcV hr1)).mono ?_
      rintro e w' ⟨g, rfl, h2, h3, h4⟩
      refine ⟨_, rfl, ?_, h3⟩
      have := blk_R (w := w) (k := .u8) (cap := 16 + l1.length) (xs := frameB q l1) h4 h2 (by rw [bcl_len, frameB_len]) (by unfold maxLen; omega) (by rw [frameB_len]; omega) (by rw [List.take_of_length_le (by rw [bcl_len]; omega)]; rfl)
      rwa [frameB_len] at this
    · cases h
def slices_Clone.f (l0 : List Int) : Option (List Int) := if l0.length < 140737488355328 then some l0 else none
theorem slices_Clone.calls (A0 : Option Addr) (c0 : Nat) (l0 : List Int) (r : List Int) (w : World) (hr0 : Kd.C (Kd.int .u8) w A0 l0.length l0) (hc0 : l0.length ≤ c0) (h : slices_Clone.f l0 = some r) :
    Calls Try.prog 63 #[.slice A0 l0.length c0] w fun e w' => ∃ v0_ : Value, e = .returned (v0_) ∧ Kd.R (Kd.int .u8) 5 w' w.heap.size (fun _ => True) v0_ r ∧ Below w.heap.size w w' := by
  unfold slices_Clone.f at h
  split at h
  · rename_i hl
    injection h with h
    subst h
    have HS : Hid (SrcV w A0 (l0.map (.int .u8))) := c_srcV hr0
    have HL : Hid (l0.length < 140737488355328) := hl
    have hnil : ∀ n c, (binOp .eql 23 (.slice A0 n c) (.slice none 0 0)).run Try.prog w = .ok (.bool A0.isNone) w := fun n c => Lib.run_eql_slice_nil w 23 5 A0 n c 0 0 Try.underlying23
    rcases A0 with _ | A
    · have h0 : l0 = [] := by
        rcases l0 with _ | ⟨x, l0⟩
        · rfl
        · obtain ⟨ad, hA, _⟩ := hr0.2.2 (by simp)
          cases hA
      subst h0
      clear hr0 hl
      go_enter Try.func63, Try.ntmps63
      go_wp2
      go_ret
      exact ⟨_, rfl, Kd.R_nil _ _ _ _ _, Below.refl _ _⟩
    · have H1 : KR w [] (w.alloc (.cells #[] 5)) := kr_alloc (kr_refl w) _
      have O1 : Own w [] 5 1 (.slice (some ⟨w.heap.size, 0, none⟩) 0 0) 0 [] (w.alloc (.cells #[] 5)) := ⟨World.ownsRow_made w #[] 0 (Nat.le_refl _) (by unfold maxLen; omega) (by simp), fun k hk p hp => by simp at hp⟩
      obtain ⟨n, hn⟩ : ∃ n, l0.length = n := ⟨_, rfl⟩
      have HN : Hid (l0.length = n) := hn
      rw [hn]
      clear hr0 hl hc0 hn
      go_enter Try.func63, Try.ntmps63
      go_wp2_with (at_builtin; refine wl_appendK _ _ 23 5 (.int .u8 0) 1 1 H1 O1 (some A) n c0 (l0.map (.int .u8)) (srcV_keep HS.out (bw_alloc (Below.refl _ _) _)) (by rw [List.length_map, HN.out]; omega) (by intro v hv; simp only [List.mem_map] at hv; obtain ⟨x, _, rfl⟩ := hv; rfl) (by have := HL.out; have := HN.out; unfold maxLen; omega) (by have := HL.out; have := HN.out; omega) Try.underlying23 lu8_info rfl (by omega) rfl rfl (by rfl) (by rfl) (fun v' W' O2 H2 hz => ?_))
      go_ret
      rw [Nat.zero_add, List.nil_append, ← HN.out] at O2
      exact ⟨_, rfl, own_R O2, H2.below⟩
  · cases h
end Go.Proofs.Ytaonaifnaecpiaa.Own
