/- What the reference's Read does with its disk in memory. No conditions beside those in each theorem. -/
import Derived.Test.YtaonaifnaecpiaaRd2
namespace Go.Proofs.Ytaonaifnaecpiaa.Own
open Go.RowKit
set_option linter.unusedSimpArgs false
theorem sc_fc {l : List (Nat × List Value)} {v : Value} {bs : List Int} {n : Nat} (hn : bs.length = n) (h : SC l 1 v n (bc bs)) : FC l v bs := by
  subst hn
  rcases h with ⟨h1, h2, h3⟩ | ⟨b, cap, q, h1, h2, h3, h4, h5⟩
  · exact .inl ⟨h1, List.eq_nil_of_length_eq_zero h2⟩
  · exact .inr ⟨b, cap, q, h1, h2, h3, by omega, by rwa [Nat.mul_one] at h5⟩
theorem src_srcV {W : World} {sp : Option Addr} {bs : List Int} (h : Src W sp bs) : SrcV W sp (bc bs) := fun hl => h (by rwa [bc_len] at hl)
theorem rread_k (d : Dk) (R B cap : Nat) (hcap : 8 ≤ cap) (tl : List Value) (k : Nat) (hk : k < 8) (bs : List Int) (m : Nat) (hm : Hid (bs.length = m)) (hb : m ≤ 2000000) {w W : World} {rs : List (Nat × List Value)} (HK : RR w W R B cap tl d rs)
    (sx : Option Addr) (cx : Nat) (hv : (d.f k).1 = .slice sx m cx) (hS : Src W sx bs) :
    Calls Try.prog 50 #[.pointer (some ⟨R, 0, none⟩), .int .i64 k] W fun e W' => ∃ v l, e = .returned (.tuple #[v, .int .i64 0]) ∧ FC l v bs ∧ RR w W' R B cap tl d (l ++ rs) := by
  have k0 := rr_h0 HK
  have ka := rr_a HK k hk
  rw [hv] at ka
  have hk2 : (k : Int) < 8 := by omega
  have hkc : k < cap := by omega
  have hS' : Hid (SrcV W sx (bc bs)) := src_srcV hS
  have HH : Hid (RR w W R B cap tl d rs) := HK
  clear HK hS hv
  go_enter Try.func50, Try.ntmps50
  go_wp2_with (first | (go_at_call 57; refine (right_yes _ _ (by omega) (by omega)).mono ?_; rintro e w' ⟨rfl, rfl⟩) | (at_builtin; refine wl_appendK _ _ 23 5 (.int .u8 0) 1 1 HH.out (own_nil w _ _ 5 1) sx m cx (bc bs) hS'.out (by rw [bc_len, hm.out]; omega) (bc_one bs) (by unfold maxLen; omega) (by omega) Try.underlying23 u8_info rfl (by omega) rfl rfl (by rfl) (by rfl) (fun v' W' O H2 hz => ?_)))
  obtain ⟨l, HL, hC⟩ := own_settle H2 O
  go_ret2
  rw [Nat.zero_add, List.nil_append] at hC
  exact ⟨_, l, rfl, sc_fc hm.out hC, kr_perm HL (by
    have h1 : (l ++ (R, rH d B cap) :: (B, rF d tl) :: rs).Perm ((R, rH d B cap) :: (l ++ (B, rF d tl) :: rs)) := List.perm_middle
    exact h1.trans (List.Perm.cons _ List.perm_middle))⟩
theorem rread_out (R : Nat) (f : Int) (hf : f < 0 ∨ 8 ≤ f) (W : World) : Calls Try.prog 50 #[.pointer (some ⟨R, 0, none⟩), .int .i64 f] W fun e W' => e = .returned (.tuple #[.slice none 0 0, .int .i64 1]) ∧ W = W' := by
  have hr := fun W => right_no f W hf
  clear hf
  go_enter Try.func50, Try.ntmps50
  go_wp2_with (go_at_call 57; refine (hr _).mono ?_; rintro e w' ⟨rfl, rfl⟩)
  go_ret2
  exact ⟨rfl, rfl⟩
end Go.Proofs.Ytaonaifnaecpiaa.Own
