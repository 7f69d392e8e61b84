/- What the reference's Copy does with its disk in memory. No conditions beside those in each theorem. -/
import Derived.Test.YtplonehidfefdaaRd6
import Derived.Deep.DeepCutAuto
import Derived.Deep.RegionLaw
namespace Go.Proofs.Ytplonehidfefdaa.Own
open Go.RowKit
set_option linter.unusedSimpArgs false
theorem rF_src {W : World} {B : Nat} {d : Dk} {tl : List Value} (h : W.rangeAt B 0 (rF d tl)) : SrcV W (some ⟨B, 0, none⟩) (rF d []) := fun _ => ⟨_, rfl, fun j v hv => by
  rw [Addr.add_mid]
  refine h j v ?_
  rw [rF_app, List.getElem?_append_left (List.getElem?_eq_some_iff.1 hv).1]
  exact hv⟩
set_option maxHeartbeats 2000000 in
theorem rcopy_k (d : Dk) (h1 : ∀ i, i < 8 → (d.f i).1.oneCell' = true) (R B cap : Nat) (tl : List Value) {w W : World} {rs : List (Nat × List Value)} (HK : RR w W R B cap tl d rs) :
    Calls Try.prog 25 #[.pointer (some ⟨R, 0, none⟩)] W fun e W' => ∃ R2, e = .returned (.pointer (some ⟨R2, 0, none⟩)) ∧ ∃ B2 cap2, 8 ≤ cap2 ∧ ∃ tl2, RR w W' R2 B2 cap2 tl2 d ((R, rH d B cap) :: (B, rF d tl) :: rs) := by
  have k0 := rr_h0 HK
  have k1 := rr_h1 HK
  have k2 := rr_h2 HK
  have n0 := World.new_ne W _ k0
  have n1 := World.new_ne W _ k1
  have n2 := World.new_ne W _ k2
  have hone := rF_one d h1
  have HO : Hid (∀ v ∈ rF d [], v.oneCell' = true) := hone
  have HX : Hid (KR w ((W.heap.size, [.slice none 0 0, .int .i64 d.left, .bool d.dead]) :: (R, rH d B cap) :: (B, rF d tl) :: rs) _) := kr_new (rr_drew HK) [.slice none 0 0, .int .i64 d.left, .bool d.dead] 47
  clear HK hone h1
  go_enter Try.func25, Try.ntmps25
  go_wp2
  go_region_held3 (fun W => W.cell? ⟨R, 1, none⟩ = some (.int .i64 d.left) ∧ W.cell? ⟨R, 2, none⟩ = some (.bool d.dead)) (go_keep) (fail)
  go_wp2_with fail
  have HX2 : KR w ((W.heap.size, [.slice none 0 0, .int .i64 d.left, .bool d.dead]) :: (R, rH d B cap) :: (B, rF d tl) :: rs) (W.alloc (.cells #[.slice none 0 0, .int .i64 d.left, .bool d.dead] 47)).drew := HX.out
  obtain ⟨X, hXX⟩ : ∃ X, W.heap.size = X := ⟨_, rfl⟩
  rw [hXX] at HX2 ⊢
  generalize (W.alloc (.cells #[.slice none 0 0, .int .i64 d.left, .bool d.dead] 47)).drew = w3 at HX2 ⊢
  clear HX hXX k0 k1 k2 n0 n1 n2
  have k0 := kr_cell HX2 1 rfl 0 _ rfl
  have kx0 := kr_cell HX2 0 rfl 0 _ rfl
  have hXb := (List.pairwise_cons.1 HX2.apart).1
  go_cut [] (fun wx => ∃ s3 c3, Own w ((X, [.slice s3 8 c3, .int .i64 d.left, .bool d.dead]) :: (R, rH d B cap) :: (B, rF d tl) :: rs) 64 2 (.slice s3 8 c3) 8 (rF d []) wx ∧ KR w ((X, [.slice s3 8 c3, .int .i64 d.left, .bool d.dead]) :: (R, rH d B cap) :: (B, rF d tl) :: rs) wx)
  case first =>
    go_region_law ((refine step_appendK _ _ 45 64 (.agg #[.slice none 0 0, .int .i64 0]) 2 32 (kr_drew HX2) (own_nil w _ _ 64 2) (some ⟨B, 0, none⟩) 8 cap (rF d []) (rF_src (kr_get (kr_drew HX2) 2 rfl)) (by rw [rF_len]; rfl) HO.out (by unfold maxLen; omega) (by omega) Try.underlying45 file_info rfl (by omega) rfl rfl (by rfl) (by rfl) ?_; intro v' W' O H2 hz; obtain ⟨s3, c3, rfl⟩ := own_form O; have q0 := kr_cell H2 0 rfl 0 _ rfl; have q1 := kr_frozen H2 0 rfl 0 (by simp); have q2 := kr_fset H2 0 rfl 0 (by simp) (.slice s3 (0 + 8) c3) _ rfl; have q3 := own_set O List.mem_cons_self 0 (.slice s3 (0 + 8) c3); simp only [List.set_cons_zero, Nat.zero_add, List.nil_append] at q2 q3))
    all_goals (go_wp2_with fail; go_meet; exact ⟨s3, c3, own_rows q3 (fun p hp => by rcases List.mem_cons.1 hp with rfl | hp; exact ⟨_, List.mem_cons_self, rfl⟩; exact ⟨p, List.mem_cons_of_mem _ hp, rfl⟩), q2⟩)
  case rest =>
    clear HX2 k0 kx0 hXb
    obtain ⟨s3, c3, O, HK⟩ := hcut
    obtain ⟨g, cap2, cur, hv, HL, hn, hs, ht⟩ := own_settle1 HK O (by omega)
    injection hv with hv1 _ hv2
    subst hv1 hv2
    have hcur : cur = rF d (cur.drop 16) := by
      rw [rF_app, ← ht]
      exact (List.take_append_drop _ _).symm
    rw [hcur] at HL
    have HH : Hid (8 ≤ c3 ∧ KR w ((X, [.slice (some ⟨g, 0, none⟩) 8 c3, .int .i64 d.left, .bool d.dead]) :: (g, rF d (cur.drop 16)) :: (R, rH d B cap) :: (B, rF d tl) :: rs) wc) := ⟨hn, kr_swap HL⟩
    clear O HK HL hn hs ht hcur
    go_wp2
    go_ret
    exact ⟨X, rfl, g, c3, HH.out.1, _, HH.out.2⟩
end Go.Proofs.Ytplonehidfefdaa.Own
