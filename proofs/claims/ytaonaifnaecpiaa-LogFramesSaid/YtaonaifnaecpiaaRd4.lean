/- What the reference's Append does with its disk in memory. No conditions beside those in each theorem. -/
import Derived.Test.YtaonaifnaecpiaaRd3
import Derived.Deep.RegionLaw
import Derived.Deep.DeepCutAuto
namespace Go.Proofs.Ytaonaifnaecpiaa.Own
open Go.RowKit
set_option linter.unusedSimpArgs false
theorem rappend_no (d : Dk) (R B cap : Nat) (tl : List Value) (f : Int) (q : Int) (hq : mayD d [f] = q) (h0 : q ≠ 0) (v : Value) {w W : World} {rs : List (Nat × List Value)} (HK : RR w W R B cap tl d rs) :
    Calls Try.prog 38 #[.pointer (some ⟨R, 0, none⟩), .int .i64 f, v] W fun e W' => e = .returned (.int .i64 q) ∧ W = W' := by
  by_cases hf : f < 0 ∨ 8 ≤ f
  · obtain rfl : q = 1 := by rw [← hq]; exact mayD_outI d f hf
    have hr := fun W => right_no f W hf
    clear hf HK hq
    go_enter Try.func38, Try.ntmps38
    go_wp2_with (go_at_call 57; refine (hr _).mono ?_; rintro e w' ⟨rfl, rfl⟩)
    all_goals go_ret
    all_goals exact ⟨rfl, rfl⟩
  · have hr := fun W => right_yes f W (by omega) (by omega)
    have hm := mayD_inI d f (by omega) (by omega)
    have k2 := rr_h2 HK
    rw [hq] at hm
    cases hd : d.dead
    · rw [hd] at hm
      exact absurd hm h0
    · rw [hd] at hm k2
      obtain rfl : q = 13 := hm
      clear HK hq hf hd
      go_enter Try.func38, Try.ntmps38
      go_wp2_with (go_at_call 57; refine (hr _).mono ?_; rintro e w' ⟨rfl, rfl⟩)
      all_goals go_ret
      all_goals exact ⟨rfl, rfl⟩
theorem rappend_full (d : Dk) (R B cap : Nat) (hcap : 8 ≤ cap) (tl : List Value) (k : Nat) (hk : k < 8) (m n : Nat) (hy : 1048576 < n + m) (hm : m ≤ 1048576) (h0 : d.dead = false) {w W : World} {rs : List (Nat × List Value)} (HK : RR w W R B cap tl d rs) (sp : Option Addr) (cp : Nat) (sx : Option Addr) (cx : Nat) (h1 : (d.f k).1 = .slice sx m cx) :
    Calls Try.prog 38 #[.pointer (some ⟨R, 0, none⟩), .int .i64 k, .slice sp n cp] W fun e W' => e = .returned (.int .i64 4) ∧ W = W' := by
  have k0 := rr_h0 HK
  have k2 := rr_h2 HK
  have ka := rr_a HK k hk
  rw [h1] at ka
  rw [h0] at k2
  have hk2 : (k : Int) < 8 := by omega
  have hkc : k < cap := by omega
  have hm2 : (m : Int) ≤ 1048576 := by omega
  have hy2 : (1048576 : Int) - (m : Int) < (n : Int) := by omega
  have hr := fun W => right_yes (k : Int) W (by omega) hk2
  clear HK h1 h0
  go_enter Try.func38, Try.ntmps38
  go_wp2_with (go_at_call 57; refine (hr _).mono ?_; rintro e w' ⟨rfl, rfl⟩)
  all_goals go_ret
  all_goals exact ⟨rfl, rfl⟩
set_option maxHeartbeats 2000000 in
theorem rappend_ok (d : Dk) (R B cap : Nat) (hcap : 8 ≤ cap) (tl : List Value) (k : Nat) (hk : k < 8) (xs ys : List Int) (m n : Nat) (hX : Hid (xs.length = m)) (hY : Hid (ys.length = n)) (hy : n + m ≤ 1048576) (hl : d.left ≤ 9223372036854775807) (h0 : d.dead = false) {w W : World} {rs : List (Nat × List Value)} (HK : RR w W R B cap tl d rs)
    (sp : Option Addr) (cp : Nat) (sx : Option Addr) (cx : Nat) (h1 : (d.f k).1 = .slice sx m cx) (hS : ∀ W1, KR w rs W1 → Src W1 sp ys) (hT : ∀ W1, KR w rs W1 → Src W1 sx xs) :
    Calls Try.prog 38 #[.pointer (some ⟨R, 0, none⟩), .int .i64 k, .slice sp n cp] W fun e W' => e = .returned (.int .i64 (cntE d)) ∧ ∃ l v, FC l v (xs ++ ys) ∧ RR w W' R B cap tl (putF (cnt d) k v (d.f k).2) (l ++ rs) := by
  have hk2 : (k : Int) < 8 := by omega
  have hr := fun W => right_yes (k : Int) W (by omega) hk2
  have hkc : k < cap := by omega
  have k0 := rr_h0 HK
  have k2 := rr_h2 HK
  have ka := rr_a HK k hk
  rw [h1] at ka
  rw [h0] at k2
  have hm2 : (m : Int) ≤ 1048576 := by omega
  have hn2 : (n : Int) ≤ (1048576 : Int) - (m : Int) := by omega
  have hSS : Hid (∀ W1, KR w rs W1 → Src W1 sp ys) := hS
  have hTT : Hid (∀ W1, KR w rs W1 → Src W1 sx xs) := hT
  have hc := fun W (H : RR w W R B cap tl d rs) => counts_k d R B cap tl h0 hl H
  have hfc := cnt_f d
  have hce : cntE d = if (cnt d).dead = true then 13 else 0 := rfl
  rw [← hfc, hce]
  rw [← hfc] at h1
  clear hfc hce h0 hS hT
  generalize cnt d = dc at *
  generalize hdd : dc.dead = dd at *
  go_enter Try.func38, Try.ntmps38
  go_wp2_with (first | (go_at_call 57; refine (hr _).mono ?_; rintro e w' ⟨rfl, rfl⟩) | (go_at_call 58; refine (hc _ HK).mono ?_; rintro e w2 ⟨rfl, HK2⟩; clear HK hc k0 k2 ka; have k0 := rr_h0 HK2; have ka := rr_a HK2 k hk; rw [h1] at ka; have kb := rr_b HK2 k hk))
  have HK3 := kr_new HK2 [.slice none 0 0, .int .i64 (dc.f k).2] 95
  obtain ⟨X, hXX⟩ : ∃ X, w2.heap.size = X := ⟨_, rfl⟩
  rw [hXX] at HK3 ⊢
  generalize w2.alloc (.cells #[.slice none 0 0, .int .i64 (dc.f k).2] 95) = w3 at HK3 ⊢
  clear HK2 k0 ka kb hXX
  have k0 := kr_cell HK3 1 rfl 0 _ rfl
  have kx0 := kr_cell HK3 0 rfl 0 _ rfl
  have ka := kr_cell HK3 2 rfl _ _ (rF_a dc tl k hk)
  rw [h1] at ka
  go_cut [] (fun wx => ∃ s3 c3, Own w ((X, [.slice s3 m c3, .int .i64 (dc.f k).2]) :: (R, rH dc B cap) :: (B, rF dc tl) :: rs) 5 1 (.slice s3 m c3) m (bc xs) wx ∧ KR w ((X, [.slice s3 m c3, .int .i64 (dc.f k).2]) :: (R, rH dc B cap) :: (B, rF dc tl) :: rs) wx)
  case first =>
    go_region_law ((refine step_appendK _ _ 23 5 (.int .u8 0) 1 1 (kr_drew HK3) (own_nil w _ _ 5 1) sx m cx (bc xs) (src_srcV (hTT.out _ (kr_tail (kr_tail (kr_tail (kr_drew HK3)))))) (by rw [bc_len, hX.out]; omega) (bc_one xs) (by unfold maxLen; omega) (by omega) Try.underlying23 u8_info rfl (by omega) rfl rfl (by rfl) (by rfl) ?_; intro v' W' O H2 hz; obtain ⟨s3, c3, rfl⟩ := own_form O; have q0 := kr_cell H2 0 rfl 0 _ rfl; have q1 := kr_frozen H2 0 rfl 0 (by simp); have q2 := kr_fset H2 0 rfl 0 (by simp) (.slice s3 (0 + m) c3) _ rfl; have q3 := own_set O List.mem_cons_self 0 (.slice s3 (0 + m) c3); simp only [List.set_cons_zero, Nat.zero_add, List.nil_append] at q2 q3))
    all_goals (go_wp2_with fail; go_meet; exact ⟨s3, c3, own_rows q3 (fun p hp => by rcases List.mem_cons.1 hp with rfl | hp; exact ⟨_, List.mem_cons_self, rfl⟩; exact ⟨p, List.mem_cons_of_mem _ hp, rfl⟩), q2⟩)
  case rest =>
    obtain ⟨s3, c3, O, HK⟩ := hcut
    clear HK3 k0 kx0 ka
    have hRB := (List.pairwise_cons.1 (List.pairwise_cons.1 HK.apart).2).1 (B, rF dc tl) List.mem_cons_self
    have hBR : B ≠ R := fun e => hRB e.symm
    have hBX : B ≠ X := fun e => (List.pairwise_cons.1 HK.apart).1 (B, rF dc tl) (List.mem_cons_of_mem _ List.mem_cons_self) e.symm
    have kx0 := kr_cell HK 0 rfl 0 _ rfl
    have HS2 : SrcV wc sp (bc ys) := src_srcV (hSS.out _ (kr_tail (kr_tail (kr_tail HK))))
    have HS3 : Hid (SrcV wc sp (bc ys)) := HS2
    clear HS2 hr
    go_wp2_with (at_builtin; refine wl_appendK _ _ 23 5 (.int .u8 0) 1 1 HK O sp n cp (bc ys) HS3.out (by rw [bc_len, hY.out]; omega) (bc_one ys) (by unfold maxLen; omega) (by omega) Try.underlying23 u8_info rfl (by omega) rfl rfl (by rfl) (by rfl) (fun v' W' O2 H2 hz => ?_); obtain ⟨s4, c4, rfl⟩ := own_form O2; have q0 := kr_cell H2 0 rfl 0 _ rfl; have q1 := kr_frozen H2 0 rfl 0 (by simp); have q2 := kr_fset H2 0 rfl 0 (by simp) (.slice s4 (m + n) c4) _ rfl; have q3 := own_set O2 List.mem_cons_self 0 (.slice s4 (m + n) c4); simp only [List.set_cons_zero] at q2)
    have q4 := own_rows (rs' := (X, [.slice s4 (m + n) c4, .int .i64 (dc.f k).2]) :: (R, rH dc B cap) :: (B, rF dc tl) :: rs) q3 (fun p hp => by rcases List.mem_cons.1 hp with rfl | hp; exact ⟨_, List.mem_cons_self, rfl⟩; exact ⟨p, List.mem_cons_of_mem _ hp, rfl⟩)
    clear q0 q1 q3 O2 H2 hz O HK kx0
    generalize W'.setCell ⟨X, 0, none⟩ (.slice s4 (m + n) c4) = W4 at q2 q4 ⊢
    obtain ⟨l, HL, hC⟩ := own_settle q2 q4
    have HP : KR w ((X, [.slice s4 (m + n) c4, .int .i64 (dc.f k).2]) :: (R, rH dc B cap) :: (B, rF dc tl) :: (l ++ rs)) W4 := kr_permA HL (by
      have h1 : (l ++ (X, [.slice s4 (m + n) c4, .int .i64 (dc.f k).2]) :: (R, rH dc B cap) :: (B, rF dc tl) :: rs).Perm ((X, [.slice s4 (m + n) c4, .int .i64 (dc.f k).2]) :: (l ++ (R, rH dc B cap) :: (B, rF dc tl) :: rs)) := List.perm_middle
      exact (h1.trans (List.Perm.cons _ (List.perm_middle.trans (List.Perm.cons _ List.perm_middle)))).symm)
    have HF : Hid (FC l (.slice s4 (m + n) c4) (xs ++ ys)) := sc_fc (by rw [List.length_append, hX.out, hY.out]) (by rw [bc_app]; exact hC)
    have k0 := kr_cell HP 1 rfl 0 _ rfl
    have kx0 := kr_cell HP 0 rfl 0 _ rfl
    have kx1 := kr_cell HP 0 rfl 1 _ rfl
    have ka := kr_cell HP 2 rfl _ _ (rF_a dc tl k hk)
    have kb := kr_cell HP 2 rfl _ _ (rF_b dc tl k hk)
    have fa := kr_frozen HP 2 rfl (k * 2) (by rw [rF_len]; omega)
    have fb := kr_frozen HP 2 rfl (k * 2 + 1) (by rw [rF_len]; omega)
    have HQ : Hid (RR w _ R B cap tl _ (l ++ rs)) := rr_setF (rr_drew (kr_tail HP)) k hk (.slice s4 (m + n) c4) (dc.f k).2
    clear q2 q4 HL hC HP
    go_region_held3 (fun W => W.cell? ⟨R, 0, none⟩ = some (.slice (some ⟨B, 0, none⟩) 8 cap) ∧ W.cell? ⟨X, 0, none⟩ = some (.slice s4 (m + n) c4) ∧ W.cell? ⟨X, 1, none⟩ = some (.int .i64 (dc.f k).2)) (go_keep) (fail)
    cases dd
    all_goals go_wp2
    all_goals go_ret
    all_goals exact ⟨by first | rfl | (rw [hdd]; rfl), l, _, HF.out, HQ.out⟩
end Go.Proofs.Ytaonaifnaecpiaa.Own
