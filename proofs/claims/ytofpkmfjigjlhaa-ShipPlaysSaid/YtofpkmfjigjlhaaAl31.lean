/- dayshiftlaw31's alike: all that can be seen of a place is as the reference has it. No conditions beside those in each theorem. -/
import Derived.Test.YtofpkmfjigjlhaaDo31
namespace Go.Proofs.Ytofpkmfjigjlhaa.Own
open Go.RowKit
set_option linter.unusedSimpArgs false
set_option linter.unusedVariables false
section
variable {w W : World} {A B : Nat} {s : SN} {xs im : List (Nat × List Value)} {la lb : Value}
theorem p2_bcell {r : SN} (h : P2 w W A B s r xs im la lb) (j : Nat) (v : Value) (hv : (ncl r lb)[j]? = some v) : W.cell? ⟨B, j, none⟩ = some v := kr_cell h.kr 1 rfl j v hv
set_option maxRecDepth 100000 in
set_option maxHeartbeats 4000000 in
theorem alike_k (h : P2 w W A B s s xs im la lb) : Calls Try.prog 28 #[.pointer (some ⟨A, 0, none⟩), .pointer (some ⟨B, 0, none⟩)] W (DoP w A B xs) := by
  obtain ⟨sb, cb, rfl, hlc⟩ := el_form h.eb
  obtain ⟨n, hn⟩ : ∃ n, s.l.length = n := ⟨_, rfl⟩
  have hlog := p2_log h
  have hlen := h.na.len
  have hdat := h.na.data
  rw [hn] at hlog h hlen
  have HN : Hid (s.l.length = n) := hn
  have HBD : Hid (n ≤ 4096 ∧ ∀ x ∈ s.l, x.2.length ≤ 60000) := ⟨hlen, hdat⟩
  have HLOG : Hid _ := hidI hlog
  clear hlog hlen hdat hn hlc h
  go_enter Try.func28, Try.ntmps28
  go_upto_region 2 with ((go_at_call 11; refine HLOG.out.mono ?_; rintro e w1 ⟨s1, c1, l1, rfl, h1, e1⟩; have HP1 : Hid (P2 w w1 A B s s (l1 ++ xs) im la (.slice sb n cb) ∧ EL l1 (.slice s1 n c1) s.l) := ⟨h1, e1⟩; clear h1 e1))
  have b1 := p2_bcell HP1.out.1 1 _ rfl
  have b2 := p2_bcell HP1.out.1 2 _ rfl
  have b3 := p2_bcell HP1.out.1 3 _ rfl
  have b4 := p2_bcell HP1.out.1 4 _ rfl
  clear HLOG
  go_region_held3 (fun V => V.cell? ⟨B, 1, none⟩ = some (.bool s.ld) ∧ V.cell? ⟨B, 2, none⟩ = some (.int .i64 s.ep) ∧ V.cell? ⟨B, 3, none⟩ = some (.slice sb n cb) ∧ V.cell? ⟨B, 4, none⟩ = some (.int .i64 (s.safe : Int))) (first | (with_reducible exact hS3) | (with_reducible exact hS4) | go_keep) ((first | (go_at_call 10; refine (taken31_k (im := l1) (p2_call HP1.out.1 (bw_drew (Below.refl _ _))).kr (fun z hz => List.mem_cons_of_mem _ (List.mem_cons_of_mem _ (List.mem_append_left _ (List.mem_append_left _ hz)))) s.l n HN.out (by have := HBD.out.1; omega) s1 c1 HP1.out.2).mono ?_; rintro e w2 ⟨v2, l2, rfl, k2, e2⟩; obtain ⟨s2, c2, rfl, -⟩ := el_form e2; rw [HN.out] at e2; have P2' := p2_push HP1.out.1 k2; have hS3 : w2.cell? ⟨B, 1, none⟩ = some (.bool s.ld) ∧ w2.cell? ⟨B, 2, none⟩ = some (.int .i64 s.ep) ∧ w2.cell? ⟨B, 3, none⟩ = some (.slice sb n cb) ∧ w2.cell? ⟨B, 4, none⟩ = some (.int .i64 (s.safe : Int)) := ⟨p2_bcell P2' 1 _ rfl, p2_bcell P2' 2 _ rfl, p2_bcell P2' 3 _ rfl, p2_bcell P2' 4 _ rfl⟩; have HP2 : Hid (P2 w w2 A B s s (l2 ++ (l1 ++ xs)) im la (.slice sb n cb) ∧ EL (l2 ++ l1) (.slice s2 n c2) s.l) := ⟨P2', e2⟩; rw [HN.out]; clear P2' e2 k2) | (go_at_call 13; refine (same31_k s.l n HN.out (by have := HBD.out.1; omega) (fun x hx => by have := HBD.out.2 x hx; omega) s2 sb c2 cb (p2_elv HP2.out.1 HP2.out.2 (fun z hz => (List.mem_append.1 hz).elim (fun h => List.mem_append_left _ h) (fun h => List.mem_append_right _ (List.mem_append_left _ h)))) (el_read (p2_B HP2.out.1) (el_mono HP2.out.1.eb (p2_im _ |> fun h => fun z hz => List.mem_cons_of_mem _ (h z hz))))).mono ?_; rintro e w3 ⟨rfl, q3, rfl⟩; have P3 := p2_call HP2.out.1 (bw_drewN (Below.refl _ _) q3); have hS4 : (w2.drewN q3).cell? ⟨B, 1, none⟩ = some (.bool s.ld) ∧ (w2.drewN q3).cell? ⟨B, 2, none⟩ = some (.int .i64 s.ep) ∧ (w2.drewN q3).cell? ⟨B, 3, none⟩ = some (.slice sb n cb) ∧ (w2.drewN q3).cell? ⟨B, 4, none⟩ = some (.int .i64 (s.safe : Int)) := ⟨p2_bcell P3 1 _ rfl, p2_bcell P3 2 _ rfl, p2_bcell P3 3 _ rfl, p2_bcell P3 4 _ rfl⟩; have HP3 : Hid (P2 w (w2.drewN q3) A B s s (l2 ++ (l1 ++ xs)) im la (.slice sb n cb)) := P3; clear P3) | (go_at_call 15; refine (p2_leads HP3.out).mono ?_; rintro e w4 ⟨rfl, rfl⟩) | (go_at_call 16; refine (p2_epoch HP3.out).mono ?_; rintro e w4 ⟨rfl, rfl⟩) | (go_at_call 12; refine (p2_safe HP3.out).mono ?_; rintro e w4 ⟨rfl, rfl⟩)))
  all_goals
    have hsp := spoilE_k (p2_headL (xs := xs) (p2_sub HP3.out (List.sublist_append_right _ _))) s.l n HN.out (by have := HBD.out.1; omega) (fun x hx => by have := HBD.out.2 x hx; omega) s1 c1 HP1.out.2
    have HSP : Hid _ := hidI hsp
    clear hsp
    go_wp2_with (go_at_call 47; refine HSP.out.mono ?_; rintro e w7 ⟨rfl, k7⟩; have HK7 : Hid (KR w _ w7) := k7; clear k7)
    go_ret
    exact ⟨rfl, _, _, _, _, p2_back HP3.out HK7.out⟩
end
end Go.Proofs.Ytofpkmfjigjlhaa.Own
