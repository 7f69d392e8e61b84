/- What dayshiftref04's Frame does. No conditions beside those in each theorem. -/
import Derived.Test.YtaonaifnaecpiaaRefB
namespace Go.Proofs.Ytaonaifnaecpiaa.Own
open Go.RowKit Go.Proofs.YtaonaifnaecpiaaW.PrintWords
set_option linter.unusedSimpArgs false
set_option linter.unusedVariables false
theorem sc_src {w W : World} {rs : List (Nat × List Value)} {v : Value} {n : Nat} {cs : List Value} (HK : KR w rs W) (h : SC rs 1 v n cs) : ∃ sp cap, v = .slice sp n cap ∧ n ≤ cap ∧ SrcV W sp cs := by
  rcases h with ⟨rfl, rfl, rfl⟩ | ⟨b, cap, l, rfl, h2, h3, h4, h5⟩
  · exact ⟨_, _, rfl, Nat.le_refl _, fun h => absurd h (by simp)⟩
  · exact ⟨_, _, rfl, h3, srcV_row HK h2 h5⟩
theorem sc_srcV {w W : World} {rs : List (Nat × List Value)} {sp : Option Addr} {n m cap : Nat} {cs : List Value} (HK : KR w rs W) (h : SC rs 1 (.slice sp m cap) n cs) : SrcV W sp cs := by
  obtain ⟨s, c, e, _, hS⟩ := sc_src HK h
  injection e with e1
  subst e1
  exact hS
theorem own_lift {w W W' : World} {rs : List (Nat × List Value)} {e : TypeId} {size : Nat} {v : Value} {n : Nat} {xs : List Value} (HK : KR w rs W) (h : Own W [] e size v n xs W') : Own w rs e size v n xs W' := by
  refine ⟨⟨h.1.1, ?_⟩, fun k hk p hp => ?_⟩
  · rcases h.1.2 with h0 | ⟨g, cap, cur, rfl, h1, h3⟩
    · exact .inl h0
    · exact .inr ⟨g, cap, cur, rfl, Nat.le_trans HK.below.size h1, h3⟩
  · have h4 := (h.1.lt k hk).1
    have h5 := (HK.rows p hp).2.1
    omega
set_option maxRecDepth 100000 in
set_option maxHeartbeats 2000000 in
theorem rframe_big {w : World} (q : Nat) (n : Nat) (h2 : 60000 < n) (sp : Option Addr) (cp : Nat) :
    Calls Try.prog 12 #[.int .u64 (q : Int), .slice sp n cp] w fun e W' => e = .returned (.tuple #[.slice none 0 0, .int .i64 3]) ∧ w = W' := by
  have h3 : (60000 : Int) < (n : Int) := by omega
  clear h2
  go_enter Try.func12, Try.ntmps12
  go_wp2
  go_ret2
  exact ⟨rfl, rfl⟩
theorem bcl_app (a b : List Int) : bcl (a ++ b) = bcl a ++ bcl b := by simp [bcl]
set_option maxRecDepth 100000 in
set_option maxHeartbeats 2000000 in
theorem rframe_k {w : World} (q : Nat) (hq : q < 18446744073709551616) (bs : List Int) (n : Nat) (hn : Hid (bs.length = n)) (h2 : n ≤ 60000) (hb : isB bs) (sp : Option Addr) (cp : Nat) (hS : SrcV w sp (bcl bs)) :
    Calls Try.prog 12 #[.int .u64 (q : Int), .slice sp n cp] w fun e W' => ∃ v l, e = .returned (.tuple #[v, .int .i64 0]) ∧ KR w l W' ∧ SC l 1 v (16 + n) (bcl (frameB q bs)) := by
  have h3 : (n : Int) ≤ 60000 := by omega
  have HB : Hid (isB bs) := hb
  have HQ : Hid (q < 18446744073709551616) := hq
  have H2 : Hid (n ≤ 60000) := h2
  have hcr : Hid (crc (nb (be 8 q ++ bs)) < 4294967296) := crc_lt _ (nb_lt (isB_app (be_isB 8 q) hb))
  have HC : Hid (frameB q bs = be 4 n ++ (be 4 (crc (nb (be 8 q ++ bs))) ++ (be 8 q ++ bs))) := by show _ = _; unfold frameB; rw [hn.out]
  have hsum := fun (W : World) s c h => rsum_k (W := W) (be 8 q ++ bs) (8 + n) (by show _ = _; rw [List.length_append, be_len, hn.out]) (isB_app (be_isB 8 q) hb) (by omega) s c h
  have HS : Hid (SrcV w sp (bcl bs)) := hS
  clear hS hb hq h2
  generalize crc (nb (be 8 q ++ bs)) = y at hsum hcr HC
  have hwc := wrap_small y hcr.out
  have hwn := wrap_small n (by have := H2.out; omega)
  have T1 : Hid True := trivial
  have T2 : Hid True := trivial
  have T3 : Hid True := trivial
  go_enter Try.func12, Try.ntmps12
  go_wp2_with (first
    | (clear T1; go_at_call 42; refine (rput_k q HQ.out 8 (by omega)).mono ?_; rintro e w1 ⟨u1, rfl, K1, O1⟩; obtain ⟨s1, c1, rfl⟩ := own_form O1)
    | (at_builtin; refine wl_appendK _ _ 23 5 (.int .u8 0) 1 1 K1 O1 sp n cp (bcl bs) (srcV_keep HS.out K1.below) (by rw [bcl_len, hn.out, Nat.mul_one]) (bcl_one _) (by have := H2.out; unfold maxLen; omega) (by have := H2.out; omega) Try.underlying23 lu8_info rfl (by omega) rfl rfl (by rfl) (by rfl) (fun v' W2 O2 H2 hz => ?_); clear K1 O1; rw [← bcl_app] at O2; obtain ⟨l1, K2, C1⟩ := own_settle H2 O2; clear O2 H2 hz; rw [List.append_nil] at K2; obtain ⟨s2, c2, rfl, hc2, S2⟩ := sc_src K2 C1)
    | (clear T2; go_at_call 42; refine (rput_k n (by have := H2.out; omega) 4 (by omega)).mono ?_; rintro e w3 ⟨u3, rfl, K3, O3⟩; have O3 := own_lift K2 O3; have K4 := kr_call K2 K3.below; have S2 := srcV_keep S2 K3.below; clear K2 K3; obtain ⟨s3, c3, rfl⟩ := own_form O3)
    | (go_at_call 17; refine (hsum _ _ _ S2).mono ?_; rintro e w4 ⟨rfl, rfl⟩; clear hsum)
    | (clear T3; go_at_call 42; refine (rput_k y (by have := hcr.out; omega) 4 (by omega)).mono ?_; rintro e w5 ⟨u5, rfl, K5, O5⟩; obtain ⟨l5, K6, C5⟩ := own_settle K5 O5; rw [List.append_nil] at K6; have O6 := own_later O3 K6; have K7 := kr_join K4 K6; have S2 := srcV_keep S2 K6.below; clear O3 K4 O5 K5; obtain ⟨s5, c5, rfl, hc5, S5⟩ := sc_src K6 C5; clear K6 C5)
    | (at_builtin; refine wl_appendK _ _ 23 5 (.int .u8 0) 1 1 K7 O6 s5 4 c5 (bcl (be 4 y)) S5 (by rw [bcl_len, be_len]) (bcl_one _) (by unfold maxLen; omega) (by omega) Try.underlying23 lu8_info rfl (by omega) rfl rfl (by rfl) (by rfl) (fun v8 W8 O8 H8 hz => ?_); clear K7 O6 S5; rw [← bcl_app] at O8; obtain ⟨s8, c8, rfl⟩ := own_form O8)
    | (at_builtin; refine wl_appendK _ _ 23 5 (.int .u8 0) 1 1 H8 O8 s2 (8 + n) c2 (bcl (be 8 q ++ bs)) (sc_srcV H8 (sc_mono C1 (fun p hp => List.mem_append_right _ hp))) (by rw [bcl_len, List.length_append, be_len, hn.out, Nat.mul_one]) (bcl_one _) (by have := H2.out; unfold maxLen; omega) (by have := H2.out; omega) Try.underlying23 lu8_info rfl (by omega) rfl rfl (by rfl) (by rfl) (fun v9 W9 O9 H9 hz9 => ?_); clear H8 O8; rw [← bcl_app] at O9))
  obtain ⟨l, HL, HC9⟩ := own_settle H9 O9
  refine bodyPost_ret (v := .tuple #[v9, .int .i64 0]) (by simp [results, Try.results12, go_sem]) rfl ⟨_, _, rfl, HL, ?_⟩
  rw [HC.out, ← List.append_assoc (be 4 n), show 16 + n = 4 + 4 + (8 + n) from by omega]
  exact sc_mono HC9 (fun p hp => List.mem_append_left _ hp)
end Go.Proofs.Ytaonaifnaecpiaa.Own
