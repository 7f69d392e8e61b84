/- LogKeeps, walked. No conditions beside those in the lemmas. -/
import Derived.Test.YtaonaifnaecpiaaKr4
import Derived.RegionTactic
namespace Go.Proofs.Ytaonaifnaecpiaa.Own
open Go.RowKit
set_option linter.unusedSimpArgs false
set_option linter.unusedVariables false
theorem hid4 {p : Prop} (h : p) : Hid p := h
/-- A call's cells. -/
abbrev acl4 (a : A4) : List Value := [.int .i64 a.k, .slice a.sb a.b.length a.cb, .int .i64 a.n, .slice a.sk a.ks.length a.ck]
theorem ks_mono {w W : World} {D i : Nat} {v4 v8 v9 : Value} (h : KSt w W D i v4 v8 v9) : KSt w W D (i + 1) v4 v8 v9 := by
  obtain ⟨G, p, seq, q0, S, old, R, xs, s8, s9, c8, c9, h1, h2, h3, h4, h5, h6⟩ := h
  exact ⟨G, p, seq, q0, S, old, R, xs, s8, s9, c8, c9, h1, h2, h3, h4, dl_mono h5, h6⟩
set_option maxRecDepth 100000 in
set_option maxHeartbeats 4000000 in
theorem logKeeps_any {w : World} (sx : Option Addr) (len cap : Nat) (c0 : ACS w sx len) : Calls Try.prog 7 #[.slice sx len cap] w fun e W' => e = .returned (.bool true) ∧ Below w.heap.size w W' := by
  obtain ⟨cs, hcs, hlen, hcall⟩ := c0
  have HLEN : Hid (cs.length = len) := hcs
  have HCALLS : Hid (∀ (j : Nat) (c : A4), cs[j]? = some c → ∃ A : Addr, sx = some A ∧ A4At w A j c) := hcall
  have hleni : (len : Int) ≤ 9223372036854775807 := by omega
  have HN := dx_disk (kr_refl w)
  clear hcs hlen hcall
  go_enter Try.func7, Try.ntmps7
  go_wp2_with (first | (go_at_call 23; refine HN.mono ?_; rintro e w1 ⟨D, rfl, h1⟩; have H1 : Hid (DX w w1 D pnew [] []) := h1; clear h1 HN) | (go_at_call 24; refine (dxl_open H1.out dl_new ⟨rfl, rfl⟩ (by omega)).mono ?_; rintro e w2 ⟨G, s, c, s', c', l, p', rfl, h2, hd2, hc2, hs2, hr2, hq2⟩; have H2 : Hid (DX w w2 D p' _ [] ∧ DL 0 p' 0 1 [] [] [] [] ∧ p'.dead = false) := ⟨h2, hd2, hc2.2⟩; clear h2 hd2 hc2 hs2 hr2 hq2))
  go_loopw [4, 8, 9, 10] (fun v4 v8 v9 v10 W => ∃ i : Nat, v10 = .int .i64 (i : Int) ∧ i ≤ len ∧ i ≤ 40 ∧ KSt w W D i v4 v8 v9) (fun _ _ _ v10 _ => len - (intOf v10).toNat)
  case atStart => exact ⟨0, rfl, Nat.zero_le _, Nat.zero_le _, G, p', 0, 1, [], [], [], _, none, none, 0, 0, rfl, rfl, rfl, H2.out.1, H2.out.2.1, H2.out.2.2, sb_nil, rb_nil, Nat.le_refl _⟩
  case round =>
    clear H1 H2
    obtain ⟨i, rfl, hi, hi40, hks⟩ := hrel
    have HK0 := hks
    obtain ⟨G, p, seq, q0, S, old, R, xs, s8, s9, c8, c9, rfl, rfl, rfl, hdx, hdl, hdd, h8, h9, hc9⟩ := hks
    obtain ⟨ns, hns⟩ : ∃ ns, ns = S.length := ⟨_, rfl⟩
    obtain ⟨nr, hnr⟩ : ∃ nr, nr = R.length := ⟨_, rfl⟩
    have HL : Hid (ns = S.length ∧ nr = R.length) := ⟨hns, hnr⟩
    have HK : Hid (KSt w wr D i _ _ _) := HK0
    have HX : Hid (DX w wr D p ((G, lgc D (seq + R.length + 1) R.length false) :: xs) [] ∧ DL i p seq q0 S old R [] ∧ p.dead = false ∧ SB w xs s8 S ∧ RB w xs s9 R ∧ R.length ≤ c9) := ⟨hdx, hdl, hdd, h8, h9, hc9⟩
    have hci : (R.length : Int) ≤ (c9 : Int) := by omega
    rw [← hns, ← hnr] at HK ⊢
    rw [← hnr] at hci
    clear hdx hdl hdd h8 h9 hns hnr HK0 hc9
    by_cases hlt : i < len
    · by_cases h40 : i < 40
      · have hli : (i : Int) < (len : Int) := by omega
        have h4i : (i : Int) < 40 := by omega
        have hg : cs[i]? = some (cs[i]'(by rw [HLEN.out]; exact hlt)) := List.getElem?_eq_getElem (by rw [HLEN.out]; exact hlt)
        obtain ⟨A0, rfl, hat⟩ := HCALLS.out i _ hg
        generalize cs[i]'(by rw [HLEN.out]; exact hlt) = a at hat
        have HAT : Hid (A4At w A0 i a) := hat
        have e0 := kr_old (dx_kr HX.out.1) hat.c0
        have e1 := kr_old (dx_kr HX.out.1) hat.c1
        have e2 := kr_old (dx_kr HX.out.1) hat.c2
        have e3 := kr_old (dx_kr HX.out.1) hat.c3
        have HLT : Hid (i < len ∧ i < 40) := ⟨hlt, h40⟩
        clear hat hg hlt h40 hi hi40
        go_upto_region 11 with fail
        have P1 := dx_new HX.out.1 (acl4 a) 49
        have P1 : DX w (wr.alloc (.cells #[.int .i64 a.k, .slice a.sb a.b.length a.cb, .int .i64 a.n, .slice a.sk a.ks.length a.ck] 49)) D p _ [] := P1
        clear e0 e1 e2 e3
        generalize (wr.alloc (.cells #[.int .i64 a.k, .slice a.sb a.b.length a.cb, .int .i64 a.n, .slice a.sk a.ks.length a.ck] 49)) = w3 at *
        generalize wr.heap.size = T at *
        have t0 := kr_cell (dx_kr P1) 0 rfl 0 _ rfl
        have t1 := kr_cell (dx_kr P1) 0 rfl 1 _ rfl
        have t2 := kr_cell (dx_kr P1) 0 rfl 2 _ rfl
        have HP1 : Hid (DX w w3 D p ((T, acl4 a) :: (G, lgc D (seq + R.length + 1) R.length false) :: xs) []) := P1
        obtain ⟨m, hm⟩ : ∃ m, a.b.length = m := ⟨_, rfl⟩
        rw [hm] at t1
        have HM : Hid (a.b.length = m) := hm
        clear P1 hm HK
        by_cases hbig : 1000 < m
        · have hbi : (1000 : Int) < (m : Int) := by omega
          clear hbig
          go_wp2_with fail
          go_round
          case rel => exact ⟨i + 1, by go_num, HLT.out.1, HLT.out.2, ks_mono ⟨G, p, seq, q0, S, old, R, xs, s8, s9, c8, c9, rfl, by rw [HL.out.1], by rw [HL.out.2], dx_sub HP1.out (List.sublist_cons_self _ _), HX.out.2⟩⟩
          case measure => have := HLT.out.1; (simp [intOf]; try omega)
        · have hbi : ¬ (1000 : Int) < (m : Int) := by omega
          have HMB : Hid (m ≤ 1000) := by show _ ≤ _; omega
          clear hbig
          by_cases h5 : a.k = 5
          · rw [h5] at t0
            have hcnt := fun W => cnt_k (w := W) a.n HAT.out.wn 9 (by omega) (by omega)
            have HCNT : Hid _ := hid4 hcnt
            clear h5 hcnt
            go_wp2_with (first | (go_at_call 21; refine (HCNT.out _).mono ?_; rintro e w4 ⟨r, rfl, hr, rfl⟩; have hri : (r : Int) < 9 := (by omega); clear hr) | (go_at_call 27; refine (dx_fail HP1.out _ (by omega)).mono ?_; rintro e w5 ⟨rfl, h5⟩; have HP2 : Hid (DX w w5 D _ _ []) := h5; clear h5))
            go_round
            case rel => exact ⟨i + 1, by go_num, HLT.out.1, HLT.out.2, ks_mono ⟨G, _, seq, q0, S, old, R, xs, s8, s9, c8, c9, rfl, by rw [HL.out.1], by rw [HL.out.2], dx_sub HP2.out (List.sublist_cons_self _ _), dl_files HX.out.2.1 rfl rfl, HX.out.2.2.1, HX.out.2.2.2⟩⟩
            case measure => have := HLT.out.1; (simp [intOf]; try omega)
          · have H5 : Hid (a.k ≠ 5) := h5
            clear h5
            go_upto_block 2 with fail
            go_cut [12, 13, 14] (fun v12 v13 v14 wx => KM w wx D i T G (acl4 a) S R s8 s9 v12 v13 v14)
            case first =>
              by_cases hk : a.k = 0
              · as_aux_lemma =>
                have q0 : (a.k == 0) = true := by simp [hk]
                clear hk
                go_upto_region 22 with ((go_at_call 25; refine (ka_app HP1.out HX.out.2.1 HX.out.2.2.1 (by have := HLT.out.2; omega) HM HAT.out.isb HMB.out a.sb a.cb (srcV_keep HAT.out.src (dx_kr HP1.out).below)).mono ?_; rintro e w4 ⟨er, rfl, hka⟩; have HKA : Hid (KA w w4 D i T G (acl4 a) S R (R ++ [a.b]) xs er) := hka; clear hka))
                clear t0 t1 t2
                have t1 := ka_cell HKA.out 1 _ rfl
                rw [HM.out] at t1
                obtain ⟨p1, nx, mn, bad, ⟨d, gs, hkr, hV, hkk⟩, hor⟩ := HKA.out
                obtain ⟨vals, hvl, hvs, hve⟩ := HX.out.2.2.2.2.1
                have HKR : Hid (KR w (((T, acl4 a) :: (G, lgc D nx mn bad) :: xs) ++ (D, d.l) :: gs) w4 ∧ VW gs d p1) := ⟨hkr, hV⟩
                have HVL : Hid (vals.length = R.length ∧ (∀ W1, KR w xs W1 → SrcV W1 s9 vals) ∧ ∀ (j : Nat) (u : Value) (r : List Int), vals[j]? = some u → R[j]? = some r → ∃ sj cj, u = .slice sj r.length cj ∧ SB w xs sj r) := ⟨hvl, hvs, hve⟩
                have HOR : Hid _ := hid4 hor
                have hsub : xs.Sublist (((T, acl4 a) :: (G, lgc D nx mn bad) :: xs) ++ (D, d.l) :: gs) := ((List.sublist_cons_self _ _).trans (List.sublist_cons_self _ _)).trans (List.sublist_append_left _ _)
                have HSUB : Hid _ := hid4 hsub
                have HBD : Hid (R.length ≤ 100) := by have h1 := HX.out.2.1.bd.1; have h2 := HLT.out.2; show _ ≤ _; omega
                clear hkr hV hkk hor hvl hvs hve hsub HKA
                go_region_held3 (fun V => V.cell? ⟨T, 1, none⟩ = some (.slice a.sb m a.cb)) (first | (with_reducible exact hS3) | go_keep) ((refine step_appendF _ _ 28 23 (.slice none 0 0) 1 24 (kr_alloc (kr_drew HKR.out.1) _) s9 nr vals (HVL.out.2.1 _ (kr_sub (kr_alloc (kr_drew HKR.out.1) _) HSUB.out)) (by rw [HVL.out.1, HL.out.2, Nat.mul_one]) _ 1 1 [.slice a.sb m a.cb] (by omega) (src_made4 _ _) rfl (by intro v hv; rw [List.mem_singleton.1 hv]; rfl) (by have h1 := HBD.out; have h2 := HL.out.2; unfold maxLen; omega) (by have h1 := HBD.out; have h2 := HL.out.2; omega) Try.underlying28 ub_info rfl (by omega) rfl rfl (by rfl) (by rfl) ?_; intro v' W' O2 K2 hz; have hS3 : W'.cell? ⟨T, 1, none⟩ = some (.slice a.sb m a.cb) := cell_len HM.out (kr_cell K2 0 rfl 1 _ rfl); have HO : Hid (Own w _ _ _ _ _ _ W' ∧ KR w _ W') := ⟨O2, K2⟩; clear O2 K2 hz))
                all_goals
                  go_wp2_with fail
                  go_meet
                  case rel =>
                    rw [HL.out.1]
                    exact km_push HX.out.2.2.2.1 HX.out.2.2.2.2.1 HX.out.2.1.so.1 (dl_bl HX.out.2.1) HM.out HAT.out.isb HL.out.2.symm HBD.out HAT.out.src HVL.out.1 HVL.out.2.2 HKR.out.2 HO.out.2 HO.out.1 HOR.out
              have n0 : (a.k == 0) = false := by simp [hk]
              clear hk
              by_cases hk : a.k = 1
              · as_aux_lemma =>
                have q0 : (a.k == 0) = false := by simp [hk]
                have q1 : (a.k == 1) = true := by simp [hk]
                clear hk
                go_upto_region 22 with ((go_at_call 25; refine (ka_app HP1.out HX.out.2.1 HX.out.2.2.1 (by have := HLT.out.2; omega) HM HAT.out.isb HMB.out a.sb a.cb (srcV_keep HAT.out.src (dx_kr HP1.out).below)).mono ?_; rintro e w4 ⟨er, rfl, hka⟩; have HKA : Hid (KA w w4 D i T G (acl4 a) S R (R ++ [a.b]) xs er) := hka; clear hka))
                clear t0 t1 t2
                have t1 := ka_cell HKA.out 1 _ rfl
                rw [HM.out] at t1
                obtain ⟨p1, nx, mn, bad, ⟨d, gs, hkr, hV, hkk⟩, hor⟩ := HKA.out
                obtain ⟨vals, hvl, hvs, hve⟩ := HX.out.2.2.2.2.1
                have HKR : Hid (KR w (((T, acl4 a) :: (G, lgc D nx mn bad) :: xs) ++ (D, d.l) :: gs) w4 ∧ VW gs d p1) := ⟨hkr, hV⟩
                have HVL : Hid (vals.length = R.length ∧ (∀ W1, KR w xs W1 → SrcV W1 s9 vals) ∧ ∀ (j : Nat) (u : Value) (r : List Int), vals[j]? = some u → R[j]? = some r → ∃ sj cj, u = .slice sj r.length cj ∧ SB w xs sj r) := ⟨hvl, hvs, hve⟩
                have HOR : Hid _ := hid4 hor
                have hsub : xs.Sublist (((T, acl4 a) :: (G, lgc D nx mn bad) :: xs) ++ (D, d.l) :: gs) := ((List.sublist_cons_self _ _).trans (List.sublist_cons_self _ _)).trans (List.sublist_append_left _ _)
                have HSUB : Hid _ := hid4 hsub
                have HBD : Hid (R.length ≤ 100) := by have h1 := HX.out.2.1.bd.1; have h2 := HLT.out.2; show _ ≤ _; omega
                clear hkr hV hkk hor hvl hvs hve hsub HKA
                go_region_held3 (fun V => V.cell? ⟨T, 1, none⟩ = some (.slice a.sb m a.cb)) (first | (with_reducible exact hS3) | go_keep) ((refine step_appendF _ _ 28 23 (.slice none 0 0) 1 24 (kr_alloc (kr_drew HKR.out.1) _) s9 nr vals (HVL.out.2.1 _ (kr_sub (kr_alloc (kr_drew HKR.out.1) _) HSUB.out)) (by rw [HVL.out.1, HL.out.2, Nat.mul_one]) _ 1 1 [.slice a.sb m a.cb] (by omega) (src_made4 _ _) rfl (by intro v hv; rw [List.mem_singleton.1 hv]; rfl) (by have h1 := HBD.out; have h2 := HL.out.2; unfold maxLen; omega) (by have h1 := HBD.out; have h2 := HL.out.2; omega) Try.underlying28 ub_info rfl (by omega) rfl rfl (by rfl) (by rfl) ?_; intro v' W' O2 K2 hz; have hS3 : W'.cell? ⟨T, 1, none⟩ = some (.slice a.sb m a.cb) := cell_len HM.out (kr_cell K2 0 rfl 1 _ rfl); have HO : Hid (Own w _ _ _ _ _ _ W' ∧ KR w _ W') := ⟨O2, K2⟩; clear O2 K2 hz))
                all_goals
                  go_wp2_with fail
                  go_meet
                  case rel =>
                    rw [HL.out.1]
                    exact km_push HX.out.2.2.2.1 HX.out.2.2.2.2.1 HX.out.2.1.so.1 (dl_bl HX.out.2.1) HM.out HAT.out.isb HL.out.2.symm HBD.out HAT.out.src HVL.out.1 HVL.out.2.2 HKR.out.2 HO.out.2 HO.out.1 HOR.out
              have n1 : (a.k == 1) = false := by simp [hk]
              clear hk
              by_cases hk : a.k = 2
              · as_aux_lemma =>
                have q0 : (a.k == 0) = false := by simp [hk]
                have q1 : (a.k == 1) = false := by simp [hk]
                have q2 : (a.k == 2) = true := by simp [hk]
                clear hk
                go_upto_region 22 with ((go_at_call 25; refine (ka_app HP1.out HX.out.2.1 HX.out.2.2.1 (by have := HLT.out.2; omega) HM HAT.out.isb HMB.out a.sb a.cb (srcV_keep HAT.out.src (dx_kr HP1.out).below)).mono ?_; rintro e w4 ⟨er, rfl, hka⟩; have HKA : Hid (KA w w4 D i T G (acl4 a) S R (R ++ [a.b]) xs er) := hka; clear hka))
                clear t0 t1 t2
                have t1 := ka_cell HKA.out 1 _ rfl
                rw [HM.out] at t1
                obtain ⟨p1, nx, mn, bad, ⟨d, gs, hkr, hV, hkk⟩, hor⟩ := HKA.out
                obtain ⟨vals, hvl, hvs, hve⟩ := HX.out.2.2.2.2.1
                have HKR : Hid (KR w (((T, acl4 a) :: (G, lgc D nx mn bad) :: xs) ++ (D, d.l) :: gs) w4 ∧ VW gs d p1) := ⟨hkr, hV⟩
                have HVL : Hid (vals.length = R.length ∧ (∀ W1, KR w xs W1 → SrcV W1 s9 vals) ∧ ∀ (j : Nat) (u : Value) (r : List Int), vals[j]? = some u → R[j]? = some r → ∃ sj cj, u = .slice sj r.length cj ∧ SB w xs sj r) := ⟨hvl, hvs, hve⟩
                have HOR : Hid _ := hid4 hor
                have hsub : xs.Sublist (((T, acl4 a) :: (G, lgc D nx mn bad) :: xs) ++ (D, d.l) :: gs) := ((List.sublist_cons_self _ _).trans (List.sublist_cons_self _ _)).trans (List.sublist_append_left _ _)
                have HSUB : Hid _ := hid4 hsub
                have HBD : Hid (R.length ≤ 100) := by have h1 := HX.out.2.1.bd.1; have h2 := HLT.out.2; show _ ≤ _; omega
                clear hkr hV hkk hor hvl hvs hve hsub HKA
                go_region_held3 (fun V => V.cell? ⟨T, 1, none⟩ = some (.slice a.sb m a.cb)) (first | (with_reducible exact hS3) | go_keep) ((refine step_appendF _ _ 28 23 (.slice none 0 0) 1 24 (kr_alloc (kr_drew HKR.out.1) _) s9 nr vals (HVL.out.2.1 _ (kr_sub (kr_alloc (kr_drew HKR.out.1) _) HSUB.out)) (by rw [HVL.out.1, HL.out.2, Nat.mul_one]) _ 1 1 [.slice a.sb m a.cb] (by omega) (src_made4 _ _) rfl (by intro v hv; rw [List.mem_singleton.1 hv]; rfl) (by have h1 := HBD.out; have h2 := HL.out.2; unfold maxLen; omega) (by have h1 := HBD.out; have h2 := HL.out.2; omega) Try.underlying28 ub_info rfl (by omega) rfl rfl (by rfl) (by rfl) ?_; intro v' W' O2 K2 hz; have hS3 : W'.cell? ⟨T, 1, none⟩ = some (.slice a.sb m a.cb) := cell_len HM.out (kr_cell K2 0 rfl 1 _ rfl); have HO : Hid (Own w _ _ _ _ _ _ W' ∧ KR w _ W') := ⟨O2, K2⟩; clear O2 K2 hz))
                all_goals
                  go_wp2_with fail
                  go_meet
                  case rel =>
                    rw [HL.out.1]
                    exact km_push HX.out.2.2.2.1 HX.out.2.2.2.2.1 HX.out.2.1.so.1 (dl_bl HX.out.2.1) HM.out HAT.out.isb HL.out.2.symm HBD.out HAT.out.src HVL.out.1 HVL.out.2.2 HKR.out.2 HO.out.2 HO.out.1 HOR.out
              have n2 : (a.k == 2) = false := by simp [hk]
              clear hk
              by_cases hk : a.k = 3
              · as_aux_lemma =>
                have q0 : (a.k == 0) = false := by simp [hk]
                have q1 : (a.k == 1) = false := by simp [hk]
                have q2 : (a.k == 2) = false := by simp [hk]
                have q3 : (a.k == 3) = true := by simp [hk]
                clear hk
                go_upto_region 22 with ((go_at_call 25; refine (ka_app HP1.out HX.out.2.1 HX.out.2.2.1 (by have := HLT.out.2; omega) HM HAT.out.isb HMB.out a.sb a.cb (srcV_keep HAT.out.src (dx_kr HP1.out).below)).mono ?_; rintro e w4 ⟨er, rfl, hka⟩; have HKA : Hid (KA w w4 D i T G (acl4 a) S R (R ++ [a.b]) xs er) := hka; clear hka))
                clear t0 t1 t2
                have t1 := ka_cell HKA.out 1 _ rfl
                rw [HM.out] at t1
                obtain ⟨p1, nx, mn, bad, ⟨d, gs, hkr, hV, hkk⟩, hor⟩ := HKA.out
                obtain ⟨vals, hvl, hvs, hve⟩ := HX.out.2.2.2.2.1
                have HKR : Hid (KR w (((T, acl4 a) :: (G, lgc D nx mn bad) :: xs) ++ (D, d.l) :: gs) w4 ∧ VW gs d p1) := ⟨hkr, hV⟩
                have HVL : Hid (vals.length = R.length ∧ (∀ W1, KR w xs W1 → SrcV W1 s9 vals) ∧ ∀ (j : Nat) (u : Value) (r : List Int), vals[j]? = some u → R[j]? = some r → ∃ sj cj, u = .slice sj r.length cj ∧ SB w xs sj r) := ⟨hvl, hvs, hve⟩
                have HOR : Hid _ := hid4 hor
                have hsub : xs.Sublist (((T, acl4 a) :: (G, lgc D nx mn bad) :: xs) ++ (D, d.l) :: gs) := ((List.sublist_cons_self _ _).trans (List.sublist_cons_self _ _)).trans (List.sublist_append_left _ _)
                have HSUB : Hid _ := hid4 hsub
                have HBD : Hid (R.length ≤ 100) := by have h1 := HX.out.2.1.bd.1; have h2 := HLT.out.2; show _ ≤ _; omega
                clear hkr hV hkk hor hvl hvs hve hsub HKA
                go_region_held3 (fun V => V.cell? ⟨T, 1, none⟩ = some (.slice a.sb m a.cb)) (first | (with_reducible exact hS3) | go_keep) ((refine step_appendF _ _ 28 23 (.slice none 0 0) 1 24 (kr_alloc (kr_drew HKR.out.1) _) s9 nr vals (HVL.out.2.1 _ (kr_sub (kr_alloc (kr_drew HKR.out.1) _) HSUB.out)) (by rw [HVL.out.1, HL.out.2, Nat.mul_one]) _ 1 1 [.slice a.sb m a.cb] (by omega) (src_made4 _ _) rfl (by intro v hv; rw [List.mem_singleton.1 hv]; rfl) (by have h1 := HBD.out; have h2 := HL.out.2; unfold maxLen; omega) (by have h1 := HBD.out; have h2 := HL.out.2; omega) Try.underlying28 ub_info rfl (by omega) rfl rfl (by rfl) (by rfl) ?_; intro v' W' O2 K2 hz; have hS3 : W'.cell? ⟨T, 1, none⟩ = some (.slice a.sb m a.cb) := cell_len HM.out (kr_cell K2 0 rfl 1 _ rfl); have HO : Hid (Own w _ _ _ _ _ _ W' ∧ KR w _ W') := ⟨O2, K2⟩; clear O2 K2 hz))
                all_goals
                  go_wp2_with fail
                  go_meet
                  case rel =>
                    rw [HL.out.1]
                    exact km_push HX.out.2.2.2.1 HX.out.2.2.2.2.1 HX.out.2.1.so.1 (dl_bl HX.out.2.1) HM.out HAT.out.isb HL.out.2.symm HBD.out HAT.out.src HVL.out.1 HVL.out.2.2 HKR.out.2 HO.out.2 HO.out.1 HOR.out
              have n3 : (a.k == 3) = false := by simp [hk]
              clear hk
              by_cases hk : a.k = 4
              · as_aux_lemma =>
                have q4 : (a.k == 4) = true := by simp [hk]
                clear hk
                go_upto_region 25 with ((go_at_call 26; refine (km_ins HP1.out HX.out.2.1 HX.out.2.2.1 (by have := HLT.out.2; omega) HM HAT.out.isb HMB.out a.sb a.cb HAT.out.src HX.out.2.2.2.1 HX.out.2.2.2.2.1).mono ?_; rintro e w4 ⟨er, rfl, hkm⟩; have HKM : Hid (KM w w4 D i T G (acl4 a) S R s8 s9 _ _ _) := hkm; clear hkm))
                clear t0 t1 t2
                have t1 := km_cell HKM.out 1 _ rfl
                rw [HM.out] at t1
                go_wp2_with fail
                go_meet
                case rel => exact HKM.out
              · as_aux_lemma =>
                have q4 : (a.k == 4) = false := by simp [hk]
                have q5 : (a.k == 5) = false := by have := H5.out; simp [this]
                clear hk
                go_wp2_with fail
                go_meet
                case rel => rw [HL.out.1, HL.out.2]; exact km_none HP1.out HX.out.2.1 HX.out.2.2.2.1 HX.out.2.2.2.2.1 c8 c9 HX.out.2.2.2.2.2 (by have := HLT.out.2; omega)
            case rest => as_aux_lemma =>
              obtain ⟨p1, nx1, mn1, bad, xs1, S1, R1, s12, s13, c12, c13, rfl, rfl, hdx1, h81, h91, h12, h13, hc13, hbS, hbR, hbL, hor⟩ := hcut
              clear t0 t1 t2 P1
              obtain ⟨ms, hms⟩ : ∃ ms, ms = S1.length := ⟨_, rfl⟩
              obtain ⟨mr, hmr⟩ : ∃ mr, mr = R1.length := ⟨_, rfl⟩
              have HL1 : Hid (ms = S1.length ∧ mr = R1.length) := ⟨hms, hmr⟩
              have HX1 : Hid (DX w wc D p1 ((T, acl4 a) :: (G, lgc D nx1 mn1 bad) :: xs1) [] ∧ SB w xs1 s8 S ∧ RB w xs1 s9 R ∧ SB w xs1 s12 S1 ∧ RB w xs1 s13 R1 ∧ R1.length ≤ c13 ∧ isB S1 ∧ isBL R1 ∧ R1.length ≤ 101) := ⟨hdx1, h81, h91, h12, h13, hc13, hbS, hbR, hbL⟩
              rw [← hms, ← hmr]
              clear hdx1 h81 h91 h12 h13 hc13 hbS hbR hbL hms hmr
              rcases hor with ⟨rfl, rfl, hdd1, seq1, q1, old1, hd1, rfl, rfl⟩ | ⟨rfl, hcr⟩
              · have HZ : Hid (KSt w wc D (i + 1) (.pointer (some ⟨G, 0, none⟩)) (.slice s12 ms c12) (.slice s13 mr c13)) := ⟨G, p1, seq1, q1, S1, old1, R1, xs1, s12, s13, c12, c13, rfl, by rw [HL1.out.1], by rw [HL1.out.2], dx_sub HX1.out.1 (List.sublist_cons_self _ _), hd1, hdd1, HX1.out.2.2.2.1, HX1.out.2.2.2.2.1, HX1.out.2.2.2.2.2.1⟩
                clear hdd1 hd1
                go_wp2_with fail
                go_round
                case rel => exact ⟨i + 1, by go_num, HLT.out.1, HLT.out.2, HZ.out⟩
                case measure => have := HLT.out.1; (simp [intOf]; try omega)
              · have hx : ∃ Sx Rx, ((Sx = S ∧ Rx = R) ∨ (Sx = S1 ∧ Rx = R1)) ∧ ∃ seq q0 old X, DL (i + 1) (pcrash p1 a.ks) seq q0 Sx old Rx X := by
                  rcases hcr a.ks with h | h
                  · exact ⟨S, R, .inl ⟨rfl, rfl⟩, h⟩
                  · exact ⟨S1, R1, .inr ⟨rfl, rfl⟩, h⟩
                obtain ⟨Sx, Rx, hor2, seq5, q5, old5, X5, hd5⟩ := hx
                have HOR2 : Hid ((Sx = S ∧ Rx = R) ∨ (Sx = S1 ∧ Rx = R1)) := hor2
                have HD5 : Hid (DL (i + 1) (pcrash p1 a.ks) seq5 q5 Sx old5 Rx X5) := hd5
                have t3 := kr_cell (dx_kr HX1.out.1) 0 rfl 3 _ rfl
                clear hcr hor2 hd5
                go_upto_region 35 with ((go_at_call 28; refine (dx_crash HX1.out.1 a.ks _ rfl a.sk a.ck (act_keep HAT.out)).mono ?_; rintro e w5 ⟨rfl, h5⟩; have HP5 : Hid (DX w w5 D (pcrash p1 a.ks) ((T, acl4 a) :: (G, lgc D nx1 mn1 bad) :: xs1) []) := h5; clear h5))
                clear t3
                have t0 := kr_cell (dx_kr HP5.out) 0 rfl 0 _ rfl
                have t2 := kr_cell (dx_kr HP5.out) 0 rfl 2 _ rfl
                go_upto_if 108 with fail
                go_cut [] (fun wx => ∃ p6 seq q0 old X, DX w wx D p6 ((T, acl4 a) :: (G, lgc D nx1 mn1 bad) :: xs1) [] ∧ DL (i + 1) p6 seq q0 Sx old Rx X ∧ Clean p6)
                case first => as_aux_lemma =>
                  by_cases h7 : a.k = 7
                  · have q7 : (a.k == 7) = true := by simp [h7]
                    have HCNT : Hid _ := hid4 (fun W => cnt_k (w := W) a.n HAT.out.wn 5 (by omega) (by omega))
                    clear h7
                    go_upto_region 37 with ((first | (go_at_call 21; refine (HCNT.out _).mono ?_; rintro e w6 ⟨r, rfl, hr, rfl⟩; have hri : (r : Int) < 5 := (by omega); clear hr) | (go_at_call 27; refine (dx_fail HP5.out _ (by omega)).mono ?_; rintro e w7 ⟨rfl, h5⟩; have HP6 : Hid (DX w w7 D (pfail (pcrash p1 a.ks) (1 + (r : Int))) _ [] ∧ DL (i + 1) (pfail (pcrash p1 a.ks) (1 + (r : Int))) seq5 q5 Sx old5 Rx X5) := ⟨h5, dl_files HD5.out rfl rfl⟩; clear h5)))
                    clear hri t0 t2
                    go_upto_region 38 with ((go_at_call 24; refine (dxl_open_any HP6.out.1 HP6.out.2 (by have := HLT.out.2; omega)).mono ?_; rintro e w8 ⟨va, vb, vc, vd, p7, X7, rfl, h6, h7⟩; have HP7 : Hid (DX w w8 D p7 _ [] ∧ DL (i + 1) p7 seq5 q5 Sx old5 Rx X7) := ⟨h6, h7⟩; clear h6 h7))
                    have t3 := kr_cell (dx_kr HP7.out.1) 0 rfl 3 _ rfl
                    go_wp2_with (go_at_call 28; refine (dx_crash HP7.out.1 a.ks _ rfl a.sk a.ck (act_keep HAT.out)).mono ?_; rintro e w9 ⟨rfl, h5⟩; have HP8 : Hid (DX w w9 D (pcrash p7 a.ks) ((T, acl4 a) :: (G, lgc D nx1 mn1 bad) :: xs1) []) := h5; clear h5)
                    go_meet
                    case rel =>
                      obtain ⟨X8, h8⟩ := dl_crash HP7.out.2 a.ks
                      exact ⟨_, _, _, _, X8, HP8.out, h8, pcrash_clean _ _⟩
                  · have q7 : (a.k == 7) = false := by simp [h7]
                    clear h7
                    go_wp2_with fail
                    go_meet
                    case rel => exact ⟨_, _, _, _, _, HP5.out, HD5.out, pcrash_clean _ _⟩
                case rest => as_aux_lemma =>
                  clear t0 t2 HP5 HD5
                  obtain ⟨p6, seq6, q6, old6, X6, hdx6, hd6, hc6⟩ := hcut
                  have HP6 : Hid (DX w _ D p6 ((T, acl4 a) :: (G, lgc D nx1 mn1 bad) :: xs1) [] ∧ DL (i + 1) p6 seq6 q6 Sx old6 Rx X6 ∧ Clean p6) := ⟨hdx6, hd6, hc6⟩
                  have HBX : Hid (Rx.length ≤ 100 ∧ isB Sx ∧ isBL Rx) := ⟨by have h1 := hd6.bd.1; have h2 := HLT.out.2; omega, hd6.so.1, dl_bl hd6⟩
                  obtain ⟨ns1, hns1⟩ : ∃ ns1, Sx.length = ns1 := ⟨_, rfl⟩
                  obtain ⟨nx, hnx⟩ : ∃ nx, Rx.length = nx := ⟨_, rfl⟩
                  have ho1 := dxl_open hdx6 hd6 hc6 (by have := HLT.out.2; omega)
                  have ho2 := fun W p xs (h : DX w W D p xs []) (hd : DL (i + 1) p seq6 q6 Sx old6 Rx []) (hc : Clean p) => dxl_open h hd hc (by have := HLT.out.2; omega)
                  rw [hns1, hnx] at ho1 ho2
                  have HNS : Hid (Sx.length = ns1) := hns1
                  have HNX : Hid (Rx.length = nx) := hnx
                  have HO1 : Hid _ := hid4 ho1
                  have HO2 : Hid _ := hid4 ho2
                  clear hdx6 hd6 hc6 ho1 ho2 hns1 hnx
                  go_upto_region 40 with ((go_at_call 24; refine HO1.out.mono ?_; rintro e w7 ⟨G1, s1, c1, s1b, c1b, l1, p7, rfl, h7, hd7, hc7, hs7, hr7, hq7⟩; have HP7 : Hid (DX w w7 D p7 ((G1, lgc D (seq6 + nx + 1) nx false) :: (l1 ++ ((T, acl4 a) :: (G, lgc D nx1 mn1 bad) :: xs1))) [] ∧ DL (i + 1) p7 seq6 q6 Sx old6 Rx [] ∧ Clean p7) := ⟨h7, hd7, hc7⟩; have HS7 : Hid (SB w (l1 ++ ((T, acl4 a) :: (G, lgc D nx1 mn1 bad) :: xs1)) s1 Sx ∧ RB w (l1 ++ ((T, acl4 a) :: (G, lgc D nx1 mn1 bad) :: xs1)) s1b Rx) := ⟨hs7, hr7⟩; clear h7 hd7 hc7 hs7 hr7 hq7))
                  clear HO1
                  go_upto_region 41 with ((go_at_call 24; refine (HO2.out _ _ _ HP7.out.1 HP7.out.2.1 HP7.out.2.2).mono ?_; rintro e w8 ⟨G2, s2, c2, s2b, c2b, l2, p8, rfl, h7, hd7, hc7, hs7, hr7, hq7⟩; have HP8 : Hid (DX w w8 D p8 ((G2, lgc D (seq6 + nx + 1) nx false) :: (l2 ++ ((G1, lgc D (seq6 + nx + 1) nx false) :: (l1 ++ ((T, acl4 a) :: (G, lgc D nx1 mn1 bad) :: xs1))))) []) := h7; have HD8 : Hid (DL (i + 1) p8 seq6 q6 Sx old6 Rx [] ∧ Clean p8) := ⟨hd7, hc7⟩; have HS8 : Hid (SB w (l2 ++ ((G1, lgc D (seq6 + nx + 1) nx false) :: (l1 ++ ((T, acl4 a) :: (G, lgc D nx1 mn1 bad) :: xs1)))) s2 Sx ∧ RB w (l2 ++ ((G1, lgc D (seq6 + nx + 1) nx false) :: (l1 ++ ((T, acl4 a) :: (G, lgc D nx1 mn1 bad) :: xs1)))) s2b Rx) := ⟨hs7, hr7⟩; clear h7 hd7 hc7 hs7 hr7 hq7))
                  clear HO2
                  have hsub1 : (l1 ++ ((T, acl4 a) :: (G, lgc D nx1 mn1 bad) :: xs1)).Sublist ((G2, lgc D (seq6 + nx + 1) nx false) :: (l2 ++ ((G1, lgc D (seq6 + nx + 1) nx false) :: (l1 ++ ((T, acl4 a) :: (G, lgc D nx1 mn1 bad) :: xs1))))) := ((List.sublist_cons_self _ _).trans (List.sublist_append_right _ _)).trans (List.sublist_cons_self _ _)
                  have hsubx : xs1.Sublist (l2 ++ ((G1, lgc D (seq6 + nx + 1) nx false) :: (l1 ++ ((T, acl4 a) :: (G, lgc D nx1 mn1 bad) :: xs1)))) := ((((List.sublist_cons_self _ _).trans (List.sublist_cons_self _ _)).trans (List.sublist_append_right _ _)).trans (List.sublist_cons_self _ _)).trans (List.sublist_append_right _ _)
                  have HSX : Hid _ := hid4 hsubx
                  have HB1 : Hid (SB w _ s1 Sx ∧ RB w _ s1b Rx) := ⟨sb_mono HS7.out.1 hsub1, rb_mono HS7.out.2 hsub1⟩
                  have HB2 : Hid (SB w ((G2, lgc D (seq6 + nx + 1) nx false) :: (l2 ++ ((G1, lgc D (seq6 + nx + 1) nx false) :: (l1 ++ ((T, acl4 a) :: (G, lgc D nx1 mn1 bad) :: xs1))))) s2 Sx ∧ RB w ((G2, lgc D (seq6 + nx + 1) nx false) :: (l2 ++ ((G1, lgc D (seq6 + nx + 1) nx false) :: (l1 ++ ((T, acl4 a) :: (G, lgc D nx1 mn1 bad) :: xs1))))) s2b Rx) := ⟨sb_mono HS8.out.1 (List.sublist_cons_self _ _), rb_mono HS8.out.2 (List.sublist_cons_self _ _)⟩
                  have hst1 := fun nq => conv_cells (W := w8.drewN nq) (bs := Sx) ns1 c1 HNS.out (HB1.out.1 _ (dx_kr (dx_drewN HP8.out nq)))
                  have hst2 := fun nq => conv_cells (W := w8.drewN nq) (bs := Sx) ns1 c2 HNS.out (HB2.out.1 _ (dx_kr (dx_drewN HP8.out nq)))
                  have HST1 : Hid (∀ nq, (convert 23 9 (.slice s1 ns1 c1)).run Try.prog (w8.drewN nq) = .ok (.string (strOfNums Sx)) (w8.drewN nq)) := hst1
                  have h10 := hst1 0
                  have h20 := hst2 0
                  simp only [World.drewN_zero] at h10 h20
                  have hsame := same_k (W := w8) Rx Rx nx nx HNX.out HNX.out HBX.out.2.2 HBX.out.2.2 (by have h1 := HBX.out.1; have h2 := HNX.out; omega) (by have h1 := HBX.out.1; have h2 := HNX.out; omega) s1b s2b c1b c2b (rb_llv HB1.out.2 (dx_kr HP8.out)) (rb_llv HB2.out.2 (dx_kr HP8.out))
                  have HSAME : Hid _ := hid4 hsame
                  clear hst1 hst2 hsame hsub1 hsubx
                  generalize strOfNums Sx = sa at h10 h20
                  go_upto_region 43 with ((go_at_call 15; refine HSAME.out.mono ?_; rintro e w9 ⟨rfl, k9, rfl⟩))
                  clear h10 h20 HSAME
                  go_cut [23] (fun vv wx => vv = .bool (decide (Sx = S ∧ Rx = R)) ∧ ∃ k, wx = w8.drewN k)
                  case first => as_aux_lemma =>
                    have k1 := HST1.out k9
                    have k2 := conv_cells (W := w8.drewN k9) (bs := S) ns c8 HL.out.1.symm (sb_mono HX1.out.2.1 (HSX.out.trans (List.sublist_cons_self _ _)) _ (dx_kr (dx_drewN HP8.out k9)))
                    by_cases hs : Sx = S
                    · have hsame := same_k (W := w8.drewN k9) Rx R nx nr HNX.out HL.out.2.symm HBX.out.2.2 (dl_bl HX.out.2.1) (by have h1 := HBX.out.1; have h2 := HNX.out; omega) (by have h1 := HX.out.2.1.bd.1; have h2 := HLT.out.2; have h3 := HL.out.2; omega) s1b s9 c1b c9 (rb_llv HB1.out.2 (dx_kr (dx_drewN HP8.out k9))) (rb_llv (rb_mono HX1.out.2.2.1 (HSX.out.trans (List.sublist_cons_self _ _))) (dx_kr (dx_drewN HP8.out k9)))
                      have HSAME : Hid _ := hid4 hsame
                      have HDE : Hid (decide (Rx = R) = decide (Sx = S ∧ Rx = R)) := by show _ = _; simp [hs]
                      rw [hs] at k1
                      clear hs hsame
                      generalize strOfNums S = sa at k1 k2
                      go_wp2_with (go_at_call 15; refine HSAME.out.mono ?_; rintro e w10 ⟨rfl, k10, rfl⟩)
                      go_meet
                      case rel => exact ⟨by rw [HDE.out], _, rfl⟩
                    · have HDE : Hid (decide (Sx = S ∧ Rx = R) = false) := decide_eq_false fun e => hs e.1
                      have hbl := bytes_ne (fun e => hs (son_inj HBX.out.2.1 HX.out.2.1.so.1 e))
                      generalize strOfNums Sx = sa at k1 hbl
                      generalize strOfNums S = sb at k2 hbl
                      clear hs
                      go_wp2_with fail
                      go_meet
                      case rel => exact ⟨by rw [HDE.out], _, rfl⟩
                  case rest => as_aux_lemma =>
                    obtain ⟨rfl, ka, rfl⟩ := hcut
                    obtain ⟨b1, hb1⟩ : ∃ b, b = decide (Sx = S ∧ Rx = R) := ⟨_, rfl⟩
                    rw [← hb1]
                    have HD1 : Hid (b1 = decide (Sx = S ∧ Rx = R)) := hb1
                    clear hb1
                    go_upto_region 44 with fail
                    go_cut [24] (fun vv wx => vv = .bool (decide (Sx = S1 ∧ Rx = R1)) ∧ ∃ k, wx = w8.drewN k)
                    case first => as_aux_lemma =>
                      have k1 := HST1.out ka
                      have k2 := conv_cells (W := w8.drewN ka) (bs := S1) ms c12 HL1.out.1.symm (sb_mono HX1.out.2.2.2.1 (HSX.out.trans (List.sublist_cons_self _ _)) _ (dx_kr (dx_drewN HP8.out ka)))
                      by_cases hs : Sx = S1
                      · have hsame := same_k (W := w8.drewN ka) Rx R1 nx mr HNX.out HL1.out.2.symm HBX.out.2.2 HX1.out.2.2.2.2.2.2.2.1 (by have h1 := HBX.out.1; have h2 := HNX.out; omega) (by have h1 := HX1.out.2.2.2.2.2.2.2.2; have h3 := HL1.out.2; omega) s1b s13 c1b c13 (rb_llv HB1.out.2 (dx_kr (dx_drewN HP8.out ka))) (rb_llv (rb_mono HX1.out.2.2.2.2.1 (HSX.out.trans (List.sublist_cons_self _ _))) (dx_kr (dx_drewN HP8.out ka)))
                        have HSAME : Hid _ := hid4 hsame
                        have HDE : Hid (decide (Rx = R1) = decide (Sx = S1 ∧ Rx = R1)) := by show _ = _; simp [hs]
                        rw [hs] at k1
                        clear hs hsame
                        generalize strOfNums S1 = sa at k1 k2
                        go_wp2_with (go_at_call 15; refine HSAME.out.mono ?_; rintro e w10 ⟨rfl, k10, rfl⟩)
                        go_meet
                        case rel => exact ⟨by rw [HDE.out], _, rfl⟩
                      · have HDE : Hid (decide (Sx = S1 ∧ Rx = R1) = false) := decide_eq_false fun e => hs e.1
                        have hbl := bytes_ne (fun e => hs (son_inj HBX.out.2.1 HX1.out.2.2.2.2.2.2.1 e))
                        generalize strOfNums Sx = sa at k1 hbl
                        generalize strOfNums S1 = sb at k2 hbl
                        clear hs
                        go_wp2_with fail
                        go_meet
                        case rel => exact ⟨by rw [HDE.out], _, rfl⟩
                    case rest => as_aux_lemma =>
                      obtain ⟨rfl, kb, rfl⟩ := hcut
                      by_cases hnow : Sx = S1 ∧ Rx = R1
                      · have d2 : decide (Sx = S1 ∧ Rx = R1) = true := decide_eq_true hnow
                        obtain ⟨hS, hR⟩ := hnow
                        have e : nx = R1.length := by rw [← HNX.out, hR]
                        have HZ : Hid (KSt w (w8.drewN kb) D (i + 1) (.pointer (some ⟨G2, 0, none⟩)) (.slice s12 ms c12) (.slice s13 mr c13)) := ⟨G2, p8, seq6, q6, S1, old6, R1, _, s12, s13, c12, c13, rfl, by rw [HL1.out.1], by rw [HL1.out.2], by rw [← e]; exact dx_drewN HP8.out kb, by rw [← hS, ← hR]; exact HD8.out.1, HD8.out.2.2, sb_mono HX1.out.2.2.2.1 HSX.out, rb_mono HX1.out.2.2.2.2.1 HSX.out, HX1.out.2.2.2.2.2.1⟩
                        rw [d2]
                        clear d2 hS hR e
                        clear HD1
                        cases b1
                        all_goals
                          go_wp2_with fail
                          go_round
                          case rel => exact ⟨i + 1, by go_num, HLT.out.1, HLT.out.2, HZ.out⟩
                          case measure => have := HLT.out.1; (simp [intOf]; try omega)
                      · have d2 : decide (Sx = S1 ∧ Rx = R1) = false := decide_eq_false hnow
                        have hwas := HOR2.out.resolve_right hnow
                        have d1 : decide (Sx = S ∧ Rx = R) = true := decide_eq_true hwas
                        obtain ⟨hS, hR⟩ := hwas
                        have e : nx = R.length := by rw [← HNX.out, hR]
                        have HZ : Hid (KSt w (w8.drewN kb) D (i + 1) (.pointer (some ⟨G2, 0, none⟩)) (.slice s8 ns c8) (.slice s9 nr c9)) := ⟨G2, p8, seq6, q6, S, old6, R, _, s8, s9, c8, c9, rfl, by rw [HL.out.1], by rw [HL.out.2], by rw [← e]; exact dx_drewN HP8.out kb, by rw [← hS, ← hR]; exact HD8.out.1, HD8.out.2.2, sb_mono HX1.out.2.1 HSX.out, rb_mono HX1.out.2.2.1 HSX.out, HX.out.2.2.2.2.2⟩
                        obtain rfl : b1 = true := HD1.out.trans d1
                        rw [d2]
                        clear d1 d2 hS hR e hnow
                        go_wp2_with fail
                        go_round
                        case rel => exact ⟨i + 1, by go_num, HLT.out.1, HLT.out.2, HZ.out⟩
                        case measure => have := HLT.out.1; (simp [intOf]; try omega)
      · have hli : (i : Int) < (len : Int) := by omega
        have h4i : ¬ (i : Int) < 40 := by omega
        clear hi hi40 hlt h40
        go_wp2_with (go_at_call 19; refine (known_k (dx_kr HX.out.1)).mono ?_; rintro e w1 ⟨rfl, hb1⟩; have HB : Hid (Below w.heap.size w w1) := hb1.below; clear hb1)
        go_ret
        exact ⟨rfl, HB.out⟩
    · have hli : ¬ (i : Int) < (len : Int) := by omega
      clear hi hi40 hlt
      go_wp2_with (go_at_call 19; refine (known_k (dx_kr HX.out.1)).mono ?_; rintro e w1 ⟨rfl, hb1⟩; have HB : Hid (Below w.heap.size w w1) := hb1.below; clear hb1)
      go_ret
      exact ⟨rfl, HB.out⟩
end Go.Proofs.Ytaonaifnaecpiaa.Own
