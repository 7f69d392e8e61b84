/- One step of a play: ship. No conditions beside those in each theorem. -/
import Derived.Test.YtofpkmfjigjlhaaSu31
namespace Go.Proofs.Ytofpkmfjigjlhaa.Own
open Go.RowKit
set_option linter.unusedSimpArgs false
set_option linter.unusedVariables false
section
variable {w W : World} {P A : Nat} {D : Bool → Nat} {p : PY} {im : List (Nat × List Value)} {lv : Bool → Value} {wv : Value} {wx : List (Nat × List Value)} {us : List Value}
set_option maxRecDepth 100000 in
set_option maxHeartbeats 16000000 in
theorem step_ship (h : PL w W P A D p [] im lv wv wx us) (who num : Int) (hwho : (Lit.int .i64 who).wf = true) (hnum : (Lit.int .i64 num).wf = true) (kind : Int) (hk : kind = 3 ∨ kind = 4) (hk0 : 0 ≤ p.k) (hk1 : p.k ≤ 100000) :
    Calls Try.prog 9 #[.pointer (some ⟨P, 0, none⟩), .agg #[.int .i64 kind, .int .i64 who, .int .i64 num]] W fun e W' => e = .returned (.tuple #[]) ∧ PLE w W' P A D (pyStep p kind (two who) num) im := by
  obtain ⟨sx, c, rfl, hc, hform⟩ := ws_form h.ws
  have hwl := h.wl
  have hc2 : ∀ V, Calls Try.prog 17 #[.int .i64 who, .int .i64 2] V fun e W' => e = .returned (.int .i64 (bi (two who))) ∧ W' = V := fun V => by
    rw [← two_bi]; exact cntx_k who hwho 2 (by omega) (by omega)
  have hc5 : ∀ V, Calls Try.prog 17 #[.int .i64 num, .int .i64 5] V fun e W' => e = .returned (.int .i64 (scount num 5)) ∧ W' = V := fun V => cntx_k num hnum 5 (by omega) (by omega)
  have hcl : 0 < p.way.length → ∀ V, Calls Try.prog 17 #[.int .i64 num, .int .i64 (p.way.length : Int)] V fun e W' => e = .returned (.int .i64 (pat p num)) ∧ W' = V := fun h0 V => by
    rw [show pat p num = scount num p.way.length from if_neg (by omega)]; exact cntx_k num hnum _ (by omega) (by omega)
  have hpat : Hid (0 < p.way.length → 0 ≤ pat p num ∧ pat p num < p.way.length) := fun h0 => by
    rw [show pat p num = scount num p.way.length from if_neg (by omega)]; exact scount_lt _ _ (by omega)
  have hp0 : ¬ 0 < p.way.length → pat p num = 0 := fun h0 => if_pos (by omega)
  have H : Hid (PL w W P A D p [] im lv _ wx us) := h
  have PB : Hid (PX w (W.alloc (.cells #[.int .i64 kind, .int .i64 who, .int .i64 num] 28)) D p.n ((W.heap.size, [.int .i64 kind, .int .i64 who, .int .i64 num]) :: ([] ++ (P, [.slice (some ⟨A, 0, none⟩) 2 2, .slice sx p.way.length c, .int .i64 p.k]) :: (A, [.pointer (some ⟨D false, 0, none⟩), .pointer (some ⟨D true, 0, none⟩)]) :: wx)) im lv) := px_new h.px [.int .i64 kind, .int .i64 who, .int .i64 num] 28
  have p1 := kr_cell PB.out.kr 3 rfl 1 _ rfl
  obtain ⟨q', hq'⟩ : ∃ q', q' = pyStep p kind (two who) num := ⟨_, rfl⟩
  rw [← hq']
  have HQ : Hid (q' = _) := hq'
  generalize htw : two who = tw at *
  generalize hat : pat p num = at_ at *
  generalize hLn : p.way.length = n at *
  have HLn : Hid (p.way.length = n) := hLn
  have HK : Hid (kind = 3 ∨ kind = 4) := hk
  have HAT : Hid (pat p num = at_) := hat
  clear h hLn htw hat hform hq' hk
  go_enter Try.func9, Try.ntmps9
  go_upto_if 16 with (go_at_call 17; refine (hc2 _).mono ?_; rintro e w4 ⟨rfl, rfl⟩)
  have PV := PB.out
  generalize (W.alloc (.cells #[.int .i64 kind, .int .i64 who, .int .i64 num] 28)) = V at *
  have b0 : V.cell? ⟨W.heap.size, 0, none⟩ = some (.int .i64 kind) := kr_cell PV.kr 2 rfl 0 _ rfl
  have b2 : V.cell? ⟨W.heap.size, 2, none⟩ = some (.int .i64 num) := kr_cell PV.kr 2 rfl 2 _ rfl
  replace p1 := kr_cell PV.kr 3 rfl 1 _ rfl
  clear PV hc2
  go_cut [5] (fun v5 wx' => v5 = .int .i64 at_ ∧ PX w wx' D p.n ((W.heap.size, [.int .i64 kind, .int .i64 who, .int .i64 num]) :: ([] ++ (P, [.slice (some ⟨A, 0, none⟩) 2 2, .slice sx n c, .int .i64 p.k]) :: (A, [.pointer (some ⟨D false, 0, none⟩), .pointer (some ⟨D true, 0, none⟩)]) :: wx)) im lv)
  case first =>
    by_cases hpos : 0 < n
    · have hposi : (0 : Int) < (n : Int) := by omega
      have hcn := hcl hpos
      go_wp2
      go_still_tail 7, (by kernel_rfl)
      go_wp2_with (go_at_call 17; refine (hcn _).mono ?_; rintro e w4 ⟨rfl, rfl⟩)
      go_meet
      case rel => exact ⟨rfl, px_call PB.out (bw_drew (Below.refl _ _))⟩
    · have h0 := hp0 hpos
      have hn0 : n = 0 := by omega
      subst hn0
      subst h0
      go_wp2
      go_meet
      case rel => exact ⟨rfl, PB.out⟩
  case rest =>
    obtain ⟨rfl, P5⟩ := hcut
    clear PB hcl hp0 b0 b2 p1
    have b0 : wc.cell? ⟨W.heap.size, 0, none⟩ = some (.int .i64 kind) := kr_cell P5.kr 2 rfl 0 _ rfl
    have b2 : wc.cell? ⟨W.heap.size, 2, none⟩ = some (.int .i64 num) := kr_cell P5.kr 2 rfl 2 _ rfl
    have q0 := kr_cell P5.kr 3 rfl 0 _ rfl
    have q1 := kr_cell P5.kr 3 rfl 1 _ rfl
    have q2 := kr_cell P5.kr 3 rfl 2 _ rfl
    have qa : wc.cell? ⟨A, (bi tw).toNat, none⟩ = some (.pointer (some ⟨D tw, 0, none⟩)) := by cases tw <;> exact kr_cell P5.kr 4 rfl _ _ rfl
    have P5 : Hid (PX w wc D p.n _ im lv) := P5
    have hQ2 : q' = pyShip p tw (scount num 5) := by
      have hQ := HQ.out
      have hk := HK.out
      unfold pyStep at hQ
      rw [if_neg (by omega), if_pos hk] at hQ
      exact hQ
    unfold pyShip at hQ2
    have HWS : Hid (WS wx 10 (.slice sx n c) n (wcl p.way us).flatten) := by have h0 := H.out.ws; rw [HLn.out] at h0; exact h0
    have hbd := ship_bd (H.out.px.nb tw) (scount num 5)
    have e3 : ∀ (V' : World) (ys : List (Nat × List Value)), PX w V' D p.n ys im lv → _ := fun V' ys hV => px_ship hV tw (scount num 5)
    clear HQ
    generalize hsh : sShip (p.n tw) (scount num 5) = sh at *
    obtain ⟨⟨ee, ea, eb, el, es⟩, er⟩ := sh
    simp only at e3 hQ2 hbd
    rw [HLn.out] at hQ2
    have HB : Hid (el.length ≤ 4096 ∧ ∀ y ∈ el, y.2.length ≤ 60000) := hbd
    have HQ' : Hid (q' = _) := hQ2
    have PVd := px_call P5.out (bw_drew (Below.refl _ _))
    have PVa := px_call (px_new P5.out [.int .i64 0, .int .i64 0, .int .i64 0, .slice none 0 0, .int .i64 0] 53) (bw_drew (Below.refl _ _))
    have cd := e3 _ _ PVd
    have ca := e3 _ _ PVa
    clear PVd PVa e3 hsh hQ2 hbd hpat HAT
    rcases HK.out with rfl | rfl
    · go_upto_region 13 with fail
      go_cut [6, 7] (fun v6 v7 wx' => ∃ g s' c' im', v6 = .pointer (some ⟨g, 0, none⟩) ∧ v7 = .int .i64 er ∧ (∀ q ∈ im, q ∈ im') ∧ EL im' (.slice s' el.length c') el ∧ PX w wx' D p.n ((g, [.int .i64 ee, .int .i64 ea, .int .i64 eb, .slice s' el.length c', .int .i64 es]) :: (W.heap.size, [.int .i64 3, .int .i64 who, .int .i64 num]) :: ([] ++ (P, [.slice (some ⟨A, 0, none⟩) 2 2, .slice sx n c, .int .i64 p.k]) :: (A, [.pointer (some ⟨D false, 0, none⟩), .pointer (some ⟨D true, 0, none⟩)]) :: wx)) im' lv)
      case first =>
        clear HB
        cases tw
        · replace qa : wc.cell? ⟨A, 0, none⟩ = some (.pointer (some ⟨D false, 0, none⟩)) := qa
          simp only [bi, if_pos, if_neg (show ¬ (false = true) by decide), if_neg (show ¬ (true = false) by decide)]
          go_region_held3 (fun V => V.cell? ⟨P, 0, none⟩ = some (.slice (some ⟨A, 0, none⟩) 2 2) ∧ V.cell? ⟨A, 0, none⟩ = some (.pointer (some ⟨D false, 0, none⟩)) ∧ V.cell? ⟨W.heap.size, 2, none⟩ = some (.int .i64 num)) (first | (with_reducible exact hS3) | (with_reducible exact hT3) | go_keep) ((first | (go_at_call 17; refine (hc5 _).mono ?_; rintro e w4 ⟨rfl, rfl⟩) | (go_at_call 21; first | (refine cd.mono ?_; rintro e w5 ⟨s5, c5, l5, rfl, P7, HE7⟩; have hS3 : w5.cell? ⟨P, 0, none⟩ = some (.slice (some ⟨A, 0, none⟩) 2 2) ∧ w5.cell? ⟨A, 0, none⟩ = some (.pointer (some ⟨D false, 0, none⟩)) ∧ w5.cell? ⟨W.heap.size, 2, none⟩ = some (.int .i64 num) := ship_s3 (tw := false) P7) | (refine ca.mono ?_; rintro e w5 ⟨s5, c5, l5, rfl, P8, HE7⟩; obtain ⟨g0, g1, g2, g3, g4, f0, f1, f2, f3, f4⟩ := ship_a5 P8; have hS3 : w5.cell? ⟨P, 0, none⟩ = some (.slice (some ⟨A, 0, none⟩) 2 2) ∧ w5.cell? ⟨A, 0, none⟩ = some (.pointer (some ⟨D false, 0, none⟩)) ∧ w5.cell? ⟨W.heap.size, 2, none⟩ = some (.int .i64 num) := ship_s3 (tw := false) (px_sub P8 (List.sublist_cons_self _ _)); have P9 := ship_b5 P8 (.int .i64 ee) (.int .i64 ea) (.int .i64 eb) (.slice s5 el.length c5) (.int .i64 es); have hT3 : (((((w5.setCell ⟨wc.heap.size, 0, none⟩ (.int .i64 ee)).setCell ⟨wc.heap.size, 1, none⟩ (.int .i64 ea)).setCell ⟨wc.heap.size, 2, none⟩ (.int .i64 eb)).setCell ⟨wc.heap.size, 3, none⟩ (.slice s5 el.length c5)).setCell ⟨wc.heap.size, 4, none⟩ (.int .i64 es)).cell? ⟨P, 0, none⟩ = some (.slice (some ⟨A, 0, none⟩) 2 2) ∧ (((((w5.setCell ⟨wc.heap.size, 0, none⟩ (.int .i64 ee)).setCell ⟨wc.heap.size, 1, none⟩ (.int .i64 ea)).setCell ⟨wc.heap.size, 2, none⟩ (.int .i64 eb)).setCell ⟨wc.heap.size, 3, none⟩ (.slice s5 el.length c5)).setCell ⟨wc.heap.size, 4, none⟩ (.int .i64 es)).cell? ⟨A, 0, none⟩ = some (.pointer (some ⟨D false, 0, none⟩)) ∧ (((((w5.setCell ⟨wc.heap.size, 0, none⟩ (.int .i64 ee)).setCell ⟨wc.heap.size, 1, none⟩ (.int .i64 ea)).setCell ⟨wc.heap.size, 2, none⟩ (.int .i64 eb)).setCell ⟨wc.heap.size, 3, none⟩ (.slice s5 el.length c5)).setCell ⟨wc.heap.size, 4, none⟩ (.int .i64 es)).cell? ⟨W.heap.size, 2, none⟩ = some (.int .i64 num) := ship_s3 (tw := false) (px_sub P9 (List.sublist_cons_self _ _))))))
          go_wp2_with fail
          all_goals
            go_meet
            case rel => first | exact ⟨_, _, _, _, rfl, rfl, fun q hq => List.mem_append_right _ hq, el_mono HE7 (fun q hq => List.mem_append_left _ hq), px_new P7 [.int .i64 ee, .int .i64 ea, .int .i64 eb, .slice s5 el.length c5, .int .i64 es] 53⟩ | exact ⟨_, _, _, _, rfl, rfl, fun q hq => List.mem_append_right _ hq, el_mono HE7 (fun q hq => List.mem_append_left _ hq), P9⟩
        · replace qa : wc.cell? ⟨A, 1, none⟩ = some (.pointer (some ⟨D true, 0, none⟩)) := qa
          simp only [bi, if_pos, if_neg (show ¬ (false = true) by decide), if_neg (show ¬ (true = false) by decide)]
          go_region_held3 (fun V => V.cell? ⟨P, 0, none⟩ = some (.slice (some ⟨A, 0, none⟩) 2 2) ∧ V.cell? ⟨A, 1, none⟩ = some (.pointer (some ⟨D true, 0, none⟩)) ∧ V.cell? ⟨W.heap.size, 2, none⟩ = some (.int .i64 num)) (first | (with_reducible exact hS3) | (with_reducible exact hT3) | go_keep) ((first | (go_at_call 17; refine (hc5 _).mono ?_; rintro e w4 ⟨rfl, rfl⟩) | (go_at_call 21; first | (refine cd.mono ?_; rintro e w5 ⟨s5, c5, l5, rfl, P7, HE7⟩; have hS3 : w5.cell? ⟨P, 0, none⟩ = some (.slice (some ⟨A, 0, none⟩) 2 2) ∧ w5.cell? ⟨A, 1, none⟩ = some (.pointer (some ⟨D true, 0, none⟩)) ∧ w5.cell? ⟨W.heap.size, 2, none⟩ = some (.int .i64 num) := ship_s3 (tw := true) P7) | (refine ca.mono ?_; rintro e w5 ⟨s5, c5, l5, rfl, P8, HE7⟩; obtain ⟨g0, g1, g2, g3, g4, f0, f1, f2, f3, f4⟩ := ship_a5 P8; have hS3 : w5.cell? ⟨P, 0, none⟩ = some (.slice (some ⟨A, 0, none⟩) 2 2) ∧ w5.cell? ⟨A, 1, none⟩ = some (.pointer (some ⟨D true, 0, none⟩)) ∧ w5.cell? ⟨W.heap.size, 2, none⟩ = some (.int .i64 num) := ship_s3 (tw := true) (px_sub P8 (List.sublist_cons_self _ _)); have P9 := ship_b5 P8 (.int .i64 ee) (.int .i64 ea) (.int .i64 eb) (.slice s5 el.length c5) (.int .i64 es); have hT3 : (((((w5.setCell ⟨wc.heap.size, 0, none⟩ (.int .i64 ee)).setCell ⟨wc.heap.size, 1, none⟩ (.int .i64 ea)).setCell ⟨wc.heap.size, 2, none⟩ (.int .i64 eb)).setCell ⟨wc.heap.size, 3, none⟩ (.slice s5 el.length c5)).setCell ⟨wc.heap.size, 4, none⟩ (.int .i64 es)).cell? ⟨P, 0, none⟩ = some (.slice (some ⟨A, 0, none⟩) 2 2) ∧ (((((w5.setCell ⟨wc.heap.size, 0, none⟩ (.int .i64 ee)).setCell ⟨wc.heap.size, 1, none⟩ (.int .i64 ea)).setCell ⟨wc.heap.size, 2, none⟩ (.int .i64 eb)).setCell ⟨wc.heap.size, 3, none⟩ (.slice s5 el.length c5)).setCell ⟨wc.heap.size, 4, none⟩ (.int .i64 es)).cell? ⟨A, 1, none⟩ = some (.pointer (some ⟨D true, 0, none⟩)) ∧ (((((w5.setCell ⟨wc.heap.size, 0, none⟩ (.int .i64 ee)).setCell ⟨wc.heap.size, 1, none⟩ (.int .i64 ea)).setCell ⟨wc.heap.size, 2, none⟩ (.int .i64 eb)).setCell ⟨wc.heap.size, 3, none⟩ (.slice s5 el.length c5)).setCell ⟨wc.heap.size, 4, none⟩ (.int .i64 es)).cell? ⟨W.heap.size, 2, none⟩ = some (.int .i64 num) := ship_s3 (tw := true) (px_sub P9 (List.sublist_cons_self _ _))))))
          go_wp2_with fail
          all_goals
            go_meet
            case rel => first | exact ⟨_, _, _, _, rfl, rfl, fun q hq => List.mem_append_right _ hq, el_mono HE7 (fun q hq => List.mem_append_left _ hq), px_new P7 [.int .i64 ee, .int .i64 ea, .int .i64 eb, .slice s5 el.length c5, .int .i64 es] 53⟩ | exact ⟨_, _, _, _, rfl, rfl, fun q hq => List.mem_append_right _ hq, el_mono HE7 (fun q hq => List.mem_append_left _ hq), P9⟩
      case rest =>
        obtain ⟨g, s', c', im', rfl, rfl, him, hel, P6⟩ := hcut
        clear cd ca q0 q1 q2 qa b0 b2 P5
        have q1 := kr_cell P6.kr 4 rfl 1 _ rfl
        have g0 := kr_cell P6.kr 2 rfl 0 _ rfl
        have g1 := kr_cell P6.kr 2 rfl 1 _ rfl
        have g2 := kr_cell P6.kr 2 rfl 2 _ rfl
        have g3 := kr_cell P6.kr 2 rfl 3 _ rfl
        have g4 := kr_cell P6.kr 2 rfl 4 _ rfl
        have HP : Hid (PX w _ D p.n _ im' lv) := P6
        have HE : Hid (EL im' (.slice s' el.length c') el) := hel
        clear P6 hel
        by_cases he : er = 0
        · by_cases hn : n < 60
          · subst he
            have hnn : (n : Int) < 60 := by omega
            go_wp2
            have hw : IntKind.i64.wrap (1 - bi tw) = bi (!tw) := by cases tw <;> rfl
            have PN : PX w ((wc.alloc (.cells #[.int .i64 (bi !tw), .bool true, .int .i64 ee, .int .i64 ea, .int .i64 eb, .slice s' el.length c', .int .i64 es, .int .i64 0, .bool false, .int .i64 0] 80)).drew) D p.n ([(wc.heap.size, lc1 ⟨!tw, true, ⟨ee, ea, eb, el, es⟩, (0, false, 0)⟩ (.slice s' el.length c')), (g, [.int .i64 ee, .int .i64 ea, .int .i64 eb, .slice s' el.length c', .int .i64 es]), (W.heap.size, [.int .i64 3, .int .i64 who, .int .i64 num]), (P, [.slice (some ⟨A, 0, none⟩) 2 2, .slice sx n c, .int .i64 p.k]), (A, [.pointer (some ⟨D false, 0, none⟩), .pointer (some ⟨D true, 0, none⟩)])] ++ wx) im' lv := px_call (px_new HP.out (lc1 ⟨!tw, true, ⟨ee, ea, eb, el, es⟩, (0, false, 0)⟩ (.slice s' el.length c')) 80) (bw_drew (Below.refl _ _))
            have HKW := px_wx PN
            have qq1 : (wc.alloc (.cells #[.int .i64 (bi !tw), .bool true, .int .i64 ee, .int .i64 ea, .int .i64 eb, .slice s' el.length c', .int .i64 es, .int .i64 0, .bool false, .int .i64 0] 80)).cell? ⟨P, 1, none⟩ = some (.slice sx n c) := kr_cell (px_new HP.out (lc1 ⟨!tw, true, ⟨ee, ea, eb, el, es⟩, (0, false, 0)⟩ (.slice s' el.length c')) 80).kr 5 rfl 1 _ rfl
            have qq2 : (wc.alloc (.cells #[.int .i64 (bi !tw), .bool true, .int .i64 ee, .int .i64 ea, .int .i64 eb, .slice s' el.length c', .int .i64 es, .int .i64 0, .bool false, .int .i64 0] 80)).drew.cell? ⟨P, 1, none⟩ = some (.slice sx n c) := kr_cell PN.kr 5 rfl 1 _ rfl
            have hSR : SrcV ((wc.alloc (.cells #[.int .i64 (bi !tw), .bool true, .int .i64 ee, .int .i64 ea, .int .i64 eb, .slice s' el.length c', .int .i64 es, .int .i64 0, .bool false, .int .i64 0] 80)).drew) (some ⟨wc.heap.size, 0, none⟩) (lc1 ⟨!tw, true, ⟨ee, ea, eb, el, es⟩, (0, false, 0)⟩ (.slice s' el.length c')) := srcV_row (m := 10) PN.kr (List.mem_cons_of_mem _ (List.mem_cons_of_mem _ List.mem_cons_self)) rfl
            have PN : Hid (PX w _ D _ _ _ _) := PN
            have HKW : Hid (KR w _ _) := HKW
            have HSR : Hid (SrcV _ _ _) := hSR
            clear hSR
            go_region_law ((refine step_appendR _ _ 33 80 (.agg #[.int .i64 0, .bool false, .int .i64 0, .int .i64 0, .int .i64 0, .slice none 0 0, .int .i64 0, .int .i64 0, .bool false, .int .i64 0]) 10 96 HKW.out HWS.out (some ⟨wc.heap.size, 0, none⟩) 1 1 (lc1 ⟨!tw, true, ⟨ee, ea, eb, el, es⟩, (0, false, 0)⟩ (.slice s' el.length c')) (by omega) HSR.out rfl (lc1_one _ rfl) (by unfold maxLen; omega) (by omega) Try.underlying33 ltr_info rfl (by omega) rfl rfl (by rfl) (by rfl) ?_; intro v' W' wx' hw' H2 hz; obtain ⟨s4, c4, rfl, -, -⟩ := ws_form hw'; have P6 := px_xw PN.out H2; have q0 := kr_cell P6.kr 5 rfl 1 _ rfl; have q3 := kr_frozen P6.kr 5 rfl 1 (by show 1 < 3; omega); have P6 : Hid (PX w _ D _ _ _ _) := P6; have hw' : Hid (WS _ _ _ _ _) := hw'; clear H2))
            all_goals
              go_wp2_with fail
              refine bodyPost_end (results_none rfl _ _ _) rfl ⟨rfl, ?_⟩
              have hL := HLn.out
              subst hL
              have hQ := HQ'.out
              rw [if_pos ⟨trivial, hn⟩] at hQ
              rw [hQ]
              exact pl_add (ys := [_, _, _]) H.out him P6.out hw'.out ⟨HE.out, HB.out⟩ hn
          · have hnn : ¬ ((n : Int) < 60) := by omega
            subst he
            have HQ2 : Hid (q' = p) := by have hQ := HQ'.out; rw [if_neg (fun h => hn h.2)] at hQ; exact hQ
            clear HQ' hn HWS
            go_wp2
            refine bodyPost_end (results_none rfl _ _ _) rfl ⟨rfl, ?_⟩
            rw [HQ2.out]
            have hL := HLn.out
            subst hL
            exact pl_keep H.out him (ys := [_, _]) HP.out
        · have hE : decide (er = 0) = false := by simp [he]
          have HQ2 : Hid (q' = p) := by have hQ := HQ'.out; rw [if_neg (fun h => he h.1)] at hQ; exact hQ
          clear HQ' HWS
          go_wp2
          refine bodyPost_end (results_none rfl _ _ _) rfl ⟨rfl, ?_⟩
          rw [HQ2.out]
          have hL := HLn.out
          subst hL
          exact pl_keep H.out him (ys := [_, _]) HP.out
    · go_upto_region 13 with fail
      go_cut [6, 7] (fun v6 v7 wx' => ∃ g s' c' im', v6 = .pointer (some ⟨g, 0, none⟩) ∧ v7 = .int .i64 er ∧ (∀ q ∈ im, q ∈ im') ∧ EL im' (.slice s' el.length c') el ∧ PX w wx' D p.n ((g, [.int .i64 ee, .int .i64 ea, .int .i64 eb, .slice s' el.length c', .int .i64 es]) :: (W.heap.size, [.int .i64 4, .int .i64 who, .int .i64 num]) :: ([] ++ (P, [.slice (some ⟨A, 0, none⟩) 2 2, .slice sx n c, .int .i64 p.k]) :: (A, [.pointer (some ⟨D false, 0, none⟩), .pointer (some ⟨D true, 0, none⟩)]) :: wx)) im' lv)
      case first =>
        clear HB
        cases tw
        · replace qa : wc.cell? ⟨A, 0, none⟩ = some (.pointer (some ⟨D false, 0, none⟩)) := qa
          simp only [bi, if_pos, if_neg (show ¬ (false = true) by decide), if_neg (show ¬ (true = false) by decide)]
          go_region_held3 (fun V => V.cell? ⟨P, 0, none⟩ = some (.slice (some ⟨A, 0, none⟩) 2 2) ∧ V.cell? ⟨A, 0, none⟩ = some (.pointer (some ⟨D false, 0, none⟩)) ∧ V.cell? ⟨W.heap.size, 2, none⟩ = some (.int .i64 num)) (first | (with_reducible exact hS3) | (with_reducible exact hT3) | go_keep) ((first | (go_at_call 17; refine (hc5 _).mono ?_; rintro e w4 ⟨rfl, rfl⟩) | (go_at_call 21; first | (refine cd.mono ?_; rintro e w5 ⟨s5, c5, l5, rfl, P7, HE7⟩; have hS3 : w5.cell? ⟨P, 0, none⟩ = some (.slice (some ⟨A, 0, none⟩) 2 2) ∧ w5.cell? ⟨A, 0, none⟩ = some (.pointer (some ⟨D false, 0, none⟩)) ∧ w5.cell? ⟨W.heap.size, 2, none⟩ = some (.int .i64 num) := ship_s3 (tw := false) P7) | (refine ca.mono ?_; rintro e w5 ⟨s5, c5, l5, rfl, P8, HE7⟩; obtain ⟨g0, g1, g2, g3, g4, f0, f1, f2, f3, f4⟩ := ship_a5 P8; have hS3 : w5.cell? ⟨P, 0, none⟩ = some (.slice (some ⟨A, 0, none⟩) 2 2) ∧ w5.cell? ⟨A, 0, none⟩ = some (.pointer (some ⟨D false, 0, none⟩)) ∧ w5.cell? ⟨W.heap.size, 2, none⟩ = some (.int .i64 num) := ship_s3 (tw := false) (px_sub P8 (List.sublist_cons_self _ _)); have P9 := ship_b5 P8 (.int .i64 ee) (.int .i64 ea) (.int .i64 eb) (.slice s5 el.length c5) (.int .i64 es); have hT3 : (((((w5.setCell ⟨wc.heap.size, 0, none⟩ (.int .i64 ee)).setCell ⟨wc.heap.size, 1, none⟩ (.int .i64 ea)).setCell ⟨wc.heap.size, 2, none⟩ (.int .i64 eb)).setCell ⟨wc.heap.size, 3, none⟩ (.slice s5 el.length c5)).setCell ⟨wc.heap.size, 4, none⟩ (.int .i64 es)).cell? ⟨P, 0, none⟩ = some (.slice (some ⟨A, 0, none⟩) 2 2) ∧ (((((w5.setCell ⟨wc.heap.size, 0, none⟩ (.int .i64 ee)).setCell ⟨wc.heap.size, 1, none⟩ (.int .i64 ea)).setCell ⟨wc.heap.size, 2, none⟩ (.int .i64 eb)).setCell ⟨wc.heap.size, 3, none⟩ (.slice s5 el.length c5)).setCell ⟨wc.heap.size, 4, none⟩ (.int .i64 es)).cell? ⟨A, 0, none⟩ = some (.pointer (some ⟨D false, 0, none⟩)) ∧ (((((w5.setCell ⟨wc.heap.size, 0, none⟩ (.int .i64 ee)).setCell ⟨wc.heap.size, 1, none⟩ (.int .i64 ea)).setCell ⟨wc.heap.size, 2, none⟩ (.int .i64 eb)).setCell ⟨wc.heap.size, 3, none⟩ (.slice s5 el.length c5)).setCell ⟨wc.heap.size, 4, none⟩ (.int .i64 es)).cell? ⟨W.heap.size, 2, none⟩ = some (.int .i64 num) := ship_s3 (tw := false) (px_sub P9 (List.sublist_cons_self _ _))))))
          go_wp2_with fail
          all_goals
            go_meet
            case rel => first | exact ⟨_, _, _, _, rfl, rfl, fun q hq => List.mem_append_right _ hq, el_mono HE7 (fun q hq => List.mem_append_left _ hq), px_new P7 [.int .i64 ee, .int .i64 ea, .int .i64 eb, .slice s5 el.length c5, .int .i64 es] 53⟩ | exact ⟨_, _, _, _, rfl, rfl, fun q hq => List.mem_append_right _ hq, el_mono HE7 (fun q hq => List.mem_append_left _ hq), P9⟩
        · replace qa : wc.cell? ⟨A, 1, none⟩ = some (.pointer (some ⟨D true, 0, none⟩)) := qa
          simp only [bi, if_pos, if_neg (show ¬ (false = true) by decide), if_neg (show ¬ (true = false) by decide)]
          go_region_held3 (fun V => V.cell? ⟨P, 0, none⟩ = some (.slice (some ⟨A, 0, none⟩) 2 2) ∧ V.cell? ⟨A, 1, none⟩ = some (.pointer (some ⟨D true, 0, none⟩)) ∧ V.cell? ⟨W.heap.size, 2, none⟩ = some (.int .i64 num)) (first | (with_reducible exact hS3) | (with_reducible exact hT3) | go_keep) ((first | (go_at_call 17; refine (hc5 _).mono ?_; rintro e w4 ⟨rfl, rfl⟩) | (go_at_call 21; first | (refine cd.mono ?_; rintro e w5 ⟨s5, c5, l5, rfl, P7, HE7⟩; have hS3 : w5.cell? ⟨P, 0, none⟩ = some (.slice (some ⟨A, 0, none⟩) 2 2) ∧ w5.cell? ⟨A, 1, none⟩ = some (.pointer (some ⟨D true, 0, none⟩)) ∧ w5.cell? ⟨W.heap.size, 2, none⟩ = some (.int .i64 num) := ship_s3 (tw := true) P7) | (refine ca.mono ?_; rintro e w5 ⟨s5, c5, l5, rfl, P8, HE7⟩; obtain ⟨g0, g1, g2, g3, g4, f0, f1, f2, f3, f4⟩ := ship_a5 P8; have hS3 : w5.cell? ⟨P, 0, none⟩ = some (.slice (some ⟨A, 0, none⟩) 2 2) ∧ w5.cell? ⟨A, 1, none⟩ = some (.pointer (some ⟨D true, 0, none⟩)) ∧ w5.cell? ⟨W.heap.size, 2, none⟩ = some (.int .i64 num) := ship_s3 (tw := true) (px_sub P8 (List.sublist_cons_self _ _)); have P9 := ship_b5 P8 (.int .i64 ee) (.int .i64 ea) (.int .i64 eb) (.slice s5 el.length c5) (.int .i64 es); have hT3 : (((((w5.setCell ⟨wc.heap.size, 0, none⟩ (.int .i64 ee)).setCell ⟨wc.heap.size, 1, none⟩ (.int .i64 ea)).setCell ⟨wc.heap.size, 2, none⟩ (.int .i64 eb)).setCell ⟨wc.heap.size, 3, none⟩ (.slice s5 el.length c5)).setCell ⟨wc.heap.size, 4, none⟩ (.int .i64 es)).cell? ⟨P, 0, none⟩ = some (.slice (some ⟨A, 0, none⟩) 2 2) ∧ (((((w5.setCell ⟨wc.heap.size, 0, none⟩ (.int .i64 ee)).setCell ⟨wc.heap.size, 1, none⟩ (.int .i64 ea)).setCell ⟨wc.heap.size, 2, none⟩ (.int .i64 eb)).setCell ⟨wc.heap.size, 3, none⟩ (.slice s5 el.length c5)).setCell ⟨wc.heap.size, 4, none⟩ (.int .i64 es)).cell? ⟨A, 1, none⟩ = some (.pointer (some ⟨D true, 0, none⟩)) ∧ (((((w5.setCell ⟨wc.heap.size, 0, none⟩ (.int .i64 ee)).setCell ⟨wc.heap.size, 1, none⟩ (.int .i64 ea)).setCell ⟨wc.heap.size, 2, none⟩ (.int .i64 eb)).setCell ⟨wc.heap.size, 3, none⟩ (.slice s5 el.length c5)).setCell ⟨wc.heap.size, 4, none⟩ (.int .i64 es)).cell? ⟨W.heap.size, 2, none⟩ = some (.int .i64 num) := ship_s3 (tw := true) (px_sub P9 (List.sublist_cons_self _ _))))))
          go_wp2_with fail
          all_goals
            go_meet
            case rel => first | exact ⟨_, _, _, _, rfl, rfl, fun q hq => List.mem_append_right _ hq, el_mono HE7 (fun q hq => List.mem_append_left _ hq), px_new P7 [.int .i64 ee, .int .i64 ea, .int .i64 eb, .slice s5 el.length c5, .int .i64 es] 53⟩ | exact ⟨_, _, _, _, rfl, rfl, fun q hq => List.mem_append_right _ hq, el_mono HE7 (fun q hq => List.mem_append_left _ hq), P9⟩
      case rest =>
        obtain ⟨g, s', c', im', rfl, rfl, him, hel, P6⟩ := hcut
        clear cd ca q0 q1 q2 qa b0 b2 P5
        have q1 := kr_cell P6.kr 4 rfl 1 _ rfl
        have g0 := kr_cell P6.kr 2 rfl 0 _ rfl
        have g1 := kr_cell P6.kr 2 rfl 1 _ rfl
        have g2 := kr_cell P6.kr 2 rfl 2 _ rfl
        have g3 := kr_cell P6.kr 2 rfl 3 _ rfl
        have g4 := kr_cell P6.kr 2 rfl 4 _ rfl
        have HP : Hid (PX w _ D p.n _ im' lv) := P6
        have HE : Hid (EL im' (.slice s' el.length c') el) := hel
        clear P6 hel
        by_cases he : er = 0
        · by_cases hn : n < 60
          · subst he
            have hnn : (n : Int) < 60 := by omega
            go_wp2
            have hw : IntKind.i64.wrap (1 - bi tw) = bi (!tw) := by cases tw <;> rfl
            have PN : PX w ((wc.alloc (.cells #[.int .i64 (bi !tw), .bool true, .int .i64 ee, .int .i64 ea, .int .i64 eb, .slice s' el.length c', .int .i64 es, .int .i64 0, .bool false, .int .i64 0] 80)).drew) D p.n ([(wc.heap.size, lc1 ⟨!tw, true, ⟨ee, ea, eb, el, es⟩, (0, false, 0)⟩ (.slice s' el.length c')), (g, [.int .i64 ee, .int .i64 ea, .int .i64 eb, .slice s' el.length c', .int .i64 es]), (W.heap.size, [.int .i64 4, .int .i64 who, .int .i64 num]), (P, [.slice (some ⟨A, 0, none⟩) 2 2, .slice sx n c, .int .i64 p.k]), (A, [.pointer (some ⟨D false, 0, none⟩), .pointer (some ⟨D true, 0, none⟩)])] ++ wx) im' lv := px_call (px_new HP.out (lc1 ⟨!tw, true, ⟨ee, ea, eb, el, es⟩, (0, false, 0)⟩ (.slice s' el.length c')) 80) (bw_drew (Below.refl _ _))
            have HKW := px_wx PN
            have qq1 : (wc.alloc (.cells #[.int .i64 (bi !tw), .bool true, .int .i64 ee, .int .i64 ea, .int .i64 eb, .slice s' el.length c', .int .i64 es, .int .i64 0, .bool false, .int .i64 0] 80)).cell? ⟨P, 1, none⟩ = some (.slice sx n c) := kr_cell (px_new HP.out (lc1 ⟨!tw, true, ⟨ee, ea, eb, el, es⟩, (0, false, 0)⟩ (.slice s' el.length c')) 80).kr 5 rfl 1 _ rfl
            have qq2 : (wc.alloc (.cells #[.int .i64 (bi !tw), .bool true, .int .i64 ee, .int .i64 ea, .int .i64 eb, .slice s' el.length c', .int .i64 es, .int .i64 0, .bool false, .int .i64 0] 80)).drew.cell? ⟨P, 1, none⟩ = some (.slice sx n c) := kr_cell PN.kr 5 rfl 1 _ rfl
            have hSR : SrcV ((wc.alloc (.cells #[.int .i64 (bi !tw), .bool true, .int .i64 ee, .int .i64 ea, .int .i64 eb, .slice s' el.length c', .int .i64 es, .int .i64 0, .bool false, .int .i64 0] 80)).drew) (some ⟨wc.heap.size, 0, none⟩) (lc1 ⟨!tw, true, ⟨ee, ea, eb, el, es⟩, (0, false, 0)⟩ (.slice s' el.length c')) := srcV_row (m := 10) PN.kr (List.mem_cons_of_mem _ (List.mem_cons_of_mem _ List.mem_cons_self)) rfl
            have PN : Hid (PX w _ D _ _ _ _) := PN
            have HKW : Hid (KR w _ _) := HKW
            have HSR : Hid (SrcV _ _ _) := hSR
            clear hSR
            go_region_law ((refine step_appendR _ _ 33 80 (.agg #[.int .i64 0, .bool false, .int .i64 0, .int .i64 0, .int .i64 0, .slice none 0 0, .int .i64 0, .int .i64 0, .bool false, .int .i64 0]) 10 96 HKW.out HWS.out (some ⟨wc.heap.size, 0, none⟩) 1 1 (lc1 ⟨!tw, true, ⟨ee, ea, eb, el, es⟩, (0, false, 0)⟩ (.slice s' el.length c')) (by omega) HSR.out rfl (lc1_one _ rfl) (by unfold maxLen; omega) (by omega) Try.underlying33 ltr_info rfl (by omega) rfl rfl (by rfl) (by rfl) ?_; intro v' W' wx' hw' H2 hz; obtain ⟨s4, c4, rfl, -, -⟩ := ws_form hw'; have P6 := px_xw PN.out H2; have q0 := kr_cell P6.kr 5 rfl 1 _ rfl; have q3 := kr_frozen P6.kr 5 rfl 1 (by show 1 < 3; omega); have P6 : Hid (PX w _ D _ _ _ _) := P6; have hw' : Hid (WS _ _ _ _ _) := hw'; clear H2))
            all_goals
              go_wp2_with fail
              refine bodyPost_end (results_none rfl _ _ _) rfl ⟨rfl, ?_⟩
              have hL := HLn.out
              subst hL
              have hQ := HQ'.out
              rw [if_pos ⟨trivial, hn⟩] at hQ
              rw [hQ]
              exact pl_add (ys := [_, _, _]) H.out him P6.out hw'.out ⟨HE.out, HB.out⟩ hn
          · have hnn : ¬ ((n : Int) < 60) := by omega
            subst he
            have HQ2 : Hid (q' = p) := by have hQ := HQ'.out; rw [if_neg (fun h => hn h.2)] at hQ; exact hQ
            clear HQ' hn HWS
            go_wp2
            refine bodyPost_end (results_none rfl _ _ _) rfl ⟨rfl, ?_⟩
            rw [HQ2.out]
            have hL := HLn.out
            subst hL
            exact pl_keep H.out him (ys := [_, _]) HP.out
        · have hE : decide (er = 0) = false := by simp [he]
          have HQ2 : Hid (q' = p) := by have hQ := HQ'.out; rw [if_neg (fun h => he h.1)] at hQ; exact hQ
          clear HQ' HWS
          go_wp2
          refine bodyPost_end (results_none rfl _ _ _) rfl ⟨rfl, ?_⟩
          rw [HQ2.out]
          have hL := HLn.out
          subst hL
          exact pl_keep H.out him (ys := [_, _]) HP.out

end
end Go.Proofs.Ytofpkmfjigjlhaa.Own
