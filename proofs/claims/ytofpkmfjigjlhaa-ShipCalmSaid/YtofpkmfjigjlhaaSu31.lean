/- One step of a play: append, ship. No conditions beside those in each theorem. -/
import Derived.Test.YtofpkmfjigjlhaaSt31
namespace Go.Proofs.Ytofpkmfjigjlhaa.Own
open Go.RowKit
set_option linter.unusedSimpArgs false
set_option linter.unusedVariables false
section
variable {w W : World} {P A : Nat} {D : Bool → Nat} {p : PY} {im : List (Nat × List Value)} {lv : Bool → Value} {wv : Value} {wx : List (Nat × List Value)} {us : List Value}
theorem pl_step1 {im' : List (Nat × List Value)} {lv' : Bool → Value} {n' : Bool → SN} {ys : List (Nat × List Value)} {W' : World} {k' : Int} (H : PL w W P A D p [] im lv wv wx us) (him : ∀ q ∈ im, q ∈ im')
    (P6 : PX w W' D n' (ys ++ (P, [.slice (some ⟨A, 0, none⟩) 2 2, wv, .int .i64 k']) :: (A, [.pointer (some ⟨D false, 0, none⟩), .pointer (some ⟨D true, 0, none⟩)]) :: wx) im' lv') :
    PLE w W' P A D { p with n := n', k := k' } im :=
  ⟨im', lv', wv, wx, us, him, px_sub P6 (List.sublist_append_right _ _), H.ws, H.ul, fun j u x hu hx => ⟨el_mono (H.ue j u x hu hx).1 him, (H.ue j u x hu hx).2⟩, H.wl⟩
theorem ship_bd {n : SN} (h : NB n) (most : Int) : (sShip n most).1.l.length ≤ 4096 ∧ ∀ y ∈ (sShip n most).1.l, y.2.length ≤ 60000 := by
  unfold sShip
  split
  · simp
  · split
    · simp
    · refine ⟨?_, fun y hy => h.data y (List.mem_of_mem_drop (List.mem_of_mem_take hy))⟩
      have := h.len
      simp only [List.length_take, List.length_drop]
      omega
theorem ship_s3 {n : Bool → SN} {B : Nat} {v w1 w2 k0 k1 k2 : Value} {tw : Bool} {wx : List (Nat × List Value)} (h : PX w W D n ((B, [k0, k1, k2]) :: ([] ++ (P, [v, w1, w2]) :: (A, [.pointer (some ⟨D false, 0, none⟩), .pointer (some ⟨D true, 0, none⟩)]) :: wx)) im lv) :
    W.cell? ⟨P, 0, none⟩ = some v ∧ W.cell? ⟨A, (bi tw).toNat, none⟩ = some (.pointer (some ⟨D tw, 0, none⟩)) ∧ W.cell? ⟨B, 2, none⟩ = some k2 :=
  ⟨kr_cell h.kr 3 rfl 0 _ rfl, by cases tw <;> exact kr_cell h.kr 4 rfl _ _ rfl, kr_cell h.kr 2 rfl 2 _ rfl⟩
theorem app_s3 {n : Bool → SN} {x1 x2 : Nat × List Value} {v w1 w2 : Value} {tw : Bool} {wx : List (Nat × List Value)} (h : PX w W D n (x1 :: x2 :: ([] ++ (P, [v, w1, w2]) :: (A, [.pointer (some ⟨D false, 0, none⟩), .pointer (some ⟨D true, 0, none⟩)]) :: wx)) im lv) :
    W.cell? ⟨P, 0, none⟩ = some v ∧ W.cell? ⟨A, (bi tw).toNat, none⟩ = some (.pointer (some ⟨D tw, 0, none⟩)) ∧ W.cell? ⟨P, 2, none⟩ = some w2 :=
  ⟨kr_cell h.kr 4 rfl 0 _ rfl, by cases tw <;> exact kr_cell h.kr 5 rfl _ _ rfl, kr_cell h.kr 4 rfl 2 _ rfl⟩
theorem ship_a5 {n : Bool → SN} {xs : List (Nat × List Value)} {g : Nat} {a b c d e : Value} (h : PX w W D n ((g, [a, b, c, d, e]) :: xs) im lv) :
    W.cell? ⟨g, 0, none⟩ = some a ∧ W.cell? ⟨g, 1, none⟩ = some b ∧ W.cell? ⟨g, 2, none⟩ = some c ∧ W.cell? ⟨g, 3, none⟩ = some d ∧ W.cell? ⟨g, 4, none⟩ = some e ∧ W.frozen? ⟨g, 0, none⟩ = false ∧ W.frozen? ⟨g, 1, none⟩ = false ∧ W.frozen? ⟨g, 2, none⟩ = false ∧ W.frozen? ⟨g, 3, none⟩ = false ∧ W.frozen? ⟨g, 4, none⟩ = false := by
  have H := (h.kr.rows (g, [a, b, c, d, e]) (by simp)).2.2.2
  exact ⟨kr_cell h.kr 2 rfl 0 _ rfl, kr_cell h.kr 2 rfl 1 _ rfl, kr_cell h.kr 2 rfl 2 _ rfl, kr_cell h.kr 2 rfl 3 _ rfl, kr_cell h.kr 2 rfl 4 _ rfl, (H 0 (by simp)).2, (H 1 (by simp)).2, (H 2 (by simp)).2, (H 3 (by simp)).2, (H 4 (by simp)).2⟩
theorem ship_b5 {n : Bool → SN} {xs : List (Nat × List Value)} {g : Nat} {a b c d e : Value} (h : PX w W D n ((g, [a, b, c, d, e]) :: xs) im lv) (a' b' c' d' e' : Value) :
    PX w (((((W.setCell ⟨g, 0, none⟩ a').setCell ⟨g, 1, none⟩ b').setCell ⟨g, 2, none⟩ c').setCell ⟨g, 3, none⟩ d').setCell ⟨g, 4, none⟩ e') D n ((g, [a', b', c', d', e']) :: xs) im lv :=
  ⟨kr_fset (kr_fset (kr_fset (kr_fset (kr_fset h.kr 2 rfl 0 (by simp) a' _ rfl) 2 rfl 1 (by simp) b' _ rfl) 2 rfl 2 (by simp) c' _ rfl) 2 rfl 3 (by simp) d' _ rfl) 2 rfl 4 (by simp) e' _ rfl, h.el, h.nb⟩
set_option maxRecDepth 100000 in
set_option maxHeartbeats 16000000 in
theorem step_app (h : PL w W P A D p [] im lv wv wx us) (who num : Int) (hwho : (Lit.int .i64 who).wf = true) (hnum : (Lit.int .i64 num).wf = true) (kind : Int) (hk : kind = 0 ∨ kind = 1 ∨ kind = 2) (hk0 : 0 ≤ p.k) (hk1 : p.k ≤ 100000) :
    Calls Try.prog 9 #[.pointer (some ⟨P, 0, none⟩), .agg #[.int .i64 kind, .int .i64 who, .int .i64 num]] W fun e W' => e = .returned (.tuple #[]) ∧ PLE w W' P A D (pyStep p kind (two who) num) im := by
  obtain ⟨sx, c, rfl, hc, hform⟩ := ws_form h.ws
  have hwl := h.wl
  have hc2 : ∀ V, Calls Try.prog 17 #[.int .i64 who, .int .i64 2] V fun e W' => e = .returned (.int .i64 (bi (two who))) ∧ W' = V := fun V => by
    rw [← two_bi]; exact cntx_k who hwho 2 (by omega) (by omega)
  have hc5 : ∀ V, Calls Try.prog 17 #[.int .i64 num, .int .i64 5] V fun e W' => e = .returned (.int .i64 (scount num 5)) ∧ W' = V := fun V => cntx_k num hnum 5 (by omega) (by omega)
  have hcl : 0 < p.way.length → ∀ V, Calls Try.prog 17 #[.int .i64 num, .int .i64 (p.way.length : Int)] V fun e W' => e = .returned (.int .i64 (pat p num)) ∧ W' = V := fun h0 V => by
    rw [show pat p num = scount num p.way.length from if_neg (by omega)]; exact cntx_k num hnum _ (by omega) (by omega)
  have hpat : Hid (0 < p.way.length → 0 ≤ pat p num ∧ pat p num < p.way.length) := fun h0 => by
    rw [show pat p num = scount num p.way.length from if_neg (by omega)]; exact scount_lt _ _ (by omega)
  have hp0 : ¬ 0 < p.way.length → pat p num = 0 := fun h0 => if_pos (by omega)
  have H : Hid (PL w W P A D p [] im lv _ wx us) := h
  have PB : Hid (PX w (W.alloc (.cells #[.int .i64 kind, .int .i64 who, .int .i64 num] 28)) D p.n ((W.heap.size, [.int .i64 kind, .int .i64 who, .int .i64 num]) :: ([] ++ (P, [.slice (some ⟨A, 0, none⟩) 2 2, .slice sx p.way.length c, .int .i64 p.k]) :: (A, [.pointer (some ⟨D false, 0, none⟩), .pointer (some ⟨D true, 0, none⟩)]) :: wx)) im lv) := px_new h.px [.int .i64 kind, .int .i64 who, .int .i64 num] 28
  have p1 := kr_cell PB.out.kr 3 rfl 1 _ rfl
  obtain ⟨q', hq'⟩ : ∃ q', q' = pyStep p kind (two who) num := ⟨_, rfl⟩
  rw [← hq']
  have HQ : Hid (q' = _) := hq'
  generalize htw : two who = tw at *
  generalize hat : pat p num = at_ at *
  generalize hLn : p.way.length = n at *
  have HLn : Hid (p.way.length = n) := hLn
  have HK : Hid (kind = 0 ∨ kind = 1 ∨ kind = 2) := hk
  have HAT : Hid (pat p num = at_) := hat
  clear h hLn htw hat hform hq' hk
  go_enter Try.func9, Try.ntmps9
  go_upto_if 16 with (go_at_call 17; refine (hc2 _).mono ?_; rintro e w4 ⟨rfl, rfl⟩)
  have PV := PB.out
  generalize (W.alloc (.cells #[.int .i64 kind, .int .i64 who, .int .i64 num] 28)) = V at *
  have b0 : V.cell? ⟨W.heap.size, 0, none⟩ = some (.int .i64 kind) := kr_cell PV.kr 2 rfl 0 _ rfl
  have b2 : V.cell? ⟨W.heap.size, 2, none⟩ = some (.int .i64 num) := kr_cell PV.kr 2 rfl 2 _ rfl
  replace p1 := kr_cell PV.kr 3 rfl 1 _ rfl
  clear PV hc2
  go_cut [5] (fun v5 wx' => v5 = .int .i64 at_ ∧ PX w wx' D p.n ((W.heap.size, [.int .i64 kind, .int .i64 who, .int .i64 num]) :: ([] ++ (P, [.slice (some ⟨A, 0, none⟩) 2 2, .slice sx n c, .int .i64 p.k]) :: (A, [.pointer (some ⟨D false, 0, none⟩), .pointer (some ⟨D true, 0, none⟩)]) :: wx)) im lv)
  case first =>
    by_cases hpos : 0 < n
    · have hposi : (0 : Int) < (n : Int) := by omega
      have hcn := hcl hpos
      go_wp2
      go_still_tail 7, (by kernel_rfl)
      go_wp2_with (go_at_call 17; refine (hcn _).mono ?_; rintro e w4 ⟨rfl, rfl⟩)
      go_meet
      case rel => exact ⟨rfl, px_call PB.out (bw_drew (Below.refl _ _))⟩
    · have h0 := hp0 hpos
      have hn0 : n = 0 := by omega
      subst hn0
      subst h0
      go_wp2
      go_meet
      case rel => exact ⟨rfl, PB.out⟩
  case rest =>
    obtain ⟨rfl, P5⟩ := hcut
    clear PB hcl hp0 b0 b2 p1
    have b0 : wc.cell? ⟨W.heap.size, 0, none⟩ = some (.int .i64 kind) := kr_cell P5.kr 2 rfl 0 _ rfl
    have b2 : wc.cell? ⟨W.heap.size, 2, none⟩ = some (.int .i64 num) := kr_cell P5.kr 2 rfl 2 _ rfl
    have q0 := kr_cell P5.kr 3 rfl 0 _ rfl
    have q1 := kr_cell P5.kr 3 rfl 1 _ rfl
    have q2 := kr_cell P5.kr 3 rfl 2 _ rfl
    have qa : wc.cell? ⟨A, (bi tw).toNat, none⟩ = some (.pointer (some ⟨D tw, 0, none⟩)) := by cases tw <;> exact kr_cell P5.kr 4 rfl _ _ rfl
    have P5 : Hid (PX w wc D p.n _ im lv) := P5
    have hQ2 : q' = pyApp p tw := by
      have hQ := HQ.out
      have hk := HK.out
      unfold pyStep at hQ
      rw [if_pos hk] at hQ
      exact hQ
    have HQ' : Hid (q' = _) := hQ2
    clear HQ hQ2
    have f2 := kr_frozen P5.out.kr 3 rfl 2 (by show 2 < 3; omega)
    have P6 : PX w (wc.setCell ⟨P, 2, none⟩ (.int .i64 (p.k + 1))) D p.n ((W.heap.size, [.int .i64 kind, .int .i64 who, .int .i64 num]) :: ([] ++ (P, [.slice (some ⟨A, 0, none⟩) 2 2, .slice sx n c, .int .i64 (p.k + 1)]) :: (A, [.pointer (some ⟨D false, 0, none⟩), .pointer (some ⟨D true, 0, none⟩)]) :: wx)) im lv := ⟨kr_fset P5.out.kr 3 rfl 2 (by simp) _ _ rfl, P5.out.el, P5.out.nb⟩
    have P6 : Hid (PX w _ D p.n _ im lv) := P6
    rcases HK.out with rfl | rfl | rfl


    all_goals
      clear HK
      go_upto_region 10 with fail
      have PV := P6.out
      generalize wc.setCell ⟨P, 2, none⟩ (.int .i64 (p.k + 1)) = V2 at *
      have w0 : V2.cell? ⟨P, 0, none⟩ = some (.slice (some ⟨A, 0, none⟩) 2 2) := kr_cell PV.kr 3 rfl 0 _ rfl
      have w2 : V2.cell? ⟨P, 2, none⟩ = some (.int .i64 (p.k + 1)) := kr_cell PV.kr 3 rfl 2 _ rfl
      have wa : V2.cell? ⟨A, (bi tw).toNat, none⟩ = some (.pointer (some ⟨D tw, 0, none⟩)) := by cases tw <;> exact kr_cell PV.kr 4 rfl _ _ rfl
      have PX8 : PX w ((V2.alloc (.cells #[.int .u8 ((p.k + 1) % 256), .int .u8 ((p.k + 1) / 256 % 256), .int .u8 (bi tw)] 5)).drew) D p.n ((V2.heap.size, [.int .u8 ((p.k + 1) % 256), .int .u8 ((p.k + 1) / 256 % 256), .int .u8 (bi tw)]) :: _) im lv := px_call (px_new PV [.int .u8 ((p.k + 1) % 256), .int .u8 ((p.k + 1) / 256 % 256), .int .u8 (bi tw)] 5) (bw_drew (Below.refl _ _))
      have eA := px_app PX8 tw [(p.k + 1) % 256, (p.k + 1) / 256 % 256, bi tw] 3 rfl (by omega) (some ⟨V2.heap.size, 0, none⟩) 3 (by omega) (fun W1 K1 => srcV_row (m := 3) K1 List.mem_cons_self rfl)
      clear PV PX8
      cases tw
      · replace wa : V2.cell? ⟨A, 0, none⟩ = some (.pointer (some ⟨D false, 0, none⟩)) := wa
        simp only [bi, if_pos, if_neg (show ¬ (false = true) by decide), if_neg (show ¬ (true = false) by decide)]
        go_region_held3 (fun V => V.cell? ⟨P, 0, none⟩ = some (.slice (some ⟨A, 0, none⟩) 2 2) ∧ V.cell? ⟨A, 0, none⟩ = some (.pointer (some ⟨D false, 0, none⟩)) ∧ V.cell? ⟨P, 2, none⟩ = some (.int .i64 (p.k + 1))) (first | (with_reducible exact hS3) | go_keep) ((go_at_call 20; refine eA.mono ?_; rintro e w5 ⟨rfl, l5, lv5, P7⟩; have hS3 : w5.cell? ⟨P, 0, none⟩ = some (.slice (some ⟨A, 0, none⟩) 2 2) ∧ w5.cell? ⟨A, 0, none⟩ = some (.pointer (some ⟨D false, 0, none⟩)) ∧ w5.cell? ⟨P, 2, none⟩ = some (.int .i64 (p.k + 1)) := app_s3 (tw := false) P7))
        go_wp2_with fail
        refine bodyPost_end (results_none rfl _ _ _) rfl ⟨rfl, ?_⟩
        rw [HQ'.out]
        have hL := HLn.out
        subst hL
        exact pl_step1 (ys := [_, _]) H.out (fun q hq => List.mem_append_right _ hq) P7
      · replace wa : V2.cell? ⟨A, 1, none⟩ = some (.pointer (some ⟨D true, 0, none⟩)) := wa
        simp only [bi, if_pos, if_neg (show ¬ (false = true) by decide), if_neg (show ¬ (true = false) by decide)]
        go_region_held3 (fun V => V.cell? ⟨P, 0, none⟩ = some (.slice (some ⟨A, 0, none⟩) 2 2) ∧ V.cell? ⟨A, 1, none⟩ = some (.pointer (some ⟨D true, 0, none⟩)) ∧ V.cell? ⟨P, 2, none⟩ = some (.int .i64 (p.k + 1))) (first | (with_reducible exact hS3) | go_keep) ((go_at_call 20; refine eA.mono ?_; rintro e w5 ⟨rfl, l5, lv5, P7⟩; have hS3 : w5.cell? ⟨P, 0, none⟩ = some (.slice (some ⟨A, 0, none⟩) 2 2) ∧ w5.cell? ⟨A, 1, none⟩ = some (.pointer (some ⟨D true, 0, none⟩)) ∧ w5.cell? ⟨P, 2, none⟩ = some (.int .i64 (p.k + 1)) := app_s3 (tw := true) P7))
        go_wp2_with fail
        refine bodyPost_end (results_none rfl _ _ _) rfl ⟨rfl, ?_⟩
        rw [HQ'.out]
        have hL := HLn.out
        subst hL
        exact pl_step1 (ys := [_, _]) H.out (fun q hq => List.mem_append_right _ hq) P7

end
end Go.Proofs.Ytofpkmfjigjlhaa.Own
