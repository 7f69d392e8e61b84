/- ShipPlays, walked. No conditions beside those in the lemmas. -/
import Derived.Test.YtofpkmfjigjlhaaOp31
import Derived.Test.YtofpkmfjigjlhaaKn31
namespace Go.Proofs.Ytofpkmfjigjlhaa.Own
open Go.RowKit Go.WideShapes Go.ChangeShapes Go.Deep
set_option linter.unusedSimpArgs false
set_option linter.unusedVariables false
theorem rnew_bad (me : Int) (h : me < 0 ∨ 2 ≤ me) {W : World} : Calls Try.prog 25 #[.int .i64 me] W fun e W' => e = .returned (.tuple #[.pointer none, .int .i64 1]) ∧ W = W' := by
  have h0 : (me != 0) = true := by simp; omega
  have h1 : (me != 1) = true := by simp; omega
  clear h
  go_enter Try.func25, Try.ntmps25
  go_wp2
  go_ret2
  exact ⟨rfl, rfl⟩
section
variable {w W : World} {A B : Nat} {s r : SN} {rs xs im : List (Nat × List Value)} {la lb : Value}
theorem rnew_k (HK : KR w rs W) (me : Int) (h : me = 0 ∨ me = 1) : Calls Try.prog 25 #[.int .i64 me] W fun e W' => ∃ D, e = .returned (.tuple #[.pointer (some ⟨D, 0, none⟩), .int .i64 0]) ∧ KR w ((D, ncl (sNew me) (.slice none 0 0)) :: rs) W' := by
  have K1 := kr_new HK (ncl (sNew me) (.slice none 0 0)) 94
  have HH : Hid (KR w ((W.heap.size, ncl (sNew me) (.slice none 0 0)) :: rs) (W.alloc (.cells (ncl (sNew me) (.slice none 0 0)).toArray 94))) := K1
  clear K1 HK
  rcases h with rfl | rfl
  · go_enter Try.func25, Try.ntmps25
    go_wp2
    go_ret2
    exact ⟨_, rfl, HH.out⟩
  · go_enter Try.func25, Try.ntmps25
    go_wp2
    go_ret2
    exact ⟨_, rfl, HH.out⟩
theorem p2_app2 (h : P2 w W A B s r xs im la lb) (d : List Int) (k : Nat) (hk : d.length = k) (hk2 : k ≤ 140737488351232) (sp : Option Addr) (c : Nat) (hkc : k ≤ c) (hS : ∀ W1, KR w (xs ++ im) W1 → SrcV W1 sp (bc d)) :
    Calls Try.prog 20 #[.pointer (some ⟨A, 0, none⟩), .slice sp k c] W fun e W' => e = .returned (.tuple #[.int .i64 (sApp s d).2.1, .int .i64 (sApp s d).2.2]) ∧ ∃ l la', P2 w W' A B (sApp s d).1 r xs (l ++ im) la' lb :=
  (app_k h.kr (p2_im _) h.ea h.na d k hk hk2 sp c hkc (fun W1 H => hS W1 (kr_tail (kr_tail H)))).mono (by
    rintro e W' ⟨rfl, l, v, h1, h2⟩
    exact ⟨rfl, _, _, p2_setA h h1 h2 (nb_app h.na d)⟩)
theorem p2_newM (h : P2 w W A B s r xs im la lb) (cs : List Value) (t : TypeId) (hi : Nat) : P2 w (W.alloc (.cells cs.toArray t (cs.length, hi))) A B s r ((W.heap.size, cs) :: xs) im la lb := p2_row h (kr_newM h.kr cs t hi)
/-- An Append of two bytes that stand in the text. -/
theorem p2_zz (h : P2 w W A B s r xs im la lb) :
    Calls Try.prog 20 #[.pointer (some ⟨A, 0, none⟩), .slice (some ⟨W.heap.size, 0, none⟩) 2 2] (W.alloc (.cells #[.int .u8 122, .int .u8 122] 5 (2, 3))) fun e W' => e = .returned (.tuple #[.int .i64 (sApp s [122, 122]).2.1, .int .i64 (sApp s [122, 122]).2.2]) ∧ ∃ l la', P2 w W' A B (sApp s [122, 122]).1 r xs (l ++ im) la' lb := by
  have h1 : P2 w (W.alloc (.cells #[.int .u8 122, .int .u8 122] 5 (2, 3))) A B s r ((W.heap.size, bc [122, 122]) :: xs) im la lb := p2_newM h (bc [122, 122]) 5 3
  refine (p2_app2 h1 [122, 122] 2 rfl (by omega) (some ⟨W.heap.size, 0, none⟩) 2 (Nat.le_refl _) (fun W1 H => srcV_row (m := 2) H List.mem_cons_self rfl)).mono ?_
  rintro e W' ⟨rfl, l, la', h2⟩
  exact ⟨rfl, l, la', p2_sub h2 (List.sublist_cons_self _ _)⟩
/-- The copy goes on; the place itself stays among the rows. -/
theorem p2_copy (h : P2 w W A B s r xs im la lb) : Calls Try.prog 26 #[.pointer (some ⟨A, 0, none⟩)] W fun e W' => ∃ D, e = .returned (.pointer (some ⟨D, 0, none⟩)) ∧ P2 w W' A B s r ((D, ncl s la) :: xs) im la lb :=
  (copy_k h.kr (el_mono h.ea (p2_im _))).mono (by
    rintro e W' ⟨D, rfl, k⟩
    exact ⟨D, rfl, p2_row h k⟩)
theorem p2_swap {D : Nat} {l : List (Nat × List Value)} {la' : Value} {s' : SN} (hE : EL im la s.l) (hN : NB s) (h : P2 w W A B s' r ((D, ncl s la) :: xs) (l ++ im) la' lb) : P2 w W D B s r xs (l ++ im) la lb :=
  ⟨kr_tail (kr_permA h.kr (by
    refine (List.Perm.cons _ ?_)
    exact (List.Perm.swap _ _ _))), el_mono hE (fun p hp => List.mem_append_right _ hp), h.eb, hN, h.nb⟩
/-- A call of do, whatever its kind. -/
theorem do_k (h : P2 w W A B s s xs im la lb) (c : CV) (hS : SrcV w c.sd (bc c.d)) (hd : c.d.length ≤ 140737488351232) (hE : ELV w c.sp c.p.l) (hcp : c.p.l.length ≤ c.cp) (hz : ∀ x ∈ c.p.l, x.2.length ≤ 140737488351232) (h60 : c.p.l.length ≤ 60) :
    Calls Try.prog 27 #[.pointer (some ⟨A, 0, none⟩), .pointer (some ⟨B, 0, none⟩), .agg c.cells.toArray] W (DoP w A B xs) := by
  obtain ⟨k, d, sd, cd, N, p, sp, cp, a⟩ := c
  simp only at hS hd hE hcp hz h60
  by_cases h0 : k = 0
  · subst h0; exact do_app0 h d _ rfl hd sd cd hS N p _ rfl h60 hz sp cp hcp hE a
  by_cases h1 : k = 1
  · subst h1; exact do_app1 h d _ rfl hd sd cd hS N p _ rfl h60 hz sp cp hcp hE a
  by_cases h2 : k = 2
  · subst h2; exact do_ship h d _ rfl hd sd cd hS N p _ rfl h60 hz sp cp hcp hE a
  by_cases h3 : k = 3
  · subst h3; exact do_take h d _ rfl hd sd cd hS N p _ rfl h60 hz sp cp hcp hE a
  by_cases h4 : k = 4
  · subst h4; exact do_taken h d _ rfl hd sd cd hS N p _ rfl h60 hz sp cp hcp hE a
  by_cases h5 : k = 5
  · subst h5; exact do_prom h d _ rfl hd sd cd hS N p _ rfl h60 hz sp cp hcp hE a
  by_cases h6 : k = 6
  · subst h6; exact do_dem h d _ rfl hd sd cd hS N p _ rfl h60 hz sp cp hcp hE a
  · exact do_none h d _ rfl hd sd cd hS N p _ rfl h60 hz sp cp hcp hE a k (by omega)
end
theorem call_cells {w W : World} {A0 : Addr} {i : Nat} {c : CV} (h : CallAt w A0 i c) {rs : List (Nat × List Value)} (HK : KR w rs W) (j : Nat) (v : Value) (hv : c.cells[j]? = some v) : W.cell? ((A0.add (i * 11)).add j) = some v := by
  rw [Go.Deep.add_add]
  exact kr_old HK (h.cell j v hv)
set_option maxRecDepth 100000 in
set_option maxHeartbeats 4000000 in
theorem shipPlays_any {w : World} (me : Int) (sx : Option Addr) (len cap : Nat) (c0 : CLS w sx len) : Calls Try.prog 6 #[.int .i64 me, .slice sx len cap] w fun e W' => e = .returned (.bool true) ∧ Below w.heap.size w W' := by
  by_cases hme : me < 0 ∨ 2 ≤ me
  · have hn := fun W => new_bad (W := W) me hme
    have hr := fun W => rnew_bad (W := W) me hme
    clear hme
    go_enter Try.func6, Try.ntmps6
    go_wp2_with (first | (go_at_call 24; refine (hn _).mono ?_; rintro e w1 ⟨rfl, rfl⟩) | (go_at_call 25; refine (hr _).mono ?_; rintro e w1 ⟨rfl, rfl⟩) | (go_at_call 14; refine known31_k.mono ?_; rintro e w1 ⟨rfl, hb1⟩; have HB : Hid (Below _ _ w1) := hb1; clear hb1))
    go_ret
    exact ⟨rfl, HB.out⟩
  · have hme2 : me = 0 ∨ me = 1 := by omega
    have hn := new_k (kr_refl w) me hme2
    have hr := fun rs W (h : KR w rs W) => rnew_k h me hme2
    have HNB : Hid (NB (sNew me)) := nb_new me hme2
    clear hme hme2
    obtain ⟨cs, hcs, hlen, hcall⟩ := c0
    have HLEN : Hid (cs.length = len) := hcs
    have HCALLS : Hid (∀ (j : Nat) (c : CV), cs[j]? = some c → ∃ A : Addr, sx = some A ∧ CallAt w A j c) := hcall
    have hleni : (len : Int) ≤ 9223372036854775807 := by omega
    clear hcs hlen hcall
    go_enter Try.func6, Try.ntmps6
    go_wp2_with (first | (go_at_call 24; refine hn.mono ?_; rintro e w1 ⟨A, rfl, k1⟩; have HK1 : Hid (KR w _ w1) := k1; clear k1 hn) | (go_at_call 25; refine (hr _ _ HK1.out).mono ?_; rintro e w2 ⟨B, rfl, k2⟩; have HK2 : Hid (KR w _ w2) := k2; clear k2 hr))
    go_loopw [5, 9] (fun v5 v9 W => ∃ (A i : Nat) (s : SN) (im : List (Nat × List Value)) (la lb : Value), v5 = .pointer (some ⟨A, 0, none⟩) ∧ v9 = .int .i64 (i : Int) ∧ i ≤ len ∧ i ≤ 60 ∧ P2 w W A B s s [] im la lb) (fun _ v9 _ => len - (intOf v9).toNat)
    case atStart => exact ⟨A, 0, _, [], _, _, rfl, rfl, Nat.zero_le _, Nat.zero_le _, ⟨kr_swap HK2.out, el_nil _, el_nil _, HNB.out, HNB.out⟩⟩
    case round =>
      clear HK1 HK2 HNB
      obtain ⟨A, i, s, im, la, lb, rfl, rfl, hi, hi60, h0⟩ := hrel
      have HP : Hid (P2 w wr A B s s [] im la lb) := h0
      clear h0
      by_cases hlt : i < len
      · by_cases h6 : i < 60
        · have hli : (i : Int) < (len : Int) := by omega
          have h6i : (i : Int) < 60 := by omega
          have hg : cs[i]? = some (cs[i]'(by rw [HLEN.out]; exact hlt)) := List.getElem?_eq_getElem (by rw [HLEN.out]; exact hlt)
          obtain ⟨A0, rfl, hat⟩ := HCALLS.out i _ hg
          generalize cs[i]'(by rw [HLEN.out]; exact hlt) = c at hat
          have HAT : Hid (CallAt w A0 i c) := hat
          have e0 : wr.cell? (A0.add (i * 11)) = some (.int .i64 c.k) := call_cells hat (p2_kr HP.out) 0 _ rfl
          have e1 : wr.cell? ⟨(A0.add (i * 11)).block, (A0.add (i * 11)).off + 1, none⟩ = some (.slice c.sd c.d.length c.cd) := call_cells hat (p2_kr HP.out) 1 _ rfl
          have e2 : wr.cell? ⟨(A0.add (i * 11)).block, (A0.add (i * 11)).off + 2, none⟩ = some (.int .i64 c.N) := call_cells hat (p2_kr HP.out) 2 _ rfl
          have e3 : wr.cell? ⟨(A0.add (i * 11)).block, (A0.add (i * 11)).off + 3, none⟩ = some (.int .i64 c.p.ep) := call_cells hat (p2_kr HP.out) 3 _ rfl
          have e4 : wr.cell? ⟨(A0.add (i * 11)).block, (A0.add (i * 11)).off + 4, none⟩ = some (.int .i64 c.p.at_) := call_cells hat (p2_kr HP.out) 4 _ rfl
          have e5 : wr.cell? ⟨(A0.add (i * 11)).block, (A0.add (i * 11)).off + 5, none⟩ = some (.int .i64 c.p.bf) := call_cells hat (p2_kr HP.out) 5 _ rfl
          have e6 : wr.cell? ⟨(A0.add (i * 11)).block, (A0.add (i * 11)).off + 6, none⟩ = some (.slice c.sp c.p.l.length c.cp) := call_cells hat (p2_kr HP.out) 6 _ rfl
          have e7 : wr.cell? ⟨(A0.add (i * 11)).block, (A0.add (i * 11)).off + 7, none⟩ = some (.int .i64 c.p.safe) := call_cells hat (p2_kr HP.out) 7 _ rfl
          have e8 : wr.cell? ⟨(A0.add (i * 11)).block, (A0.add (i * 11)).off + 8, none⟩ = some (.int .i64 c.a.1) := call_cells hat (p2_kr HP.out) 8 _ rfl
          have e9 : wr.cell? ⟨(A0.add (i * 11)).block, (A0.add (i * 11)).off + 9, none⟩ = some (.bool c.a.2.1) := call_cells hat (p2_kr HP.out) 9 _ rfl
          have e10 : wr.cell? ⟨(A0.add (i * 11)).block, (A0.add (i * 11)).off + 10, none⟩ = some (.int .i64 c.a.2.2) := call_cells hat (p2_kr HP.out) 10 _ rfl
          have HLT : Hid (i < len ∧ i < 60) := ⟨hlt, h6⟩
          clear hat hg hlt h6 hi hi60
          go_upto_region 11 with fail
          have P1 : P2 w (wr.alloc (.cells #[.int .i64 c.k, .slice c.sd c.d.length c.cd, .int .i64 c.N, .int .i64 c.p.ep, .int .i64 c.p.at_, .int .i64 c.p.bf, .slice c.sp c.p.l.length c.cp, .int .i64 c.p.safe, .int .i64 c.a.1, .bool c.a.2.1, .int .i64 c.a.2.2] 72)) A B s s [(wr.heap.size, c.cells)] im la lb := p2_new HP.out c.cells 72
          clear e0 e1 e2 e3 e4 e5 e6 e7 e8 e9 e10 HP
          generalize (wr.alloc (.cells #[.int .i64 c.k, .slice c.sd c.d.length c.cd, .int .i64 c.N, .int .i64 c.p.ep, .int .i64 c.p.at_, .int .i64 c.p.bf, .slice c.sp c.p.l.length c.cp, .int .i64 c.p.safe, .int .i64 c.a.1, .bool c.a.2.1, .int .i64 c.a.2.2] 72)) = w3 at *
          generalize wr.heap.size = T at *
          have t0 := p2_cell P1 List.mem_cons_self 0 _ rfl
          have t6 := p2_cell P1 List.mem_cons_self 6 _ rfl
          have HP1 : Hid (P2 w w3 A B s s [(T, c.cells)] im la lb) := P1
          clear P1
          have hpl : Hid (c.p.l.length ≤ c.p.l.length) := Nat.le_refl _
          by_cases h60 : 60 < c.p.l.length
          · have h60i : (60 : Int) < (c.p.l.length : Int) := by omega
            clear h60
            go_wp2_with fail
            go_round
            case rel => exact ⟨A, i + 1, s, im, la, lb, rfl, by go_num, HLT.out.1, HLT.out.2, p2_sub HP1.out (List.sublist_cons_self _ _)⟩
            case measure => have := HLT.out.1; (simp [intOf]; try omega)
          · have h60i : ¬ (60 : Int) < (c.p.l.length : Int) := by omega
            have H60 : Hid (c.p.l.length ≤ 60) := by show _ ≤ _; omega
            clear h60
            by_cases h7 : c.k = 7
            · rw [h7] at t0
              have HE7 : Hid (EL im la s.l ∧ NB s) := ⟨HP1.out.ea, HP1.out.na⟩
              clear h7
              have kc := fun (w : World) (C : Array Value) (n c : Nat) => Lib.run_convert_bytes_const (P := Try.prog) w 41 5 C n c Try.underlying41 Try.underlying5
              go_upto_region 16 with ((go_at_call 26; refine (p2_copy HP1.out).mono ?_; rintro e w4 ⟨D, rfl, h4⟩; have HP2 : Hid (P2 w w4 A B s s ((D, ncl s la) :: [(T, c.cells)]) im la lb) := h4; clear h4))
              have hzz := p2_zz HP2.out
              have HZZ : Hid _ := hidI hzz
              clear hzz HP1 t0 t6
              go_upto_region 17 with ((go_at_call 20; refine HZZ.out.mono ?_; rintro e w5 ⟨rfl, l5, la5, h5⟩; have HP3 : Hid (P2 w w5 A B (sApp s [122, 122]).1 s ((D, ncl s la) :: [(T, c.cells)]) (l5 ++ im) la5 lb) := h5; clear h5))
              clear HZZ kc HP2
              go_upto_region 21 with ((go_at_call 19; refine (p2_prom HP3.out).mono ?_; rintro e w6 ⟨rfl, h6⟩; have HP4 : Hid (P2 w w6 D B s s [(T, c.cells)] (l5 ++ im) la lb) := p2_swap HE7.out.1 HE7.out.2 h6; clear h6))
              clear HP3
              go_wp2_with (go_at_call 28; refine (alike_k HP4.out).mono ?_; rintro e w7 ⟨rfl, s7, im7, la7, lb7, h7⟩; have HP5 : Hid (P2 w w7 D B s7 s7 [(T, c.cells)] im7 la7 lb7) := h7; clear h7)
              go_round
              case rel => exact ⟨D, i + 1, _, _, _, _, rfl, by go_num, HLT.out.1, HLT.out.2, p2_sub HP5.out (List.sublist_cons_self _ _)⟩
              case measure => have := HLT.out.1; (simp [intOf]; try omega)
            · have h7q : (c.k == 7) = false := by simp [h7]
              clear h7
              have t1 := p2_cell HP1.out List.mem_cons_self 1 _ rfl
              have t2 := p2_cell HP1.out List.mem_cons_self 2 _ rfl
              have t3 := p2_cell HP1.out List.mem_cons_self 3 _ rfl
              have t4 := p2_cell HP1.out List.mem_cons_self 4 _ rfl
              have t5 := p2_cell HP1.out List.mem_cons_self 5 _ rfl
              have t7 := p2_cell HP1.out List.mem_cons_self 7 _ rfl
              have t8 := p2_cell HP1.out List.mem_cons_self 8 _ rfl
              have t9 := p2_cell HP1.out List.mem_cons_self 9 _ rfl
              have t10 := p2_cell HP1.out List.mem_cons_self 10 _ rfl
              have hdo := do_k HP1.out c (srcV_keep HAT.out.src (Below.refl _ _)) HAT.out.dl HAT.out.el HAT.out.cp HAT.out.pz H60.out
              have HDO : Hid _ := hidI hdo
              clear hdo
              go_upto_region 21 with ((go_at_call 27; refine HDO.out.mono ?_; rintro e w4 ⟨rfl, s4, im4, la4, lb4, h4⟩; have HP2 : Hid (P2 w w4 A B s4 s4 [(T, c.cells)] im4 la4 lb4) := h4; clear h4))
              clear HDO t0 t1 t2 t3 t4 t5 t6 t7 t8 t9 t10
              go_wp2_with (go_at_call 28; refine (alike_k HP2.out).mono ?_; rintro e w5 ⟨rfl, s5, im5, la5, lb5, h5⟩; have HP3 : Hid (P2 w w5 A B s5 s5 [(T, c.cells)] im5 la5 lb5) := h5; clear h5)
              go_round
              case rel => exact ⟨A, i + 1, _, _, _, _, rfl, by go_num, HLT.out.1, HLT.out.2, p2_sub HP3.out (List.sublist_cons_self _ _)⟩
              case measure => have := HLT.out.1; (simp [intOf]; try omega)
        · have hli : (i : Int) < (len : Int) := by omega
          have h6i : ¬ (i : Int) < 60 := by omega
          clear hi hi60 hlt h6
          go_wp2_with (go_at_call 14; refine known31_k.mono ?_; rintro e w1 ⟨rfl, hb1⟩; have HB : Hid (Below w.heap.size w w1) := bw_step HP.out.kr.below hb1; clear hb1)
          go_ret
          exact ⟨rfl, HB.out⟩
      · have hli : ¬ (i : Int) < (len : Int) := by omega
        clear hi hi60 hlt
        go_wp2_with (go_at_call 14; refine known31_k.mono ?_; rintro e w1 ⟨rfl, hb1⟩; have HB : Hid (Below w.heap.size w w1) := bw_step HP.out.kr.below hb1; clear hb1)
        go_ret
        exact ⟨rfl, HB.out⟩
end Go.Proofs.Ytofpkmfjigjlhaa.Own
