/- ShipCalm, walked. No conditions beside those in the lemmas. -/
import Derived.Test.YtofpkmfjigjlhaaSf31
import Derived.Test.YtofpkmfjigjlhaaShK
namespace Go.Proofs.Ytofpkmfjigjlhaa.Own
open Go.RowKit Go.WideShapes Go.ChangeShapes Go.Deep
set_option linter.unusedSimpArgs false
set_option linter.unusedVariables false
/-- How far it is until t leads alone, read off memory. -/
def cmz (D : Bool → Nat) (t : Bool) (W : World) : Nat :=
  match W.cell? ⟨D t, 2, none⟩, W.cell? ⟨D (!t), 2, none⟩, W.cell? ⟨D t, 1, none⟩ with
  | some (.int _ a), some (.int _ b), some (.bool l) => (b - a + 1).toNat + (if l then 0 else 1)
  | _, _, _ => 0
theorem px_cmz {w W : World} {D : Bool → Nat} {n : Bool → SN} {xs im : List (Nat × List Value)} {lv : Bool → Value} (h : PX w W D n xs im lv) (t : Bool) : cmz D t W = ((n (!t)).ep - (n t).ep + 1).toNat + (if (n t).ld then 0 else 1) := by
  have a := kr_cell (px_get h t) 0 rfl 2 _ rfl
  have b := kr_cell (px_get h t) 1 rfl 2 _ rfl
  have c := kr_cell (px_get h t) 0 rfl 1 _ rfl
  unfold cmz
  rw [a, b, c]
/-- Two places that play no more: t is to lead. -/
structure CM (w W : World) (D : Bool → Nat) (xs : List (Nat × List Value)) (t : Bool) (c : Nat) (n : Bool → SN) : Prop where
  px : ∃ im lv, PX w W D n xs im lv
  inv : ∃ G S eS, NI G S eS c n
  hi : (n (!t)).ep ≤ 300
  lo : (n t).ep ≤ 310
  no : (n t).ld = false → (n t).ep ≤ 305
theorem cm_dem {w W W' : World} {D : Bool → Nat} {xs : List (Nat × List Value)} {t : Bool} {c : Nat} {n : Bool → SN} (h : CM w W D xs t c n) (hle : (n t).ep ≤ (n (!t)).ep) {im : List (Nat × List Value)} {lv : Bool → Value} (hp : PX w W' D (upd n t (sDem (n t)).1) xs im lv) : CM w W' D xs t c (upd n t (sDem (n t)).1) := by
  obtain ⟨G, S, eS, hn⟩ := h.inv
  obtain ⟨G', S', e', k1, _⟩ := goes_dem hn t
  have hh := h.hi
  refine ⟨⟨im, lv, hp⟩, ⟨G', S', e', k1⟩, by rw [upd_other]; exact hh, ?_, fun _ => ?_⟩
  · rw [upd_same, sDem_ep]; omega
  · rw [upd_same, sDem_ep]; omega
theorem cm_prom {w W W' : World} {D : Bool → Nat} {xs : List (Nat × List Value)} {t : Bool} {c : Nat} {n : Bool → SN} (h : CM w W D xs t c n) (hl : (n t).ld = false) {im : List (Nat × List Value)} {lv : Bool → Value} (hp : PX w W' D (upd n t (sProm (n t)).1) xs im lv) : CM w W' D xs t c (upd n t (sProm (n t)).1) ∧ (sProm (n t)).2.2 = 0 ∧ (sProm (n t)).1.ld = true ∧ (n t).ep + 1 ≤ (sProm (n t)).1.ep := by
  obtain ⟨G, S, eS, hn⟩ := h.inv
  obtain ⟨G', S', e', k1, _⟩ := goes_prom hn t
  have hh := h.hi
  have h5 := h.no hl
  have hq := next_par (hn.me t) (hn.e0 t)
  have hp1 : sProm (n t) = ({ n t with ep := sNext (n t), ld := true, mark := (n t).l.length }, sNext (n t), 0) := by
    unfold sProm
    rw [if_neg (by rw [hl]; simp), if_neg (by omega)]
  refine ⟨⟨⟨im, lv, hp⟩, ⟨G', S', e', k1⟩, by rw [upd_other]; exact hh, ?_, fun hf => ?_⟩, by rw [hp1], by rw [hp1], by rw [hp1]; show _ ≤ sNext (n t); omega⟩
  · rw [upd_same, hp1]; show sNext (n t) ≤ 310; omega
  · rw [upd_same, hp1] at hf; cases hf
theorem cm_ci {n : Bool → SN} {t : Bool} {c : Nat} {d : List Int} (hinv : ∃ G S eS, NI G S eS c n) (hd : d.length ≤ 60000) (hc : c ≤ 120) (hl : (n t).ld = true) (hlo : (n t).ep ≤ 310) (hgt : (n (!t)).ep < (n t).ep) : (sApp (n t) d).2.2 = 0 ∧ CI (c + 1) (upd n t (sApp (n t) d).1) t (n t).ep (n t).l d := by
  obtain ⟨G, S, eS, hn⟩ := hinv
  have hlen := hn.len t
  have ha : sApp (n t) d = ({ n t with l := (n t).l ++ [((n t).ep, d)] }, ((n t).l.length : Int) + 1, 0) := by
    unfold sApp
    rw [if_neg (by rw [hl]; simp), if_neg (by omega), if_neg (by omega)]
  obtain ⟨G', S', e', k1, _⟩ := goes_app hn t d (.inr trivial)
  refine ⟨by rw [ha], ⟨G', S', e', k1⟩, ?_, ?_, ?_, ?_, by omega, by omega⟩
  · rw [upd_same, ha]; exact hl
  · rw [upd_same, ha]
  · rw [upd_other]; exact .inl hgt
  · rw [upd_same, ha]
theorem cm_pr {w W : World} {D : Bool → Nat} {xs : List (Nat × List Value)} {t : Bool} {c : Nat} {n : Bool → SN} (h : CM w W D xs t c n) (hl : (n t).ld = false) : (sProm (n t)).2.2 = 0 ∧ (sProm (n t)).1.ld = true ∧ (n t).ep + 1 ≤ (sProm (n t)).1.ep := by
  obtain ⟨im, lv, hp⟩ := h.px
  obtain ⟨G, S, eS, hn⟩ := h.inv
  have h5 := h.no hl
  have hq := next_par (hn.me t) (hn.e0 t)
  have hp1 : sProm (n t) = ({ n t with ep := sNext (n t), ld := true, mark := (n t).l.length }, sNext (n t), 0) := by
    unfold sProm
    rw [if_neg (by rw [hl]; simp), if_neg (by omega)]
  exact ⟨by rw [hp1], by rw [hp1], by rw [hp1]; show _ ≤ sNext (n t); omega⟩
theorem sDem_off (n : SN) : (sDem n).1.ld = false := by
  unfold sDem; split
  · assumption
  · rfl
theorem quiet_flip31 {f : FuncId} {args : Array Value} {w : World} {n : Nat} {v : Value} (h : Calls Try.prog f args (w.drewN n) fun e w' => e = .returned v ∧ w.drewN n = w') : Calls Try.prog f args (w.drewN n) fun e w'' => e = .returned v ∧ ∃ m, w'' = w.drewN m :=
  h.mono fun _ _ ⟨he, hm⟩ => ⟨he, n, hm.symm⟩
/-- An Append of four bytes that stand in the text. -/
theorem calm_app {w W : World} {D : Bool → Nat} {n : Bool → SN} {xs im : List (Nat × List Value)} {lv : Bool → Value} (h : PX w W D n xs im lv) (b : Bool) :
    Calls Try.prog 20 #[.pointer (some ⟨D b, 0, none⟩), .slice (some ⟨W.heap.size, 0, none⟩) 4 4] (W.alloc (.cells #[.int .u8 99, .int .u8 97, .int .u8 108, .int .u8 109] 5 (4, 5))) fun e W' => e = .returned (.tuple #[.int .i64 (sApp (n b) [99, 97, 108, 109]).2.1, .int .i64 (sApp (n b) [99, 97, 108, 109]).2.2]) ∧ ∃ im' lv', PX w W' D (upd n b (sApp (n b) [99, 97, 108, 109]).1) xs im' lv' := by
  have h1 : PX w (W.alloc (.cells #[.int .u8 99, .int .u8 97, .int .u8 108, .int .u8 109] 5 (4, 5))) D n ((W.heap.size, bc [99, 97, 108, 109]) :: xs) im lv := px_newM h (bc [99, 97, 108, 109]) 5 5
  refine (px_app h1 b [99, 97, 108, 109] 4 rfl (by omega) (some ⟨W.heap.size, 0, none⟩) 4 (Nat.le_refl _) (fun W1 H => srcV_row (m := 4) H List.mem_cons_self rfl)).mono ?_
  rintro e W' ⟨rfl, l, lv', h2⟩
  exact ⟨rfl, _, _, px_sub h2 (List.sublist_cons_self _ _)⟩
theorem calm_s3 {w W : World} {D : Bool → Nat} {n : Bool → SN} {B P A : Nat} {v w1 w2 u0 u1 u2 u3 u4 y : Value} {wx im : List (Nat × List Value)} {lv : Bool → Value} (h : PX w W D n ((B, [u0, u1, u2, u3, u4]) :: ([] ++ (P, [v, w1, w2]) :: (A, [.pointer (some ⟨D false, 0, none⟩), .pointer (some ⟨D true, 0, none⟩)]) :: wx)) im lv) (j : Nat) (hj : ([.pointer (some ⟨D false, 0, none⟩), .pointer (some ⟨D true, 0, none⟩)] : List Value)[j]? = some y) :
    W.cell? ⟨P, 0, none⟩ = some v ∧ W.cell? ⟨A, j, none⟩ = some y ∧ W.cell? ⟨B, 0, none⟩ = some u0 ∧ W.cell? ⟨B, 1, none⟩ = some u1 ∧ W.cell? ⟨B, 2, none⟩ = some u2 ∧ W.cell? ⟨B, 3, none⟩ = some u3 ∧ W.cell? ⟨B, 4, none⟩ = some u4 :=
  ⟨kr_cell h.kr 3 rfl 0 _ rfl, kr_cell h.kr 4 rfl j _ hj, kr_cell h.kr 2 rfl 0 _ rfl, kr_cell h.kr 2 rfl 1 _ rfl, kr_cell h.kr 2 rfl 2 _ rfl, kr_cell h.kr 2 rfl 3 _ rfl, kr_cell h.kr 2 rfl 4 _ rfl⟩
theorem sShip_bd {n : SN} (h : NB n) (m : Int) : (sShip n m).1.l.length ≤ 4096 ∧ ∀ x ∈ (sShip n m).1.l, x.2.length ≤ 60000 := by
  have h1 := h.len
  have h2 := h.data
  unfold sShip
  split
  · exact ⟨Nat.zero_le _, fun x hx => by cases hx⟩
  · split
    · exact ⟨Nat.zero_le _, fun x hx => by cases hx⟩
    · refine ⟨?_, fun x hx => h2 x (List.mem_of_mem_drop (List.mem_of_mem_take hx))⟩
      show (((n.l.drop n.mark).take m.toNat)).length ≤ 4096
      rw [List.length_take, List.length_drop]; omega

set_option maxRecDepth 100000 in
set_option maxHeartbeats 4000000 in
theorem calm_false {w : World} (sx : Option Addr) (len cap : Nat) (who : Int) (hwho : (Lit.int .i64 who).wf = true) (htw : two who = false) (c0 : SCR w sx len) : Calls Try.prog 5 #[.slice sx len cap, .int .i64 who] w fun e W' => e = .returned (.bool true) ∧ Below w.heap.size w W' := by
  obtain ⟨xs, hx, hlen, hs⟩ := c0
  have hleni : (len : Int) ≤ 9223372036854775807 := by omega
  have HX : Hid (xs.length = len) := hx
  have HS : Hid (∀ (j : Nat) (x : Int × Int × Int), xs[j]? = some x → ∃ A : Addr, sx = some A ∧ StAt w A j x) := hs
  have hb := begin_k (kr_refl w)
  have hct : ∀ V, Calls Try.prog 17 #[.int .i64 who, .int .i64 2] V fun e W' => e = .returned (.int .i64 0) ∧ W' = V := fun V => by
    have := cntx_k (w := V) who hwho 2 (by omega) (by omega)
    rw [two_bi, htw] at this
    exact this
  have HCT : Hid (∀ V, Calls Try.prog 17 #[.int .i64 who, .int .i64 2] V fun e W' => e = .returned (.int .i64 0) ∧ W' = V) := hct
  have kc := fun (w : World) (C : Array Value) (n c : Nat) => Lib.run_convert_bytes_const (P := Try.prog) w 41 5 C n c Try.underlying41 Try.underlying5
  clear hx hs hlen hct htw
  go_enter Try.func5, Try.ntmps5
  go_upto_block 0 with (go_at_call 8; refine hb.mono ?_; rintro e w1 ⟨P, A, D, rfl, HP⟩)
  have HP0 : Hid (PS w w1 P A D 0 pyNew) := ps_new HP
  clear hb HP
  go_cut [] (fun wx => ∃ (i : Nat) (p : PY), i ≤ 100 ∧ PS w wx P A D i p)
  case first =>
    clear kc HCT
    go_wp2
    go_loopw [6] (fun v6 W => ∃ (i : Nat) (p : PY), v6 = .int .i64 (i : Int) ∧ i ≤ 100 ∧ PS w W P A D i p) (fun v6 _ => 100 - (intOf v6).toNat)
    case atStart => exact ⟨0, pyNew, rfl, by omega, HP0.out⟩
    case round =>
      clear HP0
      obtain ⟨i, p, rfl, hi, HPS⟩ := hrel
      by_cases hlt : i < len
      · by_cases h120 : i < 100
        · have hlti : (i : Int) < (len : Int) := by omega
          have h120i : (i : Int) < 100 := by omega
          obtain ⟨x, hx⟩ : ∃ x, xs[i]? = some x := ⟨xs[i]'(by have := HX.out; omega), List.getElem?_eq_getElem _⟩
          obtain ⟨B, rfl, k0, k1, k2, e3⟩ := ps_call (len := len) HPS (by omega) HS.out hx
          rw [add_lit B _ _ (by omega)] at k1 k2
          clear HPS hx HS
          go_wp2_with (go_at_call 9; refine e3.mono ?_; rintro e w5 ⟨rfl, HP5⟩)
          go_round
          case rel => exact ⟨i + 1, _, by go_num, by omega, HP5⟩
          case measure => simp [intOf]; omega
        · have h120i : ¬ ((i : Int) < 100) := by omega
          have hlti : (i : Int) < (len : Int) := by omega
          have HPS : Hid (PS w wr P A D i p) := HPS
          clear HS
          go_wp2
          go_meet
          case rel => exact ⟨i, p, hi, HPS.out⟩
      · have hlti : ¬ ((i : Int) < (len : Int)) := by omega
        have HPS : Hid (PS w wr P A D i p) := HPS
        clear HS
        go_wp2
        go_meet
        case rel => exact ⟨i, p, hi, HPS.out⟩
  case rest =>
    obtain ⟨i, p, hi, HPS⟩ := hcut
    clear HP0 HS HX
    obtain ⟨⟨im, lv, wv, wx, us, -, HPL⟩, ⟨S, ⟨⟨G, eS, hni, -⟩, hepb⟩⟩, -, -⟩ := HPS
    have e1 := hepb false
    have e2 := hepb true
    have HC0 : Hid (CM w _ D ([] ++ (P, [.slice (some ⟨A, 0, none⟩) 2 2, wv, .int .i64 p.k]) :: (A, [.pointer (some ⟨D false, 0, none⟩), .pointer (some ⟨D true, 0, none⟩)]) :: wx) false i p.n) := ⟨⟨im, lv, HPL.px⟩, ⟨G, S, eS, hni⟩, by show (p.n true).ep ≤ 300; omega, by omega, fun _ => by omega⟩
    clear HPL hni hepb e1 e2
    generalize p.n = n0 at HC0
    go_upto_block 2 with (go_at_call 17; refine (HCT.out _).mono ?_; rintro e w2 ⟨rfl, rfl⟩)
    clear HCT
    go_wp2
    go_loopw [9] (fun _ W => ∃ n, CM w W D ([] ++ (P, [.slice (some ⟨A, 0, none⟩) 2 2, wv, .int .i64 p.k]) :: (A, [.pointer (some ⟨D false, 0, none⟩), .pointer (some ⟨D true, 0, none⟩)]) :: wx) false i n) (fun _ W => cmz D false W)
    case atStart => exact ⟨n0, HC0.out⟩
    case round =>
      clear HC0
      obtain ⟨n, HC⟩ := hrel
      obtain ⟨im, lv, PXc⟩ := HC.px
      have q0 := kr_cell PXc.kr 2 rfl 0 _ rfl
      have qa := kr_cell PXc.kr 3 rfl 0 _ rfl
      have qb := kr_cell PXc.kr 3 rfl 1 _ rfl
      have hz := px_cmz PXc false
      have HZ : Hid (cmz D false wr = ((n (!false)).ep - (n false).ep + 1).toNat + (if (n false).ld then 0 else 1)) := hz
      have E0 : ∀ nq, Calls Try.prog 16 #[.pointer (some ⟨D false, 0, none⟩)] (wr.drewN nq) fun e W' => e = .returned (.int .i64 (n false).ep) ∧ wr.drewN nq = W' := fun nq => px_epoch (px_call PXc (bw_drewN (Below.refl _ _) nq)) false
      have E1 : ∀ nq, Calls Try.prog 16 #[.pointer (some ⟨D true, 0, none⟩)] (wr.drewN nq) fun e W' => e = .returned (.int .i64 (n true).ep) ∧ wr.drewN nq = W' := fun nq => px_epoch (px_call PXc (bw_drewN (Below.refl _ _) nq)) true
      have L0 : ∀ nq, Calls Try.prog 15 #[.pointer (some ⟨D false, 0, none⟩)] (wr.drewN nq) fun e W' => e = .returned (.bool (n false).ld) ∧ wr.drewN nq = W' := fun nq => px_leads (px_call PXc (bw_drewN (Below.refl _ _) nq)) false
      have HE0 : Hid (∀ nq, Calls Try.prog 16 #[.pointer (some ⟨D false, 0, none⟩)] (wr.drewN nq) fun e W' => e = .returned (.int .i64 (n false).ep) ∧ wr.drewN nq = W') := E0
      have HE1 : Hid (∀ nq, Calls Try.prog 16 #[.pointer (some ⟨D true, 0, none⟩)] (wr.drewN nq) fun e W' => e = .returned (.int .i64 (n true).ep) ∧ wr.drewN nq = W') := E1
      have HL0 : Hid (∀ nq, Calls Try.prog 15 #[.pointer (some ⟨D false, 0, none⟩)] (wr.drewN nq) fun e W' => e = .returned (.bool (n false).ld) ∧ wr.drewN nq = W') := L0
      have HC : Hid (CM w wr D ([] ++ (P, [.slice (some ⟨A, 0, none⟩) 2 2, wv, .int .i64 p.k]) :: (A, [.pointer (some ⟨D false, 0, none⟩), .pointer (some ⟨D true, 0, none⟩)]) :: wx) false i n) := HC
      have PXc : Hid (PX w wr D n ([] ++ (P, [.slice (some ⟨A, 0, none⟩) 2 2, wv, .int .i64 p.k]) :: (A, [.pointer (some ⟨D false, 0, none⟩), .pointer (some ⟨D true, 0, none⟩)]) :: wx) im lv) := PXc
      clear E0 E1 L0 hz
      by_cases hle : (n false).ep ≤ (n true).ep
      · have hlB : decide ((n false).ep ≤ (n true).ep) = true := by simp [hle]
        have HLE : Hid ((n false).ep ≤ (n true).ep) := hle
        cases hl : (n false).ld with
        | true =>
          clear hle
          rw [hl] at HL0
          have HLD : Hid ((n false).ld = true) := hl
          clear hl
          go_upto_region 9 with fail
          go_quiet ((go_at_call 16; first | (with_reducible exact quiet_flip31 (HE0.out _)) | (with_reducible exact quiet_flip31 (HE1.out _))))
          clear q0 qa qb
          have PXd := px_call PXc.out (bw_drewN (Below.refl _ _) nq)
          generalize wr.drewN nq = V at *
          have q0 := kr_cell PXd.kr 2 rfl 0 _ rfl
          have qa := kr_cell PXd.kr 3 rfl 0 _ rfl
          have L1 := px_leads PXd false
          rw [HLD.out] at L1
          have D1 := px_dem PXd false
          have HC1 : Hid (∀ W' lv', PX w W' D (upd n false (sDem (n false)).1) ([] ++ (P, [.slice (some ⟨A, 0, none⟩) 2 2, wv, .int .i64 p.k]) :: (A, [.pointer (some ⟨D false, 0, none⟩), .pointer (some ⟨D true, 0, none⟩)]) :: wx) im lv' → CM w W' D ([] ++ (P, [.slice (some ⟨A, 0, none⟩) 2 2, wv, .int .i64 p.k]) :: (A, [.pointer (some ⟨D false, 0, none⟩), .pointer (some ⟨D true, 0, none⟩)]) :: wx) false i (upd n false (sDem (n false)).1)) := fun W' lv' h => cm_dem HC.out HLE.out h
          clear PXd
          go_upto_region 12 with (first | (go_at_call 15; refine L1.mono ?_; rintro e w3 ⟨rfl, rfl⟩) | (go_at_call 18; refine D1.mono ?_; rintro e w4 ⟨rfl, PXe⟩))
          clear q0 qa L1 D1
          have HC2 := HC1.out _ _ PXe
          have hpr := cm_pr HC2 (by rw [upd_same]; exact sDem_off _)
          have cp := px_prom PXe false
          rw [hpr.1] at cp
          have q0 := kr_cell PXe.kr 2 rfl 0 _ rfl
          have qa := kr_cell PXe.kr 3 rfl 0 _ rfl
          have HPR : Hid _ := hpr
          have HC2 : Hid (CM w _ D ([] ++ (P, [.slice (some ⟨A, 0, none⟩) 2 2, wv, .int .i64 p.k]) :: (A, [.pointer (some ⟨D false, 0, none⟩), .pointer (some ⟨D true, 0, none⟩)]) :: wx) false i _) := HC2
          clear HC1 PXe hpr
          go_wp2_with (go_at_call 19; refine cp.mono ?_; rintro e w5 ⟨rfl, PXf⟩)
          go_round
          case rel => exact ⟨_, (cm_prom HC2.out (by rw [upd_same]; exact sDem_off _) PXf).1⟩
          case measure =>
            show cmz D false _ < cmz D false _
            have h1 := HPR.out
            have h2 := HLE.out
            have h3 := HLD.out
            have hm := px_cmz PXf false
            simp only [upd_same] at h1 hm
            rw [show upd (upd n false (sDem (n false)).1) false (sProm (sDem (n false)).1).1 (!false) = n true from by simp [upd], h1.2.1] at hm
            rw [hm, HZ.out, h3]
            have h4 := h1.2.2
            rw [sDem_ep] at h4
            have h5 : (n (!false)).ep = (n true).ep := rfl
            simp only [if_true, Nat.add_zero]
            omega
        | false =>
          clear hle
          rw [hl] at HL0
          have HLD : Hid ((n false).ld = false) := hl
          clear hl
          go_upto_region 9 with fail
          go_quiet ((go_at_call 16; first | (with_reducible exact quiet_flip31 (HE0.out _)) | (with_reducible exact quiet_flip31 (HE1.out _))))
          clear q0 qa qb
          have PXd := px_call PXc.out (bw_drewN (Below.refl _ _) nq)
          generalize wr.drewN nq = V at *
          have q0 := kr_cell PXd.kr 2 rfl 0 _ rfl
          have qa := kr_cell PXd.kr 3 rfl 0 _ rfl
          have L1 := px_leads PXd false
          rw [HLD.out] at L1
          have hpr := cm_pr HC.out HLD.out
          have cp := px_prom PXd false
          rw [hpr.1] at cp
          have HPR : Hid _ := hpr
          clear PXd hpr
          go_wp2_with (first | (go_at_call 15; refine L1.mono ?_; rintro e w3 ⟨rfl, rfl⟩) | (go_at_call 19; refine cp.mono ?_; rintro e w5 ⟨rfl, PXf⟩))
          go_round
          case rel => exact ⟨_, (cm_prom HC.out HLD.out PXf).1⟩
          case measure =>
            show cmz D false _ < cmz D false _
            have h1 := HPR.out
            have h3 := HLD.out
            rw [px_cmz PXf false, HZ.out, upd_same, h1.2.1, h3]
            rw [show upd n false (sProm (n false)).1 (!false) = n true from by simp [upd]]
            simp only [Bool.not_false, Bool.not_true, if_true]
            have h4 := h1.2.2
            have h5 : (n (!false)).ep = (n true).ep := rfl
            rw [if_neg (by simp)]
            omega
      · have hlB : decide ((n false).ep ≤ (n true).ep) = false := by simpa using hle
        have HLE : Hid (¬ (n false).ep ≤ (n true).ep) := hle
        clear hle
        cases hl : (n false).ld with
        | false =>
          rw [hl] at HL0
          have HLD : Hid ((n false).ld = false) := hl
          clear hl
          go_upto_region 9 with fail
          go_quiet ((first | (go_at_call 16; first | (with_reducible exact quiet_flip31 (HE0.out _)) | (with_reducible exact quiet_flip31 (HE1.out _))) | (go_at_call 15; with_reducible exact quiet_flip31 (HL0.out _))))
          clear q0 qa qb
          have PXd := px_call PXc.out (bw_drewN (Below.refl _ _) nq)
          generalize wr.drewN nq = V at *
          have q0 := kr_cell PXd.kr 2 rfl 0 _ rfl
          have qa := kr_cell PXd.kr 3 rfl 0 _ rfl
          have L1 := px_leads PXd false
          rw [HLD.out] at L1
          have hpr := cm_pr HC.out HLD.out
          have cp := px_prom PXd false
          rw [hpr.1] at cp
          have HPR : Hid _ := hpr
          clear PXd hpr
          go_wp2_with (first | (go_at_call 15; refine L1.mono ?_; rintro e w3 ⟨rfl, rfl⟩) | (go_at_call 19; refine cp.mono ?_; rintro e w5 ⟨rfl, PXf⟩))
          go_round
          case rel => exact ⟨_, (cm_prom HC.out HLD.out PXf).1⟩
          case measure =>
            show cmz D false _ < cmz D false _
            have h1 := HPR.out
            have h3 := HLD.out
            rw [px_cmz PXf false, HZ.out, upd_same, h1.2.1, h3]
            rw [show upd n false (sProm (n false)).1 (!false) = n true from by simp [upd]]
            simp only [Bool.not_false, Bool.not_true, if_true]
            have h4 := h1.2.2
            have h5 : (n (!false)).ep = (n true).ep := rfl
            rw [if_neg (by simp)]
            omega
        | true =>
          rw [hl] at HL0
          have HLD : Hid ((n false).ld = true) := hl
          clear hl
          go_upto_region 9 with fail
          go_quiet ((first | (go_at_call 16; first | (with_reducible exact quiet_flip31 (HE0.out _)) | (with_reducible exact quiet_flip31 (HE1.out _))) | (go_at_call 15; with_reducible exact quiet_flip31 (HL0.out _))))
          clear q0 qa qb
          have PXd := px_call PXc.out (bw_drewN (Below.refl _ _) nq)
          generalize wr.drewN nq = V at *
          have q0 := kr_cell PXd.kr 2 rfl 0 _ rfl
          have qa := kr_cell PXd.kr 3 rfl 0 _ rfl
          obtain ⟨hz0, hci⟩ := cm_ci (d := [99, 97, 108, 109]) HC.out.inv (by simp) (by omega) HLD.out HC.out.lo (by have := HLE.out; show (n true).ep < (n false).ep; omega)
          have ca := calm_app PXd false
          rw [hz0] at ca
          have HCI : Hid _ := hci
          clear HZ HE0 HE1 HL0 HLE HLD HC PXc PXd hci hz0
          generalize (sApp (n false) [99, 97, 108, 109]).2.1 = u1 at ca
          generalize upd n false (sApp (n false) [99, 97, 108, 109]).1 = n1 at *
          go_upto_block 4 with (go_at_call 20; refine ca.mono ?_; rintro e w6 ⟨rfl, im6, lv6, PX6⟩)
          clear ca q0 qa kc
          have PX6 : Hid (PX w w6 D n1 ([] ++ (P, [.slice (some ⟨A, 0, none⟩) 2 2, wv, .int .i64 p.k]) :: (A, [.pointer (some ⟨D false, 0, none⟩), .pointer (some ⟨D true, 0, none⟩)]) :: wx) im6 lv6) := PX6
          go_wp2
          go_loopw [12] (fun v12 W => ∃ k : Nat, v12 = .int .i64 (k : Int) ∧ k ≤ 250 ∧ ∃ im lv, PX w W D (calmN n1 false k) ([] ++ (P, [.slice (some ⟨A, 0, none⟩) 2 2, wv, .int .i64 p.k]) :: (A, [.pointer (some ⟨D false, 0, none⟩), .pointer (some ⟨D true, 0, none⟩)]) :: wx) im lv) (fun v12 _ => 250 - (intOf v12).toNat)
          case atStart => exact ⟨0, rfl, by omega, _, _, PX6.out⟩
          case round =>
            clear PX6
            obtain ⟨k, rfl, hk, im, lv, PXk⟩ := hrel
            by_cases hlt : k < 250
            · have hki : (k : Int) < 250 := by omega
              obtain ⟨o1, o2, o3⟩ := (ci_end HCI.out (by omega)).2.2.2.2 k hlt
              have HN : Hid (calmN n1 false (k + 1) = calmR (calmN n1 false k) false) := rfl
              generalize calmN n1 false k = n2 at *
              have e1 := px_ship PXk false 3
              rw [o1] at e1
              have hbd := sShip_bd (PXk.nb false) 3
              obtain ⟨pp, hpp⟩ : ∃ pp, (sShip (n2 false) 3).1 = pp := ⟨_, rfl⟩
              rw [hpp] at e1 hbd o2 o3
              have HR : Hid (calmR n2 false = upd (upd n2 true (sTake (n2 true) pp).1) false (sTaken (n2 false) (sTake (n2 true) pp).2.1).1) := by unfold calmR; rw [hpp]; rfl
              have o2' : (sTake (n2 true) pp).2.2 = 0 := o2
              have o3' : (sTaken (n2 false) (sTake (n2 true) pp).2.1).2 = 0 := o3
              clear o1 o2 o3 hpp
              have q0 := kr_cell PXk.kr 2 rfl 0 _ rfl
              have qa := kr_cell PXk.kr 3 rfl 0 _ rfl
              obtain ⟨hb1, hb2⟩ := hbd
              have htk : ∀ (V' : World) (ys im' : List (Nat × List Value)) (s : Option Addr) (c : Nat), PX w V' D n2 ys im' lv → EL im' (.slice s pp.l.length c) pp.l → _ := fun V' ys im' s c hV hE => px_take hV true pp pp.l.length rfl (by omega) (fun y hy => by have := hb2 y hy; omega) s c hE
              generalize hst : sTake (n2 true) pp = st at *
              obtain ⟨nn, ⟨ae, ay, az⟩, er⟩ := st
              simp only at htk HR o2' o3'
              subst o2'
              have HTK : Hid _ := htk
              have HO3 : Hid _ := o3'
              clear hst htk hb1 hb2 o3' PXk
              obtain ⟨pe, pa, pb, pl, ps⟩ := pp
              simp only at e1 HTK
              obtain ⟨pm, hpm⟩ : ∃ pm, pl.length = pm := ⟨_, rfl⟩
              rw [hpm] at e1 HTK
              clear hpm
              go_upto_region 24 with (go_at_call 21; refine e1.mono ?_; rintro e w3 ⟨s, c, l, rfl, P3, E3⟩)
              clear e1 q0 qa
              have PV : PX w (w3.alloc (.cells #[.int .i64 pe, .int .i64 pa, .int .i64 pb, .slice s pm c, .int .i64 ps] 53)) D n2 _ (l ++ im) lv := px_new P3 [.int .i64 pe, .int .i64 pa, .int .i64 pb, .slice s pm c, .int .i64 ps] 53
              generalize w3.alloc (.cells #[.int .i64 pe, .int .i64 pa, .int .i64 pb, .slice s pm c, .int .i64 ps] 53) = V at *
              have PVd := px_call PV (bw_drew (Below.refl _ _))
              have PVa := px_call (px_new PV [.int .i64 0, .bool false, .int .i64 0] 57) (bw_drew (Below.refl _ _))
              have hEl := el_mono E3 (fun q hq => List.mem_append_left im hq)
              have cd := HTK.out _ _ _ s c PVd hEl
              have ca := HTK.out _ _ _ s c PVa hEl
              have hS0 : V.cell? ⟨P, 0, none⟩ = some (.slice (some ⟨A, 0, none⟩) 2 2) ∧ V.cell? ⟨A, 1, none⟩ = some (.pointer (some ⟨D true, 0, none⟩)) ∧ V.cell? ⟨w3.heap.size, 0, none⟩ = some (.int .i64 pe) ∧ V.cell? ⟨w3.heap.size, 1, none⟩ = some (.int .i64 pa) ∧ V.cell? ⟨w3.heap.size, 2, none⟩ = some (.int .i64 pb) ∧ V.cell? ⟨w3.heap.size, 3, none⟩ = some (.slice s pm c) ∧ V.cell? ⟨w3.heap.size, 4, none⟩ = some (.int .i64 ps) := calm_s3 PV 1 rfl
              obtain ⟨k0, k1, k2, k3, k4, k5, k6⟩ := hS0
              clear P3 E3 PV PVd PVa hEl HTK
              go_cut [15, 16] (fun v15 v16 wx' => ∃ g im' lv', v15 = .pointer (some ⟨g, 0, none⟩) ∧ v16 = .int .i64 0 ∧ PX w wx' D (upd n2 true nn) ((g, [.int .i64 ae, .bool ay, .int .i64 az]) :: (w3.heap.size, [.int .i64 pe, .int .i64 pa, .int .i64 pb, .slice s pm c, .int .i64 ps]) :: ([] ++ (P, [.slice (some ⟨A, 0, none⟩) 2 2, wv, .int .i64 p.k]) :: (A, [.pointer (some ⟨D false, 0, none⟩), .pointer (some ⟨D true, 0, none⟩)]) :: wx)) im' lv')
              case first =>
                have hw1 : IntKind.i64.wrap ((1 : Int) - 0) = 1 := rfl
                have hw2 : IntKind.i64.wrap 1 = 1 := rfl
                go_region_held3 (fun V => V.cell? ⟨P, 0, none⟩ = some (.slice (some ⟨A, 0, none⟩) 2 2) ∧ V.cell? ⟨A, 1, none⟩ = some (.pointer (some ⟨D true, 0, none⟩)) ∧ V.cell? ⟨w3.heap.size, 0, none⟩ = some (.int .i64 pe) ∧ V.cell? ⟨w3.heap.size, 1, none⟩ = some (.int .i64 pa) ∧ V.cell? ⟨w3.heap.size, 2, none⟩ = some (.int .i64 pb) ∧ V.cell? ⟨w3.heap.size, 3, none⟩ = some (.slice s pm c) ∧ V.cell? ⟨w3.heap.size, 4, none⟩ = some (.int .i64 ps)) (first | (with_reducible exact hS3) | (with_reducible exact hT3) | go_keep) ((go_at_call 22; first | ((with_reducible refine cd.mono ?_); rintro e w5 ⟨rfl, l5, lv5, P5⟩; have hS3 : w5.cell? ⟨P, 0, none⟩ = some (.slice (some ⟨A, 0, none⟩) 2 2) ∧ w5.cell? ⟨A, 1, none⟩ = some (.pointer (some ⟨D true, 0, none⟩)) ∧ w5.cell? ⟨w3.heap.size, 0, none⟩ = some (.int .i64 pe) ∧ w5.cell? ⟨w3.heap.size, 1, none⟩ = some (.int .i64 pa) ∧ w5.cell? ⟨w3.heap.size, 2, none⟩ = some (.int .i64 pb) ∧ w5.cell? ⟨w3.heap.size, 3, none⟩ = some (.slice s pm c) ∧ w5.cell? ⟨w3.heap.size, 4, none⟩ = some (.int .i64 ps) := calm_s3 P5 1 rfl) | ((with_reducible refine ca.mono ?_); rintro e w5 ⟨rfl, l5, lv5, P6⟩; obtain ⟨g0, g1, g2, f0, f1, f2⟩ := come_a3 P6; have hS3 : w5.cell? ⟨P, 0, none⟩ = some (.slice (some ⟨A, 0, none⟩) 2 2) ∧ w5.cell? ⟨A, 1, none⟩ = some (.pointer (some ⟨D true, 0, none⟩)) ∧ w5.cell? ⟨w3.heap.size, 0, none⟩ = some (.int .i64 pe) ∧ w5.cell? ⟨w3.heap.size, 1, none⟩ = some (.int .i64 pa) ∧ w5.cell? ⟨w3.heap.size, 2, none⟩ = some (.int .i64 pb) ∧ w5.cell? ⟨w3.heap.size, 3, none⟩ = some (.slice s pm c) ∧ w5.cell? ⟨w3.heap.size, 4, none⟩ = some (.int .i64 ps) := calm_s3 (px_sub P6 (List.sublist_cons_self _ _)) 1 rfl; have P7 := come_b3 P6 (.int .i64 ae) (.bool ay) (.int .i64 az); have hT3 : (((w5.setCell ⟨V.heap.size, 0, none⟩ (.int .i64 ae)).setCell ⟨V.heap.size, 1, none⟩ (.bool ay)).setCell ⟨V.heap.size, 2, none⟩ (.int .i64 az)).cell? ⟨P, 0, none⟩ = some (.slice (some ⟨A, 0, none⟩) 2 2) ∧ (((w5.setCell ⟨V.heap.size, 0, none⟩ (.int .i64 ae)).setCell ⟨V.heap.size, 1, none⟩ (.bool ay)).setCell ⟨V.heap.size, 2, none⟩ (.int .i64 az)).cell? ⟨A, 1, none⟩ = some (.pointer (some ⟨D true, 0, none⟩)) ∧ (((w5.setCell ⟨V.heap.size, 0, none⟩ (.int .i64 ae)).setCell ⟨V.heap.size, 1, none⟩ (.bool ay)).setCell ⟨V.heap.size, 2, none⟩ (.int .i64 az)).cell? ⟨w3.heap.size, 0, none⟩ = some (.int .i64 pe) ∧ (((w5.setCell ⟨V.heap.size, 0, none⟩ (.int .i64 ae)).setCell ⟨V.heap.size, 1, none⟩ (.bool ay)).setCell ⟨V.heap.size, 2, none⟩ (.int .i64 az)).cell? ⟨w3.heap.size, 1, none⟩ = some (.int .i64 pa) ∧ (((w5.setCell ⟨V.heap.size, 0, none⟩ (.int .i64 ae)).setCell ⟨V.heap.size, 1, none⟩ (.bool ay)).setCell ⟨V.heap.size, 2, none⟩ (.int .i64 az)).cell? ⟨w3.heap.size, 2, none⟩ = some (.int .i64 pb) ∧ (((w5.setCell ⟨V.heap.size, 0, none⟩ (.int .i64 ae)).setCell ⟨V.heap.size, 1, none⟩ (.bool ay)).setCell ⟨V.heap.size, 2, none⟩ (.int .i64 az)).cell? ⟨w3.heap.size, 3, none⟩ = some (.slice s pm c) ∧ (((w5.setCell ⟨V.heap.size, 0, none⟩ (.int .i64 ae)).setCell ⟨V.heap.size, 1, none⟩ (.bool ay)).setCell ⟨V.heap.size, 2, none⟩ (.int .i64 az)).cell? ⟨w3.heap.size, 4, none⟩ = some (.int .i64 ps) := calm_s3 (px_sub P7 (List.sublist_cons_self _ _)) 1 rfl)))
                go_wp2_with fail
                all_goals
                  go_meet
                  case rel => first | exact ⟨_, _, _, rfl, rfl, px_new P5 [.int .i64 ae, .bool ay, .int .i64 az] 57⟩ | exact ⟨_, _, _, rfl, rfl, P7⟩
              case rest =>
                obtain ⟨g, im', lv', rfl, rfl, P5⟩ := hcut
                clear cd ca k0 k1 k2 k3 k4 k5 k6
                have P5d := px_call P5 (bw_drew (Below.refl _ _))
                have e3 := px_taken P5d false (ae, ay, az)
                rw [show upd n2 true nn false = n2 false from rfl, HO3.out] at e3
                have q0 := kr_cell P5d.kr 4 rfl 0 _ rfl
                have qa := kr_cell P5d.kr 5 rfl 0 _ rfl
                have g0 := kr_cell P5d.kr 2 rfl 0 _ rfl
                have g1 := kr_cell P5d.kr 2 rfl 1 _ rfl
                have g2 := kr_cell P5d.kr 2 rfl 2 _ rfl
                clear P5 P5d
                go_upto_region 25 with fail
                go_still_tail 8, (by kernel_rfl)
                change wpList _ _ _ _ _ wc.drew
                generalize wc.drew = V2 at *
                go_wp2_with fail
                refine e3.mono ?_
                rintro e w6 ⟨rfl, P6⟩
                have P6 : Hid (PX w w6 D _ _ im' _) := P6
                clear q0 qa g0 g1 g2 e3
                go_wp2_with fail
                go_round
                case rel => exact ⟨k + 1, by go_num, by omega, _, _, by rw [HN.out, HR.out]; exact px_sub (px_sub P6.out (List.sublist_cons_self _ _)) (List.sublist_cons_self _ _)⟩
                case measure => simp [intOf]; omega
            · have hki : ¬ ((k : Int) < 250) := by omega
              have hk250 : k = 250 := by omega
              subst hk250
              obtain ⟨d1, d2, d3, d4, -⟩ := ci_end HCI.out (by omega)
              clear HCI
              generalize calmN n1 false 250 = n2 at *
              replace d1 : (n2 true).l = (n2 false).l := d1
              replace d3 : (n2 true).safe = (n2 false).l.length := d3
              replace d4 : (n2 true).ld = false := d4
              have he : (n2 true).l = (n2 false).l := d1
              have f0 : (n2 false).safe = (n2 false).l.length := by exact d2
              have f1 : (n2 true).safe = (n2 false).l.length := by exact d3
              have hLn := (PXk.nb false).len
              have hdat := (PXk.nb false).data
              have q0 := kr_cell PXk.kr 2 rfl 0 _ rfl
              have qa := kr_cell PXk.kr 3 rfl 0 _ rfl
              have e1 := px_log PXk false
              have HE : Hid ((n2 true).l = (n2 false).l) := he
              have HF0 : Hid ((n2 false).safe = (n2 false).l.length) := f0
              have HF1 : Hid ((n2 true).safe = (n2 false).l.length) := f1
              have HD4 : Hid ((n2 true).ld = false) := d4
              have HLn : Hid ((n2 false).l.length ≤ 4096) := hLn
              have HDT : Hid (∀ x ∈ (n2 false).l, x.2.length ≤ 60000) := hdat
              clear d1 d2 d3 d4 he f0 f1 hLn hdat PXk
              go_upto_region 29 with (first | (go_at_call 11; refine e1.mono ?_; rintro e w2 ⟨s2, c2, l2, rfl, P2, E2⟩; have e2 := px_tk P2 false E2; clear P2 E2) | (go_at_call 10; refine e2.mono ?_; rintro e w3 ⟨s3, c3, im3, rfl, -, P3, E3⟩))
              clear e1 e2 q0 qa
              have q0 := kr_cell P3.kr 2 rfl 0 _ rfl
              have qb := kr_cell P3.kr 3 rfl 1 _ rfl
              have e1 := px_log P3 true
              rw [HE.out] at e1
              have E3 : Hid (EL im3 (.slice s3 (n2 false).l.length c3) (n2 false).l) := E3
              clear P3
              go_wp2_with fail
              refine e1.mono ?_
              rintro e w4 ⟨s4, c4, l4, rfl, P4, E4⟩
              have e2 := px_tk P4 true (by rw [HE.out]; exact E4)
              rw [HE.out] at e2
              clear P4 E4 q0 qb e1
              go_wp2_with fail
              refine e2.mono ?_
              rintro e w5 ⟨s5, c5, im5, rfl, him5, P5, E5⟩
              clear e2
              have cs := px_same P5 (el_mono E3.out him5) E5 rfl (Nat.le_refl _) HDT.out HLn.out
              have P5 : Hid (PX w w5 D n2 _ im5 _) := P5
              clear E3 E5 him5
              go_wp2_with fail
              refine cs.mono ?_
              rintro e w6 ⟨rfl, q, rfl⟩
              clear cs
              have P6 := px_call P5.out (bw_drewN (Below.refl _ _) q)
              generalize w5.drewN q = V at *
              have q0 := kr_cell P6.kr 2 rfl 0 _ rfl
              have qa := kr_cell P6.kr 3 rfl 0 _ rfl
              have qb := kr_cell P6.kr 3 rfl 1 _ rfl
              have s0 := px_safe P6 false
              rw [HF0.out] at s0
              have s1 := px_safe P6 true
              rw [HF1.out] at s1
              have l1 := px_leads P6 true
              rw [HD4.out] at l1
              have HB : Hid (Below w.heap.size w V) := P6.kr.below
              clear P5 P6
              go_wp2_with (first | (go_at_call 12; first | ((with_reducible refine s0.mono ?_); rintro e w9 ⟨rfl, rfl⟩) | ((with_reducible refine s1.mono ?_); rintro e w9 ⟨rfl, rfl⟩)) | (go_at_call 15; refine l1.mono ?_; rintro e w9 ⟨rfl, rfl⟩))
              refine known31_k.mono ?_
              rintro e w10 ⟨rfl, hb10⟩
              have HB10 : Hid (Below V.heap.size V w10) := hb10
              clear hb10
              go_wp2_with fail
              go_ret
              exact ⟨rfl, bw_step HB.out HB10.out⟩

set_option maxRecDepth 100000 in
set_option maxHeartbeats 4000000 in
theorem calm_true {w : World} (sx : Option Addr) (len cap : Nat) (who : Int) (hwho : (Lit.int .i64 who).wf = true) (htw : two who = true) (c0 : SCR w sx len) : Calls Try.prog 5 #[.slice sx len cap, .int .i64 who] w fun e W' => e = .returned (.bool true) ∧ Below w.heap.size w W' := by
  obtain ⟨xs, hx, hlen, hs⟩ := c0
  have hleni : (len : Int) ≤ 9223372036854775807 := by omega
  have HX : Hid (xs.length = len) := hx
  have HS : Hid (∀ (j : Nat) (x : Int × Int × Int), xs[j]? = some x → ∃ A : Addr, sx = some A ∧ StAt w A j x) := hs
  have hb := begin_k (kr_refl w)
  have hct : ∀ V, Calls Try.prog 17 #[.int .i64 who, .int .i64 2] V fun e W' => e = .returned (.int .i64 1) ∧ W' = V := fun V => by
    have := cntx_k (w := V) who hwho 2 (by omega) (by omega)
    rw [two_bi, htw] at this
    exact this
  have HCT : Hid (∀ V, Calls Try.prog 17 #[.int .i64 who, .int .i64 2] V fun e W' => e = .returned (.int .i64 1) ∧ W' = V) := hct
  have kc := fun (w : World) (C : Array Value) (n c : Nat) => Lib.run_convert_bytes_const (P := Try.prog) w 41 5 C n c Try.underlying41 Try.underlying5
  clear hx hs hlen hct htw
  go_enter Try.func5, Try.ntmps5
  go_upto_block 0 with (go_at_call 8; refine hb.mono ?_; rintro e w1 ⟨P, A, D, rfl, HP⟩)
  have HP0 : Hid (PS w w1 P A D 0 pyNew) := ps_new HP
  clear hb HP
  go_cut [] (fun wx => ∃ (i : Nat) (p : PY), i ≤ 100 ∧ PS w wx P A D i p)
  case first =>
    clear kc HCT
    go_wp2
    go_loopw [6] (fun v6 W => ∃ (i : Nat) (p : PY), v6 = .int .i64 (i : Int) ∧ i ≤ 100 ∧ PS w W P A D i p) (fun v6 _ => 100 - (intOf v6).toNat)
    case atStart => exact ⟨0, pyNew, rfl, by omega, HP0.out⟩
    case round =>
      clear HP0
      obtain ⟨i, p, rfl, hi, HPS⟩ := hrel
      by_cases hlt : i < len
      · by_cases h120 : i < 100
        · have hlti : (i : Int) < (len : Int) := by omega
          have h120i : (i : Int) < 100 := by omega
          obtain ⟨x, hx⟩ : ∃ x, xs[i]? = some x := ⟨xs[i]'(by have := HX.out; omega), List.getElem?_eq_getElem _⟩
          obtain ⟨B, rfl, k0, k1, k2, e3⟩ := ps_call (len := len) HPS (by omega) HS.out hx
          rw [add_lit B _ _ (by omega)] at k1 k2
          clear HPS hx HS
          go_wp2_with (go_at_call 9; refine e3.mono ?_; rintro e w5 ⟨rfl, HP5⟩)
          go_round
          case rel => exact ⟨i + 1, _, by go_num, by omega, HP5⟩
          case measure => simp [intOf]; omega
        · have h120i : ¬ ((i : Int) < 100) := by omega
          have hlti : (i : Int) < (len : Int) := by omega
          have HPS : Hid (PS w wr P A D i p) := HPS
          clear HS
          go_wp2
          go_meet
          case rel => exact ⟨i, p, hi, HPS.out⟩
      · have hlti : ¬ ((i : Int) < (len : Int)) := by omega
        have HPS : Hid (PS w wr P A D i p) := HPS
        clear HS
        go_wp2
        go_meet
        case rel => exact ⟨i, p, hi, HPS.out⟩
  case rest =>
    obtain ⟨i, p, hi, HPS⟩ := hcut
    clear HP0 HS HX
    obtain ⟨⟨im, lv, wv, wx, us, -, HPL⟩, ⟨S, ⟨⟨G, eS, hni, -⟩, hepb⟩⟩, -, -⟩ := HPS
    have e1 := hepb false
    have e2 := hepb true
    have HC0 : Hid (CM w _ D ([] ++ (P, [.slice (some ⟨A, 0, none⟩) 2 2, wv, .int .i64 p.k]) :: (A, [.pointer (some ⟨D false, 0, none⟩), .pointer (some ⟨D true, 0, none⟩)]) :: wx) true i p.n) := ⟨⟨im, lv, HPL.px⟩, ⟨G, S, eS, hni⟩, by show (p.n false).ep ≤ 300; omega, by omega, fun _ => by omega⟩
    clear HPL hni hepb e1 e2
    generalize p.n = n0 at HC0
    go_upto_block 2 with (go_at_call 17; refine (HCT.out _).mono ?_; rintro e w2 ⟨rfl, rfl⟩)
    clear HCT
    go_wp2
    go_loopw [9] (fun _ W => ∃ n, CM w W D ([] ++ (P, [.slice (some ⟨A, 0, none⟩) 2 2, wv, .int .i64 p.k]) :: (A, [.pointer (some ⟨D false, 0, none⟩), .pointer (some ⟨D true, 0, none⟩)]) :: wx) true i n) (fun _ W => cmz D true W)
    case atStart => exact ⟨n0, HC0.out⟩
    case round =>
      clear HC0
      obtain ⟨n, HC⟩ := hrel
      obtain ⟨im, lv, PXc⟩ := HC.px
      have q0 := kr_cell PXc.kr 2 rfl 0 _ rfl
      have qa := kr_cell PXc.kr 3 rfl 0 _ rfl
      have qb := kr_cell PXc.kr 3 rfl 1 _ rfl
      have hz := px_cmz PXc true
      have HZ : Hid (cmz D true wr = ((n (!true)).ep - (n true).ep + 1).toNat + (if (n true).ld then 0 else 1)) := hz
      have E0 : ∀ nq, Calls Try.prog 16 #[.pointer (some ⟨D true, 0, none⟩)] (wr.drewN nq) fun e W' => e = .returned (.int .i64 (n true).ep) ∧ wr.drewN nq = W' := fun nq => px_epoch (px_call PXc (bw_drewN (Below.refl _ _) nq)) true
      have E1 : ∀ nq, Calls Try.prog 16 #[.pointer (some ⟨D false, 0, none⟩)] (wr.drewN nq) fun e W' => e = .returned (.int .i64 (n false).ep) ∧ wr.drewN nq = W' := fun nq => px_epoch (px_call PXc (bw_drewN (Below.refl _ _) nq)) false
      have L0 : ∀ nq, Calls Try.prog 15 #[.pointer (some ⟨D true, 0, none⟩)] (wr.drewN nq) fun e W' => e = .returned (.bool (n true).ld) ∧ wr.drewN nq = W' := fun nq => px_leads (px_call PXc (bw_drewN (Below.refl _ _) nq)) true
      have HE0 : Hid (∀ nq, Calls Try.prog 16 #[.pointer (some ⟨D true, 0, none⟩)] (wr.drewN nq) fun e W' => e = .returned (.int .i64 (n true).ep) ∧ wr.drewN nq = W') := E0
      have HE1 : Hid (∀ nq, Calls Try.prog 16 #[.pointer (some ⟨D false, 0, none⟩)] (wr.drewN nq) fun e W' => e = .returned (.int .i64 (n false).ep) ∧ wr.drewN nq = W') := E1
      have HL0 : Hid (∀ nq, Calls Try.prog 15 #[.pointer (some ⟨D true, 0, none⟩)] (wr.drewN nq) fun e W' => e = .returned (.bool (n true).ld) ∧ wr.drewN nq = W') := L0
      have HC : Hid (CM w wr D ([] ++ (P, [.slice (some ⟨A, 0, none⟩) 2 2, wv, .int .i64 p.k]) :: (A, [.pointer (some ⟨D false, 0, none⟩), .pointer (some ⟨D true, 0, none⟩)]) :: wx) true i n) := HC
      have PXc : Hid (PX w wr D n ([] ++ (P, [.slice (some ⟨A, 0, none⟩) 2 2, wv, .int .i64 p.k]) :: (A, [.pointer (some ⟨D false, 0, none⟩), .pointer (some ⟨D true, 0, none⟩)]) :: wx) im lv) := PXc
      clear E0 E1 L0 hz
      by_cases hle : (n true).ep ≤ (n false).ep
      · have hlB : decide ((n true).ep ≤ (n false).ep) = true := by simp [hle]
        have HLE : Hid ((n true).ep ≤ (n false).ep) := hle
        cases hl : (n true).ld with
        | true =>
          clear hle
          rw [hl] at HL0
          have HLD : Hid ((n true).ld = true) := hl
          clear hl
          go_upto_region 9 with fail
          go_quiet ((go_at_call 16; first | (with_reducible exact quiet_flip31 (HE0.out _)) | (with_reducible exact quiet_flip31 (HE1.out _))))
          clear q0 qa qb
          have PXd := px_call PXc.out (bw_drewN (Below.refl _ _) nq)
          generalize wr.drewN nq = V at *
          have q0 := kr_cell PXd.kr 2 rfl 0 _ rfl
          have qa := kr_cell PXd.kr 3 rfl 1 _ rfl
          have L1 := px_leads PXd true
          rw [HLD.out] at L1
          have D1 := px_dem PXd true
          have HC1 : Hid (∀ W' lv', PX w W' D (upd n true (sDem (n true)).1) ([] ++ (P, [.slice (some ⟨A, 0, none⟩) 2 2, wv, .int .i64 p.k]) :: (A, [.pointer (some ⟨D false, 0, none⟩), .pointer (some ⟨D true, 0, none⟩)]) :: wx) im lv' → CM w W' D ([] ++ (P, [.slice (some ⟨A, 0, none⟩) 2 2, wv, .int .i64 p.k]) :: (A, [.pointer (some ⟨D false, 0, none⟩), .pointer (some ⟨D true, 0, none⟩)]) :: wx) true i (upd n true (sDem (n true)).1)) := fun W' lv' h => cm_dem HC.out HLE.out h
          clear PXd
          go_upto_region 12 with (first | (go_at_call 15; refine L1.mono ?_; rintro e w3 ⟨rfl, rfl⟩) | (go_at_call 18; refine D1.mono ?_; rintro e w4 ⟨rfl, PXe⟩))
          clear q0 qa L1 D1
          have HC2 := HC1.out _ _ PXe
          have hpr := cm_pr HC2 (by rw [upd_same]; exact sDem_off _)
          have cp := px_prom PXe true
          rw [hpr.1] at cp
          have q0 := kr_cell PXe.kr 2 rfl 0 _ rfl
          have qa := kr_cell PXe.kr 3 rfl 1 _ rfl
          have HPR : Hid _ := hpr
          have HC2 : Hid (CM w _ D ([] ++ (P, [.slice (some ⟨A, 0, none⟩) 2 2, wv, .int .i64 p.k]) :: (A, [.pointer (some ⟨D false, 0, none⟩), .pointer (some ⟨D true, 0, none⟩)]) :: wx) true i _) := HC2
          clear HC1 PXe hpr
          go_wp2_with (go_at_call 19; refine cp.mono ?_; rintro e w5 ⟨rfl, PXf⟩)
          go_round
          case rel => exact ⟨_, (cm_prom HC2.out (by rw [upd_same]; exact sDem_off _) PXf).1⟩
          case measure =>
            show cmz D true _ < cmz D true _
            have h1 := HPR.out
            have h2 := HLE.out
            have h3 := HLD.out
            have hm := px_cmz PXf true
            simp only [upd_same] at h1 hm
            rw [show upd (upd n true (sDem (n true)).1) true (sProm (sDem (n true)).1).1 (!true) = n false from by simp [upd], h1.2.1] at hm
            rw [hm, HZ.out, h3]
            have h4 := h1.2.2
            rw [sDem_ep] at h4
            have h5 : (n (!true)).ep = (n false).ep := rfl
            simp only [if_true, Nat.add_zero]
            omega
        | false =>
          clear hle
          rw [hl] at HL0
          have HLD : Hid ((n true).ld = false) := hl
          clear hl
          go_upto_region 9 with fail
          go_quiet ((go_at_call 16; first | (with_reducible exact quiet_flip31 (HE0.out _)) | (with_reducible exact quiet_flip31 (HE1.out _))))
          clear q0 qa qb
          have PXd := px_call PXc.out (bw_drewN (Below.refl _ _) nq)
          generalize wr.drewN nq = V at *
          have q0 := kr_cell PXd.kr 2 rfl 0 _ rfl
          have qa := kr_cell PXd.kr 3 rfl 1 _ rfl
          have L1 := px_leads PXd true
          rw [HLD.out] at L1
          have hpr := cm_pr HC.out HLD.out
          have cp := px_prom PXd true
          rw [hpr.1] at cp
          have HPR : Hid _ := hpr
          clear PXd hpr
          go_wp2_with (first | (go_at_call 15; refine L1.mono ?_; rintro e w3 ⟨rfl, rfl⟩) | (go_at_call 19; refine cp.mono ?_; rintro e w5 ⟨rfl, PXf⟩))
          go_round
          case rel => exact ⟨_, (cm_prom HC.out HLD.out PXf).1⟩
          case measure =>
            show cmz D true _ < cmz D true _
            have h1 := HPR.out
            have h3 := HLD.out
            rw [px_cmz PXf true, HZ.out, upd_same, h1.2.1, h3]
            rw [show upd n true (sProm (n true)).1 (!true) = n false from by simp [upd]]
            simp only [Bool.not_false, Bool.not_true, if_true]
            have h4 := h1.2.2
            have h5 : (n (!true)).ep = (n false).ep := rfl
            rw [if_neg (by simp)]
            omega
      · have hlB : decide ((n true).ep ≤ (n false).ep) = false := by simpa using hle
        have HLE : Hid (¬ (n true).ep ≤ (n false).ep) := hle
        clear hle
        cases hl : (n true).ld with
        | false =>
          rw [hl] at HL0
          have HLD : Hid ((n true).ld = false) := hl
          clear hl
          go_upto_region 9 with fail
          go_quiet ((first | (go_at_call 16; first | (with_reducible exact quiet_flip31 (HE0.out _)) | (with_reducible exact quiet_flip31 (HE1.out _))) | (go_at_call 15; with_reducible exact quiet_flip31 (HL0.out _))))
          clear q0 qa qb
          have PXd := px_call PXc.out (bw_drewN (Below.refl _ _) nq)
          generalize wr.drewN nq = V at *
          have q0 := kr_cell PXd.kr 2 rfl 0 _ rfl
          have qa := kr_cell PXd.kr 3 rfl 1 _ rfl
          have L1 := px_leads PXd true
          rw [HLD.out] at L1
          have hpr := cm_pr HC.out HLD.out
          have cp := px_prom PXd true
          rw [hpr.1] at cp
          have HPR : Hid _ := hpr
          clear PXd hpr
          go_wp2_with (first | (go_at_call 15; refine L1.mono ?_; rintro e w3 ⟨rfl, rfl⟩) | (go_at_call 19; refine cp.mono ?_; rintro e w5 ⟨rfl, PXf⟩))
          go_round
          case rel => exact ⟨_, (cm_prom HC.out HLD.out PXf).1⟩
          case measure =>
            show cmz D true _ < cmz D true _
            have h1 := HPR.out
            have h3 := HLD.out
            rw [px_cmz PXf true, HZ.out, upd_same, h1.2.1, h3]
            rw [show upd n true (sProm (n true)).1 (!true) = n false from by simp [upd]]
            simp only [Bool.not_false, Bool.not_true, if_true]
            have h4 := h1.2.2
            have h5 : (n (!true)).ep = (n false).ep := rfl
            rw [if_neg (by simp)]
            omega
        | true =>
          rw [hl] at HL0
          have HLD : Hid ((n true).ld = true) := hl
          clear hl
          go_upto_region 9 with fail
          go_quiet ((first | (go_at_call 16; first | (with_reducible exact quiet_flip31 (HE0.out _)) | (with_reducible exact quiet_flip31 (HE1.out _))) | (go_at_call 15; with_reducible exact quiet_flip31 (HL0.out _))))
          clear q0 qa qb
          have PXd := px_call PXc.out (bw_drewN (Below.refl _ _) nq)
          generalize wr.drewN nq = V at *
          have q0 := kr_cell PXd.kr 2 rfl 0 _ rfl
          have qa := kr_cell PXd.kr 3 rfl 1 _ rfl
          obtain ⟨hz0, hci⟩ := cm_ci (d := [99, 97, 108, 109]) HC.out.inv (by simp) (by omega) HLD.out HC.out.lo (by have := HLE.out; show (n false).ep < (n true).ep; omega)
          have ca := calm_app PXd true
          rw [hz0] at ca
          have HCI : Hid _ := hci
          clear HZ HE0 HE1 HL0 HLE HLD HC PXc PXd hci hz0
          generalize (sApp (n true) [99, 97, 108, 109]).2.1 = u1 at ca
          generalize upd n true (sApp (n true) [99, 97, 108, 109]).1 = n1 at *
          go_upto_block 4 with (go_at_call 20; refine ca.mono ?_; rintro e w6 ⟨rfl, im6, lv6, PX6⟩)
          clear ca q0 qa kc
          have PX6 : Hid (PX w w6 D n1 ([] ++ (P, [.slice (some ⟨A, 0, none⟩) 2 2, wv, .int .i64 p.k]) :: (A, [.pointer (some ⟨D false, 0, none⟩), .pointer (some ⟨D true, 0, none⟩)]) :: wx) im6 lv6) := PX6
          go_wp2
          go_loopw [12] (fun v12 W => ∃ k : Nat, v12 = .int .i64 (k : Int) ∧ k ≤ 250 ∧ ∃ im lv, PX w W D (calmN n1 true k) ([] ++ (P, [.slice (some ⟨A, 0, none⟩) 2 2, wv, .int .i64 p.k]) :: (A, [.pointer (some ⟨D false, 0, none⟩), .pointer (some ⟨D true, 0, none⟩)]) :: wx) im lv) (fun v12 _ => 250 - (intOf v12).toNat)
          case atStart => exact ⟨0, rfl, by omega, _, _, PX6.out⟩
          case round =>
            clear PX6
            obtain ⟨k, rfl, hk, im, lv, PXk⟩ := hrel
            by_cases hlt : k < 250
            · have hki : (k : Int) < 250 := by omega
              obtain ⟨o1, o2, o3⟩ := (ci_end HCI.out (by omega)).2.2.2.2 k hlt
              have HN : Hid (calmN n1 true (k + 1) = calmR (calmN n1 true k) true) := rfl
              generalize calmN n1 true k = n2 at *
              have e1 := px_ship PXk true 3
              rw [o1] at e1
              have hbd := sShip_bd (PXk.nb true) 3
              obtain ⟨pp, hpp⟩ : ∃ pp, (sShip (n2 true) 3).1 = pp := ⟨_, rfl⟩
              rw [hpp] at e1 hbd o2 o3
              have HR : Hid (calmR n2 true = upd (upd n2 false (sTake (n2 false) pp).1) true (sTaken (n2 true) (sTake (n2 false) pp).2.1).1) := by unfold calmR; rw [hpp]; rfl
              have o2' : (sTake (n2 false) pp).2.2 = 0 := o2
              have o3' : (sTaken (n2 true) (sTake (n2 false) pp).2.1).2 = 0 := o3
              clear o1 o2 o3 hpp
              have q0 := kr_cell PXk.kr 2 rfl 0 _ rfl
              have qa := kr_cell PXk.kr 3 rfl 1 _ rfl
              obtain ⟨hb1, hb2⟩ := hbd
              have htk : ∀ (V' : World) (ys im' : List (Nat × List Value)) (s : Option Addr) (c : Nat), PX w V' D n2 ys im' lv → EL im' (.slice s pp.l.length c) pp.l → _ := fun V' ys im' s c hV hE => px_take hV false pp pp.l.length rfl (by omega) (fun y hy => by have := hb2 y hy; omega) s c hE
              generalize hst : sTake (n2 false) pp = st at *
              obtain ⟨nn, ⟨ae, ay, az⟩, er⟩ := st
              simp only at htk HR o2' o3'
              subst o2'
              have HTK : Hid _ := htk
              have HO3 : Hid _ := o3'
              clear hst htk hb1 hb2 o3' PXk
              obtain ⟨pe, pa, pb, pl, ps⟩ := pp
              simp only at e1 HTK
              obtain ⟨pm, hpm⟩ : ∃ pm, pl.length = pm := ⟨_, rfl⟩
              rw [hpm] at e1 HTK
              clear hpm
              go_upto_region 24 with (go_at_call 21; refine e1.mono ?_; rintro e w3 ⟨s, c, l, rfl, P3, E3⟩)
              clear e1 q0 qa
              have PV : PX w (w3.alloc (.cells #[.int .i64 pe, .int .i64 pa, .int .i64 pb, .slice s pm c, .int .i64 ps] 53)) D n2 _ (l ++ im) lv := px_new P3 [.int .i64 pe, .int .i64 pa, .int .i64 pb, .slice s pm c, .int .i64 ps] 53
              generalize w3.alloc (.cells #[.int .i64 pe, .int .i64 pa, .int .i64 pb, .slice s pm c, .int .i64 ps] 53) = V at *
              have PVd := px_call PV (bw_drew (Below.refl _ _))
              have PVa := px_call (px_new PV [.int .i64 0, .bool false, .int .i64 0] 57) (bw_drew (Below.refl _ _))
              have hEl := el_mono E3 (fun q hq => List.mem_append_left im hq)
              have cd := HTK.out _ _ _ s c PVd hEl
              have ca := HTK.out _ _ _ s c PVa hEl
              have hS0 : V.cell? ⟨P, 0, none⟩ = some (.slice (some ⟨A, 0, none⟩) 2 2) ∧ V.cell? ⟨A, 0, none⟩ = some (.pointer (some ⟨D false, 0, none⟩)) ∧ V.cell? ⟨w3.heap.size, 0, none⟩ = some (.int .i64 pe) ∧ V.cell? ⟨w3.heap.size, 1, none⟩ = some (.int .i64 pa) ∧ V.cell? ⟨w3.heap.size, 2, none⟩ = some (.int .i64 pb) ∧ V.cell? ⟨w3.heap.size, 3, none⟩ = some (.slice s pm c) ∧ V.cell? ⟨w3.heap.size, 4, none⟩ = some (.int .i64 ps) := calm_s3 PV 0 rfl
              obtain ⟨k0, k1, k2, k3, k4, k5, k6⟩ := hS0
              clear P3 E3 PV PVd PVa hEl HTK
              go_cut [15, 16] (fun v15 v16 wx' => ∃ g im' lv', v15 = .pointer (some ⟨g, 0, none⟩) ∧ v16 = .int .i64 0 ∧ PX w wx' D (upd n2 false nn) ((g, [.int .i64 ae, .bool ay, .int .i64 az]) :: (w3.heap.size, [.int .i64 pe, .int .i64 pa, .int .i64 pb, .slice s pm c, .int .i64 ps]) :: ([] ++ (P, [.slice (some ⟨A, 0, none⟩) 2 2, wv, .int .i64 p.k]) :: (A, [.pointer (some ⟨D false, 0, none⟩), .pointer (some ⟨D true, 0, none⟩)]) :: wx)) im' lv')
              case first =>
                have hw1 : IntKind.i64.wrap ((1 : Int) - 1) = 0 := rfl
                have hw2 : IntKind.i64.wrap 0 = 0 := rfl
                go_region_held3 (fun V => V.cell? ⟨P, 0, none⟩ = some (.slice (some ⟨A, 0, none⟩) 2 2) ∧ V.cell? ⟨A, 0, none⟩ = some (.pointer (some ⟨D false, 0, none⟩)) ∧ V.cell? ⟨w3.heap.size, 0, none⟩ = some (.int .i64 pe) ∧ V.cell? ⟨w3.heap.size, 1, none⟩ = some (.int .i64 pa) ∧ V.cell? ⟨w3.heap.size, 2, none⟩ = some (.int .i64 pb) ∧ V.cell? ⟨w3.heap.size, 3, none⟩ = some (.slice s pm c) ∧ V.cell? ⟨w3.heap.size, 4, none⟩ = some (.int .i64 ps)) (first | (with_reducible exact hS3) | (with_reducible exact hT3) | go_keep) ((go_at_call 22; first | ((with_reducible refine cd.mono ?_); rintro e w5 ⟨rfl, l5, lv5, P5⟩; have hS3 : w5.cell? ⟨P, 0, none⟩ = some (.slice (some ⟨A, 0, none⟩) 2 2) ∧ w5.cell? ⟨A, 0, none⟩ = some (.pointer (some ⟨D false, 0, none⟩)) ∧ w5.cell? ⟨w3.heap.size, 0, none⟩ = some (.int .i64 pe) ∧ w5.cell? ⟨w3.heap.size, 1, none⟩ = some (.int .i64 pa) ∧ w5.cell? ⟨w3.heap.size, 2, none⟩ = some (.int .i64 pb) ∧ w5.cell? ⟨w3.heap.size, 3, none⟩ = some (.slice s pm c) ∧ w5.cell? ⟨w3.heap.size, 4, none⟩ = some (.int .i64 ps) := calm_s3 P5 0 rfl) | ((with_reducible refine ca.mono ?_); rintro e w5 ⟨rfl, l5, lv5, P6⟩; obtain ⟨g0, g1, g2, f0, f1, f2⟩ := come_a3 P6; have hS3 : w5.cell? ⟨P, 0, none⟩ = some (.slice (some ⟨A, 0, none⟩) 2 2) ∧ w5.cell? ⟨A, 0, none⟩ = some (.pointer (some ⟨D false, 0, none⟩)) ∧ w5.cell? ⟨w3.heap.size, 0, none⟩ = some (.int .i64 pe) ∧ w5.cell? ⟨w3.heap.size, 1, none⟩ = some (.int .i64 pa) ∧ w5.cell? ⟨w3.heap.size, 2, none⟩ = some (.int .i64 pb) ∧ w5.cell? ⟨w3.heap.size, 3, none⟩ = some (.slice s pm c) ∧ w5.cell? ⟨w3.heap.size, 4, none⟩ = some (.int .i64 ps) := calm_s3 (px_sub P6 (List.sublist_cons_self _ _)) 0 rfl; have P7 := come_b3 P6 (.int .i64 ae) (.bool ay) (.int .i64 az); have hT3 : (((w5.setCell ⟨V.heap.size, 0, none⟩ (.int .i64 ae)).setCell ⟨V.heap.size, 1, none⟩ (.bool ay)).setCell ⟨V.heap.size, 2, none⟩ (.int .i64 az)).cell? ⟨P, 0, none⟩ = some (.slice (some ⟨A, 0, none⟩) 2 2) ∧ (((w5.setCell ⟨V.heap.size, 0, none⟩ (.int .i64 ae)).setCell ⟨V.heap.size, 1, none⟩ (.bool ay)).setCell ⟨V.heap.size, 2, none⟩ (.int .i64 az)).cell? ⟨A, 0, none⟩ = some (.pointer (some ⟨D false, 0, none⟩)) ∧ (((w5.setCell ⟨V.heap.size, 0, none⟩ (.int .i64 ae)).setCell ⟨V.heap.size, 1, none⟩ (.bool ay)).setCell ⟨V.heap.size, 2, none⟩ (.int .i64 az)).cell? ⟨w3.heap.size, 0, none⟩ = some (.int .i64 pe) ∧ (((w5.setCell ⟨V.heap.size, 0, none⟩ (.int .i64 ae)).setCell ⟨V.heap.size, 1, none⟩ (.bool ay)).setCell ⟨V.heap.size, 2, none⟩ (.int .i64 az)).cell? ⟨w3.heap.size, 1, none⟩ = some (.int .i64 pa) ∧ (((w5.setCell ⟨V.heap.size, 0, none⟩ (.int .i64 ae)).setCell ⟨V.heap.size, 1, none⟩ (.bool ay)).setCell ⟨V.heap.size, 2, none⟩ (.int .i64 az)).cell? ⟨w3.heap.size, 2, none⟩ = some (.int .i64 pb) ∧ (((w5.setCell ⟨V.heap.size, 0, none⟩ (.int .i64 ae)).setCell ⟨V.heap.size, 1, none⟩ (.bool ay)).setCell ⟨V.heap.size, 2, none⟩ (.int .i64 az)).cell? ⟨w3.heap.size, 3, none⟩ = some (.slice s pm c) ∧ (((w5.setCell ⟨V.heap.size, 0, none⟩ (.int .i64 ae)).setCell ⟨V.heap.size, 1, none⟩ (.bool ay)).setCell ⟨V.heap.size, 2, none⟩ (.int .i64 az)).cell? ⟨w3.heap.size, 4, none⟩ = some (.int .i64 ps) := calm_s3 (px_sub P7 (List.sublist_cons_self _ _)) 0 rfl)))
                go_wp2_with fail
                all_goals
                  go_meet
                  case rel => first | exact ⟨_, _, _, rfl, rfl, px_new P5 [.int .i64 ae, .bool ay, .int .i64 az] 57⟩ | exact ⟨_, _, _, rfl, rfl, P7⟩
              case rest =>
                obtain ⟨g, im', lv', rfl, rfl, P5⟩ := hcut
                clear cd ca k0 k1 k2 k3 k4 k5 k6
                have P5d := px_call P5 (bw_drew (Below.refl _ _))
                have e3 := px_taken P5d true (ae, ay, az)
                rw [show upd n2 false nn true = n2 true from rfl, HO3.out] at e3
                have q0 := kr_cell P5d.kr 4 rfl 0 _ rfl
                have qa := kr_cell P5d.kr 5 rfl 1 _ rfl
                have g0 := kr_cell P5d.kr 2 rfl 0 _ rfl
                have g1 := kr_cell P5d.kr 2 rfl 1 _ rfl
                have g2 := kr_cell P5d.kr 2 rfl 2 _ rfl
                clear P5 P5d
                go_upto_region 25 with fail
                go_still_tail 8, (by kernel_rfl)
                change wpList _ _ _ _ _ wc.drew
                generalize wc.drew = V2 at *
                go_wp2_with fail
                refine e3.mono ?_
                rintro e w6 ⟨rfl, P6⟩
                have P6 : Hid (PX w w6 D _ _ im' _) := P6
                clear q0 qa g0 g1 g2 e3
                go_wp2_with fail
                go_round
                case rel => exact ⟨k + 1, by go_num, by omega, _, _, by rw [HN.out, HR.out]; exact px_sub (px_sub P6.out (List.sublist_cons_self _ _)) (List.sublist_cons_self _ _)⟩
                case measure => simp [intOf]; omega
            · have hki : ¬ ((k : Int) < 250) := by omega
              have hk250 : k = 250 := by omega
              subst hk250
              obtain ⟨d1, d2, d3, d4, -⟩ := ci_end HCI.out (by omega)
              clear HCI
              generalize calmN n1 true 250 = n2 at *
              replace d1 : (n2 false).l = (n2 true).l := d1
              replace d3 : (n2 false).safe = (n2 true).l.length := d3
              replace d4 : (n2 false).ld = false := d4
              have he : (n2 true).l = (n2 false).l := d1.symm
              have f0 : (n2 false).safe = (n2 false).l.length := by rw [d3, d1]
              have f1 : (n2 true).safe = (n2 false).l.length := by rw [d2, d1]
              have hLn := (PXk.nb false).len
              have hdat := (PXk.nb false).data
              have q0 := kr_cell PXk.kr 2 rfl 0 _ rfl
              have qa := kr_cell PXk.kr 3 rfl 0 _ rfl
              have e1 := px_log PXk false
              have HE : Hid ((n2 true).l = (n2 false).l) := he
              have HF0 : Hid ((n2 false).safe = (n2 false).l.length) := f0
              have HF1 : Hid ((n2 true).safe = (n2 false).l.length) := f1
              have HD4 : Hid ((n2 false).ld = false) := d4
              have HLn : Hid ((n2 false).l.length ≤ 4096) := hLn
              have HDT : Hid (∀ x ∈ (n2 false).l, x.2.length ≤ 60000) := hdat
              clear d1 d2 d3 d4 he f0 f1 hLn hdat PXk
              go_upto_region 29 with (first | (go_at_call 11; refine e1.mono ?_; rintro e w2 ⟨s2, c2, l2, rfl, P2, E2⟩; have e2 := px_tk P2 false E2; clear P2 E2) | (go_at_call 10; refine e2.mono ?_; rintro e w3 ⟨s3, c3, im3, rfl, -, P3, E3⟩))
              clear e1 e2 q0 qa
              have q0 := kr_cell P3.kr 2 rfl 0 _ rfl
              have qb := kr_cell P3.kr 3 rfl 1 _ rfl
              have e1 := px_log P3 true
              rw [HE.out] at e1
              have E3 : Hid (EL im3 (.slice s3 (n2 false).l.length c3) (n2 false).l) := E3
              clear P3
              go_wp2_with fail
              refine e1.mono ?_
              rintro e w4 ⟨s4, c4, l4, rfl, P4, E4⟩
              have e2 := px_tk P4 true (by rw [HE.out]; exact E4)
              rw [HE.out] at e2
              clear P4 E4 q0 qb e1
              go_wp2_with fail
              refine e2.mono ?_
              rintro e w5 ⟨s5, c5, im5, rfl, him5, P5, E5⟩
              clear e2
              have cs := px_same P5 (el_mono E3.out him5) E5 rfl (Nat.le_refl _) HDT.out HLn.out
              have P5 : Hid (PX w w5 D n2 _ im5 _) := P5
              clear E3 E5 him5
              go_wp2_with fail
              refine cs.mono ?_
              rintro e w6 ⟨rfl, q, rfl⟩
              clear cs
              have P6 := px_call P5.out (bw_drewN (Below.refl _ _) q)
              generalize w5.drewN q = V at *
              have q0 := kr_cell P6.kr 2 rfl 0 _ rfl
              have qa := kr_cell P6.kr 3 rfl 0 _ rfl
              have qb := kr_cell P6.kr 3 rfl 1 _ rfl
              have s0 := px_safe P6 false
              rw [HF0.out] at s0
              have s1 := px_safe P6 true
              rw [HF1.out] at s1
              have l1 := px_leads P6 false
              rw [HD4.out] at l1
              have HB : Hid (Below w.heap.size w V) := P6.kr.below
              clear P5 P6
              go_wp2_with (first | (go_at_call 12; first | ((with_reducible refine s0.mono ?_); rintro e w9 ⟨rfl, rfl⟩) | ((with_reducible refine s1.mono ?_); rintro e w9 ⟨rfl, rfl⟩)) | (go_at_call 15; refine l1.mono ?_; rintro e w9 ⟨rfl, rfl⟩))
              refine known31_k.mono ?_
              rintro e w10 ⟨rfl, hb10⟩
              have HB10 : Hid (Below V.heap.size V w10) := hb10
              clear hb10
              go_wp2_with fail
              go_ret
              exact ⟨rfl, bw_step HB.out HB10.out⟩

theorem shipCalm_any {w : World} (sx : Option Addr) (len cap : Nat) (who : Int) (hwho : (Lit.int .i64 who).wf = true) (c0 : SCR w sx len) : Calls Try.prog 5 #[.slice sx len cap, .int .i64 who] w fun e W' => e = .returned (.bool true) ∧ Below w.heap.size w W' := by
  cases h : two who with
  | false => exact calm_false sx len cap who hwho h c0
  | true => exact calm_true sx len cap who hwho h c0
end Go.Proofs.Ytofpkmfjigjlhaa.Own
