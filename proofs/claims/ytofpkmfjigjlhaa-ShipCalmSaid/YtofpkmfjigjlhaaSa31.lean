/- ShipSame, walked. No conditions beside those in the lemmas. -/
import Derived.Test.YtofpkmfjigjlhaaSc31
import Derived.Deep.CutBlock
import Derived.Test.YtofpkmfjigjlhaaStq
namespace Go.Proofs.Ytofpkmfjigjlhaa.Own
open Go.RowKit Go.WideShapes Go.ChangeShapes Go.Deep
set_option linter.unusedSimpArgs false
set_option linter.unusedVariables false
theorem add_lit (A : Addr) (m j : Nat) (hj : 0 < j) : A.add (m + j) = ⟨(A.add m).block, (A.add m).off + j, none⟩ := by
  unfold Addr.add
  rw [if_neg (by omega)]
  split
  · rename_i h
    subst h
    simp
  · simp [Nat.add_assoc]
theorem ple_below {w W : World} {P A : Nat} {D : Bool → Nat} {p : PY} {im : List (Nat × List Value)} (h : PLE w W P A D p im) : Below w.heap.size w W := by
  obtain ⟨_, _, _, _, _, _, h⟩ := h
  exact h.px.kr.below
theorem px_more {w W W' : World} {D : Bool → Nat} {n : Bool → SN} {xs im l : List (Nat × List Value)} {lv : Bool → Value} (h : PX w W D n xs im lv) (hk : KR w (l ++ ((D false, ncl (n false) (lv false)) :: (D true, ncl (n true) (lv true)) :: (xs ++ im))) W') : PX w W' D n xs (l ++ im) lv := by
  have := kr_permA hk (perm_wx _ _ _ _ _).symm
  rw [List.append_assoc] at this
  exact ⟨this, fun b => el_mono (h.el b) (fun q hq => List.mem_append_right _ hq), h.nb⟩
/-- A log, taken. -/
theorem px_tk {w W : World} {D : Bool → Nat} {n : Bool → SN} {xs l im : List (Nat × List Value)} {lv : Bool → Value} (h : PX w W D n xs (l ++ im) lv) (b : Bool) {s : Option Addr} {c : Nat} (he : EL l (.slice s (n b).l.length c) (n b).l) :
    Calls Try.prog 10 #[.slice s (n b).l.length c] W fun e W' => ∃ s' c' im', e = .returned (.slice s' (n b).l.length c') ∧ (∀ q ∈ im, q ∈ im') ∧ PX w W' D n xs im' lv ∧ EL im' (.slice s' (n b).l.length c') (n b).l :=
  (taken31_k h.kr (fun p hp => List.mem_cons_of_mem _ (List.mem_cons_of_mem _ (List.mem_append_right _ (List.mem_append_left _ hp)))) (n b).l _ rfl (by have := (h.nb b).len; omega) s c he).mono (by
    rintro e W' ⟨v, l3, rfl, h1, h2⟩
    obtain ⟨s', c', rfl, _⟩ := el_form h2
    refine ⟨s', c', _, rfl, fun q hq => List.mem_append_right _ (List.mem_append_right _ hq), px_more h h1, el_mono h2 (fun q hq => ?_)⟩
    rcases List.mem_append.1 hq with hq | hq
    · exact List.mem_append_left _ hq
    · exact List.mem_append_right _ (List.mem_append_left _ hq))
theorem px_elv {w W : World} {D : Bool → Nat} {n : Bool → SN} {xs im : List (Nat × List Value)} {lv : Bool → Value} {s : Option Addr} {N c : Nat} {es : List SE} (h : PX w W D n xs im lv) (hE : EL im (.slice s N c) es) : ELV W s es ∧ (s = none ∨ ∃ b, s = some ⟨b, 0, none⟩) := by
  obtain ⟨sp, cap, he, _, h1, h2⟩ := el_elv h.kr (el_mono hE (fun q hq => List.mem_cons_of_mem _ (List.mem_cons_of_mem _ (List.mem_append_right _ hq))))
  injection he with h3 _ _; subst h3; exact ⟨h1, h2⟩
/-- An entry's epoch. -/
theorem px_ep {w W : World} {D : Bool → Nat} {n : Bool → SN} {xs im : List (Nat × List Value)} {lv : Bool → Value} {s : Option Addr} {N c : Nat} {es : List SE} (h : PX w W D n xs im lv) (hE : EL im (.slice s N c) es) {k : Nat} {x : SE} (hx : es[k]? = some x) : ∃ b, s = some ⟨b, 0, none⟩ ∧ W.cell? ⟨b, k * 2, none⟩ = some (.int .i64 x.1) := by
  obtain ⟨h1, h2⟩ := px_elv h hE
  obtain ⟨A, hA, hc⟩ := h1 (by have := (List.getElem?_eq_some_iff.1 hx).1; omega)
  obtain ⟨_, _, h3, _⟩ := hc k x hx
  rcases h2 with h2 | ⟨b, h2⟩
  · rw [h2] at hA; cases hA
  · rw [h2] at hA
    injection hA with hA
    subst hA
    rw [Addr.add_mid, Nat.zero_add] at h3
    exact ⟨b, h2, h3⟩
/-- A play behind some steps. -/
def PS (w W : World) (P A : Nat) (D : Bool → Nat) (i : Nat) (p : PY) : Prop := PLE w W P A D p [] ∧ (∃ S, PI S i (2 * (i : Int)) p) ∧ 0 ≤ p.k ∧ p.k ≤ (i : Int)
theorem ps_new {w W : World} {P A : Nat} {D : Bool → Nat} (h : PLE w W P A D pyNew []) : PS w W P A D 0 pyNew := ⟨h, ⟨[], pi_new⟩, by decide, by decide⟩
theorem ps_step {w W W' : World} {P A : Nat} {D : Bool → Nat} {i : Nat} {p : PY} (h : PS w W P A D i p) {kind num : Int} {t : Bool} (h2 : PLE w W' P A D (pyStep p kind t num) []) : PS w W' P A D (i + 1) (pyStep p kind t num) := by
  obtain ⟨_, ⟨S, hS⟩, hk0, hk1⟩ := h
  obtain ⟨S', hS', _⟩ := pi_step hS kind t num
  have := step_kb p kind t num hk0
  refine ⟨h2, ⟨S', ?_⟩, this.1, by have := this.2; push_cast; omega⟩
  rw [show (2 * ((i + 1 : Nat) : Int)) = 2 * (i : Int) + 2 by push_cast; omega]
  exact hS'
theorem ps_call {w W : World} {P A : Nat} {D : Bool → Nat} {i : Nat} {p : PY} (h : PS w W P A D i p) (hi : i ≤ 120) {sx : Option Addr} {len : Nat} {xs : List (Int × Int × Int)} (hs : ∀ (j : Nat) (x : Int × Int × Int), xs[j]? = some x → ∃ A : Addr, sx = some A ∧ StAt w A j x) {x : Int × Int × Int} (hx : xs[i]? = some x) :
    ∃ B : Addr, sx = some B ∧ W.cell? (B.add (i * 3)) = some (.int .i64 x.1) ∧ W.cell? (B.add (i * 3 + 1)) = some (.int .i64 x.2.1) ∧ W.cell? (B.add (i * 3 + 2)) = some (.int .i64 x.2.2) ∧
      Calls Try.prog 9 #[.pointer (some ⟨P, 0, none⟩), .agg #[.int .i64 x.1, .int .i64 x.2.1, .int .i64 x.2.2]] W fun e W' => e = .returned (.tuple #[]) ∧ PS w W' P A D (i + 1) (pyStep p x.1 (two x.2.1) x.2.2) := by
  obtain ⟨B, hB, hst⟩ := hs i x hx
  have hb := ple_below h.1
  have HK : KR w [] W := kr_call (kr_refl w) hb
  exact ⟨B, hB, kr_old HK hst.c0, kr_old HK hst.c1, kr_old HK hst.c2, (step_k h.1 x.1 x.2.1 x.2.2 hst.w1 hst.w2 h.2.2.1 (by have := h.2.2.2; omega)).mono (fun _ _ q => ⟨q.1, ps_step h q.2⟩)⟩
set_option maxRecDepth 100000 in
set_option maxHeartbeats 4000000 in
theorem shipSame_any {w : World} (sx : Option Addr) (len cap : Nat) (c0 : SCR w sx len) : Calls Try.prog 4 #[.slice sx len cap] w fun e W' => e = .returned (.bool true) ∧ Below w.heap.size w W' := by
  obtain ⟨xs, hx, hlen, hs⟩ := c0
  have hleni : (len : Int) ≤ 9223372036854775807 := by omega
  have HX : Hid (xs.length = len) := hx
  have HS : Hid (∀ (j : Nat) (x : Int × Int × Int), xs[j]? = some x → ∃ A : Addr, sx = some A ∧ StAt w A j x) := hs
  have hb := begin_k (kr_refl w)
  clear hx hs hlen
  go_enter Try.func4, Try.ntmps4
  go_upto_block 0 with (go_at_call 8; refine hb.mono ?_; rintro e w1 ⟨P, A, D, rfl, HP⟩)
  have HP0 : Hid (PS w w1 P A D 0 pyNew) := ps_new HP
  clear hb HP
  go_cut [] (fun wx => ∃ (i : Nat) (p : PY), i ≤ 120 ∧ PS w wx P A D i p)
  case first =>
    go_wp2
    go_loopw [4] (fun v4 W => ∃ (i : Nat) (p : PY), v4 = .int .i64 (i : Int) ∧ i ≤ 120 ∧ PS w W P A D i p) (fun v4 _ => 120 - (intOf v4).toNat)
    case atStart => exact ⟨0, pyNew, rfl, by omega, HP0.out⟩
    case round =>
      clear HP0
      obtain ⟨i, p, rfl, hi, HPS⟩ := hrel
      by_cases hlt : i < len
      · by_cases h120 : i < 120
        · have hlti : (i : Int) < (len : Int) := by omega
          have h120i : (i : Int) < 120 := by omega
          obtain ⟨x, hx⟩ : ∃ x, xs[i]? = some x := ⟨xs[i]'(by have := HX.out; omega), List.getElem?_eq_getElem _⟩
          obtain ⟨B, rfl, k0, k1, k2, e3⟩ := ps_call (len := len) HPS hi HS.out hx
          rw [add_lit B _ _ (by omega)] at k1 k2
          clear HPS hx HS
          go_wp2_with (go_at_call 9; refine e3.mono ?_; rintro e w5 ⟨rfl, HP5⟩)
          go_round
          case rel => exact ⟨i + 1, _, by go_num, by omega, HP5⟩
          case measure => simp [intOf]; omega
        · have h120i : ¬ ((i : Int) < 120) := by omega
          have hlti : (i : Int) < (len : Int) := by omega
          have HPS : Hid (PS w wr P A D i p) := HPS
          clear HS
          go_wp2
          go_meet
          case rel => exact ⟨i, p, hi, HPS.out⟩
      · have hlti : ¬ ((i : Int) < (len : Int)) := by omega
        have HPS : Hid (PS w wr P A D i p) := HPS
        clear HS
        go_wp2
        go_meet
        case rel => exact ⟨i, p, hi, HPS.out⟩
  case rest =>
    obtain ⟨i, p, hi, HPS⟩ := hcut
    clear HP0 HS HX
    obtain ⟨⟨im, lv, wv, wx, us, -, HPL⟩, ⟨S, hPI⟩, -, -⟩ := HPS
    have PXc := HPL.px
    have HPI : Hid (PI S i (2 * (i : Int)) p) := hPI
    clear HPL hPI
    have q0 := kr_cell PXc.kr 2 rfl 0 _ rfl
    have qa := kr_cell PXc.kr 3 rfl 0 _ rfl
    have e1 := px_log PXc false
    clear PXc
    go_upto_region 9 with (first | (go_at_call 11; refine e1.mono ?_; rintro e w2 ⟨s2, c2, l2, rfl, P2, E2⟩; have e2 := px_tk P2 false E2; clear P2 E2) | (go_at_call 10; refine e2.mono ?_; rintro e w3 ⟨s3, c3, im3, rfl, -, P3, E3⟩))
    clear e1 e2 q0 qa
    have q0 := kr_cell P3.kr 2 rfl 0 _ rfl
    have qb := kr_cell P3.kr 3 rfl 1 _ rfl
    have e1 := px_log P3 true
    have E3 : Hid (EL im3 (.slice s3 (p.n false).l.length c3) (p.n false).l) := E3
    clear P3
    go_upto_region 10 with (first | (go_at_call 11; refine e1.mono ?_; rintro e w4 ⟨s4, c4, l4, rfl, P4, E4⟩; have e2 := px_tk P4 true E4; clear P4 E4) | (go_at_call 10; refine e2.mono ?_; rintro e w5 ⟨s5, c5, im5, rfl, him5, P5, E5⟩))
    clear e1 e2 q0 qb
    have E3 := el_mono E3.out him5
    obtain ⟨L, hL⟩ : ∃ L, (p.n false).l.length = L := ⟨_, rfl⟩
    obtain ⟨M, hM⟩ : ∃ M, (p.n true).l.length = M := ⟨_, rfl⟩
    have hLb : (L : Int) ≤ 4096 := by have := (P5.nb false).len; omega
    have hMb : (M : Int) ≤ 4096 := by have := (P5.nb true).len; omega
    rw [hL, hM]
    have HL : Hid ((p.n false).l.length = L) := hL
    have HM : Hid ((p.n true).l.length = M) := hM
    have HE3 : Hid (EL im5 (.slice s3 L c3) (p.n false).l) := by rw [← hL]; exact E3
    have HE5 : Hid (EL im5 (.slice s5 M c5) (p.n true).l) := by rw [← hM]; exact E5
    have P5 : Hid (PX w _ D p.n _ im5 lv) := P5
    obtain ⟨hr, hs2, hld⟩ := pi_same HPI.out
    have HS2 : Hid (∀ i x y, (p.n false).l[i]? = some x → (p.n true).l[i]? = some y → x.1 = y.1 → (p.n false).l.take (i + 1) = (p.n true).l.take (i + 1)) := hs2
    have HR : Hid (Rise (p.n false).l) := hr false
    have HLD : Hid (¬ ((p.n false).ld = true ∧ (p.n true).ld = true ∧ (p.n false).ep = (p.n true).ep)) := hld
    clear E3 E5 hL hM hr hs2 hld HPI
    go_upto_block 2 with fail
    go_cut [] (fun wz => PX w wz D p.n ([] ++ (P, [.slice (some ⟨A, 0, none⟩) 2 2, wv, .int .i64 p.k]) :: (A, [.pointer (some ⟨D false, 0, none⟩), .pointer (some ⟨D true, 0, none⟩)]) :: wx) im5 lv)
    case first =>
      go_wp2
      go_loopw [7] (fun v7 W => ∃ k : Nat, v7 = .int .i64 (k : Int) ∧ k ≤ L ∧ PX w W D p.n ([] ++ (P, [.slice (some ⟨A, 0, none⟩) 2 2, wv, .int .i64 p.k]) :: (A, [.pointer (some ⟨D false, 0, none⟩), .pointer (some ⟨D true, 0, none⟩)]) :: wx) im5 lv) (fun v7 _ => L - (intOf v7).toNat)
      case atStart => exact ⟨0, rfl, Nat.zero_le _, P5.out⟩
      case round =>
        clear P5
        obtain ⟨k, rfl, hk, PXr⟩ := hrel
        by_cases hlt : k < L
        · have hlti : (k : Int) < (L : Int) := by omega
          obtain ⟨x, hx⟩ : ∃ x, (p.n false).l[k]? = some x := ⟨_, List.getElem?_eq_getElem (by rw [HL.out]; exact hlt)⟩
          obtain ⟨b3, rfl, k3⟩ := px_ep PXr HE3.out hx
          go_upto_region 13 with fail
          go_cut [64] (fun v64 wz => v64 = .bool false ∧ PX w wz D p.n ([] ++ (P, [.slice (some ⟨A, 0, none⟩) 2 2, wv, .int .i64 p.k]) :: (A, [.pointer (some ⟨D false, 0, none⟩), .pointer (some ⟨D true, 0, none⟩)]) :: wx) im5 lv)
          case first =>
            by_cases h0 : 0 < k
            · have h0i : (0 : Int) < (k : Int) := by omega
              obtain ⟨y, hy⟩ : ∃ y, (p.n false).l[k - 1]? = some y := ⟨_, List.getElem?_eq_getElem (by rw [HL.out]; omega)⟩
              obtain ⟨b3', hb3, k4⟩ := px_ep PXr HE3.out hy
              injection hb3 with hb3
              injection hb3 with hb3 _ _
              subst hb3
              have hle : ¬ (x.1 < y.1) := by
                have hR := HR.out
                rw [Rise, List.pairwise_iff_getElem] at hR
                obtain ⟨g1, g2⟩ := List.getElem?_eq_some_iff.1 hx
                obtain ⟨g3, g4⟩ := List.getElem?_eq_some_iff.1 hy
                have := hR (k - 1) k g3 g1 (by omega)
                rw [g2, g4] at this
                omega
              have hkw : IntKind.i64.wrap ((k : Int) - 1) = ((k - 1 : Nat) : Int) := by rw [Go.IntWalk.i64_in _ (by omega)]; omega
              have PXr : Hid (PX w _ D p.n _ im5 lv) := PXr
              go_quiet (fail)
              go_wp2_with fail
              go_meet
              case rel => exact ⟨by simp [hle], px_call PXr.out (bw_drewN (Below.refl _ _) _)⟩
            · have h0i : ¬ ((0 : Int) < (k : Int)) := by omega
              have PXr : Hid (PX w _ D p.n _ im5 lv) := PXr
              go_quiet (fail)
              go_wp2_with fail
              go_meet
              case rel => exact ⟨by simp, px_call PXr.out (bw_drewN (Below.refl _ _) _)⟩
          case rest =>
            obtain ⟨rfl, PXq⟩ := hcut
            clear PXr k3
            obtain ⟨b3', hb3, k3⟩ := px_ep PXq HE3.out hx
            injection hb3 with hb3
            injection hb3 with hb3 _ _
            subst hb3
            go_upto_region 15 with fail
            go_cut [93] (fun v93 wz => v93 = .bool false ∧ PX w wz D p.n ([] ++ (P, [.slice (some ⟨A, 0, none⟩) 2 2, wv, .int .i64 p.k]) :: (A, [.pointer (some ⟨D false, 0, none⟩), .pointer (some ⟨D true, 0, none⟩)]) :: wx) im5 lv)
            case first =>
              by_cases hkM : k < M
              · have hkMi : (k : Int) < (M : Int) := by omega
                obtain ⟨z, hz⟩ : ∃ z, (p.n true).l[k]? = some z := ⟨_, List.getElem?_eq_getElem (by rw [HM.out]; exact hkM)⟩
                obtain ⟨b5, rfl, k5⟩ := px_ep PXq HE5.out hz
                by_cases he : x.1 = z.1
                · have heq := HS2.out k x z hx hz he
                  have hc3 : k + 1 ≤ c3 := by
                    obtain ⟨_, _, h1, h2⟩ := el_form HE3.out
                    injection h1 with _ _ h3
                    have := HL.out; omega
                  have hc5 : k + 1 ≤ c5 := by
                    obtain ⟨_, _, h1, h2⟩ := el_form HE5.out
                    injection h1 with _ _ h3
                    have := HM.out; omega
                  have cs : ∀ V, PX w V D p.n ([] ++ (P, [.slice (some ⟨A, 0, none⟩) 2 2, wv, .int .i64 p.k]) :: (A, [.pointer (some ⟨D false, 0, none⟩), .pointer (some ⟨D true, 0, none⟩)]) :: wx) im5 lv → Calls Try.prog 13 #[.slice (some ⟨b3, 0, none⟩) (k + 1) c3, .slice (some ⟨b5, 0, none⟩) (k + 1) c5] V fun e W' => e = .returned (.bool true) ∧ ∃ q, W' = V.drewN q := fun V hV =>
                    same31_k ((p.n false).l.take (k + 1)) (k + 1) (show _ = _ from by rw [List.length_take, HL.out]; omega) (by omega) (show ∀ y ∈ (p.n false).l.take (k + 1), y.2.length ≤ 140737488351232 from fun y hy => by have := (hV.nb false).data y (List.mem_of_mem_take hy); omega) _ _ c3 c5 (elv_take (px_elv hV HE3.out).1 (k + 1)) (show ELV V _ _ from by rw [heq]; exact elv_take (px_elv hV HE5.out).1 (k + 1))
                  have HCS : Hid (∀ V, _) := cs
                  have het : (x.1 == z.1) = true := by simp [he]
                  have PXq : Hid (PX w _ D p.n _ im5 lv) := PXq
                  clear heq cs he
                  have hkw1 : IntKind.i64.wrap ((k : Int) + 1) = ((k + 1 : Nat) : Int) := by rw [Go.IntWalk.i64_in _ (by omega)]; omega
                  have i5 : ((k + 1 : Nat) : Int) ≤ (c3 : Int) := by omega
                  have i6 : ((k + 1 : Nat) : Int) ≤ (c5 : Int) := by omega
                  go_quiet ((go_at_call 13; exact Calls.quiet_of (HCS.out _ (px_call PXq.out (bw_drewN (Below.refl _ _) _)))))
                  go_wp2_with fail
                  go_meet
                  case rel => exact ⟨by simp, px_call PXq.out (bw_drewN (Below.refl _ _) _)⟩
                · have hne : (x.1 == z.1) = false := by simp [he]
                  have PXq : Hid (PX w _ D p.n _ im5 lv) := PXq
                  go_quiet (fail)
                  go_wp2_with fail
                  go_meet
                  case rel => exact ⟨by simp [he], px_call PXq.out (bw_drewN (Below.refl _ _) _)⟩
              · have hkMi : ¬ ((k : Int) < (M : Int)) := by omega
                have PXq : Hid (PX w _ D p.n _ im5 lv) := PXq
                go_quiet (fail)
                go_wp2_with fail
                go_meet
                case rel => exact ⟨by simp, px_call PXq.out (bw_drewN (Below.refl _ _) _)⟩
            case rest =>
              obtain ⟨rfl, PXz⟩ := hcut
              have PXz : Hid (PX w _ D p.n _ im5 lv) := PXz
              clear PXq k3
              go_wp2
              go_round
              case rel => exact ⟨k + 1, by go_num, by omega, PXz.out⟩
              case measure => simp [intOf]; omega
        · have hlti : ¬ ((k : Int) < (L : Int)) := by omega
          have PXr : Hid (PX w _ D p.n _ im5 lv) := PXr
          go_wp2
          go_meet
          case rel => exact PXr.out
    case rest =>
      clear P5 HE3 HE5 HR HS2
      have PXd := px_call hcut (bw_drew (Below.refl _ _))
      have q0 := kr_cell PXd.kr 2 rfl 0 _ rfl
      have qa := kr_cell PXd.kr 3 rfl 0 _ rfl
      have qb := kr_cell PXd.kr 3 rfl 1 _ rfl
      have L0 : Calls Try.prog 15 #[.pointer (some ⟨D false, 0, none⟩)] wc.drew fun e w'' => e = .returned (.bool (p.n false).ld) ∧ w'' = wc.drew := (px_leads PXd false).mono fun _ _ h => ⟨h.1, h.2.symm⟩
      have L1 : Calls Try.prog 15 #[.pointer (some ⟨D true, 0, none⟩)] wc.drew fun e w'' => e = .returned (.bool (p.n true).ld) ∧ w'' = wc.drew := (px_leads PXd true).mono fun _ _ h => ⟨h.1, h.2.symm⟩
      have E0 : Calls Try.prog 16 #[.pointer (some ⟨D false, 0, none⟩)] wc.drew fun e w'' => e = .returned (.int .i64 (p.n false).ep) ∧ w'' = wc.drew := (px_epoch PXd false).mono fun _ _ h => ⟨h.1, h.2.symm⟩
      have E1 : Calls Try.prog 16 #[.pointer (some ⟨D true, 0, none⟩)] wc.drew fun e w'' => e = .returned (.int .i64 (p.n true).ep) ∧ w'' = wc.drew := (px_epoch PXd true).mono fun _ _ h => ⟨h.1, h.2.symm⟩
      have hbl := PXd.kr.below
      have HB : Hid (Below w.heap.size w wc.drew) := hbl
      clear PXd hcut hbl
      cases h0 : (p.n false).ld with
      | false =>
        rw [h0] at L0
        clear h0 L1 E0 E1
        go_upto_region 17 with fail
        refine wp_region_still_tail 35 (by kernel_rfl) (by kernel_rfl) ?_
        simp only [List.take_succ_cons, List.take_zero, List.drop_succ_cons, List.drop_zero]
        refine wpStill_quiet _ _ ?_
        repeat (first | go_big_quiet_skip | (go_big_quiet_want; go_big_quiet_op; first | go_big_quiet_on | ((with_reducible refine ⟨_, L0, ?_⟩); go_big_quiet_on)))
        refine wpQuiet_nil ?_
        change wpList _ _ _ _ _ wc.drew
        generalize wc.drew = V at *
        clear q0 qa qb
        go_wp2_with fail
        refine known31_k.mono ?_
        rintro e w6 ⟨rfl, hb6⟩
        have HB6 : Hid (Below V.heap.size V w6) := hb6
        clear hb6
        go_wp2_with fail
        go_ret
        exact ⟨rfl, bw_step HB.out HB6.out⟩
      | true =>
        rw [h0] at L0
        cases h1 : (p.n true).ld with
        | false =>
          rw [h1] at L1
          clear h0 h1 E0 E1
          go_upto_region 17 with fail
          refine wp_region_still_tail 35 (by kernel_rfl) (by kernel_rfl) ?_
          simp only [List.take_succ_cons, List.take_zero, List.drop_succ_cons, List.drop_zero]
          refine wpStill_quiet _ _ ?_
          repeat (first | go_big_quiet_skip | (go_big_quiet_want; go_big_quiet_op; first | go_big_quiet_on | ((with_reducible refine ⟨_, L0, ?_⟩); go_big_quiet_on) | ((with_reducible refine ⟨_, L1, ?_⟩); go_big_quiet_on)))
          refine wpQuiet_nil ?_
          change wpList _ _ _ _ _ wc.drew
          generalize wc.drew = V at *
          clear q0 qa qb
          go_wp2_with fail
          refine known31_k.mono ?_
          rintro e w6 ⟨rfl, hb6⟩
          have HB6 : Hid (Below V.heap.size V w6) := hb6
          clear hb6
          go_wp2_with fail
          go_ret
          exact ⟨rfl, bw_step HB.out HB6.out⟩
        | true =>
          rw [h1] at L1
          have hne : ((p.n false).ep == (p.n true).ep) = false := by
            have := HLD.out
            simp only [h0, h1, true_and] at this
            simpa using this
          clear h0 h1
          generalize (p.n false).ep = x0 at *
          generalize (p.n true).ep = x1 at *
          go_upto_region 17 with fail
          refine wp_region_still_tail 35 (by kernel_rfl) (by kernel_rfl) ?_
          simp only [List.take_succ_cons, List.take_zero, List.drop_succ_cons, List.drop_zero]
          refine wpStill_quiet _ _ ?_
          repeat (first | go_big_quiet_skip | (go_big_quiet_want; go_big_quiet_op; first | go_big_quiet_on | ((with_reducible refine ⟨_, L0, ?_⟩); go_big_quiet_on) | ((with_reducible refine ⟨_, L1, ?_⟩); go_big_quiet_on) | ((with_reducible refine ⟨_, E0, ?_⟩); go_big_quiet_on) | ((with_reducible refine ⟨_, E1, ?_⟩); go_big_quiet_on)))
          refine wpQuiet_nil ?_
          change wpList _ _ _ _ _ wc.drew
          generalize wc.drew = V at *
          clear q0 qa qb
          go_wp2_with fail
          refine known31_k.mono ?_
          rintro e w6 ⟨rfl, hb6⟩
          have HB6 : Hid (Below V.heap.size V w6) := hb6
          clear hb6
          go_wp2_with fail
          go_ret
          exact ⟨rfl, bw_step HB.out HB6.out⟩
end Go.Proofs.Ytofpkmfjigjlhaa.Own
