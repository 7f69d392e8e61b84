/- ShipSafe, walked. No conditions beside those in the lemmas. -/
import Derived.Test.YtofpkmfjigjlhaaSa31
namespace Go.Proofs.Ytofpkmfjigjlhaa.Own
open Go.RowKit Go.WideShapes Go.ChangeShapes Go.Deep
set_option linter.unusedSimpArgs false
set_option linter.unusedVariables false
/-- The first entries of a slice. -/
theorem el_take {rows : List (Nat × List Value)} {s : Option Addr} {n c : Nat} {es : List SE} (h : EL rows (.slice s n c) es) (k : Nat) (hk : k ≤ es.length) : EL rows (.slice s k c) (es.take k) := by
  obtain ⟨vals, hv, hs, hf⟩ := h
  refine ⟨vals.take k, by simp [hv], ?_, fun j u x hu hx => ?_⟩
  · have hl : (es.take k).length = k := by rw [List.length_take]; omega
    rw [hl]
    rcases hs with ⟨h1, h2, h3⟩ | ⟨g, cap, cur, h1, h2, h3, h4, h5⟩
    · injection h1 with h6 h7 h8
      have : k = 0 := by omega
      subst this
      refine .inl ⟨by rw [h6, h8], rfl, by simp [ecl]⟩
    · injection h1 with h6 h7 h8
      refine .inr ⟨g, cap, cur, by rw [h6, h8], h2, by omega, h4, ?_⟩
      rw [← ecl_take es vals hv, ← h5, List.take_take, Nat.min_eq_left (by omega)]
  · rw [List.getElem?_take] at hu hx
    split at hu
    · rename_i hj
      rw [if_pos hj] at hx
      exact hf j u x hu hx
    · cases hu
theorem pl_px {w W W' : World} {P A : Nat} {D : Bool → Nat} {p : PY} {xs im im' : List (Nat × List Value)} {lv : Bool → Value} {wv : Value} {wx : List (Nat × List Value)} {us : List Value} (h : PL w W P A D p xs im lv wv wx us) (hm : ∀ q ∈ im, q ∈ im') (hp : PX w W' D p.n (xs ++ (P, [.slice (some ⟨A, 0, none⟩) 2 2, wv, .int .i64 p.k]) :: (A, [.pointer (some ⟨D false, 0, none⟩), .pointer (some ⟨D true, 0, none⟩)]) :: wx) im' lv) : PL w W' P A D p xs im' lv wv wx us :=
  ⟨hp, h.ws, h.ul, fun j u x hu hx => ⟨el_mono (h.ue j u x hu hx).1 hm, (h.ue j u x hu hx).2⟩, h.wl⟩
/-- A play behind some steps, and what was safe. -/
def SF (w W : World) (P A : Nat) (D : Bool → Nat) (i : Nat) (p : PY) (v : Value) : Prop := ∃ (im0 : List (Nat × List Value)) (s : Option Addr) (c : Nat) (sl S : List SE), v = .slice s sl.length c ∧ PLE w W P A D p im0 ∧ EL im0 (.slice s sl.length c) sl ∧ PI S i (2 * (i : Int)) p ∧ sl <+: S ∧ 0 ≤ p.k ∧ p.k ≤ (i : Int)
theorem sf_new {w W : World} {P A : Nat} {D : Bool → Nat} (h : PLE w W P A D pyNew []) : SF w W P A D 0 pyNew (.slice none 0 0) := ⟨[], none, 0, [], [], rfl, h, el_nil _, pi_new, List.prefix_refl _, by decide, by decide⟩
/-- The same, all rows in sight. -/
def SG (w W : World) (P A : Nat) (D : Bool → Nat) (p : PY) (S : List SE) (v : Value) (wv : Value) (wx : List (Nat × List Value)) (us : List Value) (lv : Bool → Value) : Prop := ∃ (im : List (Nat × List Value)) (s : Option Addr) (c : Nat) (sl : List SE), v = .slice s sl.length c ∧ PL w W P A D p [] im lv wv wx us ∧ EL im (.slice s sl.length c) sl ∧ sl <+: S
theorem sf_call {w W : World} {P A : Nat} {D : Bool → Nat} {i : Nat} {p : PY} {v : Value} (h : SF w W P A D i p v) (hi : i ≤ 120) {sx : Option Addr} {xs : List (Int × Int × Int)} (hs : ∀ (j : Nat) (x : Int × Int × Int), xs[j]? = some x → ∃ A : Addr, sx = some A ∧ StAt w A j x) {x : Int × Int × Int} (hx : xs[i]? = some x) :
    ∃ B : Addr, sx = some B ∧ W.cell? (B.add (i * 3)) = some (.int .i64 x.1) ∧ W.cell? (B.add (i * 3 + 1)) = some (.int .i64 x.2.1) ∧ W.cell? (B.add (i * 3 + 2)) = some (.int .i64 x.2.2) ∧
      Calls Try.prog 9 #[.pointer (some ⟨P, 0, none⟩), .agg #[.int .i64 x.1, .int .i64 x.2.1, .int .i64 x.2.2]] W fun e W' => e = .returned (.tuple #[]) ∧ SF w W' P A D (i + 1) (pyStep p x.1 (two x.2.1) x.2.2) v := by
  obtain ⟨B, hB, hst⟩ := hs i x hx
  obtain ⟨im0, s, c, sl, S, hv, h1, h2, h3, h4, h5, h6⟩ := h
  have hb := ple_below h1
  have HK : KR w [] W := kr_call (kr_refl w) hb
  refine ⟨B, hB, kr_old HK hst.c0, kr_old HK hst.c1, kr_old HK hst.c2, (step_k h1 x.1 x.2.1 x.2.2 hst.w1 hst.w2 h5 (by omega)).mono (fun _ _ q => ⟨q.1, ?_⟩)⟩
  obtain ⟨S', hS', hSS⟩ := pi_step h3 x.1 (two x.2.1) x.2.2
  have := step_kb p x.1 (two x.2.1) x.2.2 h5
  refine ⟨im0, s, c, sl, S', hv, q.2, h2, ?_, h4.trans hSS, this.1, by have := this.2; push_cast; omega⟩
  rw [show (2 * ((i + 1 : Nat) : Int)) = 2 * (i : Int) + 2 by push_cast; omega]
  exact hS'
theorem sg_call {w W W' : World} {P A : Nat} {D : Bool → Nat} {p : PY} {S : List SE} {v wv : Value} {wx : List (Nat × List Value)} {us : List Value} {lv : Bool → Value} (h : SG w W P A D p S v wv wx us lv) (hb : Below W.heap.size W W') : SG w W' P A D p S v wv wx us lv := by
  obtain ⟨im, s, c, sl, hv, h1, h2, h3⟩ := h
  exact ⟨im, s, c, sl, hv, pl_px h1 (fun q hq => hq) (px_call h1.px hb), h2, h3⟩
theorem take_pre {a S : List SE} (h : S <+: a) {k : Nat} (hk : k ≤ S.length) : a.take k = S.take k := by
  obtain ⟨t, rfl⟩ := h
  rw [List.take_append_of_le_length hk]
/-- Two slices of entries are the same, so far. -/
theorem px_same {w W : World} {D : Bool → Nat} {n : Bool → SN} {xs im : List (Nat × List Value)} {lv : Bool → Value} (h : PX w W D n xs im lv) {s t : Option Addr} {a b c d k : Nat} {l m : List SE} (h1 : EL im (.slice s a c) l) (h2 : EL im (.slice t b d) m) (he : l.take k = m.take k) (hk : k ≤ l.length) (hz : ∀ x ∈ l, x.2.length ≤ 60000) (hl : l.length ≤ 4096) :
    Calls Try.prog 13 #[.slice s k c, .slice t k d] W fun e W' => e = .returned (.bool true) ∧ ∃ q, W' = W.drewN q :=
  same31_k (l.take k) k (show _ = _ from by rw [List.length_take]; omega) (by omega) (show ∀ y ∈ l.take k, y.2.length ≤ 140737488351232 from fun y hy => by have := hz y (List.mem_of_mem_take hy); omega) _ _ c d (elv_take (px_elv h h1).1 k) (show ELV W _ _ from by rw [he]; exact elv_take (px_elv h h2).1 k)

set_option maxRecDepth 100000 in
set_option maxHeartbeats 4000000 in
theorem shipSafe_any {w : World} (sx : Option Addr) (len cap : Nat) (c0 : SCR w sx len) : Calls Try.prog 3 #[.slice sx len cap] w fun e W' => e = .returned (.bool true) ∧ Below w.heap.size w W' := by
  obtain ⟨xs, hx, hlen, hs⟩ := c0
  have hleni : (len : Int) ≤ 9223372036854775807 := by omega
  have HX : Hid (xs.length = len) := hx
  have HS : Hid (∀ (j : Nat) (x : Int × Int × Int), xs[j]? = some x → ∃ A : Addr, sx = some A ∧ StAt w A j x) := hs
  have hb := begin_k (kr_refl w)
  clear hx hs hlen
  go_enter Try.func3, Try.ntmps3
  go_upto_block 0 with (go_at_call 8; refine hb.mono ?_; rintro e w1 ⟨P, A, D, rfl, HP⟩)
  have HP0 : Hid (SF w w1 P A D 0 pyNew (.slice none 0 0)) := sf_new HP
  clear hb HP
  go_cut [] (fun wx => ∃ (i : Nat) (p : PY) (v : Value), i ≤ 120 ∧ SF w wx P A D i p v)
  case first =>
    go_wp2
    go_loopw [4, 5] (fun v4 v5 W => ∃ (i : Nat) (p : PY), v5 = .int .i64 (i : Int) ∧ i ≤ 120 ∧ SF w W P A D i p v4) (fun v4 v5 _ => 120 - (intOf v5).toNat)
    case atStart => exact ⟨0, pyNew, rfl, by omega, HP0.out⟩
    case round =>
      clear HP0
      obtain ⟨i, p, rfl, hi, HPS⟩ := hrel
      by_cases hlt : i < len
      · by_cases h120 : i < 120
        · have hlti : (i : Int) < (len : Int) := by omega
          have h120i : (i : Int) < 120 := by omega
          obtain ⟨x, hx⟩ : ∃ x, xs[i]? = some x := ⟨xs[i]'(by have := HX.out; omega), List.getElem?_eq_getElem _⟩
          obtain ⟨B, rfl, k0, k1, k2, e3⟩ := sf_call HPS hi HS.out hx
          rw [add_lit B _ _ (by omega)] at k1 k2
          clear HPS hx HS
          go_upto_block 2 with (go_at_call 9; refine e3.mono ?_; rintro e w5 ⟨rfl, HP5⟩)
          generalize hp1 : pyStep p x.1 (two x.2.1) x.2.2 = p1 at HP5
          have hi1 : i + 1 ≤ 120 := by omega
          clear e3 k0 k1 k2 hp1 p
          rename PY => p
          obtain ⟨im0, s0, c0, sl0, S, rfl, ⟨imf, lv, wv, wx, us, him0, HPL0⟩, hE0, hPI, hsl0, hk0, hk1⟩ := HP5
          have HG : Hid (SG w w5 P A D p S (.slice s0 sl0.length c0) wv wx us lv) := ⟨imf, s0, c0, sl0, rfl, HPL0, el_mono hE0 him0, hsl0⟩
          have HPI : Hid (PI S (i + 1) (2 * ((i + 1 : Nat) : Int)) p) := hPI
          have HKB : Hid (0 ≤ p.k ∧ p.k ≤ ((i + 1 : Nat) : Int)) := ⟨hk0, hk1⟩
          clear HPL0 hE0 hPI hsl0 hk0 hk1 him0
          go_wp2
          go_loopw [4, 6] (fun v4 v6 W => ∃ k : Nat, v6 = .int .i64 (k : Int) ∧ k ≤ 2 ∧ SG w W P A D p S v4 wv wx us lv) (fun v4 v6 _ => 2 - (intOf v6).toNat)
          case atStart => exact ⟨0, rfl, by omega, HG.out⟩
          case round =>
            clear HG
            obtain ⟨k, rfl, hk, hG⟩ := hrel
            rcases (show k = 0 ∨ k = 1 ∨ k = 2 by omega) with rfl | rfl | rfl
            · skip
              obtain ⟨im, s, c, sl, rfl, HPL, hE, hsl⟩ := hG
              have PXc := HPL.px
              have HPL : Hid (PL w wr P A D p [] im lv wv wx us) := HPL
              have hE : Hid (EL im (.slice s sl.length c) sl) := hE
              have q0 := kr_cell PXc.kr 2 rfl 0 _ rfl
              have qa := kr_cell PXc.kr 3 rfl 0 _ rfl
              have e1 := px_log PXc false
              clear PXc
              go_upto_region 13 with (first | (go_at_call 11; refine e1.mono ?_; rintro e w2 ⟨s2, c2, l2, rfl, P2, E2⟩; have e2 := px_tk P2 false E2; clear P2 E2) | (go_at_call 10; refine e2.mono ?_; rintro e w3 ⟨s3, c3, im3, rfl, him3, P3, E3⟩))
              clear e1 e2 q0 qa
              have q0 := kr_cell P3.kr 2 rfl 0 _ rfl
              have qb := kr_cell P3.kr 3 rfl 1 _ rfl
              have e1 := px_log P3 true
              have E3 : Hid (EL im3 (.slice s3 (p.n false).l.length c3) (p.n false).l) := E3
              clear P3
              go_upto_region 14 with (first | (go_at_call 11; refine e1.mono ?_; rintro e w4 ⟨s4, c4, l4, rfl, P4, E4⟩; have e2 := px_tk P4 true E4; clear P4 E4) | (go_at_call 10; refine e2.mono ?_; rintro e w5 ⟨s5, c5, im5, rfl, him5, P5, E5⟩))
              clear e1 e2 q0 qb
              have q0 := kr_cell P5.kr 2 rfl 0 _ rfl
              have qa := kr_cell P5.kr 3 rfl 0 _ rfl
              have e1 := px_safe P5 false
              obtain ⟨g1, g2, g3⟩ := pi_safe HPI.out false
              replace g3 : S <+: (p.n true).l := g3
              have hLn : (p.n false).l.length ≤ 4096 := (P5.nb false).len
              have hMn : (p.n true).l.length ≤ 4096 := (P5.nb true).len
              have hdat : ∀ x ∈ (p.n false).l, x.2.length ≤ 60000 := (P5.nb false).data
              have hE3 := el_mono E3.out him5
              have him : ∀ q ∈ im, q ∈ im5 := fun q hq => him5 q (him3 q hq)
              have hEs := el_mono hE.out him
              have gb := g2.length_le
              have go1 := g3.length_le
              have gs := hsl.length_le
              have hK : (p.n false).l.take (p.n false).safe = (p.n true).l.take (p.n false).safe := by rw [take_pre g2 g1, take_pre g3 g1]
              have hT : (p.n false).l.take sl.length = sl.take sl.length := by rw [take_pre g2 gs, List.take_length]; exact (prefix_take hsl).symm
              have hKS : (p.n false).l.take (p.n false).safe <+: S := by rw [take_pre g2 g1]; exact List.take_prefix _ _
              have hPL6 : PL w _ P A D p [] im5 lv wv wx us := pl_px HPL.out him P5
              have HQ5 : Hid (∀ V, PX w V D p.n ([] ++ (P, [.slice (some ⟨A, 0, none⟩) 2 2, wv, .int .i64 p.k]) :: (A, [.pointer (some ⟨D false, 0, none⟩), .pointer (some ⟨D true, 0, none⟩)]) :: wx) im5 lv → Calls Try.prog 13 #[.slice s3 (p.n false).safe c3, .slice s5 (p.n false).safe c5] V fun e W' => e = .returned (.bool true) ∧ ∃ q, W' = V.drewN q) := fun V hV => px_same hV hE3 E5 hK (by omega) hdat hLn
              have HQ6 : Hid (∀ V, PX w V D p.n ([] ++ (P, [.slice (some ⟨A, 0, none⟩) 2 2, wv, .int .i64 p.k]) :: (A, [.pointer (some ⟨D false, 0, none⟩), .pointer (some ⟨D true, 0, none⟩)]) :: wx) im5 lv → Calls Try.prog 13 #[.slice s3 sl.length c3, .slice s sl.length c] V fun e W' => e = .returned (.bool true) ∧ ∃ q, W' = V.drewN q) := fun V hV => px_same hV hE3 hEs hT (by omega) hdat hLn
              have HQ7 : Hid (∀ V, PX w V D p.n ([] ++ (P, [.slice (some ⟨A, 0, none⟩) 2 2, wv, .int .i64 p.k]) :: (A, [.pointer (some ⟨D false, 0, none⟩), .pointer (some ⟨D true, 0, none⟩)]) :: wx) im5 lv → Calls Try.prog 13 #[.slice s3 (p.n false).safe c3, .slice s3 (p.n false).safe c3] V fun e W' => e = .returned (.bool true) ∧ ∃ q, W' = V.drewN q) := fun V hV => px_same hV hE3 hE3 rfl (by omega) hdat hLn
              have HS6 : Hid (SG w _ P A D p S (.slice s3 (p.n false).safe c3) wv wx us lv) := ⟨im5, s3, c3, _, by rw [List.length_take, Nat.min_eq_left (by omega)], hPL6, by rw [List.length_take, Nat.min_eq_left (by omega)]; exact el_take hE3 _ (by omega), hKS⟩
              have HS7 : Hid (SG w _ P A D p S (.slice s sl.length c) wv wx us lv) := ⟨im5, s, c, sl, rfl, hPL6, hEs, hsl⟩
              have i1 : ¬ (((p.n false).l.length : Int) < ((p.n false).safe : Int)) := by omega
              have i2 : ¬ (((p.n true).l.length : Int) < ((p.n false).safe : Int)) := by omega
              have i3 : ¬ (((p.n false).l.length : Int) < (sl.length : Int)) := by omega
              have hc3 : ((p.n false).l.length : Int) ≤ (c3 : Int) := by
                obtain ⟨_, _, h1, h2⟩ := el_form hE3
                injection h1 with _ _ h3
                omega
              have hc5 : ((p.n true).l.length : Int) ≤ (c5 : Int) := by
                obtain ⟨_, _, h1, h2⟩ := el_form E5
                injection h1 with _ _ h3
                omega
              have i4 : ((p.n false).safe : Int) ≤ (c3 : Int) := by omega
              have i5 : ((p.n false).safe : Int) ≤ (c5 : Int) := by omega
              have i6 : (sl.length : Int) ≤ (c3 : Int) := by omega
              have hKn : (p.n false).safe ≤ 4096 := by omega
              have hsn : sl.length ≤ 4096 := by omega
              have P5 : Hid (PX w w5 D p.n _ im5 lv) := P5
              clear hK hT hKS hPL6 hE3 hEs hdat g1 g2 g3 gb go1 gs hsl E3 E5 hE HPL him him3 him5
              generalize (p.n false).safe = kk at *
              generalize sl.length = sn at *
              generalize (p.n false).l.length = Ln at *
              generalize (p.n true).l.length = Mn at *
              have j1 : decide (Ln < kk) = false := by simp; omega
              have j2 : decide (Mn < kk) = false := by simp; omega
              have j3 : decide (Ln < sn) = false := by simp; omega
              have j4 : decide (Ln < kk) = false := by simp; omega
              go_upto_region 15 with (go_at_call 12; refine e1.mono ?_; rintro e w6 ⟨rfl, rfl⟩)
              clear e1 q0 qa
              go_quiet ((go_at_call 13; exact Calls.quiet_of (HQ5.out _ (px_call P5.out (bw_drewN (Below.refl _ _) _)))))
              have P6 := px_call P5.out (bw_drewN (Below.refl _ _) nq)
              have HS6' := sg_call HS6.out (bw_drewN (Below.refl _ _) nq)
              have HS7' := sg_call HS7.out (bw_drewN (Below.refl _ _) nq)
              generalize w5.drewN nq = V at *
              have c6 := HQ6.out _ P6
              have c7 := HQ7.out _ P6
              have HS6' : Hid (SG w V P A D p S _ wv wx us lv) := HS6'
              have HS7' : Hid (SG w V P A D p S _ wv wx us lv) := HS7'
              clear HQ5 HQ6 HQ7 HS6 HS7 P5 P6
              by_cases hks : (sn : Int) < (kk : Int)
              · go_wp2_with (go_at_call 13; refine c7.mono ?_; rintro e w7 ⟨rfl, q, rfl⟩)
                go_round
                case rel => exact ⟨1, by go_num, by omega, sg_call HS6'.out (bw_drewN (Below.refl _ _) _)⟩
                case measure => simp [intOf]
              · go_wp2_with (go_at_call 13; refine c6.mono ?_; rintro e w7 ⟨rfl, q, rfl⟩)
                go_round
                case rel => exact ⟨1, by go_num, by omega, sg_call HS7'.out (bw_drewN (Below.refl _ _) _)⟩
                case measure => simp [intOf]
            · skip
              obtain ⟨im, s, c, sl, rfl, HPL, hE, hsl⟩ := hG
              have PXc := HPL.px
              have HPL : Hid (PL w wr P A D p [] im lv wv wx us) := HPL
              have hE : Hid (EL im (.slice s sl.length c) sl) := hE
              have q0 := kr_cell PXc.kr 2 rfl 0 _ rfl
              have qa := kr_cell PXc.kr 3 rfl 1 _ rfl
              have e1 := px_log PXc true
              clear PXc
              go_upto_region 13 with (first | (go_at_call 11; refine e1.mono ?_; rintro e w2 ⟨s2, c2, l2, rfl, P2, E2⟩; have e2 := px_tk P2 true E2; clear P2 E2) | (go_at_call 10; refine e2.mono ?_; rintro e w3 ⟨s3, c3, im3, rfl, him3, P3, E3⟩))
              clear e1 e2 q0 qa
              have q0 := kr_cell P3.kr 2 rfl 0 _ rfl
              have qb := kr_cell P3.kr 3 rfl 0 _ rfl
              have e1 := px_log P3 false
              have E3 : Hid (EL im3 (.slice s3 (p.n true).l.length c3) (p.n true).l) := E3
              clear P3
              go_upto_region 14 with (first | (go_at_call 11; refine e1.mono ?_; rintro e w4 ⟨s4, c4, l4, rfl, P4, E4⟩; have e2 := px_tk P4 false E4; clear P4 E4) | (go_at_call 10; refine e2.mono ?_; rintro e w5 ⟨s5, c5, im5, rfl, him5, P5, E5⟩))
              clear e1 e2 q0 qb
              have q0 := kr_cell P5.kr 2 rfl 0 _ rfl
              have qa := kr_cell P5.kr 3 rfl 1 _ rfl
              have e1 := px_safe P5 true
              obtain ⟨g1, g2, g3⟩ := pi_safe HPI.out true
              replace g3 : S <+: (p.n false).l := g3
              have hLn : (p.n true).l.length ≤ 4096 := (P5.nb true).len
              have hMn : (p.n false).l.length ≤ 4096 := (P5.nb false).len
              have hdat : ∀ x ∈ (p.n true).l, x.2.length ≤ 60000 := (P5.nb true).data
              have hE3 := el_mono E3.out him5
              have him : ∀ q ∈ im, q ∈ im5 := fun q hq => him5 q (him3 q hq)
              have hEs := el_mono hE.out him
              have gb := g2.length_le
              have go1 := g3.length_le
              have gs := hsl.length_le
              have hK : (p.n true).l.take (p.n true).safe = (p.n false).l.take (p.n true).safe := by rw [take_pre g2 g1, take_pre g3 g1]
              have hT : (p.n true).l.take sl.length = sl.take sl.length := by rw [take_pre g2 gs, List.take_length]; exact (prefix_take hsl).symm
              have hKS : (p.n true).l.take (p.n true).safe <+: S := by rw [take_pre g2 g1]; exact List.take_prefix _ _
              have hPL6 : PL w _ P A D p [] im5 lv wv wx us := pl_px HPL.out him P5
              have HQ5 : Hid (∀ V, PX w V D p.n ([] ++ (P, [.slice (some ⟨A, 0, none⟩) 2 2, wv, .int .i64 p.k]) :: (A, [.pointer (some ⟨D false, 0, none⟩), .pointer (some ⟨D true, 0, none⟩)]) :: wx) im5 lv → Calls Try.prog 13 #[.slice s3 (p.n true).safe c3, .slice s5 (p.n true).safe c5] V fun e W' => e = .returned (.bool true) ∧ ∃ q, W' = V.drewN q) := fun V hV => px_same hV hE3 E5 hK (by omega) hdat hLn
              have HQ6 : Hid (∀ V, PX w V D p.n ([] ++ (P, [.slice (some ⟨A, 0, none⟩) 2 2, wv, .int .i64 p.k]) :: (A, [.pointer (some ⟨D false, 0, none⟩), .pointer (some ⟨D true, 0, none⟩)]) :: wx) im5 lv → Calls Try.prog 13 #[.slice s3 sl.length c3, .slice s sl.length c] V fun e W' => e = .returned (.bool true) ∧ ∃ q, W' = V.drewN q) := fun V hV => px_same hV hE3 hEs hT (by omega) hdat hLn
              have HQ7 : Hid (∀ V, PX w V D p.n ([] ++ (P, [.slice (some ⟨A, 0, none⟩) 2 2, wv, .int .i64 p.k]) :: (A, [.pointer (some ⟨D false, 0, none⟩), .pointer (some ⟨D true, 0, none⟩)]) :: wx) im5 lv → Calls Try.prog 13 #[.slice s3 (p.n true).safe c3, .slice s3 (p.n true).safe c3] V fun e W' => e = .returned (.bool true) ∧ ∃ q, W' = V.drewN q) := fun V hV => px_same hV hE3 hE3 rfl (by omega) hdat hLn
              have HS6 : Hid (SG w _ P A D p S (.slice s3 (p.n true).safe c3) wv wx us lv) := ⟨im5, s3, c3, _, by rw [List.length_take, Nat.min_eq_left (by omega)], hPL6, by rw [List.length_take, Nat.min_eq_left (by omega)]; exact el_take hE3 _ (by omega), hKS⟩
              have HS7 : Hid (SG w _ P A D p S (.slice s sl.length c) wv wx us lv) := ⟨im5, s, c, sl, rfl, hPL6, hEs, hsl⟩
              have i1 : ¬ (((p.n true).l.length : Int) < ((p.n true).safe : Int)) := by omega
              have i2 : ¬ (((p.n false).l.length : Int) < ((p.n true).safe : Int)) := by omega
              have i3 : ¬ (((p.n true).l.length : Int) < (sl.length : Int)) := by omega
              have hc3 : ((p.n true).l.length : Int) ≤ (c3 : Int) := by
                obtain ⟨_, _, h1, h2⟩ := el_form hE3
                injection h1 with _ _ h3
                omega
              have hc5 : ((p.n false).l.length : Int) ≤ (c5 : Int) := by
                obtain ⟨_, _, h1, h2⟩ := el_form E5
                injection h1 with _ _ h3
                omega
              have i4 : ((p.n true).safe : Int) ≤ (c3 : Int) := by omega
              have i5 : ((p.n true).safe : Int) ≤ (c5 : Int) := by omega
              have i6 : (sl.length : Int) ≤ (c3 : Int) := by omega
              have hKn : (p.n true).safe ≤ 4096 := by omega
              have hsn : sl.length ≤ 4096 := by omega
              have P5 : Hid (PX w w5 D p.n _ im5 lv) := P5
              clear hK hT hKS hPL6 hE3 hEs hdat g1 g2 g3 gb go1 gs hsl E3 E5 hE HPL him him3 him5
              generalize (p.n true).safe = kk at *
              generalize sl.length = sn at *
              generalize (p.n true).l.length = Ln at *
              generalize (p.n false).l.length = Mn at *
              have j1 : decide (Ln < kk) = false := by simp; omega
              have j2 : decide (Mn < kk) = false := by simp; omega
              have j3 : decide (Ln < sn) = false := by simp; omega
              have j4 : decide (Ln < kk) = false := by simp; omega
              go_upto_region 15 with (go_at_call 12; refine e1.mono ?_; rintro e w6 ⟨rfl, rfl⟩)
              clear e1 q0 qa
              go_quiet ((go_at_call 13; exact Calls.quiet_of (HQ5.out _ (px_call P5.out (bw_drewN (Below.refl _ _) _)))))
              have P6 := px_call P5.out (bw_drewN (Below.refl _ _) nq)
              have HS6' := sg_call HS6.out (bw_drewN (Below.refl _ _) nq)
              have HS7' := sg_call HS7.out (bw_drewN (Below.refl _ _) nq)
              generalize w5.drewN nq = V at *
              have c6 := HQ6.out _ P6
              have c7 := HQ7.out _ P6
              have HS6' : Hid (SG w V P A D p S _ wv wx us lv) := HS6'
              have HS7' : Hid (SG w V P A D p S _ wv wx us lv) := HS7'
              clear HQ5 HQ6 HQ7 HS6 HS7 P5 P6
              by_cases hks : (sn : Int) < (kk : Int)
              · go_wp2_with (go_at_call 13; refine c7.mono ?_; rintro e w7 ⟨rfl, q, rfl⟩)
                go_round
                case rel => exact ⟨2, by go_num, by omega, sg_call HS6'.out (bw_drewN (Below.refl _ _) _)⟩
                case measure => simp [intOf]
              · go_wp2_with (go_at_call 13; refine c6.mono ?_; rintro e w7 ⟨rfl, q, rfl⟩)
                go_round
                case rel => exact ⟨2, by go_num, by omega, sg_call HS7'.out (bw_drewN (Below.refl _ _) _)⟩
                case measure => simp [intOf]
            · have hG : Hid (SG w _ P A D p S _ wv wx us lv) := hG
              go_wp2
              go_round
              case rel =>
                obtain ⟨im, s, c, sl, rfl, HPL, hE, hsl⟩ := hG.out
                exact ⟨i + 1, p, by go_num, by omega, im, s, c, sl, S, rfl, ⟨im, lv, wv, wx, us, fun _ h => h, HPL⟩, hE, HPI.out, hsl, HKB.out.1, HKB.out.2⟩
              case measure => simp [intOf]; omega
        · have h120i : ¬ ((i : Int) < 120) := by omega
          have hlti : (i : Int) < (len : Int) := by omega
          have HPS : Hid (SF w wr P A D i p _) := HPS
          clear HS
          go_wp2
          go_meet
          case rel => exact ⟨i, p, _, hi, HPS.out⟩
      · have hlti : ¬ ((i : Int) < (len : Int)) := by omega
        have HPS : Hid (SF w wr P A D i p _) := HPS
        clear HS
        go_wp2
        go_meet
        case rel => exact ⟨i, p, _, hi, HPS.out⟩
  case rest =>
    obtain ⟨i, p, v, hi, HPS⟩ := hcut
    obtain ⟨_, _, _, _, _, _, h1, -⟩ := HPS
    have HB : Hid (Below w.heap.size w _) := ple_below h1
    clear HP0 HS HX h1
    go_wp2_with fail
    refine known31_k.mono ?_
    rintro e w6 ⟨rfl, hb6⟩
    have HB6 : Hid (Below _ _ w6) := hb6
    clear hb6
    go_wp2_with fail
    go_ret
    exact ⟨rfl, bw_step HB.out HB6.out⟩
end Go.Proofs.Ytofpkmfjigjlhaa.Own
