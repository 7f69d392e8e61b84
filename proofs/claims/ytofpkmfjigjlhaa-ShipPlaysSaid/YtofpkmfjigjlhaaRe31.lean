/- The reference's Ship. No conditions beside those in each theorem. -/
import Derived.Test.YtofpkmfjigjlhaaRd31
import Derived.Deep.Slices
namespace Go.Proofs.Ytofpkmfjigjlhaa.Own
open Go.RowKit
set_option linter.unusedSimpArgs false
set_option linter.unusedVariables false
section
variable {w W : World} {rs im : List (Nat × List Value)} {n : SN} {lv : Value} {D : Nat}
/-- The first entries of a slice. -/
theorem el_takeR {rows : List (Nat × List Value)} {s : Option Addr} {n c : Nat} {es : List SE} (h : EL rows (.slice s n c) es) (k : Nat) (hk : k ≤ es.length) : EL rows (.slice s k c) (es.take k) := by
  obtain ⟨vals, hv, hs, hf⟩ := h
  refine ⟨vals.take k, by simp [hv], ?_, fun j u x hu hx => ?_⟩
  · have hl : (es.take k).length = k := by rw [List.length_take]; omega
    rw [hl]
    rcases hs with ⟨h1, h2, h3⟩ | ⟨g, cap, cur, h1, h2, h3, h4, h5⟩
    · injection h1 with h6 h7 h8
      have : k = 0 := by omega
      subst this
      refine .inl ⟨by rw [h6, h8], rfl, by simp [ecl]⟩
    · injection h1 with h6 h7 h8
      refine .inr ⟨g, cap, cur, by rw [h6, h8], h2, by omega, h4, ?_⟩
      rw [← ecl_take es vals hv, ← h5, List.take_take, Nat.min_eq_left (by omega)]
  · rw [List.getElem?_take] at hu hx
    split at hu
    · rename_i hj
      rw [if_pos hj] at hx
      exact hf j u x hu hx
    · cases hu
/-- What Ship leaves. -/
def RSP (w : World) (row : Nat × List Value) (rs : List (Nat × List Value)) (p : SP) (er : Int) (e : Ending) (W' : World) : Prop := ∃ v l, e = .returned (.tuple #[.agg #[.int .i64 p.ep, .int .i64 p.at_, .int .i64 p.bf, v, .int .i64 p.safe], .int .i64 er]) ∧ KR w (l ++ row :: rs) W' ∧ EL l v p.l
set_option maxRecDepth 100000 in
set_option maxHeartbeats 4000000 in
theorem rship_k (HK : KR w ((D, ncl n lv) :: rs) W) (hs : ∀ p ∈ im, p ∈ rs) (HE : EL im lv n.l) (hB : NB n) (most : Int) :
    Calls Try.prog 44 #[.pointer (some ⟨D, 0, none⟩), .int .i64 most] W (RSP w (D, ncl n lv) rs (sShip n most).1 (sShip n most).2) := by
  have K1 := kr_new HK [.int .i64 0, .int .i64 0, .int .i64 0, .slice none 0 0, .int .i64 0] 69
  obtain ⟨sl, cl, rfl, hlc, hE, hform⟩ := el_elv (kr_sub HK (List.sublist_cons_self _ _)) (el_mono HE hs)
  have hlen := hB.len
  generalize hL : n.l.length = L at *
  have HL : Hid (n.l.length = L) := hL
  have H1 : Hid (KR w ([(W.heap.size, [.int .i64 0, .int .i64 0, .int .i64 0, .slice none 0 0, .int .i64 0])] ++ (D, ncl n (.slice sl L cl)) :: rs) (W.alloc (.cells [.int .i64 0, .int .i64 0, .int .i64 0, .slice none 0 0, .int .i64 0].toArray 69))) := K1
  have zw : D < W.heap.size := kr_lt HK 0 rfl
  have k1 := kr_cell HK 0 rfl 1 _ rfl
  unfold sShip
  cases hd : n.ld with
  | false =>
    rw [hd] at k1
    rw [if_pos rfl]
    clear HK HE hE hform hlen hL K1 hd
    go_enter Try.func44, Try.ntmps44
    go_wp2_with fail
    exact bodyPost_ret (v := .tuple #[.agg #[.int .i64 0, .int .i64 0, .int .i64 0, .slice none 0 0, .int .i64 0], .int .i64 5]) (by simp [results, Try.results44, go_sem]) rfl ⟨_, _, rfl, H1.out, el_nil _⟩
  | true =>
    rw [hd] at k1
    rw [if_neg (by simp)]
    cases hm : inN most with
    | false =>
      rw [if_pos rfl]
      have hm2 : most < 0 ∨ (¬ most < 0 ∧ most > 4096) := by unfold inN at hm; simp at hm; omega
      clear HK HE hE hform hlen hL K1 hd hm
      rcases hm2 with hm | ⟨hm0, hm⟩
      all_goals
        go_enter Try.func44, Try.ntmps44
        go_wp2_with fail
        exact bodyPost_ret (v := .tuple #[.agg #[.int .i64 0, .int .i64 0, .int .i64 0, .slice none 0 0, .int .i64 0], .int .i64 1]) (by simp [results, Try.results44, go_sem]) rfl ⟨_, _, rfl, H1.out, el_nil _⟩
    | true =>
      rw [if_neg (by simp)]
      have hm2 : 0 ≤ most ∧ most ≤ 4096 := by unfold inN at hm; simpa using hm
      obtain ⟨hm0, hm1⟩ := hm2
      have hmk := hB.ld hd
      rw [hL] at hmk
      obtain ⟨mo, rfl⟩ : ∃ mo : Nat, most = (mo : Int) := ⟨most.toNat, by omega⟩
      rw [Int.toNat_natCast]
      have hmki : (n.mark : Int) ≤ (L : Int) := by omega
      have hLi : (L : Int) ≤ 4096 := by omega
      have hlci : (L : Int) ≤ (cl : Int) := by omega
      have HB : Hid (NB n) := hB
      have HLC : Hid (L ≤ cl ∧ n.mark ≤ L ∧ L ≤ 4096) := ⟨hlc, hmk, hlen⟩
      have HE2 : Hid (EL rs (.slice sl L cl) n.l) := el_mono HE hs
      clear HK HE hE hform hlen hL hd hm H1 hs hB
      have HK1 : Hid (KR w _ _) := K1
      clear K1
      go_enter Try.func44, Try.ntmps44
      go_upto_region 5 with fail
      have HV := HK1.out
      generalize (W.alloc (.cells #[.int .i64 0, .int .i64 0, .int .i64 0, .slice none 0 0, .int .i64 0] 69)) = V at *
      have KD := kr_drew HV
      have k3 := kr_cell KD 1 rfl 3 _ rfl
      have k5 := kr_cell KD 1 rfl 5 _ rfl
      have HEV : ELV V.drew sl n.l := el_read (kr_tail (kr_tail KD)) HE2.out
      have HKD : Hid (KR w _ V.drew) := KD
      clear k1 HV KD
      go_cut [6] (fun v6 wx => ∃ s6 c6 l6, v6 = .slice s6 (L - n.mark) c6 ∧ KR w (l6 ++ (W.heap.size, [.int .i64 0, .int .i64 0, .int .i64 0, .slice none 0 0, .int .i64 0]) :: (D, ncl n (.slice sl L cl)) :: rs) wx ∧ EL l6 (.slice s6 (L - n.mark) c6) (n.l.drop n.mark))
      case first =>
        have hsz : Sized (L - n.mark) (n.l.drop n.mark) := ⟨by have := HLC.out; omega, fun x hx => by have := HB.out.data x ((List.drop_sublist _ _).subset hx); omega⟩
        have hln : (n.l.drop n.mark).length = L - n.mark := by rw [List.length_drop, HL.out]
        have hct := fun s c hE => rLent_el (V := V.drew) (n.l.drop n.mark) (L - n.mark) hln hsz s c hE
        have hE0 := elv_drop HEV n.mark
        by_cases hcap : n.mark = cl
        · have hL0 : L = cl := by have := HLC.out; omega
          have HNIL : Hid (n.l.drop n.mark = [] ∧ L - n.mark = 0) := by
            have h0 : L - n.mark = 0 := by omega
            exact ⟨List.eq_nil_of_length_eq_zero (by rw [hln, h0]), h0⟩
          have c5 := rLent_el (V := V.drew) [] 0 rfl ⟨by omega, fun x hx => by cases hx⟩ sl 0 elv_nil
          subst hL0
          rw [hcap] at k5
          clear hsz hln hct hE0 HEV hcap hmki hlci
          go_still_tail 9, (by kernel_rfl)
          change wpList _ _ _ _ _ V.drew
          go_wp2_with fail
          refine c5.mono ?_
          rintro e w3 ⟨s3, c3, l3, rfl, K3, E3⟩
          have K4 := kr_join HKD.out K3
          clear K3 k3 k5 c5
          go_wp2_with fail
          go_meet
          case rel => exact ⟨s3, c3, l3, by rw [HNIL.out.2], K4, by rw [HNIL.out.1, HNIL.out.2]; exact E3⟩
        · have c5 := hct _ (cl - n.mark) hE0
          have hlt : (n.mark : Int) < (cl : Int) := by have := HLC.out; omega
          clear hsz hln hct hE0 HEV
          go_still_tail 9, (by kernel_rfl)
          change wpList _ _ _ _ _ V.drew
          go_wp2_with fail
          refine c5.mono ?_
          rintro e w3 ⟨s3, c3, l3, rfl, K3, E3⟩
          have K4 := kr_join HKD.out K3
          clear K3 k3 k5 c5
          go_wp2_with fail
          go_meet
          case rel => exact ⟨s3, c3, l3, rfl, K4, E3⟩
      case rest =>
        obtain ⟨s6, c6, l6, rfl, K6, E6⟩ := hcut
        clear k3 k5 HKD
        have hld : (n.l.drop n.mark).length = L - n.mark := by rw [List.length_drop, HL.out]
        obtain ⟨R, hR⟩ : ∃ R, R = L - n.mark := ⟨_, rfl⟩
        rw [← hR] at E6 hld ⊢
        have hRi : R ≤ 4096 := by have := HLC.out; omega
        have HRR : Hid (R = L - n.mark) := hR
        clear hR
        have hRc : (R : Int) ≤ (c6 : Int) := by
          obtain ⟨_, _, h1, h2⟩ := el_form E6
          injection h1 with _ _ h3
          omega
        go_upto_if 33 with (fail)
        go_cut [6] (fun v6 wx => v6 = .slice s6 (min mo R) c6 ∧ KR w (l6 ++ (W.heap.size, [.int .i64 0, .int .i64 0, .int .i64 0, .slice none 0 0, .int .i64 0]) :: (D, ncl n (.slice sl L cl)) :: rs) wx)
        case first =>
          have HK6 : Hid (KR w _ _) := K6
          clear K6
          by_cases hmr : mo < R
          · have hmi : (mo : Int) < (R : Int) := by omega
            have hmc : (mo : Int) ≤ (c6 : Int) := by omega
            have HM : Hid (min mo R = mo) := by show _ = _; omega
            clear E6 hld hmr
            go_wp2_with fail
            go_meet
            case rel => exact ⟨by rw [HM.out], HK6.out⟩
          · have hmi : ¬ (mo : Int) < (R : Int) := by omega
            have HM : Hid (min mo R = R) := by show _ = _; omega
            clear E6 hld hmr
            go_wp2_with fail
            go_meet
            case rel => exact ⟨by rw [HM.out], HK6.out⟩
        case rest =>
          clear K6
          obtain ⟨rfl, K6⟩ := hcut
          have HET : Hid (EL l6 (.slice s6 (min mo R) c6) ((n.l.drop n.mark).take mo)) := by
            have h1 := el_takeR E6 (min mo R) (by rw [hld]; omega)
            rwa [show (n.l.drop n.mark).take (min mo R) = (n.l.drop n.mark).take mo from by
              rcases Nat.le_total mo R with h | h
              · rw [Nat.min_eq_left h]
              · rw [Nat.min_eq_right h, List.take_of_length_le (by rw [hld]; exact Nat.le_refl _), List.take_of_length_le (by rw [hld]; exact h)]] at h1
          clear E6 hld
          have KD := kr_permA (kr_drew K6) (by exact (List.perm_middle.trans (List.Perm.cons _ List.perm_middle)).symm)
          have c0 := repoch_k (kr_tail KD) (el_mono HE2.out (fun q hq => List.mem_append_right _ hq)) HB.out n.mark (by have := HLC.out; have := HL.out; omega)
          have E0 : Calls Try.prog 56 #[.pointer (some ⟨D, 0, none⟩), .int .i64 (n.mark : Int)] wc.drew fun e w'' => e = .returned (.int .i64 (epAt n.l n.mark)) ∧ w'' = wc.drew := c0.mono fun _ _ h => ⟨h.1, h.2.symm⟩
          have k2 := kr_cell KD 1 rfl 2 _ rfl
          have k4 := kr_cell KD 1 rfl 4 _ rfl
          have k5 := kr_cell KD 1 rfl 5 _ rfl
          have HKD : Hid (KR w _ wc.drew) := KD
          clear K6 KD c0
          go_upto_region 8 with fail
          refine wp_region_still_tail 20 (by kernel_rfl) (by kernel_rfl) ?_
          simp only [List.take_succ_cons, List.take_zero, List.drop_succ_cons, List.drop_zero]
          refine wpStill_quiet _ _ ?_
          repeat (first | go_big_quiet_skip | (go_big_quiet_want; go_big_quiet_op; first | go_big_quiet_on | ((with_reducible refine ⟨_, E0, ?_⟩); go_big_quiet_on)))
          refine wpQuiet_nil ?_
          change wpList _ _ _ _ _ wc.drew
          have KD := HKD.out
          clear HKD k2 k4 k5 E0
          generalize wc.drew = V2 at *
          have b0 := kr_cell KD 0 rfl 0 _ rfl
          have b1 := kr_cell KD 0 rfl 1 _ rfl
          have b2 := kr_cell KD 0 rfl 2 _ rfl
          have b3 := kr_cell KD 0 rfl 3 _ rfl
          have b4 := kr_cell KD 0 rfl 4 _ rfl
          have d0 := kr_frozen KD 0 rfl 0 (by show 0 < 5; omega)
          have d1 := kr_frozen KD 0 rfl 1 (by show 1 < 5; omega)
          have d2 := kr_frozen KD 0 rfl 2 (by show 2 < 5; omega)
          have d3 := kr_frozen KD 0 rfl 3 (by show 3 < 5; omega)
          have d4 := kr_frozen KD 0 rfl 4 (by show 4 < 5; omega)
          have K5 := kr_fset (kr_fset (kr_fset (kr_fset (kr_fset KD 0 rfl 0 (by show 0 < 5; omega) (.int .i64 n.ep) _ rfl) 0 rfl 1 (by show 1 < 5; omega) (.int .i64 (n.mark : Int)) _ rfl) 0 rfl 2 (by show 2 < 5; omega) (.int .i64 (epAt n.l n.mark)) _ rfl) 0 rfl 3 (by show 3 < 5; omega) (.slice s6 (min mo R) c6) _ rfl) 0 rfl 4 (by show 4 < 5; omega) (.int .i64 (n.safe : Int)) _ rfl
          simp only [List.set_cons_zero, List.set_cons_succ] at K5
          have HK5 : Hid (KR w _ _) := K5
          obtain ⟨Q, hQ⟩ : ∃ Q, Q = min mo R := ⟨_, rfl⟩
          rw [← hQ] at HET HK5 ⊢
          clear K5 KD hQ
          go_wp2_with fail
          have K5 := HK5.out
          clear HK5 b0 b1 b2 b3 b4 d0 d1 d2 d3 d4
          generalize (((((V2.setCell ⟨W.heap.size, 0, none⟩ (.int .i64 n.ep)).setCell ⟨W.heap.size, 1, none⟩ (.int .i64 (n.mark : Int))).setCell ⟨W.heap.size, 2, none⟩ (.int .i64 (epAt n.l n.mark))).setCell ⟨W.heap.size, 3, none⟩ (.slice s6 Q c6)).setCell ⟨W.heap.size, 4, none⟩ (.int .i64 (n.safe : Int))) = W5 at K5 ⊢
          have r0 := kr_cell K5 0 rfl 0 _ rfl
          have r1 := kr_cell K5 0 rfl 1 _ rfl
          have r2 := kr_cell K5 0 rfl 2 _ rfl
          have r3 := kr_cell K5 0 rfl 3 _ rfl
          have r4 := kr_cell K5 0 rfl 4 _ rfl
          have HK6 : Hid (KR w ((W.heap.size, [.int .i64 n.ep, .int .i64 (n.mark : Int), .int .i64 (epAt n.l n.mark), .slice s6 Q c6, .int .i64 (n.safe : Int)]) :: (l6 ++ (D, ncl n (.slice sl L cl)) :: rs)) W5) := kr_permA K5 (List.Perm.cons _ List.perm_middle)
          clear K5
          exact bodyPost_ret (v := .tuple #[.agg #[.int .i64 n.ep, .int .i64 (n.mark : Int), .int .i64 (epAt n.l n.mark), .slice s6 Q c6, .int .i64 (n.safe : Int)], .int .i64 0]) (by simp [results, Try.results44, go_sem, r0, r1, r2, r3, r4]) rfl ⟨_, (W.heap.size, _) :: l6, rfl, HK6.out, el_mono HET.out (fun p hp => List.mem_cons_of_mem _ hp)⟩
end
end Go.Proofs.Ytofpkmfjigjlhaa.Own
