/- What dayshift/log's Open does with a disk in memory. No conditions beside those in each theorem. -/
import Derived.Test.YtaonaifnaecpiaaMD
import Derived.Deep.DeepCutAuto
namespace Go.Proofs.Ytaonaifnaecpiaa.Own
open Go.RowKit Go.Proofs.YtaonaifnaecpiaaW.PrintWords
set_option linter.unusedSimpArgs false
set_option linter.unusedVariables false
def osnap (s : List Int) : Option (Nat × List Int) :=
  if s = [] then some (0, []) else match parse1 s with
    | some (q, r) => if 16 + r.length = s.length then some (q, r) else none
    | none => none
def odrop (seq first : Nat) (recs : List (List Int)) : Nat × List (List Int) :=
  if recs ≠ [] ∧ first ≤ seq then (first + min (seq - first + 1) recs.length, recs.drop (min (seq - first + 1) recs.length)) else (first, recs)
/-- What Open answers: the error, the disk, the number, the snapshot, the records. -/
def openR (p : PD) : Int × PD × Nat × List Int × List (List Int) :=
  match osnap (p.f 1).1 with
  | none => (11, p, 0, [], [])
  | some (seq, snap) =>
    if (odrop seq (scan (p.f 0).1).1 (scan (p.f 0).1).2).2 ≠ [] ∧ (odrop seq (scan (p.f 0).1).1 (scan (p.f 0).1).2).1 ≠ seq + 1 then (11, p, 0, [], [])
    else if flen (scan (p.f 0).1).2 < (p.f 0).1.length then
      if (pwr p 2 0 ((p.f 0).1.take (flen (scan (p.f 0).1).2))).2 ≠ 0 then ((pwr p 2 0 ((p.f 0).1.take (flen (scan (p.f 0).1).2))).2, (pwr p 2 0 ((p.f 0).1.take (flen (scan (p.f 0).1).2))).1, 0, [], [])
      else (0, (pwr p 2 0 ((p.f 0).1.take (flen (scan (p.f 0).1).2))).1, (seq + (odrop seq (scan (p.f 0).1).1 (scan (p.f 0).1).2).2.length + 1) % 18446744073709551616, snap, (odrop seq (scan (p.f 0).1).1 (scan (p.f 0).1).2).2)
    else (0, p, (seq + (odrop seq (scan (p.f 0).1).1 (scan (p.f 0).1).2).2.length + 1) % 18446744073709551616, snap, (odrop seq (scan (p.f 0).1).1 (scan (p.f 0).1).2).2)
theorem scn_bound : ∀ (n : Nat) (bs : List Int) (q : Nat), isB bs → q ≤ 18446744073709551616 → q + (scn n bs q).length ≤ 18446744073709551616 := by
  intro n
  induction n with
  | zero => intro bs q _ h; simpa [scn] using h
  | succ n ih =>
    intro bs q hb h
    rw [scn]
    rcases hp : parse1 bs with _ | ⟨p, r⟩
    · simpa using h
    · simp only
      have := parse1_q hb hp
      split
      · rename_i h1
        have := ih (bs.drop (16 + r.length)) (q + 1) (isB_drop hb _) (by omega)
        rw [List.length_cons]
        omega
      · simpa using h
theorem scan_props {bs : List Int} (hb : isB bs) : (scan bs).1 + (scan bs).2.length ≤ 18446744073709551616 ∧ flen (scan bs).2 ≤ bs.length ∧ ((scan bs).2 ≠ [] → 1 ≤ (scan bs).1) := by
  unfold scan
  rcases hp : parse1 bs with _ | ⟨q, r⟩
  · simp [flen]
  · have := parse1_q hb hp
    rcases q with _ | q
    · simp [flen]
    · exact ⟨scn_bound bs.length bs (q + 1) hb (Nat.le_of_lt this), scn_len _ _ _, fun _ => by simp⟩
theorem scan_lt {bs : List Int} (hb : isB bs) : (scan bs).1 < 18446744073709551616 := by
  unfold scan
  rcases hp : parse1 bs with _ | ⟨q, r⟩
  · exact (by decide : 0 < 18446744073709551616)
  · have := parse1_q hb hp
    rcases q with _ | q
    · exact (by decide : 0 < 18446744073709551616)
    · exact this
theorem openR_none {p : PD} (h : osnap (p.f 1).1 = none) : openR p = (11, p, 0, [], []) := by unfold openR; rw [h]
/-- A list of byte lists in a row, from anywhere in it. -/
def RV (rows : List (Nat × List Value)) (v : Value) (recs : List (List Int)) : Prop := ∃ sp cap, v = .slice sp recs.length cap ∧ recs.length ≤ cap ∧ (0 < recs.length → ∃ b off l, sp = some ⟨b, off, none⟩ ∧ (b, l) ∈ rows ∧ ∀ (j : Nat) (r : List Int), recs[j]? = some r → ∃ u, l[off + j]? = some u ∧ FC rows u r)
theorem rl_rv {rows : List (Nat × List Value)} {v : Value} {recs : List (List Int)} (h : RL rows v recs) : RV rows v recs := by
  obtain ⟨vals, hl, hs, hf⟩ := h
  rcases hs with ⟨rfl, h1, h2⟩ | ⟨b, cap, l, rfl, h2, h3, h4, h5⟩
  · exact ⟨none, 0, by rw [h1], by omega, fun h0 => by omega⟩
  · refine ⟨_, cap, rfl, h3, fun h0 => ⟨b, 0, l, rfl, h2, fun j r hr => ?_⟩⟩
    have hj := (List.getElem?_eq_some_iff.1 hr).1
    have hv : vals[j]? = some (vals[j]'(by omega)) := List.getElem?_eq_getElem (by omega)
    refine ⟨_, ?_, hf j _ r hv hr⟩
    have h6 : (l.take (recs.length * 1))[j]? = some (vals[j]'(by omega)) := by rw [h5]; exact hv
    rw [Nat.mul_one, List.getElem?_take, if_pos (by omega)] at h6
    rw [Nat.zero_add]
    exact h6
theorem rv_mono {rs rs' : List (Nat × List Value)} {v : Value} {recs : List (List Int)} (h : RV rs v recs) (hs : ∀ p ∈ rs, p ∈ rs') : RV rs' v recs := by
  obtain ⟨sp, cap, h1, h2, h3⟩ := h
  refine ⟨sp, cap, h1, h2, fun h0 => ?_⟩
  obtain ⟨b, off, l, h4, h5, h6⟩ := h3 h0
  refine ⟨b, off, l, h4, hs _ h5, fun j r hr => ?_⟩
  obtain ⟨u, h7, h8⟩ := h6 j r hr
  exact ⟨u, h7, fc_monoL h8 hs⟩
theorem rv_llv {w W : World} {rows : List (Nat × List Value)} {v : Value} {recs : List (List Int)} (HK : KR w rows W) (h : RV rows v recs) : ∃ sp cap, v = .slice sp recs.length cap ∧ recs.length ≤ cap ∧ LLV W sp recs := by
  obtain ⟨sp, cap, h1, h2, h3⟩ := h
  refine ⟨sp, cap, h1, h2, fun h0 => ?_⟩
  obtain ⟨b, off, l, rfl, h5, h6⟩ := h3 h0
  refine ⟨_, rfl, fun j r hr => ?_⟩
  obtain ⟨u, h7, h8⟩ := h6 j r hr
  obtain ⟨sj, cj, he, hS⟩ := fc_srcL HK h8
  refine ⟨sj, cj, ?_, hS⟩
  rw [Addr.add_mid, ← he]
  have := kr_mem HK h5 (off + j) _ h7
  rwa [Nat.zero_add] at this
/-- Its end behind k records. -/
theorem rv_drop {rows : List (Nat × List Value)} {sp : Option Addr} {cap n : Nat} {recs : List (List Int)} (h : RV rows (.slice sp n cap) recs) (k : Nat) (hk : k ≤ n) : RV rows (.slice (if cap = k then sp else sp.map (fun x => x.add k)) (n - k) (cap - k)) (recs.drop k) := by
  obtain ⟨sp', cap', h1, h2, h3⟩ := h
  injection h1 with e1 e2 e3
  subst e1 e2 e3
  refine ⟨_, _, by rw [List.length_drop], by rw [List.length_drop]; omega, fun h0 => ?_⟩
  rw [List.length_drop] at h0
  obtain ⟨b, off, l, rfl, h5, h6⟩ := h3 (by omega)
  rw [if_neg (by omega)]
  refine ⟨b, off + k, l, by show some (Addr.add _ k) = some _; rw [Addr.add_mid], h5, fun j r hr => ?_⟩
  rw [List.getElem?_drop] at hr
  obtain ⟨u, h7, h8⟩ := h6 (k + j) r hr
  exact ⟨u, by rw [Nat.add_assoc]; exact h7, h8⟩
theorem rv_drop2 {rows : List (Nat × List Value)} {sp : Option Addr} {cap n : Nat} {recs : List (List Int)} (h : RV rows (.slice sp n cap) recs) (k : Nat) (hk : k ≤ n) (sp' : Option Addr) (m : Nat) (hm : m = n - k) (cap' : Nat) (hc : m ≤ cap') (hp : 0 < m → ∀ b off, sp = some ⟨b, off, none⟩ → sp' = some ⟨b, off + k, none⟩) : RV rows (.slice sp' m cap') (recs.drop k) := by
  obtain ⟨sq, cq, h1, h2, h3⟩ := h
  injection h1 with e1 e2 e3
  subst e1 e2 e3 hm
  refine ⟨_, _, by rw [List.length_drop], by rw [List.length_drop]; exact hc, fun h0 => ?_⟩
  rw [List.length_drop] at h0
  obtain ⟨b, off, l, e, h5, h6⟩ := h3 (by omega)
  refine ⟨b, off + k, l, hp h0 b off e, h5, fun j r hr => ?_⟩
  rw [List.getElem?_drop] at hr
  obtain ⟨u, h7, h8⟩ := h6 (k + j) r hr
  exact ⟨u, by rw [Nat.add_assoc]; exact h7, h8⟩
theorem wrap_add64 (a b : Nat) : IntKind.u64.wrap ((a : Int) + (b : Int)) = (((a + b) % 18446744073709551616 : Nat) : Int) := by rw [wrap_u64']; omega
theorem odrop_props (seq first : Nat) (recs : List (List Int)) (h1 : first + recs.length ≤ 18446744073709551616) (h2 : recs ≠ [] → 1 ≤ first) (h3 : first < 18446744073709551616) : (odrop seq first recs).2.length ≤ recs.length ∧ ((odrop seq first recs).2 ≠ [] → 1 ≤ (odrop seq first recs).1 ∧ (odrop seq first recs).1 < 18446744073709551616) := by
  unfold odrop
  split
  · refine ⟨by simp, fun h => ?_⟩
    have hl : 0 < (recs.drop (min (seq - first + 1) recs.length)).length := List.length_pos_iff.2 h
    rw [List.length_drop] at hl
    have hn : recs ≠ [] := by intro e; rw [e] at hl; simp at hl
    have := h2 hn
    simp only
    omega
  · exact ⟨Nat.le_refl _, fun h => ⟨h2 h, h3⟩⟩
theorem arr_zero : (Try.prog.info? 80).map (fun i => (i.zero, i.size)) = some (some (.agg [Value.slice none 0 0, Value.slice none 0 0].toArray), 2) := by kernel_rfl
set_option maxRecDepth 100000 in
set_option maxHeartbeats 4000000 in
theorem open_k {ks : List (Nat × List Value)} {w W : World} {D : Nat} {p : PD} {xs : List (Nat × List Value)} (h : DX w W D p xs ks) (hb0 : isB (p.f 0).1) (hb1 : isB (p.f 1).1) :
    Calls Try.prog 24 #[.pointer (some ⟨D, 0, none⟩)] W fun e W' =>
      ((openR p).1 ≠ 0 ∧ e = .returned (.tuple #[.pointer none, .slice none 0 0, .slice none 0 0, .int .i64 (openR p).1]) ∧ DX w W' D (openR p).2.1 xs ks) ∨
      ((openR p).1 = 0 ∧ ∃ G vs vr l, e = .returned (.tuple #[.pointer (some ⟨G, 0, none⟩), vs, vr, .int .i64 0]) ∧ DX w W' D (openR p).2.1 ((G, lgc D (openR p).2.2.1 (openR p).2.2.2.2.length false) :: (l ++ xs)) ks ∧ FC l vs (openR p).2.2.2.1 ∧ RV l vr (openR p).2.2.2.2) := by
  have l0 := (dx_len h 0 (by omega)).1
  have l1 := (dx_len h 1 (by omega)).1
  have r1 := dx_readk h 1 (by omega)
  have r0 := fun W1 ys (H1 : DX w W1 D p ys ks) => dx_readk H1 0 (by omega)
  have HB : Hid (isB (p.f 0).1 ∧ isB (p.f 1).1 ∧ (p.f 0).1.length ≤ 1048576 ∧ (p.f 1).1.length ≤ 1048576) := ⟨hb0, hb1, l0, l1⟩
  obtain ⟨n0, hn0⟩ : ∃ n0, n0 = (p.f 0).1.length := ⟨_, rfl⟩
  obtain ⟨n1, hn1⟩ : ∃ n1, n1 = (p.f 1).1.length := ⟨_, rfl⟩
  have h0i : (n0 : Int) ≤ 1048576 := by omega
  have h1i : (n1 : Int) ≤ 1048576 := by omega
  rw [← hn0] at r0
  rw [← hn1] at r1
  have HN : Hid (n0 = (p.f 0).1.length ∧ n1 = (p.f 1).1.length) := ⟨hn0, hn1⟩
  have T1 : Hid True := trivial
  clear hb0 hb1 l0 l1 hn0 hn1 h
  go_enter Try.func24, Try.ntmps24
  go_upto_if 35 with (first | (clear T1; go_at_call 45; refine r1.mono ?_; rintro e w1 ⟨g1, rfl, H1⟩; clear r1) | ((with_reducible show wpList _ _ _ (Oper.mk _ (Op.alloc 80) _ _ _ _ :: _) _ _); refine wl_alloc 80 [.slice none 0 0, .slice none 0 0] 2 rfl rfl arr_zero ?_; have H2 := dx_new H1 [.slice none 0 0, .slice none 0 0] 80; clear H1) | (go_at_call 45; refine (r0 _ _ H2).mono ?_; rintro e w3 ⟨g0, rfl, H3⟩; have H4 := dx_perm H3 (List.Perm.swap _ _ _); clear H2 H3 r0; have k0 := kr_cell (dx_kr H4) 0 rfl 0 _ rfl; have f0 := kr_frozen (dx_kr H4) 0 rfl 0 (by decide); have k1 := kr_cell (dx_kr H4) 0 rfl 1 _ rfl; have f1 := kr_frozen (dx_kr H4) 0 rfl 1 (by decide)))
  obtain ⟨F, hF⟩ : ∃ F, w1.heap.size = F := ⟨_, rfl⟩
  rw [hF] at H4 ⊢
  have H5 := dx_fset (dx_fset H4 0 (by decide) (.slice (some ⟨g0, 0, none⟩) n0 n0) _ rfl) 1 (by show 1 < 2; omega) (.slice (some ⟨g1, 0, none⟩) n1 n1) _ rfl
  simp only [List.set_cons_zero, List.set_cons_succ] at H5
  generalize (w3.setCell _ _).setCell _ _ = w4 at H5 ⊢
  clear hF H4 k0 f0 k1 f1
  go_cut [9, 10] (fun v9 v10 wx => ∃ seq snap l, osnap (p.f 1).1 = some (seq, snap) ∧ v9 = .int .u64 ((seq : Nat) : Int) ∧ FC l v10 snap ∧ seq < 18446744073709551616 ∧ DX w wx D p (l ++ (F, [Value.slice (some ⟨g0, 0, none⟩) n0 n0, Value.slice (some ⟨g1, 0, none⟩) n1 n1]) :: (g0, bc (p.f 0).1) :: (g1, bc (p.f 1).1) :: xs) ks)
  case first =>
    have hS : SrcV w4 (some ⟨g1, 0, none⟩) (bcl (p.f 1).1) := srcV_row (cs := bcl (p.f 1).1) (m := (bc (p.f 1).1).length) (dx_kr H5) (List.mem_cons_of_mem _ (List.mem_cons_of_mem _ List.mem_cons_self)) (List.take_of_length_le (Nat.le_refl _))
    have hfr := fram_k (w := w4) (p.f 1).1 n1 HN.out.2.symm HB.out.2.1 (by have := HB.out.2.2.2; have := HN.out; omega) (some ⟨g1, 0, none⟩) n1 (Nat.le_refl _) hS
    have HO : Hid (osnap (p.f 1).1 = if (p.f 1).1 = [] then some (0, []) else match parse1 (p.f 1).1 with
      | some (q, r) => if 16 + r.length = (p.f 1).1.length then some (q, r) else none
      | none => none) := rfl
    have HQ : Hid (∀ q r, parse1 (p.f 1).1 = some (q, r) → q < 18446744073709551616 ∧ 16 + r.length ≤ n1) := fun q r h => ⟨parse1_q HB.out.2.1 h, by rw [HN.out.2]; exact (parse1_len h).1⟩
    clear hS
    by_cases hs : (p.f 1).1 = []
    · have hz : n1 = 0 := by rw [HN.out.2, hs]; rfl
      have HO2 : Hid (osnap (p.f 1).1 = some (0, [])) := by have := HO.out; rw [if_pos hs] at this; exact this
      have HH : Hid (DX w w4 D p ([] ++ (F, [Value.slice (some ⟨g0, 0, none⟩) n0 n0, Value.slice (some ⟨g1, 0, none⟩) n1 n1]) :: (g0, bc (p.f 0).1) :: (g1, bc (p.f 1).1) :: xs) ks) := H5
      clear hs HO H5 hfr
      subst hz
      go_wp2_with fail
      go_meet
      case rel => exact ⟨0, [], [], HO2.out, rfl, .inl ⟨rfl, rfl⟩, by omega, HH.out⟩
    · have HO2 := HO.out
      rw [if_neg hs] at HO2
      have hpos : (0 : Int) < (n1 : Int) := by have := List.length_pos_iff.2 hs; have := HN.out.2; omega
      generalize parse1 (p.f 1).1 = pe at hfr HO2 HQ
      rcases pe with _ | ⟨q, r⟩
      · have HE : Hid (openR p = (11, p, 0, [], [])) := openR_none HO2
        simp only [frameR] at hfr
        have HH : Hid (DX w w4 D p xs ks) := dx_sub H5 (List.sublist_append_right [_, _, _] xs)
        clear hs HO H5 HO2 HQ
        go_wp2_with (go_at_call 43; refine hfr.mono ?_; rintro e w5 ⟨v0, rfl, hR, hBl⟩; have HG := dx_call HH.out hBl)
        refine bodyPost_ret (v := .tuple #[.pointer none, .slice none 0 0, .slice none 0 0, .int .i64 11]) (by simp [results, Try.results24, go_sem]) rfl (.inl ⟨by rw [HE.out]; exact (by decide : (11 : Int) ≠ 0), by rw [HE.out], by rw [HE.out]; exact HG⟩)
      · simp only [frameR] at hfr HO2
        obtain ⟨hq, hrl⟩ := HQ.out q r rfl
        have hqi : (q : Int) < 18446744073709551616 := by omega
        have HQ2 : Hid (q < 18446744073709551616) := hq
        have hri : (16 : Int) + (r.length : Int) ≤ (n1 : Int) := by omega
        rw [← HN.out.2] at HO2
        by_cases hl : 16 + r.length = n1
        · rw [if_pos hl] at HO2
          have HO3 : Hid (osnap (p.f 1).1 = some (q, r)) := HO2
          have hli : (16 : Int) + (r.length : Int) = (n1 : Int) := by omega
          have HH : Hid (DX w w4 D p ((F, [Value.slice (some ⟨g0, 0, none⟩) n0 n0, Value.slice (some ⟨g1, 0, none⟩) n1 n1]) :: (g0, bc (p.f 0).1) :: (g1, bc (p.f 1).1) :: xs) ks) := H5
          clear hs HO H5 HO2 HQ hl hq hqi hri
          go_wp2_with (go_at_call 43; refine hfr.mono ?_; rintro e w5 ⟨v0, rfl, hR, hBl⟩; obtain ⟨lr, HKr, HCr⟩ := r_kr hBl hR; clear hBl hR; have HFr := sc_fc rfl HCr; clear HCr; have HG := dx_join HH.out HKr; clear HKr; obtain ⟨sv, cv, rfl, hcv⟩ := fc_form HFr)
          go_meet
          case rel => exact ⟨q, r, lr, HO3.out, rfl, HFr, HQ2.out, HG⟩
        · rw [if_neg hl] at HO2
          have HE : Hid (openR p = (11, p, 0, [], [])) := openR_none HO2
          have hli : ¬ (16 : Int) + (r.length : Int) = (n1 : Int) := by omega
          have hlb : ((16 : Int) + (r.length : Int) == (n1 : Int)) = false := by simpa using hli
          have HH : Hid (DX w w4 D p xs ks) := dx_sub H5 (List.sublist_append_right [_, _, _] xs)
          clear hs HO H5 HO2 HQ hl hq hqi
          go_wp2_with (go_at_call 43; refine hfr.mono ?_; rintro e w5 ⟨v0, rfl, hR, hBl⟩; have HG := dx_call HH.out hBl; obtain ⟨lr, HKr, HCr⟩ := r_kr hBl hR; clear hBl hR; have HFr := sc_fc rfl HCr; clear HCr HKr; obtain ⟨sv, cv, rfl, hcv⟩ := fc_form HFr)
          refine bodyPost_ret (v := .tuple #[.pointer none, .slice none 0 0, .slice none 0 0, .int .i64 11]) (by simp [results, Try.results24, go_sem]) rfl (.inl ⟨by rw [HE.out]; exact (by decide : (11 : Int) ≠ 0), by rw [HE.out], by rw [HE.out]; exact HG⟩)
  case rest =>
    obtain ⟨seq, snap, l1, HOs, rfl, HFs, hseq, H6⟩ := hcut
    obtain ⟨ss, cs, rfl, hcs⟩ := fc_form HFs
    have hF : ∀ W1 ys, KR w (ys ++ (l1 ++ (F, [Value.slice (some ⟨g0, 0, none⟩) n0 n0, Value.slice (some ⟨g1, 0, none⟩) n1 n1]) :: (g0, bc (p.f 0).1) :: (g1, bc (p.f 1).1) :: xs)) W1 → W1.cell? ⟨F, 0, none⟩ = some (.slice (some ⟨g0, 0, none⟩) n0 n0) := fun W1 ys H => by
      have := kr_mem H (List.mem_append_right _ (List.mem_append_right _ List.mem_cons_self)) 0 _ rfl
      rwa [Nat.zero_add] at this
    have hG : ∀ W1 ys, KR w (ys ++ (l1 ++ (F, [Value.slice (some ⟨g0, 0, none⟩) n0 n0, Value.slice (some ⟨g1, 0, none⟩) n1 n1]) :: (g0, bc (p.f 0).1) :: (g1, bc (p.f 1).1) :: xs)) W1 → SrcV W1 (some ⟨g0, 0, none⟩) (bcl (p.f 0).1) := fun W1 ys H => srcV_row (cs := bcl (p.f 0).1) (m := (bc (p.f 0).1).length) H (List.mem_append_right _ (List.mem_append_right _ (List.mem_cons_of_mem _ List.mem_cons_self))) (List.take_of_length_le (Nat.le_refl _))
    have HY : Hid (xs.Sublist (l1 ++ (F, [Value.slice (some ⟨g0, 0, none⟩) n0 n0, Value.slice (some ⟨g1, 0, none⟩) n1 n1]) :: (g0, bc (p.f 0).1) :: (g1, bc (p.f 1).1) :: xs)) := ((List.sublist_append_right [_, _, _] xs).trans (List.sublist_append_right l1 _))
    have HYl : Hid (∃ l2, l1 ++ (F, [Value.slice (some ⟨g0, 0, none⟩) n0 n0, Value.slice (some ⟨g1, 0, none⟩) n1 n1]) :: (g0, bc (p.f 0).1) :: (g1, bc (p.f 1).1) :: xs = (l1 ++ l2) ++ xs) := ⟨[(F, [Value.slice (some ⟨g0, 0, none⟩) n0 n0, Value.slice (some ⟨g1, 0, none⟩) n1 n1]), (g0, bc (p.f 0).1), (g1, bc (p.f 1).1)], by simp⟩
    generalize l1 ++ (F, [Value.slice (some ⟨g0, 0, none⟩) n0 n0, Value.slice (some ⟨g1, 0, none⟩) n1 n1]) :: (g0, bc (p.f 0).1) :: (g1, bc (p.f 1).1) :: xs = ys at H6 hF hG HY HYl
    have kF := hF _ [] (dx_kr H6)
    have hsc := scan_k (w := wc) (p.f 0).1 n0 HN.out.1.symm HB.out.1 (by have := HB.out.2.2.1; have := HN.out; omega) (some ⟨g0, 0, none⟩) n0 (Nat.le_refl _) (hG _ [] (dx_kr H6))
    have HP : Hid ((scan (p.f 0).1).1 + (scan (p.f 0).1).2.length ≤ 18446744073709551616 ∧ flen (scan (p.f 0).1).2 ≤ (p.f 0).1.length ∧ ((scan (p.f 0).1).2 ≠ [] → 1 ≤ (scan (p.f 0).1).1) ∧ 16 * (scan (p.f 0).1).2.length ≤ flen (scan (p.f 0).1).2) := ⟨(scan_props HB.out.1).1, (scan_props HB.out.1).2.1, (scan_props HB.out.1).2.2, flen_ge _⟩
    have HO : Hid (openR p = if (odrop seq (scan (p.f 0).1).1 (scan (p.f 0).1).2).2 ≠ [] ∧ (odrop seq (scan (p.f 0).1).1 (scan (p.f 0).1).2).1 ≠ seq + 1 then (11, p, 0, [], [])
      else if flen (scan (p.f 0).1).2 < (p.f 0).1.length then
        if (pwr p 2 0 ((p.f 0).1.take (flen (scan (p.f 0).1).2))).2 ≠ 0 then ((pwr p 2 0 ((p.f 0).1.take (flen (scan (p.f 0).1).2))).2, (pwr p 2 0 ((p.f 0).1.take (flen (scan (p.f 0).1).2))).1, 0, [], [])
        else (0, (pwr p 2 0 ((p.f 0).1.take (flen (scan (p.f 0).1).2))).1, (seq + (odrop seq (scan (p.f 0).1).1 (scan (p.f 0).1).2).2.length + 1) % 18446744073709551616, snap, (odrop seq (scan (p.f 0).1).1 (scan (p.f 0).1).2).2)
      else (0, p, (seq + (odrop seq (scan (p.f 0).1).1 (scan (p.f 0).1).2).2.length + 1) % 18446744073709551616, snap, (odrop seq (scan (p.f 0).1).1 (scan (p.f 0).1).2).2)) := by
      show _ = _
      unfold openR
      rw [HOs]
    have HSQ : Hid (osnap (p.f 1).1 = some (seq, snap) ∧ seq < 18446744073709551616) := ⟨HOs, hseq⟩
    clear HOs hseq
    have HFQ : Hid ((scan (p.f 0).1).1 < 18446744073709551616) := scan_lt HB.out.1
    rw [← HN.out.1] at HO HP
    generalize scan (p.f 0).1 = sc at hsc HP HO HFQ
    obtain ⟨first, recs⟩ := sc
    simp only at hsc HP HO HFQ
    go_upto_region 14 with (go_at_call 13; refine hsc.mono ?_; rintro e w6 ⟨vr, l2, rfl, HK2, HR2⟩; have H7 := dx_join H6 HK2; have R7 := rl_rv HR2; clear H6 HR2 HK2 hsc; obtain ⟨sr, cr, rfl, hcr, _⟩ := id R7)
    obtain ⟨L, hL⟩ : ∃ L, L = recs.length := ⟨_, rfl⟩
    rw [← hL] at R7 hcr ⊢
    have HL : Hid (L = recs.length) := hL
    have hLi : (L : Int) ≤ 1048576 := by have := HP.out; omega
    have HF : Hid (∀ W1 zs, KR w (zs ++ ys) W1 → W1.cell? ⟨F, 0, none⟩ = some (.slice (some ⟨g0, 0, none⟩) n0 n0)) := hF
    have HG : Hid (∀ W1 zs, KR w (zs ++ ys) W1 → SrcV W1 (some ⟨g0, 0, none⟩) (bcl (p.f 0).1)) := hG
    have H7 : Hid (DX w w6 D p (l2 ++ ys) ks) := H7
    have R7 : Hid (RV l2 (Value.slice sr L cr) recs) := R7
    clear hL hF hG kF
    go_cut [66] (fun v66 wx => v66 = .bool (decide (0 < L ∧ first ≤ seq)) ∧ DX w wx D p (l2 ++ ys) ks)
    case first =>
      by_cases h1 : 0 < L
      · have h1i : (0 : Int) < (L : Int) := by omega
        by_cases h2 : first ≤ seq
        · have h2i : (first : Int) ≤ (seq : Int) := by omega
          go_wp2_with fail
          go_meet
          case rel => exact ⟨by simp [h1, h2], H7.out⟩
        · have h2i : ¬ (first : Int) ≤ (seq : Int) := by omega
          go_wp2_with fail
          go_meet
          case rel => exact ⟨by simp [h1, h2], H7.out⟩
      · obtain rfl : L = 0 := by omega
        go_wp2_with fail
        go_meet
        case rel => exact ⟨by simp, H7.out⟩
    case rest =>
      clear H7
      obtain ⟨rfl, H7⟩ := hcut
      have H7 : Hid (DX w _ D p (l2 ++ ys) ks) := H7
      go_upto_if 66 with fail
      go_cut [12, 13] (fun v12 v13 wx => v12 = .int .u64 (((odrop seq first recs).1 % 18446744073709551616 : Nat) : Int) ∧ (∃ s2 c2, v13 = .slice s2 (odrop seq first recs).2.length c2) ∧ RV l2 v13 (odrop seq first recs).2 ∧ DX w wx D p (l2 ++ ys) ks)
      case first =>
        by_cases hc : 0 < L ∧ first ≤ seq
        · rw [decide_eq_true hc]
          have h2i : (first : Int) ≤ (seq : Int) := by omega
          obtain ⟨K, hK⟩ : ∃ K, K = min (seq - first + 1) L := ⟨_, rfl⟩
          have hod : odrop seq first recs = (first + K, recs.drop K) := by
            unfold odrop
            rw [if_pos ⟨by intro e; have := HL.out; rw [e] at this; simp at this; omega, hc.2⟩, ← HL.out, ← hK]
          have hwr : IntKind.u64.wrap ((seq : Int) - (first : Int)) = ((seq - first : Nat) : Int) := by have := HSQ.out.2; rw [wrap_u64']; omega
          have hf1 := HP.out.2.2.1 (by intro e; have := HL.out; rw [e] at this; simp at this; omega)
          have hwr2 : IntKind.u64.wrap (((seq - first : Nat) : Int) + 1) = ((seq - first + 1 : Nat) : Int) := by have := HSQ.out.2; rw [wrap_u64']; omega
          have hwL : IntKind.u64.wrap (L : Int) = (L : Int) := by rw [wrap_u64']; omega
          have hKL : K ≤ L := by omega
          have hKc : (K : Int) ≤ (cr : Int) := by omega
          have hwK : IntKind.u64.wrap ((first : Int) + (K : Int)) = (((first + K) % 18446744073709551616 : Nat) : Int) := by rw [wrap_u64']; omega
          have HOD : Hid (odrop seq first recs = (first + K, recs.drop K)) := hod
          have HKK : Hid (K = min (seq - first + 1) L) := hK
          have HLL : Hid (L ≤ 1048576 ∧ first + L ≤ 18446744073709551616 ∧ first ≤ seq ∧ seq < 18446744073709551616) := by have h1 := HP.out.1; have h2 := HL.out; have h3 := HSQ.out.2; show _ ∧ _; omega
          clear hc hod hK hf1
          go_wp2_with fail
          · obtain rfl : K = L := by have := HKK.out; omega
            go_meet
            case rel =>
              rw [HOD.out]
              exact ⟨by rw [wrap_add64], ⟨_, _, by rw [List.length_drop, ← HL.out, Nat.sub_self]⟩, rv_drop2 R7.out _ (Nat.le_refl _) _ _ (by omega) _ (by omega) (fun h => by omega), H7.out⟩
          · obtain rfl : K = L := by have := HKK.out; omega
            go_meet
            case rel =>
              rw [HOD.out]
              exact ⟨by rw [wrap_add64], ⟨_, _, by rw [List.length_drop, ← HL.out, Nat.sub_self]⟩, rv_drop2 R7.out _ (Nat.le_refl _) _ _ (by omega) _ (by omega) (fun h => by omega), H7.out⟩
          · have hKe : K = seq - first + 1 := by have := HKK.out; omega
            go_meet
            case rel =>
              rw [HOD.out, hKe, show (((seq - first : Nat) : Int) + 1) = ((seq - first + 1 : Nat) : Int) from by omega]
              exact ⟨by rw [wrap_add64], ⟨_, _, by rw [List.length_drop, ← HL.out]⟩, rv_drop2 R7.out _ (by omega) _ _ rfl _ (by omega) (fun h => by omega), H7.out⟩
          · have hKe : K = seq - first + 1 := by have := HKK.out; omega
            go_meet
            case rel =>
              rw [HOD.out, hKe, show (((seq - first : Nat) : Int) + 1) = ((seq - first + 1 : Nat) : Int) from by omega]
              exact ⟨by rw [wrap_add64], ⟨_, _, by rw [List.length_drop, ← HL.out]⟩, rv_drop2 R7.out _ (by omega) _ _ rfl _ (by omega) (fun _ b off e => by rw [e]; rfl), H7.out⟩
        · rw [decide_eq_false hc]
          have hod : odrop seq first recs = (first, recs) := by
            unfold odrop
            rw [if_neg (fun h => hc ⟨by rw [HL.out]; exact List.length_pos_iff.2 h.1, h.2⟩)]
          have HOD : Hid (odrop seq first recs = (first, recs)) := hod
          clear hod
          have HFM : Hid (first % 18446744073709551616 = first) := by show _ = _; have := HFQ.out; omega
          clear hc
          go_wp2_with fail
          go_meet
          case rel => rw [HOD.out]; exact ⟨by rw [HFM.out], ⟨_, _, by rw [← HL.out]⟩, R7.out, H7.out⟩
      case rest =>
        obtain ⟨rfl, ⟨s2, c2, rfl⟩, R8, H8⟩ := hcut
        clear H7 R7 H5
        have HD : Hid ((odrop seq first recs).2.length ≤ recs.length ∧ ((odrop seq first recs).2 ≠ [] → 1 ≤ (odrop seq first recs).1 ∧ (odrop seq first recs).1 < 18446744073709551616)) := odrop_props seq first recs HP.out.1 HP.out.2.2.1 HFQ.out
        generalize odrop seq first recs = od at *
        obtain ⟨f2, rc⟩ := od
        simp only at R8 HO HD ⊢
        have kF := HF.out _ l2 (dx_kr H8)
        obtain ⟨M, hM⟩ : ∃ M, M = rc.length := ⟨_, rfl⟩
        rw [← hM] at R8 HO HD ⊢
        obtain ⟨at_, hat⟩ : ∃ at_, at_ = flen recs := ⟨_, rfl⟩
        rw [← hat] at HO HP ⊢
        have hMi : (M : Int) ≤ 1048576 := by have := HD.out.1; have := HL.out; omega
        have HM : Hid (M = rc.length) := hM
        have HA : Hid (at_ = flen recs) := hat
        obtain ⟨Z, hZ⟩ : ∃ Z, Z = f2 % 18446744073709551616 := ⟨_, rfl⟩
        rw [← hZ]
        have HZ : Hid (Z = f2 % 18446744073709551616) := hZ
        clear hM hat hZ
        by_cases hbad : rc ≠ [] ∧ f2 ≠ seq + 1
        · have HE : Hid (openR p = (11, p, 0, [], [])) := by have := HO.out; rw [if_pos hbad] at this; exact this
          have hM0 : (0 : Int) < (M : Int) := by have := HM.out; have := List.length_pos_iff.2 hbad.1; omega
          obtain ⟨hf1, hf2⟩ := HD.out.2 hbad.1
          have hne : ¬ ((Z : Int) = IntKind.u64.wrap ((seq : Int) + 1)) := by have := HZ.out; have := HSQ.out.2; have := hbad.2; rw [wrap_u64']; omega
          obtain ⟨X, hX⟩ : ∃ X, X = (Z : Int) := ⟨_, rfl⟩
          obtain ⟨Y, hY⟩ : ∃ Y, IntKind.u64.wrap ((seq : Int) + 1) = Y := ⟨_, rfl⟩
          rw [← hX, hY] at hne
          rw [← hX]
          have hb1 : (X == Y) = false := by simpa using hne
          have hb2 : (X != Y) = true := by simpa using hne
          have HH : Hid (DX w wc D p xs ks) := dx_sub H8 (HY.out.trans (List.sublist_append_right _ _))
          clear hbad hf1 hf2 hX H8 R8
          go_wp2_with fail
          refine bodyPost_ret (v := .tuple #[.pointer none, .slice none 0 0, .slice none 0 0, .int .i64 11]) (by simp [results, Try.results24, go_sem]) rfl (.inl ⟨by rw [HE.out]; exact (by decide : (11 : Int) ≠ 0), by rw [HE.out], by rw [HE.out]; exact HH.out⟩)
        · have HO2 := HO.out
          rw [if_neg hbad] at HO2
          have HO3 : Hid (openR p = _) := HO2
          have HH8 : Hid (DX w wc D p (l2 ++ ys) ks) := H8
          have HR8 : Hid (RV l2 (Value.slice s2 M c2) rc) := R8
          clear HO HO2 R8 H8
          go_upto_region 17 with fail
          go_cut [89] (fun v89 wx => v89 = .bool false ∧ DX w wx D p (l2 ++ ys) ks)
          case first =>
            clear kF
            by_cases hM0 : 0 < M
            · have hM1 : (0 : Int) < (M : Int) := by omega
              have hne : rc ≠ [] := by intro e; have := HM.out; rw [e] at this; simp at this; omega
              obtain ⟨hf1, hf2⟩ := HD.out.2 hne
              have hfe : f2 = seq + 1 := by
                rcases Nat.lt_trichotomy f2 (seq + 1) with h | h | h
                · exact absurd ⟨hne, by omega⟩ hbad
                · exact h
                · exact absurd ⟨hne, by omega⟩ hbad
              have hX : IntKind.u64.wrap ((seq : Int) + 1) = (Z : Int) := by have := HZ.out; rw [wrap_u64']; omega
              clear hfe hf1 hf2 hne hbad
              go_wp2_with fail
              go_meet
              case rel => exact ⟨rfl, HH8.out⟩
            · have hMn : ¬ (0 : Int) < (M : Int) := by omega
              clear hbad
              go_wp2_with fail
              go_meet
              case rel => exact ⟨rfl, HH8.out⟩
          case rest =>
            obtain ⟨rfl, H9⟩ := hcut
            have kF := HF.out _ l2 (dx_kr H9)
            have hat0 : at_ ≤ n0 := by have := HP.out.2.1; omega
            have hai : (at_ : Int) ≤ (n0 : Int) := by omega
            have hwr := fun xs' (h : True) => write_k H9 2 0 ((p.f 0).1.take at_) at_ (by rw [List.length_take, ← HN.out.1]; omega) (some ⟨g0, 0, none⟩) xs' (fun W1 H hl => (srcV_take (HG.out W1 l2 H) at_) (by rw [bcl_len]; exact hl))
            have HSUB : Hid (xs.Sublist (l2 ++ ys)) := HY.out.trans (List.sublist_append_right _ _)
            have HWR : Hid (IntKind.u64.wrap (IntKind.u64.wrap ((seq : Int) + (M : Int)) + 1) = (((seq + M + 1) % 18446744073709551616 : Nat) : Int)) := by show _ = _; rw [wrap_u64', wrap_u64']; omega
            have hwM : IntKind.u64.wrap (M : Int) = (M : Int) := by rw [wrap_u64']; omega
            clear hbad HH8
            by_cases hlt : at_ < n0
            · have hlti : (at_ : Int) < (n0 : Int) := by omega
              have HO4 := HO3.out
              rw [if_pos hlt] at HO4
              generalize pwr p 2 0 ((p.f 0).1.take at_) = pe at hwr HO4
              obtain ⟨p1, e1⟩ := pe
              simp only at hwr HO4
              by_cases he : e1 = 0
              · subst he
                rw [if_neg (by simp)] at HO4
                have HE : Hid (openR p = _) := HO4
                clear HO3 HO4 hlt
                go_wp2_with (go_at_call 46; refine (hwr _ trivial).mono ?_; rintro e w9 ⟨rfl, H10⟩)
                obtain ⟨l3, hl3⟩ := HYl.out
                have HN9 := dx_new H10 (lgc D ((seq + M + 1) % 18446744073709551616) M false) 83
                rw [show l2 ++ ys = (l2 ++ (l1 ++ l3)) ++ xs from by rw [hl3]; simp] at HN9
                refine bodyPost_ret (v := .tuple #[.pointer (some ⟨w9.heap.size, 0, none⟩), .slice ss snap.length cs, .slice s2 M c2, .int .i64 0]) (by simp [results, Try.results24, go_sem]) rfl (.inr ?_)
                first | refine ⟨by rw [HE.out], _, _, _, l2 ++ (l1 ++ l3), rfl, ?_, ?_, ?_⟩ | refine ⟨by rw [HE.out], _, _, _, rfl, l2 ++ (l1 ++ l3), ?_, ?_, ?_⟩
                · rw [HE.out]
                  simp only
                  rw [← HM.out, HWR.out]
                  exact HN9
                · rw [HE.out]; exact fc_monoL HFs (fun x hx => List.mem_append_right _ (List.mem_append_left _ hx))
                · rw [HE.out]; exact rv_mono HR8.out (fun x hx => List.mem_append_left _ hx)
              · rw [if_pos he] at HO4
                have HE : Hid (openR p = _) := HO4
                have hb1 : (e1 == 0) = false := by simpa using he
                have hb2 : (e1 != 0) = true := by simpa using he
                have HNE : Hid (e1 ≠ 0) := he
                clear HO3 HO4 hlt
                go_wp2_with (go_at_call 46; refine (hwr _ trivial).mono ?_; rintro e w9 ⟨rfl, H10⟩)
                refine bodyPost_ret (v := .tuple #[.pointer none, .slice none 0 0, .slice none 0 0, .int .i64 e1]) (by simp [results, Try.results24, go_sem]) rfl (.inl ⟨by rw [HE.out]; exact HNE.out, by rw [HE.out], by rw [HE.out]; exact dx_sub H10 HSUB.out⟩)
            · have hlti : ¬ (at_ : Int) < (n0 : Int) := by omega
              have HO4 := HO3.out
              rw [if_neg hlt] at HO4
              have HE : Hid (openR p = _) := HO4
              clear HO3 HO4 hlt hwr
              go_wp2_with fail
              obtain ⟨l3, hl3⟩ := HYl.out
              have HN9 := dx_new H9 (lgc D ((seq + M + 1) % 18446744073709551616) M false) 83
              rw [show l2 ++ ys = (l2 ++ (l1 ++ l3)) ++ xs from by rw [hl3]; simp] at HN9
              refine bodyPost_ret (v := .tuple #[.pointer (some ⟨wc.heap.size, 0, none⟩), .slice ss snap.length cs, .slice s2 M c2, .int .i64 0]) (by simp [results, Try.results24, go_sem]) rfl (.inr ?_)
              first | refine ⟨by rw [HE.out], _, _, _, l2 ++ (l1 ++ l3), rfl, ?_, ?_, ?_⟩ | refine ⟨by rw [HE.out], _, _, _, rfl, l2 ++ (l1 ++ l3), ?_, ?_, ?_⟩
              · rw [HE.out]
                simp only
                rw [← HM.out, HWR.out]
                exact HN9
              · rw [HE.out]; exact fc_monoL HFs (fun x hx => List.mem_append_right _ (List.mem_append_left _ hx))
              · rw [HE.out]; exact rv_mono HR8.out (fun x hx => List.mem_append_left _ hx)
end Go.Proofs.Ytaonaifnaecpiaa.Own

namespace Go.Proofs.Ytaonaifnaecpiaa.Own
open Go.RowKit
def kp1 : PD := (lapR pnew 1 0 false [97]).2.1
def kp2 : PD := (lapR kp1 2 1 false [98]).2.1
def kp3 : PD := pcrash kp2 []
def kp4 : PD := (openR kp3).2.1
def kp5 : PD := (linR kp4 3 2 false [115]).2.1
theorem kn_open0 : (openR pnew).1 = 0 ∧ (openR pnew).2.2.1 = 1 ∧ (openR pnew).2.2.2.2.length = 0 := ⟨by kernel_rfl, by kernel_rfl, by kernel_rfl⟩
theorem kn_app1 : (lapR pnew 1 0 false [97]).1 = 0 ∧ (lapR pnew 1 0 false [97]).2.2 = (2, 1, false) := ⟨by kernel_rfl, by kernel_rfl⟩
theorem kn_app2 : (lapR kp1 2 1 false [98]).1 = 0 ∧ (lapR kp1 2 1 false [98]).2.2 = (3, 2, false) := ⟨by kernel_rfl, by kernel_rfl⟩
theorem kn_open1 : (openR kp3).1 = 0 ∧ (openR kp3).2.2 = (3, [], [[97], [98]]) := ⟨by kernel_rfl, by kernel_rfl⟩
theorem kn_ins : (linR kp4 3 2 false [115]).1 = 0 ∧ (linR kp4 3 2 false [115]).2.2 = (3, 0, false) := ⟨by kernel_rfl, by kernel_rfl⟩
theorem kn_open2 : (openR kp5).1 = 0 ∧ (openR kp5).2.2 = (3, [115], []) := ⟨by kernel_rfl, by kernel_rfl⟩
theorem kn_crc : crc (nb [49, 50, 51, 52, 53, 54, 55, 56, 57]) = 3421780262 := by kernel_rfl
end Go.Proofs.Ytaonaifnaecpiaa.Own

namespace Go.Proofs.Ytaonaifnaecpiaa.Own
open Go.RowKit Go.Proofs.YtaonaifnaecpiaaW.PrintWords
set_option linter.unusedSimpArgs false
set_option linter.unusedVariables false
theorem c_app1 : lapR pnew 1 0 false [97] = (0, kp1, 2, 1, false) := by
  have h1 := kn_app1.1
  have h2 := kn_app1.2
  have h3 : kp1 = (lapR pnew 1 0 false [97]).2.1 := rfl
  rw [h3]
  generalize lapR pnew 1 0 false [97] = x at h1 h2 ⊢
  obtain ⟨a, b, c⟩ := x
  simp only at h1 h2 ⊢
  rw [h1, h2]
theorem c_app2 : lapR kp1 2 1 false [98] = (0, kp2, 3, 2, false) := by
  have h1 := kn_app2.1
  have h2 := kn_app2.2
  have h3 : kp2 = (lapR kp1 2 1 false [98]).2.1 := rfl
  rw [h3]
  generalize lapR kp1 2 1 false [98] = x at h1 h2 ⊢
  obtain ⟨a, b, c⟩ := x
  simp only at h1 h2 ⊢
  rw [h1, h2]
theorem c_ins : linR kp4 3 2 false [115] = (0, kp5, 3, 0, false) := by
  have h1 := kn_ins.1
  have h2 := kn_ins.2
  have h3 : kp5 = (linR kp4 3 2 false [115]).2.1 := rfl
  rw [h3]
  generalize linR kp4 3 2 false [115] = x at h1 h2 ⊢
  obtain ⟨a, b, c⟩ := x
  simp only at h1 h2 ⊢
  rw [h1, h2]
theorem isB_dec {l : List Int} (h : decide (∀ b ∈ l, 0 ≤ b ∧ b < 256) = true) : isB l := of_decide_eq_true (p := ∀ b ∈ l, 0 ≤ b ∧ b < 256) h
/-- Open, where it answers no error. -/
theorem open_ok {ks : List (Nat × List Value)} {w W : World} {D : Nat} {p : PD} {xs : List (Nat × List Value)} (h : DX w W D p xs ks) (hb0 : isB (p.f 0).1) (hb1 : isB (p.f 1).1) (he : (openR p).1 = 0) :
    Calls Try.prog 24 #[.pointer (some ⟨D, 0, none⟩)] W fun e W' => ∃ G vs vr l, e = .returned (.tuple #[.pointer (some ⟨G, 0, none⟩), vs, vr, .int .i64 0]) ∧ DX w W' D (openR p).2.1 ((G, lgc D (openR p).2.2.1 (openR p).2.2.2.2.length false) :: (l ++ xs)) ks ∧ FC l vs (openR p).2.2.2.1 ∧ RV l vr (openR p).2.2.2.2 := by
  refine (open_k h hb0 hb1).mono ?_
  rintro e w' (⟨h1, _⟩ | ⟨_, h2⟩)
  · exact absurd he h1
  · exact h2
theorem kb_app {ks : List (Nat × List Value)} {w W : World} {D G : Nat} {p : PD} {xs : List (Nat × List Value)} {next many : Nat} {b : Int} (h : DX w W D p ((G, lgc D next many false) :: xs) ks) (hb : 0 ≤ b ∧ b < 256) (hn : next < 18446744073709551616) (hm : many ≤ 1000000000) (p' : PD) (n' m' : Nat) (hc : lapR p next many false [b] = (0, p', n', m', false)) (t : TypeId) (mk : Nat × Nat) (cp : Nat) :
    Calls Try.prog 25 #[.pointer (some ⟨G, 0, none⟩), .slice (some ⟨W.heap.size, 0, none⟩) 1 cp] (W.alloc (.cells #[.int .u8 b] t mk)) fun e W' => e = .returned (.int .i64 0) ∧ DX w W' D p' ((G, lgc D n' m' false) :: xs) ks := by
  have := lappend_k next many false (dx_call h (bw_alloc (Below.refl _ _) (.cells #[.int .u8 b] t mk))) hn hm [b] 1 rfl (fun x hx => by rw [List.mem_singleton.1 hx]; exact hb) (some ⟨W.heap.size, 0, none⟩) cp (srcV_built _ _ _)
  rw [hc] at this
  exact this
theorem kb_ins {ks : List (Nat × List Value)} {w W : World} {D G : Nat} {p : PD} {xs : List (Nat × List Value)} {next many : Nat} {b : Int} (h : DX w W D p ((G, lgc D next many false) :: xs) ks) (hb : 0 ≤ b ∧ b < 256) (hn : next < 18446744073709551616) (hm : many ≤ 1000000000) (p' : PD) (n' m' : Nat) (hc : linR p next many false [b] = (0, p', n', m', false)) (t : TypeId) (mk : Nat × Nat) (cp : Nat) :
    Calls Try.prog 26 #[.pointer (some ⟨G, 0, none⟩), .slice (some ⟨W.heap.size, 0, none⟩) 1 cp] (W.alloc (.cells #[.int .u8 b] t mk)) fun e W' => e = .returned (.int .i64 0) ∧ DX w W' D p' ((G, lgc D n' m' false) :: xs) ks := by
  have := linstall_k next many false (dx_call h (bw_alloc (Below.refl _ _) (.cells #[.int .u8 b] t mk))) hn hm [b] 1 rfl (fun x hx => by rw [List.mem_singleton.1 hx]; exact hb) (some ⟨W.heap.size, 0, none⟩) cp (srcV_built _ _ _)
  rw [hc] at this
  exact this
theorem open_k0 {ks : List (Nat × List Value)} {w W : World} {D : Nat} {xs : List (Nat × List Value)} (h : DX w W D pnew xs ks) :
    Calls Try.prog 24 #[.pointer (some ⟨D, 0, none⟩)] W fun e W' => ∃ G vs vr l, e = .returned (.tuple #[.pointer (some ⟨G, 0, none⟩), vs, vr, .int .i64 0]) ∧ DX w W' D pnew ((G, lgc D 1 0 false) :: (l ++ xs)) ks := by
  refine (open_ok h (isB_dec (by kernel_rfl)) (isB_dec (by kernel_rfl)) kn_open0.1).mono ?_
  rintro e w' ⟨G, vs, vr, l, rfl, h1, h2, h3⟩
  rw [kn_open0.2.1, kn_open0.2.2] at h1
  exact ⟨G, vs, vr, l, rfl, h1⟩
theorem open_k1 {ks : List (Nat × List Value)} {w W : World} {D : Nat} {xs : List (Nat × List Value)} (h : DX w W D kp3 xs ks) :
    Calls Try.prog 24 #[.pointer (some ⟨D, 0, none⟩)] W fun e W' => ∃ G vs vr l, e = .returned (.tuple #[.pointer (some ⟨G, 0, none⟩), vs, vr, .int .i64 0]) ∧ DX w W' D kp4 ((G, lgc D 3 2 false) :: (l ++ xs)) ks ∧ RV l vr [[97], [98]] := by
  refine (open_ok h (isB_dec (by kernel_rfl)) (isB_dec (by kernel_rfl)) kn_open1.1).mono ?_
  rintro e w' ⟨G, vs, vr, l, rfl, h1, h2, h3⟩
  have e2 := kn_open1.2
  rw [e2] at h1 h3
  exact ⟨G, vs, vr, l, rfl, h1, h3⟩
theorem open_k2 {ks : List (Nat × List Value)} {w W : World} {D : Nat} {xs : List (Nat × List Value)} (h : DX w W D kp5 xs ks) :
    Calls Try.prog 24 #[.pointer (some ⟨D, 0, none⟩)] W fun e W' => ∃ G vs vr l p, e = .returned (.tuple #[.pointer (some ⟨G, 0, none⟩), vs, vr, .int .i64 0]) ∧ DX w W' D p ((G, lgc D 3 0 false) :: (l ++ xs)) ks ∧ FC l vs [115] ∧ RV l vr [] := by
  refine (open_ok h (isB_dec (by kernel_rfl)) (isB_dec (by kernel_rfl)) kn_open2.1).mono ?_
  rintro e w' ⟨G, vs, vr, l, rfl, h1, h2, h3⟩
  have e2 := kn_open2.2
  rw [e2] at h1 h2 h3
  exact ⟨G, vs, vr, l, _, rfl, h1, h2, h3⟩
end Go.Proofs.Ytaonaifnaecpiaa.Own

namespace Go.Proofs.Ytaonaifnaecpiaa.Own
open Go.RowKit Go.Proofs.YtaonaifnaecpiaaW.PrintWords
set_option linter.unusedSimpArgs false
set_option linter.unusedVariables false
theorem dx_rot {ks : List (Nat × List Value)} {w W : World} {D : Nat} {p : PD} {l xs : List (Nat × List Value)} {x : Nat × List Value} (h : DX w W D p (l ++ x :: xs) ks) : DX w W D p (x :: (l ++ xs)) ks := dx_perm h List.perm_middle.symm
theorem kb_crash {ks : List (Nat × List Value)} {w W : World} {D : Nat} {p : PD} {xs : List (Nat × List Value)} (h : DX w W D p xs ks) :
    Calls Try.prog 28 #[.pointer (some ⟨D, 0, none⟩), .slice none 0 0] W fun e W' => e = .returned (.tuple #[]) ∧ DX w W' D (pcrash p []) xs ks :=
  dx_crash h [] 0 rfl none 0 (fun W1 _ j hj => by omega)
theorem kb_sum {w : World} (t : TypeId) (mk : Nat × Nat) (cp : Nat) :
    Calls Try.prog 16 #[.slice (some ⟨w.heap.size, 0, none⟩) 9 cp] (w.alloc (.cells #[.int .u8 49, .int .u8 50, .int .u8 51, .int .u8 52, .int .u8 53, .int .u8 54, .int .u8 55, .int .u8 56, .int .u8 57] t mk)) fun e W' => e = .returned (.int .u32 3421780262) ∧ Below w.heap.size w W' := by
  have hk : KR w [] (w.alloc (.cells #[.int .u8 49, .int .u8 50, .int .u8 51, .int .u8 52, .int .u8 53, .int .u8 54, .int .u8 55, .int .u8 56, .int .u8 57] t mk)) := kr_alloc (kr_refl w) _
  have := sum_k (kr_refl (w.alloc (.cells #[.int .u8 49, .int .u8 50, .int .u8 51, .int .u8 52, .int .u8 53, .int .u8 54, .int .u8 55, .int .u8 56, .int .u8 57] t mk))) [49, 50, 51, 52, 53, 54, 55, 56, 57] 9 rfl (isB_dec (by kernel_rfl)) (by omega) (some ⟨w.heap.size, 0, none⟩) cp (fun W1 H => srcV_keep (fun _ => ⟨_, rfl, fun j v hv => by rw [Addr.add_mid, World.cell?_alloc_mark]; simpa using hv⟩) H.below)
  rw [kn_crc] at this
  refine this.mono ?_
  rintro e w' ⟨rfl, H⟩
  exact ⟨rfl, bw_step hk.below H.below⟩
theorem rv_cell {w W : World} {rows : List (Nat × List Value)} {v : Value} {recs : List (List Int)} (HK : KR w rows W) (h : RV rows v recs) (j : Nat) (r : List Int) (hr : recs[j]? = some r) : ∃ b off cap s c, v = .slice (some ⟨b, off, none⟩) recs.length cap ∧ recs.length ≤ cap ∧ W.cell? ⟨b, off + j, none⟩ = some (.slice s r.length c) ∧ SrcV W s (bcl r) := by
  obtain ⟨sp, cap, h1, h2, h3⟩ := h
  have hj := (List.getElem?_eq_some_iff.1 hr).1
  obtain ⟨b, off, l, rfl, h5, h6⟩ := h3 (by omega)
  obtain ⟨u, h7, h8⟩ := h6 j r hr
  obtain ⟨sj, cj, he, hS⟩ := fc_srcL HK h8
  have := kr_mem HK h5 (off + j) _ h7
  rw [Nat.zero_add, he] at this
  exact ⟨b, off, cap, sj, cj, h1, h2, this, hS⟩
theorem rv_cell2 {w W : World} {rows : List (Nat × List Value)} {b off n cap : Nat} {recs : List (List Int)} (HK : KR w rows W) (h : RV rows (.slice (some ⟨b, off, none⟩) n cap) recs) (j : Nat) (r : List Int) (hr : recs[j]? = some r) : ∃ s c, W.cell? ⟨b, off + j, none⟩ = some (.slice s r.length c) ∧ SrcV W s (bcl r) := by
  obtain ⟨b', off', cap', s, c, h1, _, h2, h3⟩ := rv_cell HK h j r hr
  injection h1 with e1 _ _
  injection e1 with e1
  injection e1 with e1 e2 _
  subst e1 e2
  exact ⟨s, c, h2, h3⟩
theorem fc_srcV2 {w W : World} {rs : List (Nat × List Value)} {s : Option Addr} {n c : Nat} {bs : List Int} (HK : KR w rs W) (h : FC rs (.slice s n c) bs) : SrcV W s (bcl bs) := by
  obtain ⟨s', c', h1, h2⟩ := fc_srcL HK h
  injection h1 with e1 _ _
  subst e1
  exact h2
set_option maxRecDepth 100000 in
set_option maxHeartbeats 2000000 in
theorem known_k {w W : World} {rs : List (Nat × List Value)} (HK : KR w rs W) : Calls Try.prog 19 #[] W fun e W' => e = .returned (.bool true) ∧ KR w rs W' := by
  have kc := fun (w : World) (C : Array Value) (n c : Nat) => Lib.run_convert_bytes_const (P := Try.prog) w 23 5 C n c Try.underlying23 Try.underlying5
  go_enter Try.func19, Try.ntmps19
  go_wp2_with (go_at_call 23; refine (dx_disk HK).mono ?_; rintro e w1 ⟨D, rfl, H1⟩; clear HK)
  go_wp2_with (go_at_call 24; refine (open_k0 H1).mono ?_; rintro e w2 ⟨G, vs, vr, l, rfl, H2⟩; clear H1)
  go_wp2_with (go_at_call 25; refine (kb_app H2 (by decide) (by decide) (by decide) _ _ _ c_app1 _ _ _).mono ?_; rintro e w3 ⟨rfl, H3⟩; clear H2)
  go_wp2_with (go_at_call 25; refine (kb_app H3 (by decide) (by decide) (by decide) _ _ _ c_app2 _ _ _).mono ?_; rintro e w4 ⟨rfl, H4⟩; clear H3)
  go_wp2_with (go_at_call 28; refine (kb_crash H4).mono ?_; rintro e w5 ⟨rfl, H5⟩; clear H4; have H5 : DX w w5 D kp3 _ _ := H5)
  go_wp2_with (go_at_call 24; refine (open_k1 H5).mono ?_; rintro e w6 ⟨G2, vs2, vr2, l2, rfl, H6, R6⟩; clear H5)
  go_wp2_with (go_at_call 26; refine (kb_ins H6 (by decide) (by decide) (by decide) _ _ _ c_ins _ _ _).mono ?_; rintro e w7 ⟨rfl, H7⟩; clear H6)
  go_wp2_with (go_at_call 24; refine (open_k2 H7).mono ?_; rintro e w8 ⟨G3, vs3, vr3, l3, p3, rfl, H8, F8, R8⟩; clear H7)
  obtain ⟨s3, c3, rfl, _, _⟩ := R8
  obtain ⟨s4, c4, rfl, _⟩ := fc_form F8
  obtain ⟨b2, off2, cap2, _, _, rfl, hcap, _, _⟩ := rv_cell (dx_kr H8) (rv_mono (rs' := (G3, lgc D 3 0 false) :: (l3 ++ (G2, lgc D 3 0 false) :: (l2 ++ (G, lgc D 3 2 false) :: (l ++ rs)))) R6 (fun x hx => by simp [hx])) 1 [98] rfl
  have hc2 : 2 ≤ cap2 := hcap
  go_wp2_with (first | (go_at_call 16; refine (kb_sum (w := w8) _ _ _).mono ?_; rintro e w9 ⟨rfl, hB9⟩; have H9 := dx_call H8 hB9; clear H8 hB9; have R9 := rv_mono (rs' := (G3, lgc D 3 0 false) :: (l3 ++ (G2, lgc D 3 0 false) :: (l2 ++ (G, lgc D 3 2 false) :: (l ++ rs)))) R6 (fun x hx => by simp [hx]); have F9 := fc_monoL (rs' := (G3, lgc D 3 0 false) :: (l3 ++ (G2, lgc D 3 0 false) :: (l2 ++ (G, lgc D 3 2 false) :: (l ++ rs)))) F8 (fun x hx => by simp [hx]); obtain ⟨s5, c5, k5, S5⟩ := rv_cell2 (dx_kr H9) R9 1 [98] rfl; have q5 := conv_cells 1 c5 rfl S5; have q6 := conv_cells 1 c4 rfl (fc_srcV2 (dx_kr H9) F9); rw [show strOfNums [98] = ⟨#[98]⟩ from rfl] at q5; rw [show strOfNums [115] = ⟨#[115]⟩ from rfl] at q6; have k5 : w9.cell? ⟨b2, off2 + 1, none⟩ = some (.slice s5 1 c5) := k5; clear R9 F9 S5) | (go_at_call 29; refine (next_k 3 0 false (dx_kr H9)).mono ?_; rintro e w10 ⟨rfl, rfl⟩))
  refine bodyPost_ret (v := .bool true) (by simp [results, Try.results19, go_sem]) rfl ⟨rfl, kr_sub (dx_kr H9) ?_⟩
  exact (((((List.sublist_append_right l rs).trans (List.sublist_cons_self _ _)).trans (List.sublist_append_right l2 _)).trans (List.sublist_cons_self _ _)).trans (List.sublist_append_right l3 _)).trans (List.sublist_cons_self _ _)
end Go.Proofs.Ytaonaifnaecpiaa.Own
