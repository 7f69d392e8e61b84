/- A log on a plain disk: what stands there behind appends, snapshots, crashes and openings; plain. No conditions beside those in each theorem. -/
import Derived.Test.YtaonaifnaecpiaaWrP
import Derived.Test.YtaonaifnaecpiaaME
import Derived.Test.YtaonaifnaecpiaaMD
namespace Go.Proofs.Ytaonaifnaecpiaa.Own
open Go.RowKit
set_option linter.unusedSimpArgs false
set_option linter.unusedVariables false
theorem kpcnt_f (p : PD) : (pcnt p).f = p.f := by unfold pcnt; split <;> rfl
theorem pcntE_cases (p : PD) : pcntE p = 0 ∨ pcntE p = 13 := by unfold pcntE; split <;> simp
theorem pcntE_dead {p : PD} (h : pcntE p = 0) : (pcnt p).dead = false := by
  unfold pcntE at h
  cases hd : (pcnt p).dead with
  | false => rfl
  | true => rw [hd, if_pos rfl] at h; cases h
/-- The files of a disk are 0 to 7. -/
def FV (xs : List Int) : Prop := ¬ ∃ x ∈ xs, x < 0 ∨ 8 ≤ x
theorem pmay_v {xs : List Int} (h : FV xs) (p : PD) : pmay p xs = if p.dead = true then 13 else 0 := by unfold pmay; rw [if_neg h]
theorem pchE_v {xs : List Int} (h : FV xs) (p : PD) : pchE p xs = 0 ∨ pchE p xs = 13 := by
  unfold pchE
  rw [pmay_v h]
  cases p.dead with
  | false => exact pcntE_cases p
  | true => exact .inr rfl
theorem pch_ok {p q : PD} {xs : List Int} (h : pchE p xs = 0) : pchD p xs q = q ∧ pcntE p = 0 := by
  unfold pchE at h
  unfold pchD
  split at h
  · rename_i h0
    rw [if_pos h0, if_pos h]
    exact ⟨rfl, h⟩
  · rename_i h0
    exact absurd h h0
theorem pch_no {p q : PD} {xs : List Int} (h : pchE p xs ≠ 0) : (pchD p xs q).f = p.f := by
  unfold pchE at h
  unfold pchD
  split at h
  · rename_i h0
    rw [if_pos h0, if_neg h]
    exact kpcnt_f p
  · rename_i h0
    rw [if_neg h0]
theorem kput_same (p : PD) (k : Nat) (x : List Int × Nat) : (p.put k x).f k = x := by simp [PD.put]
theorem kput_other (p : PD) (k j : Nat) (x : List Int × Nat) (h : j ≠ k) : (p.put k x).f j = p.f j := by simp [PD.put, h]
theorem clr_other (p : PD) (f : Nat) (j : Nat) (h : j ≠ f) : (pclrD p (f : Int)).f j = p.f j := by
  unfold pclrD
  by_cases h0 : pchE p [(f : Int)] = 0
  · rw [(pch_ok h0).1, Int.toNat_natCast, kput_other _ _ _ _ h, kpcnt_f]
  · rw [pch_no h0]
theorem clr_same (p : PD) (f : Nat) (h0 : pchE p [(f : Int)] = 0) : (pclrD p (f : Int)).f f = ([], 0) ∧ (pclrD p (f : Int)).dead = false := by
  unfold pclrD
  rw [(pch_ok h0).1, Int.toNat_natCast, kput_same]
  exact ⟨rfl, pcntE_dead (pch_ok (q := p) h0).2⟩
theorem app_other (p : PD) (f : Nat) (ys : List Int) (j : Nat) (h : j ≠ f) : (pappD p (f : Int) ys).f j = p.f j := by
  unfold pappD pgrow
  rw [Int.toNat_natCast]
  split
  · split
    · rfl
    · rw [kpcnt_f, kput_other _ _ _ _ h]
  · rfl
theorem app_grow (p : PD) (f : Nat) (ys : List Int) (hd : p.dead = false) (hv : FV [(f : Int)]) (hl : ys.length + (p.f f).1.length ≤ 1048576) : (pappD p (f : Int) ys).f f = ((p.f f).1 ++ ys, (p.f f).2) := by
  unfold pappD pgrow
  rw [Int.toNat_natCast, pmay_v hv, if_pos (by rw [hd]; rfl), if_neg (by omega), kpcnt_f, kput_same]
theorem app_err (p : PD) (f : Nat) (ys : List Int) (hd : p.dead = false) (hv : FV [(f : Int)]) (hl : ys.length + (p.f f).1.length ≤ 1048576) : pappE p (f : Int) ys = 0 ∧ (pappD p (f : Int) ys).dead = false ∨ pappE p (f : Int) ys = 13 := by
  unfold pappE pappD pgrow
  rw [Int.toNat_natCast, pmay_v hv, hd]
  simp only [Bool.false_eq_true, if_false, if_true]
  rw [if_neg (by omega), if_neg (by omega)]
  rcases pcntE_cases p with h | h
  · refine .inl ⟨h, ?_⟩
    have h1 := pcntE_dead h
    unfold pcnt at h1 ⊢
    by_cases h2 : 0 < p.left
    · rw [if_pos h2] at h1
      have h3 : 0 < (p.put f ((p.f f).1 ++ ys, (p.f f).2)).left := h2
      rw [if_pos h3]
      exact h1
    · have h3 : ¬ 0 < (p.put f ((p.f f).1 ++ ys, (p.f f).2)).left := h2
      rw [if_neg h3]
      exact hd
  · exact .inr h
theorem syn_other (p : PD) (f : Nat) (j : Nat) (h : j ≠ f) : (psyncD p (f : Int)).f j = p.f j := by
  unfold psyncD
  by_cases h0 : pchE p [(f : Int)] = 0
  · rw [(pch_ok h0).1, Int.toNat_natCast, kput_other _ _ _ _ h, kpcnt_f]
  · rw [pch_no h0]
theorem syn_same (p : PD) (f : Nat) (h0 : pchE p [(f : Int)] = 0) : (psyncD p (f : Int)).f f = ((p.f f).1, (p.f f).1.length) ∧ (psyncD p (f : Int)).dead = false := by
  unfold psyncD
  rw [(pch_ok h0).1, Int.toNat_natCast, kput_same]
  exact ⟨rfl, pcntE_dead (pch_ok (q := p) h0).2⟩
theorem syn_no (p : PD) (f : Nat) (h0 : pchE p [(f : Int)] ≠ 0) : (psyncD p (f : Int)).f f = p.f f := by
  unfold psyncD
  rw [pch_no h0]
theorem ren_other (p : PD) (f t : Nat) (j : Nat) (h : j ≠ f) (h2 : j ≠ t) : (prenD p (f : Int) (t : Int)).f j = p.f j := by
  unfold prenD
  by_cases h0 : pchE p [(f : Int), (t : Int)] = 0
  · rw [(pch_ok h0).1, Int.toNat_natCast, Int.toNat_natCast, kput_other _ _ _ _ h2, kput_other _ _ _ _ h, kpcnt_f]
  · rw [pch_no h0]
theorem ren_same (p : PD) (f t : Nat) (h0 : pchE p [(f : Int), (t : Int)] = 0) : (prenD p (f : Int) (t : Int)).f t = p.f f ∧ (prenD p (f : Int) (t : Int)).dead = false := by
  unfold prenD
  rw [(pch_ok h0).1, Int.toNat_natCast, Int.toNat_natCast, kput_same]
  exact ⟨rfl, pcntE_dead (pch_ok (q := p) h0).2⟩
theorem ren_no (p : PD) (f t : Nat) (h0 : pchE p [(f : Int), (t : Int)] ≠ 0) : (prenD p (f : Int) (t : Int)).f t = p.f t := by
  unfold prenD
  rw [pch_no h0]
/-- What a file's bytes are behind a write by way of another file. -/
theorem pwr_files (p : PD) (f t : Nat) (ys : List Int) (hft : f ≠ t) (hf : FV [(f : Int)]) (hft2 : FV [(f : Int), (t : Int)]) (hl : ys.length ≤ 1048576) :
    ((pwr p f t ys).2 = 0 → (pwr p f t ys).1.f t = (ys, ys.length) ∧ (pwr p f t ys).1.dead = false) ∧ ((pwr p f t ys).2 ≠ 0 → (pwr p f t ys).1.f t = p.f t ∧ (pwr p f t ys).2 = 13) ∧ ∀ j, j ≠ f → j ≠ t → (pwr p f t ys).1.f j = p.f j := by
  have h13 : ∀ q : PD, pchE q [(f : Int)] ≠ 0 → pchE q [(f : Int)] = 13 := fun q h => (pchE_v hf q).resolve_left h
  have htf : t ≠ f := fun e => hft e.symm
  unfold pwr
  by_cases h1 : pchE p [(f : Int)] = 0
  · obtain ⟨k1, d1⟩ := clr_same p f h1
    have o1 := fun j h => clr_other p f j h
    rw [if_neg (fun h => h h1)]
    have hl2 : ys.length + ((pclrD p (f : Int)).f f).1.length ≤ 1048576 := by rw [k1]; simpa using hl
    have g2 := app_grow (pclrD p (f : Int)) f ys d1 hf hl2
    have o2 := fun j h => app_other (pclrD p (f : Int)) f ys j h
    rcases app_err (pclrD p (f : Int)) f ys d1 hf hl2 with ⟨e2, d2⟩ | e2
    · rw [if_neg (fun h => h e2)]
      by_cases h3 : pchE (pappD (pclrD p (f : Int)) (f : Int) ys) [(f : Int)] = 0
      · rw [if_neg (fun h => h h3)]
        obtain ⟨k3, d3⟩ := syn_same (pappD (pclrD p (f : Int)) (f : Int) ys) f h3
        have o3 := fun j h => syn_other (pappD (pclrD p (f : Int)) (f : Int) ys) f j h
        refine ⟨fun h4 => ?_, fun h4 => ?_, fun j hj hjt => ?_⟩
        · obtain ⟨k4, d4⟩ := ren_same _ f t h4
          refine ⟨?_, d4⟩
          rw [k4, k3, g2, k1]
          rfl
        · exact ⟨by rw [ren_no _ f t h4, o3 t htf, o2 t htf, o1 t htf], (pchE_v hft2 _).resolve_left h4⟩
        · rw [ren_other _ f t j hj hjt, o3 j hj, o2 j hj, o1 j hj]
      · rw [if_pos h3]
        exact ⟨fun h => absurd h h3, fun _ => ⟨by rw [syn_other _ f t htf, o2 t htf, o1 t htf], h13 _ h3⟩, fun j hj hjt => by rw [syn_other _ f j hj, o2 j hj, o1 j hj]⟩
    · have e2' : pappE (pclrD p (f : Int)) (f : Int) ys ≠ 0 := by rw [e2]; decide
      rw [if_pos e2']
      exact ⟨fun h => absurd h e2', fun _ => ⟨by rw [o2 t htf, o1 t htf], e2⟩, fun j hj hjt => by rw [o2 j hj, o1 j hj]⟩
  · rw [if_pos h1]
    exact ⟨fun h => absurd h h1, fun _ => ⟨clr_other p f t htf, h13 _ h1⟩, fun j hj hjt => clr_other p f j hj⟩
/-- A disk on which no call fails. -/
def Clean (p : PD) : Prop := p.left = 0 ∧ p.dead = false
theorem clean_cnt {p : PD} (h : Clean p) : pcnt p = p ∧ pcntE p = 0 := by
  have h1 : pcnt p = p := by unfold pcnt; rw [if_neg (by rw [h.1]; omega)]
  refine ⟨h1, ?_⟩
  unfold pcntE
  rw [h1, h.2]
  rfl
theorem clean_ch {p : PD} (h : Clean p) {xs : List Int} (hv : FV xs) : pchE p xs = 0 := by
  unfold pchE
  rw [pmay_v hv, h.2]
  exact (clean_cnt h).2
theorem clean_put {p : PD} (h : Clean p) (k : Nat) (x : List Int × Nat) : Clean (p.put k x) := h
theorem clean_clr {p : PD} (h : Clean p) (f : Nat) (hv : FV [(f : Int)]) : Clean (pclrD p (f : Int)) := by
  unfold pclrD
  rw [(pch_ok (clean_ch h hv)).1, (clean_cnt h).1]
  exact h
theorem clean_app {p : PD} (h : Clean p) (f : Nat) (ys : List Int) (hv : FV [(f : Int)]) (hl : ys.length + (p.f f).1.length ≤ 1048576) : pappE p (f : Int) ys = 0 ∧ Clean (pappD p (f : Int) ys) := by
  unfold pappE pappD
  rw [Int.toNat_natCast, pmay_v hv, h.2]
  simp only [Bool.false_eq_true, if_false, if_true]
  rw [if_neg (by omega), if_neg (by omega)]
  refine ⟨(clean_cnt h).2, ?_⟩
  have h2 : Clean (pgrow p f ys) := h
  rw [(clean_cnt h2).1]
  exact h2
theorem clean_syn {p : PD} (h : Clean p) (f : Nat) (hv : FV [(f : Int)]) : Clean (psyncD p (f : Int)) := by
  unfold psyncD
  rw [(pch_ok (clean_ch h hv)).1, (clean_cnt h).1]
  exact h
theorem clean_ren {p : PD} (h : Clean p) (f t : Nat) (hv : FV [(f : Int), (t : Int)]) : Clean (prenD p (f : Int) (t : Int)) := by
  unfold prenD
  rw [(pch_ok (clean_ch h hv)).1, (clean_cnt h).1]
  exact h
theorem pwr_clean {p : PD} (h : Clean p) (f t : Nat) (ys : List Int) (hf : FV [(f : Int)]) (hft2 : FV [(f : Int), (t : Int)]) (hl : ys.length ≤ 1048576) : (pwr p f t ys).2 = 0 ∧ Clean (pwr p f t ys).1 := by
  have c1 := clean_clr h f hf
  have e1 := clean_ch h hf
  have k1 := (clr_same p f e1).1
  have c2 := clean_app c1 f ys hf (by rw [k1]; simpa using hl)
  have c3 := clean_syn c2.2 f hf
  unfold pwr
  rw [if_neg (fun h' => h' e1), if_neg (fun h' => h' c2.1), if_neg (fun h' => h' (clean_ch c2.2 hf))]
  exact ⟨clean_ch c3 hft2, clean_ren c3 f t hft2⟩
theorem fv0 : FV [((0 : Nat) : Int)] := by unfold FV; simp
theorem fv2 : FV [((2 : Nat) : Int)] := by unfold FV; simp
theorem fv3 : FV [((3 : Nat) : Int)] := by unfold FV; simp
theorem fv20 : FV [((2 : Nat) : Int), ((0 : Nat) : Int)] := by unfold FV; simp
theorem fv31 : FV [((3 : Nat) : Int), ((1 : Nat) : Int)] := by unfold FV; simp
/-- A log on a disk: its snapshot, the records ahead of it that stand there still, those behind it, and bytes that are none. -/
structure DL (i : Nat) (p : PD) (seq q0 : Nat) (snap : List Int) (old recs : List (List Int)) (X : List Int) : Prop where
  f0 : (p.f 0).1 = wrF q0 (old ++ recs) ++ X
  s0 : flen (old ++ recs) ≤ (p.f 0).2
  l0 : (p.f 0).2 ≤ (p.f 0).1.length
  f1 : ((p.f 1).1 = [] ∧ seq = 0 ∧ snap = []) ∨ (p.f 1).1 = frameB seq snap
  s1 : (p.f 1).2 = (p.f 1).1.length
  px : ∀ k, parse1 (X.take k) = none
  ok : RecOK (old ++ recs)
  so : isB snap ∧ snap.length ≤ 60000
  q : q0 + old.length = seq + 1 ∧ 0 < q0
  bd : seq + recs.length ≤ i ∧ flen (old ++ recs) ≤ 1016 * i
  xb : isB X
section
variable {i : Nat} {p : PD} {seq q0 : Nat} {snap : List Int} {old recs : List (List Int)} {X : List Int}
theorem dl_mono (h : DL i p seq q0 snap old recs X) : DL (i + 1) p seq q0 snap old recs X :=
  { h with bd := ⟨by have := h.bd.1; omega, by have := h.bd.2; omega⟩ }
theorem dl_files (h : DL i p seq q0 snap old recs X) {p' : PD} (h0 : p'.f 0 = p.f 0) (h1 : p'.f 1 = p.f 1) : DL i p' seq q0 snap old recs X :=
  ⟨by rw [h0]; exact h.f0, by rw [h0]; exact h.s0, by rw [h0]; exact h.l0, by rw [h1]; exact h.f1, by rw [h1]; exact h.s1, h.px, h.ok, h.so, h.q, h.bd, h.xb⟩
theorem dl_new : DL 0 pnew 0 1 [] [] [] [] := ⟨rfl, Nat.le_refl _, Nat.le_refl _, .inl ⟨rfl, rfl, rfl⟩, rfl, fun k => by rw [List.take_nil]; exact parse1_nil, fun r hr => by simp at hr, ⟨fun x hx => by simp at hx, by simp⟩, ⟨rfl, by omega⟩, ⟨by simp, by simp [flen]⟩, fun x hx => by simp at hx⟩
theorem dl_len (h : DL i p seq q0 snap old recs X) : (p.f 0).1.length = flen (old ++ recs) + X.length := by rw [h.f0, List.length_append, wrF_len]
/-- The file 0 is written anew, without the bytes that are none. -/
theorem dl_mend (h : DL i p seq q0 snap old recs X) {p' : PD} (h0 : p'.f 0 = (wrF q0 (old ++ recs), (wrF q0 (old ++ recs)).length)) (h1 : p'.f 1 = p.f 1) : DL i p' seq q0 snap old recs [] :=
  ⟨by rw [h0, List.append_nil], by rw [h0, wrF_len]; exact Nat.le_refl _, by rw [h0]; exact Nat.le_refl _, by rw [h1]; exact h.f1, by rw [h1]; exact h.s1, fun k => by rw [List.take_nil]; exact parse1_nil, h.ok, h.so, h.q, h.bd, fun x hx => by simp at hx⟩
theorem dl_osnap (h : DL i p seq q0 snap old recs X) (hi : i ≤ 100) : osnap (p.f 1).1 = some (seq, snap) := by
  unfold osnap
  have hb := h.bd.1
  rcases h.f1 with ⟨h1, h2, h3⟩ | h1
  · rw [h1, if_pos rfl, h2, h3]
  · have hp := parse1_frame seq (by omega) snap [] h.so.1 h.so.2
    rw [List.append_nil] at hp
    have hl := frameB_len seq snap
    rw [h1, if_neg (by intro e; rw [e] at hl; simp only [List.length_nil] at hl; omega), hp]
    simp only
    rw [if_pos (by rw [hl])]
theorem dl_scan (h : DL i p seq q0 snap old recs X) (hi : i ≤ 100) : scan (p.f 0).1 = (if old ++ recs = [] then 0 else q0, old ++ recs) := by
  rw [h.f0]
  have hX := h.px X.length
  rw [List.take_length] at hX
  exact scan_pre _ q0 X h.ok h.q.2 (by have h1 := h.q.1; have h2 := h.bd.1; rw [List.length_append]; omega) hX
theorem dl_odrop (h : DL i p seq q0 snap old recs X) : (odrop seq (if old ++ recs = [] then 0 else q0) (old ++ recs)).2 = recs ∧ ((odrop seq (if old ++ recs = [] then 0 else q0) (old ++ recs)).2 ≠ [] → (odrop seq (if old ++ recs = [] then 0 else q0) (old ++ recs)).1 = seq + 1) := by
  have h1 := h.q.1
  unfold odrop
  by_cases he : old ++ recs = []
  · have h2 : recs = [] := (List.append_eq_nil_iff.1 he).2
    rw [if_neg (fun hh => hh.1 he), he, h2]
    exact ⟨rfl, fun hh => absurd rfl hh⟩
  · rw [if_neg he]
    by_cases hq : q0 ≤ seq
    · rw [if_pos ⟨he, hq⟩]
      have hm : min (seq - q0 + 1) (old ++ recs).length = old.length := by rw [List.length_append]; omega
      rw [hm]
      exact ⟨List.drop_left, fun _ => by show q0 + old.length = _; omega⟩
    · rw [if_neg (fun hh => hq hh.2)]
      have h3 : old = [] := List.eq_nil_of_length_eq_zero (by omega)
      subst h3
      exact ⟨rfl, fun _ => by simp at h1; show q0 = _; omega⟩
/-- What Open answers, and what it leaves. -/
theorem dl_openR (h : DL i p seq q0 snap old recs X) (hi : i ≤ 100) :
    openR p = if X ≠ [] then (if (pwr p 2 0 (wrF q0 (old ++ recs))).2 ≠ 0 then ((pwr p 2 0 (wrF q0 (old ++ recs))).2, (pwr p 2 0 (wrF q0 (old ++ recs))).1, 0, [], []) else (0, (pwr p 2 0 (wrF q0 (old ++ recs))).1, seq + recs.length + 1, snap, recs)) else (0, p, seq + recs.length + 1, snap, recs) := by
  obtain ⟨o1, o2⟩ := dl_odrop h
  have hb := h.bd.1
  have hmod : (seq + recs.length + 1) % 18446744073709551616 = seq + recs.length + 1 := Nat.mod_eq_of_lt (by omega)
  have htk : (p.f 0).1.take (flen (old ++ recs)) = wrF q0 (old ++ recs) := by rw [h.f0]; exact List.take_left' (wrF_len _ _)
  unfold openR
  rw [dl_osnap h hi, dl_scan h hi]
  simp only
  rw [if_neg (fun hh => hh.2 (o2 hh.1)), o1, htk, hmod, dl_len h]
  by_cases hX : X = []
  · subst hX
    rw [if_neg (by simp), if_neg (by simp)]
  · have : 0 < X.length := List.length_pos_iff.2 hX
    rw [if_pos (by omega), if_pos hX]
/-- Opened, whatever fails: the log is the same. -/
theorem dl_open_keep (h : DL i p seq q0 snap old recs X) (hi : i ≤ 100) : ∃ X', DL i (openR p).2.1 seq q0 snap old recs X' := by
  have hl : (wrF q0 (old ++ recs)).length ≤ 1048576 := by rw [wrF_len]; have := h.bd.2; omega
  obtain ⟨w1, w2, w3⟩ := pwr_files p 2 0 (wrF q0 (old ++ recs)) (by omega) fv2 fv20 hl
  rw [dl_openR h hi]
  by_cases hX : X = []
  · rw [if_neg (fun hh => hh hX)]
    exact ⟨X, h⟩
  · rw [if_pos hX]
    by_cases he : (pwr p ((2 : Nat) : Int) ((0 : Nat) : Int) (wrF q0 (old ++ recs))).2 = 0
    · have he' : (pwr p 2 0 (wrF q0 (old ++ recs))).2 = 0 := he
      rw [if_neg (fun hh => hh he')]
      exact ⟨[], dl_mend h (w1 he).1 (w3 1 (by omega) (by omega))⟩
    · have he' : (pwr p 2 0 (wrF q0 (old ++ recs))).2 ≠ 0 := he
      rw [if_pos he']
      exact ⟨X, dl_files h (w2 he).1 (w3 1 (by omega) (by omega))⟩
/-- Opened where nothing fails. -/
theorem dl_open_clean (h : DL i p seq q0 snap old recs X) (hc : Clean p) (hi : i ≤ 100) : ∃ p', openR p = (0, p', seq + recs.length + 1, snap, recs) ∧ DL i p' seq q0 snap old recs [] ∧ Clean p' := by
  have hl : (wrF q0 (old ++ recs)).length ≤ 1048576 := by rw [wrF_len]; have := h.bd.2; omega
  obtain ⟨w1, w2, w3⟩ := pwr_files p 2 0 (wrF q0 (old ++ recs)) (by omega) fv2 fv20 hl
  obtain ⟨e1, c1⟩ := pwr_clean hc 2 0 (wrF q0 (old ++ recs)) fv2 fv20 hl
  rw [dl_openR h hi]
  by_cases hX : X = []
  · rw [if_neg (fun hh => hh hX)]
    exact ⟨p, rfl, by rw [hX] at h; exact h, hc⟩
  · have he' : (pwr p 2 0 (wrF q0 (old ++ recs))).2 = 0 := e1
    rw [if_pos hX, if_neg (fun hh => hh he')]
    exact ⟨_, rfl, dl_mend h (w1 e1).1 (w3 1 (by omega) (by omega)), c1⟩
theorem crN_ge4 (s m : Nat) (x : Option Int) : s ≤ crN s m x := by unfold crN; split <;> omega
theorem crash_full {x : List Int × Nat} (h : x.2 = x.1.length) (o : Option Int) : pcrF x o = x := by
  have h1 := crN_ge4 x.2 x.1.length o
  have h2 := crN_le x.2 x.1.length o (by omega)
  have h3 : crN x.2 x.1.length o = x.1.length := by omega
  unfold pcrF
  rw [h3, List.take_length, ← h]
theorem pcrash_clean (p : PD) (ks : List Int) : Clean (pcrash p ks) := ⟨rfl, rfl⟩
theorem dl_crash (h : DL i p seq q0 snap old recs X) (ks : List Int) : ∃ X', DL i (pcrash p ks) seq q0 snap old recs X' := by
  have h1 := crN_ge4 (p.f 0).2 (p.f 0).1.length ks[0]?
  have h2 := crN_le (p.f 0).2 (p.f 0).1.length ks[0]? h.l0
  have hs := h.s0
  have hlen := dl_len h
  have e0 : (pcrash p ks).f 0 = ((p.f 0).1.take (crN (p.f 0).2 (p.f 0).1.length ks[0]?), crN (p.f 0).2 (p.f 0).1.length ks[0]?) := rfl
  have e1 : (pcrash p ks).f 1 = p.f 1 := crash_full h.s1 _
  generalize crN (p.f 0).2 (p.f 0).1.length ks[0]? = k at *
  have et : (p.f 0).1.take k = wrF q0 (old ++ recs) ++ X.take (k - flen (old ++ recs)) := by
    rw [h.f0, List.take_append, wrF_len, List.take_of_length_le (by rw [wrF_len]; omega)]
  refine ⟨X.take (k - flen (old ++ recs)), ⟨by rw [e0]; exact et, by rw [e0]; show _ ≤ k; omega, ?_, by rw [e1]; exact h.f1, by rw [e1]; exact h.s1, fun m => by rw [List.take_take]; exact h.px _, h.ok, h.so, h.q, h.bd, isB_take h.xb _⟩⟩
  rw [e0]
  show k ≤ ((p.f 0).1.take k).length
  rw [List.length_take]
  omega
theorem recok_snoc {l : List (List Int)} (h : RecOK l) {b : List Int} (hb : isB b) (hl : b.length ≤ 60000) : RecOK (l ++ [b]) := fun r hr => by
  rcases List.mem_append.1 hr with hr | hr
  · exact h r hr
  · rw [List.mem_singleton.1 hr]
    exact ⟨hb, hl⟩
theorem flen_snoc (l : List (List Int)) (b : List Int) : flen (l ++ [b]) = flen l + 16 + b.length := by rw [flen_app]; simp [flen]; omega
/-- A record more stands there, all of it safe. -/
theorem dl_more (h : DL i p seq q0 snap old recs []) {b : List Int} (hb : isB b) (hl : b.length ≤ 1000) {p' : PD} {s : Nat} (h0 : p'.f 0 = (wrF q0 (old ++ recs) ++ frameB (seq + recs.length + 1) b, s)) (hs : s = flen (old ++ recs) + 16 + b.length) (h1 : p'.f 1 = p.f 1) : DL (i + 1) p' seq q0 snap old (recs ++ [b]) [] := by
  have hq := h.q.1
  have hw : wrF q0 (old ++ (recs ++ [b])) = wrF q0 (old ++ recs) ++ frameB (seq + recs.length + 1) b := by
    rw [← List.append_assoc, wrF_app, List.length_append, show q0 + (old.length + recs.length) = seq + recs.length + 1 from by omega]
    simp [wrF]
  have hfl : flen (old ++ (recs ++ [b])) = flen (old ++ recs) + 16 + b.length := by rw [← List.append_assoc, flen_snoc]
  have hb1 := h.bd.1
  have hb2 := h.bd.2
  refine ⟨by rw [h0, hw, List.append_nil], by rw [h0, hfl, hs]; exact Nat.le_refl _, ?_, by rw [h1]; exact h.f1, by rw [h1]; exact h.s1, h.px, by rw [← List.append_assoc]; exact recok_snoc h.ok hb (by omega), h.so, h.q, ⟨by rw [List.length_append]; simp; omega, by rw [hfl]; omega⟩, h.xb⟩
  rw [h0]
  show s ≤ (wrF q0 (old ++ recs) ++ frameB (seq + recs.length + 1) b).length
  rw [List.length_append, wrF_len, frameB_len]
  omega
/-- A record that is half there: behind a crash it is there, or it is not. -/
theorem dl_half (h : DL i p seq q0 snap old recs []) {b : List Int} (hb : isB b) (hl : b.length ≤ 1000) {p' : PD} (h0 : p'.f 0 = (wrF q0 (old ++ recs) ++ frameB (seq + recs.length + 1) b, (p.f 0).2)) (h1 : p'.f 1 = p.f 1) (ks : List Int) :
    (∃ X', DL (i + 1) (pcrash p' ks) seq q0 snap old recs X') ∨ DL (i + 1) (pcrash p' ks) seq q0 snap old (recs ++ [b]) [] := by
  have hlen := dl_len h
  have hs0 := h.s0
  have hl0 := h.l0
  have hsz : (p.f 0).2 = flen (old ++ recs) := by simp at hlen; omega
  have e1 : (pcrash p' ks).f 1 = p.f 1 := by
    show pcrF (p'.f 1) _ = _
    rw [h1]
    exact crash_full h.s1 _
  have hfl : (wrF q0 (old ++ recs) ++ frameB (seq + recs.length + 1) b).length = flen (old ++ recs) + (16 + b.length) := by rw [List.length_append, wrF_len, frameB_len]
  have e0 : (pcrash p' ks).f 0 = ((wrF q0 (old ++ recs) ++ frameB (seq + recs.length + 1) b).take (crN (flen (old ++ recs)) (flen (old ++ recs) + (16 + b.length)) ks[0]?), crN (flen (old ++ recs)) (flen (old ++ recs) + (16 + b.length)) ks[0]?) := by
    show pcrF (p'.f 0) _ = _
    rw [h0]
    unfold pcrF
    simp only [hfl, hsz]
  have c1 := crN_ge4 (flen (old ++ recs)) (flen (old ++ recs) + (16 + b.length)) ks[0]?
  have c2 := crN_le (flen (old ++ recs)) (flen (old ++ recs) + (16 + b.length)) ks[0]? (by omega)
  generalize crN (flen (old ++ recs)) (flen (old ++ recs) + (16 + b.length)) ks[0]? = k at *
  by_cases hk : k = flen (old ++ recs) + (16 + b.length)
  · refine .inr (dl_more h hb hl (s := k) ?_ (by omega) e1)
    rw [e0, List.take_of_length_le (by omega)]
  · have et : (wrF q0 (old ++ recs) ++ frameB (seq + recs.length + 1) b).take k = wrF q0 (old ++ recs) ++ (frameB (seq + recs.length + 1) b).take (k - flen (old ++ recs)) := by
      rw [List.take_append, wrF_len, List.take_of_length_le (by rw [wrF_len]; omega)]
    have hm := dl_mono h
    refine .inl ⟨(frameB (seq + recs.length + 1) b).take (k - flen (old ++ recs)), ⟨by rw [e0]; exact et, by rw [e0]; exact c1, ?_, by rw [e1]; exact h.f1, by rw [e1]; exact h.s1, fun m => ?_, h.ok, h.so, h.q, hm.bd, isB_take (frameB_isB _ hb) _⟩⟩
    · rw [e0]
      show k ≤ (List.take k _).length
      rw [List.length_take, hfl]
      omega
    · rw [List.take_take]
      have hp := frame_parts (seq + recs.length + 1) b []
      rw [List.append_nil] at hp
      rw [hp]
      exact parse1_cut b _ _ (by omega) (by omega)
/-- Append: it is there for good; or the disk failed, and behind a crash it is there or it is not. -/
theorem dl_app (h : DL i p seq q0 snap old recs []) (hd : p.dead = false) (hi : i ≤ 100) {b : List Int} (hb : isB b) (hl : b.length ≤ 1000) :
    (∃ p', lapR p (seq + recs.length + 1) recs.length false b = (0, p', seq + recs.length + 2, recs.length + 1, false) ∧ DL (i + 1) p' seq q0 snap old (recs ++ [b]) [] ∧ p'.dead = false) ∨
    ∃ p', lapR p (seq + recs.length + 1) recs.length false b = (13, p', seq + recs.length + 1, recs.length, true) ∧ ∀ ks, (∃ X', DL (i + 1) (pcrash p' ks) seq q0 snap old recs X') ∨ DL (i + 1) (pcrash p' ks) seq q0 snap old (recs ++ [b]) [] := by
  have hlen := dl_len h
  have hb1 := h.bd.1
  have hb2 := h.bd.2
  have hfl := frameB_len (seq + recs.length + 1) b
  have hroom : (frameB (seq + recs.length + 1) b).length + (p.f 0).1.length ≤ 1048576 := by rw [hfl, hlen]; simp; omega
  have g1 := app_grow p 0 (frameB (seq + recs.length + 1) b) hd fv0 hroom
  have o1 := app_other p 0 (frameB (seq + recs.length + 1) b) 1 (by omega)
  rw [h.f0, List.append_nil] at g1
  have hmod : (seq + recs.length + 1 + 1) % 18446744073709551616 = seq + recs.length + 2 := by rw [Nat.mod_eq_of_lt (by omega)]
  unfold lapR
  rw [if_neg (by simp), if_neg (by omega), hmod]
  rcases app_err p 0 (frameB (seq + recs.length + 1) b) hd fv0 hroom with ⟨e1, d1⟩ | e1
  · have e1' : pappE p 0 (frameB (seq + recs.length + 1) b) = 0 := e1
    have hl1 : lap1 p (frameB (seq + recs.length + 1) b) = (psyncD (pappD p 0 (frameB (seq + recs.length + 1) b)) 0, pchE (pappD p 0 (frameB (seq + recs.length + 1) b)) [0]) := by unfold lap1; rw [if_pos e1']
    rw [hl1]
    simp only
    by_cases h2 : pchE (pappD p ((0 : Nat) : Int) (frameB (seq + recs.length + 1) b)) [((0 : Nat) : Int)] = 0
    · have h2' : pchE (pappD p 0 (frameB (seq + recs.length + 1) b)) [0] = 0 := h2
      obtain ⟨k2, d2⟩ := syn_same _ 0 h2
      rw [g1] at k2
      have o2 := syn_other (pappD p ((0 : Nat) : Int) (frameB (seq + recs.length + 1) b)) 0 1 (by omega)
      rw [o1] at o2
      rw [if_pos h2']
      exact .inl ⟨_, rfl, dl_more h hb hl k2 (by rw [List.length_append, wrF_len, hfl]; omega) o2, d2⟩
    · have h2' : pchE (pappD p 0 (frameB (seq + recs.length + 1) b)) [0] ≠ 0 := h2
      have h3 : pchE (pappD p 0 (frameB (seq + recs.length + 1) b)) [0] = 13 := (pchE_v fv0 _).resolve_left h2
      have k2 := syn_no _ 0 h2
      rw [g1] at k2
      have o2 := syn_other (pappD p ((0 : Nat) : Int) (frameB (seq + recs.length + 1) b)) 0 1 (by omega)
      rw [o1] at o2
      rw [if_neg h2', h3]
      exact .inr ⟨_, rfl, fun ks => dl_half h hb hl k2 o2 ks⟩
  · have e1' : pappE p 0 (frameB (seq + recs.length + 1) b) = 13 := e1
    have e1n : ¬ pappE p 0 (frameB (seq + recs.length + 1) b) = 0 := by rw [e1']; decide
    have hl1 : lap1 p (frameB (seq + recs.length + 1) b) = (pappD p 0 (frameB (seq + recs.length + 1) b), 13) := by unfold lap1; rw [if_neg e1n, e1']
    rw [hl1]
    simp only
    rw [if_neg (by decide)]
    exact .inr ⟨_, rfl, fun ks => dl_half h hb hl g1 o1 ks⟩
/-- Install: the snapshot is there for good; or the disk failed, and behind a crash it is there or it is not. -/
theorem dl_ins (h : DL i p seq q0 snap old recs []) (hd : p.dead = false) (hi : i ≤ 100) {b : List Int} (hb : isB b) (hl : b.length ≤ 1000) :
    (∃ p', linR p (seq + recs.length + 1) recs.length false b = (0, p', seq + recs.length + 1, 0, false) ∧ DL (i + 1) p' (seq + recs.length) (seq + recs.length + 1) b [] [] [] ∧ p'.dead = false) ∨
    ∃ p', linR p (seq + recs.length + 1) recs.length false b = (13, p', seq + recs.length + 1, recs.length, true) ∧ ((DL (i + 1) p' seq q0 snap old recs []) ∨ DL (i + 1) p' (seq + recs.length) q0 b (old ++ recs) [] []) := by
  have hb1 := h.bd.1
  have hb2 := h.bd.2
  have hq := h.q
  have hfl := frameB_len (seq + recs.length) b
  have hprev : prev (seq + recs.length + 1) = seq + recs.length := by unfold prev; omega
  obtain ⟨w1, w2, w3⟩ := pwr_files p 3 1 (frameB (seq + recs.length) b) (by omega) fv3 fv31 (by rw [hfl]; omega)
  have o0 := w3 0 (by omega) (by omega)
  have hnew : ∀ p' : PD, p'.f 0 = p.f 0 → p'.f 1 = (frameB (seq + recs.length) b, (frameB (seq + recs.length) b).length) → DL (i + 1) p' (seq + recs.length) q0 b (old ++ recs) [] [] := fun p' e0 e1 =>
    ⟨by rw [e0, h.f0, List.append_nil (old ++ recs)], by rw [e0, List.append_nil (old ++ recs)]; exact h.s0, by rw [e0]; exact h.l0, .inr (by rw [e1]), by rw [e1], h.px, by rw [List.append_nil]; exact h.ok, ⟨hb, by omega⟩, ⟨by rw [List.length_append]; omega, hq.2⟩, ⟨by simp; omega, by rw [List.append_nil]; omega⟩, h.xb⟩
  unfold linR
  rw [if_neg (by simp), if_neg (by omega), hprev]
  by_cases e1 : (pwr p ((3 : Nat) : Int) ((1 : Nat) : Int) (frameB (seq + recs.length) b)).2 = 0
  · have e1' : (pwr p 3 1 (frameB (seq + recs.length) b)).2 = 0 := e1
    obtain ⟨k1, d1⟩ := w1 e1
    have hl1 : lin1 p (frameB (seq + recs.length) b) = (pclrD (pwr p 3 1 (frameB (seq + recs.length) b)).1 0, pchE (pwr p 3 1 (frameB (seq + recs.length) b)).1 [0]) := by unfold lin1; rw [if_pos e1']
    rw [hl1]
    simp only
    have o1 := clr_other (pwr p ((3 : Nat) : Int) ((1 : Nat) : Int) (frameB (seq + recs.length) b)).1 0 1 (by omega)
    rw [k1] at o1
    by_cases h2 : pchE (pwr p ((3 : Nat) : Int) ((1 : Nat) : Int) (frameB (seq + recs.length) b)).1 [((0 : Nat) : Int)] = 0
    · have h2' : pchE (pwr p 3 1 (frameB (seq + recs.length) b)).1 [0] = 0 := h2
      obtain ⟨k2, d2⟩ := clr_same _ 0 h2
      rw [if_pos h2']
      refine .inl ⟨_, rfl, ?_, d2⟩
      have k2' : (pclrD (pwr p 3 1 (frameB (seq + recs.length) b)).1 0).f 0 = ([], 0) := k2
      have o1' : (pclrD (pwr p 3 1 (frameB (seq + recs.length) b)).1 0).f 1 = (frameB (seq + recs.length) b, (frameB (seq + recs.length) b).length) := o1
      exact ⟨by rw [k2']; rfl, by rw [k2']; exact Nat.le_refl _, by rw [k2']; exact Nat.le_refl _, .inr (by rw [o1']), by rw [o1'], fun k => by rw [List.take_nil]; exact parse1_nil, fun r hr => by simp at hr, ⟨hb, by omega⟩, ⟨by simp, by omega⟩, ⟨by simp; omega, by simp [flen]⟩, h.xb⟩
    · have h2' : pchE (pwr p 3 1 (frameB (seq + recs.length) b)).1 [0] ≠ 0 := h2
      have h3 : pchE (pwr p 3 1 (frameB (seq + recs.length) b)).1 [0] = 13 := (pchE_v fv0 _).resolve_left h2
      rw [if_neg h2', h3]
      have k2 : (pclrD (pwr p 3 1 (frameB (seq + recs.length) b)).1 ((0 : Nat) : Int)).f 0 = p.f 0 := (congrFun (pch_no h2) 0).trans o0
      exact .inr ⟨_, rfl, .inr (hnew _ k2 o1)⟩
  · have e1' : (pwr p 3 1 (frameB (seq + recs.length) b)).2 ≠ 0 := e1
    have e2 : (pwr p 3 1 (frameB (seq + recs.length) b)).2 = 13 := (w2 e1).2
    have hl1 : lin1 p (frameB (seq + recs.length) b) = pwr p 3 1 (frameB (seq + recs.length) b) := by unfold lin1; rw [if_neg e1']
    rw [hl1, if_neg e1', e2]
    exact .inr ⟨_, rfl, .inl (dl_mono (dl_files h o0 (w2 e1).1))⟩
end
end Go.Proofs.Ytaonaifnaecpiaa.Own
