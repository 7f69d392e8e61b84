/- Two places that play, in memory. No conditions beside those in each theorem. -/
import Derived.Test.YtofpkmfjigjlhaaKn31
import Derived.Test.YtofpkmfjigjlhaaShJ
import Derived.Test.YtofpkmfjigjlhaaApR
import Derived.StillTailTactics
namespace Go.Proofs.Ytofpkmfjigjlhaa.Own
open Go.RowKit
set_option linter.unusedSimpArgs false
set_option linter.unusedVariables false
/-- A letter's cells. -/
def lc1 (x : SL) (u : Value) : List Value := [.int .i64 (bi x.to), .bool x.part, .int .i64 x.p.ep, .int .i64 x.p.at_, .int .i64 x.p.bf, u, .int .i64 x.p.safe, .int .i64 x.a.1, .bool x.a.2.1, .int .i64 x.a.2.2]
def wcl (way : List SL) (us : List Value) : List (List Value) := List.zipWith lc1 way us
theorem wcl_same (way : List SL) (us : List Value) : Same 10 (wcl way us) := fun b hb => by
  obtain ⟨i, hi, rfl⟩ := List.mem_iff_getElem.1 hb
  simp [wcl, lc1]
theorem wcl_get {way : List SL} {us : List Value} {j : Nat} {x : SL} {u : Value} (hx : way[j]? = some x) (hu : us[j]? = some u) : (wcl way us)[j]? = some (lc1 x u) := by
  unfold wcl; rw [List.getElem?_zipWith, hx, hu]
structure PL (w W : World) (P A : Nat) (D : Bool → Nat) (p : PY) (xs im : List (Nat × List Value)) (lv : Bool → Value) (wv : Value) (wx : List (Nat × List Value)) (us : List Value) : Prop where
  px : PX w W D p.n (xs ++ (P, [.slice (some ⟨A, 0, none⟩) 2 2, wv, .int .i64 p.k]) :: (A, [.pointer (some ⟨D false, 0, none⟩), .pointer (some ⟨D true, 0, none⟩)]) :: wx) im lv
  ws : WS wx 10 wv p.way.length (wcl p.way us).flatten
  ul : us.length = p.way.length
  ue : ∀ (j : Nat) (u : Value) (x : SL), us[j]? = some u → p.way[j]? = some x → EL im u x.p.l ∧ x.p.l.length ≤ 4096 ∧ ∀ y ∈ x.p.l, y.2.length ≤ 60000
  wl : p.way.length ≤ 60
/-- A play, with all that is never written again. -/
def PLE (w W : World) (P A : Nat) (D : Bool → Nat) (p : PY) (im0 : List (Nat × List Value)) : Prop := ∃ im lv wv wx us, (∀ q ∈ im0, q ∈ im) ∧ PL w W P A D p [] im lv wv wx us
section
variable {w W : World} {P A : Nat} {D : Bool → Nat} {p : PY} {im : List (Nat × List Value)} {lv : Bool → Value} {wv : Value} {wx : List (Nat × List Value)} {us : List Value}
/-- The letter at a place. -/
theorem pl_at (h : PL w W P A D p [] im lv wv wx us) {i : Nat} {x : SL} (hx : p.way[i]? = some x) : ∃ b c s k, wv = .slice (some ⟨b, 0, none⟩) p.way.length c ∧ p.way.length ≤ c ∧ us[i]? = some (.slice s x.p.l.length k) ∧ ∀ (j : Nat) (v : Value), (lc1 x (.slice s x.p.l.length k))[j]? = some v → W.cell? ⟨b, i * 10 + j, none⟩ = some v := by
  have hi := (List.getElem?_eq_some_iff.1 hx).1
  have hu : us[i]? = some (us[i]'(by rw [h.ul]; exact hi)) := List.getElem?_eq_getElem (by rw [h.ul]; exact hi)
  obtain ⟨s, k, he, _⟩ := el_form (h.ue i _ x hu hx).1
  rw [he] at hu
  obtain ⟨sb, c, hwv, hc, hform⟩ := ws_form h.ws
  have hws := h.ws
  subst hwv
  rcases hform with rfl | ⟨b, rfl⟩
  · rcases hws with ⟨_, h0, _⟩ | ⟨g, cap, cur, _, hh, _⟩
    · omega
    · cases hh
  · refine ⟨b, c, s, k, rfl, hc, hu, fun j v hv => ?_⟩
    exact ws_cell hws (px_kr h.px) (fun q hq => List.mem_append_left _ (List.mem_cons_of_mem _ (List.mem_cons_of_mem _ hq))) (i * 10 + j) v (fl_get (wcl_same _ _) i j _ v (wcl_get hx hu) hv)
set_option maxRecDepth 100000 in
set_option maxHeartbeats 4000000 in
theorem come_ack (h : PL w W P A D p [] im lv wv wx us) (i : Nat) (x : SL) (hx : p.way[i]? = some x) (hp : x.part = false) :
    Calls Try.prog 29 #[.pointer (some ⟨P, 0, none⟩), .int .i64 (i : Int)] W fun e W' => e = .returned (.tuple #[]) ∧ PLE w W' P A D (pyCome p x) im := by
  obtain ⟨b, c, s, k, rfl, hc, hu, hcell⟩ := pl_at h hx
  have hi := (List.getElem?_eq_some_iff.1 hx).1
  have hwl := h.wl
  have hii : (i : Int) < (p.way.length : Int) := by omega
  have hi6 : (i : Int) ≤ 60 := by omega
  obtain ⟨tw, part, pp, aa⟩ := x
  simp only at hp
  subst hp
  have c0 := hcell 0 _ rfl
  have c1 := hcell 1 _ rfl
  have c2 := hcell 2 _ rfl
  have c3 := hcell 3 _ rfl
  have c4 := hcell 4 _ rfl
  have c5 := hcell 5 _ rfl
  have c6 := hcell 6 _ rfl
  have c7 := hcell 7 _ rfl
  have c8 := hcell 8 _ rfl
  have c9 := hcell 9 _ rfl
  simp only [Nat.add_zero] at c0 c1 c2 c3 c4 c5 c6 c7 c8 c9
  have p1 := kr_cell h.px.kr 2 rfl 1 _ rfl
  have p0 := kr_cell h.px.kr 2 rfl 0 _ rfl
  have H : Hid (PL w W P A D p [] im lv _ wx us) := h
  have PB : Hid (PX w (W.alloc (.cells #[.int .i64 (bi tw), .bool false, .int .i64 pp.ep, .int .i64 pp.at_, .int .i64 pp.bf, .slice s pp.l.length k, .int .i64 pp.safe, .int .i64 aa.1, .bool aa.2.1, .int .i64 aa.2.2] 80)) D p.n _ im lv) := px_new h.px (lc1 ⟨tw, false, pp, aa⟩ (.slice s pp.l.length k)) 80
  have hpy : pyCome p ⟨tw, false, pp, aa⟩ = { p with n := upd p.n tw (sTaken (p.n tw) aa).1 } := by unfold pyCome; rw [if_pos rfl]
  rw [hpy]
  generalize p.way.length = n at *
  clear h hcell hx hpy hu
  go_enter Try.func29, Try.ntmps29
  go_wp2
  have PV := PB.out
  generalize (W.alloc (.cells #[.int .i64 (bi tw), .bool false, .int .i64 pp.ep, .int .i64 pp.at_, .int .i64 pp.bf, .slice s pp.l.length k, .int .i64 pp.safe, .int .i64 aa.1, .bool aa.2.1, .int .i64 aa.2.2] 80)) = V at *
  have P2 := px_call PV (bw_drew (Below.refl _ _))
  have e3 := px_taken P2 tw aa
  have q0 := kr_cell P2.kr 3 rfl 0 _ rfl
  have qa0 := kr_cell P2.kr 4 rfl 0 _ rfl
  have qa1 := kr_cell P2.kr 4 rfl 1 _ rfl
  have b0 : (V.drew).cell? ⟨W.heap.size, 0, none⟩ = some (.int .i64 (bi tw)) := kr_cell P2.kr 2 rfl 0 _ rfl
  have b7 : (V.drew).cell? ⟨W.heap.size, 7, none⟩ = some (.int .i64 aa.1) := kr_cell P2.kr 2 rfl 7 _ rfl
  have b8 : (V.drew).cell? ⟨W.heap.size, 8, none⟩ = some (.bool aa.2.1) := kr_cell P2.kr 2 rfl 8 _ rfl
  have b9 : (V.drew).cell? ⟨W.heap.size, 9, none⟩ = some (.int .i64 aa.2.2) := kr_cell P2.kr 2 rfl 9 _ rfl
  clear PV P2 p0 p1 c0 c1 c2 c3 c4 c5 c6 c7 c8 c9 PB
  cases tw
  all_goals
    simp only [bi, if_pos, if_neg (show ¬ (false = true) by decide), if_neg (show ¬ (true = false) by decide)] at b0 ⊢
    go_still_tail 10, (by kernel_rfl)
    change wpList _ _ _ _ _ V.drew
    generalize V.drew = V2 at *
    go_wp2_with (go_at_call 23; refine e3.mono ?_; rintro e w5 ⟨rfl, P5⟩)
    exact bodyPost_ret (v := .tuple #[]) (results_none rfl _ _ _) rfl ⟨rfl, im, _, _, wx, us, fun q hq => hq, px_sub P5 (List.sublist_cons_self _ _), H.out.ws, H.out.ul, H.out.ue, H.out.wl⟩
theorem come_s3 {n : Bool → SN} {B P A : Nat} {v w1 w2 : Value} {tw : Bool} {pp : SP} {aa : SA} {s : Option Addr} {k : Nat} {wx : List (Nat × List Value)} (h : PX w W D n ((B, lc1 ⟨tw, true, pp, aa⟩ (.slice s pp.l.length k)) :: ([] ++ (P, [v, w1, w2]) :: (A, [.pointer (some ⟨D false, 0, none⟩), .pointer (some ⟨D true, 0, none⟩)]) :: wx)) im lv) :
    W.cell? ⟨P, 0, none⟩ = some v ∧ W.cell? ⟨A, (bi tw).toNat, none⟩ = some (.pointer (some ⟨D tw, 0, none⟩)) ∧ W.cell? ⟨B, 0, none⟩ = some (.int .i64 (bi tw)) ∧ W.cell? ⟨B, 2, none⟩ = some (.int .i64 pp.ep) ∧ W.cell? ⟨B, 3, none⟩ = some (.int .i64 pp.at_) ∧ W.cell? ⟨B, 4, none⟩ = some (.int .i64 pp.bf) ∧ W.cell? ⟨B, 5, none⟩ = some (.slice s pp.l.length k) ∧ W.cell? ⟨B, 6, none⟩ = some (.int .i64 pp.safe) :=
  ⟨kr_cell h.kr 3 rfl 0 _ rfl, by cases tw <;> exact kr_cell h.kr 4 rfl _ _ rfl, kr_cell h.kr 2 rfl 0 _ rfl, kr_cell h.kr 2 rfl 2 _ rfl, kr_cell h.kr 2 rfl 3 _ rfl, kr_cell h.kr 2 rfl 4 _ rfl, kr_cell h.kr 2 rfl 5 _ rfl, kr_cell h.kr 2 rfl 6 _ rfl⟩
theorem come_a3 {n : Bool → SN} {xs : List (Nat × List Value)} {g : Nat} {a b c : Value} (h : PX w W D n ((g, [a, b, c]) :: xs) im lv) :
    W.cell? ⟨g, 0, none⟩ = some a ∧ W.cell? ⟨g, 1, none⟩ = some b ∧ W.cell? ⟨g, 2, none⟩ = some c ∧ W.frozen? ⟨g, 0, none⟩ = false ∧ W.frozen? ⟨g, 1, none⟩ = false ∧ W.frozen? ⟨g, 2, none⟩ = false := by
  have H := (h.kr.rows (g, [a, b, c]) (by simp)).2.2.2
  exact ⟨kr_cell h.kr 2 rfl 0 _ rfl, kr_cell h.kr 2 rfl 1 _ rfl, kr_cell h.kr 2 rfl 2 _ rfl, (H 0 (by simp)).2, (H 1 (by simp)).2, (H 2 (by simp)).2⟩
theorem come_b3 {n : Bool → SN} {xs : List (Nat × List Value)} {g : Nat} {a b c : Value} (h : PX w W D n ((g, [a, b, c]) :: xs) im lv) (a' b' c' : Value) :
    PX w (((W.setCell ⟨g, 0, none⟩ a').setCell ⟨g, 1, none⟩ b').setCell ⟨g, 2, none⟩ c') D n ((g, [a', b', c']) :: xs) im lv :=
  ⟨kr_fset (kr_fset (kr_fset h.kr 2 rfl 0 (by simp) a' _ rfl) 2 rfl 1 (by simp) b' _ rfl) 2 rfl 2 (by simp) c' _ rfl, h.el, h.nb⟩
theorem perm_wx (a b : Nat × List Value) (xs wx im : List (Nat × List Value)) : (wx ++ (a :: b :: (xs ++ im))).Perm (a :: b :: ((xs ++ wx) ++ im)) := by
  have := (List.perm_append_comm (l₁ := wx) (l₂ := a :: b :: xs)).append_right im
  simpa [List.append_assoc] using this
theorem px_wx {n : Bool → SN} {xs wx : List (Nat × List Value)} (h : PX w W D n (xs ++ wx) im lv) : KR w (wx ++ ((D false, ncl (n false) (lv false)) :: (D true, ncl (n true) (lv true)) :: (xs ++ im))) W := kr_permA h.kr (perm_wx _ _ _ _ _)
theorem px_xw {n : Bool → SN} {xs wx wx' : List (Nat × List Value)} {W' : World} (h : PX w W D n (xs ++ wx) im lv) (hk : KR w (wx' ++ ((D false, ncl (n false) (lv false)) :: (D true, ncl (n true) (lv true)) :: (xs ++ im))) W') : PX w W' D n (xs ++ wx') im lv := ⟨kr_permA hk (perm_wx _ _ _ _ _).symm, h.el, h.nb⟩
theorem ltr_info : (Try.prog.info? 80).map (fun i => (i.zero, i.size, i.bytes)) = some (some (.agg #[.int .i64 0, .bool false, .int .i64 0, .int .i64 0, .int .i64 0, .slice none 0 0, .int .i64 0, .int .i64 0, .bool false, .int .i64 0]), 10, 96) := by kernel_rfl
theorem lc1_one (x : SL) {u : Value} (h : u.oneCell' = true) : ∀ v ∈ lc1 x u, v.oneCell' = true := by
  intro v hv
  simp only [lc1, List.mem_cons, List.not_mem_nil, or_false] at hv
  rcases hv with rfl | rfl | rfl | rfl | rfl | rfl | rfl | rfl | rfl | rfl
  all_goals first | rfl | exact h
theorem pl_keep {im' : List (Nat × List Value)} {lv' : Bool → Value} {n' : Bool → SN} {ys : List (Nat × List Value)} {W' : World} (H : PL w W P A D p [] im lv wv wx us) (him : ∀ q ∈ im, q ∈ im')
    (P6 : PX w W' D n' (ys ++ (P, [.slice (some ⟨A, 0, none⟩) 2 2, wv, .int .i64 p.k]) :: (A, [.pointer (some ⟨D false, 0, none⟩), .pointer (some ⟨D true, 0, none⟩)]) :: wx) im' lv') :
    PLE w W' P A D { p with n := n' } im :=
  ⟨im', lv', wv, wx, us, him, px_sub P6 (List.sublist_append_right _ _), H.ws, H.ul, fun j u x hu hx => ⟨el_mono (H.ue j u x hu hx).1 him, (H.ue j u x hu hx).2⟩, H.wl⟩
theorem pl_add {im' : List (Nat × List Value)} {lv' : Bool → Value} {n' : Bool → SN} {ys wx' : List (Nat × List Value)} {W' : World} {v' u : Value} {x : SL} (H : PL w W P A D p [] im lv wv wx us) (him : ∀ q ∈ im, q ∈ im')
    (P6 : PX w W' D n' (ys ++ (P, [.slice (some ⟨A, 0, none⟩) 2 2, wv, .int .i64 p.k]) :: (A, [.pointer (some ⟨D false, 0, none⟩), .pointer (some ⟨D true, 0, none⟩)]) :: wx') im' lv')
    (hw : WS wx' 10 v' (p.way.length + 1) ((wcl p.way us).flatten ++ lc1 x u)) (hu : EL im' u x.p.l ∧ x.p.l.length ≤ 4096 ∧ ∀ y ∈ x.p.l, y.2.length ≤ 60000) (hl : p.way.length < 60) :
    PLE w (W'.setCell ⟨P, 1, none⟩ v') P A D { p with n := n', way := p.way ++ [x] } im := by
  have P7 := px_sub P6 (List.sublist_append_right _ _)
  refine ⟨im', lv', v', wx', us ++ [u], him, ⟨kr_fset P7.kr 2 rfl 1 (by simp) v' _ rfl, P7.el, P7.nb⟩, ?_, ?_, ?_, ?_⟩
  · have : (wcl (p.way ++ [x]) (us ++ [u])).flatten = (wcl p.way us).flatten ++ lc1 x u := by
      unfold wcl
      rw [List.zipWith_append H.ul.symm, List.flatten_append]
      simp
    show WS wx' 10 v' (p.way ++ [x]).length (wcl (p.way ++ [x]) (us ++ [u])).flatten
    rw [this, List.length_append]
    exact hw
  · show (us ++ [u]).length = (p.way ++ [x]).length
    rw [List.length_append, List.length_append, H.ul]; rfl
  · intro j u' x' hu' hx'
    have hx' : (p.way ++ [x])[j]? = some x' := hx'
    rw [List.getElem?_append] at hu' hx'
    rw [H.ul] at hu'
    by_cases hj : j < p.way.length
    · rw [if_pos hj] at hu' hx'
      exact ⟨el_mono (H.ue j u' x' hu' hx').1 him, (H.ue j u' x' hu' hx').2⟩
    · rw [if_neg hj] at hu' hx'
      have h0 : j - p.way.length = 0 := by have := (List.getElem?_eq_some_iff.1 hx').1; simp at this; omega
      rw [h0] at hu' hx'
      simp at hu' hx'
      subst hu' hx'
      exact hu
  · show (p.way ++ [x]).length ≤ 60
    rw [List.length_append]; exact hl
set_option maxRecDepth 100000 in
set_option maxHeartbeats 8000000 in
theorem come_part (h : PL w W P A D p [] im lv wv wx us) (i : Nat) (x : SL) (hx : p.way[i]? = some x) (hp : x.part = true) :
    Calls Try.prog 29 #[.pointer (some ⟨P, 0, none⟩), .int .i64 (i : Int)] W fun e W' => e = .returned (.tuple #[]) ∧ PLE w W' P A D (pyCome p x) im := by
  obtain ⟨b, c, s, k, rfl, hc, hu, hcell⟩ := pl_at h hx
  have hi := (List.getElem?_eq_some_iff.1 hx).1
  have hwl := h.wl
  have hii : (i : Int) < (p.way.length : Int) := by omega
  have hi6 : (i : Int) ≤ 60 := by omega
  obtain ⟨hel, hl1, hl2⟩ := h.ue i _ x hu hx
  obtain ⟨tw, part, pp, aa⟩ := x
  simp only at hp hel hl1 hl2
  subst hp
  have c0 := hcell 0 _ rfl
  have c1 := hcell 1 _ rfl
  have c2 := hcell 2 _ rfl
  have c3 := hcell 3 _ rfl
  have c4 := hcell 4 _ rfl
  have c5 := hcell 5 _ rfl
  have c6 := hcell 6 _ rfl
  have c7 := hcell 7 _ rfl
  have c8 := hcell 8 _ rfl
  have c9 := hcell 9 _ rfl
  simp only [Nat.add_zero] at c0 c1 c2 c3 c4 c5 c6 c7 c8 c9
  have p1 := kr_cell h.px.kr 2 rfl 1 _ rfl
  have p0 := kr_cell h.px.kr 2 rfl 0 _ rfl
  have H : Hid (PL w W P A D p [] im lv _ wx us) := h
  have HWS : Hid (WS wx 10 (.slice (some ⟨b, 0, none⟩) p.way.length c) p.way.length (wcl p.way us).flatten) := h.ws
  have HEL : Hid (EL im (.slice s pp.l.length k) pp.l ∧ pp.l.length ≤ 4096 ∧ ∀ y ∈ pp.l, y.2.length ≤ 60000) := ⟨hel, hl1, hl2⟩
  have PB : Hid (PX w (W.alloc (.cells #[.int .i64 (bi tw), .bool true, .int .i64 pp.ep, .int .i64 pp.at_, .int .i64 pp.bf, .slice s pp.l.length k, .int .i64 pp.safe, .int .i64 aa.1, .bool aa.2.1, .int .i64 aa.2.2] 80)) D p.n _ im lv) := px_new h.px (lc1 ⟨tw, true, pp, aa⟩ (.slice s pp.l.length k)) 80
  obtain ⟨q', hq'⟩ : ∃ q', q' = pyCome p ⟨tw, true, pp, aa⟩ := ⟨_, rfl⟩
  rw [← hq']
  unfold pyCome at hq'
  rw [if_neg (by simp)] at hq'
  simp only at hq'
  have HQ : Hid (q' = _) := hq'
  have htk : ∀ (V' : World) (ys : List (Nat × List Value)), PX w V' D p.n ys im lv → _ := fun V' ys hV => px_take hV tw pp pp.l.length rfl (by omega) (fun y hy => by have := hl2 y hy; omega) s k hel
  generalize hst : sTake (p.n tw) pp = st at *
  obtain ⟨n1, ⟨ae, ay, az⟩, er⟩ := st
  simp only at htk HQ
  have HTK : Hid _ := htk
  clear hst hq' hel hl1 hl2 htk
  generalize hLn : p.way.length = n at *
  have HLn : Hid (p.way.length = n) := hLn
  clear h hcell hx hu hLn
  go_enter Try.func29, Try.ntmps29
  go_wp2
  have PV := PB.out
  generalize (W.alloc (.cells #[.int .i64 (bi tw), .bool true, .int .i64 pp.ep, .int .i64 pp.at_, .int .i64 pp.bf, .slice s pp.l.length k, .int .i64 pp.safe, .int .i64 aa.1, .bool aa.2.1, .int .i64 aa.2.2] 80)) = V at *
  have q0 := kr_cell PV.kr 3 rfl 0 _ rfl
  have qa : V.cell? ⟨A, tw.toNat, none⟩ = some (.pointer (some ⟨D tw, 0, none⟩)) := by cases tw <;> exact kr_cell PV.kr 4 rfl _ _ rfl
  have b0 : V.cell? ⟨W.heap.size, 0, none⟩ = some (.int .i64 (bi tw)) := kr_cell PV.kr 2 rfl 0 _ rfl
  have b2 : V.cell? ⟨W.heap.size, 2, none⟩ = some (.int .i64 pp.ep) := kr_cell PV.kr 2 rfl 2 _ rfl
  have b3 : V.cell? ⟨W.heap.size, 3, none⟩ = some (.int .i64 pp.at_) := kr_cell PV.kr 2 rfl 3 _ rfl
  have b4 : V.cell? ⟨W.heap.size, 4, none⟩ = some (.int .i64 pp.bf) := kr_cell PV.kr 2 rfl 4 _ rfl
  have b5 : V.cell? ⟨W.heap.size, 5, none⟩ = some (.slice s pp.l.length k) := kr_cell PV.kr 2 rfl 5 _ rfl
  have b6 : V.cell? ⟨W.heap.size, 6, none⟩ = some (.int .i64 pp.safe) := kr_cell PV.kr 2 rfl 6 _ rfl
  have PVd := px_call PV (bw_drew (Below.refl _ _))
  have PVa := px_call (px_new PV [.int .i64 0, .bool false, .int .i64 0] 57) (bw_drew (Below.refl _ _))
  have cd := HTK.out _ _ PVd
  have ca := HTK.out _ _ PVa
  clear p0 p1 c0 c1 c2 c3 c4 c5 c6 c7 c8 c9 PV PVd PVa
  go_cut [5, 6] (fun v5 v6 wx' => ∃ g im' lv', v5 = .pointer (some ⟨g, 0, none⟩) ∧ v6 = .int .i64 er ∧ (∀ q ∈ im, q ∈ im') ∧ PX w wx' D (upd p.n tw n1) ((g, [.int .i64 ae, .bool ay, .int .i64 az]) :: (W.heap.size, lc1 ⟨tw, true, pp, aa⟩ (.slice s pp.l.length k)) :: ([] ++ (P, [.slice (some ⟨A, 0, none⟩) 2 2, .slice (some ⟨b, 0, none⟩) n c, .int .i64 p.k]) :: (A, [.pointer (some ⟨D false, 0, none⟩), .pointer (some ⟨D true, 0, none⟩)]) :: wx)) im' lv')
  case first =>
    cases tw
    · replace b0 : V.cell? ⟨W.heap.size, 0, none⟩ = some (.int .i64 0) := b0
      replace qa : V.cell? ⟨A, 0, none⟩ = some (.pointer (some ⟨D false, 0, none⟩)) := qa
      go_region_held3 (fun V => V.cell? ⟨P, 0, none⟩ = some (.slice (some ⟨A, 0, none⟩) 2 2) ∧ V.cell? ⟨A, 0, none⟩ = some (.pointer (some ⟨D false, 0, none⟩)) ∧ V.cell? ⟨W.heap.size, 0, none⟩ = some (.int .i64 0) ∧ V.cell? ⟨W.heap.size, 2, none⟩ = some (.int .i64 pp.ep) ∧ V.cell? ⟨W.heap.size, 3, none⟩ = some (.int .i64 pp.at_) ∧ V.cell? ⟨W.heap.size, 4, none⟩ = some (.int .i64 pp.bf) ∧ V.cell? ⟨W.heap.size, 5, none⟩ = some (.slice s pp.l.length k) ∧ V.cell? ⟨W.heap.size, 6, none⟩ = some (.int .i64 pp.safe)) (first | (with_reducible exact hS3) | (with_reducible exact hT3) | go_keep) ((go_at_call 22; first | (refine cd.mono ?_; rintro e w5 ⟨rfl, l5, lv5, P5⟩; have hS3 : w5.cell? ⟨P, 0, none⟩ = some (.slice (some ⟨A, 0, none⟩) 2 2) ∧ w5.cell? ⟨A, 0, none⟩ = some (.pointer (some ⟨D false, 0, none⟩)) ∧ w5.cell? ⟨W.heap.size, 0, none⟩ = some (.int .i64 0) ∧ w5.cell? ⟨W.heap.size, 2, none⟩ = some (.int .i64 pp.ep) ∧ w5.cell? ⟨W.heap.size, 3, none⟩ = some (.int .i64 pp.at_) ∧ w5.cell? ⟨W.heap.size, 4, none⟩ = some (.int .i64 pp.bf) ∧ w5.cell? ⟨W.heap.size, 5, none⟩ = some (.slice s pp.l.length k) ∧ w5.cell? ⟨W.heap.size, 6, none⟩ = some (.int .i64 pp.safe) := come_s3 P5) | (refine ca.mono ?_; rintro e w5 ⟨rfl, l5, lv5, P6⟩; obtain ⟨g0, g1, g2, f0, f1, f2⟩ := come_a3 P6; have hS3 : w5.cell? ⟨P, 0, none⟩ = some (.slice (some ⟨A, 0, none⟩) 2 2) ∧ w5.cell? ⟨A, 0, none⟩ = some (.pointer (some ⟨D false, 0, none⟩)) ∧ w5.cell? ⟨W.heap.size, 0, none⟩ = some (.int .i64 0) ∧ w5.cell? ⟨W.heap.size, 2, none⟩ = some (.int .i64 pp.ep) ∧ w5.cell? ⟨W.heap.size, 3, none⟩ = some (.int .i64 pp.at_) ∧ w5.cell? ⟨W.heap.size, 4, none⟩ = some (.int .i64 pp.bf) ∧ w5.cell? ⟨W.heap.size, 5, none⟩ = some (.slice s pp.l.length k) ∧ w5.cell? ⟨W.heap.size, 6, none⟩ = some (.int .i64 pp.safe) := come_s3 (px_sub P6 (List.sublist_cons_self _ _)); have P7 := come_b3 P6 (.int .i64 ae) (.bool ay) (.int .i64 az); have hT3 : (((w5.setCell ⟨V.heap.size, 0, none⟩ (.int .i64 ae)).setCell ⟨V.heap.size, 1, none⟩ (.bool ay)).setCell ⟨V.heap.size, 2, none⟩ (.int .i64 az)).cell? ⟨P, 0, none⟩ = some (.slice (some ⟨A, 0, none⟩) 2 2) ∧ (((w5.setCell ⟨V.heap.size, 0, none⟩ (.int .i64 ae)).setCell ⟨V.heap.size, 1, none⟩ (.bool ay)).setCell ⟨V.heap.size, 2, none⟩ (.int .i64 az)).cell? ⟨A, 0, none⟩ = some (.pointer (some ⟨D false, 0, none⟩)) ∧ (((w5.setCell ⟨V.heap.size, 0, none⟩ (.int .i64 ae)).setCell ⟨V.heap.size, 1, none⟩ (.bool ay)).setCell ⟨V.heap.size, 2, none⟩ (.int .i64 az)).cell? ⟨W.heap.size, 0, none⟩ = some (.int .i64 0) ∧ (((w5.setCell ⟨V.heap.size, 0, none⟩ (.int .i64 ae)).setCell ⟨V.heap.size, 1, none⟩ (.bool ay)).setCell ⟨V.heap.size, 2, none⟩ (.int .i64 az)).cell? ⟨W.heap.size, 2, none⟩ = some (.int .i64 pp.ep) ∧ (((w5.setCell ⟨V.heap.size, 0, none⟩ (.int .i64 ae)).setCell ⟨V.heap.size, 1, none⟩ (.bool ay)).setCell ⟨V.heap.size, 2, none⟩ (.int .i64 az)).cell? ⟨W.heap.size, 3, none⟩ = some (.int .i64 pp.at_) ∧ (((w5.setCell ⟨V.heap.size, 0, none⟩ (.int .i64 ae)).setCell ⟨V.heap.size, 1, none⟩ (.bool ay)).setCell ⟨V.heap.size, 2, none⟩ (.int .i64 az)).cell? ⟨W.heap.size, 4, none⟩ = some (.int .i64 pp.bf) ∧ (((w5.setCell ⟨V.heap.size, 0, none⟩ (.int .i64 ae)).setCell ⟨V.heap.size, 1, none⟩ (.bool ay)).setCell ⟨V.heap.size, 2, none⟩ (.int .i64 az)).cell? ⟨W.heap.size, 5, none⟩ = some (.slice s pp.l.length k) ∧ (((w5.setCell ⟨V.heap.size, 0, none⟩ (.int .i64 ae)).setCell ⟨V.heap.size, 1, none⟩ (.bool ay)).setCell ⟨V.heap.size, 2, none⟩ (.int .i64 az)).cell? ⟨W.heap.size, 6, none⟩ = some (.int .i64 pp.safe) := come_s3 (px_sub P7 (List.sublist_cons_self _ _)))))
      go_wp2_with fail
      all_goals
        go_meet
        case rel => first | exact ⟨_, _, _, rfl, rfl, fun q hq => List.mem_append_right _ hq, px_new P5 [.int .i64 ae, .bool ay, .int .i64 az] 57⟩ | exact ⟨_, _, _, rfl, rfl, fun q hq => List.mem_append_right _ hq, P7⟩
    · replace b0 : V.cell? ⟨W.heap.size, 0, none⟩ = some (.int .i64 1) := b0
      replace qa : V.cell? ⟨A, 1, none⟩ = some (.pointer (some ⟨D true, 0, none⟩)) := qa
      go_region_held3 (fun V => V.cell? ⟨P, 0, none⟩ = some (.slice (some ⟨A, 0, none⟩) 2 2) ∧ V.cell? ⟨A, 1, none⟩ = some (.pointer (some ⟨D true, 0, none⟩)) ∧ V.cell? ⟨W.heap.size, 0, none⟩ = some (.int .i64 1) ∧ V.cell? ⟨W.heap.size, 2, none⟩ = some (.int .i64 pp.ep) ∧ V.cell? ⟨W.heap.size, 3, none⟩ = some (.int .i64 pp.at_) ∧ V.cell? ⟨W.heap.size, 4, none⟩ = some (.int .i64 pp.bf) ∧ V.cell? ⟨W.heap.size, 5, none⟩ = some (.slice s pp.l.length k) ∧ V.cell? ⟨W.heap.size, 6, none⟩ = some (.int .i64 pp.safe)) (first | (with_reducible exact hS3) | (with_reducible exact hT3) | go_keep) ((go_at_call 22; first | (refine cd.mono ?_; rintro e w5 ⟨rfl, l5, lv5, P5⟩; have hS3 : w5.cell? ⟨P, 0, none⟩ = some (.slice (some ⟨A, 0, none⟩) 2 2) ∧ w5.cell? ⟨A, 1, none⟩ = some (.pointer (some ⟨D true, 0, none⟩)) ∧ w5.cell? ⟨W.heap.size, 0, none⟩ = some (.int .i64 1) ∧ w5.cell? ⟨W.heap.size, 2, none⟩ = some (.int .i64 pp.ep) ∧ w5.cell? ⟨W.heap.size, 3, none⟩ = some (.int .i64 pp.at_) ∧ w5.cell? ⟨W.heap.size, 4, none⟩ = some (.int .i64 pp.bf) ∧ w5.cell? ⟨W.heap.size, 5, none⟩ = some (.slice s pp.l.length k) ∧ w5.cell? ⟨W.heap.size, 6, none⟩ = some (.int .i64 pp.safe) := come_s3 P5) | (refine ca.mono ?_; rintro e w5 ⟨rfl, l5, lv5, P6⟩; obtain ⟨g0, g1, g2, f0, f1, f2⟩ := come_a3 P6; have hS3 : w5.cell? ⟨P, 0, none⟩ = some (.slice (some ⟨A, 0, none⟩) 2 2) ∧ w5.cell? ⟨A, 1, none⟩ = some (.pointer (some ⟨D true, 0, none⟩)) ∧ w5.cell? ⟨W.heap.size, 0, none⟩ = some (.int .i64 1) ∧ w5.cell? ⟨W.heap.size, 2, none⟩ = some (.int .i64 pp.ep) ∧ w5.cell? ⟨W.heap.size, 3, none⟩ = some (.int .i64 pp.at_) ∧ w5.cell? ⟨W.heap.size, 4, none⟩ = some (.int .i64 pp.bf) ∧ w5.cell? ⟨W.heap.size, 5, none⟩ = some (.slice s pp.l.length k) ∧ w5.cell? ⟨W.heap.size, 6, none⟩ = some (.int .i64 pp.safe) := come_s3 (px_sub P6 (List.sublist_cons_self _ _)); have P7 := come_b3 P6 (.int .i64 ae) (.bool ay) (.int .i64 az); have hT3 : (((w5.setCell ⟨V.heap.size, 0, none⟩ (.int .i64 ae)).setCell ⟨V.heap.size, 1, none⟩ (.bool ay)).setCell ⟨V.heap.size, 2, none⟩ (.int .i64 az)).cell? ⟨P, 0, none⟩ = some (.slice (some ⟨A, 0, none⟩) 2 2) ∧ (((w5.setCell ⟨V.heap.size, 0, none⟩ (.int .i64 ae)).setCell ⟨V.heap.size, 1, none⟩ (.bool ay)).setCell ⟨V.heap.size, 2, none⟩ (.int .i64 az)).cell? ⟨A, 1, none⟩ = some (.pointer (some ⟨D true, 0, none⟩)) ∧ (((w5.setCell ⟨V.heap.size, 0, none⟩ (.int .i64 ae)).setCell ⟨V.heap.size, 1, none⟩ (.bool ay)).setCell ⟨V.heap.size, 2, none⟩ (.int .i64 az)).cell? ⟨W.heap.size, 0, none⟩ = some (.int .i64 1) ∧ (((w5.setCell ⟨V.heap.size, 0, none⟩ (.int .i64 ae)).setCell ⟨V.heap.size, 1, none⟩ (.bool ay)).setCell ⟨V.heap.size, 2, none⟩ (.int .i64 az)).cell? ⟨W.heap.size, 2, none⟩ = some (.int .i64 pp.ep) ∧ (((w5.setCell ⟨V.heap.size, 0, none⟩ (.int .i64 ae)).setCell ⟨V.heap.size, 1, none⟩ (.bool ay)).setCell ⟨V.heap.size, 2, none⟩ (.int .i64 az)).cell? ⟨W.heap.size, 3, none⟩ = some (.int .i64 pp.at_) ∧ (((w5.setCell ⟨V.heap.size, 0, none⟩ (.int .i64 ae)).setCell ⟨V.heap.size, 1, none⟩ (.bool ay)).setCell ⟨V.heap.size, 2, none⟩ (.int .i64 az)).cell? ⟨W.heap.size, 4, none⟩ = some (.int .i64 pp.bf) ∧ (((w5.setCell ⟨V.heap.size, 0, none⟩ (.int .i64 ae)).setCell ⟨V.heap.size, 1, none⟩ (.bool ay)).setCell ⟨V.heap.size, 2, none⟩ (.int .i64 az)).cell? ⟨W.heap.size, 5, none⟩ = some (.slice s pp.l.length k) ∧ (((w5.setCell ⟨V.heap.size, 0, none⟩ (.int .i64 ae)).setCell ⟨V.heap.size, 1, none⟩ (.bool ay)).setCell ⟨V.heap.size, 2, none⟩ (.int .i64 az)).cell? ⟨W.heap.size, 6, none⟩ = some (.int .i64 pp.safe) := come_s3 (px_sub P7 (List.sublist_cons_self _ _)))))
      go_wp2_with fail
      all_goals
        go_meet
        case rel => first | exact ⟨_, _, _, rfl, rfl, fun q hq => List.mem_append_right _ hq, px_new P5 [.int .i64 ae, .bool ay, .int .i64 az] 57⟩ | exact ⟨_, _, _, rfl, rfl, fun q hq => List.mem_append_right _ hq, P7⟩
  case rest =>
    obtain ⟨g, im', lv', rfl, rfl, him, P5⟩ := hcut
    clear cd ca q0 qa b0 b2 b3 b4 b5 b6 HTK
    have q1 := kr_cell P5.kr 4 rfl 1 _ rfl
    have b0 : wc.cell? ⟨W.heap.size, 0, none⟩ = some (.int .i64 (bi tw)) := kr_cell P5.kr 3 rfl 0 _ rfl
    have g0 := kr_cell P5.kr 2 rfl 0 _ rfl
    have g1 := kr_cell P5.kr 2 rfl 1 _ rfl
    have g2 := kr_cell P5.kr 2 rfl 2 _ rfl
    have HP := P5
    change Hid _ at HP
    clear P5
    by_cases he : er = 0
    · by_cases hn : n < 60
      · subst he
        have hnn : (n : Int) < 60 := by omega
        go_wp2
        have hw : IntKind.i64.wrap (1 - bi tw) = bi (!tw) := by cases tw <;> rfl
        have PN : PX w ((wc.alloc (.cells #[.int .i64 (bi !tw), .bool false, .int .i64 0, .int .i64 0, .int .i64 0, .slice none 0 0, .int .i64 0, .int .i64 ae, .bool ay, .int .i64 az] 80)).drew) D (upd p.n tw n1) ([(wc.heap.size, lc1 ⟨!tw, false, ⟨0, 0, 0, [], 0⟩, (ae, ay, az)⟩ (.slice none 0 0)), (g, [.int .i64 ae, .bool ay, .int .i64 az]), (W.heap.size, lc1 ⟨tw, true, pp, aa⟩ (.slice s pp.l.length k)), (P, [.slice (some ⟨A, 0, none⟩) 2 2, .slice (some ⟨b, 0, none⟩) n c, .int .i64 p.k]), (A, [.pointer (some ⟨D false, 0, none⟩), .pointer (some ⟨D true, 0, none⟩)])] ++ wx) im' lv' := px_call (px_new HP.out (lc1 ⟨!tw, false, ⟨0, 0, 0, [], 0⟩, (ae, ay, az)⟩ (.slice none 0 0)) 80) (bw_drew (Below.refl _ _))
        have HKW := px_wx PN
        have qq1 : (wc.alloc (.cells #[.int .i64 (bi !tw), .bool false, .int .i64 0, .int .i64 0, .int .i64 0, .slice none 0 0, .int .i64 0, .int .i64 ae, .bool ay, .int .i64 az] 80)).cell? ⟨P, 1, none⟩ = some (.slice (some ⟨b, 0, none⟩) n c) := kr_cell (px_new HP.out (lc1 ⟨!tw, false, ⟨0, 0, 0, [], 0⟩, (ae, ay, az)⟩ (.slice none 0 0)) 80).kr 5 rfl 1 _ rfl
        have qq2 : (wc.alloc (.cells #[.int .i64 (bi !tw), .bool false, .int .i64 0, .int .i64 0, .int .i64 0, .slice none 0 0, .int .i64 0, .int .i64 ae, .bool ay, .int .i64 az] 80)).drew.cell? ⟨P, 1, none⟩ = some (.slice (some ⟨b, 0, none⟩) n c) := kr_cell PN.kr 5 rfl 1 _ rfl
        have hSR : SrcV ((wc.alloc (.cells #[.int .i64 (bi !tw), .bool false, .int .i64 0, .int .i64 0, .int .i64 0, .slice none 0 0, .int .i64 0, .int .i64 ae, .bool ay, .int .i64 az] 80)).drew) (some ⟨wc.heap.size, 0, none⟩) (lc1 ⟨!tw, false, ⟨0, 0, 0, [], 0⟩, (ae, ay, az)⟩ (.slice none 0 0)) := srcV_row (m := 10) PN.kr (List.mem_cons_of_mem _ (List.mem_cons_of_mem _ List.mem_cons_self)) rfl
        have PN : Hid (PX w _ D _ _ _ _) := PN
        have HKW : Hid (KR w _ _) := HKW
        have HSR : Hid (SrcV _ _ _) := hSR
        clear hSR
        go_region_law ((refine step_appendR _ _ 33 80 (.agg #[.int .i64 0, .bool false, .int .i64 0, .int .i64 0, .int .i64 0, .slice none 0 0, .int .i64 0, .int .i64 0, .bool false, .int .i64 0]) 10 96 HKW.out HWS.out (some ⟨wc.heap.size, 0, none⟩) 1 1 (lc1 ⟨!tw, false, ⟨0, 0, 0, [], 0⟩, (ae, ay, az)⟩ (.slice none 0 0)) (by omega) HSR.out rfl (lc1_one _ rfl) (by unfold maxLen; omega) (by omega) Try.underlying33 ltr_info rfl (by omega) rfl rfl (by rfl) (by rfl) ?_; intro v' W' wx' hw' H2 hz; obtain ⟨s4, c4, rfl, -, -⟩ := ws_form hw'; have P6 := px_xw PN.out H2; have q0 := kr_cell P6.kr 5 rfl 1 _ rfl; have q3 := kr_frozen P6.kr 5 rfl 1 (by show 1 < 3; omega); have P6 : Hid (PX w _ D _ _ _ _) := P6; have hw' : Hid (WS _ _ _ _ _) := hw'; clear H2))
        all_goals
          go_wp2_with fail
          refine bodyPost_end (results_none rfl _ _ _) rfl ⟨rfl, ?_⟩
          have hL := HLn.out
          subst hL
          have hQ := HQ.out
          rw [if_pos ⟨trivial, hn⟩] at hQ
          rw [hQ]
          exact pl_add (ys := [_, _, _]) H.out him P6.out hw'.out ⟨el_nil _, by simp, by simp⟩ hn
      · have hnn : ¬ ((n : Int) < 60) := by omega
        subst he
        clear HWS
        have HQ' : Hid (q' = { p with n := upd p.n tw n1 }) := by have hQ := HQ.out; rw [if_neg (fun h => hn h.2)] at hQ; exact hQ
        clear HQ hn
        go_wp2
        refine bodyPost_end (results_none rfl _ _ _) rfl ⟨rfl, ?_⟩
        rw [HQ'.out]
        have hL := HLn.out
        subst hL
        exact pl_keep H.out him (ys := [_, _]) HP.out
    · have hE : decide (er = 0) = false := by simp [he]
      have HQ' : Hid (q' = { p with n := upd p.n tw n1 }) := by have hQ := HQ.out; rw [if_neg (fun h => he h.1)] at hQ; exact hQ
      clear HQ HWS
      go_wp2
      refine bodyPost_end (results_none rfl _ _ _) rfl ⟨rfl, ?_⟩
      rw [HQ'.out]
      have hL := HLn.out
      subst hL
      exact pl_keep H.out him (ys := [_, _]) HP.out
/-- The letter at a place comes. -/
theorem come_k (h : PL w W P A D p [] im lv wv wx us) (i : Nat) (x : SL) (hx : p.way[i]? = some x) :
    Calls Try.prog 29 #[.pointer (some ⟨P, 0, none⟩), .int .i64 (i : Int)] W fun e W' => e = .returned (.tuple #[]) ∧ PLE w W' P A D (pyCome p x) im := by
  cases hp : x.part with
  | false => exact come_ack h i x hx hp
  | true => exact come_part h i x hx hp
end
end Go.Proofs.Ytofpkmfjigjlhaa.Own
