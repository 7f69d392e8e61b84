/- Parts and answers that come one behind the other: both places are the same in the end. No conditions beside those in each theorem. -/
import Derived.Test.YtofpkmfjigjlhaaShJ
namespace Go.Proofs.Ytofpkmfjigjlhaa.Own
set_option linter.unusedVariables false
set_option linter.unusedSimpArgs false
/-- One round: w sends so many, the other one answers. -/
def calmR (n : Bool → SN) (w : Bool) : Bool → SN :=
  let n1 := upd n (!w) (sTake (n (!w)) (sShip (n w) 3).1).1
  upd n1 w (sTaken (n1 w) (sTake (n (!w)) (sShip (n w) 3).1).2.1).1
/-- All answers of a round are as they must be. -/
def calmOK (n : Bool → SN) (w : Bool) : Prop := (sShip (n w) 3).2 = 0 ∧ (sTake (n (!w)) (sShip (n w) 3).1).2.2 = 0 ∧ (sTaken (n w) (sTake (n (!w)) (sShip (n w) 3).1).2.1).2 = 0
/-- w leads with the greatest epoch, and has an entry of it. -/
structure CI (c : Nat) (n : Bool → SN) (w : Bool) (e : Int) (L : List SE) (d : List Int) : Prop where
  inv : ∃ G S eS, NI G S eS c n
  ld : (n w).ld = true
  ep : (n w).ep = e
  top : (n (!w)).ep < e ∨ ((n (!w)).ep = e ∧ (n (!w)).ld = false)
  log : (n w).l = L ++ [(e, d)]
  hi : e ≤ 4611686018427387904
  cc : c ≤ 4096
theorem chain_of {e : Int} : ∀ (l : List SE) (last : Int), Rise l → (∀ x ∈ l, x.1 ≤ e ∧ x.2.length ≤ 60000) → (∀ x ∈ l, last ≤ x.1) → chain e last l = true := by
  intro l
  induction l with
  | nil => intros; rfl
  | cons x l ih =>
    intro last hr ht hl
    rw [chain, ih x.1 (List.Pairwise.of_cons hr) (fun y hy => ht y (List.mem_cons_of_mem _ hy)) (fun y hy => (List.pairwise_cons.1 hr).1 y hy)]
    have h1 := ht x List.mem_cons_self
    have h2 := hl x List.mem_cons_self
    simp [h1, h2]
theorem lc_nonneg {G : GH} {l : List SE} (h : LC G l) : ∀ x ∈ l, 0 ≤ x.1 := fun x hx => by
  obtain ⟨i, hi, rfl⟩ := List.mem_iff_getElem.1 hx
  exact (h i _ (List.getElem?_eq_getElem hi)).1
theorem epAt_le {l : List SE} (hr : Rise l) (h0 : ∀ x ∈ l, 0 ≤ x.1) (m : Nat) (hm : m ≤ l.length) : ∀ x ∈ l.drop m, epAt l m ≤ x.1 := by
  intro x hx
  cases m with
  | zero => exact h0 x ((List.drop_sublist _ _).subset hx)
  | succ i =>
    rw [epAt_some (by omega)]
    obtain ⟨j, hj, rfl⟩ := List.mem_iff_getElem.1 hx
    rw [List.getElem_drop]
    rw [List.length_drop] at hj
    exact (List.pairwise_iff_getElem.1 hr) i (i + 1 + j) (by omega) (by omega) (by omega)
theorem epAt_bd {l : List SE} {e : Int} (h0 : ∀ x ∈ l, 0 ≤ x.1 ∧ x.1 ≤ e) (he : 0 ≤ e) (m : Nat) (hm : m ≤ l.length) : 0 ≤ epAt l m ∧ epAt l m ≤ e := by
  cases m with
  | zero => exact ⟨Int.le_refl _, he⟩
  | succ i => rw [epAt_some (by omega)]; exact h0 _ (List.getElem_mem _)
theorem ci_right {c : Nat} {n : Bool → SN} {w : Bool} {e : Int} {L : List SE} {d : List Int} (h : CI c n w e L d) :
    sShip (n w) 3 = (⟨e, ((n w).mark : Int), epAt (n w).l (n w).mark, ((n w).l.drop (n w).mark).take 3, ((n w).safe : Int)⟩, 0) ∧ sRight (sShip (n w) 3).1 = true := by
  obtain ⟨G, S, eS, hn⟩ := h.inv
  have h1 : sShip (n w) 3 = (⟨e, ((n w).mark : Int), epAt (n w).l (n w).mark, ((n w).l.drop (n w).mark).take 3, ((n w).safe : Int)⟩, 0) := by
    unfold sShip
    rw [if_neg (by rw [h.ld]; simp), if_neg (by decide), h.ep]
    rfl
  refine ⟨h1, ?_⟩
  rw [h1]
  have hl := hn.len w
  have hm := (hn.ld w h.ld).2
  have hs := hn.safe w
  have hS := (hn.pre w).length_le
  have hc := h.cc
  have he0 := hn.e0 w
  have hhi := h.hi
  rw [h.ep] at he0
  have hT : ∀ x ∈ (n w).l, 0 ≤ x.1 ∧ x.1 ≤ e := fun x hx => ⟨lc_nonneg (hn.lc w) x hx, by have := hn.top w x hx; rw [h.ep] at this; exact this.1⟩
  obtain ⟨b0, b1⟩ := epAt_bd hT he0 _ hm
  have hch : chain e (epAt (n w).l (n w).mark) (((n w).l.drop (n w).mark).take 3) = true := by
    refine chain_of _ _ (((hn.rise w).sublist (List.drop_sublist _ _)).sublist (List.take_sublist _ _)) (fun x hx => ?_) (fun x hx => epAt_le (hn.rise w) (fun y hy => (hT y hy).1) _ hm x ((List.take_sublist _ _).subset hx))
    have := hn.top w x ((List.drop_sublist _ _).subset ((List.take_sublist _ _).subset hx))
    rw [h.ep] at this
    exact this
  have hlen : (((n w).l.drop (n w).mark).take 3).length ≤ (n w).l.length - (n w).mark := by rw [List.length_take, List.length_drop]; omega
  have hz : (n w).mark = 0 → epAt (n w).l (n w).mark = 0 := fun h => by rw [h]; rfl
  unfold sRight
  simp only [hch, Bool.and_true]
  unfold inE inN
  have q : (!(decide (((n w).mark : Int) = 0) && !decide (epAt (n w).l (n w).mark = 0))) = true := by
    by_cases h0 : (n w).mark = 0
    · rw [hz h0]; simp
    · simp [h0]
  rw [q]
  simp only [Bool.and_eq_true, decide_eq_true_eq, and_true]
  omega
/-- What one round does. -/
theorem ci_round {c : Nat} {n : Bool → SN} {w : Bool} {e : Int} {L : List SE} {d : List Int} (h : CI c n w e L d) :
    calmOK n w ∧ CI c (calmR n w) w e L d ∧ (calmR n w (!w)).ld = false ∧ (n w).safe ≤ (calmR n w w).safe ∧ (n (!w)).safe ≤ (calmR n w (!w)).safe ∧
      (((calmR n w w).mark < (n w).mark ∧ ¬ (n w).l.take (n w).mark <+: (n (!w)).l) ∨
       ((calmR n w w).mark = min ((n w).mark + 3) (n w).l.length ∧ (n w).l.take (calmR n w w).mark <+: (calmR n w (!w)).l ∧ (calmR n w w).mark ≤ (calmR n w w).safe ∧ min (n w).safe (calmR n w w).mark ≤ (calmR n w (!w)).safe)) := by
  obtain ⟨hsh, hri⟩ := ci_right h
  obtain ⟨G, S, eS, hn⟩ := h.inv
  obtain ⟨hpar, hmk⟩ := hn.ld w h.ld
  have hpv := goes_ship hn w 3 (by rw [hsh])
  have hG := hn.own w hpar
  rw [h.ep] at hG hpar
  have hid : n w ≠ n w ∨ True := .inr trivial
  have he0 := hn.e0 w
  rw [h.ep] at he0
  have hhi := h.hi
  have hlc := hn.len w
  have hcc := h.cc
  have hfl := hn.len (!w)
  -- the nodes behind the round are those of the protocol
  obtain ⟨G1, S1, e1, k1, k2, k3, k4, k5⟩ := goes_take hn (!w) _ hpv
  have hw1 : upd n (!w) (sTake (n (!w)) (sShip (n w) 3).1).1 w = n w := by have := upd_other n (!w) (sTake (n (!w)) (sShip (n w) 3).1).1; rwa [Bool.not_not] at this
  have hnacc : ¬ ((sShip (n w) 3).1.ep < (n (!w)).ep ∨ (sShip (n w) 3).1.ep = (n (!w)).ep ∧ (n (!w)).ld = true) := by
    rw [hsh]
    show ¬ (e < (n (!w)).ep ∨ e = (n (!w)).ep ∧ (n (!w)).ld = true)
    rcases h.top with ht | ⟨ht1, ht2⟩
    · intro hh
      rcases hh with hh | hh
      · omega
      · omega
    · intro hh
      rcases hh with hh | hh
      · omega
      · rw [ht2] at hh; exact absurd hh.2 (by simp)
  have htk : (sTake (n (!w)) (sShip (n w) 3).1).2.2 = 0 := by
    unfold sTake
    rw [if_neg (by rw [hri]; simp), if_neg hnacc]
    repeat' split
    all_goals rfl
  have hav := k5 htk
  rw [Bool.not_not] at hav
  obtain ⟨G2, S2, e2, j1, j2, j3, j4, _⟩ := goes_taken k1 w _ hav
  have hR : upd (upd n (!w) (sTake (n (!w)) (sShip (n w) 3).1).1) w (sTaken (upd n (!w) (sTake (n (!w)) (sShip (n w) 3).1).1 w) (sTake (n (!w)) (sShip (n w) 3).1).2.1).1 = calmR n w := rfl
  rw [hR] at j1
  have hRw : calmR n w w = (sTaken (n w) (sTake (n (!w)) (sShip (n w) 3).1).2.1).1 := by
    unfold calmR; rw [upd_same, hw1]
  have hRf : calmR n w (!w) = (sTake (n (!w)) (sShip (n w) 3).1).1 := by
    unfold calmR; rw [upd_other, upd_same]
  -- the answer
  have hans : ∃ y z, (sTake (n (!w)) (sShip (n w) 3).1).2.1 = (e, y, z) ∧ 0 ≤ z ∧ z ≤ (n w).l.length ∧ (sTake (n (!w)) (sShip (n w) 3).1).1.ep = e ∧ (sTake (n (!w)) (sShip (n w) 3).1).1.ld = false ∧ (n (!w)).safe ≤ (sTake (n (!w)) (sShip (n w) 3).1).1.safe ∧
      ((y = false ∧ z < (n w).mark ∧ ¬ (n w).l.take (n w).mark <+: (n (!w)).l) ∨ (y = true ∧ z = ((min ((n w).mark + 3) (n w).l.length : Nat) : Int) ∧ (n w).l.take (min ((n w).mark + 3) (n w).l.length) <+: (sTake (n (!w)) (sShip (n w) 3).1).1.l ∧ min (n w).safe (min ((n w).mark + 3) (n w).l.length) ≤ (sTake (n (!w)) (sShip (n w) 3).1).1.safe)) := by
    unfold sTake
    rw [if_neg (by rw [hri]; simp), if_neg hnacc, hsh]
    simp only
    by_cases c1 : ((n (!w)).l.length : Int) < ((n w).mark : Int)
    · rw [if_pos c1]
      refine ⟨false, _, rfl, by omega, by omega, rfl, rfl, Nat.le_refl _, .inl ⟨rfl, c1, fun hp => ?_⟩⟩
      have := hp.length_le
      rw [List.length_take] at this
      omega
    · rw [if_neg c1]
      simp only [Int.toNat_natCast]
      by_cases c2 : epAt (n (!w)).l (n w).mark ≠ epAt (n w).l (n w).mark
      · rw [if_pos c2]
        have hm0 : 0 < (n w).mark := by
          rcases Nat.eq_zero_or_pos (n w).mark with h0 | h0
          · rw [h0] at c2; exact absurd rfl c2
          · exact h0
        refine ⟨false, _, rfl, by omega, by omega, rfl, rfl, Nat.le_refl _, .inl ⟨rfl, by omega, fun hp => c2 ?_⟩⟩
        rw [epAt_ext hp (by rw [List.length_take]; omega)]
        exact (epAt_ext (List.take_prefix _ _) (by rw [List.length_take]; omega)).symm
      · rw [if_neg c2]
        have hb : epAt (n (!w)).l (n w).mark = epAt (n w).l (n w).mark := Decidable.not_not.1 c2
        have hln : (((n w).l.drop (n w).mark).take 3).length = min 3 ((n w).l.length - (n w).mark) := by rw [List.length_take, List.length_drop]
        have hsplit : ((n w).l.drop (n w).mark).take 3 = ((n w).l.drop (n w).mark).take (min 3 ((n w).l.length - (n w).mark)) := by
          conv => lhs; rw [← List.take_length (l := (n w).l.drop (n w).mark), List.take_take, List.length_drop]
        have hfe : (n (!w)).ep ≤ e := by rcases h.top with ht | ht <;> omega
        obtain ⟨m1, m2, m3, m4, m5, m6, m7⟩ := merge_goes (f := !w) (len := min 3 ((n w).l.length - (n w).mark)) hn hG hfe (by omega) (by omega) hb
        rw [← hsplit] at m6
        have hsum : (n w).mark + min 3 ((n w).l.length - (n w).mark) = min ((n w).mark + 3) (n w).l.length := by omega
        rw [hsum] at m6
        refine ⟨true, _, rfl, by omega, by rw [hln]; omega, rfl, rfl, ?_, .inr ⟨rfl, by rw [hln]; omega, m6, ?_⟩⟩
        · simp only; omega
        · simp only [hln]; omega
  obtain ⟨y, z, ha, hz0, hz1, ha1, ha2, ha3, hcase⟩ := hans
  have htkn : sTaken (n w) (sTake (n (!w)) (sShip (n w) 3).1).2.1 = if y = true then ({ n w with mark := z.toNat, safe := max (n w).safe z.toNat }, 0) else ({ n w with mark := min (n w).mark z.toNat }, 0) := by
    rw [ha]
    unfold sTaken
    have hq1 : inE e = true := by unfold inE; simp; omega
    have hq2 : inN z = true := by unfold inN; simp; omega
    rw [if_neg (by simp only [hq1, hq2]; simp), if_neg (by rw [h.ep]; simp), if_neg (by simp only [h.ld, h.ep]; simp), if_neg (by simp only; omega)]
  have hRl : (calmR n w w).l = (n w).l ∧ (calmR n w w).ld = true ∧ (calmR n w w).ep = e := by
    rw [hRw, htkn]
    split <;> exact ⟨rfl, h.ld, h.ep⟩
  refine ⟨⟨by rw [hsh], htk, ?_⟩, ⟨⟨G2, S2, e2, j1⟩, hRl.2.1, hRl.2.2, .inr ⟨by rw [hRf]; exact ha1, by rw [hRf]; exact ha2⟩, by rw [hRl.1]; exact h.log, h.hi, h.cc⟩, by rw [hRf]; exact ha2, ?_, by rw [hRf]; exact ha3, ?_⟩
  · rw [htkn]; split <;> rfl
  · rw [hRw, htkn]; split <;> simp only <;> omega
  · rcases hcase with ⟨rfl, hc1, hc2⟩ | ⟨rfl, hc1, hc2, hc3⟩
    · left
      refine ⟨?_, hc2⟩
      rw [hRw, htkn, if_neg (by simp)]
      simp only
      omega
    · right
      have hmm : (calmR n w w).mark = min ((n w).mark + 3) (n w).l.length := by
        rw [hRw, htkn, if_pos rfl]
        simp only
        omega
      refine ⟨hmm, by rw [hmm, hRf]; exact hc2, ?_, by rw [hmm, hRf]; exact hc3⟩
      rw [hRw, htkn, if_pos rfl]
      simp only
      omega
def calmN (n : Bool → SN) (w : Bool) : Nat → (Bool → SN)
  | 0 => n
  | k + 1 => calmR (calmN n w k) w
/-- How far the play has come: a prefix is there, or the mark falls. -/
theorem ci_many {c : Nat} {n : Bool → SN} {w : Bool} {e : Int} {L : List SE} {d : List Int} (h : CI c n w e L d) : ∀ k, CI c (calmN n w k) w e L d ∧ (∀ j, j < k → calmOK (calmN n w j) w) ∧ (0 < k → (calmN n w k (!w)).ld = false) ∧
    (((calmN n w k w).mark + k ≤ (n w).mark) ∨ (∃ j, j + 1 + (n w).mark ≤ (n w).mark + k ∧ j ≤ (n w).mark ∧ min (3 * (k - j)) (n w).l.length ≤ (calmN n w k w).mark ∧ (n w).l.take (calmN n w k w).mark <+: (calmN n w k (!w)).l ∧ (calmN n w k w).mark ≤ (calmN n w k w).safe ∧ (min (3 * (k - 1 - j)) (n w).l.length ≤ (calmN n w k (!w)).safe))) := by
  have hlog := h.log
  intro k
  induction k with
  | zero =>
    exact ⟨h, fun j hj => absurd hj (Nat.not_lt_zero _), fun h => absurd h (Nat.lt_irrefl _), .inl (Nat.le_refl _)⟩
  | succ k ih =>
    obtain ⟨h1, h2, h3, h4⟩ := ih
    obtain ⟨r1, r2, r3, r4, r5, r6⟩ := ci_round h1
    have hll : (calmN n w k w).l = (n w).l := by rw [h1.log, hlog]
    rw [hll] at r6
    show CI c (calmR (calmN n w k) w) w e L d ∧ _ ∧ (0 < k + 1 → (calmR (calmN n w k) w (!w)).ld = false) ∧ (((calmR (calmN n w k) w w).mark + (k + 1) ≤ (n w).mark) ∨ (∃ j, _ ∧ _ ∧ _ ≤ (calmR (calmN n w k) w w).mark ∧ (n w).l.take (calmR (calmN n w k) w w).mark <+: (calmR (calmN n w k) w (!w)).l ∧ (calmR (calmN n w k) w w).mark ≤ (calmR (calmN n w k) w w).safe ∧ _ ≤ (calmR (calmN n w k) w (!w)).safe))
    refine ⟨r2, fun j hj => ?_, fun _ => r3, ?_⟩
    · rcases Nat.lt_succ_iff_lt_or_eq.1 hj with hj | rfl
      · exact h2 j hj
      · exact r1
    · rcases h4 with h4 | ⟨j, j1, j2, j3, j4, j5, j6⟩
      · rcases r6 with ⟨r6, _⟩ | ⟨r6, r7, r8, r9⟩
        · left; omega
        · right
          exact ⟨k, by omega, by omega, by omega, r7, r8, by omega⟩
      · rcases r6 with ⟨r6, r7⟩ | ⟨r6, r7, r8, r9⟩
        · exact absurd j4 r7
        · right
          refine ⟨j, by omega, j2, by omega, r7, r8, ?_⟩
          have : min (3 * (k - j)) (n w).l.length ≤ (calmN n w k w).safe := Nat.le_trans j3 j5
          omega
/-- Behind enough rounds both logs are the same, and all is safe. -/
theorem ci_end {c : Nat} {n : Bool → SN} {w : Bool} {e : Int} {L : List SE} {d : List Int} (h : CI c n w e L d) (hc : c ≤ 150) : (calmN n w 250 (!w)).l = (calmN n w 250 w).l ∧ (calmN n w 250 w).safe = (calmN n w 250 w).l.length ∧ (calmN n w 250 (!w)).safe = (calmN n w 250 w).l.length ∧ (calmN n w 250 (!w)).ld = false ∧ ∀ j, j < 250 → calmOK (calmN n w j) w := by
  obtain ⟨h1, h2, h3, h4⟩ := ci_many h 250
  obtain ⟨G, S, eS, hn0⟩ := h.inv
  have hlen := hn0.len w
  have hmk := (hn0.ld w h.ld).2
  obtain ⟨G1, S1, e1, hn⟩ := h1.inv
  have hll : (calmN n w 250 w).l = (n w).l := by rw [h1.log, h.log]
  rcases h4 with h4 | ⟨j, j1, j2, j3, j4, j5, j6⟩
  · omega
  · have hmark : (n w).l.length ≤ (calmN n w 250 w).mark := by omega
    rw [List.take_of_length_le hmark] at j4
    have hs1 := hn.safe w
    have hs2 := hn.safe (!w)
    have hp := (hn.pre w).length_le
    rw [hll] at hp
    have heq : (calmN n w 250 (!w)).l = (n w).l := by
      obtain ⟨t, ht⟩ := j4
      cases t with
      | nil => rw [← ht, List.append_nil]
      | cons x t =>
        exfalso
        -- an entry behind the last one is of the same epoch, and stands in the leader's log
        have hx : (calmN n w 250 (!w)).l[(n w).l.length]? = some x := by rw [← ht, List.getElem?_append_right (Nat.le_refl _), Nat.sub_self]; rfl
        have hlast : (e, d) ∈ (n w).l := by rw [h.log]; simp
        obtain ⟨i, hi, hie⟩ := List.mem_iff_getElem.1 hlast
        have hr := hn.rise (!w)
        rw [← ht] at hr
        have hle := (List.pairwise_append.1 hr).2.2 _ hlast x List.mem_cons_self
        have hge := (hn.top (!w) x (by rw [← ht]; simp)).1
        have hfe : (calmN n w 250 (!w)).ep = e := by
          rcases h1.top with hq | hq
          · have := hle; simp only at this; omega
          · exact hq.1
        obtain ⟨_, g, hg, hgl, _⟩ := hn.lc (!w) _ x hx
        have hxe : x.1 = e := by simp only at hle; omega
        have hown := hn.own w (hn.ld w h1.ld).1
        rw [h1.ep] at hown
        rw [hxe, hown] at hg
        injection hg with hg
        rw [← hg, hll] at hgl
        omega
    refine ⟨by rw [heq, hll], ?_, ?_, h3 (by omega), h2⟩
    · rw [hll]; omega
    · rw [hll]; omega
end Go.Proofs.Ytofpkmfjigjlhaa.Own
