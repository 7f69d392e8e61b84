/- The protocol of two places, plainly: what holds behind any calls. No conditions beside those in each theorem. -/
import Derived.Test.YtofpkmfjigjlhaaShP
namespace Go.Proofs.Ytofpkmfjigjlhaa.Own
set_option linter.unusedVariables false
set_option linter.unusedSimpArgs false
def bi (w : Bool) : Int := if w then 1 else 0
theorem bi_or (w : Bool) (e : Int) : e % 2 = bi w ∨ e % 2 = bi (!w) := by cases w <;> simp [bi] <;> omega
theorem bi_ne {w : Bool} {e : Int} (h : e % 2 = bi w) : e % 2 ≠ bi (!w) := by cases w <;> simp [bi] at * <;> omega
theorem bi_no {w : Bool} {e : Int} (h : e % 2 ≠ bi w) : e % 2 = bi (!w) := (bi_or w e).resolve_left h
def upd (n : Bool → SN) (w : Bool) (x : SN) : Bool → SN := fun v => if v = w then x else n v
theorem upd_same (n : Bool → SN) (w : Bool) (x : SN) : upd n w x w = x := by simp [upd]
theorem upd_other (n : Bool → SN) (w : Bool) (x : SN) : upd n w x (!w) = n (!w) := by simp [upd]
theorem upd_cases (n : Bool → SN) (w : Bool) (x : SN) (v : Bool) (P : Bool → SN → Prop) (h1 : P w x) (h2 : P (!w) (n (!w))) : P v (upd n w x v) := by
  by_cases h : v = w
  · subst h; rw [upd_same]; exact h1
  · have : v = !w := by cases v <;> cases w <;> simp_all
    subst this
    rw [upd_other]; exact h2
/-- What any leader of an epoch from one on has. -/
def Cov (G : GH) (e : Int) (X : List SE) : Prop := ∀ e2 g, e ≤ e2 → G e2 = some g → X <+: g
structure NI (G : GH) (S : List SE) (eS : Int) (c : Nat) (n : Bool → SN) : Prop where
  me : ∀ w, (n w).me = bi w
  e0 : ∀ w, 0 ≤ (n w).ep
  eSw : ∀ w, eS ≤ (n w).ep
  safe : ∀ w, (n w).safe ≤ S.length
  pre : ∀ w, S <+: (n w).l
  lc : ∀ w, LC G (n w).l
  rise : ∀ w, Rise (n w).l
  top : ∀ w, Top (n w).ep (n w).l
  len : ∀ w, (n w).l.length ≤ c
  own : ∀ w, (n w).ep % 2 = bi w → G (n w).ep = some (n w).l
  oth : ∀ w, (n w).ep % 2 = bi (!w) → (n w).ep ≤ (n (!w)).ep
  ld : ∀ w, (n w).ld = true → (n w).ep % 2 = bi w ∧ (n w).mark ≤ (n w).l.length
  gs : ∀ e g, G e = some g → 0 ≤ e ∧ (∀ w, e % 2 = bi w → e ≤ (n w).ep) ∧ LC G g ∧ Rise g ∧ Top e g ∧ g.length ≤ c
  cov : Cov G eS S
/-- A part that is under way to a place. -/
def PV (G : GH) (S : List SE) (t : Bool) (p : SP) : Prop := ∃ (g : List SE) (at_ len : Nat), G p.ep = some g ∧ p.ep % 2 = bi (!t) ∧ p.at_ = (at_ : Int) ∧ at_ + len ≤ g.length ∧ p.l = (g.drop at_).take len ∧ p.bf = epAt g at_ ∧ 0 ≤ p.safe ∧ p.safe ≤ S.length
/-- An answer that is under way to a place. -/
def AV (G : GH) (n : Bool → SN) (t : Bool) (a : SA) : Prop := (∀ w, a.1 % 2 = bi w → a.1 ≤ (n w).ep) ∧ (a.2.1 = true → 0 ≤ a.2.2 ∧ a.1 % 2 = bi t ∧ ((n t).ep = a.1 → ∃ X : List SE, (X.length : Int) = a.2.2 ∧ X <+: (n (!t)).l ∧ a.1 ≤ (n (!t)).ep ∧ Cov G a.1 X))
theorem prefix_len_take {X g : List SE} {n : Nat} (h : X <+: g) (hn : X.length ≤ n) : X <+: g.take n := by
  rw [prefix_take h]
  exact List.prefix_take_iff.2 ⟨List.take_prefix _ _, by rw [List.length_take]; omega⟩
theorem epAt_ext {g g' : List SE} (h : g <+: g') {n : Nat} (hn : n ≤ g.length) : epAt g' n = epAt g n := by
  cases n with
  | zero => rfl
  | succ i =>
    obtain ⟨t, rfl⟩ := h
    rw [epAt, epAt, List.getElem?_append_left (by omega)]
theorem pv_mono {G G' : GH} {S S' : List SE} {t : Bool} {p : SP} (h : PV G S t p) (he : Ext G G') (hs : S.length ≤ S'.length) : PV G' S' t p := by
  obtain ⟨g, a, len, h1, h2, h3, h4, h5, h6, h7, h8⟩ := h
  obtain ⟨g', hg', hp⟩ := he _ _ h1
  refine ⟨g', a, len, hg', h2, h3, by have := hp.length_le; omega, ?_, by rw [h6, epAt_ext hp (by omega)], h7, by omega⟩
  rw [h5]
  obtain ⟨u, rfl⟩ := hp
  rw [List.drop_append_of_le_length (by omega), List.take_append_of_le_length (by rw [List.length_drop]; omega)]
theorem av_mono {G G' : GH} {n n' : Bool → SN} {t : Bool} {a : SA} (h : AV G n t a) (he : ∀ w, (n w).ep ≤ (n' w).ep) (hk : (n' t).ep = a.1 → (n t).ep = a.1 → ∀ X : List SE, X <+: (n (!t)).l → Cov G a.1 X → a.1 ≤ (n (!t)).ep → X <+: (n' (!t)).l ∧ Cov G' a.1 X) : AV G' n' t a := by
  obtain ⟨h1, h2⟩ := h
  refine ⟨fun w hw => Int.le_trans (h1 w hw) (he w), fun hy => ?_⟩
  obtain ⟨h3, h4, h5⟩ := h2 hy
  refine ⟨h3, h4, fun hx => ?_⟩
  have hle := h1 t h4
  have hxx : (n t).ep = a.1 := by have := he t; omega
  obtain ⟨X, hX, hp, hq, hc⟩ := h5 hxx
  obtain ⟨k1, k2⟩ := hk hx hxx X hp hc hq
  exact ⟨X, hX, k1, Int.le_trans hq (he _), k2⟩
/-- From one state to another one. -/
def Goes (G : GH) (S : List SE) (n : Bool → SN) (c' : Nat) (n' : Bool → SN) (R : GH → List SE → Prop) : Prop := ∃ G' S' eS', NI G' S' eS' c' n' ∧ S <+: S' ∧ Ext G G' ∧ (∀ t a, AV G n t a → AV G' n' t a) ∧ R G' S'
section
variable {G : GH} {S : List SE} {eS : Int} {c : Nat} {n : Bool → SN}
theorem goes_refl (h : NI G S eS c n) {R : GH → List SE → Prop} (hr : R G S) : Goes G S n c n R := ⟨G, S, eS, h, List.prefix_refl _, ext_refl G, fun _ _ h => h, hr⟩
theorem upd_id (n : Bool → SN) (w : Bool) : upd n w (n w) = n := by
  funext v; unfold upd; split
  · rename_i h; rw [h]
  · rfl
theorem ni_count (h : NI G S eS c n) {c' : Nat} (hc : c ≤ c') : NI G S eS c' n := ⟨h.me, h.e0, h.eSw, h.safe, h.pre, h.lc, h.rise, h.top, fun w => Nat.le_trans (h.len w) hc, h.own, h.oth, h.ld, fun e g hg => by
  obtain ⟨a, b, d, e', f, k⟩ := h.gs e g hg
  exact ⟨a, b, d, e', f, Nat.le_trans k hc⟩, h.cov⟩
theorem goes_ship (h : NI G S eS c n) (w : Bool) (most : Int) (hk : (sShip (n w) most).2 = 0) : PV G S (!w) (sShip (n w) most).1 := by
  unfold sShip at hk ⊢
  split at hk
  · cases hk
  · rename_i hl
    split at hk
    · cases hk
    · rename_i hm
      rw [if_neg hl, if_neg hm]
      have hl' : (n w).ld = true := by simpa using hl
      obtain ⟨h1, h2⟩ := h.ld w hl'
      refine ⟨(n w).l, (n w).mark, min most.toNat ((n w).l.length - (n w).mark), h.own w h1, by rw [Bool.not_not]; exact h1, rfl, by omega, ?_, rfl, by simp, by have := h.safe w; simp; omega⟩
      simp only
      rw [← List.length_drop, ← List.take_take, List.take_length]
theorem rise_app {l : List SE} {e : Int} {d : List Int} (h : Rise l) (ht : ∀ x ∈ l, x.1 ≤ e) : Rise (l ++ [(e, d)]) := List.pairwise_append.2 ⟨h, List.pairwise_singleton _ _, fun a ha b hb => by rw [List.mem_singleton.1 hb]; exact ht a ha⟩
theorem goes_app (h : NI G S eS c n) (w : Bool) (d : List Int) (hk : (n w).ep ≤ 4611686018427387904 ∨ True) : Goes G S n (c + 1) (upd n w (sApp (n w) d).1) fun _ _ => True := by
  have hid : Goes G S n (c + 1) (upd n w (n w)) fun _ _ => True := by rw [upd_id]; exact goes_refl (ni_count h (Nat.le_succ c)) trivial
  unfold sApp
  split
  · exact hid
  · rename_i hl
    split
    · exact hid
    · rename_i hd
      split
      · exact hid
      · have hl' : (n w).ld = true := by simpa using hl
        obtain ⟨h1, h2⟩ := h.ld w hl'
        have hG := h.own w h1
        have hpre : (n w).l <+: (n w).l ++ [((n w).ep, d)] := List.prefix_append _ _
        let G' : GH := fun e => if e = (n w).ep then some ((n w).l ++ [((n w).ep, d)]) else G e
        have hG'1 : G' (n w).ep = some ((n w).l ++ [((n w).ep, d)]) := if_pos rfl
        have hG'2 : ∀ e, e ≠ (n w).ep → G' e = G e := fun e he => if_neg he
        have hext : Ext G G' := fun e g hg => by
          by_cases he : e = (n w).ep
          · subst he
            rw [hG] at hg
            injection hg with hg
            exact ⟨_, hG'1, by rw [← hg]; exact hpre⟩
          · exact ⟨g, by rw [hG'2 e he]; exact hg, List.prefix_refl _⟩
        have hcov : ∀ e X, Cov G e X → Cov G' e X := fun e X hc e2 g he hg => by
          by_cases h3 : e2 = (n w).ep
          · subst h3
            rw [hG'1] at hg
            injection hg with hg
            rw [← hg]
            exact (hc _ _ he hG).trans hpre
          · rw [hG'2 e2 h3] at hg
            exact hc e2 g he hg
        have hlc : LC G' ((n w).l ++ [((n w).ep, d)]) := fun i x hx => by
          by_cases hi : i < (n w).l.length
          · rw [List.getElem?_append_left hi] at hx
            obtain ⟨a, g, hg, hlt, ht⟩ := lc_ext (h.lc w) hext i x hx
            exact ⟨a, g, hg, hlt, by rw [List.take_append_of_le_length (by omega)]; exact ht⟩
          · rw [List.getElem?_append_right (by omega)] at hx
            have h0 : i - (n w).l.length = 0 := by
              have := (List.getElem?_eq_some_iff.1 hx).1
              simp at this; omega
            rw [h0] at hx
            simp at hx
            subst hx
            exact ⟨h.e0 w, _, hG'1, by simp; omega, rfl⟩
        have htop : Top (n w).ep ((n w).l ++ [((n w).ep, d)]) := fun x hx => by
          rcases List.mem_append.1 hx with hx | hx
          · exact h.top w x hx
          · rw [List.mem_singleton.1 hx]; exact ⟨Int.le_refl _, by simp; omega⟩
        have hrise := rise_app (d := d) (h.rise w) (fun x hx => (h.top w x hx).1)
        refine ⟨G', S, eS, ⟨?_, ?_, ?_, ?_, ?_, ?_, ?_, ?_, ?_, ?_, ?_, ?_, ?_, hcov _ _ h.cov⟩, List.prefix_refl _, hext, fun t a ha => ?_, trivial⟩
        · exact fun v => upd_cases n w _ v (fun v x => x.me = bi v) (h.me w) (h.me _)
        · exact fun v => upd_cases n w _ v (fun v x => 0 ≤ x.ep) (h.e0 w) (h.e0 _)
        · exact fun v => upd_cases n w _ v (fun v x => eS ≤ x.ep) (h.eSw w) (h.eSw _)
        · exact fun v => upd_cases n w _ v (fun v x => x.safe ≤ S.length) (h.safe w) (h.safe _)
        · exact fun v => upd_cases n w _ v (fun v x => S <+: x.l) ((h.pre w).trans hpre) (h.pre _)
        · exact fun v => upd_cases n w _ v (fun v x => LC G' x.l) hlc (lc_ext (h.lc _) hext)
        · exact fun v => upd_cases n w _ v (fun v x => Rise x.l) hrise (h.rise _)
        · exact fun v => upd_cases n w _ v (fun v x => Top x.ep x.l) htop (h.top _)
        · exact fun v => upd_cases n w _ v (fun v x => x.l.length ≤ c + 1) (by have := h.len w; simp; omega) (by have := h.len (!w); omega)
        · refine fun v => upd_cases n w _ v (fun v x => x.ep % 2 = bi v → G' x.ep = some x.l) (fun _ => hG'1) (fun hp => ?_)
          rw [hG'2 _ (fun e => by rw [e] at hp; exact bi_ne h1 hp)]
          exact h.own _ hp
        · intro v
          by_cases hv : v = w
          · subst hv; rw [upd_same, upd_other]; exact h.oth v
          · have : v = !w := by cases v <;> cases w <;> simp_all
            subst this
            rw [Bool.not_not, upd_same, upd_other]
            have := h.oth (!w)
            rw [Bool.not_not] at this
            exact this
        · exact fun v => upd_cases n w _ v (fun v x => x.ld = true → x.ep % 2 = bi v ∧ x.mark ≤ x.l.length) (fun hd => ⟨h1, by simp; omega⟩) (h.ld _)
        · intro e g hg
          by_cases he : e = (n w).ep
          · subst he
            rw [hG'1] at hg
            injection hg with hg
            subst hg
            refine ⟨h.e0 w, fun v => upd_cases n w _ v (fun v x => (n w).ep % 2 = bi v → (n w).ep ≤ x.ep) (fun _ => Int.le_refl _) (fun hp => absurd hp (bi_ne h1)), hlc, hrise, htop, by have := h.len w; simp; omega⟩
          · rw [hG'2 e he] at hg
            obtain ⟨a, b, d', e', f, k⟩ := h.gs e g hg
            exact ⟨a, fun v => upd_cases n w _ v (fun v x => e % 2 = bi v → e ≤ x.ep) (b w) (b _), lc_ext d' hext, e', f, by omega⟩
        · refine av_mono ha (fun v => upd_cases n w _ v (fun v x => (n v).ep ≤ x.ep) (Int.le_refl _) (Int.le_refl _)) (fun hx hy X hX hc _ => ⟨?_, hcov _ _ hc⟩)
          exact upd_cases n w _ (!t) (fun v x => X <+: (n v).l → X <+: x.l) (fun hh => hh.trans hpre) (fun hh => hh) hX
theorem goes_dem (h : NI G S eS c n) (w : Bool) : Goes G S n c (upd n w (sDem (n w)).1) fun _ _ => True := by
  unfold sDem
  split
  · rw [upd_id]; exact goes_refl h trivial
  · refine ⟨G, S, eS, ⟨?_, ?_, ?_, ?_, ?_, ?_, ?_, ?_, ?_, ?_, ?_, ?_, ?_, h.cov⟩, List.prefix_refl _, ext_refl _, fun t a ha => ?_, trivial⟩
    · exact fun v => upd_cases n w _ v (fun v x => x.me = bi v) (h.me w) (h.me _)
    · exact fun v => upd_cases n w _ v (fun v x => 0 ≤ x.ep) (h.e0 w) (h.e0 _)
    · exact fun v => upd_cases n w _ v (fun v x => eS ≤ x.ep) (h.eSw w) (h.eSw _)
    · exact fun v => upd_cases n w _ v (fun v x => x.safe ≤ S.length) (h.safe w) (h.safe _)
    · exact fun v => upd_cases n w _ v (fun v x => S <+: x.l) (h.pre w) (h.pre _)
    · exact fun v => upd_cases n w _ v (fun v x => LC G x.l) (h.lc w) (h.lc _)
    · exact fun v => upd_cases n w _ v (fun v x => Rise x.l) (h.rise w) (h.rise _)
    · exact fun v => upd_cases n w _ v (fun v x => Top x.ep x.l) (h.top w) (h.top _)
    · exact fun v => upd_cases n w _ v (fun v x => x.l.length ≤ c) (h.len w) (h.len _)
    · exact fun v => upd_cases n w _ v (fun v x => x.ep % 2 = bi v → G x.ep = some x.l) (h.own w) (h.own _)
    · intro v
      have : (upd n w { n w with ld := false } v).ep = (n v).ep := upd_cases n w _ v (fun v x => x.ep = (n v).ep) rfl rfl
      have h2 : (upd n w { n w with ld := false } (!v)).ep = (n (!v)).ep := upd_cases n w _ (!v) (fun v x => x.ep = (n v).ep) rfl rfl
      rw [this, h2]; exact h.oth v
    · exact fun v => upd_cases n w _ v (fun v x => x.ld = true → x.ep % 2 = bi v ∧ x.mark ≤ x.l.length) (fun hd => by cases hd) (h.ld _)
    · intro e g hg
      obtain ⟨a, b, d', e', f, k⟩ := h.gs e g hg
      exact ⟨a, fun v => upd_cases n w _ v (fun v x => e % 2 = bi v → e ≤ x.ep) (b w) (b _), d', e', f, k⟩
    · refine av_mono ha (fun v => upd_cases n w _ v (fun v x => (n v).ep ≤ x.ep) (Int.le_refl _) (Int.le_refl _)) (fun hx hy X hX hc _ => ⟨?_, hc⟩)
      exact upd_cases n w _ (!t) (fun v x => X <+: (n v).l → X <+: x.l) (fun hh => hh) (fun hh => hh) hX
theorem next_par {x : SN} {w : Bool} (hm : x.me = bi w) (h0 : 0 ≤ x.ep) : sNext x % 2 = bi w ∧ x.ep < sNext x ∧ sNext x ≤ x.ep + 2 := by
  unfold sNext
  rw [hm]
  cases w <;> simp [bi] <;> omega
theorem goes_prom (h : NI G S eS c n) (w : Bool) : Goes G S n c (upd n w (sProm (n w)).1) fun _ _ => True := by
  unfold sProm
  split
  · rw [upd_id]; exact goes_refl h trivial
  · split
    · rw [upd_id]; exact goes_refl h trivial
    · obtain ⟨hp1, hp2, _⟩ := next_par (h.me w) (h.e0 w)
      have hnone : G (sNext (n w)) = none := by
        cases hg : G (sNext (n w)) with
        | none => rfl
        | some g => have := (h.gs _ _ hg).2.1 w hp1; omega
      generalize hE : sNext (n w) = E at *
      let G' : GH := fun e => if e = E then some (n w).l else G e
      have hG'1 : G' E = some (n w).l := if_pos rfl
      have hG'2 : ∀ e, e ≠ E → G' e = G e := fun e he => if_neg he
      have hext : Ext G G' := fun e g hg => by
        by_cases he : e = E
        · subst he; rw [hnone] at hg; cases hg
        · exact ⟨g, by rw [hG'2 e he]; exact hg, List.prefix_refl _⟩
      have hcov : ∀ e X, X <+: (n w).l → Cov G e X → Cov G' e X := fun e X hX hc e2 g he hg => by
        by_cases h3 : e2 = E
        · subst h3
          rw [hG'1] at hg
          injection hg with hg
          rw [← hg]; exact hX
        · rw [hG'2 e2 h3] at hg
          exact hc e2 g he hg
      have htop : Top E (n w).l := fun x hx => by have := h.top w x hx; exact ⟨by omega, this.2⟩
      refine ⟨G', S, eS, ⟨?_, ?_, ?_, ?_, ?_, ?_, ?_, ?_, ?_, ?_, ?_, ?_, ?_, hcov _ _ (h.pre w) h.cov⟩, List.prefix_refl _, hext, fun t a ha => ?_, trivial⟩
      · exact fun v => upd_cases n w _ v (fun v x => x.me = bi v) (h.me w) (h.me _)
      · exact fun v => upd_cases n w _ v (fun v x => 0 ≤ x.ep) (by have := h.e0 w; simp; omega) (h.e0 _)
      · exact fun v => upd_cases n w _ v (fun v x => eS ≤ x.ep) (by have := h.eSw w; simp; omega) (h.eSw _)
      · exact fun v => upd_cases n w _ v (fun v x => x.safe ≤ S.length) (h.safe w) (h.safe _)
      · exact fun v => upd_cases n w _ v (fun v x => S <+: x.l) (h.pre w) (h.pre _)
      · exact fun v => upd_cases n w _ v (fun v x => LC G' x.l) (lc_ext (h.lc w) hext) (lc_ext (h.lc _) hext)
      · exact fun v => upd_cases n w _ v (fun v x => Rise x.l) (h.rise w) (h.rise _)
      · exact fun v => upd_cases n w _ v (fun v x => Top x.ep x.l) htop (h.top _)
      · exact fun v => upd_cases n w _ v (fun v x => x.l.length ≤ c) (h.len w) (h.len _)
      · refine fun v => upd_cases n w _ v (fun v x => x.ep % 2 = bi v → G' x.ep = some x.l) (fun _ => hG'1) (fun hp => ?_)
        rw [hG'2 _ (fun e => by rw [e] at hp; exact bi_ne hp1 hp)]
        exact h.own _ hp
      · intro v
        by_cases hv : v = w
        · subst hv; rw [upd_same]; exact fun hp => absurd hp (bi_ne hp1)
        · have : v = !w := by cases v <;> cases w <;> simp_all
          subst this
          rw [Bool.not_not, upd_same, upd_other]
          have := h.oth (!w)
          rw [Bool.not_not] at this
          intro hp
          have := this hp
          simp; omega
      · exact fun v => upd_cases n w _ v (fun v x => x.ld = true → x.ep % 2 = bi v ∧ x.mark ≤ x.l.length) (fun hd => ⟨hp1, Nat.le_refl _⟩) (h.ld _)
      · intro e g hg
        by_cases he : e = E
        · subst he
          rw [hG'1] at hg
          injection hg with hg
          subst hg
          have he0 := h.e0 w
          exact ⟨by omega, fun v => upd_cases n w _ v (fun v x => e % 2 = bi v → e ≤ x.ep) (fun _ => Int.le_refl _) (fun hp => absurd hp (bi_ne hp1)), lc_ext (h.lc w) hext, h.rise w, htop, h.len w⟩
        · rw [hG'2 e he] at hg
          obtain ⟨a, b, d', e', f, k⟩ := h.gs e g hg
          exact ⟨a, fun v => upd_cases n w _ v (fun v x => e % 2 = bi v → e ≤ x.ep) (fun hp => by have := b w hp; simp; omega) (b _), lc_ext d' hext, e', f, k⟩
      · refine av_mono ha (fun v => upd_cases n w _ v (fun v x => (n v).ep ≤ x.ep) (by simp; omega) (Int.le_refl _)) (fun hx hy X hX hc hq => ?_)
        by_cases ht : t = w
        · subst ht
          rw [upd_same] at hx
          simp at hx
          omega
        · have : t = !w := by cases t <;> cases w <;> simp_all
          subst this
          rw [Bool.not_not] at hX ⊢
          rw [upd_same]
          exact ⟨hX, hcov _ _ hX hc⟩
/-- A place goes on to an epoch that is not its own. -/
theorem goes_yield (h : NI G S eS c n) (f : Bool) (e : Int) (l' : List SE) (sf : Nat) (he : (n f).ep ≤ e) (hp : e % 2 = bi (!f)) (hle : e ≤ (n (!f)).ep) (hpre : S <+: l') (hlc : LC G l') (hr : Rise l') (ht : Top e l') (hc : l'.length ≤ c) (hsf : sf ≤ S.length)
    (hX : ∀ X : List SE, X <+: (n f).l → (n (!f)).ep ≤ (n f).ep → (∀ g, G e = some g → X <+: g) → X <+: l') :
    Goes G S n c (upd n f { n f with ep := e, ld := false, l := l', safe := sf }) fun G' S' => G' = G ∧ S' = S := by
  refine ⟨G, S, eS, ⟨?_, ?_, ?_, ?_, ?_, ?_, ?_, ?_, ?_, ?_, ?_, ?_, ?_, h.cov⟩, List.prefix_refl _, ext_refl _, fun t a ha => ?_, rfl, rfl⟩
  · exact fun v => upd_cases n f _ v (fun v x => x.me = bi v) (h.me f) (h.me _)
  · exact fun v => upd_cases n f _ v (fun v x => 0 ≤ x.ep) (by have := h.e0 f; simp; omega) (h.e0 _)
  · exact fun v => upd_cases n f _ v (fun v x => eS ≤ x.ep) (by have := h.eSw f; simp; omega) (h.eSw _)
  · exact fun v => upd_cases n f _ v (fun v x => x.safe ≤ S.length) hsf (h.safe _)
  · exact fun v => upd_cases n f _ v (fun v x => S <+: x.l) hpre (h.pre _)
  · exact fun v => upd_cases n f _ v (fun v x => LC G x.l) hlc (h.lc _)
  · exact fun v => upd_cases n f _ v (fun v x => Rise x.l) hr (h.rise _)
  · exact fun v => upd_cases n f _ v (fun v x => Top x.ep x.l) ht (h.top _)
  · exact fun v => upd_cases n f _ v (fun v x => x.l.length ≤ c) hc (h.len _)
  · exact fun v => upd_cases n f _ v (fun v x => x.ep % 2 = bi v → G x.ep = some x.l) (fun hq => absurd hp (bi_ne hq)) (h.own _)
  · intro v
    by_cases hv : v = f
    · subst hv; rw [upd_same, upd_other]; exact fun _ => hle
    · have : v = !f := by cases v <;> cases f <;> simp_all
      subst this
      rw [Bool.not_not, upd_same, upd_other]
      have := h.oth (!f)
      rw [Bool.not_not] at this
      intro hq
      have := this hq
      simp; omega
  · exact fun v => upd_cases n f _ v (fun v x => x.ld = true → x.ep % 2 = bi v ∧ x.mark ≤ x.l.length) (fun hd => by cases hd) (h.ld _)
  · intro e' g hg
    obtain ⟨a, b, d', e2, k1, k⟩ := h.gs e' g hg
    exact ⟨a, fun v => upd_cases n f _ v (fun v x => e' % 2 = bi v → e' ≤ x.ep) (fun hq => by have := b f hq; simp; omega) (b _), d', e2, k1, k⟩
  · refine av_mono ha (fun v => upd_cases n f _ v (fun v x => (n v).ep ≤ x.ep) he (Int.le_refl _)) (fun hx hy X hXl hcv hq => ⟨?_, hcv⟩)
    by_cases htf : t = f
    · subst htf; rw [upd_other]; exact hXl
    · have : t = !f := by cases t <;> cases f <;> simp_all
      subst this
      rw [Bool.not_not] at hXl hq ⊢
      rw [upd_same]
      exact hX X hXl (by omega) (fun g hg => hcv _ _ (by omega) hg)
theorem merge_goes (h : NI G S eS c n) {f : Bool} {e : Int} {g : List SE} {at_ len : Nat} (hg : G e = some g) (he : (n f).ep ≤ e) (h1 : at_ ≤ (n f).l.length) (h2 : at_ + len ≤ g.length) (hb : epAt (n f).l at_ = epAt g at_) :
    S <+: sMerge (n f).l at_ ((g.drop at_).take len) ∧ LC G (sMerge (n f).l at_ ((g.drop at_).take len)) ∧ Rise (sMerge (n f).l at_ ((g.drop at_).take len)) ∧ Top e (sMerge (n f).l at_ ((g.drop at_).take len)) ∧ (sMerge (n f).l at_ ((g.drop at_).take len)).length ≤ c ∧ g.take (at_ + len) <+: sMerge (n f).l at_ ((g.drop at_).take len) ∧
      ∀ X : List SE, X <+: (n f).l → X <+: g → X <+: sMerge (n f).l at_ ((g.drop at_).take len) := by
  obtain ⟨g0, g1, g2, g3, g4, g5⟩ := h.gs e g hg
  have hSg : S <+: g := h.cov e g (by have := h.eSw f; omega) hg
  rcases merge_law (h.lc f) g2 h1 h2 hb with ⟨hm, hp⟩ | ⟨hm, hX⟩
  · rw [hm]
    exact ⟨h.pre f, h.lc f, h.rise f, fun x hx => by have := h.top f x hx; exact ⟨by omega, this.2⟩, h.len f, hp, fun X hX _ => hX⟩
  · rw [hm]
    refine ⟨prefix_len_take hSg (hX S (h.pre f) hSg), lc_take g2 _, g3.sublist (List.take_sublist _ _), fun x hx => g4 x ((List.take_sublist _ _).subset hx), by rw [List.length_take]; omega, List.prefix_refl _, fun X h1 h2 => prefix_len_take h2 (hX X h1 h2)⟩
theorem goes_take (h : NI G S eS c n) (f : Bool) (p : SP) (hp : PV G S f p) : Goes G S n c (upd n f (sTake (n f) p).1) fun G' S' => (sTake (n f) p).2.2 = 0 → AV G' (upd n f (sTake (n f) p).1) (!f) (sTake (n f) p).2.1 := by
  obtain ⟨g, at_, len, hg, hpar, hat, hal, hl, hbf, hs0, hs1⟩ := hp
  unfold sTake
  split
  · rw [upd_id]; exact goes_refl h (fun h => by cases h)
  · split
    · rw [upd_id]
      refine goes_refl h (fun _ => ⟨fun w hw => ?_, fun h => by cases h⟩)
      by_cases hwf : w = f
      · subst hwf; exact Int.le_refl _
      · have : w = !f := by cases w <;> cases f <;> simp_all
        subst this
        exact h.oth f hw
    · rename_i hc
      have he : (n f).ep ≤ p.ep := by
        rcases Int.lt_or_le p.ep (n f).ep with h1 | h1
        · exact absurd (.inl h1) hc
        · exact h1
      have hle := (h.gs _ _ hg).2.1 (!f) hpar
      have ht : Top p.ep (n f).l := fun x hx => by have := h.top f x hx; exact ⟨by omega, this.2⟩
      have hno : ∀ (z : Int), Goes G S n c (upd n f { n f with ep := p.ep, ld := false }) fun G' S' => (0 : Int) = 0 → AV G' (upd n f { n f with ep := p.ep, ld := false }) (!f) (p.ep, false, z) := fun z => by
        obtain ⟨G', S', e', k1, k2, k3, k4, rfl, rfl⟩ := goes_yield h f p.ep (n f).l (n f).safe he hpar hle (h.pre f) (h.lc f) (h.rise f) ht (h.len f) (h.safe f) (fun X hX _ _ => hX)
        refine ⟨G', S', e', k1, k2, k3, k4, fun _ => ⟨fun w hw => ?_, fun h => by cases h⟩⟩
        exact upd_cases n f _ w (fun v x => (p.ep : Int) % 2 = bi v → p.ep ≤ x.ep) (fun _ => Int.le_refl _) (fun _ => hle) hw
      split
      · exact hno _
      · split
        · exact hno _
        · rename_i hlen hbef
          rw [hat] at hlen hbef ⊢
          rw [Int.toNat_natCast] at hbef ⊢
          have hpl : p.l.length = len := by rw [hl, List.length_take, List.length_drop]; omega
          obtain ⟨m1, m2, m3, m4, m5, m6, m7⟩ := merge_goes (f := f) h hg he (by omega) hal (by rw [← hbf]; exact Decidable.not_not.1 hbef)
          rw [← hl] at m1 m2 m3 m4 m5 m6 m7
          obtain ⟨G', S', e', k1, k2, k3, k4, rfl, rfl⟩ := goes_yield h f p.ep (sMerge (n f).l at_ p.l) (max (n f).safe (min p.safe ((at_ : Int) + p.l.length)).toNat) he hpar hle m1 m2 m3 m4 m5 (by have := h.safe f; omega) (fun X hX _ hh => m7 X hX (hh g hg))
          refine ⟨G', S', e', k1, k2, k3, k4, fun _ => ⟨fun w hw => ?_, fun _ => ⟨?_, hpar, fun hx => ⟨g.take (at_ + len), ?_, ?_, ?_, ?_⟩⟩⟩⟩
          · exact upd_cases n f _ w (fun v x => (p.ep : Int) % 2 = bi v → p.ep ≤ x.ep) (fun _ => Int.le_refl _) (fun _ => hle) hw
          · simp only [hpl]; omega
          · rw [List.length_take, hpl]; simp; omega
          · rw [Bool.not_not, upd_same]; exact m6
          · rw [Bool.not_not, upd_same]; exact Int.le_refl _
          · rw [upd_other] at hx
            intro e2 g2 h2 hg2
            obtain ⟨_, q, _⟩ := h.gs _ _ hg2
            simp only at h2 hx
            rcases bi_or f e2 with hb | hb
            · have h3 := q f hb
              have h4 : e2 = p.ep := by omega
              rw [h4] at hb
              exact absurd hpar (bi_ne hb)
            · have h3 := q _ hb
              have h4 : e2 = p.ep := by omega
              rw [h4, hg] at hg2
              injection hg2 with hg2
              rw [← hg2]
              exact List.take_prefix _ _
end
end Go.Proofs.Ytofpkmfjigjlhaa.Own
