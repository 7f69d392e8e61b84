/- Two places that play: what is safe stays, what is the same stays so. No conditions beside those in each theorem. -/
import Derived.Test.YtofpkmfjigjlhaaShI
namespace Go.Proofs.Ytofpkmfjigjlhaa.Own
set_option linter.unusedVariables false
set_option linter.unusedSimpArgs false
section
variable {G : GH} {S : List SE} {eS : Int} {c : Nat} {n : Bool → SN}
theorem goes_taken (h : NI G S eS c n) (t : Bool) (a : SA) (ha : AV G n t a) : Goes G S n c (upd n t (sTaken (n t) a).1) fun _ _ => True := by
  have hid : Goes G S n c (upd n t (n t)) fun _ _ => True := by rw [upd_id]; exact goes_refl h trivial
  unfold sTaken
  split
  · exact hid
  · split
    · rename_i h1
      -- a greater epoch: it yields
      have hpar : a.1 % 2 = bi (!t) := by
        rcases bi_or t a.1 with hb | hb
        · have := ha.1 t hb; omega
        · exact hb
      have ht : Top a.1 (n t).l := fun x hx => by have := h.top t x hx; exact ⟨by omega, this.2⟩
      obtain ⟨G', S', e', k1, k2, k3, k4, rfl, rfl⟩ := goes_yield h t a.1 (n t).l (n t).safe (by omega) hpar (ha.1 _ hpar) (h.pre t) (h.lc t) (h.rise t) ht (h.len t) (h.safe t) (fun X hX _ _ => hX)
      exact ⟨G', S', e', k1, k2, k3, k4, trivial⟩
    · split
      · exact hid
      · split
        · exact hid
        · rename_i h0 h1 h2 h3
          have hld : (n t).ld = true := by
            cases hl : (n t).ld with
            | true => rfl
            | false => exact absurd (.inl hl) h2
          have hep : a.1 = (n t).ep := by
            rcases Int.lt_or_le a.1 (n t).ep with h4 | h4
            · exact absurd (.inr h4) h2
            · omega
          have hin : 0 ≤ a.2.2 := by
            have : inN a.2.2 = true := by
              cases hb : inN a.2.2 with
              | true => rfl
              | false => exact absurd (.inr hb) h0
            unfold inN at this
            simp at this
            omega
          obtain ⟨hp1, hp2⟩ := h.ld t hld
          -- the same node with another mark and safe
          have hset : ∀ (S' : List SE) (e' : Int) (mk sf : Nat), mk ≤ (n t).l.length → sf ≤ S'.length → S <+: S' → (∀ w, e' ≤ (n w).ep) → (∀ w, S' <+: (n w).l) → Cov G e' S' → Goes G S n c (upd n t { n t with mark := mk, safe := sf }) fun _ _ => True := by
            intro S' e' mk sf hmk hsf hSS he' hpre hcov
            refine ⟨G, S', e', ⟨?_, ?_, ?_, ?_, ?_, ?_, ?_, ?_, ?_, ?_, ?_, ?_, ?_, hcov⟩, hSS, ext_refl _, fun u b hb => ?_, trivial⟩
            · exact fun v => upd_cases n t _ v (fun v x => x.me = bi v) (h.me t) (h.me _)
            · exact fun v => upd_cases n t _ v (fun v x => 0 ≤ x.ep) (h.e0 t) (h.e0 _)
            · exact fun v => upd_cases n t _ v (fun v x => e' ≤ x.ep) (he' t) (he' _)
            · exact fun v => upd_cases n t _ v (fun v x => x.safe ≤ S'.length) hsf (Nat.le_trans (h.safe _) hSS.length_le)
            · exact fun v => upd_cases n t _ v (fun v x => S' <+: x.l) (hpre t) (hpre _)
            · exact fun v => upd_cases n t _ v (fun v x => LC G x.l) (h.lc t) (h.lc _)
            · exact fun v => upd_cases n t _ v (fun v x => Rise x.l) (h.rise t) (h.rise _)
            · exact fun v => upd_cases n t _ v (fun v x => Top x.ep x.l) (h.top t) (h.top _)
            · exact fun v => upd_cases n t _ v (fun v x => x.l.length ≤ c) (h.len t) (h.len _)
            · exact fun v => upd_cases n t _ v (fun v x => x.ep % 2 = bi v → G x.ep = some x.l) (h.own t) (h.own _)
            · intro v
              have e1 : (upd n t { n t with mark := mk, safe := sf } v).ep = (n v).ep := upd_cases n t _ v (fun v x => x.ep = (n v).ep) rfl rfl
              have e2 : (upd n t { n t with mark := mk, safe := sf } (!v)).ep = (n (!v)).ep := upd_cases n t _ (!v) (fun v x => x.ep = (n v).ep) rfl rfl
              rw [e1, e2]; exact h.oth v
            · exact fun v => upd_cases n t _ v (fun v x => x.ld = true → x.ep % 2 = bi v ∧ x.mark ≤ x.l.length) (fun _ => ⟨hp1, hmk⟩) (h.ld _)
            · intro e g hg
              obtain ⟨a1, b, d', e2, f, k⟩ := h.gs e g hg
              exact ⟨a1, fun v => upd_cases n t _ v (fun v x => e % 2 = bi v → e ≤ x.ep) (b t) (b _), d', e2, f, k⟩
            · refine av_mono hb (fun v => upd_cases n t _ v (fun v x => (n v).ep ≤ x.ep) (Int.le_refl _) (Int.le_refl _)) (fun hx hy X hX hc _ => ⟨?_, hc⟩)
              exact upd_cases n t _ (!u) (fun v x => X <+: (n v).l → X <+: x.l) (fun hh => hh) (fun hh => hh) hX
          split
          · rename_i hy
            obtain ⟨_, hq, hx⟩ := ha.2 hy
            obtain ⟨X, hXl, hXp, hXe, hXc⟩ := hx hep.symm
            have hGt := h.own t hp1
            have hXt : X <+: (n t).l := hXc _ _ (by omega) hGt
            have hXn : X.length = a.2.2.toNat := by omega
            by_cases hlen : S.length < X.length
            · refine hset X a.1 a.2.2.toNat _ (by rw [← hXn]; exact hXt.length_le) (by have := h.safe t; omega) ?_ ?_ ?_ hXc
              · exact List.prefix_of_prefix_length_le (h.pre t) hXt (by omega)
              · intro w
                by_cases hw : w = t
                · subst hw; omega
                · have : w = !t := by cases w <;> cases t <;> simp_all
                  subst this; exact hXe
              · intro w
                by_cases hw : w = t
                · subst hw; exact hXt
                · have : w = !t := by cases w <;> cases t <;> simp_all
                  subst this; exact hXp
            · exact hset S eS a.2.2.toNat _ (by rw [← hXn]; exact hXt.length_le) (by have := h.safe t; omega) (List.prefix_refl _) h.eSw h.pre h.cov
          · exact hset S eS _ (n t).safe (by omega) (h.safe t) (List.prefix_refl _) h.eSw h.pre h.cov
end
/-! Two places, and what is under way between them. -/
structure SL where
  to : Bool
  part : Bool
  p : SP
  a : SA
structure PY where
  n : Bool → SN
  way : List SL
  k : Int
def scount (k n : Int) : Int := k % n
def pyApp (p : PY) (w : Bool) : PY := { p with k := p.k + 1, n := upd p.n w (sApp (p.n w) [(p.k + 1) % 256, (p.k + 1) / 256 % 256, bi w]).1 }
def pyShip (p : PY) (w : Bool) (most : Int) : PY := if (sShip (p.n w) most).2 = 0 ∧ p.way.length < 60 then { p with way := p.way ++ [⟨!w, true, (sShip (p.n w) most).1, (0, false, 0)⟩] } else p
def pyCome (p : PY) (x : SL) : PY :=
  if x.part = false then { p with n := upd p.n x.to (sTaken (p.n x.to) x.a).1 }
  else { p with n := upd p.n x.to (sTake (p.n x.to) x.p).1, way := if (sTake (p.n x.to) x.p).2.2 = 0 ∧ p.way.length < 60 then p.way ++ [⟨!x.to, false, ⟨0, 0, 0, [], 0⟩, (sTake (p.n x.to) x.p).2.1⟩] else p.way }
def pyLose (p : PY) (i : Nat) : PY := { p with way := p.way.take i ++ p.way.drop (i + 1) }
def pyStep (p : PY) (kind : Int) (w : Bool) (num : Int) : PY :=
  if kind = 0 ∨ kind = 1 ∨ kind = 2 then pyApp p w
  else if kind = 3 ∨ kind = 4 then pyShip p w (scount num 5)
  else if kind = 5 ∨ kind = 6 ∨ kind = 7 ∨ kind = 9 then
    match p.way[(scount num p.way.length).toNat]? with
    | none => p
    | some x => if kind = 9 then pyCome p x else pyLose (pyCome p x) (scount num p.way.length).toNat
  else if kind = 8 then if p.way = [] then p else pyLose p (scount num p.way.length).toNat
  else if kind = 10 then { p with n := upd p.n w (sProm (p.n w)).1 }
  else if kind = 11 then { p with n := upd p.n w (sDem (p.n w)).1 }
  else p
def pyNew : PY := ⟨fun w => sNew (bi w), [], 0⟩
def LV (G : GH) (S : List SE) (n : Bool → SN) (x : SL) : Prop := (x.part = true → PV G S x.to x.p) ∧ (x.part = false → AV G n x.to x.a)
structure PI (S : List SE) (c : Nat) (m : Int) (p : PY) : Prop where
  inv : ∃ G eS, NI G S eS c p.n ∧ ∀ x ∈ p.way, LV G S p.n x
  epb : ∀ w, (p.n w).ep ≤ m
theorem goes_lv {G : GH} {S : List SE} {n : Bool → SN} {c' : Nat} {n' : Bool → SN} {R : GH → List SE → Prop} (h : Goes G S n c' n' R) : ∃ G' S' eS', NI G' S' eS' c' n' ∧ S <+: S' ∧ (∀ x, LV G S n x → LV G' S' n' x) ∧ R G' S' := by
  obtain ⟨G', S', e', h1, h2, h3, h4, h5⟩ := h
  exact ⟨G', S', e', h1, h2, fun x hx => ⟨fun hp => pv_mono (hx.1 hp) h3 h2.length_le, fun hp => h4 _ _ (hx.2 hp)⟩, h5⟩
theorem pi_new : PI [] 0 0 pyNew := by
  refine ⟨⟨fun e => if e = 0 then some [] else none, 0, ⟨?_, ?_, ?_, ?_, ?_, ?_, ?_, ?_, ?_, ?_, ?_, ?_, ?_, ?_⟩, fun x hx => by simp [pyNew] at hx⟩, fun w => by simp [pyNew, sNew]⟩
  · exact fun w => rfl
  · exact fun w => Int.le_refl _
  · exact fun w => Int.le_refl _
  · exact fun w => Nat.le_refl _
  · exact fun w => List.prefix_refl _
  · exact fun w i x hx => by simp [pyNew, sNew] at hx
  · exact fun w => List.Pairwise.nil
  · exact fun w x hx => by simp [pyNew, sNew] at hx
  · exact fun w => Nat.le_refl _
  · exact fun w _ => rfl
  · exact fun w _ => Int.le_refl _
  · intro w hl
    refine ⟨?_, Nat.le_refl _⟩
    have : decide (bi w = 0) = true := hl
    rw [decide_eq_true_eq] at this
    show (0 : Int) % 2 = bi w
    omega
  · intro e g hg
    by_cases he : e = 0
    · subst he
      simp at hg
      subst hg
      exact ⟨Int.le_refl _, fun w _ => Int.le_refl _, fun i x hx => by simp at hx, List.Pairwise.nil, fun x hx => by simp at hx, Nat.le_refl _⟩
    · simp [he] at hg
  · exact fun e2 g _ _ => List.nil_prefix
theorem upd_epb {n : Bool → SN} {w : Bool} {x : SN} {m m' : Int} (h : ∀ v, (n v).ep ≤ m) (hm : m ≤ m') (hx : x.ep ≤ m') : ∀ v, (upd n w x v).ep ≤ m' := fun v => upd_cases n w x v (fun v x => x.ep ≤ m') hx (by have := h (!w); omega)
theorem sApp_ep (n : SN) (d : List Int) : (sApp n d).1.ep = n.ep := by unfold sApp; (repeat' split) <;> rfl
theorem sDem_ep (n : SN) : (sDem n).1.ep = n.ep := by unfold sDem; split <;> rfl
theorem sTake_ep (n : SN) (p : SP) : (sTake n p).1.ep = n.ep ∨ (sTake n p).1.ep = p.ep := by unfold sTake; (repeat' split) <;> simp
theorem sTaken_ep (n : SN) (a : SA) : (sTaken n a).1.ep = n.ep ∨ (sTaken n a).1.ep = a.1 := by unfold sTaken; (repeat' split) <;> simp
theorem sProm_ep (n : SN) {w : Bool} (hm : n.me = bi w) (h0 : 0 ≤ n.ep) : (sProm n).1.ep ≤ n.ep + 2 := by
  have := next_par hm h0
  unfold sProm; (repeat' split) <;> simp <;> omega
theorem pi_come {S : List SE} {c : Nat} {m : Int} {p : PY} (h : PI S c m p) (x : SL) (hx : x ∈ p.way) : ∃ S', PI S' c m (pyCome p x) ∧ S <+: S' := by
  obtain ⟨⟨G, eS, hn, hw⟩, hb⟩ := h
  have hxv := hw x hx
  unfold pyCome
  split
  · rename_i hp
    have ha := hxv.2 hp
    obtain ⟨G', S', e', k1, k2, k3, _⟩ := goes_lv (goes_taken hn x.to x.a ha)
    refine ⟨S', ⟨⟨G', e', k1, fun y hy => k3 y (hw y hy)⟩, upd_epb hb (Int.le_refl _) ?_⟩, k2⟩
    rcases sTaken_ep (p.n x.to) x.a with he | he
    · rw [he]; exact hb _
    · rw [he]
      rcases bi_or true x.a.1 with hq | hq
      · exact Int.le_trans (ha.1 _ hq) (hb _)
      · exact Int.le_trans (ha.1 _ hq) (hb _)
  · rename_i hp
    have hp' : x.part = true := by simpa using hp
    have hv := hxv.1 hp'
    obtain ⟨G', S', e', k1, k2, k3, k4⟩ := goes_lv (goes_take hn x.to x.p hv)
    refine ⟨S', ⟨⟨G', e', k1, fun y hy => ?_⟩, upd_epb hb (Int.le_refl _) ?_⟩, k2⟩
    · simp only at hy
      split at hy
      · rename_i hq
        rcases List.mem_append.1 hy with hy | hy
        · exact k3 y (hw y hy)
        · rw [List.mem_singleton.1 hy]
          exact ⟨fun h => (by cases h), fun _ => k4 hq.1⟩
      · exact k3 y (hw y hy)
    · rcases sTake_ep (p.n x.to) x.p with he | he
      · rw [he]; exact hb _
      · rw [he]
        obtain ⟨g, _, _, hg, hpar, _⟩ := hv
        exact Int.le_trans ((hn.gs _ _ hg).2.1 _ hpar) (hb _)
theorem pi_lose {S : List SE} {c : Nat} {m : Int} {p : PY} (h : PI S c m p) (i : Nat) : PI S c m (pyLose p i) := by
  obtain ⟨⟨G, eS, hn, hw⟩, hb⟩ := h
  refine ⟨⟨G, eS, hn, fun x hx => hw x ?_⟩, hb⟩
  unfold pyLose at hx
  rcases List.mem_append.1 hx with hx | hx
  · exact (List.take_sublist _ _).subset hx
  · exact (List.drop_sublist _ _).subset hx
theorem pi_up {S : List SE} {c c' : Nat} {m m' : Int} {p : PY} (h : PI S c m p) (hc : c ≤ c') (hm : m ≤ m') : PI S c' m' p := by
  obtain ⟨⟨G, eS, hn, hw⟩, hb⟩ := h
  exact ⟨⟨G, eS, ni_count hn hc, hw⟩, fun w => by have := hb w; omega⟩
theorem pi_node {S : List SE} {c : Nat} {m : Int} {p : PY} (h : PI S c m p) {w : Bool} {x : SN} (k : Int) {c' : Nat} (hg : ∀ G eS, NI G S eS c p.n → Goes G S p.n c' (upd p.n w x) fun _ _ => True) (hx : x.ep ≤ (p.n w).ep + 2) : ∃ S', PI S' c' (m + 2) { p with n := upd p.n w x, k := k } ∧ S <+: S' := by
  obtain ⟨⟨G, eS, hn, hw⟩, hb⟩ := h
  obtain ⟨G', S', e', k1, k2, k3, _⟩ := goes_lv (hg G eS hn)
  exact ⟨S', ⟨⟨G', e', k1, fun y hy => k3 y (hw y hy)⟩, upd_epb hb (by omega) (by have := hb w; omega)⟩, k2⟩
theorem goes_count {G : GH} {S : List SE} {n n' : Bool → SN} {c c' : Nat} {R : GH → List SE → Prop} (h : Goes G S n c n' R) (hc : c ≤ c') : Goes G S n c' n' R := by
  obtain ⟨G', S', e', k1, k2⟩ := h
  exact ⟨G', S', e', ni_count k1 hc, k2⟩
theorem pi_prom {S : List SE} {c : Nat} {m : Int} {p : PY} (h : PI S c m p) (w : Bool) : ∃ S', PI S' c (m + 2) { p with n := upd p.n w (sProm (p.n w)).1 } ∧ S <+: S' := by
  obtain ⟨G, eS, hn, _⟩ := h.inv
  exact pi_node h p.k (fun G eS hn => goes_prom hn w) (sProm_ep _ (hn.me w) (hn.e0 w))
theorem pi_dem {S : List SE} {c : Nat} {m : Int} {p : PY} (h : PI S c m p) (w : Bool) : ∃ S', PI S' c (m + 2) { p with n := upd p.n w (sDem (p.n w)).1 } ∧ S <+: S' :=
  pi_node h p.k (fun G eS hn => goes_dem hn w) (by rw [sDem_ep]; omega)
theorem pi_step {S : List SE} {c : Nat} {m : Int} {p : PY} (h : PI S c m p) (kind : Int) (w : Bool) (num : Int) : ∃ S', PI S' (c + 1) (m + 2) (pyStep p kind w num) ∧ S <+: S' := by
  have hid : ∃ S', PI S' (c + 1) (m + 2) p ∧ S <+: S' := ⟨S, pi_up h (Nat.le_succ _) (by omega), List.prefix_refl _⟩
  unfold pyStep
  split
  · exact pi_node h (p.k + 1) (fun G eS hn => goes_app hn w _ (.inr trivial)) (by rw [sApp_ep]; omega)
  · split
    · unfold pyShip
      split
      · rename_i hq
        obtain ⟨⟨G, eS, hn, hw⟩, hb⟩ := h
        refine ⟨S, pi_up ⟨⟨G, eS, hn, fun y hy => ?_⟩, hb⟩ (Nat.le_succ _) (by omega), List.prefix_refl _⟩
        simp only at hy
        rcases List.mem_append.1 hy with hy | hy
        · exact hw y hy
        · rw [List.mem_singleton.1 hy]
          exact ⟨fun _ => goes_ship hn w _ hq.1, fun h => (by cases h)⟩
      · exact hid
    · split
      · cases hx : p.way[(scount num p.way.length).toNat]? with
        | none => exact hid
        | some x =>
          simp only
          obtain ⟨S', h1, h2⟩ := pi_come h x (List.mem_of_getElem? hx)
          split
          · exact ⟨S', pi_up h1 (Nat.le_succ _) (by omega), h2⟩
          · exact ⟨S', pi_up (pi_lose h1 _) (Nat.le_succ _) (by omega), h2⟩
      · split
        · split
          · exact hid
          · exact ⟨S, pi_up (pi_lose h _) (Nat.le_succ _) (by omega), List.prefix_refl _⟩
        · split
          · obtain ⟨S', h1, h2⟩ := pi_prom h w
            exact ⟨S', pi_up h1 (Nat.le_succ _) (by omega), h2⟩
          · split
            · obtain ⟨S', h1, h2⟩ := pi_dem h w
              exact ⟨S', pi_up h1 (Nat.le_succ _) (by omega), h2⟩
            · exact hid
/-- What is safe at a place stands at both. -/
theorem pi_safe {S : List SE} {c : Nat} {m : Int} {p : PY} (h : PI S c m p) (w : Bool) : (p.n w).safe ≤ S.length ∧ S <+: (p.n w).l ∧ S <+: (p.n (!w)).l := by
  obtain ⟨G, eS, hn, _⟩ := h.inv
  exact ⟨hn.safe w, hn.pre w, hn.pre _⟩
/-- Epochs rise, and the same epoch at the same place is the same beginning. -/
theorem pi_same {S : List SE} {c : Nat} {m : Int} {p : PY} (h : PI S c m p) : (∀ w, Rise (p.n w).l) ∧ (∀ i x y, (p.n false).l[i]? = some x → (p.n true).l[i]? = some y → x.1 = y.1 → (p.n false).l.take (i + 1) = (p.n true).l.take (i + 1)) ∧ ¬ ((p.n false).ld = true ∧ (p.n true).ld = true ∧ (p.n false).ep = (p.n true).ep) := by
  obtain ⟨G, eS, hn, _⟩ := h.inv
  refine ⟨hn.rise, fun i x y hx hy he => lc_same (hn.lc _) (hn.lc _) hx hy he, fun ⟨h1, h2, h3⟩ => ?_⟩
  have a := (hn.ld _ h1).1
  have b := (hn.ld _ h2).1
  rw [h3, b] at a
  cases a
end Go.Proofs.Ytofpkmfjigjlhaa.Own
