/- What the calls of dayshift/ship come to, plainly. No conditions beside those in each theorem. -/
import Derived.Below
namespace Go.Proofs.Ytofpkmfjigjlhaa.Own
set_option linter.unusedVariables false
set_option linter.unusedSimpArgs false
abbrev SE := Int × List Int
structure SN where
  me : Int
  ld : Bool
  ep : Int
  l : List SE
  safe : Nat
  mark : Nat
structure SP where
  ep : Int
  at_ : Int
  bf : Int
  l : List SE
  safe : Int
abbrev SA := Int × Bool × Int
/-- The epoch of the entry at a place, from 1 on. -/
def epAt (l : List SE) : Nat → Int
  | 0 => 0
  | i + 1 => ((l[i]?).map (·.1)).getD 0
def fresh : List SE → List SE → Nat
  | x :: l, y :: m => if x.1 = y.1 then fresh l m + 1 else 0
  | _, _ => 0
def chain (ep : Int) : Int → List SE → Bool
  | _, [] => true
  | last, x :: l => decide (last ≤ x.1 ∧ x.1 ≤ ep ∧ x.2.length ≤ 60000) && chain ep x.1 l
def inE (n : Int) : Bool := decide (0 ≤ n ∧ n ≤ 4611686018427387904)
def inN (n : Int) : Bool := decide (0 ≤ n ∧ n ≤ 4096)
def sRight (p : SP) : Bool := inE p.ep && inE p.bf && inN p.at_ && inN p.safe && decide ((p.l.length : Int) ≤ 4096 - p.at_) && !(decide (p.at_ = 0) && !decide (p.bf = 0)) && chain p.ep p.bf p.l
def sNew (me : Int) : SN := ⟨me, decide (me = 0), 0, [], 0, 0⟩
def sApp (n : SN) (d : List Int) : SN × Int × Int :=
  if n.ld = false then (n, 0, 5) else if 60000 < d.length then (n, 0, 3) else if 4096 ≤ n.l.length then (n, 0, 4) else ({ n with l := n.l ++ [(n.ep, d)] }, (n.l.length : Int) + 1, 0)
def sShip (n : SN) (most : Int) : SP × Int :=
  if n.ld = false then (⟨0, 0, 0, [], 0⟩, 5) else if inN most = false then (⟨0, 0, 0, [], 0⟩, 1) else (⟨n.ep, n.mark, epAt n.l n.mark, (n.l.drop n.mark).take most.toNat, n.safe⟩, 0)
def sMerge (l : List SE) (at_ : Nat) (m : List SE) : List SE := if fresh (l.drop at_) m < m.length then l.take (at_ + fresh (l.drop at_) m) ++ m.drop (fresh (l.drop at_) m) else l
def sTake (n : SN) (p : SP) : SN × SA × Int :=
  if sRight p = false then (n, (0, false, 0), 1)
  else if p.ep < n.ep ∨ (p.ep = n.ep ∧ n.ld = true) then (n, (n.ep, false, 0), 0)
  else if (n.l.length : Int) < p.at_ then ({ n with ep := p.ep, ld := false }, (p.ep, false, (n.l.length : Int)), 0)
  else if epAt n.l p.at_.toNat ≠ p.bf then ({ n with ep := p.ep, ld := false }, (p.ep, false, p.at_ - 1), 0)
  else ({ n with ep := p.ep, ld := false, l := sMerge n.l p.at_.toNat p.l, safe := max n.safe (min p.safe (p.at_ + p.l.length)).toNat }, (p.ep, true, p.at_ + p.l.length), 0)
def sTaken (n : SN) (a : SA) : SN × Int :=
  if inE a.1 = false ∨ inN a.2.2 = false then (n, 1)
  else if n.ep < a.1 then ({ n with ep := a.1, ld := false }, 0)
  else if n.ld = false ∨ a.1 < n.ep then (n, 5)
  else if (n.l.length : Int) < a.2.2 then (n, 1)
  else if a.2.1 = true then ({ n with mark := a.2.2.toNat, safe := max n.safe a.2.2.toNat }, 0)
  else ({ n with mark := min n.mark a.2.2.toNat }, 0)
def sNext (n : SN) : Int := n.ep + (1 + (n.ep + 1 + n.me) % 2)
def sProm (n : SN) : SN × Int × Int :=
  if n.ld = true then (n, 0, 5) else if 4611686018427387904 < sNext n then (n, 0, 6) else ({ n with ep := sNext n, ld := true, mark := n.l.length }, sNext n, 0)
def sDem (n : SN) : SN × Int := if n.ld = false then (n, 5) else ({ n with ld := false }, 0)
/-! The protocol. -/
abbrev GH := Int → Option (List SE)
def Ext (G G' : GH) : Prop := ∀ e g, G e = some g → ∃ g', G' e = some g' ∧ g <+: g'
theorem ext_refl (G : GH) : Ext G G := fun e g h => ⟨g, h, List.prefix_refl g⟩
/-- Each entry of a log is where its epoch's leader had it. -/
def LC (G : GH) (l : List SE) : Prop := ∀ i x, l[i]? = some x → 0 ≤ x.1 ∧ ∃ g, G x.1 = some g ∧ i < g.length ∧ l.take (i + 1) = g.take (i + 1)
def Rise : List SE → Prop := fun l => l.Pairwise (fun x y => x.1 ≤ y.1)
def Top (e : Int) (l : List SE) : Prop := ∀ x ∈ l, x.1 ≤ e ∧ x.2.length ≤ 60000
theorem prefix_take {X g : List SE} (h : X <+: g) : X = g.take X.length := (List.prefix_iff_eq_take.1 h)
theorem take_mono {α} {a b : List α} {n m : Nat} (h : a.take n = b.take n) (hm : m ≤ n) : a.take m = b.take m := by
  have := congrArg (List.take m) h
  rwa [List.take_take, List.take_take, Nat.min_eq_left hm] at this
theorem take_ext {α} {g g' : List α} (h : g <+: g') {n : Nat} (hn : n ≤ g.length) : g'.take n = g.take n := by
  obtain ⟨t, rfl⟩ := h
  rw [List.take_append_of_le_length hn]
theorem lc_ext {G G' : GH} {l : List SE} (h : LC G l) (he : Ext G G') : LC G' l := fun i x hx => by
  obtain ⟨h0, g, hg, hi, ht⟩ := h i x hx
  obtain ⟨g', hg', hp⟩ := he _ _ hg
  exact ⟨h0, g', hg', Nat.lt_of_lt_of_le hi hp.length_le, by rw [ht, take_ext hp (by omega)]⟩
theorem lc_take {G : GH} {l : List SE} (h : LC G l) (n : Nat) : LC G (l.take n) := fun i x hx => by
  rw [List.getElem?_take] at hx
  split at hx
  · rename_i hi
    obtain ⟨h0, g, hg, hl, ht⟩ := h i x hx
    exact ⟨h0, g, hg, hl, by rw [List.take_take, Nat.min_eq_left (by omega), ht]⟩
  · cases hx
theorem lc_same {G : GH} {a b : List SE} (ha : LC G a) (hb : LC G b) {i : Nat} {x y : SE} (hx : a[i]? = some x) (hy : b[i]? = some y) (he : x.1 = y.1) : a.take (i + 1) = b.take (i + 1) := by
  obtain ⟨_, g, hg, _, ht⟩ := ha i x hx
  obtain ⟨_, g', hg', _, ht'⟩ := hb i y hy
  rw [he, hg'] at hg
  injection hg with hg
  rw [ht, ht', hg]
theorem epAt_some {l : List SE} {i : Nat} (h : i < l.length) : epAt l (i + 1) = (l[i]).1 := by
  rw [epAt, List.getElem?_eq_getElem h]; rfl
theorem lc_at {G : GH} {a b : List SE} (ha : LC G a) (hb : LC G b) {n : Nat} (h1 : n ≤ a.length) (h2 : n ≤ b.length) (he : epAt a n = epAt b n) : a.take n = b.take n := by
  cases n with
  | zero => rfl
  | succ i =>
    rw [epAt_some (by omega), epAt_some (by omega)] at he
    exact lc_same ha hb (List.getElem?_eq_getElem (by omega)) (List.getElem?_eq_getElem (by omega)) he
theorem fresh_le : ∀ (l m : List SE), fresh l m ≤ m.length ∧ fresh l m ≤ l.length := by
  intro l
  induction l with
  | nil => intro m; simp [fresh]
  | cons x l ih =>
    intro m
    cases m with
    | nil => simp [fresh]
    | cons y m =>
      rw [fresh]
      have := ih m
      simp only [List.length_cons]
      split <;> omega
theorem fresh_eq : ∀ (l m : List SE) (i : Nat) (x y : SE), i < fresh l m → l[i]? = some x → m[i]? = some y → x.1 = y.1 := by
  intro l
  induction l with
  | nil => intro m i x y h; simp [fresh] at h
  | cons u l ih =>
    intro m i x y h hx hy
    cases m with
    | nil => simp [fresh] at h
    | cons v m =>
      rw [fresh] at h
      split at h
      · cases i with
        | zero => simp at hx hy; rw [← hx, ← hy]; assumption
        | succ i => exact ih m i x y (by omega) (by simpa using hx) (by simpa using hy)
      · omega
theorem fresh_ne : ∀ (l m : List SE) (x y : SE), l[fresh l m]? = some x → m[fresh l m]? = some y → x.1 ≠ y.1 := by
  intro l
  induction l with
  | nil => intro m x y h; simp [fresh] at h
  | cons u l ih =>
    intro m x y hx hy
    cases m with
    | nil => simp [fresh] at hy
    | cons v m =>
      rw [fresh] at hx hy
      split at hx
      · rename_i he
        rw [if_pos he] at hy
        exact ih m x y (by simpa using hx) (by simpa using hy)
      · rename_i he
        rw [if_neg he] at hy
        simp at hx hy
        rw [← hx, ← hy]
        exact he
/-- What a log is behind a part of a leader's log. -/
theorem merge_law {G : GH} {l g : List SE} {at_ n : Nat} (hl : LC G l) (hg : LC G g) (h1 : at_ ≤ l.length) (h2 : at_ + n ≤ g.length) (he : epAt l at_ = epAt g at_) :
    (sMerge l at_ ((g.drop at_).take n) = l ∧ g.take (at_ + n) <+: l) ∨ (sMerge l at_ ((g.drop at_).take n) = g.take (at_ + n) ∧ ∀ X : List SE, X <+: l → X <+: g → X.length ≤ at_ + n) := by
  have hm : ((g.drop at_).take n).length = n := by rw [List.length_take, List.length_drop]; omega
  have ht := lc_at hl hg h1 (by omega) he
  obtain ⟨hf1, hf2⟩ := fresh_le (l.drop at_) ((g.drop at_).take n)
  have hfe := fresh_eq (l.drop at_) ((g.drop at_).take n)
  have hfn := fresh_ne (l.drop at_) ((g.drop at_).take n)
  unfold sMerge
  generalize fresh (l.drop at_) ((g.drop at_).take n) = k at *
  rw [hm] at hf1 ⊢
  rw [List.length_drop] at hf2
  have hpre : l.take (at_ + k) = g.take (at_ + k) := by
    cases k with
    | zero => exact ht
    | succ k =>
      have hx : l[at_ + k]? = some (l[at_ + k]'(by omega)) := List.getElem?_eq_getElem (by omega)
      have hy : g[at_ + k]? = some (g[at_ + k]'(by omega)) := List.getElem?_eq_getElem (by omega)
      exact lc_same hl hg hx hy (hfe k _ _ (by omega) (by rw [List.getElem?_drop]; exact hx) (by rw [List.getElem?_take, if_pos (by omega), List.getElem?_drop]; exact hy))
  by_cases hk : k < n
  · rw [if_pos hk]
    refine .inr ⟨?_, fun X hX hXg => ?_⟩
    · rw [hpre, List.drop_take, List.drop_drop]
      have h3 : g.take (at_ + n) = g.take (at_ + k) ++ (g.drop (at_ + k)).take (n - k) := by
        rw [show at_ + n = (at_ + k) + (n - k) from by omega, List.take_add]
      rw [h3]
    · rcases Nat.lt_or_ge (at_ + n) X.length with h | h
      · exfalso
        have hkl : at_ + k < l.length := by have := hX.length_le; omega
        have hkg : at_ + k < g.length := by omega
        have hx : l[at_ + k]? = some l[at_ + k] := List.getElem?_eq_getElem hkl
        have hy : g[at_ + k]? = some g[at_ + k] := List.getElem?_eq_getElem hkg
        have hne := hfn _ _ (by rw [List.getElem?_drop]; exact hx) (by rw [List.getElem?_take, if_pos hk, List.getElem?_drop]; exact hy)
        have e1 : X[at_ + k]? = some l[at_ + k] := by
          obtain ⟨t, rfl⟩ := hX
          rw [List.getElem?_append_left (by omega)] at hx
          exact hx
        have e2 : X[at_ + k]? = some g[at_ + k] := by
          obtain ⟨t, rfl⟩ := hXg
          rw [List.getElem?_append_left (by omega)] at hy
          exact hy
        rw [e1] at e2
        injection e2 with e2
        exact hne (by rw [e2])
      · exact h
  · rw [if_neg hk]
    have : k = n := by omega
    subst this
    exact .inl ⟨rfl, by rw [← hpre]; exact List.take_prefix _ _⟩
end Go.Proofs.Ytofpkmfjigjlhaa.Own
