/- The calls of LogKeeps, over a disk kept in sight. No conditions beside those in each theorem. -/
import Derived.Test.YtaonaifnaecpiaaKq4
namespace Go.Proofs.Ytaonaifnaecpiaa.Own
open Go.RowKit
set_option linter.unusedSimpArgs false
set_option linter.unusedVariables false
section
variable {w W : World} {D i : Nat} {p : PD} {seq q0 : Nat} {S : List Int} {old R : List (List Int)} {X : List Int} {xs : List (Nat × List Value)}
theorem dl_isB (h : DL i p seq q0 S old R X) : isB (p.f 0).1 ∧ isB (p.f 1).1 := by
  refine ⟨?_, ?_⟩
  · rw [h.f0]
    exact isB_app (wrF_isB _ _ (fun r hr => (h.ok r hr).1)) h.xb
  · rcases h.f1 with ⟨h1, _⟩ | h1
    · rw [h1]; exact fun x hx => by simp at hx
    · rw [h1]; exact frameB_isB _ h.so.1
theorem dl_bl (h : DL i p seq q0 S old R X) : isBL R := fun r hr => (h.ok r (List.mem_append_right _ hr)).1
/-- Open, where nothing fails. -/
theorem dxl_open (h : DX w W D p xs []) (hd : DL i p seq q0 S old R X) (hc : Clean p) (hi : i ≤ 100) :
    Calls Try.prog 24 #[.pointer (some ⟨D, 0, none⟩)] W fun e W' => ∃ G s c s' c' l p', e = .returned (.tuple #[.pointer (some ⟨G, 0, none⟩), .slice s S.length c, .slice s' R.length c', .int .i64 0]) ∧ DX w W' D p' ((G, lgc D (seq + R.length + 1) R.length false) :: (l ++ xs)) [] ∧ DL i p' seq q0 S old R [] ∧ Clean p' ∧ SB w (l ++ xs) s S ∧ RB w (l ++ xs) s' R ∧ R.length ≤ c' := by
  obtain ⟨p', he, hd', hc'⟩ := dl_open_clean hd hc hi
  have ho := open_k h (dl_isB hd).1 (dl_isB hd).2
  rw [he] at ho
  refine ho.mono ?_
  rintro e W' (⟨h1, _⟩ | ⟨_, G, vs, vr, l, rfl, h2, h3, h4⟩)
  · exact absurd rfl h1
  · obtain ⟨s, c, rfl, _⟩ := fc_form h3
    have h5 := h4
    obtain ⟨s', c', rfl, hcap, _⟩ := h4
    exact ⟨G, s, c, s', c', l, p', rfl, h2, hd', hc', sb_fc h3 (fun p hp => List.mem_append_left _ hp), rb_rv h5 (fun p hp => List.mem_append_left _ hp), hcap⟩
/-- Open, whatever fails. -/
theorem dxl_open_any (h : DX w W D p xs []) (hd : DL i p seq q0 S old R X) (hi : i ≤ 100) :
    Calls Try.prog 24 #[.pointer (some ⟨D, 0, none⟩)] W fun e W' => ∃ a b c d p' X', e = .returned (.tuple #[a, b, c, d]) ∧ DX w W' D p' xs [] ∧ DL i p' seq q0 S old R X' := by
  obtain ⟨X', hd'⟩ := dl_open_keep hd hi
  refine (open_k h (dl_isB hd).1 (dl_isB hd).2).mono ?_
  rintro e W' (⟨_, rfl, h2⟩ | ⟨_, G, vs, vr, l, rfl, h2, h3, h4⟩)
  · exact ⟨_, _, _, _, _, X', rfl, h2, hd'⟩
  · exact ⟨_, _, _, _, _, X', rfl, dx_sub h2 ((List.sublist_append_right l xs).trans (List.sublist_cons_self _ _)), hd'⟩
end
/-- What the law keeps between two calls. -/
def KSt (w W : World) (D i : Nat) (v4 v8 v9 : Value) : Prop :=
  ∃ (G : Nat) (p : PD) (seq q0 : Nat) (S : List Int) (old R : List (List Int)) (xs : List (Nat × List Value)) (s8 s9 : Option Addr) (c8 c9 : Nat), v4 = .pointer (some ⟨G, 0, none⟩) ∧ v8 = .slice s8 S.length c8 ∧ v9 = .slice s9 R.length c9 ∧
    DX w W D p ((G, lgc D (seq + R.length + 1) R.length false) :: xs) [] ∧ DL i p seq q0 S old R [] ∧ p.dead = false ∧ SB w xs s8 S ∧ RB w xs s9 R ∧ R.length ≤ c9
/-- What a call of the log has come to: the answer 0 (all is there), or 13 (behind a crash all is there, or what was). -/
def KM (w W : World) (D i T G : Nat) (acl : List Value) (S : List Int) (R : List (List Int)) (s8 s9 : Option Addr) (v12 v13 v14 : Value) : Prop :=
  ∃ (p : PD) (nx mn : Nat) (bad : Bool) (xs : List (Nat × List Value)) (S' : List Int) (R' : List (List Int)) (s12 s13 : Option Addr) (c12 c13 : Nat), v12 = .slice s12 S'.length c12 ∧ v13 = .slice s13 R'.length c13 ∧
    DX w W D p ((T, acl) :: (G, lgc D nx mn bad) :: xs) [] ∧ SB w xs s8 S ∧ RB w xs s9 R ∧ SB w xs s12 S' ∧ RB w xs s13 R' ∧ R'.length ≤ c13 ∧ isB S' ∧ isBL R' ∧ R'.length ≤ 101 ∧
    ((v14 = .int .i64 0 ∧ bad = false ∧ p.dead = false ∧ ∃ seq q0 old, DL (i + 1) p seq q0 S' old R' [] ∧ nx = seq + R'.length + 1 ∧ mn = R'.length) ∨
     (v14 = .int .i64 13 ∧ ∀ ks, (∃ seq q0 old X, DL (i + 1) (pcrash p ks) seq q0 S old R X) ∨ ∃ seq q0 old X, DL (i + 1) (pcrash p ks) seq q0 S' old R' X))
/-- What Append comes to, ahead of the list of records. -/
def KA (w W : World) (D i T G : Nat) (acl : List Value) (S : List Int) (R R' : List (List Int)) (xs : List (Nat × List Value)) (e : Int) : Prop :=
  ∃ (p : PD) (nx mn : Nat) (bad : Bool), DX w W D p ((T, acl) :: (G, lgc D nx mn bad) :: xs) [] ∧
    ((e = 0 ∧ bad = false ∧ p.dead = false ∧ ∃ seq q0 old, DL (i + 1) p seq q0 S old R' [] ∧ nx = seq + R'.length + 1 ∧ mn = R'.length) ∨
     (e = 13 ∧ ∀ ks, (∃ seq q0 old X, DL (i + 1) (pcrash p ks) seq q0 S old R X) ∨ ∃ seq q0 old X, DL (i + 1) (pcrash p ks) seq q0 S old R' X))
section
variable {w W : World} {D i T G : Nat} {p : PD} {seq q0 : Nat} {S : List Int} {old R : List (List Int)} {xs : List (Nat × List Value)} {acl : List Value}
theorem ka_app (h : DX w W D p ((T, acl) :: (G, lgc D (seq + R.length + 1) R.length false) :: xs) []) (hd : DL i p seq q0 S old R []) (hdd : p.dead = false) (hi : i ≤ 100) {b : List Int} {m : Nat} (hm : Hid (b.length = m)) (hb : isB b) (hl : m ≤ 1000) (sp : Option Addr) (cp : Nat) (hS : SrcV W sp (bcl b)) :
    Calls Try.prog 25 #[.pointer (some ⟨G, 0, none⟩), .slice sp m cp] W fun e W' => ∃ er, e = .returned (.int .i64 er) ∧ KA w W' D i T G acl S R (R ++ [b]) xs er := by
  have hb1 := hd.bd.1
  have hc := lappend_k (seq + R.length + 1) R.length false (dx_perm h (List.Perm.swap _ _ _)) (by omega) (by omega) b m hm hb sp cp hS
  rcases dl_app hd hdd hi hb (by rw [hm.out]; exact hl) with ⟨p', he, hD, hd'⟩ | ⟨p', he, hcr⟩
  · rw [he] at hc
    simp only at hc
    refine hc.mono ?_
    rintro e W' ⟨rfl, h2⟩
    exact ⟨0, rfl, p', _, _, false, dx_perm h2 (List.Perm.swap _ _ _), .inl ⟨rfl, rfl, hd', seq, q0, old, hD, by rw [List.length_append]; show seq + R.length + 2 = seq + (R.length + 1) + 1; omega, by rw [List.length_append]; rfl⟩⟩
  · rw [he] at hc
    refine hc.mono ?_
    rintro e W' ⟨rfl, h2⟩
    refine ⟨13, rfl, p', _, _, true, dx_perm h2 (List.Perm.swap _ _ _), .inr ⟨rfl, fun ks => ?_⟩⟩
    rcases hcr ks with ⟨X', hx⟩ | hx
    · exact .inl ⟨_, _, _, X', hx⟩
    · exact .inr ⟨_, _, _, [], hx⟩
theorem km_ins (h : DX w W D p ((T, acl) :: (G, lgc D (seq + R.length + 1) R.length false) :: xs) []) (hd : DL i p seq q0 S old R []) (hdd : p.dead = false) (hi : i ≤ 100) {b : List Int} {m : Nat} (hm : Hid (b.length = m)) (hb : isB b) (hl : m ≤ 1000) (sp : Option Addr) (cp : Nat) (hS : SrcV w sp (bcl b)) {s8 s9 : Option Addr} (h8 : SB w xs s8 S) (h9 : RB w xs s9 R) :
    Calls Try.prog 26 #[.pointer (some ⟨G, 0, none⟩), .slice sp m cp] W fun e W' => ∃ er, e = .returned (.int .i64 er) ∧ KM w W' D i T G acl S R s8 s9 (.slice sp m cp) (.slice none 0 0) (.int .i64 er) := by
  have hb1 := hd.bd.1
  have hc := linstall_k (seq + R.length + 1) R.length false (dx_perm h (List.Perm.swap _ _ _)) (by omega) (by omega) b m hm hb sp cp (srcV_keep hS (dx_kr h).below)
  rcases dl_ins hd hdd hi hb (by rw [hm.out]; exact hl) with ⟨p', he, hD, hd'⟩ | ⟨p', he, hcr⟩
  · rw [he] at hc
    refine hc.mono ?_
    rintro e W' ⟨rfl, h2⟩
    exact ⟨0, rfl, p', _, _, false, xs, b, [], sp, none, cp, 0, by rw [hm.out], rfl, dx_perm h2 (List.Perm.swap _ _ _), h8, h9, sb_old hS, rb_nil, Nat.le_refl _, hb, fun r hr => by simp at hr, Nat.zero_le _, .inl ⟨rfl, rfl, hd', _, _, _, hD, rfl, rfl⟩⟩
  · rw [he] at hc
    refine hc.mono ?_
    rintro e W' ⟨rfl, h2⟩
    refine ⟨13, rfl, p', _, _, true, xs, b, [], sp, none, cp, 0, by rw [hm.out], rfl, dx_perm h2 (List.Perm.swap _ _ _), h8, h9, sb_old hS, rb_nil, Nat.le_refl _, hb, fun r hr => by simp at hr, Nat.zero_le _, .inr ⟨rfl, fun ks => ?_⟩⟩
    rcases hcr with hx | hx
    · obtain ⟨X', hx'⟩ := dl_crash hx ks
      exact .inl ⟨_, _, _, X', hx'⟩
    · obtain ⟨X', hx'⟩ := dl_crash hx ks
      exact .inr ⟨_, _, _, X', hx'⟩
/-- No call of the log: the disk fails. -/
theorem km_none (h : DX w W D p ((T, acl) :: (G, lgc D (seq + R.length + 1) R.length false) :: xs) []) (hd : DL i p seq q0 S old R []) {s8 s9 : Option Addr} (h8 : SB w xs s8 S) (h9 : RB w xs s9 R) (c8 c9 : Nat) (hc9 : R.length ≤ c9) (hi : i ≤ 100) : KM w W D i T G acl S R s8 s9 (.slice s8 S.length c8) (.slice s9 R.length c9) (.int .i64 13) :=
  ⟨p, _, _, false, xs, S, R, s8, s9, c8, c9, rfl, rfl, h, h8, h9, h8, h9, hc9, hd.so.1, dl_bl hd, by have := hd.bd.1; omega, .inr ⟨rfl, fun ks => by
    obtain ⟨X', hx'⟩ := dl_crash (dl_mono hd) ks
    exact .inl ⟨_, _, _, X', hx'⟩⟩⟩
theorem cell_len {V : World} {p : Addr} {sb : Option Addr} {n m cb : Nat} (h : n = m) (e : V.cell? p = some (.slice sb n cb)) : V.cell? p = some (.slice sb m cb) := h ▸ e
theorem km_cell {s8 s9 : Option Addr} {R : List (List Int)} {v12 v13 v14 : Value} (h : KM w W D i T G acl S R s8 s9 v12 v13 v14) (j : Nat) (v : Value) (hv : acl[j]? = some v) : W.cell? ⟨T, j, none⟩ = some v := by
  obtain ⟨p, nx, mn, bad, xs, S', R', s12, s13, c12, c13, _, _, h1, _⟩ := h
  exact kr_cell (dx_kr h1) 0 rfl j v hv
theorem ka_cell {R R' : List (List Int)} {e : Int} (h : KA w W D i T G acl S R R' xs e) (j : Nat) (v : Value) (hv : acl[j]? = some v) : W.cell? ⟨T, j, none⟩ = some v := by
  obtain ⟨p, nx, mn, bad, h1, _⟩ := h
  exact kr_cell (dx_kr h1) 0 rfl j v hv
/-- The record stands in the list, too. -/
theorem km_push {W' : World} {R : List (List Int)} {b : List Int} {m n cb c8 : Nat} {s8 s9 sb : Option Addr} {er : Int} {d : Dk} {gs : List (Nat × List Value)} {nx mn : Nat} {bad : Bool} {v' : Value} {vals : List Value} (h8 : SB w xs s8 S) (h9 : RB w xs s9 R) (hS : isB S) (hR : isBL R) (hm : b.length = m) (hb : isB b) (hn : R.length = n) (hbd : R.length ≤ 100) (hsb : SrcV w sb (bcl b))
    (hv : vals.length = R.length) (hel : ∀ (j : Nat) (u : Value) (r : List Int), vals[j]? = some u → R[j]? = some r → ∃ sj cj, u = .slice sj r.length cj ∧ SB w xs sj r) (hV : VW gs d p)
    (K2 : KR w (((T, acl) :: (G, lgc D nx mn bad) :: xs) ++ (D, d.l) :: gs) W') (O2 : Own w (((T, acl) :: (G, lgc D nx mn bad) :: xs) ++ (D, d.l) :: gs) 23 1 v' (n + 1) (vals ++ [.slice sb m cb]) W')
    (hor : (er = 0 ∧ bad = false ∧ p.dead = false ∧ ∃ seq q0 old, DL (i + 1) p seq q0 S old (R ++ [b]) [] ∧ nx = seq + (R ++ [b]).length + 1 ∧ mn = (R ++ [b]).length) ∨
     (er = 13 ∧ ∀ ks, (∃ seq q0 old X, DL (i + 1) (pcrash p ks) seq q0 S old R X) ∨ ∃ seq q0 old X, DL (i + 1) (pcrash p ks) seq q0 S old (R ++ [b]) X)) :
    KM w W' D i T G acl S R s8 s9 (.slice s8 S.length c8) v' (.int .i64 er) := by
  obtain ⟨l, HL, HC⟩ := own_settle K2 O2
  have hcap : ∃ s c, v' = .slice s (n + 1) c ∧ n + 1 ≤ c := by
    rcases HC with ⟨_, h, _⟩ | ⟨b', cap, row, h, _, h2, _⟩
    · omega
    · exact ⟨_, cap, h, h2⟩
  obtain ⟨s', c', rfl, h13⟩ := rb_push hv hn hel hm (sb_old hsb) HC
  obtain ⟨s2, c2, he2, hc2⟩ := hcap
  injection he2 with _ _ he2
  subst he2
  have hsl : xs.Sublist (l ++ xs) := List.sublist_append_right _ _
  refine ⟨p, nx, mn, bad, l ++ xs, S, R ++ [b], s8, s', c8, c', rfl, by rw [List.length_append, hn]; rfl, ⟨d, gs, kr_permA HL ?_, hV, fun x hx => by simp at hx⟩, sb_mono h8 hsl, rb_mono h9 hsl, sb_mono h8 hsl, h13, by rw [List.length_append, hn]; exact hc2, hS, fun r hr => ?_, by rw [List.length_append]; show R.length + 1 ≤ 101; omega, ?_⟩
  · have h1 : ((T, acl) :: (G, lgc D nx mn bad) :: (l ++ (xs ++ (D, d.l) :: gs))).Perm (l ++ (T, acl) :: (G, lgc D nx mn bad) :: (xs ++ (D, d.l) :: gs)) := by
      refine (List.perm_append_comm (l₁ := [(T, acl), (G, lgc D nx mn bad)]) (l₂ := l)).append_right (xs ++ (D, d.l) :: gs) |>.trans ?_
      rw [List.append_assoc]
      rfl
    have h2 : ((T, acl) :: (G, lgc D nx mn bad) :: (l ++ xs)) ++ (D, d.l) :: gs = (T, acl) :: (G, lgc D nx mn bad) :: (l ++ (xs ++ (D, d.l) :: gs)) := by simp [List.append_assoc]
    rw [h2]
    exact h1
  · rcases List.mem_append.1 hr with hr | hr
    · exact hR r hr
    · rw [List.mem_singleton.1 hr]; exact hb
  · rcases hor with ⟨rfl, h⟩ | ⟨rfl, h⟩
    · exact .inl ⟨rfl, h⟩
    · exact .inr ⟨rfl, h⟩
end
end Go.Proofs.Ytaonaifnaecpiaa.Own
