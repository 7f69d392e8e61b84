/- LexBlanks, of the plain functions. No conditions beside those in each theorem. -/
import Derived.Test.YtklpcmfigfigcaaLzT
import Derived.Test.YtklpcmfigfigcaaPzx4
namespace Go.Proofs.Ytklpcmfigfigcaa.Pure
open Go.RowKit Go.Proofs.YtklpcmfigfigcaaW.PrintWords Go.Proofs.Ytklpcmfigfigcaa.Pz Go.Proofs.Ytklpcmfigfigcaa.Own
set_option linter.unusedSimpArgs false
set_option linter.unusedVariables false
theorem blanks_end (ts us : List S28) (h : ts.length ≤ 10000) (hl : ts.length = us.length) (he : ∀ (i : Nat) (x y : S28), ts[i]? = some x → us[i]? = some y → x.f0 = y.f0 ∧ x.f1 = y.f1 ∧ x.f2 = y.f2) (k : Nat) (hk : 10042 ≤ k) (i : Int) : dayshiftlaw07_LexBlanks.j1 k ts us i false = some true := by
  obtain ⟨k, rfl⟩ : ∃ k', k = k' + 1 := ⟨k - 1, by omega⟩
  rw [dayshiftlaw07_LexBlanks.j1, if_neg (by simp), taken_f ts (by omega) k (by omega), taken_f us (by omega) k (by omega)]
  simp only [Option.bind_some]
  rw [same_f _ _ (by rw [List.length_map]; omega) (by rw [List.length_map, List.length_map, hl]) (fun i x y hx hy => by
    rw [List.getElem?_map] at hx hy
    cases h1 : ts[i]? with
    | none => rw [h1] at hx; cases hx
    | some u =>
      cases h2 : us[i]? with
      | none => rw [h2] at hy; cases hy
      | some v =>
        rw [h1] at hx
        rw [h2] at hy
        simp only [Option.map_some, Option.some.injEq] at hx hy
        subst hx
        subst hy
        exact he i u v h1 h2)]
  simp only [Option.bind_some]
  rw [if_pos trivial, known_f k (by omega)]
  rfl
theorem blanks_l0 (ts : List S28) (h : ts.length ≤ 10000) (hb : ∀ t ∈ ts, 0 ≤ t.f3 ∧ t.f3 ≤ 8192) : ∀ (n i : Nat), ts.length - i ≤ n → i ≤ ts.length → ∀ k, 2 * n + 10044 ≤ k → dayshiftlaw07_LexBlanks.l0 k ts (ts.map (shf 4)) (i : Int) = some true := by
  have hend := blanks_end ts (ts.map (shf 4)) h (by rw [List.length_map]) (fun i x y hx hy => by
    rw [List.getElem?_map, hx] at hy
    simp only [Option.map_some, Option.some.injEq] at hy
    subst hy
    exact ⟨rfl, rfl, rfl⟩)
  intro n
  induction n with
  | zero =>
    intro i hn hi k hk
    obtain ⟨k, rfl⟩ : ∃ k', k = k' + 1 := ⟨k - 1, by omega⟩
    rw [dayshiftlaw07_LexBlanks.l0, if_neg (by omega)]
    exact hend k (by omega) _
  | succ n ih =>
    intro i hn hi k hk
    obtain ⟨k, rfl⟩ : ∃ k', k = k' + 1 := ⟨k - 1, by omega⟩
    by_cases hlt : i < ts.length
    · obtain ⟨k, rfl⟩ : ∃ k', k = k' + 1 := ⟨k - 1, by omega⟩
      have hg : ts[i]? = some ts[i] := List.getElem?_eq_getElem hlt
      have hg2 : (ts.map (shf 4))[i]? = some (shf 4 ts[i]) := by rw [List.getElem?_map, hg]; rfl
      have hbt := hb _ (List.getElem_mem hlt)
      rw [dayshiftlaw07_LexBlanks.l0, if_pos (by omega), decide_eq_true (by rw [List.length_map]; omega), dayshiftlaw07_LexBlanks.j1, if_pos rfl, if_pos (by omega), if_pos (by rw [List.length_map]; omega), if_pos (by omega), rd_at hg, rd_at hg2]
      generalize ts[i] = t at hbt
      rw [w64 (t.f3 + 4) (by omega), if_pos (by show t.f3 + ((4 : Nat) : Int) = t.f3 + 4; rfl), w64 _ (by omega), show (i : Int) + 1 = ((i + 1 : Nat) : Int) from by omega]
      exact ih (i + 1) (by omega) (by omega) k (by omega)
    · rw [dayshiftlaw07_LexBlanks.l0, if_neg (by omega)]
      exact hend k (by omega) _
theorem blank_pre (bs : List Int) : lexF (32 :: 9 :: 13 :: 10 :: bs ++ 10 :: [35, 32, 120, 32, 59]) 0 = match lexF bs 0 with
    | .ok ts => .ok (ts.map (shf 4))
    | .error e => .error (e + 4) := by
  have h1 : (32 :: 9 :: 13 :: 10 :: bs ++ 10 :: [35, 32, 120, 32, 59] : List Int) = 32 :: 9 :: 13 :: 10 :: (bs ++ 10 :: [35, 32, 120, 32, 59]) := rfl
  rw [h1, lexF_blank rfl, lexF_blank rfl, lexF_blank rfl, lexF_blank rfl, lexF_app _ _ _ _ (Nat.le_refl _), show 0 + 1 + 1 + 1 + 1 = 0 + 4 from rfl, lexF_shift]
  cases lexF bs 0 with
  | error e => rfl
  | ok ts =>
    simp only
    rw [lexF_nil _ (by decide)]
    simp
theorem blanks_f (a : ByteArray) (hbig : a.size ≤ 140737488351232) (k : Nat) (hk : 40000 ≤ k) : dayshiftlaw07_LexBlanks.f k a = some true := by
  have hsz1 : ((⟨#[32, 9, 13, 10]⟩ : ByteArray) ++ a).size = 4 + a.size := by rw [ByteArray.size_append]; rfl
  have hsz : (((⟨#[32, 9, 13, 10]⟩ : ByteArray) ++ a) ++ (⟨#[10, 35, 32, 120, 32, 59]⟩ : ByteArray)).size = 4 + a.size + 6 := by rw [ByteArray.size_append, hsz1]; rfl
  have hbt : bytesOf (((⟨#[32, 9, 13, 10]⟩ : ByteArray) ++ a) ++ (⟨#[10, 35, 32, 120, 32, 59]⟩ : ByteArray)) = 32 :: 9 :: 13 :: 10 :: bytesOf a ++ 10 :: [35, 32, 120, 32, 59] := by
    rw [bytesOf_app, bytesOf_app]; rfl
  unfold dayshiftlaw07_LexBlanks.f
  by_cases hs : (a.size : Int) > 8182
  · obtain ⟨l, x, y, h1, _⟩ := tokens_any a k (by omega)
    obtain ⟨l', x', y', h3, _⟩ := tokens_any (((⟨#[32, 9, 13, 10]⟩ : ByteArray) ++ a) ++ (⟨#[10, 35, 32, 120, 32, 59]⟩ : ByteArray)) k (by omega)
    rw [h1]
    simp only [Option.bind_some]
    rw [hsz1, if_pos (by omega), if_pos (by omega), h3]
    simp only [Option.bind_some]
    rw [if_pos hs, known_f k (by omega)]
    rfl
  · have he := tokens_f (((⟨#[32, 9, 13, 10]⟩ : ByteArray) ++ a) ++ (⟨#[10, 35, 32, 120, 32, 59]⟩ : ByteArray)) (by omega) k (by omega)
    rw [hbt, blank_pre] at he
    rw [tokens_f a (by omega) k (by omega)]
    cases hx : lexF (bytesOf a) 0 with
    | error e =>
      rw [hx] at he
      simp only [Option.bind_some]
      rw [hsz1, if_pos (by omega), if_pos (by omega), he]
      simp only [Option.bind_some]
      rw [if_neg hs, if_pos trivial]
      exact blanks_l0 [] (by simp) (by simp) 0 0 (by simp) (by simp) k (by simp; omega)
    | ok ts =>
      have hp := lexF_pl (bytesOf a) a.size 0 ts (by rw [List.drop_zero, bytesOf_length]; exact Nat.le_refl _) (Nat.zero_le _) (by rw [List.drop_zero]; exact hx)
      have hn := pl_len _ _ _ hp (Nat.zero_le _)
      have hat := pl_at _ _ _ hp
      rw [bytesOf_length] at hn hat
      rw [hx] at he
      simp only [Option.bind_some]
      rw [hsz1, if_pos (by omega), if_pos (by omega), he]
      simp only [Option.bind_some]
      rw [if_neg hs, if_pos trivial]
      exact blanks_l0 ts (by omega) (fun t ht => by have := hat t ht; omega) ts.length 0 (by omega) (by omega) k (by omega)
theorem LexBlanks : dayshiftlaw07_LexBlanks.Pure := fun a h => ⟨_, blanks_f a h 40000 (Nat.le_refl _)⟩
end Go.Proofs.Ytklpcmfigfigcaa.Pure
