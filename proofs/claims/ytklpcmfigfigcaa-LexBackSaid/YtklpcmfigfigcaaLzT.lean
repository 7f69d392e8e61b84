/- Shared lemmas of the plain laws of words, over the second print. No conditions beside those in each theorem. -/
import Derived.Test.YtklpcmfigfigcaaLzQ
import Derived.Test.YtklpcmfigfigcaaLzR
import Derived.Test.YtklpcmfigfigcaaLz15
import Derived.Test.YtklpcmfigfigcaaPzx3
namespace Go.Proofs.Ytklpcmfigfigcaa.Own
open Go.RowKit Go.Proofs.YtklpcmfigfigcaaW.PrintWords Go.Proofs.Ytklpcmfigfigcaa.Pz
set_option linter.unusedSimpArgs false
set_option linter.unusedVariables false
theorem rd_at {ts : List S28} {i : Nat} {t : S28} (h : ts[i]? = some t) : rd_T28 ts (i : Int) = t := by
  unfold rd_T28
  rw [Int.toNat_natCast, List.getD_eq_getElem?_getD, h]
  rfl
theorem pl_len (bs : List Int) : ∀ (ts : List S28) (q : Nat), PlOK bs q ts → q ≤ bs.length → ts.length + q ≤ bs.length := by
  intro ts
  induction ts with
  | nil => intro q _ h; simpa using h
  | cons t ts ih =>
    intro q hp hq
    obtain ⟨a, m, h1, h2, h3, h4, h5, h6, h7⟩ := hp
    have := ih (a + m) h7 h5
    rw [List.length_cons]
    omega
theorem bytesOf_app (a b : ByteArray) : bytesOf (a ++ b) = bytesOf a ++ bytesOf b := by
  unfold bytesOf; simp
theorem pl_at (bs : List Int) : ∀ (ts : List S28) (q : Nat), PlOK bs q ts → ∀ t ∈ ts, 0 ≤ t.f3 ∧ t.f3 ≤ bs.length := by
  intro ts
  induction ts with
  | nil => intro q _ t ht; simp at ht
  | cons t ts ih =>
    intro q hp x hx
    obtain ⟨a, m, h1, h2, h3, h4, h5, h6, h7⟩ := hp
    rcases List.mem_cons.1 hx with rfl | hx
    · omega
    · exact ih _ h7 x hx
theorem tokens_any (a : ByteArray) (k : Nat) (hk : 9000 ≤ k) : ∃ l x y, lex_Tokens.f k a = some (l, x, y) ∧ (y = 0 → a.size ≤ 8192 ∧ lexF (bytesOf a) 0 = .ok l) := by
  by_cases hs : 8192 < a.size
  · exact ⟨_, _, _, tokens_big a hs k, fun h => by omega⟩
  · have h := tokens_f a (by omega) k (by omega)
    cases hx : lexF (bytesOf a) 0 with
    | ok ts => rw [hx] at h; exact ⟨_, _, _, h, fun _ => ⟨by omega, rfl⟩⟩
    | error e => rw [hx] at h; exact ⟨_, _, _, h, fun h => by omega⟩
def cv (t : S28) : S45 := ⟨t.f0, t.f1, t.f2, t.f3⟩
theorem taken_l0 (x0 : List S28) (h : x0.length ≤ 100000) : ∀ (n i : Nat), x0.length - i ≤ n → i ≤ x0.length → ∀ k, n < k → dayshiftlaw07_taken.l0 k x0 ((x0.take i).map cv) (i : Int) = some (x0.map cv) := by
  intro n
  induction n with
  | zero =>
    intro i hn hi k hk
    obtain ⟨k, rfl⟩ : ∃ k', k = k' + 1 := ⟨k - 1, by omega⟩
    rw [dayshiftlaw07_taken.l0, if_neg (by omega), List.take_of_length_le (by omega)]
  | succ n ih =>
    intro i hn hi k hk
    obtain ⟨k, rfl⟩ : ∃ k', k = k' + 1 := ⟨k - 1, by omega⟩
    by_cases hlt : i < x0.length
    · have hg : x0[i]? = some x0[i] := List.getElem?_eq_getElem hlt
      rw [dayshiftlaw07_taken.l0, if_pos (by omega), if_pos (by omega), if_pos (by rw [List.length_map, List.length_take]; omega), rd_at hg, w64 _ (by omega), show (i : Int) + 1 = ((i + 1 : Nat) : Int) from by omega]
      have := ih (i + 1) (by omega) (by omega) k (by omega)
      rw [List.take_succ_eq_append_getElem hlt, List.map_append] at this
      exact this
    · rw [dayshiftlaw07_taken.l0, if_neg (by omega), List.take_of_length_le (by omega)]
theorem taken_f (x0 : List S28) (h : x0.length ≤ 100000) (k : Nat) (hk : x0.length < k) : dayshiftlaw07_taken.f k x0 = some (x0.map cv) := by
  have := taken_l0 x0 h x0.length 0 (by omega) (Nat.zero_le _) k hk
  exact this
theorem same_f (a b : List S45) (ha : a.length ≤ 100000) (hl : a.length = b.length) (he : ∀ (i : Nat) (x y : S45), a[i]? = some x → b[i]? = some y → x.f0 = y.f0 ∧ x.f1 = y.f1 ∧ x.f2 = y.f2) : ref07_Same.f a b false = some true := by
  unfold ref07_Same.f
  rw [if_pos ⟨ha, alike_to _ _ _ ⟨hl, fun i x y hx hy => ⟨(he i x y hx hy).1, (he i x y hx hy).2.1, (he i x y hx hy).2.2, fun h => by cases h⟩⟩⟩]
end Go.Proofs.Ytklpcmfigfigcaa.Own
