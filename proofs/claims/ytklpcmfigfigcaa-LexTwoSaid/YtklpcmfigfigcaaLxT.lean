/- Shared lemmas of the plain laws of words. No conditions beside those in each theorem. -/
import Derived.Test.YtklpcmfigfigcaaLxQ
import Derived.Test.YtklpcmfigfigcaaLxR
namespace Go.Proofs.Ytklpcmfigfigcaa.Own
open Go.RowKit Go.Proofs.YtklpcmfigfigcaaW.PrintWords Go.Proofs.Ytklpcmfigfigcaa.Px
set_option linter.unusedSimpArgs false
set_option linter.unusedVariables false
theorem rd_at {ts : List S28} {i : Nat} {t : S28} (h : ts[i]? = some t) : rd_T28 ts (i : Int) = t := by
  unfold rd_T28
  rw [Int.toNat_natCast, List.getD_eq_getElem?_getD, h]
  rfl
theorem pl_len (bs : List Int) : ∀ (ts : List S28) (q : Nat), PlOK bs q ts → q ≤ bs.length → ts.length + q ≤ bs.length := by
  intro ts
  induction ts with
  | nil => intro q _ h; simpa using h
  | cons t ts ih =>
    intro q hp hq
    obtain ⟨a, m, h1, h2, h3, h4, h5, h6, h7⟩ := hp
    have := ih (a + m) h7 h5
    rw [List.length_cons]
    omega
theorem bytesOf_app (a b : ByteArray) : bytesOf (a ++ b) = bytesOf a ++ bytesOf b := by
  unfold bytesOf; simp
theorem pl_at (bs : List Int) : ∀ (ts : List S28) (q : Nat), PlOK bs q ts → ∀ t ∈ ts, 0 ≤ t.f3 ∧ t.f3 ≤ bs.length := by
  intro ts
  induction ts with
  | nil => intro q _ t ht; simp at ht
  | cons t ts ih =>
    intro q hp x hx
    obtain ⟨a, m, h1, h2, h3, h4, h5, h6, h7⟩ := hp
    rcases List.mem_cons.1 hx with rfl | hx
    · omega
    · exact ih _ h7 x hx
theorem tokens_any (a : ByteArray) (k : Nat) (hk : 9000 ≤ k) : ∃ l x y, lex_Tokens.f k a = some (l, x, y) ∧ (y = 0 → a.size ≤ 8192 ∧ lexF (bytesOf a) 0 = .ok l) := by
  by_cases hs : 8192 < a.size
  · exact ⟨_, _, _, tokens_big a hs k, fun h => by omega⟩
  · have h := tokens_f a (by omega) k (by omega)
    cases hx : lexF (bytesOf a) 0 with
    | ok ts => rw [hx] at h; exact ⟨_, _, _, h, fun _ => ⟨by omega, rfl⟩⟩
    | error e => rw [hx] at h; exact ⟨_, _, _, h, fun h => by omega⟩
end Go.Proofs.Ytklpcmfigfigcaa.Own
