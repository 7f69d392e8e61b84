/- LexBack, of the plain functions. No conditions beside those in each theorem. -/
import Derived.Test.YtklpcmfigfigcaaLzT
import Derived.Test.YtklpcmfigfigcaaLzB
import Derived.Test.YtklpcmfigfigcaaPzx3
namespace Go.Proofs.Ytklpcmfigfigcaa.Pure
open Go.RowKit Go.Proofs.YtklpcmfigfigcaaW.PrintWords Go.Proofs.Ytklpcmfigfigcaa.Pz Go.Proofs.Ytklpcmfigfigcaa.Own
set_option linter.unusedSimpArgs false
set_option linter.unusedVariables false
theorem pl_size (bs : List Int) : ∀ (ts : List S28) (q : Nat), PlOK bs q ts → ∀ t ∈ ts, t.f1.size ≤ bs.length := by
  intro ts
  induction ts with
  | nil => intro q _ t ht; simp at ht
  | cons t ts ih =>
    intro q hp x hx
    obtain ⟨a, m, h1, h2, h3, h4, h5, h6, h7⟩ := hp
    rcases List.mem_cons.1 hx with rfl | hx
    · omega
    · exact ih _ h7 x hx
theorem back_f (a : ByteArray) (k : Nat) (hk : 20000 ≤ k) : dayshiftlaw07_LexBack.f k a = some true := by
  by_cases hs : 8192 < a.size
  · unfold dayshiftlaw07_LexBack.f
    rw [tokens_big a hs]
    simp only [Option.bind_some]
    rw [if_neg (by omega), if_pos (by rfl), known_f k (by omega)]
    rfl
  · unfold dayshiftlaw07_LexBack.f
    rw [tokens_f a (by omega) k (by omega)]
    cases hx : lexF (bytesOf a) 0 with
    | error e =>
      simp only [Option.bind_some]
      rw [if_neg (by omega), if_pos (by rfl), known_f k (by omega)]
      rfl
    | ok ts =>
      simp only [Option.bind_some]
      rw [if_pos trivial]
      have hp := lexF_pl (bytesOf a) a.size 0 ts (by rw [List.drop_zero, bytesOf_length]; exact Nat.le_refl _) (Nat.zero_le _) (by rw [List.drop_zero]; exact hx)
      have hn := pl_len _ _ _ hp (Nat.zero_le _)
      have hsz := pl_size _ _ _ hp
      rw [bytesOf_length] at hn hsz
      have hself := lexF_self a.size (bytesOf a) 0 ts (by rw [bytesOf_length]; exact Nat.le_refl _) (bytes_by a) hx
      obtain ⟨us, h1, h2, h3⟩ := lexF_jn ts 0 hself
      have hjl := jn_len 8192 (ts.map fun t => bytesOf t.f1) (fun w hw => by
        obtain ⟨t, ht, rfl⟩ := List.mem_map.1 hw
        rw [bytesOf_length]
        have := hsz t ht
        omega)
      rw [List.length_map] at hjl
      have hbj := bytes_join ts
      generalize hJ : (⟨(Lib.join (ts.map (·.f1.data.toList)) [32]).toArray⟩ : ByteArray) = J at hbj
      have hJs : J.size = (Lib.join (ts.map (·.f1.data.toList)) [32]).length := by
        rw [← hJ, ← data_length]
      have hJl : J.size ≤ ts.length * 8193 := by
        have : J.size = (jn (ts.map fun t => bytesOf t.f1)).length := by rw [← hbj, bytesOf_length]
        omega
      have hJ2 : J.size ≤ 67125249 := Nat.le_trans hJl (Nat.le_trans (Nat.mul_le_mul_right 8193 (by omega : ts.length ≤ 8193)) (by decide))
      have hjf : lex_Join.f ts = some J := by
        unfold lex_Join.f
        rw [if_pos ⟨by omega, by omega⟩, hJ]
      rw [hjf]
      simp only [Option.bind_some]
      by_cases hb : 8192 < J.size
      · rw [tokens_big J hb]
        simp only [Option.bind_some]
        rw [if_pos (by omega), if_pos trivial, known_f k (by omega)]
        rfl
      · rw [tokens_f J (by omega) k (by omega), hbj, h1]
        simp only [Option.bind_some]
        rw [if_neg (by omega), if_pos trivial, taken_f ts (by omega) k (by omega), taken_f us (by omega) k (by omega)]
        simp only [Option.bind_some]
        rw [same_f _ _ (by rw [List.length_map]; omega) (by rw [List.length_map, List.length_map, h2]) (fun i x y hx hy => by
          rw [List.getElem?_map] at hx hy
          cases h1 : ts[i]? with
          | none => rw [h1] at hx; cases hx
          | some u =>
            cases h2 : us[i]? with
            | none => rw [h2] at hy; cases hy
            | some v =>
              rw [h1] at hx
              rw [h2] at hy
              simp only [Option.map_some, Option.some.injEq] at hx hy
              subst hx
              subst hy
              exact h3 i u v h1 h2)]
        simp only [Option.bind_some]
        rw [if_pos trivial, known_f k (by omega)]
        rfl
theorem LexBack : dayshiftlaw07_LexBack.Pure := fun a _ => ⟨_, back_f a 20000 (Nat.le_refl _)⟩
end Go.Proofs.Ytklpcmfigfigcaa.Pure
