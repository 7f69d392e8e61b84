/- A play begins; one step of it. No conditions beside those in each theorem. -/
import Derived.Test.YtofpkmfjigjlhaaSv31
namespace Go.Proofs.Ytofpkmfjigjlhaa.Own
open Go.RowKit
set_option linter.unusedSimpArgs false
set_option linter.unusedVariables false
theorem begin_k {w W : World} {rs : List (Nat × List Value)} (HK : KR w rs W) : Calls Try.prog 8 #[] W fun e W' => ∃ P A D, e = .returned (.pointer (some ⟨P, 0, none⟩)) ∧ PLE w W' P A D pyNew rs := by
  have n0 := new_k HK 0 (.inl rfl)
  go_enter Try.func8, Try.ntmps8
  go_wp2_with fail
  refine n0.mono ?_
  rintro e w1 ⟨D0, rfl, K1⟩
  have n1 := new_k K1 1 (.inr rfl)
  clear n0
  go_wp2_with fail
  refine n1.mono ?_
  rintro e w2 ⟨D1, rfl, K2⟩
  clear n1 K1
  have P0 := px_new (px_new (px_two K2) [.pointer (some ⟨D0, 0, none⟩), .pointer (some ⟨D1, 0, none⟩)] 31) [.slice (some ⟨w2.heap.size, 0, none⟩) 2 2, .slice none 0 0, .int .i64 0] 35
  rw [World.size_alloc] at P0
  have P0 : Hid (PX w _ _ _ _ _ _) := P0
  clear K2 HK
  go_wp2_with fail
  go_ret
  exact ⟨_, _, _, rfl, rs, _, _, _, [], fun q hq => hq, P0.out, ws_nil 10, rfl, fun j u x hu => by simp at hu, by simp [pyNew]⟩
section
variable {w W : World} {P A : Nat} {D : Bool → Nat} {p : PY} {im : List (Nat × List Value)} {lv : Bool → Value} {wv : Value} {wx : List (Nat × List Value)} {us : List Value}
/-- One step. -/
theorem step_k (h : PLE w W P A D p im) (kind who num : Int) (hwho : (Lit.int .i64 who).wf = true) (hnum : (Lit.int .i64 num).wf = true) (hk0 : 0 ≤ p.k) (hk1 : p.k ≤ 100000) :
    Calls Try.prog 9 #[.pointer (some ⟨P, 0, none⟩), .agg #[.int .i64 kind, .int .i64 who, .int .i64 num]] W fun e W' => e = .returned (.tuple #[]) ∧ PLE w W' P A D (pyStep p kind (two who) num) im := by
  obtain ⟨im', lv, wv, wx, us, hm, h⟩ := h
  have fin : ∀ {e : Ending} {W' : World}, (e = .returned (.tuple #[]) ∧ PLE w W' P A D (pyStep p kind (two who) num) im') → e = .returned (.tuple #[]) ∧ PLE w W' P A D (pyStep p kind (two who) num) im := fun h => ⟨h.1, ple_mono h.2 hm⟩
  by_cases ha : kind = 0 ∨ kind = 1 ∨ kind = 2
  · exact (step_app h who num hwho hnum kind ha hk0 hk1).mono (fun _ _ h => fin h)
  by_cases hb : kind = 3 ∨ kind = 4
  · exact (step_ship h who num hwho hnum kind hb hk0 hk1).mono (fun _ _ h => fin h)
  by_cases hc : kind = 5 ∨ kind = 6 ∨ kind = 7 ∨ kind = 9
  · exact (step_come h who num hwho hnum kind hc hk0 hk1).mono (fun _ _ h => fin h)
  by_cases hd : kind = 8
  · exact (step_lose h who num hwho hnum kind hd hk0 hk1).mono (fun _ _ h => fin h)
  by_cases he : kind = 10
  · exact (step_prom h who num hwho hnum kind he hk0 hk1).mono (fun _ _ h => fin h)
  by_cases hf : kind = 11
  · exact (step_dem h who num hwho hnum kind hf hk0 hk1).mono (fun _ _ h => fin h)
  · exact (step_other h who num hwho hnum kind (by omega) hk0 hk1).mono (fun _ _ h => fin h)
theorem step_kb (p : PY) (kind : Int) (w : Bool) (num : Int) (h0 : 0 ≤ p.k) : 0 ≤ (pyStep p kind w num).k ∧ (pyStep p kind w num).k ≤ p.k + 1 := by
  have hs : ∀ m, (pyShip p w m).k = p.k := fun m => by unfold pyShip; split <;> rfl
  have hc : ∀ x, (pyCome p x).k = p.k := fun x => by unfold pyCome; split <;> rfl
  unfold pyStep
  (repeat' split)
  all_goals first
    | (show 0 ≤ p.k + 1 ∧ p.k + 1 ≤ p.k + 1; omega)
    | (rw [hc]; omega)
    | (show 0 ≤ (pyCome p _).k ∧ (pyCome p _).k ≤ p.k + 1; rw [hc]; omega)
    | (rw [hs]; omega)
    | (show 0 ≤ p.k ∧ p.k ≤ p.k + 1; omega)
end
end Go.Proofs.Ytofpkmfjigjlhaa.Own
