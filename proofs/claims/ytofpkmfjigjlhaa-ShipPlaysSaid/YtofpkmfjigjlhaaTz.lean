/- Take in all cases; what a place's numbers can be behind each call. No conditions beside those in each theorem. -/
import Derived.Test.YtofpkmfjigjlhaaTy
namespace Go.Proofs.Ytofpkmfjigjlhaa.Own
open Go.RowKit
set_option linter.unusedSimpArgs false
set_option linter.unusedVariables false
theorem nb_new (me : Int) (h : me = 0 ∨ me = 1) : NB (sNew me) := ⟨h, by simp [sNew], by simp [sNew], fun x hx => by simp [sNew] at hx, by simp [sNew], by simp [sNew], fun _ => Nat.le_refl _⟩
theorem nb_app {n : SN} (h : NB n) (d : List Int) : NB (sApp n d).1 := by
  unfold sApp
  split
  · exact h
  · split
    · exact h
    · split
      · exact h
      · rename_i h1 h2 h3
        have := h.len
        have hm := h.mark
        refine ⟨h.me, h.ep, by simp; omega, fun x hx => ?_, h.safe, h.mark, fun hl => by have := h.ld hl; simp; omega⟩
        rcases List.mem_append.1 hx with hx | hx
        · exact h.data x hx
        · rw [List.mem_singleton.1 hx]; simp; omega
theorem chain_mem {e : Int} : ∀ (l : List SE) (last : Int), chain e last l = true → ∀ x ∈ l, x.2.length ≤ 60000 := by
  intro l
  induction l with
  | nil => intro last _ x hx; simp at hx
  | cons y l ih =>
    intro last h x hx
    rw [chain, Bool.and_eq_true] at h
    rcases List.mem_cons.1 hx with rfl | hx
    · have := h.1; simp at this; exact this.2.2
    · exact ih _ h.2 x hx
theorem sRight_bd {p : SP} (h : sRight p = true) : (0 ≤ p.ep ∧ p.ep ≤ 4611686018427387904) ∧ (0 ≤ p.at_ ∧ p.at_ ≤ 4096) ∧ (0 ≤ p.safe ∧ p.safe ≤ 4096) ∧ (p.l.length : Int) ≤ 4096 - p.at_ ∧ ∀ x ∈ p.l, x.2.length ≤ 60000 := by
  unfold sRight inE inN at h
  simp only [Bool.and_eq_true, decide_eq_true_eq] at h
  exact ⟨h.1.1.1.1.1.1, h.1.1.1.1.2, h.1.1.1.2, h.1.1.2, chain_mem _ _ h.2⟩
theorem sMerge_mem {l m : List SE} {a : Nat} : ∀ x ∈ sMerge l a m, x ∈ l ∨ x ∈ m := by
  intro x hx
  unfold sMerge at hx
  split at hx
  · rcases List.mem_append.1 hx with hx | hx
    · exact .inl ((List.take_sublist _ _).subset hx)
    · exact .inr ((List.drop_sublist _ _).subset hx)
  · exact .inl hx
theorem sMerge_len {l m : List SE} {a b : Nat} (h1 : l.length ≤ b) (h2 : a + m.length ≤ b) : (sMerge l a m).length ≤ b := by
  unfold sMerge
  have := fresh_le (l.drop a) m
  split
  · rw [List.length_append, List.length_take, List.length_drop]; omega
  · exact h1
theorem nb_take {n : SN} (h : NB n) (p : SP) : NB (sTake n p).1 := by
  unfold sTake
  split
  · exact h
  · rename_i hr
    obtain ⟨h1, h2, h3, h4, h5⟩ := sRight_bd (by simpa using hr)
    split
    · exact h
    · split
      · exact ⟨h.me, h1, h.len, h.data, h.safe, h.mark, fun hl => by cases hl⟩
      · split
        · exact ⟨h.me, h1, h.len, h.data, h.safe, h.mark, fun hl => by cases hl⟩
        · have := h.safe
          refine ⟨h.me, h1, sMerge_len h.len (by omega), fun x hx => ?_, by simp only; omega, h.mark, fun hl => by cases hl⟩
          rcases sMerge_mem x hx with hx | hx
          · exact h.data x hx
          · exact h5 x hx
theorem nb_taken {n : SN} (h : NB n) (a : SA) : NB (sTaken n a).1 := by
  unfold sTaken
  split
  · exact h
  · rename_i h0
    have hi : inE a.1 = true ∧ inN a.2.2 = true := by
      rcases bool_false_or (inE a.1) with h1 | h1
      · exact absurd (.inl h1) h0
      · rcases bool_false_or (inN a.2.2) with h2 | h2
        · exact absurd (.inr h2) h0
        · exact ⟨h1, h2⟩
    unfold inE inN at hi
    simp only [decide_eq_true_eq] at hi
    have hs := h.safe
    have hm := h.mark
    have hl := h.len
    split
    · exact ⟨h.me, hi.1, h.len, h.data, h.safe, h.mark, fun hl => by cases hl⟩
    · split
      · exact h
      · split
        · exact h
        · split
          · exact ⟨h.me, h.ep, h.len, h.data, by simp only; omega, by simp only; omega, fun _ => by simp only; omega⟩
          · exact ⟨h.me, h.ep, h.len, h.data, h.safe, by simp only; omega, fun hld => by have := h.ld hld; simp only; omega⟩
theorem nb_prom {n : SN} (h : NB n) : NB (sProm n).1 := by
  unfold sProm
  split
  · exact h
  · split
    · exact h
    · have h1 := h.ep
      have h2 := h.me
      rename_i h3
      refine ⟨h.me, ?_, h.len, h.data, h.safe, h.len, fun _ => Nat.le_refl _⟩
      unfold sNext at h3 ⊢
      simp only
      omega
theorem nb_dem {n : SN} (h : NB n) : NB (sDem n).1 := by
  unfold sDem
  split
  · exact h
  · exact ⟨h.me, h.ep, h.len, h.data, h.safe, h.mark, fun hl => by cases hl⟩
section
variable {w W : World} {rs im : List (Nat × List Value)} {n : SN} {lv : Value} {D : Nat}
theorem take_k (HK : KR w ((D, ncl n lv) :: rs) W) (hs : ∀ p ∈ im, p ∈ rs) (HE : EL im lv n.l) (hB : NB n) (p : SP) (m : Nat) (hm : p.l.length = m) (hm2 : m ≤ 100000) (hz : ∀ x ∈ p.l, x.2.length ≤ 140737488351232) (sp : Option Addr) (c : Nat) (hP : EL rs (.slice sp m c) p.l) :
    Calls Try.prog 22 #[.pointer (some ⟨D, 0, none⟩), .agg #[.int .i64 p.ep, .int .i64 p.at_, .int .i64 p.bf, .slice sp m c, .int .i64 p.safe]] W (TkPost w rs im D (sTake n p)) := by
  have hmc : m ≤ c := by
    obtain ⟨s0, c0, he, hc⟩ := el_form hP
    injection he with _ h1 h2
    omega
  have h1 : ∀ W1, KR w ((D, ncl n lv) :: rs) W1 → ELV W1 sp p.l := fun W1 H => el_read (kr_tail H) hP
  by_cases h : sRight p = false ∨ (p.ep < n.ep ∨ (p.ep = n.ep ∧ n.ld = true)) ∨ (n.l.length : Int) < p.at_ ∨ epAt n.l p.at_.toNat ≠ p.bf
  · exact take_no HK hs HE hB p m hm hm2 hz sp c h1 h
  · have a1 : sRight p = true := by
      rcases bool_false_or (sRight p) with h2 | h2
      · exact absurd (.inl h2) h
      · exact h2
    exact take_yes HK hs HE hB p m hm hm2 hz sp c hmc h1 (fun D1 a t ac tc V H => el_read (kr_tail (kr_tail (kr_tail H))) hP) a1 (fun h2 => h (.inr (.inl h2))) (fun h2 => h (.inr (.inr (.inl h2)))) (fun h2 => h (.inr (.inr (.inr h2))))
end
end Go.Proofs.Ytofpkmfjigjlhaa.Own
