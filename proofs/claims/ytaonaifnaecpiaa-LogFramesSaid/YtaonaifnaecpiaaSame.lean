/- What dayshiftref04's Same does. No conditions beside those in each theorem. -/
import Derived.Test.YtaonaifnaecpiaaLL
namespace Go.Proofs.Ytaonaifnaecpiaa.Own
open Go.RowKit Go.Proofs.YtaonaifnaecpiaaW.PrintWords
set_option linter.unusedSimpArgs false
set_option linter.unusedVariables false
theorem son_inj {a b : List Int} (ha : isB a) (hb : isB b) (h : strOfNums a = strOfNums b) : a = b := by
  have h1 : (a.map fun n => UInt8.ofNat n.toNat) = (b.map fun n => UInt8.ofNat n.toNat) := by
    rw [← strOfNums_data, ← strOfNums_data, h]
  have h2 := congrArg (List.map (fun u : UInt8 => (u.toNat : Int))) h1
  rw [List.map_map, List.map_map] at h2
  have key : ∀ l : List Int, isB l → l.map ((fun u : UInt8 => (u.toNat : Int)) ∘ fun n => UInt8.ofNat n.toNat) = l := fun l hl => by
    conv => rhs; rw [← List.map_id l]
    refine List.map_congr_left fun x hx => ?_
    have := hl x hx
    simp only [Function.comp_apply, UInt8.toNat_ofNat', id_eq]
    omega
  rwa [key a ha, key b hb] at h2
theorem bytes_ne {x y : ByteArray} (h : ¬ x = y) : (x.toList == y.toList) = false := by
  rw [beq_eq_false_iff_ne]
  intro e
  rw [ByteArray.toList_eq, ByteArray.toList_eq] at e
  exact h (ByteArray.ext (Array.toList_inj.1 e))
def isBL (l : List (List Int)) : Prop := ∀ r ∈ l, isB r
theorem cons_take {l : List (List Int)} {k : Nat} (h : k < l.length) : l.take (k + 1) = l.take k ++ [l[k]] := List.take_succ_eq_append_getElem h
theorem cell_drewN (W : World) (n : Nat) (A : Addr) : (W.drewN n).cell? A = W.cell? A := rfl
set_option maxRecDepth 100000 in
set_option maxHeartbeats 1000000 in
theorem same_k {W : World} (ra rb : List (List Int)) (na nb : Nat) (hna : Hid (ra.length = na)) (hnb : Hid (rb.length = nb)) (ha : isBL ra) (hb : isBL rb) (h2 : na ≤ 9223372036854775807) (h3 : nb ≤ 9223372036854775807) (sa sb : Option Addr) (ca cb : Nat) (hA : LLV W sa ra) (hB : LLV W sb rb) :
    Calls Try.prog 15 #[.slice sa na ca, .slice sb nb cb] W fun e W' => e = .returned (.bool (decide (ra = rb))) ∧ ∃ k, W' = W.drewN k := by
  have hai : (na : Int) ≤ 9223372036854775807 := by omega
  have hbi : (nb : Int) ≤ 9223372036854775807 := by omega
  clear h2 h3
  by_cases hne : na = nb
  · subst hne
    have HA : Hid (LLV W sa ra) := hA
    have HB : Hid (LLV W sb rb) := hB
    have IA : Hid (isBL ra) := ha
    have IB : Hid (isBL rb) := hb
    clear hA hB ha hb
    go_enter Try.func15, Try.ntmps15
    go_wp2
    go_loopw [5] (fun v5 W' => ∃ k m : Nat, v5 = .int .i64 k ∧ k ≤ na ∧ W' = W.drewN m ∧ ra.take k = rb.take k) (fun v5 _ => na - (intOf v5).toNat)
    case atStart => exact ⟨0, 0, rfl, Nat.zero_le _, (World.drewN_zero _).symm, rfl⟩
    case round =>
      obtain ⟨k, m, rfl, hk, rfl, hT⟩ := hrel
      by_cases hlt : k < na
      · have hka : k < ra.length := by rw [hna.out]; exact hlt
        have hkb : k < rb.length := by rw [hnb.out]; exact hlt
        obtain ⟨A, rfl, hcA⟩ := HA.out (by omega)
        obtain ⟨B, rfl, hcB⟩ := HB.out (by omega)
        obtain ⟨sj, cj, c1, S1⟩ := hcA k _ (List.getElem?_eq_getElem hka)
        obtain ⟨tj, dj, c2, S2⟩ := hcB k _ (List.getElem?_eq_getElem hkb)
        have HT : Hid (ra.take k = rb.take k) := hT
        have JA := IA.out _ (List.getElem_mem hka)
        have JB := IB.out _ (List.getElem_mem hkb)
        have q1 : ∀ nq, (convert 23 9 (.slice sj ra[k].length cj)).run Try.prog ((W.drewN m).drewN nq) = .ok (.string (strOfNums ra[k])) ((W.drewN m).drewN nq) := fun nq => conv_cells _ cj rfl (srcV_keep S1 (bw_drewN (bw_drewN (Below.refl _ _) m) nq))
        have q2 : ∀ nq, (convert 23 9 (.slice tj rb[k].length dj)).run Try.prog ((W.drewN m).drewN nq) = .ok (.string (strOfNums rb[k])) ((W.drewN m).drewN nq) := fun nq => conv_cells _ dj rfl (srcV_keep S2 (bw_drewN (bw_drewN (Below.refl _ _) m) nq))
        rw [← cell_drewN W m] at c1 c2
        have hki : (k : Int) < (na : Int) := by omega
        have HR : Hid (ra.take (k + 1) = rb.take (k + 1) ↔ strOfNums ra[k] = strOfNums rb[k]) := by
          constructor
          · intro h
            rw [cons_take hka, cons_take hkb] at h
            have := (List.append_inj' h rfl).2
            simp only [List.cons.injEq, and_true] at this
            rw [this]
          · intro h
            rw [cons_take hka, cons_take hkb, hT, son_inj JA JB h]
        have HE : Hid (strOfNums ra[k] ≠ strOfNums rb[k] → decide (ra = rb) = false) := by
          intro h
          refine decide_eq_false fun e => h ?_
          subst e
          rfl
        generalize strOfNums ra[k] = x1 at q1 HR HE
        generalize strOfNums rb[k] = x2 at q2 HR HE
        generalize ra[k].length = y1 at q1 c1
        generalize rb[k].length = y2 at q2 c2
        have hW : ∀ j, (W.drewN m).drewN j = W.drewN (m + j) := fun j => World.drewN_drewN _ _ _
        obtain ⟨W1, hW1⟩ : ∃ W1, W1 = W.drewN m := ⟨_, rfl⟩
        rw [← hW1] at q1 q2 c1 c2 hW ⊢
        have HW : Hid (∀ j, W1.drewN j = W.drewN (m + j)) := hW
        clear hW hW1
        clear hcA hcB HA HB S1 S2 JA JB
        by_cases hx : x1 = x2
        · subst hx
          have HT2 : Hid (ra.take (k + 1) = rb.take (k + 1)) := HR.out.2 rfl
          clear HR HE HT
          go_wp2_with fail
          go_quiet (fail)
          clear q1 q2 c1 c2
          go_wp2_with fail
          go_round
          case rel => exact ⟨k + 1, _, by go_num, by omega, HW.out _, HT2.out⟩
          case measure => (simp [intOf]; try omega)
        · have HE2 : Hid (decide (ra = rb) = false) := HE.out hx
          have hbl := bytes_ne hx
          clear HR HE HT
          go_wp2_with fail
          go_quiet (fail)
          clear q1 q2 c1 c2
          go_wp2_with fail
          go_ret
          exact ⟨by rw [HE2.out] <;> rfl, _, HW.out _⟩
      · obtain rfl : k = na := by omega
        have hr : ra = rb := by
          rw [List.take_of_length_le (by rw [hna.out]; omega), List.take_of_length_le (by rw [hnb.out]; omega)] at hT
          exact hT
        have HD : Hid (decide (ra = rb) = true) := decide_eq_true hr
        clear hT hr
        go_wp2_with fail
        go_ret
        exact ⟨by rw [HD.out] <;> rfl, m, rfl⟩
  · have hd : decide (ra = rb) = false := decide_eq_false fun e => hne (by rw [← hna.out, ← hnb.out, e])
    rw [hd]
    have hni : ¬ (na : Int) = (nb : Int) := by omega
    clear hd hA hB
    go_enter Try.func15, Try.ntmps15
    go_wp2
    go_ret
    exact ⟨rfl, 0, (World.drewN_zero _).symm⟩
end Go.Proofs.Ytaonaifnaecpiaa.Own
