/- What dayshift/when's Later and dayshift/job's Done do, as plain functions: each call returns what its plain function says and leaves what was there. -/
import Derived.Test.YtfefbmglimdgjaaJob5
import Derived.WalkLawsBesides
namespace Go.Proofs.Ytfefbmglimdgjaa.Own
open Go.RowKit
attribute [local go_sem] mm_max2 mm_min2 mm_max_two mm_min_two

def laterZ (c m : Int) : Int := if m < 0 then c else if c + m < 5258966399 then c + m else 5258966399
theorem later_any (c m : Int) (w : World) (h0 : 0 ≤ c) (h1 : c ≤ 5258966399) : Calls Try.prog 46 #[.int .i64 c, .int .i64 m] w fun e w' => e = .returned (.int .i64 (laterZ c m)) ∧ w = w' := by
  by_cases hm : m < 0
  · have HE : Hid (laterZ c m = c) := by show _ = _; unfold laterZ; rw [if_pos hm]
    go_enter Try.func46, Try.ntmps46
    go_wp2
    all_goals go_ret
    all_goals exact ⟨by rw [HE]; rfl, rfl⟩
  · have hm0 : 0 ≤ m := by omega
    by_cases hs : c + m < 5258966399
    · have HE : Hid (laterZ c m = c + m) := by show _ = _; unfold laterZ; rw [if_neg hm, if_pos hs]
      have h2 : m ≤ 5258966399 := by omega
      have h3 : decide (5258966399 - c < m) = false := decide_eq_false (by omega)
      go_enter Try.func46, Try.ntmps46
      go_wp2
      all_goals go_ret
      all_goals exact ⟨by rw [HE]; rfl, rfl⟩
    · have HE : Hid (laterZ c m = 5258966399) := by show _ = _; unfold laterZ; rw [if_neg hm, if_neg hs]
      by_cases hc : c = 5258966399
      · subst hc
        go_enter Try.func46, Try.ntmps46
        go_wp2
        all_goals go_ret
        all_goals exact ⟨by rw [HE]; rfl, rfl⟩
      · by_cases hq : 5258966399 - c < m
        · have h3 : decide (5258966399 - c < m) = true := decide_eq_true hq
          go_enter Try.func46, Try.ntmps46
          go_wp2
          all_goals go_ret
          all_goals exact ⟨by rw [HE]; rfl, rfl⟩
        · have h3 : decide (5258966399 - c < m) = false := decide_eq_false hq
          have h2 : m ≤ 5258966399 := by omega
          go_enter Try.func46, Try.ntmps46
          go_wp2
          all_goals go_ret
          all_goals exact ⟨by rw [HE]; rfl, rfl⟩
attribute [irreducible] laterZ

def doneN (s : St) (code every dr retry c : Int) : St :=
  if code ≠ 0 ∧ s.tries < min retry 99 ∧ s.runs < 99 then { s with run := 0, state := 0, at_ := c, tries := s.tries + 1 }
  else if code ≠ 0 then { s with run := 0, state := 3 }
  else if 0 < every ∧ s.runs < dr then { s with run := 0, state := 0, at_ := laterZ c every, tries := 0 }
  else { s with run := 0, state := 2, tries := 0 }

set_option maxHeartbeats 4000000 in
theorem to_done (s : St) (why code every dr retry c : Int) (bc bd bk : Nat) (w : World) (hbc : bc < w.heap.size) (hbd : bd < w.heap.size) (hbk : bk < w.heap.size)
    (cc : w.cell? ⟨bc, 0, none⟩ = some (.int .i64 code)) (cd1 : w.cell? ⟨bd, 21, none⟩ = some (.int .i64 every)) (cd2 : w.cell? ⟨bd, 22, none⟩ = some (.int .i64 dr)) (cd3 : w.cell? ⟨bd, 23, none⟩ = some (.int .i64 retry)) (ck : w.cell? ⟨bk, 0, none⟩ = some (.int .i64 c))
    (hr : why = 0 → 0 ≤ s.tries ∧ s.tries ≤ 99 ∧ 0 ≤ c ∧ c ≤ 5258966399) :
    Calls Try.prog 41 #[s.v, .int .i64 why, .func (.func 45) #[] #[.pointer (some ⟨bc, 0, none⟩), .pointer (some ⟨bd, 0, none⟩), .pointer (some ⟨bk, 0, none⟩)]] w fun e w' => e = .returned (.tuple #[(toS why (doneN s code every dr retry c)).v, .int .i64 why]) ∧ Below w.heap.size w w' := by
  obtain ⟨id, job, day, state, hold, force, runs, tries, run, at_⟩ := s
  by_cases h0 : why = 0
  · subst h0
    obtain ⟨ht0, ht1, hc0, hc1⟩ := hr rfl
    clear hr
    dsimp only at ht0 ht1
    have hT : ∀ s : St, toS 0 s = s := fun s => by unfold toS; rw [if_pos rfl]
    rw [hT]
    have nbc1 : ¬ bc = w.heap.size := by omega
    have nbc2 : bc < w.heap.size + 1 := by omega
    have nbc3 : ¬ bc = w.heap.size + 1 := by omega
    have nbd1 : ¬ bd = w.heap.size := by omega
    have nbd2 : bd < w.heap.size + 1 := by omega
    have nbd3 : ¬ bd = w.heap.size + 1 := by omega
    have nbk1 : ¬ bk = w.heap.size := by omega
    have nbk2 : bk < w.heap.size + 1 := by omega
    have nbk3 : ¬ bk = w.heap.size + 1 := by omega
    by_cases hcode : code = 0
    · subst hcode
      by_cases he : 0 < every
      · have hev := decide_eq_true he
        by_cases hd : runs < dr
        · have hdr := decide_eq_true hd
          have HE : Hid (doneN ⟨id, job, day, state, hold, force, runs, tries, run, at_⟩ 0 every dr retry c = ⟨id, job, day, 0, hold, force, runs, 0, 0, laterZ c every⟩) := by
            show _ = _; unfold doneN; rw [if_neg (fun h => h.1 rfl), if_neg (fun h => h rfl), if_pos ⟨he, hd⟩]
          rw [HE]
          simp only [St.v]
          go_enter Try.func41, Try.ntmps41
          go_wp2
          go_region
          go_wp2
          go_region
          go_wp2_with (go_at_call 46; refine (later_any _ _ _ hc0 hc1).mono ?_; rintro e w' ⟨rfl, rfl⟩)
          go_end0
          go_wp2
          refine bodyPost_ret (v := .tuple #[.agg #[.int .i64 id, .int .i64 job, .int .i64 day, .int .i64 0, .bool hold, .bool force, .int .i64 runs, .int .i64 0, .int .i64 0, .int .i64 (laterZ c every)], .int .i64 0]) (by simp [results, Try.results41, go_sem]) rfl ⟨rfl, by repeat (with_reducible first | exact Below.refl _ _ | assumption | refine bw_step ?_ (by assumption) | refine bw_alloc ?_ _ | refine bw_drew ?_)⟩
        · have hdr := decide_eq_false hd
          have HE : Hid (doneN ⟨id, job, day, state, hold, force, runs, tries, run, at_⟩ 0 every dr retry c = ⟨id, job, day, 2, hold, force, runs, 0, 0, at_⟩) := by
            show _ = _; unfold doneN; rw [if_neg (fun h => h.1 rfl), if_neg (fun h => h rfl), if_neg (fun h => hd h.2)]
          rw [HE]
          simp only [St.v]
          go_enter Try.func41, Try.ntmps41
          go_wp2
          go_region
          go_wp2
          go_region
          go_wp2
          go_end0
          go_wp2
          refine bodyPost_ret (v := .tuple #[.agg #[.int .i64 id, .int .i64 job, .int .i64 day, .int .i64 2, .bool hold, .bool force, .int .i64 runs, .int .i64 0, .int .i64 0, .int .i64 at_], .int .i64 0]) (by simp [results, Try.results41, go_sem]) rfl ⟨rfl, by repeat (with_reducible first | exact Below.refl _ _ | assumption | refine bw_step ?_ (by assumption) | refine bw_alloc ?_ _ | refine bw_drew ?_)⟩
      · have hev := decide_eq_false he
        have HE : Hid (doneN ⟨id, job, day, state, hold, force, runs, tries, run, at_⟩ 0 every dr retry c = ⟨id, job, day, 2, hold, force, runs, 0, 0, at_⟩) := by
          show _ = _; unfold doneN; rw [if_neg (fun h => h.1 rfl), if_neg (fun h => h rfl), if_neg (fun h => he h.1)]
        rw [HE]
        simp only [St.v]
        go_enter Try.func41, Try.ntmps41
        go_wp2
        go_region
        go_wp2
        go_region
        go_wp2
        go_end0
        go_wp2
        refine bodyPost_ret (v := .tuple #[.agg #[.int .i64 id, .int .i64 job, .int .i64 day, .int .i64 2, .bool hold, .bool force, .int .i64 runs, .int .i64 0, .int .i64 0, .int .i64 at_], .int .i64 0]) (by simp [results, Try.results41, go_sem]) rfl ⟨rfl, by repeat (with_reducible first | exact Below.refl _ _ | assumption | refine bw_step ?_ (by assumption) | refine bw_alloc ?_ _ | refine bw_drew ?_)⟩
    · have hcb : (code != 0) = true := by simpa using hcode
      by_cases hm : 99 < retry
      · skip
        by_cases ht : tries < 99
        · have htb := decide_eq_true ht
          by_cases hn : runs < 99
          · have hnb := decide_eq_true hn
            have HE : Hid (doneN ⟨id, job, day, state, hold, force, runs, tries, run, at_⟩ code every dr retry c = ⟨id, job, day, 0, hold, force, runs, tries + 1, 0, c⟩) := by
              show _ = _; unfold doneN; rw [if_pos ⟨hcode, by show tries < min retry 99; omega, hn⟩]
            rw [HE]
            simp only [St.v]
            go_enter Try.func41, Try.ntmps41
            go_wp2
            go_region
            go_wp2
            go_region
            go_end0
            go_wp2
            refine bodyPost_ret (v := .tuple #[.agg #[.int .i64 id, .int .i64 job, .int .i64 day, .int .i64 0, .bool hold, .bool force, .int .i64 runs, .int .i64 (tries + 1), .int .i64 0, .int .i64 c], .int .i64 0]) (by simp [results, Try.results41, go_sem]) rfl ⟨rfl, by repeat (with_reducible first | exact Below.refl _ _ | assumption | refine bw_step ?_ (by assumption) | refine bw_alloc ?_ _ | refine bw_drew ?_)⟩
          · have hnb := decide_eq_false hn
            have HE : Hid (doneN ⟨id, job, day, state, hold, force, runs, tries, run, at_⟩ code every dr retry c = ⟨id, job, day, 3, hold, force, runs, tries, 0, at_⟩) := by
              show _ = _; unfold doneN; rw [if_neg (fun h => hn h.2.2), if_pos hcode]
            rw [HE]
            simp only [St.v]
            go_enter Try.func41, Try.ntmps41
            go_wp2
            go_region
            go_wp2
            go_end0
            go_wp2
            refine bodyPost_ret (v := .tuple #[.agg #[.int .i64 id, .int .i64 job, .int .i64 day, .int .i64 3, .bool hold, .bool force, .int .i64 runs, .int .i64 tries, .int .i64 0, .int .i64 at_], .int .i64 0]) (by simp [results, Try.results41, go_sem]) rfl ⟨rfl, by repeat (with_reducible first | exact Below.refl _ _ | assumption | refine bw_step ?_ (by assumption) | refine bw_alloc ?_ _ | refine bw_drew ?_)⟩
        · have htb := decide_eq_false ht
          have HE : Hid (doneN ⟨id, job, day, state, hold, force, runs, tries, run, at_⟩ code every dr retry c = ⟨id, job, day, 3, hold, force, runs, tries, 0, at_⟩) := by
            show _ = _; unfold doneN; rw [if_neg (fun h => ht (by have h2 : tries < min retry 99 := h.2.1; omega)), if_pos hcode]
          rw [HE]
          simp only [St.v]
          go_enter Try.func41, Try.ntmps41
          go_wp2
          go_region
          go_wp2
          go_end0
          go_wp2
          refine bodyPost_ret (v := .tuple #[.agg #[.int .i64 id, .int .i64 job, .int .i64 day, .int .i64 3, .bool hold, .bool force, .int .i64 runs, .int .i64 tries, .int .i64 0, .int .i64 at_], .int .i64 0]) (by simp [results, Try.results41, go_sem]) rfl ⟨rfl, by repeat (with_reducible first | exact Below.refl _ _ | assumption | refine bw_step ?_ (by assumption) | refine bw_alloc ?_ _ | refine bw_drew ?_)⟩
      · skip
        by_cases ht : tries < retry
        · have htb := decide_eq_true ht
          by_cases hn : runs < 99
          · have hnb := decide_eq_true hn
            have HE : Hid (doneN ⟨id, job, day, state, hold, force, runs, tries, run, at_⟩ code every dr retry c = ⟨id, job, day, 0, hold, force, runs, tries + 1, 0, c⟩) := by
              show _ = _; unfold doneN; rw [if_pos ⟨hcode, by show tries < min retry 99; omega, hn⟩]
            rw [HE]
            simp only [St.v]
            go_enter Try.func41, Try.ntmps41
            go_wp2
            go_region
            go_wp2
            go_region
            go_end0
            go_wp2
            refine bodyPost_ret (v := .tuple #[.agg #[.int .i64 id, .int .i64 job, .int .i64 day, .int .i64 0, .bool hold, .bool force, .int .i64 runs, .int .i64 (tries + 1), .int .i64 0, .int .i64 c], .int .i64 0]) (by simp [results, Try.results41, go_sem]) rfl ⟨rfl, by repeat (with_reducible first | exact Below.refl _ _ | assumption | refine bw_step ?_ (by assumption) | refine bw_alloc ?_ _ | refine bw_drew ?_)⟩
          · have hnb := decide_eq_false hn
            have HE : Hid (doneN ⟨id, job, day, state, hold, force, runs, tries, run, at_⟩ code every dr retry c = ⟨id, job, day, 3, hold, force, runs, tries, 0, at_⟩) := by
              show _ = _; unfold doneN; rw [if_neg (fun h => hn h.2.2), if_pos hcode]
            rw [HE]
            simp only [St.v]
            go_enter Try.func41, Try.ntmps41
            go_wp2
            go_region
            go_wp2
            go_end0
            go_wp2
            refine bodyPost_ret (v := .tuple #[.agg #[.int .i64 id, .int .i64 job, .int .i64 day, .int .i64 3, .bool hold, .bool force, .int .i64 runs, .int .i64 tries, .int .i64 0, .int .i64 at_], .int .i64 0]) (by simp [results, Try.results41, go_sem]) rfl ⟨rfl, by repeat (with_reducible first | exact Below.refl _ _ | assumption | refine bw_step ?_ (by assumption) | refine bw_alloc ?_ _ | refine bw_drew ?_)⟩
        · have htb := decide_eq_false ht
          have HE : Hid (doneN ⟨id, job, day, state, hold, force, runs, tries, run, at_⟩ code every dr retry c = ⟨id, job, day, 3, hold, force, runs, tries, 0, at_⟩) := by
            show _ = _; unfold doneN; rw [if_neg (fun h => ht (by have h2 : tries < min retry 99 := h.2.1; omega)), if_pos hcode]
          rw [HE]
          simp only [St.v]
          go_enter Try.func41, Try.ntmps41
          go_wp2
          go_region
          go_wp2
          go_end0
          go_wp2
          refine bodyPost_ret (v := .tuple #[.agg #[.int .i64 id, .int .i64 job, .int .i64 day, .int .i64 3, .bool hold, .bool force, .int .i64 runs, .int .i64 tries, .int .i64 0, .int .i64 at_], .int .i64 0]) (by simp [results, Try.results41, go_sem]) rfl ⟨rfl, by repeat (with_reducible first | exact Below.refl _ _ | assumption | refine bw_step ?_ (by assumption) | refine bw_alloc ?_ _ | refine bw_drew ?_)⟩
  · have hb : (why != 0) = true := by simpa using h0
    have hT : ∀ s : St, toS why s = St.zero := fun s => by unfold toS; rw [if_neg h0]
    rw [hT]
    simp only [St.v, St.zero]
    go_enter Try.func41, Try.ntmps41
    go_wp2
    refine bodyPost_ret (v := .tuple #[.agg #[.int .i64 0, .int .i64 0, .int .i64 0, .int .i64 0, .bool false, .bool false, .int .i64 0, .int .i64 0, .int .i64 0, .int .i64 0], .int .i64 why]) (by simp [results, Try.results41, go_sem]) rfl ⟨rfl, by repeat (with_reducible first | exact Below.refl _ _ | assumption | refine bw_step ?_ (by assumption) | refine bw_alloc ?_ _ | refine bw_drew ?_)⟩
attribute [irreducible] doneN
end Go.Proofs.Ytfefbmglimdgjaa.Own
