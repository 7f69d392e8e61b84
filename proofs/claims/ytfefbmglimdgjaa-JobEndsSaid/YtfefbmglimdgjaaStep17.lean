/- The law package's step, as a plain function. No conditions. -/
import Derived.Test.YtfefbmglimdgjaaKr17
import Derived.Test.YtfefbmglimdgjaaPure17c
namespace Go.Proofs.Ytfefbmglimdgjaa.Own
open Go.RowKit
theorem kr_newZ {w W : World} {rs : List (Nat × List Value)} (h : KR w rs W) (t : TypeId) : KR w ((W.heap.size, St.zero.l) :: rs) (W.alloc (.cells stZ.toArray t)) := by
  have : stZ = St.zero.l := by unfold stZ St.l; rfl
  rw [this]
  exact kr_new h _ t
theorem res_row2 {P : Program} {fn : Func} {p q : Tmp} {ty : TypeId} (h : fn.results = #[.cell p ty, .tmp q]) (tmps : Array Value) (w : World) (g : Nat) (cs : List Value) (d : TypeDesc)
    (hp : tmps.getD p undef = .pointer (some ⟨g, 0, none⟩)) (hc : w.rangeAt g 0 cs) (hu : P.underlying ty = some d) (hd : d.isRow = true) (hi : (P.info? ty).map (·.size) = some cs.length) :
    (results fn tmps).run P w = .ok (.tuple #[.agg cs.toArray, tmps.getD q undef]) w := by
  have hp' : tmps[p]?.getD undef = .pointer (some ⟨g, 0, none⟩) := by simpa using hp
  rw [Array.getD_eq_getD_getElem?]
  simp [results, h, hp', asAddr, run_loadVar_mid w g 0 ty cs d hc hu hd hi]
set_option maxHeartbeats 4000000 in
set_option maxRecDepth 20000 in
theorem step_r (kind : Int) (s : St) (c : Int) (w : World) : Calls Try.prog 28 #[.int .i64 kind, .agg s.l.toArray, .int .i64 c] w fun e w' => e = .returned (.tuple #[.agg (stepS kind s c).l.toArray, .int .i64 (stepE kind s c)]) ∧ Below w.heap.size w w' := by
  have HK : KR w [] w := kr_refl w
  go_enter Try.func28, Try.ntmps28
  go_wp2_with (first | (go_at_call 24; (with_reducible refine (hold_r s _).mono ?_); rintro e w' ⟨rfl, hq⟩; replace HK := kr_call HK hq; clear hq) | (go_at_call 25; (with_reducible refine (free_r s _).mono ?_); rintro e w' ⟨rfl, hq⟩; replace HK := kr_call HK hq; clear hq) | (go_at_call 26; (with_reducible refine (force_r s _).mono ?_); rintro e w' ⟨rfl, hq⟩; replace HK := kr_call HK hq; clear hq) | (go_at_call 27; (with_reducible refine (ok_r s _).mono ?_); rintro e w' ⟨rfl, hq⟩; replace HK := kr_call HK hq; clear hq) | (go_at_call 34; (with_reducible refine (kill_r s _).mono ?_); rintro e w' ⟨rfl, hq⟩; replace HK := kr_call HK hq; clear hq) | (go_at_call 23; (with_reducible refine (rerun_r s c _).mono ?_); rintro e w' ⟨rfl, hq⟩; replace HK := kr_call HK hq; clear hq) | (refine wl_boxK 35 _ (St.l _) HK rfl rfl rfl (fun HK2 => ?_); clear HK; have HK := HK2; clear HK2; (try simp only [World.size_alloc] at HK)) | (refine wl_alloc 35 stZ 10 rfl rfl stZ_zero ?_; replace HK := kr_newZ HK 35; (try simp only [World.size_alloc] at HK)) | (refine wl_load 35 _ rfl rfl _ 0 rfl (St.l _) _ (by first | exact kr_get HK 0 rfl | exact kr_get HK 1 rfl | exact kr_get HK 2 rfl | exact kr_get HK 3 rfl | exact kr_get HK 4 rfl | exact kr_get HK 5 rfl) row_under rfl (st_size _) ?_) | (refine wl_setK 35 _ _ _ _ _ HK 0 rfl rfl rfl rfl rfl (st_size _) (fun HK2 => ?_); clear HK; have HK := HK2; clear HK2; (try simp only [World.size_alloc] at HK); simp only [List.set_cons_zero, List.set_cons_succ] at HK) | (refine wl_setK 35 _ _ _ _ _ HK 1 rfl rfl rfl rfl rfl (st_size _) (fun HK2 => ?_); clear HK; have HK := HK2; clear HK2; (try simp only [World.size_alloc] at HK); simp only [List.set_cons_zero, List.set_cons_succ] at HK))
  all_goals (
    refine bodyPost_ret (res_row2 (p := 6) (q := 7) rfl _ _ _ _ _ rfl (by first | exact kr_get HK 0 rfl | exact kr_get HK 1 rfl) row_under rfl (st_size _)) rfl ⟨?_, HK.below⟩
    unfold stepE stepS
    simp_all)
end Go.Proofs.Ytfefbmglimdgjaa.Own
