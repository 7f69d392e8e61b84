/- dayshift/lex: the map of what begins what. No conditions beside those in each theorem. -/
import Derived.Test.YtklpcmfigfigcaaLx1
import Derived.Deep.RegionHeld3
import Derived.MapKept
namespace Go.Proofs.Ytklpcmfigfigcaa.Own
open Go.RowKit Go.Proofs.YtklpcmfigfigcaaW.PrintWords Go.Proofs.Ytklpcmfigfigcaa.Pk
set_option linter.unusedSimpArgs false
set_option linter.unusedVariables false
theorem ck_kind (e : Bool) (a b : Bool) (w : World) : (Instr.checkKey e 10000 55 (.agg #[.bool a, .bool b])).run Try.prog w = .ok () w := by
  cases e <;> cases a <;> cases b <;> kernel_rfl
theorem eq_kind (a b c d : Bool) (w : World) : (Op.equal 55 (.agg #[.bool a, .bool b]) (.agg #[.bool c, .bool d])).run Try.prog w = .ok (a == c && b == d) w := by
  cases a <;> cases b <;> cases c <;> cases d <;> kernel_rfl
theorem und_map : Try.prog.underlying 52 = some (.map 55 3) := by kernel_rfl
theorem und_kind : ∃ fs, Try.prog.underlying 55 = some (.struct fs) := ⟨_, Try.underlying55⟩
def wput (w : World) (g : Nat) (o : Obj) : World := { w with heap := w.heap.setIfInBounds g o }
theorem upd0 (w : World) (g c : Nat) (a b : Bool) (x : Value) (h : w.heap[g]? = some (.map #[] c)) : (Instr.mapUpdate 52 (.map (some g)) (.agg #[.bool a, .bool b]) x).run Try.prog w = .ok () (wput w g (.map #[⟨.agg #[.bool a, .bool b], x, c⟩] (c + 1))) := by
  obtain ⟨fs, hfs⟩ := und_kind
  unfold Instr.mapUpdate
  simp [go_sem, und_map, MapKept.run_getObj_map h, ck_kind, Instr.findKey, Instr.findNow, hfs, MapKept.run_setObj_map _ h]
  rfl
theorem upd1 (w : World) (g c n : Nat) (a b a' b' : Bool) (x y : Value) (hne : (a == a' && b == b') = false) (h : w.heap[g]? = some (.map #[⟨.agg #[.bool a', .bool b'], y, n⟩] c)) : (Instr.mapUpdate 52 (.map (some g)) (.agg #[.bool a, .bool b]) x).run Try.prog w = .ok () (wput w g (.map #[⟨.agg #[.bool a', .bool b'], y, n⟩, ⟨.agg #[.bool a, .bool b], x, c⟩] (c + 1))) := by
  obtain ⟨fs, hfs⟩ := und_kind
  unfold Instr.mapUpdate
  simp [go_sem, und_map, MapKept.run_getObj_map h, ck_kind, Instr.findKey, Instr.findNow, Instr.sameNow, hfs, Instr.findAsking, eq_kind, hne, MapKept.run_setObj_map _ h]
  rfl
def KMap (w : World) (g : Nat) : Prop := ∃ c n m : Nat, w.heap[g]? = some (.map #[⟨.agg #[.bool true, .bool false], .int .i64 1, n⟩, ⟨.agg #[.bool false, .bool true], .int .i64 2, m⟩] c) ∨ w.heap[g]? = some (.map #[⟨.agg #[.bool false, .bool true], .int .i64 2, n⟩, ⟨.agg #[.bool true, .bool false], .int .i64 1, m⟩] c)
def kindN (a b : Bool) : Int := if a && !b then 1 else if !a && b then 2 else 0
theorem look_k (w : World) (g : Nat) (h : KMap w g) (a b : Bool) : (Instr.lookup 52 (.map (some g)) (.agg #[.bool a, .bool b]) false).run Try.prog w = .ok (.int .i64 (kindN a b)) w := by
  obtain ⟨fs, hfs⟩ := und_kind
  obtain ⟨c, n, m, h | h⟩ := h
  all_goals unfold Instr.lookup
  all_goals cases a <;> cases b <;> simp [go_sem, und_map, MapKept.run_getObj_map h, ck_kind, Instr.findKey, Instr.findNow, Instr.sameNow, hfs, Instr.findAsking, eq_kind, kindN]
theorem wput_get {w : World} {g : Nat} {o : Obj} (h : g < w.heap.size) : (wput w g o).heap[g]? = some o := by unfold wput; simp [h]
theorem wput_size (w : World) (g : Nat) (o : Obj) : (wput w g o).heap.size = w.heap.size := by unfold wput; simp
theorem wput_below {w W : World} {g : Nat} {o : Obj} (h : Below w.heap.size w W) (hg : w.heap.size ≤ g) : Below w.heap.size w (wput W g o) :=
  ⟨h.os, h.tape, h.output, by rw [wput_size]; exact h.size, fun i hi => by
    unfold wput
    simp only [Array.getElem?_setIfInBounds]
    rw [if_neg (by omega)]
    exact h.block i hi⟩
def kE (a b : Bool) (n : Int) (c : Nat) : MapEntry := ⟨.agg #[.bool a, .bool b], .int .i64 n, c⟩
theorem starts_k (w : World) : Calls Try.prog 26 #[] w fun e W' => ∃ g, e = .returned (.map (some g)) ∧ KMap W' g ∧ w.heap.size ≤ g ∧ g < W'.heap.size ∧ Below w.heap.size w W' := by
  obtain ⟨W1, h1⟩ : ∃ W1, W1 = w.drew.alloc (.map #[] 0) := ⟨_, rfl⟩
  have hm : (Instr.makeMap 52 none).run Try.prog w.drew = .ok (.map (some w.heap.size)) W1 := by rw [h1]; rfl
  obtain ⟨g, hg⟩ : ∃ g, g = w.heap.size := ⟨_, rfl⟩
  have hs : g < W1.heap.size := by rw [h1, hg]; simp
  have h0 : W1.heap[g]? = some (.map #[] 0) := by rw [h1, hg]; exact heap_alloc_new w.drew _
  have B1 : Below w.heap.size w W1 := by rw [h1]; exact bw_alloc (bw_drew (Below.refl _ _)) _
  have hA := upd0 W1 g 0 true false (.int .i64 1) h0
  have hB := upd0 W1 g 0 false true (.int .i64 2) h0
  obtain ⟨WA, eA⟩ : ∃ WA, WA = wput W1 g (.map #[⟨.agg #[.bool true, .bool false], .int .i64 1, 0⟩] (0 + 1)) := ⟨_, rfl⟩
  obtain ⟨WB, eB⟩ : ∃ WB, WB = wput W1 g (.map #[⟨.agg #[.bool false, .bool true], .int .i64 2, 0⟩] (0 + 1)) := ⟨_, rfl⟩
  rw [← eA] at hA
  rw [← eB] at hB
  have sA : g < WA.heap.size := by rw [eA, wput_size]; exact hs
  have sB : g < WB.heap.size := by rw [eB, wput_size]; exact hs
  have gA := (congrArg (fun W : World => W.heap[g]?) eA).trans (wput_get hs)
  have gB := (congrArg (fun W : World => W.heap[g]?) eB).trans (wput_get hs)
  have BA : Below w.heap.size w WA := by rw [eA]; exact wput_below B1 (by omega)
  have BB : Below w.heap.size w WB := by rw [eB]; exact wput_below B1 (by omega)
  have hAB := upd1 WA g 1 0 false true true false (.int .i64 2) (.int .i64 1) rfl gA
  have hBA := upd1 WB g 1 0 true false false true (.int .i64 1) (.int .i64 2) rfl gB
  obtain ⟨WAB, eAB⟩ : ∃ WAB, WAB = wput WA g (.map #[⟨.agg #[.bool true, .bool false], .int .i64 1, 0⟩, ⟨.agg #[.bool false, .bool true], .int .i64 2, 1⟩] (1 + 1)) := ⟨_, rfl⟩
  obtain ⟨WBA, eBA⟩ : ∃ WBA, WBA = wput WB g (.map #[⟨.agg #[.bool false, .bool true], .int .i64 2, 0⟩, ⟨.agg #[.bool true, .bool false], .int .i64 1, 1⟩] (1 + 1)) := ⟨_, rfl⟩
  rw [← eAB] at hAB
  rw [← eBA] at hBA
  have FA : Hid (KMap WAB g ∧ g < WAB.heap.size ∧ Below w.heap.size w WAB) := ⟨⟨_, _, _, .inl (by rw [eAB]; exact wput_get sA)⟩, by rw [eAB, wput_size]; exact sA, by rw [eAB]; exact wput_below BA (by omega)⟩
  have FB : Hid (KMap WBA g ∧ g < WBA.heap.size ∧ Below w.heap.size w WBA) := ⟨⟨_, _, _, .inr (by rw [eBA]; exact wput_get sB)⟩, by rw [eBA, wput_size]; exact sB, by rw [eBA]; exact wput_below BB (by omega)⟩
  have HG : Hid (w.heap.size ≤ g) := by show _ ≤ _; omega
  rw [← hg] at hm
  clear eAB eBA eA eB BA BB gA gB sA sB B1 h0 hs h1 hg
  go_enter Try.func26, Try.ntmps26
  go_wp2
  go_region
  all_goals go_wp2
  all_goals go_ret
  all_goals first | exact ⟨g, rfl, FA.out.1, HG.out, FA.out.2.1, FA.out.2.2⟩ | exact ⟨g, rfl, FB.out.1, HG.out, FB.out.2.1, FB.out.2.2⟩
end Go.Proofs.Ytklpcmfigfigcaa.Own
