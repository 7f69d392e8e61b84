/- Steps of a walk over rows that are one opaque list: build, alloc, store and load of a whole struct. No conditions beside those in each lemma. -/
import Derived.Test.YtofpkmfjigjlhaaSl
import Derived.Deep.WholeRow
import Derived.Deep.MidRow
import Derived.BigFrame
namespace Go.Proofs.Ytofpkmfjigjlhaa.Own
set_option linter.unusedVariables false
set_option linter.unusedSimpArgs false
open Go.RowKit
variable {P : Program}

theorem wl_build {ops : Array Oper} {rest : List Oper} {op : Oper} {a : Act} {w : World} {Q : Exit → Act → World → Prop} (t : TypeId) (parts : Array (Nat × Operand)) (cs : List Value) (ho : op.op = .build t parts) (hgd : op.guard = none)
    (hb : P.built t (parts.map fun (i, x) => (i, a.eval x)).toList = some cs.toArray) (h : wpList P ops Q rest (a.put op.dst (.agg cs.toArray)) w) : wpList P ops Q (op :: rest) a w :=
  wpList_plain hgd fun K hK => by
    unfold Oper.wp execOp
    simp only [ho, Sem.run_bind, Sem.run_pure, Result.andThen_ok, run_build w t _ _ hb]
    exact hK _ _ h
theorem wl_alloc {ops : Array Oper} {rest : List Oper} {op : Oper} {a : Act} {w : World} {Q : Exit → Act → World → Prop} (t : TypeId) (zs : List Value) (n : Nat) (ho : op.op = .alloc t) (hgd : op.guard = none)
    (hz : (P.info? t).map (fun i => (i.zero, i.size)) = some (some (.agg zs.toArray), n)) (h : wpList P ops Q rest (a.put op.dst (.pointer (some ⟨w.heap.size, 0, none⟩))) (w.alloc (.cells zs.toArray t))) : wpList P ops Q (op :: rest) a w :=
  wpList_plain hgd fun K hK => by
    have hz' := (zero_of_info hz).1 w
    unfold Oper.wp execOp
    simp [ho, Sem.run_bind, Result.andThen_ok, Instr.alloc, hz', newVar, Value.cells]
    exact hK _ _ h
theorem wl_store {ops : Array Oper} {rest : List Oper} {op : Oper} {a : Act} {w : World} {Q : Exit → Act → World → Prop} (t : TypeId) (x y : Operand) (zs cs : List Value) (ho : op.op = .store t x y) (hgd : op.guard = none)
    (hx : a.eval x = .pointer (some ⟨w.heap.size, 0, none⟩)) (hy : a.eval y = .agg cs.toArray)
    (hi : (P.info? t).map (·.size) = some cs.length) (hl : zs.length = cs.length) (h1 : ∀ v ∈ cs, v.oneCell' = true)
    (h : wpList P ops Q rest (a.put op.dst undef) (w.alloc (.cells cs.toArray t))) : wpList P ops Q (op :: rest) a (w.alloc (.cells zs.toArray t)) :=
  wpList_plain hgd fun K hK => by
    unfold Oper.wp execOp
    simp only [ho, hx, hy, Sem.run_bind, Sem.run_pure, Result.andThen_ok, run_storeAt_new w t zs.toArray cs.toArray (by simpa using hi) (by simpa using hl) (all_oneCell_toArray h1)]
    exact hK _ _ h
theorem wl_load {ops : Array Oper} {rest : List Oper} {op : Oper} {a : Act} {w : World} {Q : Exit → Act → World → Prop} (ty : TypeId) (x : Operand) (ho : op.op = .load ty x) (hw : Region.wanted op (yielded ops a.tmps) = true)
    (b o : Nat) (hx : a.eval x = .pointer (some ⟨b, o, none⟩)) (cs : List Value) (d : TypeDesc) (hc : w.rangeAt b o cs) (hu : P.underlying ty = some d) (hd : d.isRow = true) (hi : (P.info? ty).map (·.size) = some cs.length)
    (h : wpList P ops Q rest (a.put op.dst (.agg cs.toArray)) w) : wpList P ops Q (op :: rest) a w :=
  BigFrame.wpList_want hw fun _ hK => wp_load_mid ty x ho b o hx cs d hc hu hd hi (hK _ _ h)
theorem range_new (w : World) (cs : List Value) (t : TypeId) : (w.alloc (.cells cs.toArray t)).rangeAt w.heap.size 0 cs := fun j v hv => by
  rw [World.cell?_alloc_new]; simpa using hv
theorem range_new' {w : World} {b : Nat} (cs : List Value) (t : TypeId) (h : b = w.heap.size) : (w.alloc (.cells cs.toArray t)).rangeAt b 0 cs := by subst h; exact range_new w cs t
theorem range_below {W w1 : World} {b : Nat} {cs : List Value} (hb : Below W.heap.size W w1) (h : W.rangeAt b 0 cs) : w1.rangeAt b 0 cs := fun j v hv => bw_keep hb (h j v hv)
theorem range_lt {W : World} {b : Nat} {c : Value} {cs : List Value} (h : W.rangeAt b 0 (c :: cs)) : b < W.heap.size := World.block_lt_of_cell? W _ (h 0 c rfl)
theorem range_cell {W : World} {b : Nat} {cs : List Value} (h : W.rangeAt b 0 cs) (j : Nat) (v : Value) (hv : cs[j]? = some v) : W.cell? ⟨b, j, none⟩ = some v := by have := h j v hv; rwa [Nat.zero_add] at this
theorem res_row {fn : Func} {p : Tmp} {ty : TypeId} (h : fn.results = #[.cell p ty]) (tmps : Array Value) (w : World) (g : Nat) (cs : List Value) (d : TypeDesc)
    (hp : tmps.getD p undef = .pointer (some ⟨g, 0, none⟩)) (hc : w.rangeAt g 0 cs) (hu : P.underlying ty = some d) (hd : d.isRow = true) (hi : (P.info? ty).map (·.size) = some cs.length) :
    (results fn tmps).run P w = .ok (.agg cs.toArray) w := by
  have hp' : tmps[p]?.getD undef = .pointer (some ⟨g, 0, none⟩) := by simpa using hp
  simp [results, h, hp', asAddr, run_loadVar_mid w g 0 ty cs d hc hu hd hi]
end Go.Proofs.Ytofpkmfjigjlhaa.Own
