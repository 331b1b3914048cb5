/- Values of several cells: made, stored, loaded as wholes. -/
import Derived.Test.YtgecfcdafbedaaaGreatZRParamsBodies1
import Derived.Test.YtgecfcdafbedaaaGreatZRParamsBodies16
import Derived.Test.YtgecfcdafbedaaaGreatZRParamsBodies13
import Derived.Deep.MidRow
namespace Go.Proofs.YtgecfcdafbedaaaGreat
open Go.RowKit
set_option linter.unusedSimpArgs false
set_option linter.unusedVariables false

/-- A list of so many, as a function's. -/
theorem as_map (V : List Value) (n : Nat) (h : V.length = n) : ∃ f : Nat → Value, V = (List.range n).map f := by
  refine ⟨fun i => V[i]?.getD (.bool false), ?_⟩
  apply List.ext_getElem
  · simp [h]
  · intro i h1 h2
    simp [List.getElem?_eq_getElem h1]
section
variable {P : Program} {ops : Array Oper} {rest : List Oper} {o : Oper} {a : Act} {w : World} {Q : Exit → Act → World → Prop}
/-- A variable of several cells is made. -/
theorem wpList_allocT (hgd : o.guard = none) (T : TypeId) (Z : List Value) (hal : ∀ W, (execOp a.eval o).run P W = .ok (.value (.pointer (some ⟨W.heap.size, 0, none⟩))) (W.alloc (.cells Z.toArray T)))
    (h : ∀ w', Hid (Blk w' w.heap.size T Z) → Hid (Below w.heap.size w w') → wpList P ops Q rest (a.put o.dst (.pointer (some ⟨w.heap.size, 0, none⟩))) w') : wpList P ops Q (o :: rest) a w :=
  wpList_value hgd (hal w) (h _ (Lib.hid (Blk.new w T Z)) (Lib.hid ((Below.refl _ w).alloc (Nat.le_refl _) _)))
/-- A block is written over. -/
theorem wpList_over (hgd : o.guard = none) (T : TypeId) (x y : Operand) (ho : o.op = .store T x y) (g : Nat) (V cur : List Value) (t : TypeId) (hx : a.eval x = .pointer (some ⟨g, 0, none⟩)) (hy : a.eval y = .agg V.toArray)
    (hb : Blk w g t cur) (hl : V.length = cur.length) (hi : (P.info? T).map (·.size) = some V.length) (h1 : ∀ v ∈ V, v.oneCell' = true)
    (h : ∀ w', Hid (Blk w' g t V) → Hid (Keeps (· = g) w w') → wpList P ops Q rest (a.put o.dst undef) w') : wpList P ops Q (o :: rest) a w := by
  refine wpList_store_mid hgd T x y ho g 0 V.toArray hx hy (hb.there 0 _ (by simp; omega)) (by simpa using hi) (by simpa using h1) ?_
  refine h _ (Lib.hid ?_) (Lib.hid (Keeps.setCells (g := g) _ 0 _))
  have := hb.setCells V 0 w cur (by omega)
  rwa [splice_whole _ _ hl] at this
/-- A block's value. -/
theorem wpList_loadT (hgd : o.guard = none) (T : TypeId) (x : Operand) (ho : o.op = .load T x) (g : Nat) (hx : a.eval x = .pointer (some ⟨g, 0, none⟩)) (t : TypeId) (cs : List Value) (d : TypeDesc) (hg : Blk w g t cs)
    (hu : P.underlying T = some d) (hd : (match d with | .struct _ | .array _ _ => true | _ => false) = true) (hi : (P.info? T).map (·.size) = some cs.length)
    (h : wpList P ops Q rest (a.put o.dst (.agg cs.toArray)) w) : wpList P ops Q (o :: rest) a w :=
  wpList_load_row hgd T x ho g hx t cs.toArray (0, 0) d hg hu hd (by rw [List.size_toArray]; exact hi) h
theorem results_rowT {fn : Func} {p : Tmp} {ty : TypeId} (h : fn.results = #[.cell p ty]) (tmps : Array Value) (g : Nat) (t : TypeId) (cs : List Value) (d : TypeDesc)
    (hp : tmps.getD p undef = .pointer (some ⟨g, 0, none⟩)) (hg : Blk w g t cs)
    (hu : P.underlying ty = some d) (hd : (match d with | .struct _ | .array _ _ => true | _ => false) = true) (hi : (P.info? ty).map (·.size) = some cs.length) :
    (results fn tmps).run P w = .ok (.agg cs.toArray) w :=
  results_cell_row h tmps w g t cs.toArray (0, 0) d hp hg hu hd (by rw [List.size_toArray]; exact hi)
/-- A block is written over, as a step of a region that draws its order. -/
theorem step_overT {K : Act → World → Prop} {E : Prop} (hgd : o.guard = none) (T : TypeId) (x y : Operand) (ho : o.op = .store T x y) (g : Nat) (V cur : List Value) (t : TypeId) (hx : a.eval x = .pointer (some ⟨g, 0, none⟩)) (hy : a.eval y = .agg V.toArray)
    (hb : Blk w g t cur) (hl : V.length = cur.length) (hi : (P.info? T).map (·.size) = some V.length) (h1 : ∀ v ∈ V, v.oneCell' = true)
    (h : ∀ w', Hid (Blk w' g t V) → Hid (Keeps (· = g) w w') → K (a.put o.dst undef) w') : if Region.wanted o (yielded ops a.tmps) = true then Oper.wp P o a w K Q else E := by
  have hw : Region.wanted o (yielded ops a.tmps) = true := by simp [Region.wanted, hgd]
  rw [if_pos hw]
  refine wp_store_mid T x y ho g 0 V.toArray hx hy (hb.there 0 _ (by simp; omega)) (by simpa using hi) (by simpa using h1) ?_
  refine h _ (Lib.hid ?_) (Lib.hid (Keeps.setCells (g := g) _ 0 _))
  have := hb.setCells V 0 w cur (by omega)
  rwa [splice_whole _ _ hl] at this
/-- A plain list's operation whose value is known, guarded or not. -/
theorem wpList_want {w' : World} {v : Value} (hw : Region.wanted o (yielded ops a.tmps) = true) (hr : (execOp a.eval o).run P w = .ok (.value v) w') (h : wpList P ops Q rest (a.put o.dst v) w') : wpList P ops Q (o :: rest) a w := by
  rw [wpList, if_pos hw]
  exact .inl (by unfold Oper.wp; rw [hr]; exact h)
theorem wpList_not (hw : Region.wanted o (yielded ops a.tmps) = false) (h : wpList P ops Q rest (a.put o.dst undef) w) : wpList P ops Q (o :: rest) a w := by
  rw [wpList, if_neg (by rw [hw]; exact Bool.false_ne_true)]
  exact h
theorem exec_loadM {ty : TypeId} {x : Operand} (ho : o.op = .load ty x) (b off : Nat) (hx : a.eval x = .pointer (some ⟨b, off, none⟩)) (cs : List Value) (d : TypeDesc) (hc : w.rangeAt b off cs)
    (hu : P.underlying ty = some d) (hd : d.isRow = true) (hi : (P.info? ty).map (·.size) = some cs.length) : (execOp a.eval o).run P w = .ok (.value (.agg cs.toArray)) w := by
  unfold execOp
  simp only [ho, hx, Instr.loadAt, Instr.sureAddr, Sem.run_bind, Sem.run_pure, Result.andThen_ok, run_loadVar_mid w b off ty cs d hc hu hd hi]
theorem exec_sliceB {w w' : World} {v : Value} {t : TypeId} {x : Operand} {lo hi mx : Option Operand} (ho : o.op = .slice t x lo hi mx)
    (h : (Instr.sliceAt t (a.eval x) (lo.map a.eval) (hi.map a.eval) (mx.map a.eval)).run P w = .ok v w') : (execOp a.eval o).run P w = .ok (.value v) w' := by
  unfold execOp
  simp only [ho, Sem.run_bind, Sem.run_pure, h, Result.andThen_ok]
end
end Go.Proofs.YtgecfcdafbedaaaGreat
