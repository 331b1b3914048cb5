/- Values of several cells that equal themselves. -/
import Derived.Test.YtgecfcdafbedaaaGreatZRParamsBodies18
import Derived.Test.YtgecfcdafbedaaaGreatZRParamsBodies14
import Derived.Laws.StructEq
namespace Go.Proofs.YtgecfcdafbedaaaGreat
open Go.RowKit
set_option linter.unusedSimpArgs false
set_option linter.unusedVariables false
section
variable {P : Program}
theorem wpList_read {ops : Array Oper} {rest : List Oper} {o : Oper} {a : Act} {w : World} {Q : Exit → Act → World → Prop} {v : Value} (hw : Region.wanted o (yielded ops a.tmps) = true) (hr : (execOp a.eval o).run P w = .ok (.value v) w) (h : wpList P ops Q rest (a.put o.dst v) w) : wpList P ops Q (o :: rest) a w := wpList_want hw hr h
/-- To pick an operation, fast: 'with_reducible refine wpList_is (o := ..) ?_'. -/
theorem wpList_is {ops : Array Oper} {rest : List Oper} {o : Oper} {a : Act} {w : World} {Q : Exit → Act → World → Prop} (h : wpList P ops Q (o :: rest) a w) : wpList P ops Q (o :: rest) a w := h
theorem eqFields_self (w : World) (d : Nat) (xs : Array Value) : ∀ fs : List Field, (∀ f ∈ fs, ∃ v, (part f.type xs f.offset).run P w = .ok v w ∧ (Op.equalIn d f.type v v).run P w = .ok true w) → (Op.eqFields d xs xs fs).run P w = .ok true w
  | [], _ => by simp [Op.eqFields]
  | f :: fs, h => by
    obtain ⟨v, h1, h2⟩ := h f (by simp)
    have ih := eqFields_self w d xs fs (fun g hg => h g (by simp [hg]))
    simp only [Op.eqFields, Sem.run_ite]
    split
    · simp only [Sem.run_bind, h1, h2, Result.andThen_ok, Bool.not_true, Bool.false_eq_true, if_false]
      exact ih
    · exact ih
theorem exec_neqS {o : Oper} {a : Act} {w : World} {T T' : TypeId} {x y : Operand} (V : Array Value) (ho : o.op = .binOp .neq T x y T') (hx : a.eval x = .agg V) (hy : a.eval y = .agg V)
    (hm : P.eqGuardType P.depth T = false) (heq : (Op.equalIn 10000 T (.agg V) (.agg V)).run P w = .ok true w) : (execOp a.eval o).run P w = .ok (.value (.bool false)) w := by
  unfold execOp
  simp only [ho, hx, hy, Sem.run_bind, Sem.run_pure, run_eqGuard_agg w BinOp.neq T x y V V hm, Result.andThen_ok, run_neq_struct w T V V, heq]
  rfl
theorem part_agg (w : World) (t : TypeId) (d : TypeDesc) (hu : P.underlying t = some d) (hd : (match d with | .struct _ | .array _ _ => true | _ => false) = true) (n : Nat) (hs : (sizeOf t).run P w = .ok n w) (X V Y : List Value) (off : Nat) (ho : X.length = off) (hn : V.length = n) :
    (part t (X ++ (V ++ Y)).toArray off).run P w = .ok (.agg V.toArray) w := by
  subst ho hn
  have e : (X ++ (V ++ Y)).toArray.extract X.length (X.length + V.length) = V.toArray := by simp [List.extract_eq_take_drop]
  have hi : (isAgg t).run P w = .ok true w := by
    unfold isAgg
    simp only [Sem.run_bind, run_underlying hu, Result.andThen_ok, Sem.run_pure]
    split at hd <;> first | rfl | cases hd
  unfold part
  simp only [Sem.run_bind, hi, Result.andThen_ok, if_true, hs, Sem.run_pure, e]
end
theorem size_u8e : ∀ w, (sizeOf 5).run Tryz.prog w = .ok 1 w := fun w => by kernel_rfl
theorem size_u64e : ∀ w, (sizeOf 25).run Tryz.prog w = .ok 1 w := fun w => by kernel_rfl
theorem eq_num (d : Nat) (f : List Int) (hf : f.length = 4) (w : World) : Sem.run Tryz.prog (Op.equalIn (d + 2) 31 (.agg (f.map (Value.int .u64)).toArray) (.agg (f.map (Value.int .u64)).toArray)) w = .ok true w := by
  have := run_equalIn_ints (P := Tryz.prog) w d 31 25 4 .u64 Tryz.underlying31 Tryz.underlying25 size_u64e f f hf hf
  simpa using this
theorem eq_sum (d : Nat) (f : List Int) (hf : f.length = 32) (w : World) : Sem.run Tryz.prog (Op.equalIn (d + 2) 27 (.agg (f.map (Value.int .u8)).toArray) (.agg (f.map (Value.int .u8)).toArray)) w = .ok true w := by
  have := run_equalIn_ints (P := Tryz.prog) w d 27 5 32 .u8 Tryz.underlying27 Tryz.underlying5 size_u8e f f hf hf
  simpa using this
theorem eq_sig (d : Nat) (f g : List Int) (hf : f.length = 4) (hg : g.length = 4) (w : World) : Sem.run Tryz.prog (Op.equalIn (d + 3) 33 (.agg ((f ++ g).map (Value.int .u64)).toArray) (.agg ((f ++ g).map (Value.int .u64)).toArray)) w = .ok true w := by
  rw [run_equalIn_struct w (d + 2) 33 _ _ (by kernel_rfl) (by kernel_rfl)]
  refine eqFields_self w (d + 2) _ _ ?_
  have hs : (sizeOf 31).run Tryz.prog w = .ok 4 w := by kernel_rfl
  have p1 := part_agg (P := Tryz.prog) w 31 _ Tryz.underlying31 rfl 4 hs [] (f.map (Value.int .u64)) (g.map (Value.int .u64)) 0 rfl (by simp [hf])
  have p2 := part_agg (P := Tryz.prog) w 31 _ Tryz.underlying31 rfl 4 hs (f.map (Value.int .u64)) (g.map (Value.int .u64)) [] 4 (by simp [hf]) (by simp [hg])
  rw [List.nil_append, ← List.map_append] at p1
  rw [List.append_nil, ← List.map_append] at p2
  intro x hx
  have hfs : (Tryz.prog.fieldsOf 33).toList.map (fun f => (f.type, f.offset)) = [(31, 0), (31, 4)] := by kernel_rfl
  have hm := List.mem_map_of_mem (f := fun f : Field => (f.type, f.offset)) hx
  rw [hfs] at hm
  simp only [List.mem_cons, Prod.mk.injEq, List.not_mem_nil, or_false] at hm
  rcases hm with ⟨h1, h2⟩ | ⟨h1, h2⟩
  · rw [h1, h2]; exact ⟨_, p1, eq_num d f hf w⟩
  · rw [h1, h2]; exact ⟨_, p2, eq_num d g hg w⟩
theorem eq_puz (d : Nat) (x y : Int) (f : List Int) (hf : f.length = 32) (w : World) : Sem.run Tryz.prog (Op.equalIn (d + 3) 29 (.agg ([Value.int .u8 x, Value.int .u64 y] ++ f.map (Value.int .u8)).toArray) (.agg ([Value.int .u8 x, Value.int .u64 y] ++ f.map (Value.int .u8)).toArray)) w = .ok true w := by
  rw [run_equalIn_struct w (d + 2) 29 _ _ (by kernel_rfl) (by kernel_rfl)]
  refine eqFields_self w (d + 2) _ _ ?_
  have hs : (sizeOf 27).run Tryz.prog w = .ok 32 w := by kernel_rfl
  have p2 := part_agg (P := Tryz.prog) w 27 _ Tryz.underlying27 rfl 32 hs [Value.int .u8 x, Value.int .u64 y] (f.map (Value.int .u8)) [] 2 rfl (by simp [hf])
  rw [List.append_nil] at p2
  intro z hx
  have hfs : (Tryz.prog.fieldsOf 29).toList.map (fun f => (f.type, f.offset)) = [(5, 0), (25, 1), (27, 2)] := by kernel_rfl
  have hm := List.mem_map_of_mem (f := fun f : Field => (f.type, f.offset)) hx
  rw [hfs] at hm
  simp only [List.mem_cons, Prod.mk.injEq, List.not_mem_nil, or_false] at hm
  rcases hm with ⟨h1, h2⟩ | ⟨h1, h2⟩ | ⟨h1, h2⟩
  · rw [h1, h2]; exact ⟨.int .u8 x, by simp [part, isAgg, run_underlying Tryz.underlying5], by rw [run_equalIn_int w (d + 1) 5 .u8 .u8 x x Tryz.underlying5]; simp⟩
  · rw [h1, h2]; exact ⟨.int .u64 y, by simp [part, isAgg, run_underlying Tryz.underlying25], by rw [run_equalIn_int w (d + 1) 25 .u64 .u64 y y Tryz.underlying25]; simp⟩
  · rw [h1, h2]; exact ⟨_, p2, eq_sum d f hf w⟩
theorem nog_num : Tryz.prog.eqGuardType Tryz.prog.depth 31 = false := by kernel_rfl
theorem nog_sum : Tryz.prog.eqGuardType Tryz.prog.depth 27 = false := by kernel_rfl
theorem nog_sig : Tryz.prog.eqGuardType Tryz.prog.depth 33 = false := by kernel_rfl
theorem nog_puz : Tryz.prog.eqGuardType Tryz.prog.depth 29 = false := by kernel_rfl
end Go.Proofs.YtgecfcdafbedaaaGreat
