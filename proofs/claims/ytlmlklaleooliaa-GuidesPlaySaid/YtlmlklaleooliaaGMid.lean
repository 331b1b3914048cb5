/- A table of guides: one of it written anew; rows built, stored and cleared. -/
import Derived.Test.YtlmlklaleooliaaGPlace
import Derived.Deep.RegionHeld3
import Derived.Deep.DrawnRows
namespace Go.Proofs.Ytlmlklaleooliaa
open Go.RowKit
set_option linter.unusedSimpArgs false
set_option linter.unusedVariables false

theorem flat_len : ∀ (l : List Gd), (∀ e ∈ l, e.tag.length = 16) → ((l.map gdC).flatten).length = 18 * l.length
  | [], _ => rfl
  | x :: l, h => by
    rw [List.map_cons, List.flatten_cons, List.length_append, gdC_length (h x (by simp)), flat_len l (fun e he => h e (by simp [he])), List.length_cons]; omega
theorem gdC_one (e : Gd) : ∀ v ∈ gdC e, v.oneCell' = true := by
  intro v hv
  simp only [gdC, List.mem_append, List.mem_map, List.mem_cons, List.not_mem_nil, or_false] at hv
  rcases hv with ⟨_, _, rfl⟩ | rfl | rfl <;> rfl
/-- A table's cells about a place. -/
theorem tab_split {a : List Gd} {i : Nat} {x : Gd} (hx : a[i]? = some x) (ht : ∀ e ∈ a, e.tag.length = 16) :
    ∃ A B : List Value, A.length = 18 * i ∧ tabC a = A ++ (gdC x ++ B) ∧ ∀ e', tabC (a.set i e') = A ++ (gdC e' ++ B) := by
  have hi : i < a.length := (List.getElem?_eq_some_iff.1 hx).1
  have hxe : a[i] = x := (List.getElem?_eq_some_iff.1 hx).2
  have hsplit : a = a.take i ++ x :: a.drop (i + 1) := by rw [← hxe, ← List.drop_eq_getElem_cons hi, List.take_append_drop]
  refine ⟨((a.take i).map gdC).flatten, ((a.drop (i + 1)).map gdC).flatten ++ [.int .i64 1], ?_, ?_, fun e' => ?_⟩
  · rw [flat_len _ (fun e he => ht e (List.mem_of_mem_take he)), List.length_take, Nat.min_eq_left (by omega)]
  · have := congrArg tabC hsplit
    rw [this]
    simp [tabC]
  · rw [List.set_eq_take_append_cons_drop, if_pos hi]
    simp [tabC]
theorem splice_mid {A X Y B : List Value} {o : Nat} (ho : o = A.length) (h : Y.length = X.length) : splice (A ++ (X ++ B)) o Y = A ++ (Y ++ B) := by
  subst ho
  have e1 : (A ++ (X ++ B)).drop (A.length + Y.length) = B := by
    rw [h, ← List.length_append, ← List.append_assoc, List.drop_left]
  rw [splice, List.take_left, e1]
theorem tags_set {a : List Gd} {i : Nat} {e' : Gd} (h : ∀ e ∈ a, e.tag.length = 16) (he : e'.tag.length = 16) : ∀ e ∈ a.set i e', e.tag.length = 16 := fun e hm => by
  rcases List.mem_or_eq_of_mem_set hm with hm | rfl
  · exact h e hm
  · exact he
theorem TabAt.put {w : World} {T : Nat} {a : List Gd} (h : TabAt w T a) {i o : Nat} {x e' : Gd} (hx : a[i]? = some x) (ht : e'.tag.length = 16) (ho : o = i * 18) : TabAt (w.setCells T o (gdC e')) T (a.set i e') := by
  obtain ⟨A, B, hA, h1, h2⟩ := tab_split hx h.tags
  have hi : i < a.length := (List.getElem?_eq_some_iff.1 hx).1
  have hl : (tabC a).length = 145 := by rw [tabC, List.length_append, flat_len a h.tags, h.len]; rfl
  have hb := Blk.setCells (gdC e') o w (tabC a) h.blk (by rw [hl, gdC_length ht]; have := h.len; omega)
  rw [h1, splice_mid (by omega) (by rw [gdC_length ht, gdC_length (h.tags x (List.mem_of_getElem? hx))]), ← h2] at hb
  exact ⟨hb, by simpa using h.len, tags_set h.tags ht⟩
theorem gd_set17 (x : Gd) (v : Int) (h : x.tag.length = 16) : (gdC x).set 17 (.int .u32 v) = gdC ⟨x.tag, x.spot, v⟩ := by
  rw [gdC, List.set_append, if_neg (by simp [h]), List.length_map, h]
  rfl
theorem TabAt.ticked {w : World} {T : Nat} {a : List Gd} (h : TabAt w T a) {i o : Nat} {x : Gd} (hx : a[i]? = some x) (v : Int) (ho : o = i * 18 + 17) : TabAt (w.setCell ⟨T, o, none⟩ (.int .u32 v)) T (a.set i ⟨x.tag, x.spot, v⟩) := by
  obtain ⟨A, B, hA, h1, h2⟩ := tab_split hx h.tags
  have hxl := h.tags x (List.mem_of_getElem? hx)
  have hb := h.blk.put o (.int .u32 v)
  rw [h1, List.set_append, if_neg (by omega), List.set_append, if_pos (by rw [gdC_length hxl]; omega), show o - A.length = 17 by omega, gd_set17 x v hxl, ← h2] at hb
  exact ⟨hb, by simpa using h.len, tags_set h.tags hxl⟩
theorem TabAt.keep {w w' : World} {T : Nat} {a : List Gd} {M : Nat → Prop} (h : TabAt w T a) (hk : Keeps M w w') (hn : ¬ M T) : TabAt w' T a := ⟨h.blk.keep hk hn, h.len, h.tags⟩
theorem TabAt.drew {w : World} {T : Nat} {a : List Gd} (h : TabAt w T a) : TabAt w.drew T a := ⟨h.blk.drew, h.len, h.tags⟩
/-- A place's cells are there. -/
theorem TabAt.there {w : World} {T : Nat} {a : List Gd} (h : TabAt w T a) {i o n : Nat} (hi : i < 8) (ho : o = i * 18) (hn : n ≤ 18) : w.there T o n :=
  h.blk.there o n (by rw [tabC, List.length_append, flat_len a h.tags, h.len]; simp; omega)

theorem list16 {tag : List Int} (h : tag.length = 16) : ∃ x0 x1 x2 x3 x4 x5 x6 x7 x8 x9 x10 x11 x12 x13 x14 x15, tag = [x0, x1, x2, x3, x4, x5, x6, x7, x8, x9, x10, x11, x12, x13, x14, x15] := by
  match tag, h with
  | [x0, x1, x2, x3, x4, x5, x6, x7, x8, x9, x10, x11, x12, x13, x14, x15], _ => exact ⟨x0, x1, x2, x3, x4, x5, x6, x7, x8, x9, x10, x11, x12, x13, x14, x15, rfl⟩
theorem run_build_gd (tag : List Int) (s k : Int) (h : tag.length = 16) (W : World) :
    (Instr.build 30 #[(0, .agg (tag.map (Value.int .u8)).toArray), (1, .int .u32 s), (2, .int .u32 k)]).run Try.prog W = .ok (.agg (gdC ⟨tag, s, k⟩).toArray) W := by
  obtain ⟨x0, x1, x2, x3, x4, x5, x6, x7, x8, x9, x10, x11, x12, x13, x14, x15, rfl⟩ := list16 h
  kernel_rfl
theorem run_build_one (tag : List Int) (s k : Int) (h : tag.length = 16) (W : World) :
    (Instr.build 75 #[(0, .agg (tag.map (Value.int .u8)).toArray), (1, .int .u32 s), (2, .int .u32 k)]).run Try.prog W = .ok (.agg (gdC ⟨tag, s, k⟩).toArray) W := by
  obtain ⟨x0, x1, x2, x3, x4, x5, x6, x7, x8, x9, x10, x11, x12, x13, x14, x15, rfl⟩ := list16 h
  kernel_rfl

section
variable {P : Program} {ops : Array Oper} {a : Act} {w : World} {Q : Exit → Act → World → Prop}
theorem yieldsIf_build {S : World → Prop} {op : Oper} (hw : Region.wanted op (yielded ops a.tmps) = true) (ty : TypeId) (parts : Array (Nat × Operand)) (ho : op.op = .build ty parts) (v : Value)
    (hr : ∀ W, (Instr.build ty (parts.map fun (i, x) => (i, a.eval x))).run P W = .ok v W) : YieldsIf P ops S op v a :=
  .inl ⟨hw, fun w _ => by
    unfold execOp
    simp only [ho, Sem.run_bind, Sem.run_pure, Result.andThen_ok, hr]⟩
theorem step_store_mid {o : Oper} {K : Act → World → Prop} {E : Prop} (hgd : o.guard = none) (ty : TypeId) (x y : Operand) (ho : o.op = .store ty x y)
    (b off : Nat) (cells : Array Value) (hx : a.eval x = .pointer (some ⟨b, off, none⟩)) (hy : a.eval y = .agg cells)
    (ht : w.there b off cells.size) (hi : (P.info? ty).map (·.size) = some cells.size) (h1 : cells.all (·.oneCell') = true)
    (h : K (a.put o.dst undef) (w.setCells b off cells.toList)) : if Region.wanted o (yielded ops a.tmps) = true then Oper.wp P o a w K Q else E := by
  have hw : Region.wanted o (yielded ops a.tmps) = true := by simp [Region.wanted, hgd]
  rw [if_pos hw]
  exact wp_store_mid ty x y ho b off cells hx hy ht hi h1 h
end

/-- clear of one element. -/
theorem run_clear_one {P : Program} (w : World) (t e ty : TypeId) (z : Value) (ht : P.underlying t = some (.slice e)) (hv : ∀ w, (zeroValue e).run P w = .ok z w) (h1 : ∀ v ∈ z.cells.toList, v.oneCell' = true) (b o c : Nat)
    (hth : w.there b o z.cells.size) : (Builtin.clear_ #[t] ty #[.slice (some ⟨b, o, none⟩) 1 c]).run P w = .ok (.tuple #[]) (w.setCells b o z.cells.toList) := by
  have hzc : (Builtin.zeroCells z.cells 1).toList = z.cells.toList := by
    simp only [Builtin.zeroCells, Nat.one_mul]
    apply List.ext_getElem
    · simp
    · intro i h1 h2
      have h3 : i < z.cells.size := by simpa using h2
      simp [Nat.mod_eq_of_lt h3, h3]
  have hst := run_storeCells_cells (P := P) b o z.cells.toList 0 w (fun j hj => by simpa using (hth j (by simpa using hj)).1) (fun j hj => by simpa using (hth j (by simpa using hj)).2) h1
  simp only [Nat.add_zero] at hst
  simp [Builtin.clear_, run_underlying ht, hv, hzc, hst]
end Go.Proofs.Ytlmlklaleooliaa
