/- Values of several cells: made, stored, loaded as wholes; The walk over SHA-256: what is told of a block, number by number. -/
import Derived.Test.YtadpgodmkodgdaaXRGuidesRoom4
import Derived.Test.YtadpgodmkodgdaaXRGuidesRoom5
import Derived.Deep.MidRow
import Derived.Test.YtadpgodmkodgdaaXRGuidesRoom2
import Derived.Test.YtadpgodmkodgdaaXRGuidesRoom3
import Derived.Deep.DeepCutAuto
import Derived.Deep.RegionHeld3
import Derived.Deep.DrawnRows
namespace Go.Proofs.Ytadpgodmkodgdaa
open Go.RowKit
set_option linter.unusedSimpArgs false
set_option linter.unusedVariables false

/-- A list of so many, as a function's. -/
theorem as_map (V : List Value) (n : Nat) (h : V.length = n) : ∃ f : Nat → Value, V = (List.range n).map f := by
  refine ⟨fun i => V[i]?.getD (.bool false), ?_⟩
  apply List.ext_getElem
  · simp [h]
  · intro i h1 h2
    simp [List.getElem?_eq_getElem h1]
section
variable {P : Program} {ops : Array Oper} {rest : List Oper} {o : Oper} {a : Act} {w : World} {Q : Exit → Act → World → Prop}
/-- A variable of several cells is made. -/
theorem wpList_allocT (hgd : o.guard = none) (T : TypeId) (Z : List Value) (hal : ∀ W, (execOp a.eval o).run P W = .ok (.value (.pointer (some ⟨W.heap.size, 0, none⟩))) (W.alloc (.cells Z.toArray T)))
    (h : ∀ w', Hid (Blk w' w.heap.size T Z) → Hid (Below w.heap.size w w') → wpList P ops Q rest (a.put o.dst (.pointer (some ⟨w.heap.size, 0, none⟩))) w') : wpList P ops Q (o :: rest) a w :=
  wpList_value hgd (hal w) (h _ (Lib.hid (Blk.new w T Z)) (Lib.hid ((Below.refl _ w).alloc (Nat.le_refl _) _)))
/-- A block is written over. -/
theorem wpList_over (hgd : o.guard = none) (T : TypeId) (x y : Operand) (ho : o.op = .store T x y) (g : Nat) (V cur : List Value) (t : TypeId) (hx : a.eval x = .pointer (some ⟨g, 0, none⟩)) (hy : a.eval y = .agg V.toArray)
    (hb : Blk w g t cur) (hl : V.length = cur.length) (hi : (P.info? T).map (·.size) = some V.length) (h1 : ∀ v ∈ V, v.oneCell' = true)
    (h : ∀ w', Hid (Blk w' g t V) → Hid (Keeps (· = g) w w') → wpList P ops Q rest (a.put o.dst undef) w') : wpList P ops Q (o :: rest) a w := by
  refine wpList_store_mid hgd T x y ho g 0 V.toArray hx hy (hb.there 0 _ (by simp; omega)) (by simpa using hi) (by simpa using h1) ?_
  refine h _ (Lib.hid ?_) (Lib.hid (Keeps.setCells (g := g) _ 0 _))
  have := hb.setCells V 0 w cur (by omega)
  rwa [splice_whole _ _ hl] at this
/-- A block's value. -/
theorem wpList_loadT (hgd : o.guard = none) (T : TypeId) (x : Operand) (ho : o.op = .load T x) (g : Nat) (hx : a.eval x = .pointer (some ⟨g, 0, none⟩)) (t : TypeId) (cs : List Value) (d : TypeDesc) (hg : Blk w g t cs)
    (hu : P.underlying T = some d) (hd : (match d with | .struct _ | .array _ _ => true | _ => false) = true) (hi : (P.info? T).map (·.size) = some cs.length)
    (h : wpList P ops Q rest (a.put o.dst (.agg cs.toArray)) w) : wpList P ops Q (o :: rest) a w :=
  wpList_load_row hgd T x ho g hx t cs.toArray (0, 0) d hg hu hd (by rw [List.size_toArray]; exact hi) h
theorem results_rowT {fn : Func} {p : Tmp} {ty : TypeId} (h : fn.results = #[.cell p ty]) (tmps : Array Value) (g : Nat) (t : TypeId) (cs : List Value) (d : TypeDesc)
    (hp : tmps.getD p undef = .pointer (some ⟨g, 0, none⟩)) (hg : Blk w g t cs)
    (hu : P.underlying ty = some d) (hd : (match d with | .struct _ | .array _ _ => true | _ => false) = true) (hi : (P.info? ty).map (·.size) = some cs.length) :
    (results fn tmps).run P w = .ok (.agg cs.toArray) w :=
  results_cell_row h tmps w g t cs.toArray (0, 0) d hp hg hu hd (by rw [List.size_toArray]; exact hi)
/-- A block is written over, as a step of a region that draws its order. -/
theorem step_overT {K : Act → World → Prop} {E : Prop} (hgd : o.guard = none) (T : TypeId) (x y : Operand) (ho : o.op = .store T x y) (g : Nat) (V cur : List Value) (t : TypeId) (hx : a.eval x = .pointer (some ⟨g, 0, none⟩)) (hy : a.eval y = .agg V.toArray)
    (hb : Blk w g t cur) (hl : V.length = cur.length) (hi : (P.info? T).map (·.size) = some V.length) (h1 : ∀ v ∈ V, v.oneCell' = true)
    (h : ∀ w', Hid (Blk w' g t V) → Hid (Keeps (· = g) w w') → K (a.put o.dst undef) w') : if Region.wanted o (yielded ops a.tmps) = true then Oper.wp P o a w K Q else E := by
  have hw : Region.wanted o (yielded ops a.tmps) = true := by simp [Region.wanted, hgd]
  rw [if_pos hw]
  refine wp_store_mid T x y ho g 0 V.toArray hx hy (hb.there 0 _ (by simp; omega)) (by simpa using hi) (by simpa using h1) ?_
  refine h _ (Lib.hid ?_) (Lib.hid (Keeps.setCells (g := g) _ 0 _))
  have := hb.setCells V 0 w cur (by omega)
  rwa [splice_whole _ _ hl] at this
/-- A plain list's operation whose value is known, guarded or not. -/
theorem wpList_want {w' : World} {v : Value} (hw : Region.wanted o (yielded ops a.tmps) = true) (hr : (execOp a.eval o).run P w = .ok (.value v) w') (h : wpList P ops Q rest (a.put o.dst v) w') : wpList P ops Q (o :: rest) a w := by
  rw [wpList, if_pos hw]
  exact .inl (by unfold Oper.wp; rw [hr]; exact h)
theorem wpList_not (hw : Region.wanted o (yielded ops a.tmps) = false) (h : wpList P ops Q rest (a.put o.dst undef) w) : wpList P ops Q (o :: rest) a w := by
  rw [wpList, if_neg (by rw [hw]; exact Bool.false_ne_true)]
  exact h
theorem exec_loadM {ty : TypeId} {x : Operand} (ho : o.op = .load ty x) (b off : Nat) (hx : a.eval x = .pointer (some ⟨b, off, none⟩)) (cs : List Value) (d : TypeDesc) (hc : w.rangeAt b off cs)
    (hu : P.underlying ty = some d) (hd : d.isRow = true) (hi : (P.info? ty).map (·.size) = some cs.length) : (execOp a.eval o).run P w = .ok (.value (.agg cs.toArray)) w := by
  unfold execOp
  simp only [ho, hx, Instr.loadAt, Instr.sureAddr, Sem.run_bind, Sem.run_pure, Result.andThen_ok, run_loadVar_mid w b off ty cs d hc hu hd hi]
theorem exec_sliceB {w w' : World} {v : Value} {t : TypeId} {x : Operand} {lo hi mx : Option Operand} (ho : o.op = .slice t x lo hi mx)
    (h : (Instr.sliceAt t (a.eval x) (lo.map a.eval) (hi.map a.eval) (mx.map a.eval)).run P w = .ok v w') : (execOp a.eval o).run P w = .ok (.value v) w' := by
  unfold execOp
  simp only [ho, Sem.run_bind, Sem.run_pure, h, Result.andThen_ok]
end
theorem wpList_boxT {P : Program} {ops : Array Oper} {rest : List Oper} {o : Oper} {a : Act} {w : World} {Q : Exit → Act → World → Prop} (hgd : o.guard = none) (T : TypeId) (x : Operand) (ho : o.op = .box T x) (X : List Value) (hx : a.eval x = .agg X.toArray)
    (h : ∀ w', Hid (Blk w' w.heap.size T X) → Hid (Below w.heap.size w w') → wpList P ops Q rest (a.put o.dst (.pointer (some ⟨w.heap.size, 0, none⟩))) w') : wpList P ops Q (o :: rest) a w := by
  have hr : (execOp a.eval o).run P w = .ok (.value (.pointer (some ⟨w.heap.size, 0, none⟩))) (w.alloc (.cells X.toArray T)) := by
    unfold execOp
    simp only [ho, hx]
    rfl
  exact wpList_value hgd hr (h _ (Lib.hid (Blk.new w T X)) (Lib.hid ((Below.refl _ w).alloc (Nat.le_refl _) _)))
end Go.Proofs.Ytadpgodmkodgdaa

namespace Go.Proofs.Ytadpgodmkodgdaa
open Go.RowKit
set_option linter.unusedSimpArgs false
set_option linter.unusedVariables false

/-- What the closure's call tells at number t, of a block's bytes and the sixteen numbers so far. -/
def nextV (bs l : List Int) (t : Nat) : Int :=
  if t < 16 then getN (bs.drop (4 * t)) (64 - 4 * t) 4 % 4294967296 else
    IntKind.u32.wrap (IntKind.u32.wrap (IntKind.u32.wrap (l.getD (t % 16) 0 + bits .xor .u32 (downX (l.getD ((t + 1) % 16) 0) [7, 18]) (l.getD ((t + 1) % 16) 0 / 8))
      + bits .xor .u32 (downX (l.getD ((t + 14) % 16) 0) [17, 19]) (l.getD ((t + 14) % 16) 0 / 1024)) + l.getD ((t + 9) % 16) 0)
theorem yieldsIf_sliceAtG {P : Program} {ops : Array Oper} {a : Act} {S : World → Prop} {op : Oper} (hw : Region.wanted op (yielded ops a.tmps) = true) (t : TypeId) (x : Operand) (lo hi mx : Option Operand) (ho : op.op = .slice t x lo hi mx) (v : Value)
    (hr : ∀ W, (Instr.sliceAt t (a.eval x) (lo.map a.eval) (hi.map a.eval) (mx.map a.eval)).run P W = .ok v W) : YieldsIf P ops S op v a :=
  .inl ⟨hw, fun w _ => by
    unfold execOp
    simp only [ho, Sem.run_bind, Sem.run_pure, Result.andThen_ok, hr w]⟩
set_option maxRecDepth 100000 in
theorem rd_from {w : World} {X o n : Nat} {xs : List Int} (h : Rd w .u8 (some ⟨X, o, none⟩) n xs) (k : Nat) (hk : k ≤ n) : Rd w .u8 (some ⟨X, o + k, none⟩) (n - k) (xs.drop k) :=
  ⟨by rw [List.length_drop, h.len], by have := h.big; omega, fun x hx => h.wf x (List.mem_of_mem_drop hx), fun hn => by
    obtain ⟨a, oa, e, hlt, hc⟩ := h.row (by omega)
    injection e with e
    injection e with e1 e2
    subst e1; subst e2
    exact ⟨X, o + k, rfl, hlt, fun j hj => by
      have := hc (k + j) (by omega)
      rw [List.getElem?_drop, Nat.add_assoc]
      exact this⟩⟩
set_option maxRecDepth 100000 in
theorem b64_from (X o t : Nat) (ht : t < 16) (W : World) : (Instr.sliceAt 114 (.pointer (some ⟨X, o, none⟩)) (some (.int .i64 (4 * (t : Int)))) none none).run Try.prog W = .ok (.slice (some ⟨X, o + 4 * t, none⟩) (64 - 4 * t) (64 - 4 * t)) W := by
  have hl : Try.prog.arrayLen 114 = 64 := by kernel_rfl
  have h := run_sliceAt_array_l (P := Try.prog) W 114 ⟨X, o, none⟩ Try.underlying114 .i64 (4 * (t : Int)) (by omega) (by rw [hl]; omega)
  rw [h, hl]
  have hs : (sizeOf (Try.prog.elem 114)).run Try.prog W = .ok 1 W := by kernel_rfl
  rw [hs]
  have e1 : (4 * (t : Int)).toNat = 4 * t := by omega
  simp only [Result.andThen_ok, slicedAt, e1, if_neg (show ¬ 64 = 4 * t by omega), Addr.add, Nat.mul_one]
  by_cases h0 : 4 * t = 0
  · rw [if_pos h0, h0]; rfl
  · rw [if_neg h0]
theorem rd_i64 {w : World} {g n : Nat} {t : TypeId} {xs : List Int} (h : Blk w g t (xs.map (Value.int .i64))) (hw : ∀ x ∈ xs, (Lit.int .i64 x).wf = true) (hl : xs.length = n) (hb : n ≤ 140737488351232) : Rd w .i64 (some ⟨g, 0, none⟩) n xs :=
  ⟨hl, hb, hw, fun _ => ⟨g, 0, rfl, h.lt, fun j hj => by
    rw [Nat.zero_add, h.cell j]
    simp [show j < xs.length by omega]⟩⟩
structure NumAt (w : World) (N T B X o : Nat) (bs l : List Int) (t : Nat) : Prop where
  row : Blk w N 151 (l.map (Value.int .u32))
  cnt : Blk w T 3 [.int .i64 (t : Int)]
  box : Blk w B 143 [.pointer (some ⟨X, o, none⟩)]
  rd : Rd w .u8 (some ⟨X, o, none⟩) 64 bs
  len : l.length = 16
  num : ∀ x ∈ l, U32 x
set_option maxRecDepth 100000 in
set_option maxHeartbeats 4000000 in
theorem next_low (N T B X o : Nat) (bs l : List Int) (t : Nat) (w : World) (h : NumAt w N T B X o bs l t) (ht : t < 16) (hNT : N ≠ T) :
    Calls Try.prog 80 #[.pointer (some ⟨N, 0, none⟩), .pointer (some ⟨T, 0, none⟩), .pointer (some ⟨B, 0, none⟩)] w fun e w' =>
      e = .returned (.int .u32 (nextV bs l t)) ∧ Blk w' N 151 ((l.set (t % 16) (nextV bs l t)).map (Value.int .u32)) ∧ Blk w' T 3 [.int .i64 ((t + 1 : Nat) : Int)] ∧ Keeps (fun i => i = N ∨ i = T) w w' := by
  have c1 := h.cnt.cell 0
  have c2 := h.box.cell 0
  simp only [List.getElem?_cons_zero] at c1 c2
  have hm : Int.tmod (t : Int) 16 = (t : Int) := by rw [Int.tmod_eq_emod_of_nonneg (by omega)]; omega
  have i0 : (0 : Int) ≤ (t : Int) := by omega
  have i1 : (t : Int) < 16 := by omega
  go_enter Try.func80, Try.ntmps80
  go_wp2_with fail
  obtain ⟨hb1, hb2⟩ : Below w.heap.size w w.drew ∧ Blk w.drew N 151 (l.map (Value.int .u32)) := ⟨⟨rfl, rfl, rfl, Nat.le_refl _, fun _ _ => rfl⟩, h.row.drew⟩
  have HB1 := Lib.hid hb1
  have HN1 := Lib.hid hb2
  have HT1 : Hid (Blk w.drew T 3 [.int .i64 (t : Int)]) := Lib.hid h.cnt.drew
  have HBX1 : Hid (Blk w.drew B 143 [.pointer (some ⟨X, o, none⟩)]) := Lib.hid h.box.drew
  have HR1 : Hid (Rd w.drew .u8 (some ⟨X, o + 4 * t, none⟩) (64 - 4 * t) (bs.drop (4 * t))) := Lib.hid (rd_from (h.rd.below hb1) (4 * t) (by omega))
  have d1 : w.drew.cell? ⟨T, 0, none⟩ = some (.int .i64 (t : Int)) := HT1.out.cell 0
  have d2 : w.drew.cell? ⟨B, 0, none⟩ = some (.pointer (some ⟨X, o, none⟩)) := h.box.drew.cell 0
  have hw4 : IntKind.i64.wrap (4 * (t : Int)) = 4 * (t : Int) := IntWalk.i64_in _ (by omega)
  clear hb1 hb2
  refine wp_region_noPanic ?_
  refine wp_region_held_drew (S := (fun w' => w'.cell? ⟨T, 0, none⟩ = some (.int .i64 (t : Int)) ∧ w'.cell? ⟨B, 0, none⟩ = some (.pointer (some ⟨X, o, none⟩)))) (by kernel_rfl) ?_ (fun hHeld => ?_)
  · ((try dsimp only); refine ⟨?_, ?_⟩ <;> (first | assumption | (go_keep; done)))
  refine wpAnyH_take (i := 0) (oi := ⟨some 15, _, _, _, _, _⟩) (v := ?_) rfl (by kernel_rfl) (by kernel_rfl) (by kernel_rfl) (fun _ _ _ h => False.elim h) (Or.inl ⟨by rfl, ?_⟩) (by assumption) ?_
  rotate_left
  · intro w hSw
    (try dsimp only at hSw)
    go_simp
    all_goals with_reducible rfl
  (try simp only [Act.put, List.setIfInBounds_toArray, List.set_cons_zero, List.set_cons_succ])
  refine wpAnyH_take (i := 1) (oi := ⟨some 16, _, _, _, _, _⟩) (v := ?_) rfl (by kernel_rfl) (by kernel_rfl) (by kernel_rfl) (fun _ _ _ h => False.elim h) (Or.inl ⟨by rfl, ?_⟩) (by assumption) ?_
  rotate_left
  · intro w hSw
    (try dsimp only at hSw)
    go_simp
    all_goals with_reducible rfl
  (try simp only [Act.put, List.setIfInBounds_toArray, List.set_cons_zero, List.set_cons_succ])
  refine wpAnyH_take (i := 2) (oi := ⟨some 17, _, _, _, _, _⟩) (v := ?_) rfl (by kernel_rfl) (by kernel_rfl) (by kernel_rfl) (fun _ _ _ h => False.elim h) (Or.inl ⟨by rfl, ?_⟩) (by assumption) ?_
  rotate_left
  · intro w hSw
    (try dsimp only at hSw)
    go_simp
    all_goals with_reducible rfl
  (try simp only [Act.put, List.setIfInBounds_toArray, List.set_cons_zero, List.set_cons_succ])
  refine wpAnyH_take (i := 3) (oi := ⟨some 18, _, _, _, _, _⟩) (v := ?_) rfl (by kernel_rfl) (by kernel_rfl) (by kernel_rfl) (fun _ _ _ h => False.elim h) (Or.inl ⟨by rfl, ?_⟩) (by assumption) ?_
  rotate_left
  · intro w hSw
    (try dsimp only at hSw)
    go_simp
    all_goals with_reducible rfl
  (try simp only [Act.put, List.setIfInBounds_toArray, List.set_cons_zero, List.set_cons_succ])
  refine wpAnyH_take (i := 4) (oi := ⟨some 19, _, _, _, _, _⟩) (v := ?_) rfl (by kernel_rfl) (by kernel_rfl) (by kernel_rfl) (fun _ _ _ h => False.elim h) (Or.inl ⟨by rfl, ?_⟩) (by assumption) ?_
  rotate_left
  · intro w hSw
    (try dsimp only at hSw)
    go_simp
    all_goals with_reducible rfl
  (try simp only [Act.put, List.setIfInBounds_toArray, List.set_cons_zero, List.set_cons_succ])
  refine wpAnyH_take (i := 5) (oi := ⟨some 20, _, _, _, _, _⟩) (v := .slice (some ⟨X, o + 4 * t, none⟩) (64 - 4 * t) (64 - 4 * t)) rfl (by kernel_rfl) (by kernel_rfl) (by kernel_rfl) (fun _ _ _ h => False.elim h) ?_ (by assumption) ?_
  · exact yieldsIf_sliceAtG (by rfl) 114 _ _ _ _ rfl _ (fun W => by simpa [Act.eval, Act.put] using b64_from X o t ht W)
  (try simp only [Act.put, List.setIfInBounds_toArray, List.set_cons_zero, List.set_cons_succ])
  refine wpAnyH_ready (rs := [6]) (by kernel_rfl) (by simp) ?_
  refine AllReadyH.cons (o := ⟨some 21, _, _, _, _, _⟩) rfl (fun K hK => ?_) AllReadyH.nil
  go_simp
  (refine (get_any _ _ _ (bs.drop (4 * t)) 4 _ (HR1.out) (Nat.le_refl _)).mono ?_; rintro e w1 ⟨rfl, hB1⟩; have HB2 := Lib.hid (HB1.out.trans (hB1.mono HB1.out.size)); have HN2 := Lib.hid (HN1.out.below hB1 HN1.out.lt); have HT2 := Lib.hid (HT1.out.below hB1 HT1.out.lt); have HBX2 := Lib.hid (HBX1.out.below hB1 HBX1.out.lt); have d3 : w1.cell? ⟨T, 0, none⟩ = some (.int .i64 (t : Int)) := HT2.out.cell 0; have d4 : w1.cell? ⟨B, 0, none⟩ = some (.pointer (some ⟨X, o, none⟩)) := HBX2.out.cell 0; clear hB1)
  (try go_wp2_with fail)
  refine hK.out _ _ ?_ (fun hHeld => ?_)
  · ((try dsimp only); refine ⟨?_, ?_⟩ <;> (first | assumption | (go_keep; done)))
  clear hK K
  (try simp only [Act.put, List.setIfInBounds_toArray, List.set_cons_zero, List.set_cons_succ])
  refine wpAnyH_take (i := 7) (oi := ⟨some 14, _, _, _, _, _⟩) (v := ?_) rfl (by kernel_rfl) (by kernel_rfl) (by kernel_rfl) (fun _ _ _ h => False.elim h) (Or.inl ⟨by rfl, ?_⟩) (by assumption) ?_
  rotate_left
  · intro w hSw
    (try dsimp only at hSw)
    go_simp
    all_goals with_reducible rfl
  (try simp only [Act.put, List.setIfInBounds_toArray, List.set_cons_zero, List.set_cons_succ])
  refine wpAnyH_take (i := 8) (oi := ⟨some 22, _, _, _, _, _⟩) (v := ?_) rfl (by kernel_rfl) (by kernel_rfl) (by kernel_rfl) (fun _ _ _ h => False.elim h) (Or.inl ⟨by rfl, ?_⟩) (by assumption) ?_
  rotate_left
  · intro w hSw
    (try dsimp only at hSw)
    go_simp
    all_goals with_reducible rfl
  (try simp only [Act.put, List.setIfInBounds_toArray, List.set_cons_zero, List.set_cons_succ])
  refine wpAnyH_take (i := 9) (oi := ⟨some 23, _, _, _, _, _⟩) (v := ?_) rfl (by kernel_rfl) (by kernel_rfl) (by kernel_rfl) (fun _ _ _ h => False.elim h) (Or.inl ⟨by rfl, ?_⟩) (by assumption) ?_
  rotate_left
  · intro w hSw
    (try dsimp only at hSw)
    go_simp
    all_goals with_reducible rfl
  (try simp only [Act.put, List.setIfInBounds_toArray, List.set_cons_zero, List.set_cons_succ])
  refine wpAnyH_take (i := 10) (oi := ⟨some 5, _, _, _, _, _⟩) (v := ?_) rfl (by kernel_rfl) (by kernel_rfl) (by kernel_rfl) (fun _ _ _ h => False.elim h) (Or.inl ⟨by rfl, ?_⟩) (by assumption) ?_
  rotate_left
  · intro w hSw
    (try dsimp only at hSw)
    go_simp
    all_goals with_reducible rfl
  (try simp only [Act.put, List.setIfInBounds_toArray, List.set_cons_zero, List.set_cons_succ])
  refine wpAnyH_take (i := 11) (oi := ⟨some 6, _, _, _, _, _⟩) (v := ?_) rfl (by kernel_rfl) (by kernel_rfl) (by kernel_rfl) (fun _ _ _ h => False.elim h) (Or.inl ⟨by rfl, ?_⟩) (by assumption) ?_
  rotate_left
  · intro w hSw
    (try dsimp only at hSw)
    go_simp
    all_goals with_reducible rfl
  (try simp only [Act.put, List.setIfInBounds_toArray, List.set_cons_zero, List.set_cons_succ])
  refine wpAnyH_done (by kernel_rfl) ?_ _
  refine NoPanic.normal ?_
  have hl := h.len
  obtain ⟨x, hx⟩ : ∃ x, l[t]? = some x := ⟨l[t], List.getElem?_eq_getElem (by omega)⟩
  have d5 : w1.cell? ⟨N, t, none⟩ = some (.int .u32 x) := (HN2.out.cell t).trans (by rw [List.getElem?_map, hx]; rfl)
  have hTN : ¬ T = N := fun e => hNT e.symm
  have hNT' : ¬ N = T := hNT
  have hw1 : IntKind.i64.wrap ((t : Int) + 1) = (t : Int) + 1 := IntWalk.i64_in _ (by omega)
  have hnx : nextV bs l t = getN (bs.drop (4 * t)) (64 - 4 * t) 4 % 4294967296 := by unfold nextV; rw [if_pos ht]
  have hf1 := HN2.out.free t
  have hf2 := HT2.out.free 0
  have hf3 := (HT2.out.far (p := ⟨N, t, none⟩) hTN (.int .u32 (getN (bs.drop (4 * t)) (64 - 4 * t) 4 % 4294967296))).free 0
  have HNX := Lib.hid hnx
  have HX := Lib.hid hx
  clear d1 d2 c1 c2 hx hnx
  go_wp2_with fail
  go_ret
  rw [HNX.out, Nat.mod_eq_of_lt ht]
  refine ⟨rfl, ?_, ?_, ?_⟩
  · exact (HN2.out.int_put t _).far (p := ⟨T, 0, none⟩) hNT' _
  · exact (HT2.out.far (p := ⟨N, t, none⟩) hTN _).put 0 _
  · exact ((Keeps.of_below HB2.out).setCell (.inl (.inl rfl)) _).setCell (.inl (.inr rfl)) _
end Go.Proofs.Ytadpgodmkodgdaa
