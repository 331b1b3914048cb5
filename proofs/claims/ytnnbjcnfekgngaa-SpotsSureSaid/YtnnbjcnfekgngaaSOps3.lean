/- A set of spots: Change. -/
import Derived.Test.YtnnbjcnfekgngaaSOps2
import Derived.Test.YtnnbjcnfekgngaaSpPut
namespace Go.Proofs.Ytnnbjcnfekgngaa
open Go.RowKit
set_option linter.unusedSimpArgs false
set_option linter.unusedVariables false

/-- What becomes of a spot of a new list. -/
def nowS (l : List Spt) (a : Int) : Spt := (l.find? (isAt a)).getD ⟨a, 1, none⟩
def changeL (l : List Spt) (xs : List Int) : List Spt := xs.map (nowS l)
def othersL (l : List Spt) (xs : List Int) : List Int := xs.filter fun a => (l.find? (isAt a)).isNone
theorem nowS_mem (l : List Spt) (a : Int) : nowS l a ∈ l ∨ nowS l a = ⟨a, 1, none⟩ := by
  unfold nowS
  cases h : l.find? (isAt a) with
  | none => exact .inr rfl
  | some s => exact .inl (List.mem_of_find?_eq_some h)
theorem nowS_at (l : List Spt) (a : Int) : (nowS l a).at_ = a := by
  unfold nowS
  cases h : l.find? (isAt a) with
  | none => rfl
  | some s =>
    have := List.find?_some h
    simpa [isAt] using this
theorem makeS1 (W : World) : (Instr.makeSlice 50 (.int .i64 ((1 : Nat) : Int)) (.int .i64 ((1 : Nat) : Int))).run Try.prog W = .ok (.slice (some ⟨W.heap.size, 0, none⟩) 1 1) (W.alloc (.cells (rowS (List.replicate 1 ⟨0, 0, none⟩)).toArray 49)) := by kernel_rfl
theorem makeS2 (W : World) : (Instr.makeSlice 50 (.int .i64 ((2 : Nat) : Int)) (.int .i64 ((2 : Nat) : Int))).run Try.prog W = .ok (.slice (some ⟨W.heap.size, 0, none⟩) 2 2) (W.alloc (.cells (rowS (List.replicate 2 ⟨0, 0, none⟩)).toArray 49)) := by kernel_rfl
theorem makeS3 (W : World) : (Instr.makeSlice 50 (.int .i64 ((3 : Nat) : Int)) (.int .i64 ((3 : Nat) : Int))).run Try.prog W = .ok (.slice (some ⟨W.heap.size, 0, none⟩) 3 3) (W.alloc (.cells (rowS (List.replicate 3 ⟨0, 0, none⟩)).toArray 49)) := by kernel_rfl
theorem makeS4 (W : World) : (Instr.makeSlice 50 (.int .i64 ((4 : Nat) : Int)) (.int .i64 ((4 : Nat) : Int))).run Try.prog W = .ok (.slice (some ⟨W.heap.size, 0, none⟩) 4 4) (W.alloc (.cells (rowS (List.replicate 4 ⟨0, 0, none⟩)).toArray 49)) := by kernel_rfl
theorem run_makeS (n : Nat) (h : 1 ≤ n ∧ n ≤ 4) (W : World) : (Instr.makeSlice 50 (.int .i64 (n : Int)) (.int .i64 (n : Int))).run Try.prog W = .ok (.slice (some ⟨W.heap.size, 0, none⟩) n n) (W.alloc (.cells (rowS (List.replicate n ⟨0, 0, none⟩)).toArray 49)) := by
  have h4 : n = 1 ∨ n = 2 ∨ n = 3 ∨ n = 4 := by omega
  rcases h4 with rfl | rfl | rfl | rfl
  · exact makeS1 W
  · exact makeS2 W
  · exact makeS3 W
  · exact makeS4 W
theorem splice_rowS (L : List Spt) (j : Nat) (s : Spt) (hj : j < L.length) : splice (rowS L) (3 * j) (spC s) = rowS (L.set j s) := by
  induction L generalizing j with
  | nil => simp at hj
  | cons x L ih =>
    cases j with
    | zero =>
      simp [splice, rowS, spC]
    | succ j =>
      have := ih j (by simpa using hj)
      rw [List.set_cons_succ, rowS, rowS, ← this]
      have e : 3 * (j + 1) = (spC x).length + 3 * j := by simp [spC]; omega
      simp only [splice]
      rw [e, List.take_length_add_append, Nat.add_assoc, List.drop_length_add_append]
      simp only [List.append_assoc]
section
variable {P : Program} {ops : Array Oper} {rest : List Oper} {o : Oper} {a : Act} {w : World} {Q : Exit → Act → World → Prop}
theorem wpList_isS (h : wpList P ops Q (o :: rest) a w) : wpList P ops Q (o :: rest) a w := h
theorem wpList_makeS (hgd : o.guard = none) (x y : Operand) (ho : o.op = .makeSlice 50 x y) (n : Nat) (hn : 1 ≤ n ∧ n ≤ 4) (hx : a.eval x = .int .i64 (n : Int)) (hy : a.eval y = .int .i64 (n : Int))
    (h : ∀ w', Hid (Blk w' w.heap.size 49 (rowS (List.replicate n ⟨0, 0, none⟩))) → Hid (Below w.heap.size w w') → wpList Try.prog ops Q rest (a.put o.dst (.slice (some ⟨w.heap.size, 0, none⟩) n n)) w') : wpList Try.prog ops Q (o :: rest) a w :=
  wpList_value hgd (by unfold execOp; simp only [ho, hx, hy, Sem.run_bind, run_makeS n hn w, Result.andThen_ok]; rfl) (h _ (Lib.hid (Blk.new w 49 _)) (Lib.hid (new_belowS w _)))
/-- A spot is written into a row of spots. -/
theorem wpList_putS (hgd : o.guard = none) (x y : Operand) (ho : o.op = .store 49 x y) (G k off : Nat) (L : List Spt) (s : Spt) (hx : a.eval x = .pointer (some ⟨G, off, none⟩)) (hoff : off = 3 * k) (hy : a.eval y = .agg (spC s).toArray) (hk : Blk w G 49 (rowS L)) (hl : k < L.length)
    (h : ∀ w', Hid (Blk w' G 49 (rowS (L.set k s))) → Hid (Keeps (· = G) w w') → wpList Try.prog ops Q rest (a.put o.dst undef) w') : wpList Try.prog ops Q (o :: rest) a w := by
  have hf : off + (spC s).length ≤ (rowS L).length := by rw [rowS_len]; simp [spC]; omega
  refine wpList_store_mid hgd 49 x y ho G off (spC s).toArray hx hy (hk.there off _ (by simpa using hf)) (by rw [size_spt]; rfl) (by simp [spC, Value.oneCell', sumV]) ?_
  refine h _ (Lib.hid ?_) (Lib.hid (Keeps.setCells (g := G) _ off _))
  have := hk.setCells (spC s) off w _ hf
  rwa [hoff, splice_rowS L k s hl, ← hoff] at this
end
end Go.Proofs.Ytnnbjcnfekgngaa
