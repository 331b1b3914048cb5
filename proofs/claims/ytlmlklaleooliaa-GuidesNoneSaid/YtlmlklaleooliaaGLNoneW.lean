/- The law GuidesNone: its parameter opened. -/
import Derived.Test.YtlmlklaleooliaaGLNone
namespace Go.Proofs.Ytlmlklaleooliaa
open Go.RowKit Go.ChangeShapes Go.WideShapes
set_option linter.unusedSimpArgs false
set_option linter.unusedVariables false

set_option maxRecDepth 100000 in
theorem act_parts (cs : List Value) (h : cs.length = 19) : cs.take 1 ++ ((cs.drop 1).take 16 ++ ((cs.drop 17).take 1 ++ (cs.drop 18).take 1)) = cs := by
  have a1 : (cs.drop 18).take 1 = cs.drop 18 := List.take_of_length_le (by simp [h])
  have a2 : (cs.drop 17).take 1 ++ cs.drop 18 = cs.drop 17 := by
    have := List.take_append_drop 1 (cs.drop 17)
    rw [List.drop_drop] at this
    exact this
  have a3 : (cs.drop 1).take 16 ++ cs.drop 17 = cs.drop 1 := by
    have := List.take_append_drop 16 (cs.drop 1)
    rw [List.drop_drop] at this
    exact this
  rw [a1, a2, a3]
  exact List.take_append_drop 1 cs
set_option maxRecDepth 100000 in
theorem guidesNone_walk {H : Type} {enc : TypeId × Value → H} {base : Nat} {d0 : DataW H} {p0 : List MemPlace} (v0 : Value) (w : World)
    (o0 : Value.okWide Try.prog w .any base 27 v0) (k0 : DataW.Trod enc Try.prog w 0 (fun _ => true) true 27 v0 d0 p0) (z0 : (d0.weights Try.prog 27).all (· ≤ reachBytes) = true) :
    Calls Try.prog 3 #[v0] w fun e w' => e = .returned (.bool true) ∧ Below w.heap.size w w' := by
  obtain ⟨cs0, rfl, hs0⟩ := okWide_agg (.inl ⟨_, Try.underlying27⟩) o0
  obtain ⟨f0, hf0⟩ := k0
  obtain ⟨hl, m, hp⟩ := open_struct Try.underlying27 hf0
  obtain ⟨y0, hy0, L0⟩ := hp 0 _ rfl
  obtain ⟨y1, hy1, L1⟩ := hp 1 _ rfl
  obtain ⟨y2, hy2, L2⟩ := hp 2 _ rfl
  obtain ⟨y3, hy3, L3⟩ := hp 3 _ rfl
  simp only at hy0 hy1 hy2 hy3
  obtain ⟨k, ek, wk⟩ := cell_int Try.underlying5 hy0
  obtain ⟨tl, et, htl, htw⟩ := open_array_ints Try.underlying23 Try.underlying5 (by kernel_rfl) (by kernel_rfl) hy1
  obtain ⟨s, es, ws⟩ := cell_int Try.underlying25 hy2
  obtain ⟨t, eti, wt⟩ := cell_int Try.underlying24 hy3
  obtain ⟨cs0⟩ := cs0
  simp only [Value.cells] at hl ek et es eti
  rw [show Try.prog.cellsOf 27 = 19 by kernel_rfl] at hl
  rw [show Try.prog.cellsOf 5 = 1 by kernel_rfl] at ek
  rw [show Try.prog.cellsOf 23 = 16 by kernel_rfl] at et
  rw [show Try.prog.cellsOf 25 = 1 by kernel_rfl] at es
  rw [show Try.prog.cellsOf 24 = 1 by kernel_rfl] at eti
  have e := act_parts cs0 hl
  rw [List.drop_zero] at ek
  rw [ek, et, es, eti] at e
  have hcs : cs0 = .int .u8 k :: (tl.map (Value.int .u8) ++ [.int .u32 s, .int .u32 t]) := e.symm
  rw [hcs]
  exact none_at k tl s t w htl
end Go.Proofs.Ytlmlklaleooliaa
