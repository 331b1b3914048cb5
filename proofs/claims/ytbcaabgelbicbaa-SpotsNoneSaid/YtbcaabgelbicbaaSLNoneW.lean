/- The law SpotsNone: its parameter opened. -/
import Derived.Test.YtbcaabgelbicbaaSLNone
namespace Go.Proofs.Ytbcaabgelbicbaa
open Go.RowKit Go.ChangeShapes Go.WideShapes
set_option linter.unusedSimpArgs false
set_option linter.unusedVariables false

theorem two_parts (cs : List Value) (a n k : Nat) (h : a + n = k) : (cs.drop a).take n ++ cs.drop k = cs.drop a := by
  subst h
  have := List.take_append_drop n (cs.drop a)
  rw [List.drop_drop] at this
  exact this
set_option maxRecDepth 100000 in
theorem act_parts (cs : List Value) (h : cs.length = 36) : (cs.drop 0).take 1 ++ ((cs.drop 1).take 1 ++ ((cs.drop 2).take 1 ++ ((cs.drop 3).take 32 ++ (cs.drop 35).take 1))) = cs := by
  have a1 : (cs.drop 35).take 1 = cs.drop 35 := List.take_of_length_le (by simp [h])
  rw [a1, two_parts cs 3 32 35 rfl, two_parts cs 2 1 3 rfl, two_parts cs 1 1 2 rfl, two_parts cs 0 1 1 rfl]
  rfl
set_option maxRecDepth 100000 in
theorem spotsNone_walk {H : Type} {enc : TypeId × Value → H} {base : Nat} {d0 : DataW H} {p0 : List MemPlace} (v0 : Value) (w : World)
    (o0 : Value.okWide Try.prog w .any base 28 v0) (k0 : DataW.Trod enc Try.prog w 0 (fun _ => true) true 28 v0 d0 p0) (z0 : (d0.weights Try.prog 28).all (· ≤ reachBytes) = true) :
    Calls Try.prog 3 #[v0] w fun e w' => e = .returned (.bool true) ∧ Below w.heap.size w w' := by
  obtain ⟨cs0, rfl, hs0⟩ := okWide_agg (.inl ⟨_, Try.underlying28⟩) o0
  obtain ⟨f0, hf0⟩ := k0
  obtain ⟨hl, m, hp⟩ := open_struct Try.underlying28 hf0
  obtain ⟨y0, hy0, L0⟩ := hp 0 _ rfl
  obtain ⟨y1, hy1, L1⟩ := hp 1 _ rfl
  obtain ⟨y2, hy2, L2⟩ := hp 2 _ rfl
  obtain ⟨y3, hy3, L3⟩ := hp 3 _ rfl
  obtain ⟨y4, hy4, L4⟩ := hp 4 _ rfl
  simp only at hy0 hy1 hy2 hy3 hy4 L1
  obtain ⟨k, ek, wk⟩ := cell_int Try.underlying5 hy0
  obtain ⟨A, n, c, xs, el, hsl⟩ := open_sl Try.underlying22 Try.underlying24 (by kernel_rfl) (by rw [show Try.prog.bytesOf 24 = 4 from by kernel_rfl]; omega) hy1 (L1 z0)
  obtain ⟨s, es, ws⟩ := cell_int Try.underlying24 hy2
  obtain ⟨tl, et, htl, htw⟩ := open_array_ints Try.underlying26 Try.underlying5 (by kernel_rfl) (by kernel_rfl) hy3
  obtain ⟨bt, eb, wb⟩ := cell_int Try.underlying3 hy4
  obtain ⟨cs0⟩ := cs0
  simp only [Value.cells] at hl ek el es et eb
  rw [show Try.prog.cellsOf 28 = 36 by kernel_rfl] at hl
  rw [show Try.prog.cellsOf 5 = 1 by kernel_rfl] at ek
  rw [show Try.prog.cellsOf 22 = 1 by kernel_rfl] at el
  rw [show Try.prog.cellsOf 24 = 1 by kernel_rfl] at es
  rw [show Try.prog.cellsOf 26 = 32 by kernel_rfl] at et
  rw [show Try.prog.cellsOf 3 = 1 by kernel_rfl] at eb
  have e := act_parts cs0 hl
  rw [ek, el, es, et, eb] at e
  have hcs : cs0 = .int .u8 k :: .slice A n c :: .int .u32 s :: (tl.map (Value.int .u8) ++ [.int .i64 bt]) := e.symm
  rw [hcs]
  exact none_at k A n c s tl bt w htl
end Go.Proofs.Ytbcaabgelbicbaa
