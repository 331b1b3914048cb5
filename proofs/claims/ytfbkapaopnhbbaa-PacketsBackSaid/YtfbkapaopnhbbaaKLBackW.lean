/- The law PacketsBack: its parameters opened. -/
import Derived.Test.YtfbkapaopnhbbaaKLBack
import Derived.Test.YtfbkapaopnhbbaaKOpenP
namespace Go.Proofs.Ytfbkapaopnhbbaa
open Go.RowKit Go.ChangeShapes Go.WideShapes
set_option linter.unusedSimpArgs false
set_option linter.unusedVariables false

theorem four_parts (cs : List Value) (h : cs.length = 34) : cs.take 1 ++ ((cs.drop 1).take 16 ++ ((cs.drop 17).take 16 ++ (cs.drop 33).take 1)) = cs := by
  have a1 : (cs.drop 33).take 1 = cs.drop 33 := List.take_of_length_le (by simp [h])
  have a2 : (cs.drop 17).take 16 ++ cs.drop 33 = cs.drop 17 := by
    have := List.take_append_drop 16 (cs.drop 17)
    rwa [List.drop_drop] at this
  have a3 : (cs.drop 1).take 16 ++ cs.drop 17 = cs.drop 1 := by
    have := List.take_append_drop 16 (cs.drop 1)
    rwa [List.drop_drop] at this
  rw [a1, a2, a3]
  exact List.take_append_drop 1 cs
theorem packetsBack_walk {H : Type} {enc : TypeId × Value → H} {base : Nat} {d0 : DataW H} {p0 : List MemPlace} (v0 : Value) (a1 a2 : Int) (w : World)
    (o0 : Value.okWide Try.prog w .any base 27 v0) (k0 : DataW.Trod enc Try.prog w 0 (fun _ => true) true 27 v0 d0 p0) (z0 : (d0.weights Try.prog 27).all (· ≤ reachBytes) = true)
    (w1 : (Lit.int .u16 a1).wf = true) (w2 : (Lit.int .u8 a2).wf = true) :
    Calls Try.prog 3 #[v0, .int .u16 a1, .int .u8 a2] w fun e w' => e = .returned (.bool true) ∧ Below w.heap.size w w' := by
  obtain ⟨cs0, rfl, hs0⟩ := okWide_agg (.inl ⟨_, Try.underlying27⟩) o0
  obtain ⟨f0, hf0⟩ := k0
  obtain ⟨hl, m, hp⟩ := open_struct Try.underlying27 hf0
  obtain ⟨y0, hy0, L0⟩ := hp 0 _ rfl
  obtain ⟨y1, hy1, L1⟩ := hp 1 _ rfl
  obtain ⟨y2, hy2, L2⟩ := hp 2 _ rfl
  obtain ⟨y3, hy3, L3⟩ := hp 3 _ rfl
  simp only at hy0 hy1 hy2 hy3 L3
  obtain ⟨kd, ek, wk⟩ := cell_int Try.underlying22 hy0
  obtain ⟨fl, ef, hfl, hfw⟩ := open_array_ints Try.underlying24 Try.underlying5 (by kernel_rfl) (by kernel_rfl) hy1
  obtain ⟨tl, et, htl, htw⟩ := open_array_ints Try.underlying24 Try.underlying5 (by kernel_rfl) (by kernel_rfl) hy2
  obtain ⟨A, n, c, ps, ep, hps⟩ := open_pieces hy3 (L3 z0)
  obtain ⟨cs0⟩ := cs0
  simp only [Value.cells] at hl ek ef et ep
  rw [show Try.prog.cellsOf 27 = 34 by kernel_rfl] at hl
  rw [show Try.prog.cellsOf 22 = 1 by kernel_rfl] at ek
  rw [show Try.prog.cellsOf 24 = 16 by kernel_rfl] at ef et
  rw [show Try.prog.cellsOf 25 = 1 by kernel_rfl] at ep
  have e := four_parts cs0 hl
  rw [List.drop_zero] at ek
  rw [ek, ef, et, ep] at e
  have hcs : cs0 = pktC kd fl tl (.slice A n c) := e.symm
  rw [hcs]
  exact back_at kd fl tl ps A n c a1 a2 w hps hfl htl (fun x hx => wf_bounds_u8 (hfw x hx)) (fun x hx => wf_bounds_u8 (htw x hx)) (wf_bounds_u8 wk) (wf_bounds_u16 w1) (wf_bounds_u8 w2)
end Go.Proofs.Ytfbkapaopnhbbaa
