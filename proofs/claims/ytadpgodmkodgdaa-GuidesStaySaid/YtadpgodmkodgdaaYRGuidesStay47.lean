/- The law GuidesStay: its parameters opened. -/
import Derived.Test.YtadpgodmkodgdaaYRGuidesStay46
namespace Go.Proofs.Ytadpgodmkodgdaa
open Go.RowKit Go.ChangeShapes Go.WideShapes
set_option linter.unusedSimpArgs false
set_option linter.unusedVariables false

set_option maxRecDepth 100000 in
theorem guidesStay_walk {H : Type} {enc : TypeId × Value → H} {base : Nat} {d0 d1 : DataW H} {p0 p1 : List MemPlace} (v0 v1 : Value) (w : World)
    (o0 : Value.okWide Try.prog w .any base 28 v0) (k0 : DataW.Trod enc Try.prog w 0 (fun _ => true) true 28 v0 d0 p0) (z0 : (d0.weights Try.prog 28).all (· ≤ reachBytes) = true)
    (o1 : Value.okWide Try.prog w .any base 29 v1) (k1 : DataW.Trod enc Try.prog w 0 (fun _ => true) true 29 v1 d1 p1) (z1 : (d1.weights Try.prog 29).all (· ≤ reachBytes) = true) :
    Calls Try.prog 3 #[v0, v1] w fun e w' => e = .returned (.bool true) ∧ Below w.heap.size w w' := by
  obtain ⟨cs0, rfl, hs0⟩ := okWide_agg (.inr ⟨_, _, Try.underlying28⟩) o0
  obtain ⟨f0, hf0⟩ := k0
  obtain ⟨f1, hf1⟩ := k1
  obtain ⟨hl, m, hp⟩ := open_array Try.underlying28 hf0
  rw [show Try.prog.cellsOf 27 = 19 by kernel_rfl] at hp
  rw [show Try.prog.cellsOf 28 = 38 by kernel_rfl] at hl
  obtain ⟨y0, hy0, _⟩ := hp 0 (by omega)
  obtain ⟨y1, hy1, _⟩ := hp 1 (by omega)
  obtain ⟨a0, e0, h0⟩ := open_act hy0
  obtain ⟨a1, e1, h1⟩ := open_act hy1
  obtain ⟨A, n, c, xs, ep, hxs, hn⟩ := open_acts hf1
  obtain ⟨av, nv, cv, rfl⟩ : ∃ av nv cv, v1 = .slice av nv cv := okWide_slice Try.underlying29 o1
  simp only [Value.cells] at ep
  have ev : Value.slice av nv cv = .slice A n c := by simpa using ep
  obtain ⟨cs0⟩ := cs0
  simp only [Value.cells] at hl e0 e1
  have e : cs0 = acC a0 ++ acC a1 := by
    rw [← e0, ← e1, Nat.zero_mul, List.drop_zero, Nat.one_mul, List.take_of_length_le (l := cs0.drop 19) (by rw [List.length_drop]; omega), List.take_append_drop]
  rw [ev, e]
  exact stay_at a0 a1 A n c xs w h0 h1 hxs hn
end Go.Proofs.Ytadpgodmkodgdaa
