/- The law GuidesPlay: its parameter opened. -/
import Derived.Test.YtlmlklaleooliaaGPlay
namespace Go.Proofs.Ytlmlklaleooliaa
open Go.RowKit Go.ChangeShapes Go.WideShapes
set_option linter.unusedSimpArgs false
set_option linter.unusedVariables false

set_option maxRecDepth 100000 in
theorem guidesPlay_walk {H : Type} {enc : TypeId × Value → H} {base : Nat} {d0 : DataW H} {p0 : List MemPlace} (v0 : Value) (w : World)
    (o0 : Value.okWide Try.prog w .any base 42 v0) (k0 : DataW.Trod enc Try.prog w 0 (fun _ => true) true 42 v0 d0 p0) (z0 : (d0.weights Try.prog 42).all (· ≤ reachBytes) = true) :
    Calls Try.prog 4 #[v0] w fun e w' => e = .returned (.bool true) ∧ Below w.heap.size w w' := by
  obtain ⟨f0, hf0⟩ := k0
  obtain ⟨A, n, c, xs, ep, hxs, hn⟩ := open_acts hf0
  obtain ⟨av, nv, cv, rfl⟩ : ∃ av nv cv, v0 = .slice av nv cv := okWide_slice Try.underlying42 o0
  simp only [Value.cells] at ep
  have ev : Value.slice av nv cv = .slice A n c := by simpa using ep
  rw [ev]
  exact play_at A n c xs w hxs hn
end Go.Proofs.Ytlmlklaleooliaa
