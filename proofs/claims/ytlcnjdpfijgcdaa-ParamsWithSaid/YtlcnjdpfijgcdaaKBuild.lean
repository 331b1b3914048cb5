/- A struct that is built, in a region that draws its order. -/
import Derived.Test.YtlcnjdpfijgcdaaRowG
namespace Go.Proofs.Ytlcnjdpfijgcdaa
open Go.RowKit
theorem yieldsIf_buildG {P : Program} {ops : Array Oper} {a : Act} {S : World → Prop} {op : Oper} (hw : Region.wanted op (yielded ops a.tmps) = true) (ty : TypeId) (parts : Array (Nat × Operand)) (ho : op.op = .build ty parts) (v : Value)
    (hr : ∀ W, (Instr.build ty (parts.map fun (i, x) => (i, a.eval x))).run P W = .ok v W) : YieldsIf P ops S op v a :=
  .inl ⟨hw, fun w _ => by
    unfold execOp
    simp only [ho, Sem.run_bind, Sem.run_pure, Result.andThen_ok, hr]⟩
end Go.Proofs.Ytlcnjdpfijgcdaa
