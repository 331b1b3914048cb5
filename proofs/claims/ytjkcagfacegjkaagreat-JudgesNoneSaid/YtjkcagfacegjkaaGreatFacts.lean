/- Closed facts of the program, each by itself. -/
import Derived.Test.YtjkcagfacegjkaaGreatRows
import Derived.JoinedOf
import Derived.ProofKit
import Derived.KernelRfl
namespace Go.Proofs.YtjkcagfacegjkaaGreat.facts
open Go
theorem size : Tryz.prog.types.size = 751 := by kernel_rfl
theorem lo0 : ((List.range' 0 94).all (rowFine Tryz.prog)) = true := by kernel_rfl
theorem lo1 : ((List.range' 94 94).all (rowFine Tryz.prog)) = true := by kernel_rfl
theorem lo2 : ((List.range' 188 94).all (rowFine Tryz.prog)) = true := by kernel_rfl
theorem lo3 : ((List.range' 282 94).all (rowFine Tryz.prog)) = true := by kernel_rfl
theorem lo4 : ((List.range' 376 94).all (rowFine Tryz.prog)) = true := by kernel_rfl
theorem lo5 : ((List.range' 470 94).all (rowFine Tryz.prog)) = true := by kernel_rfl
theorem lo6 : ((List.range' 564 94).all (rowFine Tryz.prog)) = true := by kernel_rfl
theorem lo7 : ((List.range' 658 93).all (rowFine Tryz.prog)) = true := by kernel_rfl
theorem lg : (Tryz.prog.globals.all (fun g => decide (g.type < Tryz.prog.types.size))) = true := by kernel_rfl
theorem lf : (Tryz.prog.funcs.all (fun f => f.params.all fun t => decide (t < Tryz.prog.types.size))) = true := by kernel_rfl
theorem rows (t : Nat) (h : t < 751) : rowFine Tryz.prog t = true := by
  by_cases h0 : t < 94
  · exact List.all_eq_true.1 lo0 t (List.mem_range'_1.2 ⟨by omega, by omega⟩)
  by_cases h1 : t < 188
  · exact List.all_eq_true.1 lo1 t (List.mem_range'_1.2 ⟨by omega, by omega⟩)
  by_cases h2 : t < 282
  · exact List.all_eq_true.1 lo2 t (List.mem_range'_1.2 ⟨by omega, by omega⟩)
  by_cases h3 : t < 376
  · exact List.all_eq_true.1 lo3 t (List.mem_range'_1.2 ⟨by omega, by omega⟩)
  by_cases h4 : t < 470
  · exact List.all_eq_true.1 lo4 t (List.mem_range'_1.2 ⟨by omega, by omega⟩)
  by_cases h5 : t < 564
  · exact List.all_eq_true.1 lo5 t (List.mem_range'_1.2 ⟨by omega, by omega⟩)
  by_cases h6 : t < 658
  · exact List.all_eq_true.1 lo6 t (List.mem_range'_1.2 ⟨by omega, by omega⟩)
  by_cases h7 : t < 751
  · exact List.all_eq_true.1 lo7 t (List.mem_range'_1.2 ⟨by omega, by omega⟩)
  · omega
theorem laidOut : laidOutB Tryz.prog = true := by
  unfold laidOutB
  rw [lg, lf, Bool.and_true, Bool.and_true]
  exact List.all_eq_true.2 fun t ht => rows t (by rw [← size]; exact List.mem_range.1 ht)
#print axioms laidOut
end Go.Proofs.YtjkcagfacegjkaaGreat.facts
