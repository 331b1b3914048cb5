/- slices.Values of spots, called. -/
import Derived.Test.YtnnbjcnfekgngaaSSort
namespace Go.Proofs.Ytnnbjcnfekgngaa
open Go.RowKit
set_option linter.unusedSimpArgs false
set_option linter.unusedVariables false

theorem val_any (A : Option Addr) (len cap : Nat) (w : World) : Calls Try.prog 24 #[.slice A len cap] w fun e w' => e = .returned (.func (.func 30) #[] #[.pointer (some ⟨w.heap.size, 0, none⟩)]) ∧ w' = w.alloc (.cells #[.slice A len cap] 31) :=
  (callsIn_wide (n := 3)).1 (val_in Fence.wide 3 trivial rfl A len cap w)

end Go.Proofs.Ytnnbjcnfekgngaa
