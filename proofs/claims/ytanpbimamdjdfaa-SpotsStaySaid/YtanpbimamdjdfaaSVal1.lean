/- slices.Values of spots, called. -/
import Derived.Test.YtanpbimamdjdfaaSSort
namespace Go.Proofs.Ytanpbimamdjdfaa
open Go.RowKit
set_option linter.unusedSimpArgs false
set_option linter.unusedVariables false

theorem val_any (A : Option Addr) (len cap : Nat) (w : World) : Calls Try.prog 26 #[.slice A len cap] w fun e w' => e = .returned (.func (.func 34) #[] #[.pointer (some ⟨w.heap.size, 0, none⟩)]) ∧ w' = w.alloc (.cells #[.slice A len cap] 22) :=
  (callsIn_wide (n := 3)).1 (val_in Fence.wide 3 trivial rfl A len cap w)

end Go.Proofs.Ytanpbimamdjdfaa
