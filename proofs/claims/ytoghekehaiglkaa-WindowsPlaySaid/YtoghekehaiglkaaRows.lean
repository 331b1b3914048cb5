/-
  No cell of these rows narrows 'for every input' (looked for: loops, veiled, ifaces, maps, wideKeys, modest, calm, conditions, laid).
  DERIVED. THE GIVEN ROWS OF THIS SEAT. 6 by the template 'for every input the law returns true; each argument reads behind the call as it read before'; 0 by the template 'total and deterministic' (their statements: YtoghekehaiglkaaTotals.lean).
  GIVEN WITH THE SEED: the statements are not yours to turn. If you find one false, say at which input.
  Laid BY PROGRAM, IN A SANDBOX (cutbox-rows.mjs): the forced cells as the released guide's own fill.sh prints them over the translation a9120e8bdf6d1c28… (all of the seat's roots in one cut). By AI agents, Wed Nov 11 2026. No macro, syntax, notation, axiom, sorry.
-/
import Derived.Test.YtoghekehaiglkaaChecked
import GoSem.Claim
import GoSem.ClaimJoined
import GoSem.ClaimMapViews
import Derived.JoinedTies
import Derived.KernelRfl
namespace Go.Proofs.Ytoghekehaiglkaa
/- THE CELL 'sum', in the pinned program and in every row, IS THE sha256 OF THE DUMP (.gsa) THAT YtoghekehaiglkaaProg.lean LOADS. Nothing in Lean hashes anything: it is a label: what it is worth is what the hold of that sum in a sandbox is worth. -/
noncomputable def Try.pinned : Pinned := { name := "ytoghekehaiglkaa", sum := "a9120e8bdf6d1c28adcf9a63b17ff4c1186ca63bb75720bb94b86e68b9124256", checked := Try.checked }
namespace Rows
def none {H : Type} : Left H := { results := [], args := [] }

/-- 'burrowlaw18.WindowsNone': WHATEVER THE INPUT: true; the input reads as it did. -/
def windowsNoneSpec : ChangeSpec := { name := "windowsNone", fn := fun _ => fun
  | [d] => { results := [.lit (.bool true)], args := [d] }
  | _ => none }
def windowsNoneRow : OpenClaim := { program := "ytoghekehaiglkaa", sum := "a9120e8bdf6d1c28adcf9a63b17ff4c1186ca63bb75720bb94b86e68b9124256", func := "burrow/burrowlaw18.WindowsNone", spec := "windowsNone", apart := false }
def WindowsNoneSaid : Prop := windowsNoneRow.holds Try.pinned (OpenSpec.ofChange windowsNoneSpec)

/-- ITS FALSE NEIGHBOUR: 'it returns false'. Refute it at one input. -/
def windowsNoneWrong : ChangeSpec := { name := "windowsNone", fn := fun _ => fun
  | [d] => { results := [.lit (.bool false)], args := [d] }
  | _ => none }
def WindowsNoneWrongFalsely : Prop := windowsNoneRow.holds Try.pinned (OpenSpec.ofChange windowsNoneWrong)

/-- 'burrowlaw18.WindowsPlay': WHATEVER THE INPUT: true; the input reads as it did. -/
def windowsPlaySpec : ChangeSpec := { name := "windowsPlay", fn := fun _ => fun
  | [d] => { results := [.lit (.bool true)], args := [d] }
  | _ => none }
def windowsPlayRow : OpenClaim := { program := "ytoghekehaiglkaa", sum := "a9120e8bdf6d1c28adcf9a63b17ff4c1186ca63bb75720bb94b86e68b9124256", func := "burrow/burrowlaw18.WindowsPlay", spec := "windowsPlay", apart := false }
def WindowsPlaySaid : Prop := windowsPlayRow.holds Try.pinned (OpenSpec.ofChange windowsPlaySpec)

/-- ITS FALSE NEIGHBOUR: 'it returns false'. Refute it at one input. -/
def windowsPlayWrong : ChangeSpec := { name := "windowsPlay", fn := fun _ => fun
  | [d] => { results := [.lit (.bool false)], args := [d] }
  | _ => none }
def WindowsPlayWrongFalsely : Prop := windowsPlayRow.holds Try.pinned (OpenSpec.ofChange windowsPlayWrong)

/-- 'burrowlaw18.WindowsOnce': WHATEVER THE INPUT: true; the input reads as it did. -/
def windowsOnceSpec : ChangeSpec := { name := "windowsOnce", fn := fun _ => fun
  | [d] => { results := [.lit (.bool true)], args := [d] }
  | _ => none }
def windowsOnceRow : OpenClaim := { program := "ytoghekehaiglkaa", sum := "a9120e8bdf6d1c28adcf9a63b17ff4c1186ca63bb75720bb94b86e68b9124256", func := "burrow/burrowlaw18.WindowsOnce", spec := "windowsOnce", apart := false }
def WindowsOnceSaid : Prop := windowsOnceRow.holds Try.pinned (OpenSpec.ofChange windowsOnceSpec)

/-- ITS FALSE NEIGHBOUR: 'it returns false'. Refute it at one input. -/
def windowsOnceWrong : ChangeSpec := { name := "windowsOnce", fn := fun _ => fun
  | [d] => { results := [.lit (.bool false)], args := [d] }
  | _ => none }
def WindowsOnceWrongFalsely : Prop := windowsOnceRow.holds Try.pinned (OpenSpec.ofChange windowsOnceWrong)

/-- 'burrowlaw18.WindowsRise': WHATEVER THE INPUT: true; the input reads as it did. -/
def windowsRiseSpec : ChangeSpec := { name := "windowsRise", fn := fun _ => fun
  | [d1, d2] => { results := [.lit (.bool true)], args := [d1, d2] }
  | _ => none }
def windowsRiseRow : OpenClaim := { program := "ytoghekehaiglkaa", sum := "a9120e8bdf6d1c28adcf9a63b17ff4c1186ca63bb75720bb94b86e68b9124256", func := "burrow/burrowlaw18.WindowsRise", spec := "windowsRise", apart := false }
def WindowsRiseSaid : Prop := windowsRiseRow.holds Try.pinned (OpenSpec.ofChange windowsRiseSpec)

/-- ITS FALSE NEIGHBOUR: 'it returns false'. Refute it at one input. -/
def windowsRiseWrong : ChangeSpec := { name := "windowsRise", fn := fun _ => fun
  | [d1, d2] => { results := [.lit (.bool false)], args := [d1, d2] }
  | _ => none }
def WindowsRiseWrongFalsely : Prop := windowsRiseRow.holds Try.pinned (OpenSpec.ofChange windowsRiseWrong)

/-- 'burrowlaw18.WindowsAny': WHATEVER THE INPUT: true; the input reads as it did. -/
def windowsAnySpec : ChangeSpec := { name := "windowsAny", fn := fun _ => fun
  | [d1, d2] => { results := [.lit (.bool true)], args := [d1, d2] }
  | _ => none }
def windowsAnyRow : OpenClaim := { program := "ytoghekehaiglkaa", sum := "a9120e8bdf6d1c28adcf9a63b17ff4c1186ca63bb75720bb94b86e68b9124256", func := "burrow/burrowlaw18.WindowsAny", spec := "windowsAny", apart := false }
def WindowsAnySaid : Prop := windowsAnyRow.holds Try.pinned (OpenSpec.ofChange windowsAnySpec)

/-- ITS FALSE NEIGHBOUR: 'it returns false'. Refute it at one input. -/
def windowsAnyWrong : ChangeSpec := { name := "windowsAny", fn := fun _ => fun
  | [d1, d2] => { results := [.lit (.bool false)], args := [d1, d2] }
  | _ => none }
def WindowsAnyWrongFalsely : Prop := windowsAnyRow.holds Try.pinned (OpenSpec.ofChange windowsAnyWrong)

/-- 'burrowlaw18.WindowsMoved': WHATEVER THE INPUT: true; the input reads as it did. -/
def windowsMovedSpec : ChangeSpec := { name := "windowsMoved", fn := fun _ => fun
  | [d1, d2] => { results := [.lit (.bool true)], args := [d1, d2] }
  | _ => none }
def windowsMovedRow : OpenClaim := { program := "ytoghekehaiglkaa", sum := "a9120e8bdf6d1c28adcf9a63b17ff4c1186ca63bb75720bb94b86e68b9124256", func := "burrow/burrowlaw18.WindowsMoved", spec := "windowsMoved", apart := false }
def WindowsMovedSaid : Prop := windowsMovedRow.holds Try.pinned (OpenSpec.ofChange windowsMovedSpec)

/-- ITS FALSE NEIGHBOUR: 'it returns false'. Refute it at one input. -/
def windowsMovedWrong : ChangeSpec := { name := "windowsMoved", fn := fun _ => fun
  | [d1, d2] => { results := [.lit (.bool false)], args := [d1, d2] }
  | _ => none }
def WindowsMovedWrongFalsely : Prop := windowsMovedRow.holds Try.pinned (OpenSpec.ofChange windowsMovedWrong)

/- THE SECOND FORM. 'bulk': how many values and letters a reading holds, each counted each time it is reached (what is shared counts as often as it is met; a slice's spare places count too). A statement '..UptoSaid' is the law's where the arguments, and the package variables that the reading takes, are together of bulk at most 1048576: NARROWER than '..Said'. Prove '..Said' where nothing that the law and all that it calls make is longer than what came in: it says more and counts as full. Else prove '..UptoSaid'. A law counts once. -/
mutual
def uptoBulk {H : Type} : DataW H → Nat
  | .lit (.string bytes) => bytes.length + 1
  | .lit _ => 1
  | .nil => 1
  | .ptr d => uptoBulk d + 1
  | .slice elems spare => uptoBulkAll elems + uptoBulkAll spare + 1
  | .agg parts => uptoBulkAll parts + 1
  | .iface _ d => uptoBulk d + 1
  | .map entries => uptoBulkEntries entries + 1
  | .held _ => 1
def uptoBulkAll {H : Type} : List (DataW H) → Nat
  | [] => 0
  | d :: r => uptoBulk d + uptoBulkAll r
def uptoBulkEntries {H : Type} : List (Lit × DataW H) → Nat
  | [] => 0
  | x :: r => uptoBulkEntry x + uptoBulkEntries r
def uptoBulkEntry {H : Type} : Lit × DataW H → Nat
  | (.string bytes, d) => bytes.length + uptoBulk d + 1
  | (_, d) => uptoBulk d + 1
 end
def uptoSmall : (H : Type) → List (DataW H) → Bool := fun _ ds => decide (uptoBulkAll ds ≤ 1048576)
def OpenSpec.upto (s : _root_.Go.ChangeSpec) : _root_.Go.OpenSpec := { _root_.Go.OpenSpec.ofChange s with cond := some uptoSmall }

/-- 'burrowlaw18.WindowsNone', WHERE WHAT IT READS IS OF BULK AT MOST 1048576: true; the input reads as it did. -/
def windowsNoneUptoRow : OpenClaim := { program := "ytoghekehaiglkaa", sum := "a9120e8bdf6d1c28adcf9a63b17ff4c1186ca63bb75720bb94b86e68b9124256", func := "burrow/burrowlaw18.WindowsNone", spec := "windowsNone", apart := false, narrowed := true }
def WindowsNoneUptoSaid : Prop := windowsNoneUptoRow.holds Try.pinned (OpenSpec.upto windowsNoneSpec)

/-- 'burrowlaw18.WindowsPlay', WHERE WHAT IT READS IS OF BULK AT MOST 1048576: true; the input reads as it did. -/
def windowsPlayUptoRow : OpenClaim := { program := "ytoghekehaiglkaa", sum := "a9120e8bdf6d1c28adcf9a63b17ff4c1186ca63bb75720bb94b86e68b9124256", func := "burrow/burrowlaw18.WindowsPlay", spec := "windowsPlay", apart := false, narrowed := true }
def WindowsPlayUptoSaid : Prop := windowsPlayUptoRow.holds Try.pinned (OpenSpec.upto windowsPlaySpec)

/-- 'burrowlaw18.WindowsOnce', WHERE WHAT IT READS IS OF BULK AT MOST 1048576: true; the input reads as it did. -/
def windowsOnceUptoRow : OpenClaim := { program := "ytoghekehaiglkaa", sum := "a9120e8bdf6d1c28adcf9a63b17ff4c1186ca63bb75720bb94b86e68b9124256", func := "burrow/burrowlaw18.WindowsOnce", spec := "windowsOnce", apart := false, narrowed := true }
def WindowsOnceUptoSaid : Prop := windowsOnceUptoRow.holds Try.pinned (OpenSpec.upto windowsOnceSpec)

/-- 'burrowlaw18.WindowsRise', WHERE WHAT IT READS IS OF BULK AT MOST 1048576: true; the input reads as it did. -/
def windowsRiseUptoRow : OpenClaim := { program := "ytoghekehaiglkaa", sum := "a9120e8bdf6d1c28adcf9a63b17ff4c1186ca63bb75720bb94b86e68b9124256", func := "burrow/burrowlaw18.WindowsRise", spec := "windowsRise", apart := false, narrowed := true }
def WindowsRiseUptoSaid : Prop := windowsRiseUptoRow.holds Try.pinned (OpenSpec.upto windowsRiseSpec)

/-- 'burrowlaw18.WindowsAny', WHERE WHAT IT READS IS OF BULK AT MOST 1048576: true; the input reads as it did. -/
def windowsAnyUptoRow : OpenClaim := { program := "ytoghekehaiglkaa", sum := "a9120e8bdf6d1c28adcf9a63b17ff4c1186ca63bb75720bb94b86e68b9124256", func := "burrow/burrowlaw18.WindowsAny", spec := "windowsAny", apart := false, narrowed := true }
def WindowsAnyUptoSaid : Prop := windowsAnyUptoRow.holds Try.pinned (OpenSpec.upto windowsAnySpec)

/-- 'burrowlaw18.WindowsMoved', WHERE WHAT IT READS IS OF BULK AT MOST 1048576: true; the input reads as it did. -/
def windowsMovedUptoRow : OpenClaim := { program := "ytoghekehaiglkaa", sum := "a9120e8bdf6d1c28adcf9a63b17ff4c1186ca63bb75720bb94b86e68b9124256", func := "burrow/burrowlaw18.WindowsMoved", spec := "windowsMoved", apart := false, narrowed := true }
def WindowsMovedUptoSaid : Prop := windowsMovedUptoRow.holds Try.pinned (OpenSpec.upto windowsMovedSpec)

end Rows
end Go.Proofs.Ytoghekehaiglkaa
