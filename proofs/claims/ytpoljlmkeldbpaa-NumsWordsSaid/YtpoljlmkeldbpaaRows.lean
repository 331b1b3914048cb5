/-
  No cell of these rows narrows 'for every input' (looked for: loops, veiled, ifaces, maps, wideKeys, modest, calm, conditions, laid).
  DERIVED. THE GIVEN ROWS OF THIS SEAT. 4 by the template 'for every input the law returns true; each argument reads behind the call as it read before'; 0 by the template 'total and deterministic' (their statements: YtpoljlmkeldbpaaTotals.lean).
  GIVEN WITH THE SEED: the statements are not yours to turn. If you find one false, say at which input.
  Laid BY PROGRAM, IN A SANDBOX (cutbox-rows.mjs): the forced cells as the released guide's own fill.sh prints them over the translation 1adb8cccb8bde32e… (all of the seat's roots in one cut). By AI agents, Wed Nov 11 2026. No macro, syntax, notation, axiom, sorry.
-/
import Derived.Test.YtpoljlmkeldbpaaChecked
import GoSem.Claim
import GoSem.ClaimJoined
import GoSem.ClaimMapViews
import Derived.JoinedTies
import Derived.KernelRfl
namespace Go.Proofs.Ytpoljlmkeldbpaa
/- THE CELL 'sum', in the pinned program and in every row, IS THE sha256 OF THE DUMP (.gsa) THAT YtpoljlmkeldbpaaProg.lean LOADS. Nothing in Lean hashes anything: it is a label: what it is worth is what the hold of that sum in a sandbox is worth. -/
noncomputable def Try.pinned : Pinned := { name := "ytpoljlmkeldbpaa", sum := "1adb8cccb8bde32e266d516a864a7c85d3b1a1a9697297589f99f773122cfe7e", checked := Try.checked }
namespace Rows
def none {H : Type} : Left H := { results := [], args := [] }

/-- 'burrowlaw01.NumsTail': WHATEVER THE INPUT: true; the input reads as it did. -/
def numsTailSpec : ChangeSpec := { name := "numsTail", fn := fun _ => fun
  | [d1, d2] => { results := [.lit (.bool true)], args := [d1, d2] }
  | _ => none }
def numsTailRow : OpenClaim := { program := "ytpoljlmkeldbpaa", sum := "1adb8cccb8bde32e266d516a864a7c85d3b1a1a9697297589f99f773122cfe7e", func := "burrow/burrowlaw01.NumsTail", spec := "numsTail", unfollowed := true, recurses := true, apart := false }
def NumsTailSaid : Prop := numsTailRow.holds Try.pinned (OpenSpec.ofChange numsTailSpec)

/-- ITS FALSE NEIGHBOUR: 'it returns false'. Refute it at one input. -/
def numsTailWrong : ChangeSpec := { name := "numsTail", fn := fun _ => fun
  | [d1, d2] => { results := [.lit (.bool false)], args := [d1, d2] }
  | _ => none }
def NumsTailWrongFalsely : Prop := numsTailRow.holds Try.pinned (OpenSpec.ofChange numsTailWrong)

/-- 'burrowlaw01.NumsWords': WHATEVER THE INPUT: true; the input reads as it did. -/
def numsWordsSpec : ChangeSpec := { name := "numsWords", fn := fun _ => fun
  | [d1, d2] => { results := [.lit (.bool true)], args := [d1, d2] }
  | _ => none }
def numsWordsRow : OpenClaim := { program := "ytpoljlmkeldbpaa", sum := "1adb8cccb8bde32e266d516a864a7c85d3b1a1a9697297589f99f773122cfe7e", func := "burrow/burrowlaw01.NumsWords", spec := "numsWords", unfollowed := true, recurses := true, apart := false }
def NumsWordsSaid : Prop := numsWordsRow.holds Try.pinned (OpenSpec.ofChange numsWordsSpec)

/-- ITS FALSE NEIGHBOUR: 'it returns false'. Refute it at one input. -/
def numsWordsWrong : ChangeSpec := { name := "numsWords", fn := fun _ => fun
  | [d1, d2] => { results := [.lit (.bool false)], args := [d1, d2] }
  | _ => none }
def NumsWordsWrongFalsely : Prop := numsWordsRow.holds Try.pinned (OpenSpec.ofChange numsWordsWrong)

/-- 'burrowlaw01.NumsSplit': WHATEVER THE INPUT: true; the input reads as it did. -/
def numsSplitSpec : ChangeSpec := { name := "numsSplit", fn := fun _ => fun
  | [d1, d2, d3] => { results := [.lit (.bool true)], args := [d1, d2, d3] }
  | _ => none }
def numsSplitRow : OpenClaim := { program := "ytpoljlmkeldbpaa", sum := "1adb8cccb8bde32e266d516a864a7c85d3b1a1a9697297589f99f773122cfe7e", func := "burrow/burrowlaw01.NumsSplit", spec := "numsSplit", unfollowed := true, recurses := true, apart := false }
def NumsSplitSaid : Prop := numsSplitRow.holds Try.pinned (OpenSpec.ofChange numsSplitSpec)

/-- ITS FALSE NEIGHBOUR: 'it returns false'. Refute it at one input. -/
def numsSplitWrong : ChangeSpec := { name := "numsSplit", fn := fun _ => fun
  | [d1, d2, d3] => { results := [.lit (.bool false)], args := [d1, d2, d3] }
  | _ => none }
def NumsSplitWrongFalsely : Prop := numsSplitRow.holds Try.pinned (OpenSpec.ofChange numsSplitWrong)

/-- 'burrowlaw01.NumsTold': WHATEVER THE INPUT: true; the input reads as it did. -/
def numsToldSpec : ChangeSpec := { name := "numsTold", fn := fun _ => fun
  | [d1, d2] => { results := [.lit (.bool true)], args := [d1, d2] }
  | _ => none }
def numsToldRow : OpenClaim := { program := "ytpoljlmkeldbpaa", sum := "1adb8cccb8bde32e266d516a864a7c85d3b1a1a9697297589f99f773122cfe7e", func := "burrow/burrowlaw01.NumsTold", spec := "numsTold", unfollowed := true, recurses := true, apart := false }
def NumsToldSaid : Prop := numsToldRow.holds Try.pinned (OpenSpec.ofChange numsToldSpec)

/-- ITS FALSE NEIGHBOUR: 'it returns false'. Refute it at one input. -/
def numsToldWrong : ChangeSpec := { name := "numsTold", fn := fun _ => fun
  | [d1, d2] => { results := [.lit (.bool false)], args := [d1, d2] }
  | _ => none }
def NumsToldWrongFalsely : Prop := numsToldRow.holds Try.pinned (OpenSpec.ofChange numsToldWrong)

/- THE SECOND FORM. 'bulk': how many values and letters a reading holds, each counted each time it is reached (what is shared counts as often as it is met; a slice's spare places count too). A statement '..UptoSaid' is the law's where the arguments, and the package variables that the reading takes, are together of bulk at most 1048576: NARROWER than '..Said'. Prove '..Said' where nothing that the law and all that it calls make is longer than what came in: it says more and counts as full. Else prove '..UptoSaid'. A law counts once. -/
mutual
def uptoBulk {H : Type} : DataW H → Nat
  | .lit (.string bytes) => bytes.length + 1
  | .lit _ => 1
  | .nil => 1
  | .ptr d => uptoBulk d + 1
  | .slice elems spare => uptoBulkAll elems + uptoBulkAll spare + 1
  | .agg parts => uptoBulkAll parts + 1
  | .iface _ d => uptoBulk d + 1
  | .map entries => uptoBulkEntries entries + 1
  | .held _ => 1
def uptoBulkAll {H : Type} : List (DataW H) → Nat
  | [] => 0
  | d :: r => uptoBulk d + uptoBulkAll r
def uptoBulkEntries {H : Type} : List (Lit × DataW H) → Nat
  | [] => 0
  | x :: r => uptoBulkEntry x + uptoBulkEntries r
def uptoBulkEntry {H : Type} : Lit × DataW H → Nat
  | (.string bytes, d) => bytes.length + uptoBulk d + 1
  | (_, d) => uptoBulk d + 1
 end
def uptoSmall : (H : Type) → List (DataW H) → Bool := fun _ ds => decide (uptoBulkAll ds ≤ 1048576)
def OpenSpec.upto (s : _root_.Go.ChangeSpec) : _root_.Go.OpenSpec := { _root_.Go.OpenSpec.ofChange s with cond := some uptoSmall }

/-- 'burrowlaw01.NumsTail', WHERE WHAT IT READS IS OF BULK AT MOST 1048576: true; the input reads as it did. -/
def numsTailUptoRow : OpenClaim := { program := "ytpoljlmkeldbpaa", sum := "1adb8cccb8bde32e266d516a864a7c85d3b1a1a9697297589f99f773122cfe7e", func := "burrow/burrowlaw01.NumsTail", spec := "numsTail", unfollowed := true, recurses := true, apart := false, narrowed := true }
def NumsTailUptoSaid : Prop := numsTailUptoRow.holds Try.pinned (OpenSpec.upto numsTailSpec)

/-- 'burrowlaw01.NumsWords', WHERE WHAT IT READS IS OF BULK AT MOST 1048576: true; the input reads as it did. -/
def numsWordsUptoRow : OpenClaim := { program := "ytpoljlmkeldbpaa", sum := "1adb8cccb8bde32e266d516a864a7c85d3b1a1a9697297589f99f773122cfe7e", func := "burrow/burrowlaw01.NumsWords", spec := "numsWords", unfollowed := true, recurses := true, apart := false, narrowed := true }
def NumsWordsUptoSaid : Prop := numsWordsUptoRow.holds Try.pinned (OpenSpec.upto numsWordsSpec)

/-- 'burrowlaw01.NumsSplit', WHERE WHAT IT READS IS OF BULK AT MOST 1048576: true; the input reads as it did. -/
def numsSplitUptoRow : OpenClaim := { program := "ytpoljlmkeldbpaa", sum := "1adb8cccb8bde32e266d516a864a7c85d3b1a1a9697297589f99f773122cfe7e", func := "burrow/burrowlaw01.NumsSplit", spec := "numsSplit", unfollowed := true, recurses := true, apart := false, narrowed := true }
def NumsSplitUptoSaid : Prop := numsSplitUptoRow.holds Try.pinned (OpenSpec.upto numsSplitSpec)

/-- 'burrowlaw01.NumsTold', WHERE WHAT IT READS IS OF BULK AT MOST 1048576: true; the input reads as it did. -/
def numsToldUptoRow : OpenClaim := { program := "ytpoljlmkeldbpaa", sum := "1adb8cccb8bde32e266d516a864a7c85d3b1a1a9697297589f99f773122cfe7e", func := "burrow/burrowlaw01.NumsTold", spec := "numsTold", unfollowed := true, recurses := true, apart := false, narrowed := true }
def NumsToldUptoSaid : Prop := numsToldUptoRow.holds Try.pinned (OpenSpec.upto numsToldSpec)

end Rows
end Go.Proofs.Ytpoljlmkeldbpaa
