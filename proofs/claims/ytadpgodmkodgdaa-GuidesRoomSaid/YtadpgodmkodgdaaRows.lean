/-
  No cell of these rows narrows 'for every input' (looked for: loops, veiled, ifaces, maps, wideKeys, modest, calm, conditions, laid).
  DERIVED. THE GIVEN ROWS OF THIS SEAT. 3 by the template 'for every input the law returns true; each argument reads behind the call as it read before'; 0 by the template 'total and deterministic' (their statements: YtadpgodmkodgdaaTotals.lean).
  GIVEN WITH THE SEED: the statements are not yours to turn. If you find one false, say at which input.
  Laid BY PROGRAM, IN A SANDBOX (cutbox-rows.mjs): the forced cells as the released guide's own fill.sh prints them over the translation 643e8d7026a7d5e0… (all of the seat's roots in one cut). By AI agents, Wed Nov 11 2026. No macro, syntax, notation, axiom, sorry.
-/
import Derived.Test.YtadpgodmkodgdaaChecked
import GoSem.Claim
import GoSem.ClaimJoined
import GoSem.ClaimMapViews
import Derived.JoinedTies
import Derived.KernelRfl
namespace Go.Proofs.Ytadpgodmkodgdaa
/- THE CELL 'sum', in the pinned program and in every row, IS THE sha256 OF THE DUMP (.gsa) THAT YtadpgodmkodgdaaProg.lean LOADS. Nothing in Lean hashes anything: it is a label: what it is worth is what the hold of that sum in a sandbox is worth. -/
noncomputable def Try.pinned : Pinned := { name := "ytadpgodmkodgdaa", sum := "643e8d7026a7d5e059d8eeb86ed1ba50e59d97612aff8bf82583923653c27c66", checked := Try.checked }
namespace Rows
def none {H : Type} : Left H := { results := [], args := [] }

/-- 'burrowlaw26.GuidesStay': WHATEVER THE INPUT: true; the input reads as it did. -/
def guidesStaySpec : ChangeSpec := { name := "guidesStay", fn := fun _ => fun
  | [d1, d2] => { results := [.lit (.bool true)], args := [d1, d2] }
  | _ => none }
def guidesStayRow : OpenClaim := { program := "ytadpgodmkodgdaa", sum := "643e8d7026a7d5e059d8eeb86ed1ba50e59d97612aff8bf82583923653c27c66", func := "burrow/burrowlaw26.GuidesStay", spec := "guidesStay", inPlace := ["slices.overlaps[burrow/api.Param]"], unfollowed := true, recurses := true, apart := false }
def GuidesStaySaid : Prop := guidesStayRow.holds Try.pinned (OpenSpec.ofChange guidesStaySpec)

/-- ITS FALSE NEIGHBOUR: 'it returns false'. Refute it at one input. -/
def guidesStayWrong : ChangeSpec := { name := "guidesStay", fn := fun _ => fun
  | [d1, d2] => { results := [.lit (.bool false)], args := [d1, d2] }
  | _ => none }
def GuidesStayWrongFalsely : Prop := guidesStayRow.holds Try.pinned (OpenSpec.ofChange guidesStayWrong)

/-- 'burrowlaw26.GuidesOrigin': WHATEVER THE INPUT: true; the input reads as it did. -/
def guidesOriginSpec : ChangeSpec := { name := "guidesOrigin", fn := fun _ => fun
  | [d1, d2, d3] => { results := [.lit (.bool true)], args := [d1, d2, d3] }
  | _ => none }
def guidesOriginRow : OpenClaim := { program := "ytadpgodmkodgdaa", sum := "643e8d7026a7d5e059d8eeb86ed1ba50e59d97612aff8bf82583923653c27c66", func := "burrow/burrowlaw26.GuidesOrigin", spec := "guidesOrigin", inPlace := ["slices.overlaps[burrow/api.Param]"], unfollowed := true, recurses := true, apart := false }
def GuidesOriginSaid : Prop := guidesOriginRow.holds Try.pinned (OpenSpec.ofChange guidesOriginSpec)

/-- ITS FALSE NEIGHBOUR: 'it returns false'. Refute it at one input. -/
def guidesOriginWrong : ChangeSpec := { name := "guidesOrigin", fn := fun _ => fun
  | [d1, d2, d3] => { results := [.lit (.bool false)], args := [d1, d2, d3] }
  | _ => none }
def GuidesOriginWrongFalsely : Prop := guidesOriginRow.holds Try.pinned (OpenSpec.ofChange guidesOriginWrong)

/-- 'burrowlaw26.GuidesRoom': WHATEVER THE INPUT: true; the input reads as it did. -/
def guidesRoomSpec : ChangeSpec := { name := "guidesRoom", fn := fun _ => fun
  | [d] => { results := [.lit (.bool true)], args := [d] }
  | _ => none }
def guidesRoomRow : OpenClaim := { program := "ytadpgodmkodgdaa", sum := "643e8d7026a7d5e059d8eeb86ed1ba50e59d97612aff8bf82583923653c27c66", func := "burrow/burrowlaw26.GuidesRoom", spec := "guidesRoom", inPlace := ["slices.overlaps[burrow/api.Param]"], unfollowed := true, recurses := true, apart := false }
def GuidesRoomSaid : Prop := guidesRoomRow.holds Try.pinned (OpenSpec.ofChange guidesRoomSpec)

/-- ITS FALSE NEIGHBOUR: 'it returns false'. Refute it at one input. -/
def guidesRoomWrong : ChangeSpec := { name := "guidesRoom", fn := fun _ => fun
  | [d] => { results := [.lit (.bool false)], args := [d] }
  | _ => none }
def GuidesRoomWrongFalsely : Prop := guidesRoomRow.holds Try.pinned (OpenSpec.ofChange guidesRoomWrong)

/- THE SECOND FORM. 'bulk': how many values and letters a reading holds, each counted each time it is reached (what is shared counts as often as it is met; a slice's spare places count too). A statement '..UptoSaid' is the law's where the arguments, and the package variables that the reading takes, are together of bulk at most 1048576: NARROWER than '..Said'. Prove '..Said' where nothing that the law and all that it calls make is longer than what came in: it says more and counts as full. Else prove '..UptoSaid'. A law counts once. -/
mutual
def uptoBulk {H : Type} : DataW H → Nat
  | .lit (.string bytes) => bytes.length + 1
  | .lit _ => 1
  | .nil => 1
  | .ptr d => uptoBulk d + 1
  | .slice elems spare => uptoBulkAll elems + uptoBulkAll spare + 1
  | .agg parts => uptoBulkAll parts + 1
  | .iface _ d => uptoBulk d + 1
  | .map entries => uptoBulkEntries entries + 1
  | .held _ => 1
def uptoBulkAll {H : Type} : List (DataW H) → Nat
  | [] => 0
  | d :: r => uptoBulk d + uptoBulkAll r
def uptoBulkEntries {H : Type} : List (Lit × DataW H) → Nat
  | [] => 0
  | x :: r => uptoBulkEntry x + uptoBulkEntries r
def uptoBulkEntry {H : Type} : Lit × DataW H → Nat
  | (.string bytes, d) => bytes.length + uptoBulk d + 1
  | (_, d) => uptoBulk d + 1
 end
def uptoSmall : (H : Type) → List (DataW H) → Bool := fun _ ds => decide (uptoBulkAll ds ≤ 1048576)
def OpenSpec.upto (s : _root_.Go.ChangeSpec) : _root_.Go.OpenSpec := { _root_.Go.OpenSpec.ofChange s with cond := some uptoSmall }

/-- 'burrowlaw26.GuidesStay', WHERE WHAT IT READS IS OF BULK AT MOST 1048576: true; the input reads as it did. -/
def guidesStayUptoRow : OpenClaim := { program := "ytadpgodmkodgdaa", sum := "643e8d7026a7d5e059d8eeb86ed1ba50e59d97612aff8bf82583923653c27c66", func := "burrow/burrowlaw26.GuidesStay", spec := "guidesStay", inPlace := ["slices.overlaps[burrow/api.Param]"], unfollowed := true, recurses := true, apart := false, narrowed := true }
def GuidesStayUptoSaid : Prop := guidesStayUptoRow.holds Try.pinned (OpenSpec.upto guidesStaySpec)

/-- 'burrowlaw26.GuidesOrigin', WHERE WHAT IT READS IS OF BULK AT MOST 1048576: true; the input reads as it did. -/
def guidesOriginUptoRow : OpenClaim := { program := "ytadpgodmkodgdaa", sum := "643e8d7026a7d5e059d8eeb86ed1ba50e59d97612aff8bf82583923653c27c66", func := "burrow/burrowlaw26.GuidesOrigin", spec := "guidesOrigin", inPlace := ["slices.overlaps[burrow/api.Param]"], unfollowed := true, recurses := true, apart := false, narrowed := true }
def GuidesOriginUptoSaid : Prop := guidesOriginUptoRow.holds Try.pinned (OpenSpec.upto guidesOriginSpec)

/-- 'burrowlaw26.GuidesRoom', WHERE WHAT IT READS IS OF BULK AT MOST 1048576: true; the input reads as it did. -/
def guidesRoomUptoRow : OpenClaim := { program := "ytadpgodmkodgdaa", sum := "643e8d7026a7d5e059d8eeb86ed1ba50e59d97612aff8bf82583923653c27c66", func := "burrow/burrowlaw26.GuidesRoom", spec := "guidesRoom", inPlace := ["slices.overlaps[burrow/api.Param]"], unfollowed := true, recurses := true, apart := false, narrowed := true }
def GuidesRoomUptoSaid : Prop := guidesRoomUptoRow.holds Try.pinned (OpenSpec.upto guidesRoomSpec)

end Rows
end Go.Proofs.Ytadpgodmkodgdaa
