/-
  DERIVED. GIVEN WITH THE SEED: THE CARDS: each row of YtigcpjjmafpjhaaGreatDoorRows.lean that lists a variable, with what it lists TIED to the program's text (the seventh form; the later family's looks); each row that meets fmt, with fmt's text TOLD by the authors' own Lean function (tested against real Go, not proved from fmt's source: count such statements apart). THE CARD IS WHAT COUNTS. Prove the row's statement (the work); the ties are given (YtigcpjjmafpjhaaGreatDoorTie.lean); close each card by the builder's one call (the guide's Derived/Test/ToyasCard.lean, 'card_holds'). Laid BY PROGRAM, IN A SANDBOX (cutbox-door.mjs). By AI agents, Wed Nov 11 2026. No macro, syntax, notation, axiom, sorry.
-/
import Derived.Test.YtigcpjjmafpjhaaGreatDoorRows
import GoSem.ClaimSeven
namespace Go.Proofs.YtigcpjjmafpjhaaGreatDoor
namespace Rows

/-- THE TIED CARD OF 'burrowlaw01.NumsRead'. -/
def numsReadCard : Claim7 := { stood := { row := numsReadRow, standIns := [], harness := (true, "78a57070390fd5b329eae8adfb6275f25be53229495d526be242faeb18355fef"), looks := false }, kinds := [], alts := [], laidByText := true, laidKinds := [.data, .data, .data], laidTests := true, laidLooks := .later }
def NumsReadCardSaid : Prop := Claim7.holds Tryz.pinned (.plain (OpenSpec.ofChange numsReadSpec)) numsReadCard

/-- THE TIED CARD OF 'burrowlaw01.NumsWritten'. -/
def numsWrittenCard : Claim7 := { stood := { row := numsWrittenRow, standIns := [], harness := (true, "78a57070390fd5b329eae8adfb6275f25be53229495d526be242faeb18355fef"), looks := false }, kinds := [], alts := [], laidByText := true, laidKinds := [.data, .data, .data], laidTests := true, laidLooks := .later }
def NumsWrittenCardSaid : Prop := Claim7.holds Tryz.pinned (.plain (OpenSpec.ofChange numsWrittenSpec)) numsWrittenCard

/-- THE SECOND FORM's CARD OF 'burrowlaw01.NumsRead'. -/
def numsReadUptoCard : Claim7 := { stood := { row := numsReadUptoRow, standIns := [], harness := (true, "78a57070390fd5b329eae8adfb6275f25be53229495d526be242faeb18355fef"), looks := false }, kinds := [], alts := [], laidByText := true, laidKinds := [.data, .data, .data], laidTests := true, laidLooks := .later }
def NumsReadUptoCardSaid : Prop := Claim7.holds Tryz.pinned (.plain (OpenSpec.upto numsReadSpec)) numsReadUptoCard

/-- THE SECOND FORM's CARD OF 'burrowlaw01.NumsWritten'. -/
def numsWrittenUptoCard : Claim7 := { stood := { row := numsWrittenUptoRow, standIns := [], harness := (true, "78a57070390fd5b329eae8adfb6275f25be53229495d526be242faeb18355fef"), looks := false }, kinds := [], alts := [], laidByText := true, laidKinds := [.data, .data, .data], laidTests := true, laidLooks := .later }
def NumsWrittenUptoCardSaid : Prop := Claim7.holds Tryz.pinned (.plain (OpenSpec.upto numsWrittenSpec)) numsWrittenUptoCard
end Rows
end Go.Proofs.YtigcpjjmafpjhaaGreatDoor
