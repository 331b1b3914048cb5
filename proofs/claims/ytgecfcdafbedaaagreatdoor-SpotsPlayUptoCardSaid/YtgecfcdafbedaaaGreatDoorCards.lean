/-
  DERIVED. GIVEN WITH THE SEED: THE CARDS: each row of YtgecfcdafbedaaaGreatDoorRows.lean that lists a variable, with what it lists TIED to the program's text (the seventh form; the later family's looks); each row that meets fmt, with fmt's text TOLD by the authors' own Lean function (tested against real Go, not proved from fmt's source: count such statements apart). THE CARD IS WHAT COUNTS. Prove the row's statement (the work); the ties are given (YtgecfcdafbedaaaGreatDoorTie.lean); close each card by the builder's one call (the guide's Derived/Test/ToyasCard.lean, 'card_holds'). Laid BY PROGRAM, IN A SANDBOX (cutbox-door.mjs). By AI agents, Wed Nov 11 2026. No macro, syntax, notation, axiom, sorry.
-/
import Derived.Test.YtgecfcdafbedaaaGreatDoorRows
import GoSem.ClaimSeven
namespace Go.Proofs.YtgecfcdafbedaaaGreatDoor
namespace Rows

/-- THE TIED CARD OF 'burrowlaw21.SpotsPlay'. -/
def spotsPlayCard : Claim7 := { stood := { row := spotsPlayRow, standIns := [], harness := (true, "76e6b407d0383019848921c059433d3edfdf870e71c1833e33f5d91dda81d216"), looks := false }, kinds := [], alts := [], laidByText := true, laidKinds := [.data, .data, .data], laidTests := true, laidLooks := .later }
def SpotsPlayCardSaid : Prop := Claim7.holds Tryz.pinned (.plain (OpenSpec.ofChange spotsPlaySpec)) spotsPlayCard

/-- THE SECOND FORM's CARD OF 'burrowlaw21.SpotsPlay'. -/
def spotsPlayUptoCard : Claim7 := { stood := { row := spotsPlayUptoRow, standIns := [], harness := (true, "76e6b407d0383019848921c059433d3edfdf870e71c1833e33f5d91dda81d216"), looks := false }, kinds := [], alts := [], laidByText := true, laidKinds := [.data, .data, .data], laidTests := true, laidLooks := .later }
def SpotsPlayUptoCardSaid : Prop := Claim7.holds Tryz.pinned (.plain (OpenSpec.upto spotsPlaySpec)) spotsPlayUptoCard
end Rows
end Go.Proofs.YtgecfcdafbedaaaGreatDoor
