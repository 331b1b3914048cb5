/-
  DERIVED. GIVEN WITH THE SEED: THE CARDS: each row of YtlcnjdpfijgcdaaGreatDoorRows.lean that lists a variable, with what it lists TIED to the program's text (the seventh form; the later family's looks); each row that meets fmt, with fmt's text TOLD by the authors' own Lean function (tested against real Go, not proved from fmt's source: count such statements apart). THE CARD IS WHAT COUNTS. Prove the row's statement (the work); the ties are given (YtlcnjdpfijgcdaaGreatDoorTie.lean); close each card by the builder's one call (the guide's Derived/Test/ToyasCard.lean, 'card_holds'). Laid BY PROGRAM, IN A SANDBOX (cutbox-door.mjs). By AI agents, Wed Nov 11 2026. No macro, syntax, notation, axiom, sorry.
-/
import Derived.Test.YtlcnjdpfijgcdaaGreatDoorRows
import GoSem.ClaimSeven
namespace Go.Proofs.YtlcnjdpfijgcdaaGreatDoor
namespace Rows

/-- THE TIED CARD OF 'burrowlaw13.ParamsGet'. -/
def paramsGetCard : Claim7 := { stood := { row := paramsGetRow, standIns := [], harness := (true, "3942742e0607bea817046e1e4b3668292bb32ca1192f952f20007c9bc651e26f"), looks := false }, kinds := [], alts := [], laidByText := true, laidKinds := [.data, .data, .data], laidTests := true, laidLooks := .later }
def ParamsGetCardSaid : Prop := Claim7.holds Tryz.pinned (.plain (OpenSpec.ofChange paramsGetSpec)) paramsGetCard

/-- THE TIED CARD OF 'burrowlaw13.ParamsPut'. -/
def paramsPutCard : Claim7 := { stood := { row := paramsPutRow, standIns := [], harness := (true, "3942742e0607bea817046e1e4b3668292bb32ca1192f952f20007c9bc651e26f"), looks := false }, kinds := [], alts := [], laidByText := true, laidKinds := [.data, .data, .data], laidTests := true, laidLooks := .later }
def ParamsPutCardSaid : Prop := Claim7.holds Tryz.pinned (.plain (OpenSpec.ofChange paramsPutSpec)) paramsPutCard

/-- THE SECOND FORM's CARD OF 'burrowlaw13.ParamsGet'. -/
def paramsGetUptoCard : Claim7 := { stood := { row := paramsGetUptoRow, standIns := [], harness := (true, "3942742e0607bea817046e1e4b3668292bb32ca1192f952f20007c9bc651e26f"), looks := false }, kinds := [], alts := [], laidByText := true, laidKinds := [.data, .data, .data], laidTests := true, laidLooks := .later }
def ParamsGetUptoCardSaid : Prop := Claim7.holds Tryz.pinned (.plain (OpenSpec.upto paramsGetSpec)) paramsGetUptoCard

/-- THE SECOND FORM's CARD OF 'burrowlaw13.ParamsPut'. -/
def paramsPutUptoCard : Claim7 := { stood := { row := paramsPutUptoRow, standIns := [], harness := (true, "3942742e0607bea817046e1e4b3668292bb32ca1192f952f20007c9bc651e26f"), looks := false }, kinds := [], alts := [], laidByText := true, laidKinds := [.data, .data, .data], laidTests := true, laidLooks := .later }
def ParamsPutUptoCardSaid : Prop := Claim7.holds Tryz.pinned (.plain (OpenSpec.upto paramsPutSpec)) paramsPutUptoCard
end Rows
end Go.Proofs.YtlcnjdpfijgcdaaGreatDoor
