/-
  DERIVED. GIVEN WITH THE SEED: THE CARDS: each row of YtjikjdignhdipaaGreatDoorRows.lean that lists a variable, with what it lists TIED to the program's text (the seventh form; the later family's looks); each row that meets fmt, with fmt's text TOLD by the authors' own Lean function (tested against real Go, not proved from fmt's source: count such statements apart). THE CARD IS WHAT COUNTS. Prove the row's statement (the work); the ties are given (YtjikjdignhdipaaGreatDoorTie.lean); close each card by the builder's one call (the guide's Derived/Test/ToyasCard.lean, 'card_holds'). Laid BY PROGRAM, IN A SANDBOX (cutbox-door.mjs). By AI agents, Wed Nov 11 2026. No macro, syntax, notation, axiom, sorry.
-/
import Derived.Test.YtjikjdignhdipaaGreatDoorRows
import GoSem.ClaimSeven
namespace Go.Proofs.YtjikjdignhdipaaGreatDoor
namespace Rows

/-- THE TIED CARD OF 'burrowlaw14.PacketsPut'. -/
def packetsPutCard : Claim7 := { stood := { row := packetsPutRow, standIns := [], harness := (true, "505ffd70883b443d7dfa583eda9cf22f3d77bd943bf500e43c9f11357873ab49"), looks := false }, kinds := [], alts := [], laidByText := true, laidKinds := [.data, .data, .data], laidTests := true, laidLooks := .later }
def PacketsPutCardSaid : Prop := Claim7.holds Tryz.pinned (.plain (OpenSpec.ofChange packetsPutSpec)) packetsPutCard

/-- THE TIED CARD OF 'burrowlaw14.PacketsGet'. -/
def packetsGetCard : Claim7 := { stood := { row := packetsGetRow, standIns := [], harness := (true, "505ffd70883b443d7dfa583eda9cf22f3d77bd943bf500e43c9f11357873ab49"), looks := false }, kinds := [], alts := [], laidByText := true, laidKinds := [.data, .data, .data], laidTests := true, laidLooks := .later }
def PacketsGetCardSaid : Prop := Claim7.holds Tryz.pinned (.plain (OpenSpec.ofChange packetsGetSpec)) packetsGetCard

/-- THE SECOND FORM's CARD OF 'burrowlaw14.PacketsPut'. -/
def packetsPutUptoCard : Claim7 := { stood := { row := packetsPutUptoRow, standIns := [], harness := (true, "505ffd70883b443d7dfa583eda9cf22f3d77bd943bf500e43c9f11357873ab49"), looks := false }, kinds := [], alts := [], laidByText := true, laidKinds := [.data, .data, .data], laidTests := true, laidLooks := .later }
def PacketsPutUptoCardSaid : Prop := Claim7.holds Tryz.pinned (.plain (OpenSpec.upto packetsPutSpec)) packetsPutUptoCard

/-- THE SECOND FORM's CARD OF 'burrowlaw14.PacketsGet'. -/
def packetsGetUptoCard : Claim7 := { stood := { row := packetsGetUptoRow, standIns := [], harness := (true, "505ffd70883b443d7dfa583eda9cf22f3d77bd943bf500e43c9f11357873ab49"), looks := false }, kinds := [], alts := [], laidByText := true, laidKinds := [.data, .data, .data], laidTests := true, laidLooks := .later }
def PacketsGetUptoCardSaid : Prop := Claim7.holds Tryz.pinned (.plain (OpenSpec.upto packetsGetSpec)) packetsGetUptoCard
end Rows
end Go.Proofs.YtjikjdignhdipaaGreatDoor
