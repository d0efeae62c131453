/-
  DERIVED. GIVEN WITH THE SEED: THE CARDS: each row of YtclpjmhanhocoaaDoorRows.lean that lists a variable, with what it lists TIED to the program's text (the seventh form; the later family's looks); each row that meets fmt, with fmt's text TOLD by the authors' own Lean function (tested against real Go, not proved from fmt's source: count such statements apart). THE CARD IS WHAT COUNTS. Prove the row's statement (the work); the ties are given (YtclpjmhanhocoaaDoorTie.lean); close each card by the builder's one call (the guide's Derived/Test/ToyasCard.lean, 'card_holds'). Laid BY PROGRAM, IN A SANDBOX (cutbox-door.mjs). By AI agents, Wed Nov 11 2026. No macro, syntax, notation, axiom, sorry.
-/
import Derived.Test.YtclpjmhanhocoaaDoorRows
import GoSem.ClaimSeven
namespace Go.Proofs.YtclpjmhanhocoaaDoor
namespace Rows

/-- THE TIED CARD OF 'muleteerlaw03.PacketKeys'. -/
def packetKeysCard : Claim7 := { stood := { row := packetKeysRow, standIns := [], harness := (true, "a4d9743b01cb0b7da90a639cdac8ae19505d91ede86bcde69eb4be350ba2d34e"), looks := false }, kinds := [], alts := [], laidByText := true, laidKinds := [.data, .data, .data], laidTests := true, laidLooks := .later }
def PacketKeysCardSaid : Prop := Claim7.holds Tryd.pinned (.plain (OpenSpec.ofChange packetKeysSpec)) packetKeysCard

/-- THE SECOND FORM's CARD OF 'muleteerlaw03.PacketKeys'. -/
def packetKeysUptoCard : Claim7 := { stood := { row := packetKeysUptoRow, standIns := [], harness := (true, "a4d9743b01cb0b7da90a639cdac8ae19505d91ede86bcde69eb4be350ba2d34e"), looks := false }, kinds := [], alts := [], laidByText := true, laidKinds := [.data, .data, .data], laidTests := true, laidLooks := .later }
def PacketKeysUptoCardSaid : Prop := Claim7.holds Tryd.pinned (.plain (OpenSpec.upto packetKeysSpec)) packetKeysUptoCard
end Rows
end Go.Proofs.YtclpjmhanhocoaaDoor
