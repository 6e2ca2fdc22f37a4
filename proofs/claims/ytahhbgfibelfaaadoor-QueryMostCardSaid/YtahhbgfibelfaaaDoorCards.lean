/-
  DERIVED. GIVEN WITH THE SEED: THE CARDS: each row of YtahhbgfibelfaaaDoorRows.lean that lists a variable, with what it lists TIED to the program's text (the seventh form; the later family's looks); each row that meets fmt, with fmt's text TOLD by the authors' own Lean function (tested against real Go, not proved from fmt's source: count such statements apart). THE CARD IS WHAT COUNTS. Prove the row's statement (the work); the ties are given (YtahhbgfibelfaaaDoorTie.lean); close each card by the builder's one call (the guide's Derived/Test/ToyasCard.lean, 'card_holds'). Laid BY PROGRAM, IN A SANDBOX (cutbox-door.mjs). By AI agents, Wed Nov 11 2026. No macro, syntax, notation, axiom, sorry.
-/
import Derived.Test.YtahhbgfibelfaaaDoorRows
import GoSem.ClaimSeven
namespace Go.Proofs.YtahhbgfibelfaaaDoor
namespace Rows

/-- THE TIED CARD OF 'lodestonelaw33.QueryMost'. -/
def queryMostCard : Claim7 := { stood := { row := queryMostRow, standIns := [], harness := (true, "2ee545107f42ff651e28fbf1b230ce3367ede017da607db4aeb6f7a65df0501c"), looks := true }, kinds := [], alts := [], laidByText := true, laidKinds := [.data, .data, .data, .sentinel, .sentinel, .data, .widerDeep, .widerDeep], laidTests := true, laidLooks := .later }
def QueryMostCardSaid : Prop := Claim7.holds Tryd.pinned (.plain (OpenSpec.ofChange queryMostSpec)) queryMostCard

/-- THE SECOND FORM's CARD OF 'lodestonelaw33.QueryMost'. -/
def queryMostUptoCard : Claim7 := { stood := { row := queryMostUptoRow, standIns := [], harness := (true, "2ee545107f42ff651e28fbf1b230ce3367ede017da607db4aeb6f7a65df0501c"), looks := true }, kinds := [], alts := [], laidByText := true, laidKinds := [.data, .data, .data, .sentinel, .sentinel, .data, .widerDeep, .widerDeep], laidTests := true, laidLooks := .later }
def QueryMostUptoCardSaid : Prop := Claim7.holds Tryd.pinned (.plain (OpenSpec.upto queryMostSpec)) queryMostUptoCard
end Rows
end Go.Proofs.YtahhbgfibelfaaaDoor
