/-
  DERIVED. GIVEN WITH THE SEED: THE CARDS: each row of YtimpjlnbbdfehaaGreatDoorRows.lean that lists a variable, with what it lists TIED to the program's text (the seventh form; the later family's looks); each row that meets fmt, with fmt's text TOLD by the authors' own Lean function (tested against real Go, not proved from fmt's source: count such statements apart). THE CARD IS WHAT COUNTS. Prove the row's statement (the work); the ties are given (YtimpjlnbbdfehaaGreatDoorTie.lean); close each card by the builder's one call (the guide's Derived/Test/ToyasCard.lean, 'card_holds'). Laid BY PROGRAM, IN A SANDBOX (cutbox-door.mjs). By AI agents, Wed Nov 11 2026. No macro, syntax, notation, axiom, sorry.
-/
import Derived.Test.YtimpjlnbbdfehaaGreatDoorRows
import GoSem.ClaimSeven
namespace Go.Proofs.YtimpjlnbbdfehaaGreatDoor
namespace Rows

/-- THE TIED CARD OF 'lodestonelaw16.PagerLays'. -/
def pagerLaysCard : Claim7 := { stood := { row := pagerLaysRow, standIns := [], harness := (true, "bf484487e6c8d3db1aa20f22edf73caec7eb3dd7eec89bb8ef93aef8df67693f"), looks := false }, kinds := [], alts := [], laidByText := true, laidKinds := [.data, .data, .pinned], laidTests := true, laidLooks := .later }
def PagerLaysCardSaid : Prop := Claim7.holds Tryz.pinned (.plain (OpenSpec.ofChange pagerLaysSpec)) pagerLaysCard

/-- THE TIED CARD OF 'lodestonelaw16.PagerHeads'. -/
def pagerHeadsCard : Claim7 := { stood := { row := pagerHeadsRow, standIns := [], harness := (true, "bf484487e6c8d3db1aa20f22edf73caec7eb3dd7eec89bb8ef93aef8df67693f"), looks := false }, kinds := [], alts := [], laidByText := true, laidKinds := [.data, .data, .pinned], laidTests := true, laidLooks := .later }
def PagerHeadsCardSaid : Prop := Claim7.holds Tryz.pinned (.plain (OpenSpec.ofChange pagerHeadsSpec)) pagerHeadsCard

/-- THE TIED CARD OF 'lodestonelaw16.PagerBent'. -/
def pagerBentCard : Claim7 := { stood := { row := pagerBentRow, standIns := [], harness := (true, "bf484487e6c8d3db1aa20f22edf73caec7eb3dd7eec89bb8ef93aef8df67693f"), looks := false }, kinds := [], alts := [], laidByText := true, laidKinds := [.data, .data, .pinned], laidTests := true, laidLooks := .later }
def PagerBentCardSaid : Prop := Claim7.holds Tryz.pinned (.plain (OpenSpec.ofChange pagerBentSpec)) pagerBentCard

/-- THE TIED CARD OF 'lodestonelaw16.PagerNone'. -/
def pagerNoneCard : Claim7 := { stood := { row := pagerNoneRow, standIns := [], harness := (true, "bf484487e6c8d3db1aa20f22edf73caec7eb3dd7eec89bb8ef93aef8df67693f"), looks := false }, kinds := [], alts := [], laidByText := true, laidKinds := [.data, .data, .pinned], laidTests := true, laidLooks := .later }
def PagerNoneCardSaid : Prop := Claim7.holds Tryz.pinned (.plain (OpenSpec.ofChange pagerNoneSpec)) pagerNoneCard

/-- THE TIED CARD OF 'lodestonelaw16.PagerPlays'. -/
def pagerPlaysCard : Claim7 := { stood := { row := pagerPlaysRow, standIns := [], harness := (true, "bf484487e6c8d3db1aa20f22edf73caec7eb3dd7eec89bb8ef93aef8df67693f"), looks := false }, kinds := [], alts := [], laidByText := true, laidKinds := [.data, .data, .pinned], laidTests := true, laidLooks := .later }
def PagerPlaysCardSaid : Prop := Claim7.holds Tryz.pinned (.plain (OpenSpec.ofChange pagerPlaysSpec)) pagerPlaysCard

/-- THE TIED CARD OF 'lodestonelaw20.BlobFull'. -/
def blobFullCard : Claim7 := { stood := { row := blobFullRow, standIns := [], harness := (true, "bf484487e6c8d3db1aa20f22edf73caec7eb3dd7eec89bb8ef93aef8df67693f"), looks := false }, kinds := [], alts := [], laidByText := true, laidKinds := [.data, .data, .pinned], laidTests := true, laidLooks := .later }
def BlobFullCardSaid : Prop := Claim7.holds Tryz.pinned (.plain (OpenSpec.ofChange blobFullSpec)) blobFullCard

/-- THE TIED CARD OF 'lodestonelaw18.TreeInput'. -/
def treeInputCard : Claim7 := { stood := { row := treeInputRow, standIns := [], harness := (true, "bf484487e6c8d3db1aa20f22edf73caec7eb3dd7eec89bb8ef93aef8df67693f"), looks := false }, kinds := [], alts := [], laidByText := true, laidKinds := [.data, .data, .pinned], laidTests := true, laidLooks := .later }
def TreeInputCardSaid : Prop := Claim7.holds Tryz.pinned (.plain (OpenSpec.ofChange treeInputSpec)) treeInputCard

/-- THE TIED CARD OF 'lodestonelaw19.CursorRanges'. -/
def cursorRangesCard : Claim7 := { stood := { row := cursorRangesRow, standIns := [], harness := (true, "bf484487e6c8d3db1aa20f22edf73caec7eb3dd7eec89bb8ef93aef8df67693f"), looks := false }, kinds := [], alts := [], laidByText := true, laidKinds := [.data, .data, .pinned], laidTests := true, laidLooks := .later }
def CursorRangesCardSaid : Prop := Claim7.holds Tryz.pinned (.plain (OpenSpec.ofChange cursorRangesSpec)) cursorRangesCard

/-- THE TIED CARD OF 'lodestonelaw18.TreeGrows'. -/
def treeGrowsCard : Claim7 := { stood := { row := treeGrowsRow, standIns := [], harness := (true, "bf484487e6c8d3db1aa20f22edf73caec7eb3dd7eec89bb8ef93aef8df67693f"), looks := false }, kinds := [], alts := [], laidByText := true, laidKinds := [.data, .data, .pinned], laidTests := true, laidLooks := .later }
def TreeGrowsCardSaid : Prop := Claim7.holds Tryz.pinned (.plain (OpenSpec.ofChange treeGrowsSpec)) treeGrowsCard

/-- THE TIED CARD OF 'lodestonelaw18.TreeKeeps'. -/
def treeKeepsCard : Claim7 := { stood := { row := treeKeepsRow, standIns := [], harness := (true, "bf484487e6c8d3db1aa20f22edf73caec7eb3dd7eec89bb8ef93aef8df67693f"), looks := false }, kinds := [], alts := [], laidByText := true, laidKinds := [.data, .data, .pinned], laidTests := true, laidLooks := .later }
def TreeKeepsCardSaid : Prop := Claim7.holds Tryz.pinned (.plain (OpenSpec.ofChange treeKeepsSpec)) treeKeepsCard

/-- THE TIED CARD OF 'lodestonelaw18.TreeAgain'. -/
def treeAgainCard : Claim7 := { stood := { row := treeAgainRow, standIns := [], harness := (true, "bf484487e6c8d3db1aa20f22edf73caec7eb3dd7eec89bb8ef93aef8df67693f"), looks := false }, kinds := [], alts := [], laidByText := true, laidKinds := [.data, .data, .pinned], laidTests := true, laidLooks := .later }
def TreeAgainCardSaid : Prop := Claim7.holds Tryz.pinned (.plain (OpenSpec.ofChange treeAgainSpec)) treeAgainCard

/-- THE TIED CARD OF 'lodestonelaw18.TreePages'. -/
def treePagesCard : Claim7 := { stood := { row := treePagesRow, standIns := [], harness := (true, "bf484487e6c8d3db1aa20f22edf73caec7eb3dd7eec89bb8ef93aef8df67693f"), looks := false }, kinds := [], alts := [], laidByText := true, laidKinds := [.data, .data, .pinned], laidTests := true, laidLooks := .later }
def TreePagesCardSaid : Prop := Claim7.holds Tryz.pinned (.plain (OpenSpec.ofChange treePagesSpec)) treePagesCard

/-- THE TIED CARD OF 'lodestonelaw19.CursorNexts'. -/
def cursorNextsCard : Claim7 := { stood := { row := cursorNextsRow, standIns := [], harness := (true, "bf484487e6c8d3db1aa20f22edf73caec7eb3dd7eec89bb8ef93aef8df67693f"), looks := false }, kinds := [], alts := [], laidByText := true, laidKinds := [.data, .data, .pinned], laidTests := true, laidLooks := .later }
def CursorNextsCardSaid : Prop := Claim7.holds Tryz.pinned (.plain (OpenSpec.ofChange cursorNextsSpec)) cursorNextsCard

/-- THE SECOND FORM's CARD OF 'lodestonelaw16.PagerLays'. -/
def pagerLaysUptoCard : Claim7 := { stood := { row := pagerLaysUptoRow, standIns := [], harness := (true, "bf484487e6c8d3db1aa20f22edf73caec7eb3dd7eec89bb8ef93aef8df67693f"), looks := false }, kinds := [], alts := [], laidByText := true, laidKinds := [.data, .data, .pinned], laidTests := true, laidLooks := .later }
def PagerLaysUptoCardSaid : Prop := Claim7.holds Tryz.pinned (.plain (OpenSpec.upto pagerLaysSpec)) pagerLaysUptoCard

/-- THE SECOND FORM's CARD OF 'lodestonelaw16.PagerHeads'. -/
def pagerHeadsUptoCard : Claim7 := { stood := { row := pagerHeadsUptoRow, standIns := [], harness := (true, "bf484487e6c8d3db1aa20f22edf73caec7eb3dd7eec89bb8ef93aef8df67693f"), looks := false }, kinds := [], alts := [], laidByText := true, laidKinds := [.data, .data, .pinned], laidTests := true, laidLooks := .later }
def PagerHeadsUptoCardSaid : Prop := Claim7.holds Tryz.pinned (.plain (OpenSpec.upto pagerHeadsSpec)) pagerHeadsUptoCard

/-- THE SECOND FORM's CARD OF 'lodestonelaw16.PagerBent'. -/
def pagerBentUptoCard : Claim7 := { stood := { row := pagerBentUptoRow, standIns := [], harness := (true, "bf484487e6c8d3db1aa20f22edf73caec7eb3dd7eec89bb8ef93aef8df67693f"), looks := false }, kinds := [], alts := [], laidByText := true, laidKinds := [.data, .data, .pinned], laidTests := true, laidLooks := .later }
def PagerBentUptoCardSaid : Prop := Claim7.holds Tryz.pinned (.plain (OpenSpec.upto pagerBentSpec)) pagerBentUptoCard

/-- THE SECOND FORM's CARD OF 'lodestonelaw16.PagerNone'. -/
def pagerNoneUptoCard : Claim7 := { stood := { row := pagerNoneUptoRow, standIns := [], harness := (true, "bf484487e6c8d3db1aa20f22edf73caec7eb3dd7eec89bb8ef93aef8df67693f"), looks := false }, kinds := [], alts := [], laidByText := true, laidKinds := [.data, .data, .pinned], laidTests := true, laidLooks := .later }
def PagerNoneUptoCardSaid : Prop := Claim7.holds Tryz.pinned (.plain (OpenSpec.upto pagerNoneSpec)) pagerNoneUptoCard

/-- THE SECOND FORM's CARD OF 'lodestonelaw16.PagerPlays'. -/
def pagerPlaysUptoCard : Claim7 := { stood := { row := pagerPlaysUptoRow, standIns := [], harness := (true, "bf484487e6c8d3db1aa20f22edf73caec7eb3dd7eec89bb8ef93aef8df67693f"), looks := false }, kinds := [], alts := [], laidByText := true, laidKinds := [.data, .data, .pinned], laidTests := true, laidLooks := .later }
def PagerPlaysUptoCardSaid : Prop := Claim7.holds Tryz.pinned (.plain (OpenSpec.upto pagerPlaysSpec)) pagerPlaysUptoCard

/-- THE SECOND FORM's CARD OF 'lodestonelaw20.BlobFull'. -/
def blobFullUptoCard : Claim7 := { stood := { row := blobFullUptoRow, standIns := [], harness := (true, "bf484487e6c8d3db1aa20f22edf73caec7eb3dd7eec89bb8ef93aef8df67693f"), looks := false }, kinds := [], alts := [], laidByText := true, laidKinds := [.data, .data, .pinned], laidTests := true, laidLooks := .later }
def BlobFullUptoCardSaid : Prop := Claim7.holds Tryz.pinned (.plain (OpenSpec.upto blobFullSpec)) blobFullUptoCard

/-- THE SECOND FORM's CARD OF 'lodestonelaw18.TreeInput'. -/
def treeInputUptoCard : Claim7 := { stood := { row := treeInputUptoRow, standIns := [], harness := (true, "bf484487e6c8d3db1aa20f22edf73caec7eb3dd7eec89bb8ef93aef8df67693f"), looks := false }, kinds := [], alts := [], laidByText := true, laidKinds := [.data, .data, .pinned], laidTests := true, laidLooks := .later }
def TreeInputUptoCardSaid : Prop := Claim7.holds Tryz.pinned (.plain (OpenSpec.upto treeInputSpec)) treeInputUptoCard

/-- THE SECOND FORM's CARD OF 'lodestonelaw19.CursorRanges'. -/
def cursorRangesUptoCard : Claim7 := { stood := { row := cursorRangesUptoRow, standIns := [], harness := (true, "bf484487e6c8d3db1aa20f22edf73caec7eb3dd7eec89bb8ef93aef8df67693f"), looks := false }, kinds := [], alts := [], laidByText := true, laidKinds := [.data, .data, .pinned], laidTests := true, laidLooks := .later }
def CursorRangesUptoCardSaid : Prop := Claim7.holds Tryz.pinned (.plain (OpenSpec.upto cursorRangesSpec)) cursorRangesUptoCard

/-- THE SECOND FORM's CARD OF 'lodestonelaw18.TreeGrows'. -/
def treeGrowsUptoCard : Claim7 := { stood := { row := treeGrowsUptoRow, standIns := [], harness := (true, "bf484487e6c8d3db1aa20f22edf73caec7eb3dd7eec89bb8ef93aef8df67693f"), looks := false }, kinds := [], alts := [], laidByText := true, laidKinds := [.data, .data, .pinned], laidTests := true, laidLooks := .later }
def TreeGrowsUptoCardSaid : Prop := Claim7.holds Tryz.pinned (.plain (OpenSpec.upto treeGrowsSpec)) treeGrowsUptoCard

/-- THE SECOND FORM's CARD OF 'lodestonelaw18.TreeKeeps'. -/
def treeKeepsUptoCard : Claim7 := { stood := { row := treeKeepsUptoRow, standIns := [], harness := (true, "bf484487e6c8d3db1aa20f22edf73caec7eb3dd7eec89bb8ef93aef8df67693f"), looks := false }, kinds := [], alts := [], laidByText := true, laidKinds := [.data, .data, .pinned], laidTests := true, laidLooks := .later }
def TreeKeepsUptoCardSaid : Prop := Claim7.holds Tryz.pinned (.plain (OpenSpec.upto treeKeepsSpec)) treeKeepsUptoCard

/-- THE SECOND FORM's CARD OF 'lodestonelaw18.TreeAgain'. -/
def treeAgainUptoCard : Claim7 := { stood := { row := treeAgainUptoRow, standIns := [], harness := (true, "bf484487e6c8d3db1aa20f22edf73caec7eb3dd7eec89bb8ef93aef8df67693f"), looks := false }, kinds := [], alts := [], laidByText := true, laidKinds := [.data, .data, .pinned], laidTests := true, laidLooks := .later }
def TreeAgainUptoCardSaid : Prop := Claim7.holds Tryz.pinned (.plain (OpenSpec.upto treeAgainSpec)) treeAgainUptoCard

/-- THE SECOND FORM's CARD OF 'lodestonelaw18.TreePages'. -/
def treePagesUptoCard : Claim7 := { stood := { row := treePagesUptoRow, standIns := [], harness := (true, "bf484487e6c8d3db1aa20f22edf73caec7eb3dd7eec89bb8ef93aef8df67693f"), looks := false }, kinds := [], alts := [], laidByText := true, laidKinds := [.data, .data, .pinned], laidTests := true, laidLooks := .later }
def TreePagesUptoCardSaid : Prop := Claim7.holds Tryz.pinned (.plain (OpenSpec.upto treePagesSpec)) treePagesUptoCard

/-- THE SECOND FORM's CARD OF 'lodestonelaw19.CursorNexts'. -/
def cursorNextsUptoCard : Claim7 := { stood := { row := cursorNextsUptoRow, standIns := [], harness := (true, "bf484487e6c8d3db1aa20f22edf73caec7eb3dd7eec89bb8ef93aef8df67693f"), looks := false }, kinds := [], alts := [], laidByText := true, laidKinds := [.data, .data, .pinned], laidTests := true, laidLooks := .later }
def CursorNextsUptoCardSaid : Prop := Claim7.holds Tryz.pinned (.plain (OpenSpec.upto cursorNextsSpec)) cursorNextsUptoCard
end Rows
end Go.Proofs.YtimpjlnbbdfehaaGreatDoor
