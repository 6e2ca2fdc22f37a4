/-
  DERIVED. GIVEN WITH THE SEED: THE CARDS: each row of YtkcgnodmjmpnhaaDoorRows.lean that lists a variable, with what it lists TIED to the program's text (the seventh form; the later family's looks); each row that meets fmt, with fmt's text TOLD by the authors' own Lean function (tested against real Go, not proved from fmt's source: count such statements apart). THE CARD IS WHAT COUNTS. Prove the row's statement (the work); the ties are given (YtkcgnodmjmpnhaaDoorTie.lean); close each card by the builder's one call (the guide's Derived/Test/ToyasCard.lean, 'card_holds'). Laid BY PROGRAM, IN A SANDBOX (cutbox-door.mjs). By AI agents, Wed Nov 11 2026. No macro, syntax, notation, axiom, sorry.
-/
import Derived.Test.YtkcgnodmjmpnhaaDoorRows
import GoSem.ClaimSeven
namespace Go.Proofs.YtkcgnodmjmpnhaaDoor
namespace Rows

/-- THE TIED CARD OF 'lodestonelaw41.ShowErrors'. -/
def showErrorsCard : Claim7 := { stood := { row := showErrorsRow, standIns := [], harness := (true, "fe3e178a781470623141a86dae2992e5c5b89bd8b1f136f13fce6f7d19e56335"), looks := false }, kinds := [], alts := [], laidByText := true, laidKinds := [.data, .data, .data, .data, .pinned], laidTests := true, laidLooks := .later }
def ShowErrorsCardSaid : Prop := Claim7.holds Tryd.pinned (.plain (OpenSpec.ofChange showErrorsSpec)) showErrorsCard

/-- THE TIED CARD OF 'lodestonelaw41.ShowStats'. -/
def showStatsCard : Claim7 := { stood := { row := showStatsRow, standIns := [], harness := (true, "fe3e178a781470623141a86dae2992e5c5b89bd8b1f136f13fce6f7d19e56335"), looks := false }, kinds := [], alts := [], laidByText := true, laidKinds := [.data, .data, .data, .data, .pinned], laidTests := true, laidLooks := .later }
def ShowStatsCardSaid : Prop := Claim7.holds Tryd.pinned (.plain (OpenSpec.ofChange showStatsSpec)) showStatsCard

/-- THE TIED CARD OF 'lodestonelaw41.ShowReplies'. -/
def showRepliesCard : Claim7 := { stood := { row := showRepliesRow, standIns := [], harness := (true, "fe3e178a781470623141a86dae2992e5c5b89bd8b1f136f13fce6f7d19e56335"), looks := false }, kinds := [], alts := [], laidByText := true, laidKinds := [.data, .data, .data, .data, .pinned], laidTests := true, laidLooks := .later }
def ShowRepliesCardSaid : Prop := Claim7.holds Tryd.pinned (.plain (OpenSpec.ofChange showRepliesSpec)) showRepliesCard

/-- THE SECOND FORM's CARD OF 'lodestonelaw41.ShowErrors'. -/
def showErrorsUptoCard : Claim7 := { stood := { row := showErrorsUptoRow, standIns := [], harness := (true, "fe3e178a781470623141a86dae2992e5c5b89bd8b1f136f13fce6f7d19e56335"), looks := false }, kinds := [], alts := [], laidByText := true, laidKinds := [.data, .data, .data, .data, .pinned], laidTests := true, laidLooks := .later }
def ShowErrorsUptoCardSaid : Prop := Claim7.holds Tryd.pinned (.plain (OpenSpec.upto showErrorsSpec)) showErrorsUptoCard

/-- THE SECOND FORM's CARD OF 'lodestonelaw41.ShowStats'. -/
def showStatsUptoCard : Claim7 := { stood := { row := showStatsUptoRow, standIns := [], harness := (true, "fe3e178a781470623141a86dae2992e5c5b89bd8b1f136f13fce6f7d19e56335"), looks := false }, kinds := [], alts := [], laidByText := true, laidKinds := [.data, .data, .data, .data, .pinned], laidTests := true, laidLooks := .later }
def ShowStatsUptoCardSaid : Prop := Claim7.holds Tryd.pinned (.plain (OpenSpec.upto showStatsSpec)) showStatsUptoCard

/-- THE SECOND FORM's CARD OF 'lodestonelaw41.ShowReplies'. -/
def showRepliesUptoCard : Claim7 := { stood := { row := showRepliesUptoRow, standIns := [], harness := (true, "fe3e178a781470623141a86dae2992e5c5b89bd8b1f136f13fce6f7d19e56335"), looks := false }, kinds := [], alts := [], laidByText := true, laidKinds := [.data, .data, .data, .data, .pinned], laidTests := true, laidLooks := .later }
def ShowRepliesUptoCardSaid : Prop := Claim7.holds Tryd.pinned (.plain (OpenSpec.upto showRepliesSpec)) showRepliesUptoCard
end Rows
end Go.Proofs.YtkcgnodmjmpnhaaDoor
