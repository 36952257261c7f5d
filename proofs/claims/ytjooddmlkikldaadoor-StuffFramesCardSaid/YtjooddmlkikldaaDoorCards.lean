/-
  DERIVED. GIVEN WITH THE SEED: THE CARDS: each row of YtjooddmlkikldaaDoorRows.lean that lists a variable, with what it lists TIED to the program's text (the seventh form; the later family's looks); each row that meets fmt, with fmt's text TOLD by the authors' own Lean function (tested against real Go, not proved from fmt's source: count such statements apart). THE CARD IS WHAT COUNTS. Prove the row's statement (the work); the ties are given (YtjooddmlkikldaaDoorTie.lean); close each card by the builder's one call (the guide's Derived/Test/ToyasCard.lean, 'card_holds'). Laid BY PROGRAM, IN A SANDBOX (cutbox-door.mjs). By AI agents, Wed Nov 11 2026. No macro, syntax, notation, axiom, sorry.
-/
import Derived.Test.YtjooddmlkikldaaDoorRows
import GoSem.ClaimSeven
namespace Go.Proofs.YtjooddmlkikldaaDoor
namespace Rows

/-- THE TIED CARD OF 'patchbaykeep1.StuffCut'. -/
def stuffCutCard : Claim7 := { stood := { row := stuffCutRow, standIns := [], harness := (true, "3706698bab1e0a1f6d8d8ea179cca3666ded490d6a91bc41c113703dcb4a119c"), looks := false }, kinds := [], alts := [], laidByText := true, laidKinds := [.data, .pinned], laidTests := true, laidLooks := .later }
def StuffCutCardSaid : Prop := Claim7.holds Tryd.pinned (.plain (OpenSpec.ofChange stuffCutSpec)) stuffCutCard

/-- THE TIED CARD OF 'patchbaykeep1.StuffFrames'. -/
def stuffFramesCard : Claim7 := { stood := { row := stuffFramesRow, standIns := [], harness := (true, "3706698bab1e0a1f6d8d8ea179cca3666ded490d6a91bc41c113703dcb4a119c"), looks := false }, kinds := [], alts := [], laidByText := true, laidKinds := [.data, .pinned], laidTests := true, laidLooks := .later }
def StuffFramesCardSaid : Prop := Claim7.holds Tryd.pinned (.plain (OpenSpec.ofChange stuffFramesSpec)) stuffFramesCard

/-- THE SECOND FORM's CARD OF 'patchbaykeep1.StuffCut'. -/
def stuffCutUptoCard : Claim7 := { stood := { row := stuffCutUptoRow, standIns := [], harness := (true, "3706698bab1e0a1f6d8d8ea179cca3666ded490d6a91bc41c113703dcb4a119c"), looks := false }, kinds := [], alts := [], laidByText := true, laidKinds := [.data, .pinned], laidTests := true, laidLooks := .later }
def StuffCutUptoCardSaid : Prop := Claim7.holds Tryd.pinned (.plain (OpenSpec.upto stuffCutSpec)) stuffCutUptoCard

/-- THE SECOND FORM's CARD OF 'patchbaykeep1.StuffFrames'. -/
def stuffFramesUptoCard : Claim7 := { stood := { row := stuffFramesUptoRow, standIns := [], harness := (true, "3706698bab1e0a1f6d8d8ea179cca3666ded490d6a91bc41c113703dcb4a119c"), looks := false }, kinds := [], alts := [], laidByText := true, laidKinds := [.data, .pinned], laidTests := true, laidLooks := .later }
def StuffFramesUptoCardSaid : Prop := Claim7.holds Tryd.pinned (.plain (OpenSpec.upto stuffFramesSpec)) stuffFramesUptoCard
end Rows
end Go.Proofs.YtjooddmlkikldaaDoor
