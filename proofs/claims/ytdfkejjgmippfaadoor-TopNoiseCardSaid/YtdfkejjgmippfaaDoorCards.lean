/-
  DERIVED. GIVEN WITH THE SEED: THE CARDS: each row of YtdfkejjgmippfaaDoorRows.lean that lists a variable, with what it lists TIED to the program's text (the seventh form; the later family's looks); each row that meets fmt, with fmt's text TOLD by the authors' own Lean function (tested against real Go, not proved from fmt's source: count such statements apart). THE CARD IS WHAT COUNTS. Prove the row's statement (the work); the ties are given (YtdfkejjgmippfaaDoorTie.lean); close each card by the builder's one call (the guide's Derived/Test/ToyasCard.lean, 'card_holds'). Laid BY PROGRAM, IN A SANDBOX (cutbox-door.mjs). By AI agents, Wed Nov 11 2026. No macro, syntax, notation, axiom, sorry.
-/
import Derived.Test.YtdfkejjgmippfaaDoorRows
import GoSem.ClaimSeven
namespace Go.Proofs.YtdfkejjgmippfaaDoor
namespace Rows

/-- THE TIED CARD OF 'patchbaykeep1.QuintBounded'. -/
def quintBoundedCard : Claim7 := { stood := { row := quintBoundedRow, standIns := [], harness := (true, "f2dc202020534c100725e715f0bd3fb937daa0179257f4dcd1ef597b6fd74075"), looks := false }, kinds := [], alts := [], laidByText := true, laidKinds := [.widerDeep], laidTests := true, laidLooks := .later }
def QuintBoundedCardSaid : Prop := Claim7.holds Tryd.pinned (.plain (OpenSpec.ofChange quintBoundedSpec)) quintBoundedCard

/-- THE TIED CARD OF 'patchbaykeep1.QuintJoins'. -/
def quintJoinsCard : Claim7 := { stood := { row := quintJoinsRow, standIns := [], harness := (true, "f2dc202020534c100725e715f0bd3fb937daa0179257f4dcd1ef597b6fd74075"), looks := false }, kinds := [], alts := [], laidByText := true, laidKinds := [.widerDeep], laidTests := true, laidLooks := .later }
def QuintJoinsCardSaid : Prop := Claim7.holds Tryd.pinned (.plain (OpenSpec.ofChange quintJoinsSpec)) quintJoinsCard

/-- THE TIED CARD OF 'patchbaykeep1.QuintRoundTrip'. -/
def quintRoundTripCard : Claim7 := { stood := { row := quintRoundTripRow, standIns := [], harness := (true, "f2dc202020534c100725e715f0bd3fb937daa0179257f4dcd1ef597b6fd74075"), looks := false }, kinds := [], alts := [], laidByText := true, laidKinds := [.widerDeep], laidTests := true, laidLooks := .later }
def QuintRoundTripCardSaid : Prop := Claim7.holds Tryd.pinned (.plain (OpenSpec.ofChange quintRoundTripSpec)) quintRoundTripCard

/-- THE TIED CARD OF 'patchbaytop.TopNoise'. -/
def topNoiseCard : Claim7 := { stood := { row := topNoiseRow, standIns := [], harness := (true, "f2dc202020534c100725e715f0bd3fb937daa0179257f4dcd1ef597b6fd74075"), looks := false }, kinds := [], alts := [], laidByText := true, laidKinds := [.widerDeep], laidTests := true, laidLooks := .later }
def TopNoiseCardSaid : Prop := Claim7.holds Tryd.pinned (.plain (OpenSpec.ofChange topNoiseSpec)) topNoiseCard

/-- THE SECOND FORM's CARD OF 'patchbaykeep1.QuintBounded'. -/
def quintBoundedUptoCard : Claim7 := { stood := { row := quintBoundedUptoRow, standIns := [], harness := (true, "f2dc202020534c100725e715f0bd3fb937daa0179257f4dcd1ef597b6fd74075"), looks := false }, kinds := [], alts := [], laidByText := true, laidKinds := [.widerDeep], laidTests := true, laidLooks := .later }
def QuintBoundedUptoCardSaid : Prop := Claim7.holds Tryd.pinned (.plain (OpenSpec.upto quintBoundedSpec)) quintBoundedUptoCard

/-- THE SECOND FORM's CARD OF 'patchbaykeep1.QuintJoins'. -/
def quintJoinsUptoCard : Claim7 := { stood := { row := quintJoinsUptoRow, standIns := [], harness := (true, "f2dc202020534c100725e715f0bd3fb937daa0179257f4dcd1ef597b6fd74075"), looks := false }, kinds := [], alts := [], laidByText := true, laidKinds := [.widerDeep], laidTests := true, laidLooks := .later }
def QuintJoinsUptoCardSaid : Prop := Claim7.holds Tryd.pinned (.plain (OpenSpec.upto quintJoinsSpec)) quintJoinsUptoCard

/-- THE SECOND FORM's CARD OF 'patchbaykeep1.QuintRoundTrip'. -/
def quintRoundTripUptoCard : Claim7 := { stood := { row := quintRoundTripUptoRow, standIns := [], harness := (true, "f2dc202020534c100725e715f0bd3fb937daa0179257f4dcd1ef597b6fd74075"), looks := false }, kinds := [], alts := [], laidByText := true, laidKinds := [.widerDeep], laidTests := true, laidLooks := .later }
def QuintRoundTripUptoCardSaid : Prop := Claim7.holds Tryd.pinned (.plain (OpenSpec.upto quintRoundTripSpec)) quintRoundTripUptoCard

/-- THE SECOND FORM's CARD OF 'patchbaytop.TopNoise'. -/
def topNoiseUptoCard : Claim7 := { stood := { row := topNoiseUptoRow, standIns := [], harness := (true, "f2dc202020534c100725e715f0bd3fb937daa0179257f4dcd1ef597b6fd74075"), looks := false }, kinds := [], alts := [], laidByText := true, laidKinds := [.widerDeep], laidTests := true, laidLooks := .later }
def TopNoiseUptoCardSaid : Prop := Claim7.holds Tryd.pinned (.plain (OpenSpec.upto topNoiseSpec)) topNoiseUptoCard
end Rows
end Go.Proofs.YtdfkejjgmippfaaDoor
