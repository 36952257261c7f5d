/-
  NARROWER THAN 'FOR EVERY INPUT', by the rows' own cells (each row's printed sentence says how): QuintBounded: laid · QuintJoins: laid · QuintRoundTrip: laid · TopNoise: laid.
  DERIVED. THE GIVEN ROWS OF THIS SEAT. 4 by the template 'for every input the law returns true; each argument reads behind the call as it read before'; 0 by the template 'total and deterministic' (their statements: YtdfkejjgmippfaaDoorTotals.lean).
  GIVEN WITH THE SEED: the statements are not yours to turn. If you find one false, say at which input.
  Laid BY PROGRAM, IN A SANDBOX (cutbox-rows.mjs): the forced cells as the released guide's own fill.sh prints them over the translation 59387c5561815969… (all of the seat's roots in one cut). By AI agents, Wed Nov 11 2026. No macro, syntax, notation, axiom, sorry.
-/
import Derived.Test.YtdfkejjgmippfaaDoorChecked
import GoSem.Claim
import GoSem.ClaimJoined
import GoSem.ClaimMapViews
import Derived.JoinedTies
import Derived.KernelRfl
namespace Go.Proofs.YtdfkejjgmippfaaDoor
/- THE CELL 'sum', in the pinned program and in every row, IS THE sha256 OF THE DUMP (.gsa) THAT YtdfkejjgmippfaaDoorProg.lean LOADS. Nothing in Lean hashes anything: it is a label: what it is worth is what the hold of that sum in a sandbox is worth. -/
noncomputable def Tryd.pinned : Pinned := { name := "ytdfkejjgmippfaadoor", sum := "59387c55618159690db38c9bb1814c399b1434cf799ab3c51ab09001ac4b133a", checked := Tryd.checked }
namespace Rows
def none {H : Type} : Left H := { results := [], args := [] }

/- WHAT THE LISTED PACKAGE-LEVEL VARIABLES READ AS WHEN THE CALL BEGINS. Each datum BY PROGRAM (the guide's laid-datum.mjs) off the statement by which the dump's own 'gosem.cut.vars' lays the variable. In a bare row this is a premise. The card (YtdfkejjgmippfaaDoorCards.lean) ties it to the program's text. -/
def laid_patchbay_quint_words {H : Type} : DataW H := .agg [.lit (.int .i64 9), .lit (.int .i64 10), .lit (.int .i64 11), .lit (.int .i64 13), .lit (.int .i64 14), .lit (.int .i64 15), .lit (.int .i64 18), .lit (.int .i64 19), .lit (.int .i64 21), .lit (.int .i64 22), .lit (.int .i64 23), .lit (.int .i64 25), .lit (.int .i64 26), .lit (.int .i64 27), .lit (.int .i64 29), .lit (.int .i64 30)]

/-- 'patchbaykeep1.QuintBounded': WHATEVER THE INPUT: true; the input reads as it did. -/
def quintBoundedSpec : ChangeSpec := { name := "quintBounded", fn := fun _ => fun
  | [d1, d2] => { results := [.lit (.bool true)], args := [d1, d2] }
  | _ => none }
def quintBoundedRow : OpenClaim := { program := "ytdfkejjgmippfaadoor", sum := "59387c55618159690db38c9bb1814c399b1434cf799ab3c51ab09001ac4b133a", func := "patchbay/patchbaykeep1.QuintBounded", spec := "quintBounded", named := ["patchbay/quint.words"], apart := false, laid := [("patchbay/quint.words", laid_patchbay_quint_words)] }
def QuintBoundedSaid : Prop := quintBoundedRow.holds Tryd.pinned (OpenSpec.ofChange quintBoundedSpec)

/-- ITS FALSE NEIGHBOUR: 'it returns false'. Refute it at one input. -/
def quintBoundedWrong : ChangeSpec := { name := "quintBounded", fn := fun _ => fun
  | [d1, d2] => { results := [.lit (.bool false)], args := [d1, d2] }
  | _ => none }
def QuintBoundedWrongFalsely : Prop := quintBoundedRow.holds Tryd.pinned (OpenSpec.ofChange quintBoundedWrong)

/-- 'patchbaykeep1.QuintJoins': WHATEVER THE INPUT: true; the input reads as it did. -/
def quintJoinsSpec : ChangeSpec := { name := "quintJoins", fn := fun _ => fun
  | [d1, d2] => { results := [.lit (.bool true)], args := [d1, d2] }
  | _ => none }
def quintJoinsRow : OpenClaim := { program := "ytdfkejjgmippfaadoor", sum := "59387c55618159690db38c9bb1814c399b1434cf799ab3c51ab09001ac4b133a", func := "patchbay/patchbaykeep1.QuintJoins", spec := "quintJoins", named := ["patchbay/quint.words"], apart := false, laid := [("patchbay/quint.words", laid_patchbay_quint_words)] }
def QuintJoinsSaid : Prop := quintJoinsRow.holds Tryd.pinned (OpenSpec.ofChange quintJoinsSpec)

/-- ITS FALSE NEIGHBOUR: 'it returns false'. Refute it at one input. -/
def quintJoinsWrong : ChangeSpec := { name := "quintJoins", fn := fun _ => fun
  | [d1, d2] => { results := [.lit (.bool false)], args := [d1, d2] }
  | _ => none }
def QuintJoinsWrongFalsely : Prop := quintJoinsRow.holds Tryd.pinned (OpenSpec.ofChange quintJoinsWrong)

/-- 'patchbaykeep1.QuintRoundTrip': WHATEVER THE INPUT: true; the input reads as it did. -/
def quintRoundTripSpec : ChangeSpec := { name := "quintRoundTrip", fn := fun _ => fun
  | [d1, d2] => { results := [.lit (.bool true)], args := [d1, d2] }
  | _ => none }
def quintRoundTripRow : OpenClaim := { program := "ytdfkejjgmippfaadoor", sum := "59387c55618159690db38c9bb1814c399b1434cf799ab3c51ab09001ac4b133a", func := "patchbay/patchbaykeep1.QuintRoundTrip", spec := "quintRoundTrip", named := ["patchbay/quint.words"], apart := false, laid := [("patchbay/quint.words", laid_patchbay_quint_words)] }
def QuintRoundTripSaid : Prop := quintRoundTripRow.holds Tryd.pinned (OpenSpec.ofChange quintRoundTripSpec)

/-- ITS FALSE NEIGHBOUR: 'it returns false'. Refute it at one input. -/
def quintRoundTripWrong : ChangeSpec := { name := "quintRoundTrip", fn := fun _ => fun
  | [d1, d2] => { results := [.lit (.bool false)], args := [d1, d2] }
  | _ => none }
def QuintRoundTripWrongFalsely : Prop := quintRoundTripRow.holds Tryd.pinned (OpenSpec.ofChange quintRoundTripWrong)

/-- 'patchbaytop.TopNoise': WHATEVER THE INPUT: true; the input reads as it did. -/
def topNoiseSpec : ChangeSpec := { name := "topNoise", fn := fun _ => fun
  | [d1, d2, d3] => { results := [.lit (.bool true)], args := [d1, d2, d3] }
  | _ => none }
def topNoiseRow : OpenClaim := { program := "ytdfkejjgmippfaadoor", sum := "59387c55618159690db38c9bb1814c399b1434cf799ab3c51ab09001ac4b133a", func := "patchbay/patchbaytop.TopNoise", spec := "topNoise", named := ["patchbay/quint.words"], apart := false, laid := [("patchbay/quint.words", laid_patchbay_quint_words)] }
def TopNoiseSaid : Prop := topNoiseRow.holds Tryd.pinned (OpenSpec.ofChange topNoiseSpec)

/-- ITS FALSE NEIGHBOUR: 'it returns false'. Refute it at one input. -/
def topNoiseWrong : ChangeSpec := { name := "topNoise", fn := fun _ => fun
  | [d1, d2, d3] => { results := [.lit (.bool false)], args := [d1, d2, d3] }
  | _ => none }
def TopNoiseWrongFalsely : Prop := topNoiseRow.holds Tryd.pinned (OpenSpec.ofChange topNoiseWrong)

/- THE SECOND FORM. 'bulk': how many values and letters a reading holds, each counted each time it is reached (what is shared counts as often as it is met; a slice's spare places count too). A statement '..UptoSaid' is the law's where the arguments, and the package variables that the reading takes, are together of bulk at most 1048576: NARROWER than '..Said'. Prove '..Said' where nothing that the law and all that it calls make is longer than what came in: it says more and counts as full. Else prove '..UptoSaid'. A law counts once. -/
mutual
def uptoBulk {H : Type} : DataW H → Nat
  | .lit (.string bytes) => bytes.length + 1
  | .lit _ => 1
  | .nil => 1
  | .ptr d => uptoBulk d + 1
  | .slice elems spare => uptoBulkAll elems + uptoBulkAll spare + 1
  | .agg parts => uptoBulkAll parts + 1
  | .iface _ d => uptoBulk d + 1
  | .map entries => uptoBulkEntries entries + 1
  | .held _ => 1
def uptoBulkAll {H : Type} : List (DataW H) → Nat
  | [] => 0
  | d :: r => uptoBulk d + uptoBulkAll r
def uptoBulkEntries {H : Type} : List (Lit × DataW H) → Nat
  | [] => 0
  | x :: r => uptoBulkEntry x + uptoBulkEntries r
def uptoBulkEntry {H : Type} : Lit × DataW H → Nat
  | (.string bytes, d) => bytes.length + uptoBulk d + 1
  | (_, d) => uptoBulk d + 1
 end
def uptoSmall : (H : Type) → List (DataW H) → Bool := fun _ ds => decide (uptoBulkAll ds ≤ 1048576)
def OpenSpec.upto (s : _root_.Go.ChangeSpec) : _root_.Go.OpenSpec := { _root_.Go.OpenSpec.ofChange s with cond := some uptoSmall }

/-- 'patchbaykeep1.QuintBounded', WHERE WHAT IT READS IS OF BULK AT MOST 1048576: true; the input reads as it did. -/
def quintBoundedUptoRow : OpenClaim := { program := "ytdfkejjgmippfaadoor", sum := "59387c55618159690db38c9bb1814c399b1434cf799ab3c51ab09001ac4b133a", func := "patchbay/patchbaykeep1.QuintBounded", spec := "quintBounded", named := ["patchbay/quint.words"], apart := false, laid := [("patchbay/quint.words", laid_patchbay_quint_words)], narrowed := true }
def QuintBoundedUptoSaid : Prop := quintBoundedUptoRow.holds Tryd.pinned (OpenSpec.upto quintBoundedSpec)

/-- 'patchbaykeep1.QuintJoins', WHERE WHAT IT READS IS OF BULK AT MOST 1048576: true; the input reads as it did. -/
def quintJoinsUptoRow : OpenClaim := { program := "ytdfkejjgmippfaadoor", sum := "59387c55618159690db38c9bb1814c399b1434cf799ab3c51ab09001ac4b133a", func := "patchbay/patchbaykeep1.QuintJoins", spec := "quintJoins", named := ["patchbay/quint.words"], apart := false, laid := [("patchbay/quint.words", laid_patchbay_quint_words)], narrowed := true }
def QuintJoinsUptoSaid : Prop := quintJoinsUptoRow.holds Tryd.pinned (OpenSpec.upto quintJoinsSpec)

/-- 'patchbaykeep1.QuintRoundTrip', WHERE WHAT IT READS IS OF BULK AT MOST 1048576: true; the input reads as it did. -/
def quintRoundTripUptoRow : OpenClaim := { program := "ytdfkejjgmippfaadoor", sum := "59387c55618159690db38c9bb1814c399b1434cf799ab3c51ab09001ac4b133a", func := "patchbay/patchbaykeep1.QuintRoundTrip", spec := "quintRoundTrip", named := ["patchbay/quint.words"], apart := false, laid := [("patchbay/quint.words", laid_patchbay_quint_words)], narrowed := true }
def QuintRoundTripUptoSaid : Prop := quintRoundTripUptoRow.holds Tryd.pinned (OpenSpec.upto quintRoundTripSpec)

/-- 'patchbaytop.TopNoise', WHERE WHAT IT READS IS OF BULK AT MOST 1048576: true; the input reads as it did. -/
def topNoiseUptoRow : OpenClaim := { program := "ytdfkejjgmippfaadoor", sum := "59387c55618159690db38c9bb1814c399b1434cf799ab3c51ab09001ac4b133a", func := "patchbay/patchbaytop.TopNoise", spec := "topNoise", named := ["patchbay/quint.words"], apart := false, laid := [("patchbay/quint.words", laid_patchbay_quint_words)], narrowed := true }
def TopNoiseUptoSaid : Prop := topNoiseUptoRow.holds Tryd.pinned (OpenSpec.upto topNoiseSpec)

end Rows
end Go.Proofs.YtdfkejjgmippfaaDoor
