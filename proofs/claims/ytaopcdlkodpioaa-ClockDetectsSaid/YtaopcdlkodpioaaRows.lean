/-
  No cell of these rows narrows 'for every input' (looked for: loops, veiled, ifaces, maps, wideKeys, modest, calm, conditions, laid).
  DERIVED. THE GIVEN ROWS OF THIS SEAT. 4 by the template 'for every input the law returns true; each argument reads behind the call as it read before'; 0 by the template 'total and deterministic' (their statements: YtaopcdlkodpioaaTotals.lean).
  GIVEN WITH THE SEED: the statements are not yours to turn. If you find one false, say at which input.
  Laid BY PROGRAM, IN A SANDBOX (cutbox-rows.mjs): the forced cells as the released guide's own fill.sh prints them over the translation f30ad51bf0320bac… (all of the seat's roots in one cut). By AI agents, Wed Nov 11 2026. No macro, syntax, notation, axiom, sorry.
-/
import Derived.Test.YtaopcdlkodpioaaChecked
import GoSem.Claim
import GoSem.ClaimJoined
import GoSem.ClaimMapViews
import Derived.JoinedTies
import Derived.KernelRfl
namespace Go.Proofs.Ytaopcdlkodpioaa
/- THE CELL 'sum', in the pinned program and in every row, IS THE sha256 OF THE DUMP (.gsa) THAT YtaopcdlkodpioaaProg.lean LOADS. Nothing in Lean hashes anything: it is a label: what it is worth is what the hold of that sum in a sandbox is worth. -/
noncomputable def Try.pinned : Pinned := { name := "ytaopcdlkodpioaa", sum := "f30ad51bf0320baca34be9ea466dd72edb8349029ce70115c37db25301532db8", checked := Try.checked }
namespace Rows
def none {H : Type} : Left H := { results := [], args := [] }

/-- 'patchbaykeep1.ClockJoins': WHATEVER THE INPUT: true; the input reads as it did. -/
def clockJoinsSpec : ChangeSpec := { name := "clockJoins", fn := fun _ => fun
  | [d1, d2] => { results := [.lit (.bool true)], args := [d1, d2] }
  | _ => none }
def clockJoinsRow : OpenClaim := { program := "ytaopcdlkodpioaa", sum := "f30ad51bf0320baca34be9ea466dd72edb8349029ce70115c37db25301532db8", func := "patchbay/patchbaykeep1.ClockJoins", spec := "clockJoins", inPlace := ["internal/bytealg.CountString", "internal/bytealg.IndexByteString", "internal/bytealg.IndexString"], named := ["internal/bytealg.MaxLen"], apart := false }
def ClockJoinsSaid : Prop := clockJoinsRow.holds Try.pinned (OpenSpec.ofChange clockJoinsSpec)

/-- ITS FALSE NEIGHBOUR: 'it returns false'. Refute it at one input. -/
def clockJoinsWrong : ChangeSpec := { name := "clockJoins", fn := fun _ => fun
  | [d1, d2] => { results := [.lit (.bool false)], args := [d1, d2] }
  | _ => none }
def ClockJoinsWrongFalsely : Prop := clockJoinsRow.holds Try.pinned (OpenSpec.ofChange clockJoinsWrong)

/-- 'patchbaykeep1.ClockBalanced': WHATEVER THE INPUT: true; the input reads as it did. -/
def clockBalancedSpec : ChangeSpec := { name := "clockBalanced", fn := fun _ => fun
  | [d] => { results := [.lit (.bool true)], args := [d] }
  | _ => none }
def clockBalancedRow : OpenClaim := { program := "ytaopcdlkodpioaa", sum := "f30ad51bf0320baca34be9ea466dd72edb8349029ce70115c37db25301532db8", func := "patchbay/patchbaykeep1.ClockBalanced", spec := "clockBalanced", inPlace := ["internal/bytealg.CountString", "internal/bytealg.IndexByteString", "internal/bytealg.IndexString"], named := ["internal/bytealg.MaxLen"], apart := false }
def ClockBalancedSaid : Prop := clockBalancedRow.holds Try.pinned (OpenSpec.ofChange clockBalancedSpec)

/-- ITS FALSE NEIGHBOUR: 'it returns false'. Refute it at one input. -/
def clockBalancedWrong : ChangeSpec := { name := "clockBalanced", fn := fun _ => fun
  | [d] => { results := [.lit (.bool false)], args := [d] }
  | _ => none }
def ClockBalancedWrongFalsely : Prop := clockBalancedRow.holds Try.pinned (OpenSpec.ofChange clockBalancedWrong)

/-- 'patchbaykeep1.ClockRoundTrip': WHATEVER THE INPUT: true; the input reads as it did. -/
def clockRoundTripSpec : ChangeSpec := { name := "clockRoundTrip", fn := fun _ => fun
  | [d1, d2] => { results := [.lit (.bool true)], args := [d1, d2] }
  | _ => none }
def clockRoundTripRow : OpenClaim := { program := "ytaopcdlkodpioaa", sum := "f30ad51bf0320baca34be9ea466dd72edb8349029ce70115c37db25301532db8", func := "patchbay/patchbaykeep1.ClockRoundTrip", spec := "clockRoundTrip", inPlace := ["internal/bytealg.CountString", "internal/bytealg.IndexByteString", "internal/bytealg.IndexString"], named := ["internal/bytealg.MaxLen"], apart := false }
def ClockRoundTripSaid : Prop := clockRoundTripRow.holds Try.pinned (OpenSpec.ofChange clockRoundTripSpec)

/-- ITS FALSE NEIGHBOUR: 'it returns false'. Refute it at one input. -/
def clockRoundTripWrong : ChangeSpec := { name := "clockRoundTrip", fn := fun _ => fun
  | [d1, d2] => { results := [.lit (.bool false)], args := [d1, d2] }
  | _ => none }
def ClockRoundTripWrongFalsely : Prop := clockRoundTripRow.holds Try.pinned (OpenSpec.ofChange clockRoundTripWrong)

/-- 'patchbaykeep1.ClockDetects': WHATEVER THE INPUT: true; the input reads as it did. -/
def clockDetectsSpec : ChangeSpec := { name := "clockDetects", fn := fun _ => fun
  | [d1, d2] => { results := [.lit (.bool true)], args := [d1, d2] }
  | _ => none }
def clockDetectsRow : OpenClaim := { program := "ytaopcdlkodpioaa", sum := "f30ad51bf0320baca34be9ea466dd72edb8349029ce70115c37db25301532db8", func := "patchbay/patchbaykeep1.ClockDetects", spec := "clockDetects", inPlace := ["internal/bytealg.CountString", "internal/bytealg.IndexByteString", "internal/bytealg.IndexString"], named := ["internal/bytealg.MaxLen"], apart := false }
def ClockDetectsSaid : Prop := clockDetectsRow.holds Try.pinned (OpenSpec.ofChange clockDetectsSpec)

/-- ITS FALSE NEIGHBOUR: 'it returns false'. Refute it at one input. -/
def clockDetectsWrong : ChangeSpec := { name := "clockDetects", fn := fun _ => fun
  | [d1, d2] => { results := [.lit (.bool false)], args := [d1, d2] }
  | _ => none }
def ClockDetectsWrongFalsely : Prop := clockDetectsRow.holds Try.pinned (OpenSpec.ofChange clockDetectsWrong)

/- THE SECOND FORM. 'bulk': how many values and letters a reading holds, each counted each time it is reached (what is shared counts as often as it is met; a slice's spare places count too). A statement '..UptoSaid' is the law's where the arguments, and the package variables that the reading takes, are together of bulk at most 1048576: NARROWER than '..Said'. Prove '..Said' where nothing that the law and all that it calls make is longer than what came in: it says more and counts as full. Else prove '..UptoSaid'. A law counts once. -/
mutual
def uptoBulk {H : Type} : DataW H → Nat
  | .lit (.string bytes) => bytes.length + 1
  | .lit _ => 1
  | .nil => 1
  | .ptr d => uptoBulk d + 1
  | .slice elems spare => uptoBulkAll elems + uptoBulkAll spare + 1
  | .agg parts => uptoBulkAll parts + 1
  | .iface _ d => uptoBulk d + 1
  | .map entries => uptoBulkEntries entries + 1
  | .held _ => 1
def uptoBulkAll {H : Type} : List (DataW H) → Nat
  | [] => 0
  | d :: r => uptoBulk d + uptoBulkAll r
def uptoBulkEntries {H : Type} : List (Lit × DataW H) → Nat
  | [] => 0
  | x :: r => uptoBulkEntry x + uptoBulkEntries r
def uptoBulkEntry {H : Type} : Lit × DataW H → Nat
  | (.string bytes, d) => bytes.length + uptoBulk d + 1
  | (_, d) => uptoBulk d + 1
 end
def uptoSmall : (H : Type) → List (DataW H) → Bool := fun _ ds => decide (uptoBulkAll ds ≤ 1048576)
def OpenSpec.upto (s : _root_.Go.ChangeSpec) : _root_.Go.OpenSpec := { _root_.Go.OpenSpec.ofChange s with cond := some uptoSmall }

/-- 'patchbaykeep1.ClockJoins', WHERE WHAT IT READS IS OF BULK AT MOST 1048576: true; the input reads as it did. -/
def clockJoinsUptoRow : OpenClaim := { program := "ytaopcdlkodpioaa", sum := "f30ad51bf0320baca34be9ea466dd72edb8349029ce70115c37db25301532db8", func := "patchbay/patchbaykeep1.ClockJoins", spec := "clockJoins", inPlace := ["internal/bytealg.CountString", "internal/bytealg.IndexByteString", "internal/bytealg.IndexString"], named := ["internal/bytealg.MaxLen"], apart := false, narrowed := true }
def ClockJoinsUptoSaid : Prop := clockJoinsUptoRow.holds Try.pinned (OpenSpec.upto clockJoinsSpec)

/-- 'patchbaykeep1.ClockBalanced', WHERE WHAT IT READS IS OF BULK AT MOST 1048576: true; the input reads as it did. -/
def clockBalancedUptoRow : OpenClaim := { program := "ytaopcdlkodpioaa", sum := "f30ad51bf0320baca34be9ea466dd72edb8349029ce70115c37db25301532db8", func := "patchbay/patchbaykeep1.ClockBalanced", spec := "clockBalanced", inPlace := ["internal/bytealg.CountString", "internal/bytealg.IndexByteString", "internal/bytealg.IndexString"], named := ["internal/bytealg.MaxLen"], apart := false, narrowed := true }
def ClockBalancedUptoSaid : Prop := clockBalancedUptoRow.holds Try.pinned (OpenSpec.upto clockBalancedSpec)

/-- 'patchbaykeep1.ClockRoundTrip', WHERE WHAT IT READS IS OF BULK AT MOST 1048576: true; the input reads as it did. -/
def clockRoundTripUptoRow : OpenClaim := { program := "ytaopcdlkodpioaa", sum := "f30ad51bf0320baca34be9ea466dd72edb8349029ce70115c37db25301532db8", func := "patchbay/patchbaykeep1.ClockRoundTrip", spec := "clockRoundTrip", inPlace := ["internal/bytealg.CountString", "internal/bytealg.IndexByteString", "internal/bytealg.IndexString"], named := ["internal/bytealg.MaxLen"], apart := false, narrowed := true }
def ClockRoundTripUptoSaid : Prop := clockRoundTripUptoRow.holds Try.pinned (OpenSpec.upto clockRoundTripSpec)

/-- 'patchbaykeep1.ClockDetects', WHERE WHAT IT READS IS OF BULK AT MOST 1048576: true; the input reads as it did. -/
def clockDetectsUptoRow : OpenClaim := { program := "ytaopcdlkodpioaa", sum := "f30ad51bf0320baca34be9ea466dd72edb8349029ce70115c37db25301532db8", func := "patchbay/patchbaykeep1.ClockDetects", spec := "clockDetects", inPlace := ["internal/bytealg.CountString", "internal/bytealg.IndexByteString", "internal/bytealg.IndexString"], named := ["internal/bytealg.MaxLen"], apart := false, narrowed := true }
def ClockDetectsUptoSaid : Prop := clockDetectsUptoRow.holds Try.pinned (OpenSpec.upto clockDetectsSpec)

end Rows
end Go.Proofs.Ytaopcdlkodpioaa
