/-
  No cell of these rows narrows 'for every input' (looked for: loops, veiled, ifaces, maps, wideKeys, modest, calm, conditions, laid).
  DERIVED. THE GIVEN ROWS OF THIS SEAT. 4 by the template 'for every input the law returns true; each argument reads behind the call as it read before'; 0 by the template 'total and deterministic' (their statements: YtnpmficbhggeaaaTotals.lean).
  GIVEN WITH THE SEED: the statements are not yours to turn. If you find one false, say at which input.
  Laid BY PROGRAM, IN A SANDBOX (cutbox-rows.mjs): the forced cells as the released guide's own fill.sh prints them over the translation 1a9b57898fb85059… (all of the seat's roots in one cut). By AI agents, Wed Nov 11 2026. No macro, syntax, notation, axiom, sorry.
-/
import Derived.Test.YtnpmficbhggeaaaChecked
import GoSem.Claim
import GoSem.ClaimJoined
import GoSem.ClaimMapViews
import Derived.JoinedTies
import Derived.KernelRfl
namespace Go.Proofs.Ytnpmficbhggeaaa
/- THE CELL 'sum', in the pinned program and in every row, IS THE sha256 OF THE DUMP (.gsa) THAT YtnpmficbhggeaaaProg.lean LOADS. Nothing in Lean hashes anything: it is a label: what it is worth is what the hold of that sum in a sandbox is worth. -/
noncomputable def Try.pinned : Pinned := { name := "ytnpmficbhggeaaa", sum := "1a9b57898fb850594b6c971ff7598ad9c38331997f87a73dc227e34070b79804", checked := Try.checked }
namespace Rows
def none {H : Type} : Left H := { results := [], args := [] }

/-- 'patchbaykeep1.BitsFlip': WHATEVER THE INPUT: true; the input reads as it did. -/
def bitsFlipSpec : ChangeSpec := { name := "bitsFlip", fn := fun _ => fun
  | [d1, d2] => { results := [.lit (.bool true)], args := [d1, d2] }
  | _ => none }
def bitsFlipRow : OpenClaim := { program := "ytnpmficbhggeaaa", sum := "1a9b57898fb850594b6c971ff7598ad9c38331997f87a73dc227e34070b79804", func := "patchbay/patchbaykeep1.BitsFlip", spec := "bitsFlip", apart := false }
def BitsFlipSaid : Prop := bitsFlipRow.holds Try.pinned (OpenSpec.ofChange bitsFlipSpec)

/-- ITS FALSE NEIGHBOUR: 'it returns false'. Refute it at one input. -/
def bitsFlipWrong : ChangeSpec := { name := "bitsFlip", fn := fun _ => fun
  | [d1, d2] => { results := [.lit (.bool false)], args := [d1, d2] }
  | _ => none }
def BitsFlipWrongFalsely : Prop := bitsFlipRow.holds Try.pinned (OpenSpec.ofChange bitsFlipWrong)

/-- 'patchbaykeep1.BitsRoundTrip': WHATEVER THE INPUT: true; the input reads as it did. -/
def bitsRoundTripSpec : ChangeSpec := { name := "bitsRoundTrip", fn := fun _ => fun
  | [d] => { results := [.lit (.bool true)], args := [d] }
  | _ => none }
def bitsRoundTripRow : OpenClaim := { program := "ytnpmficbhggeaaa", sum := "1a9b57898fb850594b6c971ff7598ad9c38331997f87a73dc227e34070b79804", func := "patchbay/patchbaykeep1.BitsRoundTrip", spec := "bitsRoundTrip", apart := false }
def BitsRoundTripSaid : Prop := bitsRoundTripRow.holds Try.pinned (OpenSpec.ofChange bitsRoundTripSpec)

/-- ITS FALSE NEIGHBOUR: 'it returns false'. Refute it at one input. -/
def bitsRoundTripWrong : ChangeSpec := { name := "bitsRoundTrip", fn := fun _ => fun
  | [d] => { results := [.lit (.bool false)], args := [d] }
  | _ => none }
def BitsRoundTripWrongFalsely : Prop := bitsRoundTripRow.holds Try.pinned (OpenSpec.ofChange bitsRoundTripWrong)

/-- 'patchbaykeep1.BitsXor': WHATEVER THE INPUT: true; the input reads as it did. -/
def bitsXorSpec : ChangeSpec := { name := "bitsXor", fn := fun _ => fun
  | [d1, d2] => { results := [.lit (.bool true)], args := [d1, d2] }
  | _ => none }
def bitsXorRow : OpenClaim := { program := "ytnpmficbhggeaaa", sum := "1a9b57898fb850594b6c971ff7598ad9c38331997f87a73dc227e34070b79804", func := "patchbay/patchbaykeep1.BitsXor", spec := "bitsXor", inPlace := ["internal/abi.NoEscape", "internal/bytealg.MakeNoZero"], apart := false }
def BitsXorSaid : Prop := bitsXorRow.holds Try.pinned (OpenSpec.ofChange bitsXorSpec)

/-- ITS FALSE NEIGHBOUR: 'it returns false'. Refute it at one input. -/
def bitsXorWrong : ChangeSpec := { name := "bitsXor", fn := fun _ => fun
  | [d1, d2] => { results := [.lit (.bool false)], args := [d1, d2] }
  | _ => none }
def BitsXorWrongFalsely : Prop := bitsXorRow.holds Try.pinned (OpenSpec.ofChange bitsXorWrong)

/-- 'patchbaykeep1.BitsParity': WHATEVER THE INPUT: true; the input reads as it did. -/
def bitsParitySpec : ChangeSpec := { name := "bitsParity", fn := fun _ => fun
  | [d1, d2] => { results := [.lit (.bool true)], args := [d1, d2] }
  | _ => none }
def bitsParityRow : OpenClaim := { program := "ytnpmficbhggeaaa", sum := "1a9b57898fb850594b6c971ff7598ad9c38331997f87a73dc227e34070b79804", func := "patchbay/patchbaykeep1.BitsParity", spec := "bitsParity", inPlace := ["internal/abi.NoEscape", "internal/bytealg.MakeNoZero"], apart := false }
def BitsParitySaid : Prop := bitsParityRow.holds Try.pinned (OpenSpec.ofChange bitsParitySpec)

/-- ITS FALSE NEIGHBOUR: 'it returns false'. Refute it at one input. -/
def bitsParityWrong : ChangeSpec := { name := "bitsParity", fn := fun _ => fun
  | [d1, d2] => { results := [.lit (.bool false)], args := [d1, d2] }
  | _ => none }
def BitsParityWrongFalsely : Prop := bitsParityRow.holds Try.pinned (OpenSpec.ofChange bitsParityWrong)

/- THE SECOND FORM. 'bulk': how many values and letters a reading holds, each counted each time it is reached (what is shared counts as often as it is met; a slice's spare places count too). A statement '..UptoSaid' is the law's where the arguments, and the package variables that the reading takes, are together of bulk at most 1048576: NARROWER than '..Said'. Prove '..Said' where nothing that the law and all that it calls make is longer than what came in: it says more and counts as full. Else prove '..UptoSaid'. A law counts once. -/
mutual
def uptoBulk {H : Type} : DataW H → Nat
  | .lit (.string bytes) => bytes.length + 1
  | .lit _ => 1
  | .nil => 1
  | .ptr d => uptoBulk d + 1
  | .slice elems spare => uptoBulkAll elems + uptoBulkAll spare + 1
  | .agg parts => uptoBulkAll parts + 1
  | .iface _ d => uptoBulk d + 1
  | .map entries => uptoBulkEntries entries + 1
  | .held _ => 1
def uptoBulkAll {H : Type} : List (DataW H) → Nat
  | [] => 0
  | d :: r => uptoBulk d + uptoBulkAll r
def uptoBulkEntries {H : Type} : List (Lit × DataW H) → Nat
  | [] => 0
  | x :: r => uptoBulkEntry x + uptoBulkEntries r
def uptoBulkEntry {H : Type} : Lit × DataW H → Nat
  | (.string bytes, d) => bytes.length + uptoBulk d + 1
  | (_, d) => uptoBulk d + 1
 end
def uptoSmall : (H : Type) → List (DataW H) → Bool := fun _ ds => decide (uptoBulkAll ds ≤ 1048576)
def OpenSpec.upto (s : _root_.Go.ChangeSpec) : _root_.Go.OpenSpec := { _root_.Go.OpenSpec.ofChange s with cond := some uptoSmall }

/-- 'patchbaykeep1.BitsFlip', WHERE WHAT IT READS IS OF BULK AT MOST 1048576: true; the input reads as it did. -/
def bitsFlipUptoRow : OpenClaim := { program := "ytnpmficbhggeaaa", sum := "1a9b57898fb850594b6c971ff7598ad9c38331997f87a73dc227e34070b79804", func := "patchbay/patchbaykeep1.BitsFlip", spec := "bitsFlip", apart := false, narrowed := true }
def BitsFlipUptoSaid : Prop := bitsFlipUptoRow.holds Try.pinned (OpenSpec.upto bitsFlipSpec)

/-- 'patchbaykeep1.BitsRoundTrip', WHERE WHAT IT READS IS OF BULK AT MOST 1048576: true; the input reads as it did. -/
def bitsRoundTripUptoRow : OpenClaim := { program := "ytnpmficbhggeaaa", sum := "1a9b57898fb850594b6c971ff7598ad9c38331997f87a73dc227e34070b79804", func := "patchbay/patchbaykeep1.BitsRoundTrip", spec := "bitsRoundTrip", apart := false, narrowed := true }
def BitsRoundTripUptoSaid : Prop := bitsRoundTripUptoRow.holds Try.pinned (OpenSpec.upto bitsRoundTripSpec)

/-- 'patchbaykeep1.BitsXor', WHERE WHAT IT READS IS OF BULK AT MOST 1048576: true; the input reads as it did. -/
def bitsXorUptoRow : OpenClaim := { program := "ytnpmficbhggeaaa", sum := "1a9b57898fb850594b6c971ff7598ad9c38331997f87a73dc227e34070b79804", func := "patchbay/patchbaykeep1.BitsXor", spec := "bitsXor", inPlace := ["internal/abi.NoEscape", "internal/bytealg.MakeNoZero"], apart := false, narrowed := true }
def BitsXorUptoSaid : Prop := bitsXorUptoRow.holds Try.pinned (OpenSpec.upto bitsXorSpec)

/-- 'patchbaykeep1.BitsParity', WHERE WHAT IT READS IS OF BULK AT MOST 1048576: true; the input reads as it did. -/
def bitsParityUptoRow : OpenClaim := { program := "ytnpmficbhggeaaa", sum := "1a9b57898fb850594b6c971ff7598ad9c38331997f87a73dc227e34070b79804", func := "patchbay/patchbaykeep1.BitsParity", spec := "bitsParity", inPlace := ["internal/abi.NoEscape", "internal/bytealg.MakeNoZero"], apart := false, narrowed := true }
def BitsParityUptoSaid : Prop := bitsParityUptoRow.holds Try.pinned (OpenSpec.upto bitsParitySpec)

end Rows
end Go.Proofs.Ytnpmficbhggeaaa
