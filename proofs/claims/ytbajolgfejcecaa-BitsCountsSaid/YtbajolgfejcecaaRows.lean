/-
  No cell of these rows narrows 'for every input' (looked for: loops, veiled, ifaces, maps, wideKeys, modest, calm, conditions, laid).
  DERIVED. THE GIVEN ROWS OF THIS SEAT. 8 by the template 'for every input the law returns true; each argument reads behind the call as it read before'; 0 by the template 'total and deterministic' (their statements: YtbajolgfejcecaaTotals.lean).
  GIVEN WITH THE SEED: the statements are not yours to turn. If you find one false, say at which input.
  Laid BY PROGRAM, IN A SANDBOX (cutbox-rows.mjs): the forced cells as the released guide's own fill.sh prints them over the translation 6a643ac51985f26c… (all of the seat's roots in one cut). By AI agents, Wed Nov 11 2026. No macro, syntax, notation, axiom, sorry.
-/
import Derived.Test.YtbajolgfejcecaaChecked
import GoSem.Claim
import GoSem.ClaimJoined
import GoSem.ClaimMapViews
import Derived.JoinedTies
import Derived.KernelRfl
namespace Go.Proofs.Ytbajolgfejcecaa
/- THE CELL 'sum', in the pinned program and in every row, IS THE sha256 OF THE DUMP (.gsa) THAT YtbajolgfejcecaaProg.lean LOADS. Nothing in Lean hashes anything: it is a label: what it is worth is what the hold of that sum in a sandbox is worth. -/
noncomputable def Try.pinned : Pinned := { name := "ytbajolgfejcecaa", sum := "6a643ac51985f26c889c5585c9b86d29f29e8ec8027a67133888506abbeb4146", checked := Try.checked }
namespace Rows
def none {H : Type} : Left H := { results := [], args := [] }

/-- 'palfreylaw01.BitsTurns': WHATEVER THE INPUT: true; the input reads as it did. -/
def bitsTurnsSpec : ChangeSpec := { name := "bitsTurns", fn := fun _ => fun
  | [d1, d2, d3] => { results := [.lit (.bool true)], args := [d1, d2, d3] }
  | _ => none }
def bitsTurnsRow : OpenClaim := { program := "ytbajolgfejcecaa", sum := "6a643ac51985f26c889c5585c9b86d29f29e8ec8027a67133888506abbeb4146", func := "palfrey/palfreylaw01.BitsTurns", spec := "bitsTurns", apart := false }
def BitsTurnsSaid : Prop := bitsTurnsRow.holds Try.pinned (OpenSpec.ofChange bitsTurnsSpec)

/-- ITS FALSE NEIGHBOUR: 'it returns false'. Refute it at one input. -/
def bitsTurnsWrong : ChangeSpec := { name := "bitsTurns", fn := fun _ => fun
  | [d1, d2, d3] => { results := [.lit (.bool false)], args := [d1, d2, d3] }
  | _ => none }
def BitsTurnsWrongFalsely : Prop := bitsTurnsRow.holds Try.pinned (OpenSpec.ofChange bitsTurnsWrong)

/-- 'palfreylaw01.BitsXor': WHATEVER THE INPUT: true; the input reads as it did. -/
def bitsXorSpec : ChangeSpec := { name := "bitsXor", fn := fun _ => fun
  | [d1, d2] => { results := [.lit (.bool true)], args := [d1, d2] }
  | _ => none }
def bitsXorRow : OpenClaim := { program := "ytbajolgfejcecaa", sum := "6a643ac51985f26c889c5585c9b86d29f29e8ec8027a67133888506abbeb4146", func := "palfrey/palfreylaw01.BitsXor", spec := "bitsXor", unfollowed := true, recurses := true, apart := false }
def BitsXorSaid : Prop := bitsXorRow.holds Try.pinned (OpenSpec.ofChange bitsXorSpec)

/-- ITS FALSE NEIGHBOUR: 'it returns false'. Refute it at one input. -/
def bitsXorWrong : ChangeSpec := { name := "bitsXor", fn := fun _ => fun
  | [d1, d2] => { results := [.lit (.bool false)], args := [d1, d2] }
  | _ => none }
def BitsXorWrongFalsely : Prop := bitsXorRow.holds Try.pinned (OpenSpec.ofChange bitsXorWrong)

/-- 'palfreylaw01.BitsNumbers': WHATEVER THE INPUT: true; the input reads as it did. -/
def bitsNumbersSpec : ChangeSpec := { name := "bitsNumbers", fn := fun _ => fun
  | [d1, d2, d3] => { results := [.lit (.bool true)], args := [d1, d2, d3] }
  | _ => none }
def bitsNumbersRow : OpenClaim := { program := "ytbajolgfejcecaa", sum := "6a643ac51985f26c889c5585c9b86d29f29e8ec8027a67133888506abbeb4146", func := "palfrey/palfreylaw01.BitsNumbers", spec := "bitsNumbers", unfollowed := true, recurses := true, apart := false }
def BitsNumbersSaid : Prop := bitsNumbersRow.holds Try.pinned (OpenSpec.ofChange bitsNumbersSpec)

/-- ITS FALSE NEIGHBOUR: 'it returns false'. Refute it at one input. -/
def bitsNumbersWrong : ChangeSpec := { name := "bitsNumbers", fn := fun _ => fun
  | [d1, d2, d3] => { results := [.lit (.bool false)], args := [d1, d2, d3] }
  | _ => none }
def BitsNumbersWrongFalsely : Prop := bitsNumbersRow.holds Try.pinned (OpenSpec.ofChange bitsNumbersWrong)

/-- 'palfreylaw01.BitsPairs': WHATEVER THE INPUT: true; the input reads as it did. -/
def bitsPairsSpec : ChangeSpec := { name := "bitsPairs", fn := fun _ => fun
  | [d1, d2] => { results := [.lit (.bool true)], args := [d1, d2] }
  | _ => none }
def bitsPairsRow : OpenClaim := { program := "ytbajolgfejcecaa", sum := "6a643ac51985f26c889c5585c9b86d29f29e8ec8027a67133888506abbeb4146", func := "palfrey/palfreylaw01.BitsPairs", spec := "bitsPairs", unfollowed := true, recurses := true, apart := false }
def BitsPairsSaid : Prop := bitsPairsRow.holds Try.pinned (OpenSpec.ofChange bitsPairsSpec)

/-- ITS FALSE NEIGHBOUR: 'it returns false'. Refute it at one input. -/
def bitsPairsWrong : ChangeSpec := { name := "bitsPairs", fn := fun _ => fun
  | [d1, d2] => { results := [.lit (.bool false)], args := [d1, d2] }
  | _ => none }
def BitsPairsWrongFalsely : Prop := bitsPairsRow.holds Try.pinned (OpenSpec.ofChange bitsPairsWrong)

/-- 'palfreylaw01.BitsBack': WHATEVER THE INPUT: true; the input reads as it did. -/
def bitsBackSpec : ChangeSpec := { name := "bitsBack", fn := fun _ => fun
  | [d] => { results := [.lit (.bool true)], args := [d] }
  | _ => none }
def bitsBackRow : OpenClaim := { program := "ytbajolgfejcecaa", sum := "6a643ac51985f26c889c5585c9b86d29f29e8ec8027a67133888506abbeb4146", func := "palfrey/palfreylaw01.BitsBack", spec := "bitsBack", unfollowed := true, recurses := true, apart := false }
def BitsBackSaid : Prop := bitsBackRow.holds Try.pinned (OpenSpec.ofChange bitsBackSpec)

/-- ITS FALSE NEIGHBOUR: 'it returns false'. Refute it at one input. -/
def bitsBackWrong : ChangeSpec := { name := "bitsBack", fn := fun _ => fun
  | [d] => { results := [.lit (.bool false)], args := [d] }
  | _ => none }
def BitsBackWrongFalsely : Prop := bitsBackRow.holds Try.pinned (OpenSpec.ofChange bitsBackWrong)

/-- 'palfreylaw01.BitsZeros': WHATEVER THE INPUT: true; the input reads as it did. -/
def bitsZerosSpec : ChangeSpec := { name := "bitsZeros", fn := fun _ => fun
  | [d1, d2] => { results := [.lit (.bool true)], args := [d1, d2] }
  | _ => none }
def bitsZerosRow : OpenClaim := { program := "ytbajolgfejcecaa", sum := "6a643ac51985f26c889c5585c9b86d29f29e8ec8027a67133888506abbeb4146", func := "palfrey/palfreylaw01.BitsZeros", spec := "bitsZeros", unfollowed := true, recurses := true, apart := false }
def BitsZerosSaid : Prop := bitsZerosRow.holds Try.pinned (OpenSpec.ofChange bitsZerosSpec)

/-- ITS FALSE NEIGHBOUR: 'it returns false'. Refute it at one input. -/
def bitsZerosWrong : ChangeSpec := { name := "bitsZeros", fn := fun _ => fun
  | [d1, d2] => { results := [.lit (.bool false)], args := [d1, d2] }
  | _ => none }
def BitsZerosWrongFalsely : Prop := bitsZerosRow.holds Try.pinned (OpenSpec.ofChange bitsZerosWrong)

/-- 'palfreylaw01.BitsCounts': WHATEVER THE INPUT: true; the input reads as it did. -/
def bitsCountsSpec : ChangeSpec := { name := "bitsCounts", fn := fun _ => fun
  | [d] => { results := [.lit (.bool true)], args := [d] }
  | _ => none }
def bitsCountsRow : OpenClaim := { program := "ytbajolgfejcecaa", sum := "6a643ac51985f26c889c5585c9b86d29f29e8ec8027a67133888506abbeb4146", func := "palfrey/palfreylaw01.BitsCounts", spec := "bitsCounts", inPlace := ["math/bits.Add64"], unfollowed := true, recurses := true, apart := false }
def BitsCountsSaid : Prop := bitsCountsRow.holds Try.pinned (OpenSpec.ofChange bitsCountsSpec)

/-- ITS FALSE NEIGHBOUR: 'it returns false'. Refute it at one input. -/
def bitsCountsWrong : ChangeSpec := { name := "bitsCounts", fn := fun _ => fun
  | [d] => { results := [.lit (.bool false)], args := [d] }
  | _ => none }
def BitsCountsWrongFalsely : Prop := bitsCountsRow.holds Try.pinned (OpenSpec.ofChange bitsCountsWrong)

/-- 'palfreylaw01.BitsSteps': WHATEVER THE INPUT: true; the input reads as it did. -/
def bitsStepsSpec : ChangeSpec := { name := "bitsSteps", fn := fun _ => fun
  | [d1, d2, d3] => { results := [.lit (.bool true)], args := [d1, d2, d3] }
  | _ => none }
def bitsStepsRow : OpenClaim := { program := "ytbajolgfejcecaa", sum := "6a643ac51985f26c889c5585c9b86d29f29e8ec8027a67133888506abbeb4146", func := "palfrey/palfreylaw01.BitsSteps", spec := "bitsSteps", inPlace := ["math/bits.Add64"], unfollowed := true, recurses := true, apart := false }
def BitsStepsSaid : Prop := bitsStepsRow.holds Try.pinned (OpenSpec.ofChange bitsStepsSpec)

/-- ITS FALSE NEIGHBOUR: 'it returns false'. Refute it at one input. -/
def bitsStepsWrong : ChangeSpec := { name := "bitsSteps", fn := fun _ => fun
  | [d1, d2, d3] => { results := [.lit (.bool false)], args := [d1, d2, d3] }
  | _ => none }
def BitsStepsWrongFalsely : Prop := bitsStepsRow.holds Try.pinned (OpenSpec.ofChange bitsStepsWrong)

/- THE SECOND FORM. 'bulk': how many values and letters a reading holds, each counted each time it is reached (what is shared counts as often as it is met; a slice's spare places count too). A statement '..UptoSaid' is the law's where the arguments, and the package variables that the reading takes, are together of bulk at most 1048576: NARROWER than '..Said'. Prove '..Said' where nothing that the law and all that it calls make is longer than what came in: it says more and counts as full. Else prove '..UptoSaid'. A law counts once. -/
mutual
def uptoBulk {H : Type} : DataW H → Nat
  | .lit (.string bytes) => bytes.length + 1
  | .lit _ => 1
  | .nil => 1
  | .ptr d => uptoBulk d + 1
  | .slice elems spare => uptoBulkAll elems + uptoBulkAll spare + 1
  | .agg parts => uptoBulkAll parts + 1
  | .iface _ d => uptoBulk d + 1
  | .map entries => uptoBulkEntries entries + 1
  | .held _ => 1
def uptoBulkAll {H : Type} : List (DataW H) → Nat
  | [] => 0
  | d :: r => uptoBulk d + uptoBulkAll r
def uptoBulkEntries {H : Type} : List (Lit × DataW H) → Nat
  | [] => 0
  | x :: r => uptoBulkEntry x + uptoBulkEntries r
def uptoBulkEntry {H : Type} : Lit × DataW H → Nat
  | (.string bytes, d) => bytes.length + uptoBulk d + 1
  | (_, d) => uptoBulk d + 1
 end
def uptoSmall : (H : Type) → List (DataW H) → Bool := fun _ ds => decide (uptoBulkAll ds ≤ 1048576)
def OpenSpec.upto (s : _root_.Go.ChangeSpec) : _root_.Go.OpenSpec := { _root_.Go.OpenSpec.ofChange s with cond := some uptoSmall }

/-- 'palfreylaw01.BitsTurns', WHERE WHAT IT READS IS OF BULK AT MOST 1048576: true; the input reads as it did. -/
def bitsTurnsUptoRow : OpenClaim := { program := "ytbajolgfejcecaa", sum := "6a643ac51985f26c889c5585c9b86d29f29e8ec8027a67133888506abbeb4146", func := "palfrey/palfreylaw01.BitsTurns", spec := "bitsTurns", apart := false, narrowed := true }
def BitsTurnsUptoSaid : Prop := bitsTurnsUptoRow.holds Try.pinned (OpenSpec.upto bitsTurnsSpec)

/-- 'palfreylaw01.BitsXor', WHERE WHAT IT READS IS OF BULK AT MOST 1048576: true; the input reads as it did. -/
def bitsXorUptoRow : OpenClaim := { program := "ytbajolgfejcecaa", sum := "6a643ac51985f26c889c5585c9b86d29f29e8ec8027a67133888506abbeb4146", func := "palfrey/palfreylaw01.BitsXor", spec := "bitsXor", unfollowed := true, recurses := true, apart := false, narrowed := true }
def BitsXorUptoSaid : Prop := bitsXorUptoRow.holds Try.pinned (OpenSpec.upto bitsXorSpec)

/-- 'palfreylaw01.BitsNumbers', WHERE WHAT IT READS IS OF BULK AT MOST 1048576: true; the input reads as it did. -/
def bitsNumbersUptoRow : OpenClaim := { program := "ytbajolgfejcecaa", sum := "6a643ac51985f26c889c5585c9b86d29f29e8ec8027a67133888506abbeb4146", func := "palfrey/palfreylaw01.BitsNumbers", spec := "bitsNumbers", unfollowed := true, recurses := true, apart := false, narrowed := true }
def BitsNumbersUptoSaid : Prop := bitsNumbersUptoRow.holds Try.pinned (OpenSpec.upto bitsNumbersSpec)

/-- 'palfreylaw01.BitsPairs', WHERE WHAT IT READS IS OF BULK AT MOST 1048576: true; the input reads as it did. -/
def bitsPairsUptoRow : OpenClaim := { program := "ytbajolgfejcecaa", sum := "6a643ac51985f26c889c5585c9b86d29f29e8ec8027a67133888506abbeb4146", func := "palfrey/palfreylaw01.BitsPairs", spec := "bitsPairs", unfollowed := true, recurses := true, apart := false, narrowed := true }
def BitsPairsUptoSaid : Prop := bitsPairsUptoRow.holds Try.pinned (OpenSpec.upto bitsPairsSpec)

/-- 'palfreylaw01.BitsBack', WHERE WHAT IT READS IS OF BULK AT MOST 1048576: true; the input reads as it did. -/
def bitsBackUptoRow : OpenClaim := { program := "ytbajolgfejcecaa", sum := "6a643ac51985f26c889c5585c9b86d29f29e8ec8027a67133888506abbeb4146", func := "palfrey/palfreylaw01.BitsBack", spec := "bitsBack", unfollowed := true, recurses := true, apart := false, narrowed := true }
def BitsBackUptoSaid : Prop := bitsBackUptoRow.holds Try.pinned (OpenSpec.upto bitsBackSpec)

/-- 'palfreylaw01.BitsZeros', WHERE WHAT IT READS IS OF BULK AT MOST 1048576: true; the input reads as it did. -/
def bitsZerosUptoRow : OpenClaim := { program := "ytbajolgfejcecaa", sum := "6a643ac51985f26c889c5585c9b86d29f29e8ec8027a67133888506abbeb4146", func := "palfrey/palfreylaw01.BitsZeros", spec := "bitsZeros", unfollowed := true, recurses := true, apart := false, narrowed := true }
def BitsZerosUptoSaid : Prop := bitsZerosUptoRow.holds Try.pinned (OpenSpec.upto bitsZerosSpec)

/-- 'palfreylaw01.BitsCounts', WHERE WHAT IT READS IS OF BULK AT MOST 1048576: true; the input reads as it did. -/
def bitsCountsUptoRow : OpenClaim := { program := "ytbajolgfejcecaa", sum := "6a643ac51985f26c889c5585c9b86d29f29e8ec8027a67133888506abbeb4146", func := "palfrey/palfreylaw01.BitsCounts", spec := "bitsCounts", inPlace := ["math/bits.Add64"], unfollowed := true, recurses := true, apart := false, narrowed := true }
def BitsCountsUptoSaid : Prop := bitsCountsUptoRow.holds Try.pinned (OpenSpec.upto bitsCountsSpec)

/-- 'palfreylaw01.BitsSteps', WHERE WHAT IT READS IS OF BULK AT MOST 1048576: true; the input reads as it did. -/
def bitsStepsUptoRow : OpenClaim := { program := "ytbajolgfejcecaa", sum := "6a643ac51985f26c889c5585c9b86d29f29e8ec8027a67133888506abbeb4146", func := "palfrey/palfreylaw01.BitsSteps", spec := "bitsSteps", inPlace := ["math/bits.Add64"], unfollowed := true, recurses := true, apart := false, narrowed := true }
def BitsStepsUptoSaid : Prop := bitsStepsUptoRow.holds Try.pinned (OpenSpec.upto bitsStepsSpec)

end Rows
end Go.Proofs.Ytbajolgfejcecaa
