/-
  No cell of these rows narrows 'for every input' (looked for: loops, veiled, ifaces, maps, wideKeys, modest, calm, conditions, laid).
  DERIVED. THE GIVEN ROWS OF THIS SEAT. 6 by the template 'for every input the law returns true; each argument reads behind the call as it read before'; 0 by the template 'total and deterministic' (their statements: YtilgkadochhkjaaTotals.lean).
  GIVEN WITH THE SEED: the statements are not yours to turn. If you find one false, say at which input.
  Laid BY PROGRAM, IN A SANDBOX (cutbox-rows.mjs): the forced cells as the released guide's own fill.sh prints them over the translation 1df2d27a3ed66ea8… (all of the seat's roots in one cut). By AI agents, Wed Nov 11 2026. No macro, syntax, notation, axiom, sorry.
-/
import Derived.Test.YtilgkadochhkjaaChecked
import GoSem.Claim
import GoSem.ClaimJoined
import GoSem.ClaimMapViews
import Derived.JoinedTies
import Derived.KernelRfl
namespace Go.Proofs.Ytilgkadochhkjaa
/- THE CELL 'sum', in the pinned program and in every row, IS THE sha256 OF THE DUMP (.gsa) THAT YtilgkadochhkjaaProg.lean LOADS. Nothing in Lean hashes anything: it is a label: what it is worth is what the hold of that sum in a sandbox is worth. -/
noncomputable def Try.pinned : Pinned := { name := "ytilgkadochhkjaa", sum := "1df2d27a3ed66ea8ae3a659d91fac860490de7d5051c7423f2b5c283a8583a42", checked := Try.checked }
namespace Rows
def none {H : Type} : Left H := { results := [], args := [] }

/-- 'palfreylaw05.PolySums': WHATEVER THE INPUT: true; the input reads as it did. -/
def polySumsSpec : ChangeSpec := { name := "polySums", fn := fun _ => fun
  | [d1, d2] => { results := [.lit (.bool true)], args := [d1, d2] }
  | _ => none }
def polySumsRow : OpenClaim := { program := "ytilgkadochhkjaa", sum := "1df2d27a3ed66ea8ae3a659d91fac860490de7d5051c7423f2b5c283a8583a42", func := "palfrey/palfreylaw05.PolySums", spec := "polySums", inPlace := ["math/bits.Add64", "math/bits.Sub64"], unfollowed := true, recurses := true, apart := false }
def PolySumsSaid : Prop := polySumsRow.holds Try.pinned (OpenSpec.ofChange polySumsSpec)

/-- ITS FALSE NEIGHBOUR: 'it returns false'. Refute it at one input. -/
def polySumsWrong : ChangeSpec := { name := "polySums", fn := fun _ => fun
  | [d1, d2] => { results := [.lit (.bool false)], args := [d1, d2] }
  | _ => none }
def PolySumsWrongFalsely : Prop := polySumsRow.holds Try.pinned (OpenSpec.ofChange polySumsWrong)

/-- 'palfreylaw05.PolyParts': WHATEVER THE INPUT: true; the input reads as it did. -/
def polyPartsSpec : ChangeSpec := { name := "polyParts", fn := fun _ => fun
  | [d1, d2] => { results := [.lit (.bool true)], args := [d1, d2] }
  | _ => none }
def polyPartsRow : OpenClaim := { program := "ytilgkadochhkjaa", sum := "1df2d27a3ed66ea8ae3a659d91fac860490de7d5051c7423f2b5c283a8583a42", func := "palfrey/palfreylaw05.PolyParts", spec := "polyParts", inPlace := ["math/bits.Add64", "math/bits.Sub64"], unfollowed := true, recurses := true, apart := false }
def PolyPartsSaid : Prop := polyPartsRow.holds Try.pinned (OpenSpec.ofChange polyPartsSpec)

/-- ITS FALSE NEIGHBOUR: 'it returns false'. Refute it at one input. -/
def polyPartsWrong : ChangeSpec := { name := "polyParts", fn := fun _ => fun
  | [d1, d2] => { results := [.lit (.bool false)], args := [d1, d2] }
  | _ => none }
def PolyPartsWrongFalsely : Prop := polyPartsRow.holds Try.pinned (OpenSpec.ofChange polyPartsWrong)

/-- 'palfreylaw05.PolyNought': WHATEVER THE INPUT: true; the input reads as it did. -/
def polyNoughtSpec : ChangeSpec := { name := "polyNought", fn := fun _ => fun
  | [d1, d2] => { results := [.lit (.bool true)], args := [d1, d2] }
  | _ => none }
def polyNoughtRow : OpenClaim := { program := "ytilgkadochhkjaa", sum := "1df2d27a3ed66ea8ae3a659d91fac860490de7d5051c7423f2b5c283a8583a42", func := "palfrey/palfreylaw05.PolyNought", spec := "polyNought", inPlace := ["math/bits.Add64", "math/bits.Sub64"], unfollowed := true, recurses := true, apart := false }
def PolyNoughtSaid : Prop := polyNoughtRow.holds Try.pinned (OpenSpec.ofChange polyNoughtSpec)

/-- ITS FALSE NEIGHBOUR: 'it returns false'. Refute it at one input. -/
def polyNoughtWrong : ChangeSpec := { name := "polyNought", fn := fun _ => fun
  | [d1, d2] => { results := [.lit (.bool false)], args := [d1, d2] }
  | _ => none }
def PolyNoughtWrongFalsely : Prop := polyNoughtRow.holds Try.pinned (OpenSpec.ofChange polyNoughtWrong)

/-- 'palfreylaw05.PolyShift': WHATEVER THE INPUT: true; the input reads as it did. -/
def polyShiftSpec : ChangeSpec := { name := "polyShift", fn := fun _ => fun
  | [d1, d2] => { results := [.lit (.bool true)], args := [d1, d2] }
  | _ => none }
def polyShiftRow : OpenClaim := { program := "ytilgkadochhkjaa", sum := "1df2d27a3ed66ea8ae3a659d91fac860490de7d5051c7423f2b5c283a8583a42", func := "palfrey/palfreylaw05.PolyShift", spec := "polyShift", inPlace := ["math/bits.Add64", "math/bits.Sub64"], unfollowed := true, recurses := true, apart := false }
def PolyShiftSaid : Prop := polyShiftRow.holds Try.pinned (OpenSpec.ofChange polyShiftSpec)

/-- ITS FALSE NEIGHBOUR: 'it returns false'. Refute it at one input. -/
def polyShiftWrong : ChangeSpec := { name := "polyShift", fn := fun _ => fun
  | [d1, d2] => { results := [.lit (.bool false)], args := [d1, d2] }
  | _ => none }
def PolyShiftWrongFalsely : Prop := polyShiftRow.holds Try.pinned (OpenSpec.ofChange polyShiftWrong)

/-- 'palfreylaw05.PolyClamp': WHATEVER THE INPUT: true; the input reads as it did. -/
def polyClampSpec : ChangeSpec := { name := "polyClamp", fn := fun _ => fun
  | [d1, d2] => { results := [.lit (.bool true)], args := [d1, d2] }
  | _ => none }
def polyClampRow : OpenClaim := { program := "ytilgkadochhkjaa", sum := "1df2d27a3ed66ea8ae3a659d91fac860490de7d5051c7423f2b5c283a8583a42", func := "palfrey/palfreylaw05.PolyClamp", spec := "polyClamp", inPlace := ["math/bits.Add64", "math/bits.Sub64"], unfollowed := true, recurses := true, apart := false }
def PolyClampSaid : Prop := polyClampRow.holds Try.pinned (OpenSpec.ofChange polyClampSpec)

/-- ITS FALSE NEIGHBOUR: 'it returns false'. Refute it at one input. -/
def polyClampWrong : ChangeSpec := { name := "polyClamp", fn := fun _ => fun
  | [d1, d2] => { results := [.lit (.bool false)], args := [d1, d2] }
  | _ => none }
def PolyClampWrongFalsely : Prop := polyClampRow.holds Try.pinned (OpenSpec.ofChange polyClampWrong)

/-- 'palfreylaw05.PolySmall': WHATEVER THE INPUT: true; the input reads as it did. -/
def polySmallSpec : ChangeSpec := { name := "polySmall", fn := fun _ => fun
  | [d1, d2, d3] => { results := [.lit (.bool true)], args := [d1, d2, d3] }
  | _ => none }
def polySmallRow : OpenClaim := { program := "ytilgkadochhkjaa", sum := "1df2d27a3ed66ea8ae3a659d91fac860490de7d5051c7423f2b5c283a8583a42", func := "palfrey/palfreylaw05.PolySmall", spec := "polySmall", inPlace := ["math/bits.Add64", "math/bits.Sub64"], unfollowed := true, recurses := true, apart := false }
def PolySmallSaid : Prop := polySmallRow.holds Try.pinned (OpenSpec.ofChange polySmallSpec)

/-- ITS FALSE NEIGHBOUR: 'it returns false'. Refute it at one input. -/
def polySmallWrong : ChangeSpec := { name := "polySmall", fn := fun _ => fun
  | [d1, d2, d3] => { results := [.lit (.bool false)], args := [d1, d2, d3] }
  | _ => none }
def PolySmallWrongFalsely : Prop := polySmallRow.holds Try.pinned (OpenSpec.ofChange polySmallWrong)

/- THE SECOND FORM. 'bulk': how many values and letters a reading holds, each counted each time it is reached (what is shared counts as often as it is met; a slice's spare places count too). A statement '..UptoSaid' is the law's where the arguments, and the package variables that the reading takes, are together of bulk at most 1048576: NARROWER than '..Said'. Prove '..Said' where nothing that the law and all that it calls make is longer than what came in: it says more and counts as full. Else prove '..UptoSaid'. A law counts once. -/
mutual
def uptoBulk {H : Type} : DataW H → Nat
  | .lit (.string bytes) => bytes.length + 1
  | .lit _ => 1
  | .nil => 1
  | .ptr d => uptoBulk d + 1
  | .slice elems spare => uptoBulkAll elems + uptoBulkAll spare + 1
  | .agg parts => uptoBulkAll parts + 1
  | .iface _ d => uptoBulk d + 1
  | .map entries => uptoBulkEntries entries + 1
  | .held _ => 1
def uptoBulkAll {H : Type} : List (DataW H) → Nat
  | [] => 0
  | d :: r => uptoBulk d + uptoBulkAll r
def uptoBulkEntries {H : Type} : List (Lit × DataW H) → Nat
  | [] => 0
  | x :: r => uptoBulkEntry x + uptoBulkEntries r
def uptoBulkEntry {H : Type} : Lit × DataW H → Nat
  | (.string bytes, d) => bytes.length + uptoBulk d + 1
  | (_, d) => uptoBulk d + 1
 end
def uptoSmall : (H : Type) → List (DataW H) → Bool := fun _ ds => decide (uptoBulkAll ds ≤ 1048576)
def OpenSpec.upto (s : _root_.Go.ChangeSpec) : _root_.Go.OpenSpec := { _root_.Go.OpenSpec.ofChange s with cond := some uptoSmall }

/-- 'palfreylaw05.PolySums', WHERE WHAT IT READS IS OF BULK AT MOST 1048576: true; the input reads as it did. -/
def polySumsUptoRow : OpenClaim := { program := "ytilgkadochhkjaa", sum := "1df2d27a3ed66ea8ae3a659d91fac860490de7d5051c7423f2b5c283a8583a42", func := "palfrey/palfreylaw05.PolySums", spec := "polySums", inPlace := ["math/bits.Add64", "math/bits.Sub64"], unfollowed := true, recurses := true, apart := false, narrowed := true }
def PolySumsUptoSaid : Prop := polySumsUptoRow.holds Try.pinned (OpenSpec.upto polySumsSpec)

/-- 'palfreylaw05.PolyParts', WHERE WHAT IT READS IS OF BULK AT MOST 1048576: true; the input reads as it did. -/
def polyPartsUptoRow : OpenClaim := { program := "ytilgkadochhkjaa", sum := "1df2d27a3ed66ea8ae3a659d91fac860490de7d5051c7423f2b5c283a8583a42", func := "palfrey/palfreylaw05.PolyParts", spec := "polyParts", inPlace := ["math/bits.Add64", "math/bits.Sub64"], unfollowed := true, recurses := true, apart := false, narrowed := true }
def PolyPartsUptoSaid : Prop := polyPartsUptoRow.holds Try.pinned (OpenSpec.upto polyPartsSpec)

/-- 'palfreylaw05.PolyNought', WHERE WHAT IT READS IS OF BULK AT MOST 1048576: true; the input reads as it did. -/
def polyNoughtUptoRow : OpenClaim := { program := "ytilgkadochhkjaa", sum := "1df2d27a3ed66ea8ae3a659d91fac860490de7d5051c7423f2b5c283a8583a42", func := "palfrey/palfreylaw05.PolyNought", spec := "polyNought", inPlace := ["math/bits.Add64", "math/bits.Sub64"], unfollowed := true, recurses := true, apart := false, narrowed := true }
def PolyNoughtUptoSaid : Prop := polyNoughtUptoRow.holds Try.pinned (OpenSpec.upto polyNoughtSpec)

/-- 'palfreylaw05.PolyShift', WHERE WHAT IT READS IS OF BULK AT MOST 1048576: true; the input reads as it did. -/
def polyShiftUptoRow : OpenClaim := { program := "ytilgkadochhkjaa", sum := "1df2d27a3ed66ea8ae3a659d91fac860490de7d5051c7423f2b5c283a8583a42", func := "palfrey/palfreylaw05.PolyShift", spec := "polyShift", inPlace := ["math/bits.Add64", "math/bits.Sub64"], unfollowed := true, recurses := true, apart := false, narrowed := true }
def PolyShiftUptoSaid : Prop := polyShiftUptoRow.holds Try.pinned (OpenSpec.upto polyShiftSpec)

/-- 'palfreylaw05.PolyClamp', WHERE WHAT IT READS IS OF BULK AT MOST 1048576: true; the input reads as it did. -/
def polyClampUptoRow : OpenClaim := { program := "ytilgkadochhkjaa", sum := "1df2d27a3ed66ea8ae3a659d91fac860490de7d5051c7423f2b5c283a8583a42", func := "palfrey/palfreylaw05.PolyClamp", spec := "polyClamp", inPlace := ["math/bits.Add64", "math/bits.Sub64"], unfollowed := true, recurses := true, apart := false, narrowed := true }
def PolyClampUptoSaid : Prop := polyClampUptoRow.holds Try.pinned (OpenSpec.upto polyClampSpec)

/-- 'palfreylaw05.PolySmall', WHERE WHAT IT READS IS OF BULK AT MOST 1048576: true; the input reads as it did. -/
def polySmallUptoRow : OpenClaim := { program := "ytilgkadochhkjaa", sum := "1df2d27a3ed66ea8ae3a659d91fac860490de7d5051c7423f2b5c283a8583a42", func := "palfrey/palfreylaw05.PolySmall", spec := "polySmall", inPlace := ["math/bits.Add64", "math/bits.Sub64"], unfollowed := true, recurses := true, apart := false, narrowed := true }
def PolySmallUptoSaid : Prop := polySmallUptoRow.holds Try.pinned (OpenSpec.upto polySmallSpec)

end Rows
end Go.Proofs.Ytilgkadochhkjaa
