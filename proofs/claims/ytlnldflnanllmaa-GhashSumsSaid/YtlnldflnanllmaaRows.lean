/-
  No cell of these rows narrows 'for every input' (looked for: loops, veiled, ifaces, maps, wideKeys, modest, calm, conditions, laid).
  DERIVED. THE GIVEN ROWS OF THIS SEAT. 7 by the template 'for every input the law returns true; each argument reads behind the call as it read before'; 0 by the template 'total and deterministic' (their statements: YtlnldflnanllmaaTotals.lean).
  GIVEN WITH THE SEED: the statements are not yours to turn. If you find one false, say at which input.
  Laid BY PROGRAM, IN A SANDBOX (cutbox-rows.mjs): the forced cells as the released guide's own fill.sh prints them over the translation 45d650fd8a6e36a5… (all of the seat's roots in one cut). By AI agents, Wed Nov 11 2026. No macro, syntax, notation, axiom, sorry.
-/
import Derived.Test.YtlnldflnanllmaaChecked
import GoSem.Claim
import GoSem.ClaimJoined
import GoSem.ClaimMapViews
import Derived.JoinedTies
import Derived.KernelRfl
namespace Go.Proofs.Ytlnldflnanllmaa
/- THE CELL 'sum', in the pinned program and in every row, IS THE sha256 OF THE DUMP (.gsa) THAT YtlnldflnanllmaaProg.lean LOADS. Nothing in Lean hashes anything: it is a label: what it is worth is what the hold of that sum in a sandbox is worth. -/
noncomputable def Try.pinned : Pinned := { name := "ytlnldflnanllmaa", sum := "45d650fd8a6e36a5ec35d640b1c3dcd8d07819e23f0b115670ddff27fc73a6c2", checked := Try.checked }
namespace Rows
def none {H : Type} : Left H := { results := [], args := [] }

/-- 'palfreylaw06.GhashMuls': WHATEVER THE INPUT: true; the input reads as it did. -/
def ghashMulsSpec : ChangeSpec := { name := "ghashMuls", fn := fun _ => fun
  | [d1, d2] => { results := [.lit (.bool true)], args := [d1, d2] }
  | _ => none }
def ghashMulsRow : OpenClaim := { program := "ytlnldflnanllmaa", sum := "45d650fd8a6e36a5ec35d640b1c3dcd8d07819e23f0b115670ddff27fc73a6c2", func := "palfrey/palfreylaw06.GhashMuls", spec := "ghashMuls", unfollowed := true, recurses := true, apart := false }
def GhashMulsSaid : Prop := ghashMulsRow.holds Try.pinned (OpenSpec.ofChange ghashMulsSpec)

/-- ITS FALSE NEIGHBOUR: 'it returns false'. Refute it at one input. -/
def ghashMulsWrong : ChangeSpec := { name := "ghashMuls", fn := fun _ => fun
  | [d1, d2] => { results := [.lit (.bool false)], args := [d1, d2] }
  | _ => none }
def GhashMulsWrongFalsely : Prop := ghashMulsRow.holds Try.pinned (OpenSpec.ofChange ghashMulsWrong)

/-- 'palfreylaw06.GhashRing': WHATEVER THE INPUT: true; the input reads as it did. -/
def ghashRingSpec : ChangeSpec := { name := "ghashRing", fn := fun _ => fun
  | [d1, d2, d3] => { results := [.lit (.bool true)], args := [d1, d2, d3] }
  | _ => none }
def ghashRingRow : OpenClaim := { program := "ytlnldflnanllmaa", sum := "45d650fd8a6e36a5ec35d640b1c3dcd8d07819e23f0b115670ddff27fc73a6c2", func := "palfrey/palfreylaw06.GhashRing", spec := "ghashRing", unfollowed := true, recurses := true, apart := false }
def GhashRingSaid : Prop := ghashRingRow.holds Try.pinned (OpenSpec.ofChange ghashRingSpec)

/-- ITS FALSE NEIGHBOUR: 'it returns false'. Refute it at one input. -/
def ghashRingWrong : ChangeSpec := { name := "ghashRing", fn := fun _ => fun
  | [d1, d2, d3] => { results := [.lit (.bool false)], args := [d1, d2, d3] }
  | _ => none }
def GhashRingWrongFalsely : Prop := ghashRingRow.holds Try.pinned (OpenSpec.ofChange ghashRingWrong)

/-- 'palfreylaw06.GhashApart': WHATEVER THE INPUT: true; the input reads as it did. -/
def ghashApartSpec : ChangeSpec := { name := "ghashApart", fn := fun _ => fun
  | [d1, d2, d3] => { results := [.lit (.bool true)], args := [d1, d2, d3] }
  | _ => none }
def ghashApartRow : OpenClaim := { program := "ytlnldflnanllmaa", sum := "45d650fd8a6e36a5ec35d640b1c3dcd8d07819e23f0b115670ddff27fc73a6c2", func := "palfrey/palfreylaw06.GhashApart", spec := "ghashApart", unfollowed := true, recurses := true, apart := false }
def GhashApartSaid : Prop := ghashApartRow.holds Try.pinned (OpenSpec.ofChange ghashApartSpec)

/-- ITS FALSE NEIGHBOUR: 'it returns false'. Refute it at one input. -/
def ghashApartWrong : ChangeSpec := { name := "ghashApart", fn := fun _ => fun
  | [d1, d2, d3] => { results := [.lit (.bool false)], args := [d1, d2, d3] }
  | _ => none }
def GhashApartWrongFalsely : Prop := ghashApartRow.holds Try.pinned (OpenSpec.ofChange ghashApartWrong)

/-- 'palfreylaw06.GhashPowers': WHATEVER THE INPUT: true; the input reads as it did. -/
def ghashPowersSpec : ChangeSpec := { name := "ghashPowers", fn := fun _ => fun
  | [d1, d2] => { results := [.lit (.bool true)], args := [d1, d2] }
  | _ => none }
def ghashPowersRow : OpenClaim := { program := "ytlnldflnanllmaa", sum := "45d650fd8a6e36a5ec35d640b1c3dcd8d07819e23f0b115670ddff27fc73a6c2", func := "palfrey/palfreylaw06.GhashPowers", spec := "ghashPowers", unfollowed := true, recurses := true, apart := false }
def GhashPowersSaid : Prop := ghashPowersRow.holds Try.pinned (OpenSpec.ofChange ghashPowersSpec)

/-- ITS FALSE NEIGHBOUR: 'it returns false'. Refute it at one input. -/
def ghashPowersWrong : ChangeSpec := { name := "ghashPowers", fn := fun _ => fun
  | [d1, d2] => { results := [.lit (.bool false)], args := [d1, d2] }
  | _ => none }
def GhashPowersWrongFalsely : Prop := ghashPowersRow.holds Try.pinned (OpenSpec.ofChange ghashPowersWrong)

/-- 'palfreylaw06.GhashParts': WHATEVER THE INPUT: true; the input reads as it did. -/
def ghashPartsSpec : ChangeSpec := { name := "ghashParts", fn := fun _ => fun
  | [d1, d2, d3] => { results := [.lit (.bool true)], args := [d1, d2, d3] }
  | _ => none }
def ghashPartsRow : OpenClaim := { program := "ytlnldflnanllmaa", sum := "45d650fd8a6e36a5ec35d640b1c3dcd8d07819e23f0b115670ddff27fc73a6c2", func := "palfrey/palfreylaw06.GhashParts", spec := "ghashParts", unfollowed := true, recurses := true, apart := false }
def GhashPartsSaid : Prop := ghashPartsRow.holds Try.pinned (OpenSpec.ofChange ghashPartsSpec)

/-- ITS FALSE NEIGHBOUR: 'it returns false'. Refute it at one input. -/
def ghashPartsWrong : ChangeSpec := { name := "ghashParts", fn := fun _ => fun
  | [d1, d2, d3] => { results := [.lit (.bool false)], args := [d1, d2, d3] }
  | _ => none }
def GhashPartsWrongFalsely : Prop := ghashPartsRow.holds Try.pinned (OpenSpec.ofChange ghashPartsWrong)

/-- 'palfreylaw06.GhashPads': WHATEVER THE INPUT: true; the input reads as it did. -/
def ghashPadsSpec : ChangeSpec := { name := "ghashPads", fn := fun _ => fun
  | [d1, d2] => { results := [.lit (.bool true)], args := [d1, d2] }
  | _ => none }
def ghashPadsRow : OpenClaim := { program := "ytlnldflnanllmaa", sum := "45d650fd8a6e36a5ec35d640b1c3dcd8d07819e23f0b115670ddff27fc73a6c2", func := "palfrey/palfreylaw06.GhashPads", spec := "ghashPads", unfollowed := true, recurses := true, apart := false }
def GhashPadsSaid : Prop := ghashPadsRow.holds Try.pinned (OpenSpec.ofChange ghashPadsSpec)

/-- ITS FALSE NEIGHBOUR: 'it returns false'. Refute it at one input. -/
def ghashPadsWrong : ChangeSpec := { name := "ghashPads", fn := fun _ => fun
  | [d1, d2] => { results := [.lit (.bool false)], args := [d1, d2] }
  | _ => none }
def GhashPadsWrongFalsely : Prop := ghashPadsRow.holds Try.pinned (OpenSpec.ofChange ghashPadsWrong)

/-- 'palfreylaw06.GhashSums': WHATEVER THE INPUT: true; the input reads as it did. -/
def ghashSumsSpec : ChangeSpec := { name := "ghashSums", fn := fun _ => fun
  | [d] => { results := [.lit (.bool true)], args := [d] }
  | _ => none }
def ghashSumsRow : OpenClaim := { program := "ytlnldflnanllmaa", sum := "45d650fd8a6e36a5ec35d640b1c3dcd8d07819e23f0b115670ddff27fc73a6c2", func := "palfrey/palfreylaw06.GhashSums", spec := "ghashSums", unfollowed := true, recurses := true, apart := false }
def GhashSumsSaid : Prop := ghashSumsRow.holds Try.pinned (OpenSpec.ofChange ghashSumsSpec)

/-- ITS FALSE NEIGHBOUR: 'it returns false'. Refute it at one input. -/
def ghashSumsWrong : ChangeSpec := { name := "ghashSums", fn := fun _ => fun
  | [d] => { results := [.lit (.bool false)], args := [d] }
  | _ => none }
def GhashSumsWrongFalsely : Prop := ghashSumsRow.holds Try.pinned (OpenSpec.ofChange ghashSumsWrong)

/- THE SECOND FORM. 'bulk': how many values and letters a reading holds, each counted each time it is reached (what is shared counts as often as it is met; a slice's spare places count too). A statement '..UptoSaid' is the law's where the arguments, and the package variables that the reading takes, are together of bulk at most 1048576: NARROWER than '..Said'. Prove '..Said' where nothing that the law and all that it calls make is longer than what came in: it says more and counts as full. Else prove '..UptoSaid'. A law counts once. -/
mutual
def uptoBulk {H : Type} : DataW H → Nat
  | .lit (.string bytes) => bytes.length + 1
  | .lit _ => 1
  | .nil => 1
  | .ptr d => uptoBulk d + 1
  | .slice elems spare => uptoBulkAll elems + uptoBulkAll spare + 1
  | .agg parts => uptoBulkAll parts + 1
  | .iface _ d => uptoBulk d + 1
  | .map entries => uptoBulkEntries entries + 1
  | .held _ => 1
def uptoBulkAll {H : Type} : List (DataW H) → Nat
  | [] => 0
  | d :: r => uptoBulk d + uptoBulkAll r
def uptoBulkEntries {H : Type} : List (Lit × DataW H) → Nat
  | [] => 0
  | x :: r => uptoBulkEntry x + uptoBulkEntries r
def uptoBulkEntry {H : Type} : Lit × DataW H → Nat
  | (.string bytes, d) => bytes.length + uptoBulk d + 1
  | (_, d) => uptoBulk d + 1
 end
def uptoSmall : (H : Type) → List (DataW H) → Bool := fun _ ds => decide (uptoBulkAll ds ≤ 1048576)
def OpenSpec.upto (s : _root_.Go.ChangeSpec) : _root_.Go.OpenSpec := { _root_.Go.OpenSpec.ofChange s with cond := some uptoSmall }

/-- 'palfreylaw06.GhashMuls', WHERE WHAT IT READS IS OF BULK AT MOST 1048576: true; the input reads as it did. -/
def ghashMulsUptoRow : OpenClaim := { program := "ytlnldflnanllmaa", sum := "45d650fd8a6e36a5ec35d640b1c3dcd8d07819e23f0b115670ddff27fc73a6c2", func := "palfrey/palfreylaw06.GhashMuls", spec := "ghashMuls", unfollowed := true, recurses := true, apart := false, narrowed := true }
def GhashMulsUptoSaid : Prop := ghashMulsUptoRow.holds Try.pinned (OpenSpec.upto ghashMulsSpec)

/-- 'palfreylaw06.GhashRing', WHERE WHAT IT READS IS OF BULK AT MOST 1048576: true; the input reads as it did. -/
def ghashRingUptoRow : OpenClaim := { program := "ytlnldflnanllmaa", sum := "45d650fd8a6e36a5ec35d640b1c3dcd8d07819e23f0b115670ddff27fc73a6c2", func := "palfrey/palfreylaw06.GhashRing", spec := "ghashRing", unfollowed := true, recurses := true, apart := false, narrowed := true }
def GhashRingUptoSaid : Prop := ghashRingUptoRow.holds Try.pinned (OpenSpec.upto ghashRingSpec)

/-- 'palfreylaw06.GhashApart', WHERE WHAT IT READS IS OF BULK AT MOST 1048576: true; the input reads as it did. -/
def ghashApartUptoRow : OpenClaim := { program := "ytlnldflnanllmaa", sum := "45d650fd8a6e36a5ec35d640b1c3dcd8d07819e23f0b115670ddff27fc73a6c2", func := "palfrey/palfreylaw06.GhashApart", spec := "ghashApart", unfollowed := true, recurses := true, apart := false, narrowed := true }
def GhashApartUptoSaid : Prop := ghashApartUptoRow.holds Try.pinned (OpenSpec.upto ghashApartSpec)

/-- 'palfreylaw06.GhashPowers', WHERE WHAT IT READS IS OF BULK AT MOST 1048576: true; the input reads as it did. -/
def ghashPowersUptoRow : OpenClaim := { program := "ytlnldflnanllmaa", sum := "45d650fd8a6e36a5ec35d640b1c3dcd8d07819e23f0b115670ddff27fc73a6c2", func := "palfrey/palfreylaw06.GhashPowers", spec := "ghashPowers", unfollowed := true, recurses := true, apart := false, narrowed := true }
def GhashPowersUptoSaid : Prop := ghashPowersUptoRow.holds Try.pinned (OpenSpec.upto ghashPowersSpec)

/-- 'palfreylaw06.GhashParts', WHERE WHAT IT READS IS OF BULK AT MOST 1048576: true; the input reads as it did. -/
def ghashPartsUptoRow : OpenClaim := { program := "ytlnldflnanllmaa", sum := "45d650fd8a6e36a5ec35d640b1c3dcd8d07819e23f0b115670ddff27fc73a6c2", func := "palfrey/palfreylaw06.GhashParts", spec := "ghashParts", unfollowed := true, recurses := true, apart := false, narrowed := true }
def GhashPartsUptoSaid : Prop := ghashPartsUptoRow.holds Try.pinned (OpenSpec.upto ghashPartsSpec)

/-- 'palfreylaw06.GhashPads', WHERE WHAT IT READS IS OF BULK AT MOST 1048576: true; the input reads as it did. -/
def ghashPadsUptoRow : OpenClaim := { program := "ytlnldflnanllmaa", sum := "45d650fd8a6e36a5ec35d640b1c3dcd8d07819e23f0b115670ddff27fc73a6c2", func := "palfrey/palfreylaw06.GhashPads", spec := "ghashPads", unfollowed := true, recurses := true, apart := false, narrowed := true }
def GhashPadsUptoSaid : Prop := ghashPadsUptoRow.holds Try.pinned (OpenSpec.upto ghashPadsSpec)

/-- 'palfreylaw06.GhashSums', WHERE WHAT IT READS IS OF BULK AT MOST 1048576: true; the input reads as it did. -/
def ghashSumsUptoRow : OpenClaim := { program := "ytlnldflnanllmaa", sum := "45d650fd8a6e36a5ec35d640b1c3dcd8d07819e23f0b115670ddff27fc73a6c2", func := "palfrey/palfreylaw06.GhashSums", spec := "ghashSums", unfollowed := true, recurses := true, apart := false, narrowed := true }
def GhashSumsUptoSaid : Prop := ghashSumsUptoRow.holds Try.pinned (OpenSpec.upto ghashSumsSpec)

end Rows
end Go.Proofs.Ytlnldflnanllmaa
