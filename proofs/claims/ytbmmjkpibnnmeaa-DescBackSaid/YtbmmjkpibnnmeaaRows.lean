/-
  No cell of these rows narrows 'for every input' (looked for: loops, veiled, ifaces, maps, wideKeys, modest, calm, conditions, laid).
  DERIVED. THE GIVEN ROWS OF THIS SEAT. 9 by the template 'for every input the law returns true; each argument reads behind the call as it read before'; 0 by the template 'total and deterministic' (their statements: YtbmmjkpibnnmeaaTotals.lean).
  GIVEN WITH THE SEED: the statements are not yours to turn. If you find one false, say at which input.
  Laid BY PROGRAM, IN A SANDBOX (cutbox-rows.mjs): the forced cells as the released guide's own fill.sh prints them over the translation 59e08b7f6c0c281d… (all of the seat's roots in one cut). By AI agents, Wed Nov 11 2026. No macro, syntax, notation, axiom, sorry.
-/
import Derived.Test.YtbmmjkpibnnmeaaChecked
import GoSem.Claim
import GoSem.ClaimJoined
import GoSem.ClaimMapViews
import Derived.JoinedTies
import Derived.KernelRfl
namespace Go.Proofs.Ytbmmjkpibnnmeaa
/- THE CELL 'sum', in the pinned program and in every row, IS THE sha256 OF THE DUMP (.gsa) THAT YtbmmjkpibnnmeaaProg.lean LOADS. Nothing in Lean hashes anything: it is a label: what it is worth is what the hold of that sum in a sandbox is worth. -/
noncomputable def Try.pinned : Pinned := { name := "ytbmmjkpibnnmeaa", sum := "59e08b7f6c0c281dc62eed3fbc6d48d56807223a36f1ad5b5eae50beb309eeb2", checked := Try.checked }
namespace Rows
def none {H : Type} : Left H := { results := [], args := [] }

/-- 'palfreylaw15.DescCuts': WHATEVER THE INPUT: true; the input reads as it did. -/
def descCutsSpec : ChangeSpec := { name := "descCuts", fn := fun _ => fun
  | [d1, d2] => { results := [.lit (.bool true)], args := [d1, d2] }
  | _ => none }
def descCutsRow : OpenClaim := { program := "ytbmmjkpibnnmeaa", sum := "59e08b7f6c0c281dc62eed3fbc6d48d56807223a36f1ad5b5eae50beb309eeb2", func := "palfrey/palfreylaw15.DescCuts", spec := "descCuts", apart := false }
def DescCutsSaid : Prop := descCutsRow.holds Try.pinned (OpenSpec.ofChange descCutsSpec)

/-- ITS FALSE NEIGHBOUR: 'it returns false'. Refute it at one input. -/
def descCutsWrong : ChangeSpec := { name := "descCuts", fn := fun _ => fun
  | [d1, d2] => { results := [.lit (.bool false)], args := [d1, d2] }
  | _ => none }
def DescCutsWrongFalsely : Prop := descCutsRow.holds Try.pinned (OpenSpec.ofChange descCutsWrong)

/-- 'palfreylaw15.DescReach': WHATEVER THE INPUT: true; the input reads as it did. -/
def descReachSpec : ChangeSpec := { name := "descReach", fn := fun _ => fun
  | [d1, d2] => { results := [.lit (.bool true)], args := [d1, d2] }
  | _ => none }
def descReachRow : OpenClaim := { program := "ytbmmjkpibnnmeaa", sum := "59e08b7f6c0c281dc62eed3fbc6d48d56807223a36f1ad5b5eae50beb309eeb2", func := "palfrey/palfreylaw15.DescReach", spec := "descReach", unfollowed := true, recurses := true, apart := false }
def DescReachSaid : Prop := descReachRow.holds Try.pinned (OpenSpec.ofChange descReachSpec)

/-- ITS FALSE NEIGHBOUR: 'it returns false'. Refute it at one input. -/
def descReachWrong : ChangeSpec := { name := "descReach", fn := fun _ => fun
  | [d1, d2] => { results := [.lit (.bool false)], args := [d1, d2] }
  | _ => none }
def DescReachWrongFalsely : Prop := descReachRow.holds Try.pinned (OpenSpec.ofChange descReachWrong)

/-- 'palfreylaw15.DescMeets': WHATEVER THE INPUT: true; the input reads as it did. -/
def descMeetsSpec : ChangeSpec := { name := "descMeets", fn := fun _ => fun
  | [d1, d2] => { results := [.lit (.bool true)], args := [d1, d2] }
  | _ => none }
def descMeetsRow : OpenClaim := { program := "ytbmmjkpibnnmeaa", sum := "59e08b7f6c0c281dc62eed3fbc6d48d56807223a36f1ad5b5eae50beb309eeb2", func := "palfrey/palfreylaw15.DescMeets", spec := "descMeets", unfollowed := true, recurses := true, apart := false }
def DescMeetsSaid : Prop := descMeetsRow.holds Try.pinned (OpenSpec.ofChange descMeetsSpec)

/-- ITS FALSE NEIGHBOUR: 'it returns false'. Refute it at one input. -/
def descMeetsWrong : ChangeSpec := { name := "descMeets", fn := fun _ => fun
  | [d1, d2] => { results := [.lit (.bool false)], args := [d1, d2] }
  | _ => none }
def DescMeetsWrongFalsely : Prop := descMeetsRow.holds Try.pinned (OpenSpec.ofChange descMeetsWrong)

/-- 'palfreylaw15.DescEmpty': WHATEVER THE INPUT: true; the input reads as it did. -/
def descEmptySpec : ChangeSpec := { name := "descEmpty", fn := fun _ => fun
  | [d1, d2] => { results := [.lit (.bool true)], args := [d1, d2] }
  | _ => none }
def descEmptyRow : OpenClaim := { program := "ytbmmjkpibnnmeaa", sum := "59e08b7f6c0c281dc62eed3fbc6d48d56807223a36f1ad5b5eae50beb309eeb2", func := "palfrey/palfreylaw15.DescEmpty", spec := "descEmpty", unfollowed := true, recurses := true, apart := false }
def DescEmptySaid : Prop := descEmptyRow.holds Try.pinned (OpenSpec.ofChange descEmptySpec)

/-- ITS FALSE NEIGHBOUR: 'it returns false'. Refute it at one input. -/
def descEmptyWrong : ChangeSpec := { name := "descEmpty", fn := fun _ => fun
  | [d1, d2] => { results := [.lit (.bool false)], args := [d1, d2] }
  | _ => none }
def DescEmptyWrongFalsely : Prop := descEmptyRow.holds Try.pinned (OpenSpec.ofChange descEmptyWrong)

/-- 'palfreylaw16.ArenaOver': WHATEVER THE INPUT: true; the input reads as it did. -/
def arenaOverSpec : ChangeSpec := { name := "arenaOver", fn := fun _ => fun
  | [d1, d2] => { results := [.lit (.bool true)], args := [d1, d2] }
  | _ => none }
def arenaOverRow : OpenClaim := { program := "ytbmmjkpibnnmeaa", sum := "59e08b7f6c0c281dc62eed3fbc6d48d56807223a36f1ad5b5eae50beb309eeb2", func := "palfrey/palfreylaw16.ArenaOver", spec := "arenaOver", unfollowed := true, recurses := true, apart := false }
def ArenaOverSaid : Prop := arenaOverRow.holds Try.pinned (OpenSpec.ofChange arenaOverSpec)

/-- ITS FALSE NEIGHBOUR: 'it returns false'. Refute it at one input. -/
def arenaOverWrong : ChangeSpec := { name := "arenaOver", fn := fun _ => fun
  | [d1, d2] => { results := [.lit (.bool false)], args := [d1, d2] }
  | _ => none }
def ArenaOverWrongFalsely : Prop := arenaOverRow.holds Try.pinned (OpenSpec.ofChange arenaOverWrong)

/-- 'palfreylaw16.ArenaRows': WHATEVER THE INPUT: true; the input reads as it did. -/
def arenaRowsSpec : ChangeSpec := { name := "arenaRows", fn := fun _ => fun
  | [d1, d2, d3] => { results := [.lit (.bool true)], args := [d1, d2, d3] }
  | _ => none }
def arenaRowsRow : OpenClaim := { program := "ytbmmjkpibnnmeaa", sum := "59e08b7f6c0c281dc62eed3fbc6d48d56807223a36f1ad5b5eae50beb309eeb2", func := "palfrey/palfreylaw16.ArenaRows", spec := "arenaRows", unfollowed := true, recurses := true, apart := false }
def ArenaRowsSaid : Prop := arenaRowsRow.holds Try.pinned (OpenSpec.ofChange arenaRowsSpec)

/-- ITS FALSE NEIGHBOUR: 'it returns false'. Refute it at one input. -/
def arenaRowsWrong : ChangeSpec := { name := "arenaRows", fn := fun _ => fun
  | [d1, d2, d3] => { results := [.lit (.bool false)], args := [d1, d2, d3] }
  | _ => none }
def ArenaRowsWrongFalsely : Prop := arenaRowsRow.holds Try.pinned (OpenSpec.ofChange arenaRowsWrong)

/-- 'palfreylaw16.ArenaApart': WHATEVER THE INPUT: true; the input reads as it did. -/
def arenaApartSpec : ChangeSpec := { name := "arenaApart", fn := fun _ => fun
  | [d1, d2, d3] => { results := [.lit (.bool true)], args := [d1, d2, d3] }
  | _ => none }
def arenaApartRow : OpenClaim := { program := "ytbmmjkpibnnmeaa", sum := "59e08b7f6c0c281dc62eed3fbc6d48d56807223a36f1ad5b5eae50beb309eeb2", func := "palfrey/palfreylaw16.ArenaApart", spec := "arenaApart", unfollowed := true, recurses := true, apart := false }
def ArenaApartSaid : Prop := arenaApartRow.holds Try.pinned (OpenSpec.ofChange arenaApartSpec)

/-- ITS FALSE NEIGHBOUR: 'it returns false'. Refute it at one input. -/
def arenaApartWrong : ChangeSpec := { name := "arenaApart", fn := fun _ => fun
  | [d1, d2, d3] => { results := [.lit (.bool false)], args := [d1, d2, d3] }
  | _ => none }
def ArenaApartWrongFalsely : Prop := arenaApartRow.holds Try.pinned (OpenSpec.ofChange arenaApartWrong)

/-- 'palfreylaw15.DescDecodes': WHATEVER THE INPUT: true; the input reads as it did. -/
def descDecodesSpec : ChangeSpec := { name := "descDecodes", fn := fun _ => fun
  | [d1, d2] => { results := [.lit (.bool true)], args := [d1, d2] }
  | _ => none }
def descDecodesRow : OpenClaim := { program := "ytbmmjkpibnnmeaa", sum := "59e08b7f6c0c281dc62eed3fbc6d48d56807223a36f1ad5b5eae50beb309eeb2", func := "palfrey/palfreylaw15.DescDecodes", spec := "descDecodes", unfollowed := true, recurses := true, apart := false }
def DescDecodesSaid : Prop := descDecodesRow.holds Try.pinned (OpenSpec.ofChange descDecodesSpec)

/-- ITS FALSE NEIGHBOUR: 'it returns false'. Refute it at one input. -/
def descDecodesWrong : ChangeSpec := { name := "descDecodes", fn := fun _ => fun
  | [d1, d2] => { results := [.lit (.bool false)], args := [d1, d2] }
  | _ => none }
def DescDecodesWrongFalsely : Prop := descDecodesRow.holds Try.pinned (OpenSpec.ofChange descDecodesWrong)

/-- 'palfreylaw15.DescBack': WHATEVER THE INPUT: true; the input reads as it did. -/
def descBackSpec : ChangeSpec := { name := "descBack", fn := fun _ => fun
  | [d1, d2] => { results := [.lit (.bool true)], args := [d1, d2] }
  | _ => none }
def descBackRow : OpenClaim := { program := "ytbmmjkpibnnmeaa", sum := "59e08b7f6c0c281dc62eed3fbc6d48d56807223a36f1ad5b5eae50beb309eeb2", func := "palfrey/palfreylaw15.DescBack", spec := "descBack", unfollowed := true, recurses := true, apart := false }
def DescBackSaid : Prop := descBackRow.holds Try.pinned (OpenSpec.ofChange descBackSpec)

/-- ITS FALSE NEIGHBOUR: 'it returns false'. Refute it at one input. -/
def descBackWrong : ChangeSpec := { name := "descBack", fn := fun _ => fun
  | [d1, d2] => { results := [.lit (.bool false)], args := [d1, d2] }
  | _ => none }
def DescBackWrongFalsely : Prop := descBackRow.holds Try.pinned (OpenSpec.ofChange descBackWrong)

/- THE SECOND FORM. 'bulk': how many values and letters a reading holds, each counted each time it is reached (what is shared counts as often as it is met; a slice's spare places count too). A statement '..UptoSaid' is the law's where the arguments, and the package variables that the reading takes, are together of bulk at most 1048576: NARROWER than '..Said'. Prove '..Said' where nothing that the law and all that it calls make is longer than what came in: it says more and counts as full. Else prove '..UptoSaid'. A law counts once. -/
mutual
def uptoBulk {H : Type} : DataW H → Nat
  | .lit (.string bytes) => bytes.length + 1
  | .lit _ => 1
  | .nil => 1
  | .ptr d => uptoBulk d + 1
  | .slice elems spare => uptoBulkAll elems + uptoBulkAll spare + 1
  | .agg parts => uptoBulkAll parts + 1
  | .iface _ d => uptoBulk d + 1
  | .map entries => uptoBulkEntries entries + 1
  | .held _ => 1
def uptoBulkAll {H : Type} : List (DataW H) → Nat
  | [] => 0
  | d :: r => uptoBulk d + uptoBulkAll r
def uptoBulkEntries {H : Type} : List (Lit × DataW H) → Nat
  | [] => 0
  | x :: r => uptoBulkEntry x + uptoBulkEntries r
def uptoBulkEntry {H : Type} : Lit × DataW H → Nat
  | (.string bytes, d) => bytes.length + uptoBulk d + 1
  | (_, d) => uptoBulk d + 1
 end
def uptoSmall : (H : Type) → List (DataW H) → Bool := fun _ ds => decide (uptoBulkAll ds ≤ 1048576)
def OpenSpec.upto (s : _root_.Go.ChangeSpec) : _root_.Go.OpenSpec := { _root_.Go.OpenSpec.ofChange s with cond := some uptoSmall }

/-- 'palfreylaw15.DescCuts', WHERE WHAT IT READS IS OF BULK AT MOST 1048576: true; the input reads as it did. -/
def descCutsUptoRow : OpenClaim := { program := "ytbmmjkpibnnmeaa", sum := "59e08b7f6c0c281dc62eed3fbc6d48d56807223a36f1ad5b5eae50beb309eeb2", func := "palfrey/palfreylaw15.DescCuts", spec := "descCuts", apart := false, narrowed := true }
def DescCutsUptoSaid : Prop := descCutsUptoRow.holds Try.pinned (OpenSpec.upto descCutsSpec)

/-- 'palfreylaw15.DescReach', WHERE WHAT IT READS IS OF BULK AT MOST 1048576: true; the input reads as it did. -/
def descReachUptoRow : OpenClaim := { program := "ytbmmjkpibnnmeaa", sum := "59e08b7f6c0c281dc62eed3fbc6d48d56807223a36f1ad5b5eae50beb309eeb2", func := "palfrey/palfreylaw15.DescReach", spec := "descReach", unfollowed := true, recurses := true, apart := false, narrowed := true }
def DescReachUptoSaid : Prop := descReachUptoRow.holds Try.pinned (OpenSpec.upto descReachSpec)

/-- 'palfreylaw15.DescMeets', WHERE WHAT IT READS IS OF BULK AT MOST 1048576: true; the input reads as it did. -/
def descMeetsUptoRow : OpenClaim := { program := "ytbmmjkpibnnmeaa", sum := "59e08b7f6c0c281dc62eed3fbc6d48d56807223a36f1ad5b5eae50beb309eeb2", func := "palfrey/palfreylaw15.DescMeets", spec := "descMeets", unfollowed := true, recurses := true, apart := false, narrowed := true }
def DescMeetsUptoSaid : Prop := descMeetsUptoRow.holds Try.pinned (OpenSpec.upto descMeetsSpec)

/-- 'palfreylaw15.DescEmpty', WHERE WHAT IT READS IS OF BULK AT MOST 1048576: true; the input reads as it did. -/
def descEmptyUptoRow : OpenClaim := { program := "ytbmmjkpibnnmeaa", sum := "59e08b7f6c0c281dc62eed3fbc6d48d56807223a36f1ad5b5eae50beb309eeb2", func := "palfrey/palfreylaw15.DescEmpty", spec := "descEmpty", unfollowed := true, recurses := true, apart := false, narrowed := true }
def DescEmptyUptoSaid : Prop := descEmptyUptoRow.holds Try.pinned (OpenSpec.upto descEmptySpec)

/-- 'palfreylaw16.ArenaOver', WHERE WHAT IT READS IS OF BULK AT MOST 1048576: true; the input reads as it did. -/
def arenaOverUptoRow : OpenClaim := { program := "ytbmmjkpibnnmeaa", sum := "59e08b7f6c0c281dc62eed3fbc6d48d56807223a36f1ad5b5eae50beb309eeb2", func := "palfrey/palfreylaw16.ArenaOver", spec := "arenaOver", unfollowed := true, recurses := true, apart := false, narrowed := true }
def ArenaOverUptoSaid : Prop := arenaOverUptoRow.holds Try.pinned (OpenSpec.upto arenaOverSpec)

/-- 'palfreylaw16.ArenaRows', WHERE WHAT IT READS IS OF BULK AT MOST 1048576: true; the input reads as it did. -/
def arenaRowsUptoRow : OpenClaim := { program := "ytbmmjkpibnnmeaa", sum := "59e08b7f6c0c281dc62eed3fbc6d48d56807223a36f1ad5b5eae50beb309eeb2", func := "palfrey/palfreylaw16.ArenaRows", spec := "arenaRows", unfollowed := true, recurses := true, apart := false, narrowed := true }
def ArenaRowsUptoSaid : Prop := arenaRowsUptoRow.holds Try.pinned (OpenSpec.upto arenaRowsSpec)

/-- 'palfreylaw16.ArenaApart', WHERE WHAT IT READS IS OF BULK AT MOST 1048576: true; the input reads as it did. -/
def arenaApartUptoRow : OpenClaim := { program := "ytbmmjkpibnnmeaa", sum := "59e08b7f6c0c281dc62eed3fbc6d48d56807223a36f1ad5b5eae50beb309eeb2", func := "palfrey/palfreylaw16.ArenaApart", spec := "arenaApart", unfollowed := true, recurses := true, apart := false, narrowed := true }
def ArenaApartUptoSaid : Prop := arenaApartUptoRow.holds Try.pinned (OpenSpec.upto arenaApartSpec)

/-- 'palfreylaw15.DescDecodes', WHERE WHAT IT READS IS OF BULK AT MOST 1048576: true; the input reads as it did. -/
def descDecodesUptoRow : OpenClaim := { program := "ytbmmjkpibnnmeaa", sum := "59e08b7f6c0c281dc62eed3fbc6d48d56807223a36f1ad5b5eae50beb309eeb2", func := "palfrey/palfreylaw15.DescDecodes", spec := "descDecodes", unfollowed := true, recurses := true, apart := false, narrowed := true }
def DescDecodesUptoSaid : Prop := descDecodesUptoRow.holds Try.pinned (OpenSpec.upto descDecodesSpec)

/-- 'palfreylaw15.DescBack', WHERE WHAT IT READS IS OF BULK AT MOST 1048576: true; the input reads as it did. -/
def descBackUptoRow : OpenClaim := { program := "ytbmmjkpibnnmeaa", sum := "59e08b7f6c0c281dc62eed3fbc6d48d56807223a36f1ad5b5eae50beb309eeb2", func := "palfrey/palfreylaw15.DescBack", spec := "descBack", unfollowed := true, recurses := true, apart := false, narrowed := true }
def DescBackUptoSaid : Prop := descBackUptoRow.holds Try.pinned (OpenSpec.upto descBackSpec)

end Rows
end Go.Proofs.Ytbmmjkpibnnmeaa
