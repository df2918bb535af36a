/-
  No cell of these rows narrows 'for every input' (looked for: loops, veiled, ifaces, maps, wideKeys, modest, calm, conditions, laid).
  DERIVED. THE GIVEN ROWS OF THIS SEAT. 6 by the template 'for every input the law returns true; each argument reads behind the call as it read before'; 0 by the template 'total and deterministic' (their statements: YtaanncgkekmgoaaTotals.lean).
  GIVEN WITH THE SEED: the statements are not yours to turn. If you find one false, say at which input.
  Laid BY PROGRAM, IN A SANDBOX (cutbox-rows.mjs): the forced cells as the released guide's own fill.sh prints them over the translation cd7b584a5a468399… (all of the seat's roots in one cut). By AI agents, Wed Nov 11 2026. No macro, syntax, notation, axiom, sorry.
-/
import Derived.Test.YtaanncgkekmgoaaChecked
import GoSem.Claim
import GoSem.ClaimJoined
import GoSem.ClaimMapViews
import Derived.JoinedTies
import Derived.KernelRfl
namespace Go.Proofs.Ytaanncgkekmgoaa
/- THE CELL 'sum', in the pinned program and in every row, IS THE sha256 OF THE DUMP (.gsa) THAT YtaanncgkekmgoaaProg.lean LOADS. Nothing in Lean hashes anything: it is a label: what it is worth is what the hold of that sum in a sandbox is worth. -/
noncomputable def Try.pinned : Pinned := { name := "ytaanncgkekmgoaa", sum := "cd7b584a5a468399688504937965d9c367cf7410093626a0d183a850157173cf", checked := Try.checked }
namespace Rows
def none {H : Type} : Left H := { results := [], args := [] }

/-- 'palfreylaw04.ChachaBlocks': WHATEVER THE INPUT: true; the input reads as it did. -/
def chachaBlocksSpec : ChangeSpec := { name := "chachaBlocks", fn := fun _ => fun
  | [d1, d2] => { results := [.lit (.bool true)], args := [d1, d2] }
  | _ => none }
def chachaBlocksRow : OpenClaim := { program := "ytaanncgkekmgoaa", sum := "cd7b584a5a468399688504937965d9c367cf7410093626a0d183a850157173cf", func := "palfrey/palfreylaw04.ChachaBlocks", spec := "chachaBlocks", unfollowed := true, recurses := true, apart := false }
def ChachaBlocksSaid : Prop := chachaBlocksRow.holds Try.pinned (OpenSpec.ofChange chachaBlocksSpec)

/-- ITS FALSE NEIGHBOUR: 'it returns false'. Refute it at one input. -/
def chachaBlocksWrong : ChangeSpec := { name := "chachaBlocks", fn := fun _ => fun
  | [d1, d2] => { results := [.lit (.bool false)], args := [d1, d2] }
  | _ => none }
def ChachaBlocksWrongFalsely : Prop := chachaBlocksRow.holds Try.pinned (OpenSpec.ofChange chachaBlocksWrong)

/-- 'palfreylaw04.ChachaRows': WHATEVER THE INPUT: true; the input reads as it did. -/
def chachaRowsSpec : ChangeSpec := { name := "chachaRows", fn := fun _ => fun
  | [d1, d2, d3] => { results := [.lit (.bool true)], args := [d1, d2, d3] }
  | _ => none }
def chachaRowsRow : OpenClaim := { program := "ytaanncgkekmgoaa", sum := "cd7b584a5a468399688504937965d9c367cf7410093626a0d183a850157173cf", func := "palfrey/palfreylaw04.ChachaRows", spec := "chachaRows", unfollowed := true, recurses := true, apart := false }
def ChachaRowsSaid : Prop := chachaRowsRow.holds Try.pinned (OpenSpec.ofChange chachaRowsSpec)

/-- ITS FALSE NEIGHBOUR: 'it returns false'. Refute it at one input. -/
def chachaRowsWrong : ChangeSpec := { name := "chachaRows", fn := fun _ => fun
  | [d1, d2, d3] => { results := [.lit (.bool false)], args := [d1, d2, d3] }
  | _ => none }
def ChachaRowsWrongFalsely : Prop := chachaRowsRow.holds Try.pinned (OpenSpec.ofChange chachaRowsWrong)

/-- 'palfreylaw04.ChachaCrypts': WHATEVER THE INPUT: true; the input reads as it did. -/
def chachaCryptsSpec : ChangeSpec := { name := "chachaCrypts", fn := fun _ => fun
  | [d1, d2, d3] => { results := [.lit (.bool true)], args := [d1, d2, d3] }
  | _ => none }
def chachaCryptsRow : OpenClaim := { program := "ytaanncgkekmgoaa", sum := "cd7b584a5a468399688504937965d9c367cf7410093626a0d183a850157173cf", func := "palfrey/palfreylaw04.ChachaCrypts", spec := "chachaCrypts", unfollowed := true, recurses := true, apart := false }
def ChachaCryptsSaid : Prop := chachaCryptsRow.holds Try.pinned (OpenSpec.ofChange chachaCryptsSpec)

/-- ITS FALSE NEIGHBOUR: 'it returns false'. Refute it at one input. -/
def chachaCryptsWrong : ChangeSpec := { name := "chachaCrypts", fn := fun _ => fun
  | [d1, d2, d3] => { results := [.lit (.bool false)], args := [d1, d2, d3] }
  | _ => none }
def ChachaCryptsWrongFalsely : Prop := chachaCryptsRow.holds Try.pinned (OpenSpec.ofChange chachaCryptsWrong)

/-- 'palfreylaw04.ChachaBack': WHATEVER THE INPUT: true; the input reads as it did. -/
def chachaBackSpec : ChangeSpec := { name := "chachaBack", fn := fun _ => fun
  | [d1, d2] => { results := [.lit (.bool true)], args := [d1, d2] }
  | _ => none }
def chachaBackRow : OpenClaim := { program := "ytaanncgkekmgoaa", sum := "cd7b584a5a468399688504937965d9c367cf7410093626a0d183a850157173cf", func := "palfrey/palfreylaw04.ChachaBack", spec := "chachaBack", unfollowed := true, recurses := true, apart := false }
def ChachaBackSaid : Prop := chachaBackRow.holds Try.pinned (OpenSpec.ofChange chachaBackSpec)

/-- ITS FALSE NEIGHBOUR: 'it returns false'. Refute it at one input. -/
def chachaBackWrong : ChangeSpec := { name := "chachaBack", fn := fun _ => fun
  | [d1, d2] => { results := [.lit (.bool false)], args := [d1, d2] }
  | _ => none }
def ChachaBackWrongFalsely : Prop := chachaBackRow.holds Try.pinned (OpenSpec.ofChange chachaBackWrong)

/-- 'palfreylaw04.ChachaCuts': WHATEVER THE INPUT: true; the input reads as it did. -/
def chachaCutsSpec : ChangeSpec := { name := "chachaCuts", fn := fun _ => fun
  | [d1, d2, d3] => { results := [.lit (.bool true)], args := [d1, d2, d3] }
  | _ => none }
def chachaCutsRow : OpenClaim := { program := "ytaanncgkekmgoaa", sum := "cd7b584a5a468399688504937965d9c367cf7410093626a0d183a850157173cf", func := "palfrey/palfreylaw04.ChachaCuts", spec := "chachaCuts", unfollowed := true, recurses := true, apart := false }
def ChachaCutsSaid : Prop := chachaCutsRow.holds Try.pinned (OpenSpec.ofChange chachaCutsSpec)

/-- ITS FALSE NEIGHBOUR: 'it returns false'. Refute it at one input. -/
def chachaCutsWrong : ChangeSpec := { name := "chachaCuts", fn := fun _ => fun
  | [d1, d2, d3] => { results := [.lit (.bool false)], args := [d1, d2, d3] }
  | _ => none }
def ChachaCutsWrongFalsely : Prop := chachaCutsRow.holds Try.pinned (OpenSpec.ofChange chachaCutsWrong)

/-- 'palfreylaw04.ChachaLocal': WHATEVER THE INPUT: true; the input reads as it did. -/
def chachaLocalSpec : ChangeSpec := { name := "chachaLocal", fn := fun _ => fun
  | [d] => { results := [.lit (.bool true)], args := [d] }
  | _ => none }
def chachaLocalRow : OpenClaim := { program := "ytaanncgkekmgoaa", sum := "cd7b584a5a468399688504937965d9c367cf7410093626a0d183a850157173cf", func := "palfrey/palfreylaw04.ChachaLocal", spec := "chachaLocal", unfollowed := true, recurses := true, apart := false }
def ChachaLocalSaid : Prop := chachaLocalRow.holds Try.pinned (OpenSpec.ofChange chachaLocalSpec)

/-- ITS FALSE NEIGHBOUR: 'it returns false'. Refute it at one input. -/
def chachaLocalWrong : ChangeSpec := { name := "chachaLocal", fn := fun _ => fun
  | [d] => { results := [.lit (.bool false)], args := [d] }
  | _ => none }
def ChachaLocalWrongFalsely : Prop := chachaLocalRow.holds Try.pinned (OpenSpec.ofChange chachaLocalWrong)

/- THE SECOND FORM. 'bulk': how many values and letters a reading holds, each counted each time it is reached (what is shared counts as often as it is met; a slice's spare places count too). A statement '..UptoSaid' is the law's where the arguments, and the package variables that the reading takes, are together of bulk at most 1048576: NARROWER than '..Said'. Prove '..Said' where nothing that the law and all that it calls make is longer than what came in: it says more and counts as full. Else prove '..UptoSaid'. A law counts once. -/
mutual
def uptoBulk {H : Type} : DataW H → Nat
  | .lit (.string bytes) => bytes.length + 1
  | .lit _ => 1
  | .nil => 1
  | .ptr d => uptoBulk d + 1
  | .slice elems spare => uptoBulkAll elems + uptoBulkAll spare + 1
  | .agg parts => uptoBulkAll parts + 1
  | .iface _ d => uptoBulk d + 1
  | .map entries => uptoBulkEntries entries + 1
  | .held _ => 1
def uptoBulkAll {H : Type} : List (DataW H) → Nat
  | [] => 0
  | d :: r => uptoBulk d + uptoBulkAll r
def uptoBulkEntries {H : Type} : List (Lit × DataW H) → Nat
  | [] => 0
  | x :: r => uptoBulkEntry x + uptoBulkEntries r
def uptoBulkEntry {H : Type} : Lit × DataW H → Nat
  | (.string bytes, d) => bytes.length + uptoBulk d + 1
  | (_, d) => uptoBulk d + 1
 end
def uptoSmall : (H : Type) → List (DataW H) → Bool := fun _ ds => decide (uptoBulkAll ds ≤ 1048576)
def OpenSpec.upto (s : _root_.Go.ChangeSpec) : _root_.Go.OpenSpec := { _root_.Go.OpenSpec.ofChange s with cond := some uptoSmall }

/-- 'palfreylaw04.ChachaBlocks', WHERE WHAT IT READS IS OF BULK AT MOST 1048576: true; the input reads as it did. -/
def chachaBlocksUptoRow : OpenClaim := { program := "ytaanncgkekmgoaa", sum := "cd7b584a5a468399688504937965d9c367cf7410093626a0d183a850157173cf", func := "palfrey/palfreylaw04.ChachaBlocks", spec := "chachaBlocks", unfollowed := true, recurses := true, apart := false, narrowed := true }
def ChachaBlocksUptoSaid : Prop := chachaBlocksUptoRow.holds Try.pinned (OpenSpec.upto chachaBlocksSpec)

/-- 'palfreylaw04.ChachaRows', WHERE WHAT IT READS IS OF BULK AT MOST 1048576: true; the input reads as it did. -/
def chachaRowsUptoRow : OpenClaim := { program := "ytaanncgkekmgoaa", sum := "cd7b584a5a468399688504937965d9c367cf7410093626a0d183a850157173cf", func := "palfrey/palfreylaw04.ChachaRows", spec := "chachaRows", unfollowed := true, recurses := true, apart := false, narrowed := true }
def ChachaRowsUptoSaid : Prop := chachaRowsUptoRow.holds Try.pinned (OpenSpec.upto chachaRowsSpec)

/-- 'palfreylaw04.ChachaCrypts', WHERE WHAT IT READS IS OF BULK AT MOST 1048576: true; the input reads as it did. -/
def chachaCryptsUptoRow : OpenClaim := { program := "ytaanncgkekmgoaa", sum := "cd7b584a5a468399688504937965d9c367cf7410093626a0d183a850157173cf", func := "palfrey/palfreylaw04.ChachaCrypts", spec := "chachaCrypts", unfollowed := true, recurses := true, apart := false, narrowed := true }
def ChachaCryptsUptoSaid : Prop := chachaCryptsUptoRow.holds Try.pinned (OpenSpec.upto chachaCryptsSpec)

/-- 'palfreylaw04.ChachaBack', WHERE WHAT IT READS IS OF BULK AT MOST 1048576: true; the input reads as it did. -/
def chachaBackUptoRow : OpenClaim := { program := "ytaanncgkekmgoaa", sum := "cd7b584a5a468399688504937965d9c367cf7410093626a0d183a850157173cf", func := "palfrey/palfreylaw04.ChachaBack", spec := "chachaBack", unfollowed := true, recurses := true, apart := false, narrowed := true }
def ChachaBackUptoSaid : Prop := chachaBackUptoRow.holds Try.pinned (OpenSpec.upto chachaBackSpec)

/-- 'palfreylaw04.ChachaCuts', WHERE WHAT IT READS IS OF BULK AT MOST 1048576: true; the input reads as it did. -/
def chachaCutsUptoRow : OpenClaim := { program := "ytaanncgkekmgoaa", sum := "cd7b584a5a468399688504937965d9c367cf7410093626a0d183a850157173cf", func := "palfrey/palfreylaw04.ChachaCuts", spec := "chachaCuts", unfollowed := true, recurses := true, apart := false, narrowed := true }
def ChachaCutsUptoSaid : Prop := chachaCutsUptoRow.holds Try.pinned (OpenSpec.upto chachaCutsSpec)

/-- 'palfreylaw04.ChachaLocal', WHERE WHAT IT READS IS OF BULK AT MOST 1048576: true; the input reads as it did. -/
def chachaLocalUptoRow : OpenClaim := { program := "ytaanncgkekmgoaa", sum := "cd7b584a5a468399688504937965d9c367cf7410093626a0d183a850157173cf", func := "palfrey/palfreylaw04.ChachaLocal", spec := "chachaLocal", unfollowed := true, recurses := true, apart := false, narrowed := true }
def ChachaLocalUptoSaid : Prop := chachaLocalUptoRow.holds Try.pinned (OpenSpec.upto chachaLocalSpec)

end Rows
end Go.Proofs.Ytaanncgkekmgoaa
