/-
  NARROWER THAN 'FOR EVERY INPUT', by the rows' own cells (each row's printed sentence says how): LanesSums: laid · LanesSteps: laid · LanesOrders: laid · LanesOnce: laid · LanesMates: laid · LanesFour: laid.
  DERIVED. THE GIVEN ROWS OF THIS SEAT. 6 by the template 'for every input the law returns true; each argument reads behind the call as it read before'; 0 by the template 'total and deterministic' (their statements: YtnlffaglmcddkaaDoorTotals.lean).
  GIVEN WITH THE SEED: the statements are not yours to turn. If you find one false, say at which input.
  Laid BY PROGRAM, IN A SANDBOX (cutbox-rows.mjs): the forced cells as the released guide's own fill.sh prints them over the translation f31dfa3fc54e384a… (all of the seat's roots in one cut). By AI agents, Wed Nov 11 2026. No macro, syntax, notation, axiom, sorry.
-/
import Derived.Test.YtnlffaglmcddkaaDoorChecked
import GoSem.Claim
import GoSem.ClaimJoined
import GoSem.ClaimMapViews
import Derived.JoinedTies
import Derived.KernelRfl
namespace Go.Proofs.YtnlffaglmcddkaaDoor
/- THE CELL 'sum', in the pinned program and in every row, IS THE sha256 OF THE DUMP (.gsa) THAT YtnlffaglmcddkaaDoorProg.lean LOADS. Nothing in Lean hashes anything: it is a label: what it is worth is what the hold of that sum in a sandbox is worth. -/
noncomputable def Tryd.pinned : Pinned := { name := "ytnlffaglmcddkaadoor", sum := "f31dfa3fc54e384a9a4fe528b2dd11bac7f6f56ceefb8786ed696e560eb584b8", checked := Tryd.checked }
namespace Rows
def none {H : Type} : Left H := { results := [], args := [] }

/- WHAT THE LISTED PACKAGE-LEVEL VARIABLES READ AS WHEN THE CALL BEGINS. Each datum BY PROGRAM (the guide's laid-datum.mjs) off the statement by which the dump's own 'gosem.cut.vars' lays the variable. In a bare row this is a premise. The card (YtnlffaglmcddkaaDoorCards.lean) ties it to the program's text. -/
def laid_palfrey_sha_rounds {H : Type} : DataW H := .agg [.lit (.int .u32 1116352408), .lit (.int .u32 1899447441), .lit (.int .u32 3049323471), .lit (.int .u32 3921009573), .lit (.int .u32 961987163), .lit (.int .u32 1508970993), .lit (.int .u32 2453635748), .lit (.int .u32 2870763221), .lit (.int .u32 3624381080), .lit (.int .u32 310598401), .lit (.int .u32 607225278), .lit (.int .u32 1426881987), .lit (.int .u32 1925078388), .lit (.int .u32 2162078206), .lit (.int .u32 2614888103), .lit (.int .u32 3248222580), .lit (.int .u32 3835390401), .lit (.int .u32 4022224774), .lit (.int .u32 264347078), .lit (.int .u32 604807628), .lit (.int .u32 770255983), .lit (.int .u32 1249150122), .lit (.int .u32 1555081692), .lit (.int .u32 1996064986), .lit (.int .u32 2554220882), .lit (.int .u32 2821834349), .lit (.int .u32 2952996808), .lit (.int .u32 3210313671), .lit (.int .u32 3336571891), .lit (.int .u32 3584528711), .lit (.int .u32 113926993), .lit (.int .u32 338241895), .lit (.int .u32 666307205), .lit (.int .u32 773529912), .lit (.int .u32 1294757372), .lit (.int .u32 1396182291), .lit (.int .u32 1695183700), .lit (.int .u32 1986661051), .lit (.int .u32 2177026350), .lit (.int .u32 2456956037), .lit (.int .u32 2730485921), .lit (.int .u32 2820302411), .lit (.int .u32 3259730800), .lit (.int .u32 3345764771), .lit (.int .u32 3516065817), .lit (.int .u32 3600352804), .lit (.int .u32 4094571909), .lit (.int .u32 275423344), .lit (.int .u32 430227734), .lit (.int .u32 506948616), .lit (.int .u32 659060556), .lit (.int .u32 883997877), .lit (.int .u32 958139571), .lit (.int .u32 1322822218), .lit (.int .u32 1537002063), .lit (.int .u32 1747873779), .lit (.int .u32 1955562222), .lit (.int .u32 2024104815), .lit (.int .u32 2227730452), .lit (.int .u32 2361852424), .lit (.int .u32 2428436474), .lit (.int .u32 2756734187), .lit (.int .u32 3204031479), .lit (.int .u32 3329325298)]

/-- 'palfreylaw13.LanesSums': WHATEVER THE INPUT: true; the input reads as it did. -/
def lanesSumsSpec : ChangeSpec := { name := "lanesSums", fn := fun _ => fun
  | [d] => { results := [.lit (.bool true)], args := [d] }
  | _ => none }
def lanesSumsRow : OpenClaim := { program := "ytnlffaglmcddkaadoor", sum := "f31dfa3fc54e384a9a4fe528b2dd11bac7f6f56ceefb8786ed696e560eb584b8", func := "palfrey/palfreylaw13.LanesSums", spec := "lanesSums", unfollowed := true, recurses := true, named := ["palfrey/sha.rounds"], apart := false, laid := [("palfrey/sha.rounds", laid_palfrey_sha_rounds)] }
def LanesSumsSaid : Prop := lanesSumsRow.holds Tryd.pinned (OpenSpec.ofChange lanesSumsSpec)

/-- ITS FALSE NEIGHBOUR: 'it returns false'. Refute it at one input. -/
def lanesSumsWrong : ChangeSpec := { name := "lanesSums", fn := fun _ => fun
  | [d] => { results := [.lit (.bool false)], args := [d] }
  | _ => none }
def LanesSumsWrongFalsely : Prop := lanesSumsRow.holds Tryd.pinned (OpenSpec.ofChange lanesSumsWrong)

/-- 'palfreylaw13.LanesSteps': WHATEVER THE INPUT: true; the input reads as it did. -/
def lanesStepsSpec : ChangeSpec := { name := "lanesSteps", fn := fun _ => fun
  | [d] => { results := [.lit (.bool true)], args := [d] }
  | _ => none }
def lanesStepsRow : OpenClaim := { program := "ytnlffaglmcddkaadoor", sum := "f31dfa3fc54e384a9a4fe528b2dd11bac7f6f56ceefb8786ed696e560eb584b8", func := "palfrey/palfreylaw13.LanesSteps", spec := "lanesSteps", unfollowed := true, recurses := true, named := ["palfrey/sha.rounds"], apart := false, laid := [("palfrey/sha.rounds", laid_palfrey_sha_rounds)] }
def LanesStepsSaid : Prop := lanesStepsRow.holds Tryd.pinned (OpenSpec.ofChange lanesStepsSpec)

/-- ITS FALSE NEIGHBOUR: 'it returns false'. Refute it at one input. -/
def lanesStepsWrong : ChangeSpec := { name := "lanesSteps", fn := fun _ => fun
  | [d] => { results := [.lit (.bool false)], args := [d] }
  | _ => none }
def LanesStepsWrongFalsely : Prop := lanesStepsRow.holds Tryd.pinned (OpenSpec.ofChange lanesStepsWrong)

/-- 'palfreylaw13.LanesOrders': WHATEVER THE INPUT: true; the input reads as it did. -/
def lanesOrdersSpec : ChangeSpec := { name := "lanesOrders", fn := fun _ => fun
  | [d] => { results := [.lit (.bool true)], args := [d] }
  | _ => none }
def lanesOrdersRow : OpenClaim := { program := "ytnlffaglmcddkaadoor", sum := "f31dfa3fc54e384a9a4fe528b2dd11bac7f6f56ceefb8786ed696e560eb584b8", func := "palfrey/palfreylaw13.LanesOrders", spec := "lanesOrders", unfollowed := true, recurses := true, named := ["palfrey/sha.rounds"], apart := false, laid := [("palfrey/sha.rounds", laid_palfrey_sha_rounds)] }
def LanesOrdersSaid : Prop := lanesOrdersRow.holds Tryd.pinned (OpenSpec.ofChange lanesOrdersSpec)

/-- ITS FALSE NEIGHBOUR: 'it returns false'. Refute it at one input. -/
def lanesOrdersWrong : ChangeSpec := { name := "lanesOrders", fn := fun _ => fun
  | [d] => { results := [.lit (.bool false)], args := [d] }
  | _ => none }
def LanesOrdersWrongFalsely : Prop := lanesOrdersRow.holds Tryd.pinned (OpenSpec.ofChange lanesOrdersWrong)

/-- 'palfreylaw13.LanesOnce': WHATEVER THE INPUT: true; the input reads as it did. -/
def lanesOnceSpec : ChangeSpec := { name := "lanesOnce", fn := fun _ => fun
  | [d1, d2, d3] => { results := [.lit (.bool true)], args := [d1, d2, d3] }
  | _ => none }
def lanesOnceRow : OpenClaim := { program := "ytnlffaglmcddkaadoor", sum := "f31dfa3fc54e384a9a4fe528b2dd11bac7f6f56ceefb8786ed696e560eb584b8", func := "palfrey/palfreylaw13.LanesOnce", spec := "lanesOnce", unfollowed := true, recurses := true, named := ["palfrey/sha.rounds"], apart := false, laid := [("palfrey/sha.rounds", laid_palfrey_sha_rounds)] }
def LanesOnceSaid : Prop := lanesOnceRow.holds Tryd.pinned (OpenSpec.ofChange lanesOnceSpec)

/-- ITS FALSE NEIGHBOUR: 'it returns false'. Refute it at one input. -/
def lanesOnceWrong : ChangeSpec := { name := "lanesOnce", fn := fun _ => fun
  | [d1, d2, d3] => { results := [.lit (.bool false)], args := [d1, d2, d3] }
  | _ => none }
def LanesOnceWrongFalsely : Prop := lanesOnceRow.holds Tryd.pinned (OpenSpec.ofChange lanesOnceWrong)

/-- 'palfreylaw13.LanesMates': WHATEVER THE INPUT: true; the input reads as it did. -/
def lanesMatesSpec : ChangeSpec := { name := "lanesMates", fn := fun _ => fun
  | [d1, d2, d3] => { results := [.lit (.bool true)], args := [d1, d2, d3] }
  | _ => none }
def lanesMatesRow : OpenClaim := { program := "ytnlffaglmcddkaadoor", sum := "f31dfa3fc54e384a9a4fe528b2dd11bac7f6f56ceefb8786ed696e560eb584b8", func := "palfrey/palfreylaw13.LanesMates", spec := "lanesMates", unfollowed := true, recurses := true, named := ["palfrey/sha.rounds"], apart := false, laid := [("palfrey/sha.rounds", laid_palfrey_sha_rounds)] }
def LanesMatesSaid : Prop := lanesMatesRow.holds Tryd.pinned (OpenSpec.ofChange lanesMatesSpec)

/-- ITS FALSE NEIGHBOUR: 'it returns false'. Refute it at one input. -/
def lanesMatesWrong : ChangeSpec := { name := "lanesMates", fn := fun _ => fun
  | [d1, d2, d3] => { results := [.lit (.bool false)], args := [d1, d2, d3] }
  | _ => none }
def LanesMatesWrongFalsely : Prop := lanesMatesRow.holds Tryd.pinned (OpenSpec.ofChange lanesMatesWrong)

/-- 'palfreylaw13.LanesFour': WHATEVER THE INPUT: true; the input reads as it did. -/
def lanesFourSpec : ChangeSpec := { name := "lanesFour", fn := fun _ => fun
  | [d1, d2] => { results := [.lit (.bool true)], args := [d1, d2] }
  | _ => none }
def lanesFourRow : OpenClaim := { program := "ytnlffaglmcddkaadoor", sum := "f31dfa3fc54e384a9a4fe528b2dd11bac7f6f56ceefb8786ed696e560eb584b8", func := "palfrey/palfreylaw13.LanesFour", spec := "lanesFour", unfollowed := true, recurses := true, named := ["palfrey/sha.rounds"], apart := false, laid := [("palfrey/sha.rounds", laid_palfrey_sha_rounds)] }
def LanesFourSaid : Prop := lanesFourRow.holds Tryd.pinned (OpenSpec.ofChange lanesFourSpec)

/-- ITS FALSE NEIGHBOUR: 'it returns false'. Refute it at one input. -/
def lanesFourWrong : ChangeSpec := { name := "lanesFour", fn := fun _ => fun
  | [d1, d2] => { results := [.lit (.bool false)], args := [d1, d2] }
  | _ => none }
def LanesFourWrongFalsely : Prop := lanesFourRow.holds Tryd.pinned (OpenSpec.ofChange lanesFourWrong)

/- THE SECOND FORM. 'bulk': how many values and letters a reading holds, each counted each time it is reached (what is shared counts as often as it is met; a slice's spare places count too). A statement '..UptoSaid' is the law's where the arguments, and the package variables that the reading takes, are together of bulk at most 1048576: NARROWER than '..Said'. Prove '..Said' where nothing that the law and all that it calls make is longer than what came in: it says more and counts as full. Else prove '..UptoSaid'. A law counts once. -/
mutual
def uptoBulk {H : Type} : DataW H → Nat
  | .lit (.string bytes) => bytes.length + 1
  | .lit _ => 1
  | .nil => 1
  | .ptr d => uptoBulk d + 1
  | .slice elems spare => uptoBulkAll elems + uptoBulkAll spare + 1
  | .agg parts => uptoBulkAll parts + 1
  | .iface _ d => uptoBulk d + 1
  | .map entries => uptoBulkEntries entries + 1
  | .held _ => 1
def uptoBulkAll {H : Type} : List (DataW H) → Nat
  | [] => 0
  | d :: r => uptoBulk d + uptoBulkAll r
def uptoBulkEntries {H : Type} : List (Lit × DataW H) → Nat
  | [] => 0
  | x :: r => uptoBulkEntry x + uptoBulkEntries r
def uptoBulkEntry {H : Type} : Lit × DataW H → Nat
  | (.string bytes, d) => bytes.length + uptoBulk d + 1
  | (_, d) => uptoBulk d + 1
 end
def uptoSmall : (H : Type) → List (DataW H) → Bool := fun _ ds => decide (uptoBulkAll ds ≤ 1048576)
def OpenSpec.upto (s : _root_.Go.ChangeSpec) : _root_.Go.OpenSpec := { _root_.Go.OpenSpec.ofChange s with cond := some uptoSmall }

/-- 'palfreylaw13.LanesSums', WHERE WHAT IT READS IS OF BULK AT MOST 1048576: true; the input reads as it did. -/
def lanesSumsUptoRow : OpenClaim := { program := "ytnlffaglmcddkaadoor", sum := "f31dfa3fc54e384a9a4fe528b2dd11bac7f6f56ceefb8786ed696e560eb584b8", func := "palfrey/palfreylaw13.LanesSums", spec := "lanesSums", unfollowed := true, recurses := true, named := ["palfrey/sha.rounds"], apart := false, laid := [("palfrey/sha.rounds", laid_palfrey_sha_rounds)], narrowed := true }
def LanesSumsUptoSaid : Prop := lanesSumsUptoRow.holds Tryd.pinned (OpenSpec.upto lanesSumsSpec)

/-- 'palfreylaw13.LanesSteps', WHERE WHAT IT READS IS OF BULK AT MOST 1048576: true; the input reads as it did. -/
def lanesStepsUptoRow : OpenClaim := { program := "ytnlffaglmcddkaadoor", sum := "f31dfa3fc54e384a9a4fe528b2dd11bac7f6f56ceefb8786ed696e560eb584b8", func := "palfrey/palfreylaw13.LanesSteps", spec := "lanesSteps", unfollowed := true, recurses := true, named := ["palfrey/sha.rounds"], apart := false, laid := [("palfrey/sha.rounds", laid_palfrey_sha_rounds)], narrowed := true }
def LanesStepsUptoSaid : Prop := lanesStepsUptoRow.holds Tryd.pinned (OpenSpec.upto lanesStepsSpec)

/-- 'palfreylaw13.LanesOrders', WHERE WHAT IT READS IS OF BULK AT MOST 1048576: true; the input reads as it did. -/
def lanesOrdersUptoRow : OpenClaim := { program := "ytnlffaglmcddkaadoor", sum := "f31dfa3fc54e384a9a4fe528b2dd11bac7f6f56ceefb8786ed696e560eb584b8", func := "palfrey/palfreylaw13.LanesOrders", spec := "lanesOrders", unfollowed := true, recurses := true, named := ["palfrey/sha.rounds"], apart := false, laid := [("palfrey/sha.rounds", laid_palfrey_sha_rounds)], narrowed := true }
def LanesOrdersUptoSaid : Prop := lanesOrdersUptoRow.holds Tryd.pinned (OpenSpec.upto lanesOrdersSpec)

/-- 'palfreylaw13.LanesOnce', WHERE WHAT IT READS IS OF BULK AT MOST 1048576: true; the input reads as it did. -/
def lanesOnceUptoRow : OpenClaim := { program := "ytnlffaglmcddkaadoor", sum := "f31dfa3fc54e384a9a4fe528b2dd11bac7f6f56ceefb8786ed696e560eb584b8", func := "palfrey/palfreylaw13.LanesOnce", spec := "lanesOnce", unfollowed := true, recurses := true, named := ["palfrey/sha.rounds"], apart := false, laid := [("palfrey/sha.rounds", laid_palfrey_sha_rounds)], narrowed := true }
def LanesOnceUptoSaid : Prop := lanesOnceUptoRow.holds Tryd.pinned (OpenSpec.upto lanesOnceSpec)

/-- 'palfreylaw13.LanesMates', WHERE WHAT IT READS IS OF BULK AT MOST 1048576: true; the input reads as it did. -/
def lanesMatesUptoRow : OpenClaim := { program := "ytnlffaglmcddkaadoor", sum := "f31dfa3fc54e384a9a4fe528b2dd11bac7f6f56ceefb8786ed696e560eb584b8", func := "palfrey/palfreylaw13.LanesMates", spec := "lanesMates", unfollowed := true, recurses := true, named := ["palfrey/sha.rounds"], apart := false, laid := [("palfrey/sha.rounds", laid_palfrey_sha_rounds)], narrowed := true }
def LanesMatesUptoSaid : Prop := lanesMatesUptoRow.holds Tryd.pinned (OpenSpec.upto lanesMatesSpec)

/-- 'palfreylaw13.LanesFour', WHERE WHAT IT READS IS OF BULK AT MOST 1048576: true; the input reads as it did. -/
def lanesFourUptoRow : OpenClaim := { program := "ytnlffaglmcddkaadoor", sum := "f31dfa3fc54e384a9a4fe528b2dd11bac7f6f56ceefb8786ed696e560eb584b8", func := "palfrey/palfreylaw13.LanesFour", spec := "lanesFour", unfollowed := true, recurses := true, named := ["palfrey/sha.rounds"], apart := false, laid := [("palfrey/sha.rounds", laid_palfrey_sha_rounds)], narrowed := true }
def LanesFourUptoSaid : Prop := lanesFourUptoRow.holds Tryd.pinned (OpenSpec.upto lanesFourSpec)

end Rows
end Go.Proofs.YtnlffaglmcddkaaDoor
