/-
  DERIVED. GIVEN WITH THE SEED: THE CARDS: each row of YtnlffaglmcddkaaDoorRows.lean that lists a variable, with what it lists TIED to the program's text (the seventh form; the later family's looks); each row that meets fmt, with fmt's text TOLD by the authors' own Lean function (tested against real Go, not proved from fmt's source: count such statements apart). THE CARD IS WHAT COUNTS. Prove the row's statement (the work); the ties are given (YtnlffaglmcddkaaDoorTie.lean); close each card by the builder's one call (the guide's Derived/Test/ToyasCard.lean, 'card_holds'). Laid BY PROGRAM, IN A SANDBOX (cutbox-door.mjs). By AI agents, Wed Nov 11 2026. No macro, syntax, notation, axiom, sorry.
-/
import Derived.Test.YtnlffaglmcddkaaDoorRows
import GoSem.ClaimSeven
namespace Go.Proofs.YtnlffaglmcddkaaDoor
namespace Rows

/-- THE TIED CARD OF 'palfreylaw13.LanesSums'. -/
def lanesSumsCard : Claim7 := { stood := { row := lanesSumsRow, standIns := [], harness := (true, "704574629472da45d229a63c83bcbc26cfc0995ecb42d40811da2e88857ecdc2"), looks := false }, kinds := [], alts := [], laidByText := true, laidKinds := [.data], laidTests := true, laidLooks := .later }
def LanesSumsCardSaid : Prop := Claim7.holds Tryd.pinned (.plain (OpenSpec.ofChange lanesSumsSpec)) lanesSumsCard

/-- THE TIED CARD OF 'palfreylaw13.LanesSteps'. -/
def lanesStepsCard : Claim7 := { stood := { row := lanesStepsRow, standIns := [], harness := (true, "704574629472da45d229a63c83bcbc26cfc0995ecb42d40811da2e88857ecdc2"), looks := false }, kinds := [], alts := [], laidByText := true, laidKinds := [.data], laidTests := true, laidLooks := .later }
def LanesStepsCardSaid : Prop := Claim7.holds Tryd.pinned (.plain (OpenSpec.ofChange lanesStepsSpec)) lanesStepsCard

/-- THE TIED CARD OF 'palfreylaw13.LanesOrders'. -/
def lanesOrdersCard : Claim7 := { stood := { row := lanesOrdersRow, standIns := [], harness := (true, "704574629472da45d229a63c83bcbc26cfc0995ecb42d40811da2e88857ecdc2"), looks := false }, kinds := [], alts := [], laidByText := true, laidKinds := [.data], laidTests := true, laidLooks := .later }
def LanesOrdersCardSaid : Prop := Claim7.holds Tryd.pinned (.plain (OpenSpec.ofChange lanesOrdersSpec)) lanesOrdersCard

/-- THE TIED CARD OF 'palfreylaw13.LanesOnce'. -/
def lanesOnceCard : Claim7 := { stood := { row := lanesOnceRow, standIns := [], harness := (true, "704574629472da45d229a63c83bcbc26cfc0995ecb42d40811da2e88857ecdc2"), looks := false }, kinds := [], alts := [], laidByText := true, laidKinds := [.data], laidTests := true, laidLooks := .later }
def LanesOnceCardSaid : Prop := Claim7.holds Tryd.pinned (.plain (OpenSpec.ofChange lanesOnceSpec)) lanesOnceCard

/-- THE TIED CARD OF 'palfreylaw13.LanesMates'. -/
def lanesMatesCard : Claim7 := { stood := { row := lanesMatesRow, standIns := [], harness := (true, "704574629472da45d229a63c83bcbc26cfc0995ecb42d40811da2e88857ecdc2"), looks := false }, kinds := [], alts := [], laidByText := true, laidKinds := [.data], laidTests := true, laidLooks := .later }
def LanesMatesCardSaid : Prop := Claim7.holds Tryd.pinned (.plain (OpenSpec.ofChange lanesMatesSpec)) lanesMatesCard

/-- THE TIED CARD OF 'palfreylaw13.LanesFour'. -/
def lanesFourCard : Claim7 := { stood := { row := lanesFourRow, standIns := [], harness := (true, "704574629472da45d229a63c83bcbc26cfc0995ecb42d40811da2e88857ecdc2"), looks := false }, kinds := [], alts := [], laidByText := true, laidKinds := [.data], laidTests := true, laidLooks := .later }
def LanesFourCardSaid : Prop := Claim7.holds Tryd.pinned (.plain (OpenSpec.ofChange lanesFourSpec)) lanesFourCard

/-- THE SECOND FORM's CARD OF 'palfreylaw13.LanesSums'. -/
def lanesSumsUptoCard : Claim7 := { stood := { row := lanesSumsUptoRow, standIns := [], harness := (true, "704574629472da45d229a63c83bcbc26cfc0995ecb42d40811da2e88857ecdc2"), looks := false }, kinds := [], alts := [], laidByText := true, laidKinds := [.data], laidTests := true, laidLooks := .later }
def LanesSumsUptoCardSaid : Prop := Claim7.holds Tryd.pinned (.plain (OpenSpec.upto lanesSumsSpec)) lanesSumsUptoCard

/-- THE SECOND FORM's CARD OF 'palfreylaw13.LanesSteps'. -/
def lanesStepsUptoCard : Claim7 := { stood := { row := lanesStepsUptoRow, standIns := [], harness := (true, "704574629472da45d229a63c83bcbc26cfc0995ecb42d40811da2e88857ecdc2"), looks := false }, kinds := [], alts := [], laidByText := true, laidKinds := [.data], laidTests := true, laidLooks := .later }
def LanesStepsUptoCardSaid : Prop := Claim7.holds Tryd.pinned (.plain (OpenSpec.upto lanesStepsSpec)) lanesStepsUptoCard

/-- THE SECOND FORM's CARD OF 'palfreylaw13.LanesOrders'. -/
def lanesOrdersUptoCard : Claim7 := { stood := { row := lanesOrdersUptoRow, standIns := [], harness := (true, "704574629472da45d229a63c83bcbc26cfc0995ecb42d40811da2e88857ecdc2"), looks := false }, kinds := [], alts := [], laidByText := true, laidKinds := [.data], laidTests := true, laidLooks := .later }
def LanesOrdersUptoCardSaid : Prop := Claim7.holds Tryd.pinned (.plain (OpenSpec.upto lanesOrdersSpec)) lanesOrdersUptoCard

/-- THE SECOND FORM's CARD OF 'palfreylaw13.LanesOnce'. -/
def lanesOnceUptoCard : Claim7 := { stood := { row := lanesOnceUptoRow, standIns := [], harness := (true, "704574629472da45d229a63c83bcbc26cfc0995ecb42d40811da2e88857ecdc2"), looks := false }, kinds := [], alts := [], laidByText := true, laidKinds := [.data], laidTests := true, laidLooks := .later }
def LanesOnceUptoCardSaid : Prop := Claim7.holds Tryd.pinned (.plain (OpenSpec.upto lanesOnceSpec)) lanesOnceUptoCard

/-- THE SECOND FORM's CARD OF 'palfreylaw13.LanesMates'. -/
def lanesMatesUptoCard : Claim7 := { stood := { row := lanesMatesUptoRow, standIns := [], harness := (true, "704574629472da45d229a63c83bcbc26cfc0995ecb42d40811da2e88857ecdc2"), looks := false }, kinds := [], alts := [], laidByText := true, laidKinds := [.data], laidTests := true, laidLooks := .later }
def LanesMatesUptoCardSaid : Prop := Claim7.holds Tryd.pinned (.plain (OpenSpec.upto lanesMatesSpec)) lanesMatesUptoCard

/-- THE SECOND FORM's CARD OF 'palfreylaw13.LanesFour'. -/
def lanesFourUptoCard : Claim7 := { stood := { row := lanesFourUptoRow, standIns := [], harness := (true, "704574629472da45d229a63c83bcbc26cfc0995ecb42d40811da2e88857ecdc2"), looks := false }, kinds := [], alts := [], laidByText := true, laidKinds := [.data], laidTests := true, laidLooks := .later }
def LanesFourUptoCardSaid : Prop := Claim7.holds Tryd.pinned (.plain (OpenSpec.upto lanesFourSpec)) lanesFourUptoCard
end Rows
end Go.Proofs.YtnlffaglmcddkaaDoor
