/-
  The table of sha as the row's condition lays it: its block, cell by cell.
-/
import Derived.Test.YtnlffaglmcddkaaDoorRows
import Derived.Test.YtnlffaglmcddkaaDoorSha2
import Derived.Lib.LaidTab
import Derived.LaidMore
import Derived.ProofKit
import Derived.OpenShut
import Derived.Stop.Joined
namespace Go.Proofs.YtnlffaglmcddkaaDoor
open Go Go.RowKit

def laidS : List (String × DataW Unit) := [("palfrey/sha.rounds", Rows.laid_palfrey_sha_rounds)]
theorem gRounds : Tryd.prog.globalNamed "palfrey/sha.rounds" = some 0 := by kernel_rfl
theorem tRounds : (Tryd.prog.globals[0]?).map (·.type) = some 75 := by kernel_rfl
theorem uRounds : Tryd.prog.underlying 75 = some (.array 64 50) := by kernel_rfl
theorem eRounds : Tryd.prog.underlying 50 = some (.int .u32) := by kernel_rfl
theorem ceRounds : Tryd.prog.cellsOf 50 = 1 := by kernel_rfl
theorem ctRounds : Tryd.prog.cellsOf 75 = 64 := by kernel_rfl
theorem laid_tab : (Rows.laid_palfrey_sha_rounds : DataW Unit) = Lib.tabData .u32 (shaK.map fun x => (x.toNat : Int)) := by kernel_rfl

/-- The door's own heap meets the condition. -/
theorem door_met (os : Os) (args : Array Value) : laidMetH Tryd.prog laidS ((World.doorLaid Tryd.prog 14 os).forCall (fun _ _ => 0) ⟨#[], args, []⟩).memory :=
  laidMetH_of_parts3 (fuel := 8) (laidMet_of_run' 8 (by kernel_rfl) (by kernel_rfl)) (by kernel_rfl) (by kernel_rfl)

theorem of_laid {W : World} (h : laidMetH Tryd.prog laidS W) : ∃ t, Blk W 0 t (shaK.map b32).toArray := by
  rw [MakeChecks.laidMetH_plain _ _ _ (by kernel_rfl)] at h
  obtain ⟨ps, ⟨g0, t0, cs0, f0, p0, q0, hg0, ht0, hv0, hd0, hq, hps⟩, _, hfr⟩ := h
  obtain rfl := Option.some.inj (gRounds.symm.trans hg0)
  obtain rfl := Option.some.inj (tRounds.symm.trans ht0)
  rw [laid_tab] at hd0
  have hcs := Lib.cells_of_tab uRounds eRounds ceRounds ctRounds hd0
  have hcs2 : cs0 = (shaK.map b32).toArray := by
    rw [← Array.toArray_toList (xs := cs0), hcs, List.map_map]
    rfl
  have hsz : 0 < cs0.size := by rw [hcs2]; simp [shaK]
  obtain ⟨⟨c, t, hb⟩, _⟩ := hfr 0 0 (by
    rw [hps]
    refine List.mem_append_left _ (List.mem_append_left _ ?_)
    unfold MemPlace.row
    simp only [List.mem_map, List.mem_range]
    exact ⟨0, hsz, by simp⟩)
  refine ⟨t, ?_⟩
  unfold World.var? at hv0
  rw [gRounds] at hv0
  simp only [Option.bind_some, hb, Option.some.injEq] at hv0
  unfold Blk
  rw [hb, hv0, hcs2]
end Go.Proofs.YtnlffaglmcddkaaDoor
