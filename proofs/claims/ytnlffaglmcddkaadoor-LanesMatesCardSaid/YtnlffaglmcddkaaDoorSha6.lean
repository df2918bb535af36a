/-
  A State of sha in memory; the walks of New and Len.
-/
import Derived.Test.YtnlffaglmcddkaaDoorSha5
import Derived.Deep.Cut
import Derived.BigRegion
import Derived.RegionTactic
import Derived.Outline
import Derived.Great.BuildSlice
namespace Go.Proofs.YtnlffaglmcddkaaDoor
open Go Go.RowKit
set_option linter.unusedSimpArgs false


/-- The first state. -/
def startV : V8 := ⟨1779033703, 3144134277, 1013904242, 2773480762, 1359893119, 2600822924, 528734635, 1541459225⟩
theorem startV_list : startV.list = shaH0 := rfl
/-- A State's cells. -/
def SC (h : V8) (sv : Value) (n : Int) : Array Value := #[b32 h.a, b32 h.b, b32 h.c, b32 h.d, b32 h.e, b32 h.f, b32 h.g, b32 h.h, sv, .int .i64 n]
attribute [local irreducible] startV

set_option maxRecDepth 100000 in
set_option maxHeartbeats 4000000 in
theorem new_any (w : World) : Calls Tryd.prog 36 #[] w fun e w' => ∃ g, e = .returned (.pointer (some ⟨g, 0, none⟩)) ∧ Grows w w' ∧ w.heap.size ≤ g ∧ Blk w' g 82 (SC startV (.slice none 0 0) 0) := by
  obtain ⟨V, HV⟩ : ∃ V, Hid (startV = V) := ⟨_, lib_hid rfl⟩
  have HS : Hid (Calls Tryd.prog 50 #[] w fun e w' => e = .returned (.agg (V.list.map b32).toArray) ∧ Grows w w') := by
    rw [← HV.out, startV_list]; exact start_any w
  rw [HV.out]
  obtain ⟨a, b, c, d, e, f, g, h⟩ := V
  have HS2 : Hid (Calls Tryd.prog 50 #[] w fun e1 w' => e1 = .returned (.agg #[b32 a, b32 b, b32 c, b32 d, b32 e, b32 f, b32 g, b32 h]) ∧ Grows w w') := HS
  clear HS
  go_enter Tryd.func36, Tryd.ntmps36
  go_wp2_with fail
  refine HS2.out.mono ?_
  rintro e w1 ⟨rfl, hg1⟩
  go_wp2
  go_ret
  exact ⟨_, rfl, hg1.alloc _, hg1.le, Blk.new _ _ _⟩

end Go.Proofs.YtnlffaglmcddkaaDoor
