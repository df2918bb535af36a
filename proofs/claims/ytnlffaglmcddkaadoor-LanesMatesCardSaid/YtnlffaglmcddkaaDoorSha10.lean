/-
  The walk of awake of layer 2.
-/
import Derived.Test.YtnlffaglmcddkaaDoorSha9
import Derived.Deep.Cut
import Derived.BigRegion
import Derived.RegionTactic
import Derived.Outline
import Derived.Lib.SlBytesConst
namespace Go.Proofs.YtnlffaglmcddkaaDoor
open Go Go.RowKit
set_option linter.unusedSimpArgs false


def abcM : List UInt8 := [97, 98, 99] ++ padS 3
theorem abc4 : (outF (blockF shaK startV abcM)).take 4 = [186, 120, 22, 191] := by decide +kernel
theorem abcM_len : abcM.length = 64 := by decide +kernel
theorem sum_abc : (sumS shaK [97, 98, 99]).take 4 = [186, 120, 22, 191] := by
  unfold sumS
  show (outF (runF shaK startV abcM).1).take 4 = _
  have ht : abcM.take 64 = abcM := List.take_of_length_le (by rw [abcM_len]; omega)
  have hd : abcM.drop 64 = [] := List.drop_of_length_le (by rw [abcM_len]; omega)
  rw [runF_step shaK startV abcM (by rw [abcM_len]; omega), ht, hd, runF_end _ _ _ (by simp)]
  exact abc4
theorem sum_abc_at (ks : List UInt32) (hk : ks = shaK) (k : Nat) (hk4 : k < 4) : (sumS ks [97, 98, 99])[k]? = ([186, 120, 22, 191] : List UInt8)[k]? := by
  rw [hk, ← sum_abc, List.getElem?_take, if_pos hk4]
attribute [local irreducible] startV schedF moreW firstW blockF roundsF sumsF outF outW padS sumS shaK

end Go.Proofs.YtnlffaglmcddkaaDoor
