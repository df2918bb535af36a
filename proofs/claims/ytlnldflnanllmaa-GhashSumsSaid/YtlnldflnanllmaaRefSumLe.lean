/-
  The reference's sum of blocks is the sum. Plain theorems: no program in sight.
-/
import Derived.Test.YtlnldflnanllmaaRefSum
import Derived.Test.YtlnldflnanllmaaPartsLe
namespace Go.Proofs.Ytlnldflnanllmaa
open Go Go.RowKit
set_option linter.unusedSimpArgs false

def refSumG (hs : List UInt8) : Nat → List UInt8 → List UInt8 → List UInt8
  | 0, y, _ => y
  | n + 1, y, p => refSumG hs n (refMulF (List.zipWith (· ^^^ ·) y (blkAt p 0)) hs) (p.drop 16)
theorem blkAt_drop (p : List UInt8) (n : Nat) : blkAt (p.drop 16) n = blkAt p (n + 1) := by
  unfold blkAt
  rw [List.drop_drop, show 16 + 16 * n = 16 * (n + 1) by omega]
theorem refSumG_back (hs : List UInt8) : ∀ n y p, refSumG hs (n + 1) y p = refMulF (List.zipWith (· ^^^ ·) (refSumG hs n y p) (blkAt p n)) hs
  | 0, _, _ => rfl
  | n + 1, y, p => by
    rw [refSumG, refSumG_back hs n, blkAt_drop]
    rfl
theorem refSumL_G (hs p : List UInt8) : ∀ n, refSumL hs p n = refSumG hs n (List.replicate 16 0) p
  | 0 => rfl
  | n + 1 => by rw [refSumL, refSumG_back, refSumL_G hs p n]
theorem padB_take (bs : List UInt8) (h : 0 < bs.length) : (padB bs).take 16 = pad16 (bs.take 16) := by
  unfold padB
  by_cases h16 : 16 ≤ bs.length
  · rw [List.take_append_of_le_length h16, pad16_full _ (by rw [List.length_take]; omega)]
  · have e : padN bs.length = 16 - bs.length := by unfold padN; omega
    rw [List.take_of_length_le (by rw [List.length_append, List.length_replicate, e]; omega), List.take_of_length_le (by omega), e]
    rfl
theorem padB_drop (bs : List UInt8) (h : 0 < bs.length) : (padB bs).drop 16 = padB (bs.drop 16) := by
  unfold padB
  by_cases h16 : 16 ≤ bs.length
  · rw [List.drop_append_of_le_length h16, List.length_drop]
    congr 2
    unfold padN; omega
  · have e : padN bs.length = 16 - bs.length := by unfold padN; omega
    rw [List.drop_of_length_le (by rw [List.length_append, List.length_replicate, e]; omega), List.drop_of_length_le (by omega)]
    rfl
theorem refSumG_E (hs : List UInt8) (hh : hs.length = 16) : ∀ n a b (bs : List UInt8), (bs.length + 15) / 16 = n → refSumG hs n (blockF a b) (padB bs) = sumE (hiF hs) (loF hs) n a b bs
  | 0, a, b, bs, _ => rfl
  | n + 1, a, b, bs, h => by
    have h0 : 0 < bs.length := by omega
    have hp : (pad16 (bs.take 16)).length = 16 := pad16_len _ (by rw [List.length_take]; omega)
    have hz : (List.zipWith (· ^^^ ·) (blockF a b) (pad16 (bs.take 16))).length = 16 := zip_len _ _ (blockF_len a b) hp
    have e : refMulF (List.zipWith (· ^^^ ·) (blockF a b) (blkAt (padB bs) 0)) hs = blockF (mulA (a ^^^ hiF (pad16 (bs.take 16))) (b ^^^ loF (pad16 (bs.take 16))) (hiF hs) (loF hs)) (mulBB (a ^^^ hiF (pad16 (bs.take 16))) (b ^^^ loF (pad16 (bs.take 16))) (hiF hs) (loF hs)) := by
      have eb : blkAt (padB bs) 0 = pad16 (bs.take 16) := by
        unfold blkAt; rw [Nat.mul_zero, List.drop_zero]; exact padB_take bs h0
      rw [eb, refMul_eq _ hs hz hh, mulF, (hilo_xor _ _ (blockF_len a b) hp).1, (hilo_xor _ _ (blockF_len a b) hp).2, (hilo_block a b).1, (hilo_block a b).2]
    rw [refSumG, e, padB_drop bs h0, refSumG_E hs hh n _ _ _ (by rw [List.length_drop]; omega)]
    rfl
theorem refSum_eq (hs bs : List UInt8) (hh : hs.length = 16) : refSumF hs bs = sumF hs bs := by
  unfold refSumF sumF
  have z : (List.replicate 16 (0 : UInt8)) = blockF 0 0 := by decide +kernel
  rw [refSumL_G, z]
  exact refSumG_E hs hh _ 0 0 bs rfl

end Go.Proofs.Ytlnldflnanllmaa
