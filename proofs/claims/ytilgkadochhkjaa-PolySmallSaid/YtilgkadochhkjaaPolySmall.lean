/-
  Plain law: of a small first half and one byte the sum is reckoned by hand.
-/
import Derived.Test.YtilgkadochhkjaaPolyLe
namespace Go.Proofs.Ytilgkadochhkjaa
open Go Go.RowKit
set_option linter.unusedSimpArgs false


theorem small_fin : ∀ r : Fin 16, ∀ b : Fin 256, redF (finH (UInt64.ofNat r.val) 0 (stH (UInt64.ofNat r.val) 0 [UInt8.ofNat b.val]) (stR [UInt8.ofNat b.val])) = (UInt64.ofNat (r.val * (b.val + 256)), 0) := by decide +kernel
theorem small_half : ∀ r : Fin 16, halfA (clampF (UInt8.ofNat r.val :: List.replicate 15 0)) = UInt64.ofNat r.val ∧ halfB (clampF (UInt8.ofNat r.val :: List.replicate 15 0)) = 0 := by decide +kernel
def smallKey (r : UInt8) (s : UInt16) : List UInt8 := UInt8.ofNat (r.toNat % 16) :: (List.replicate 15 (0 : UInt8) ++ (s.toUInt8 :: (s >>> 8).toUInt8 :: List.replicate 14 (0 : UInt8)))
theorem small_law (r b : UInt8) (s : UInt16) : leN (polyF (smallKey r s) [b]) = (r.toNat % 16) * (b.toNat + 256) + s.toNat := by
  have hr : r.toNat % 16 < 16 := Nat.mod_lt _ (by decide)
  have hb := u8_lt b
  have hs := u16_lt s
  have eb : UInt8.ofNat b.toNat = b := UInt8.ofNat_toNat
  have f := small_fin ⟨r.toNat % 16, hr⟩ ⟨b.toNat, hb⟩
  have g := small_half ⟨r.toNat % 16, hr⟩
  simp only at f g
  rw [eb] at f
  have t16 : (smallKey r s).take 16 = UInt8.ofNat (r.toNat % 16) :: List.replicate 15 0 := rfl
  have d16 : (smallKey r s).drop 16 = s.toUInt8 :: (s >>> 8).toUInt8 :: List.replicate 14 0 := rfl
  unfold polyF psumF kr0 kr1 ks0 ks1
  rw [t16, d16, g.1, g.2, f, leN_putS, halves _ rfl]
  have e1 : leN (s.toUInt8 :: (s >>> 8).toUInt8 :: List.replicate 14 0) = s.toNat := by
    have z : leN (List.replicate 14 0) = 0 := by decide +kernel
    simp only [leN, z]
    have h1 : s.toUInt8.toNat = s.toNat % 256 := by simp
    have h2 : (s >>> 8).toUInt8.toNat = s.toNat / 256 := by
      simp [Nat.shiftRight_eq_div_pow]
      omega
    rw [h1, h2]
    omega
  have hm : (r.toNat % 16) * (b.toNat + 256) ≤ 15 * 511 := Nat.mul_le_mul (by omega) (by omega)
  rw [e1]
  show ((UInt64.ofNat (r.toNat % 16 * (b.toNat + 256))).toNat + 18446744073709551616 * 0 + s.toNat) % _ = _
  rw [UInt64.toNat_ofNat', Nat.mod_eq_of_lt (by omega), Nat.mod_eq_of_lt (by omega)]
  omega

end Go.Proofs.Ytilgkadochhkjaa
