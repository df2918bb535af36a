/-
  The reference's first state is the program's, in plain Lean.
-/
import Derived.Test.YtgolndfimhogoaaChacha2
import Derived.Test.YtgolndfimhogoaaLe
namespace Go.Proofs.Ytgolndfimhogoaa
open Go Go.RowKit

def sigF : List UInt8 := 101 :: 120 :: 112 :: 97 :: 110 :: 100 :: 32 :: 51 :: 50 :: 45 :: 98 :: 121 :: 116 :: 101 :: 32 :: 107 :: []
def allF4 (key nonce : List UInt8) (n : UInt32) : List UInt8 := ((sigF ++ key) ++ putLittleF n.toUInt64 4) ++ nonce
theorem putW_all (f : Nat → UInt32) : putW f 0 16 (List.replicate 16 0) = [f 0, f 1, f 2, f 3, f 4, f 5, f 6, f 7, f 8, f 9, f 10, f 11, f 12, f 13, f 14, f 15] := rfl
theorem firstF_all (key nonce : List UInt8) (n : UInt32) : firstF key nonce n = [0x61707865, 0x3320646e, 0x79622d32, 0x6b206574, wordAt key 0, wordAt key 1, wordAt key 2, wordAt key 3, wordAt key 4, wordAt key 5, wordAt key 6, wordAt key 7, n, wordAt nonce 0, wordAt nonce 1, wordAt nonce 2] := rfl
theorem little_put (n : UInt32) : (littleF (putLittleF n.toUInt64 4)).toUInt32 = n := by
  have hl : (putLittleF n.toUInt64 4).length = 4 := by simp [putLittleF]
  rw [littleF_eq, List.take_of_length_le (by omega), leN_putLittle]
  have h := n.toNat_lt
  apply UInt32.toNat_inj.1
  rw [UInt64.toNat_toUInt32, UInt64.toNat_ofNat', UInt32.toNat_toUInt64]
  omega
theorem wordAt_key (key nonce : List UInt8) (n : UInt32) (hk : key.length = 32) (i : Nat) (hi : i < 8) : wordAt (allF4 key nonce n) (4 + i) = wordAt key i := by
  unfold wordAt allF4
  have hs : sigF.length = 16 := rfl
  rw [List.drop_append_of_le_length (by simp [hs, hk]; omega), List.drop_append_of_le_length (by simp [hs, hk]; omega), List.drop_append, List.drop_of_length_le (by rw [hs]; omega), List.nil_append, hs,
    show 4 * (4 + i) - 16 = 4 * i by omega, List.take_append_of_le_length (by simp [hk]; omega), List.take_append_of_le_length (by simp [hk]; omega)]
theorem wordAt_nonce (key nonce : List UInt8) (n : UInt32) (hk : key.length = 32) (i : Nat) : wordAt (allF4 key nonce n) (13 + i) = wordAt nonce i := by
  unfold wordAt allF4
  have hs : ((sigF ++ key) ++ putLittleF n.toUInt64 4).length = 52 := by simp [putLittleF, hk]; rfl
  rw [List.drop_append, List.drop_of_length_le (by rw [hs]; omega), List.nil_append, hs, show 4 * (13 + i) - 52 = 4 * i by omega]
theorem wordAt_n (key nonce : List UInt8) (n : UInt32) (hk : key.length = 32) : wordAt (allF4 key nonce n) 12 = n := by
  unfold wordAt allF4
  have hl : (putLittleF n.toUInt64 4).length = 4 := by simp [putLittleF]
  have hs : (sigF ++ key).length = 48 := by simp [hk]; rfl
  rw [List.append_assoc, List.drop_append, List.drop_of_length_le (by rw [hs]; omega), List.nil_append, hs, show 4 * 12 - 48 = 0 by omega, List.drop_zero, List.take_append_of_le_length (by omega), List.take_of_length_le (by omega)]
  exact little_put n
theorem wordAt_sig (key nonce : List UInt8) (n : UInt32) : wordAt (allF4 key nonce n) 0 = 0x61707865 ∧ wordAt (allF4 key nonce n) 1 = 0x3320646e ∧ wordAt (allF4 key nonce n) 2 = 0x79622d32 ∧ wordAt (allF4 key nonce n) 3 = 0x6b206574 := by
  have e : ∀ i, i < 4 → wordAt (allF4 key nonce n) i = wordAt sigF i := fun i hi => by
    unfold wordAt allF4
    have hs : sigF.length = 16 := rfl
    rw [List.append_assoc, List.append_assoc, List.drop_append_of_le_length (by rw [hs]; omega), List.take_append_of_le_length (by simp [hs]; omega)]
  rw [e 0 (by omega), e 1 (by omega), e 2 (by omega), e 3 (by omega)]
  decide +kernel
theorem first_eq (key nonce : List UInt8) (n : UInt32) (hk : key.length = 32) : putW (wordAt (allF4 key nonce n)) 0 16 (List.replicate 16 0) = firstF key nonce n := by
  obtain ⟨s0, s1, s2, s3⟩ := wordAt_sig key nonce n
  have k := fun i hi => wordAt_key key nonce n hk i hi
  have m := fun i => wordAt_nonce key nonce n hk i
  rw [putW_all, firstF_all, s0, s1, s2, s3, wordAt_n key nonce n hk, ← k 0 (by omega), ← k 1 (by omega), ← k 2 (by omega), ← k 3 (by omega), ← k 4 (by omega), ← k 5 (by omega), ← k 6 (by omega), ← k 7 (by omega), ← m 0, ← m 1, ← m 2]

end Go.Proofs.Ytgolndfimhogoaa
