/-
  The bytes of a block, put one behind another, are the program's row. Plain theorems.
-/
import Derived.Test.YtgolndfimhogoaaChacha3
namespace Go.Proofs.Ytgolndfimhogoaa
open Go Go.RowKit

def bytesN (s was : List UInt32) : Nat → List UInt8
  | 0 => []
  | k + 1 => bytesN s was k ++ putLittleF (s.getD k 0 + was.getD k 0).toUInt64 4
theorem bytesN_len (s was : List UInt32) (k : Nat) : (bytesN s was k).length = 4 * k := by
  induction k with
  | zero => rfl
  | succ k ih => rw [bytesN, List.length_append, ih]; simp [putLittleF]; omega
theorem wordsN_bytes (s was : List UInt32) (k : Nat) (hk : k ≤ 16) : wordsN s was k = bytesN s was k ++ List.replicate (64 - 4 * k) 0 := by
  induction k with
  | zero => rfl
  | succ k ih =>
    have hl := bytesN_len s was k
    have hp : (putLittleF (s.getD k 0 + was.getD k 0).toUInt64 4).length = 4 := by simp [putLittleF]
    rw [wordsN, ih (by omega), bytesN]
    unfold splice
    rw [List.take_append_of_le_length (by omega), List.take_of_length_le (by omega), hp, List.drop_append, List.drop_of_length_le (by omega), List.nil_append, hl, List.drop_replicate, show 64 - 4 * k - (4 * k + 4 - 4 * k) = 64 - 4 * (k + 1) by omega, List.append_assoc]
theorem wordsN_all (s was : List UInt32) : wordsN s was 16 = bytesN s was 16 := by
  rw [wordsN_bytes s was 16 (Nat.le_refl _), show 64 - 4 * 16 = 0 by omega, List.replicate_zero, List.append_nil]

end Go.Proofs.Ytgolndfimhogoaa
