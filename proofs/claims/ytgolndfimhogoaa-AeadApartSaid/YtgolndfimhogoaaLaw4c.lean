/-
  The walks of the laws of layer 4: ChachaRows.
-/
import Derived.Test.YtgolndfimhogoaaLaw4b
import Derived.Deep.Cut
namespace Go.Proofs.Ytgolndfimhogoaa
open Go Go.RowKit
set_option linter.unusedSimpArgs false


theorem strN_take (key nonce : List UInt8) (n : UInt32) (a N : Nat) (k : Nat) (hk : k ≤ 64 * a) (h : a ≤ N) : (strN key nonce n N).take k = (strN key nonce n a).take k := by
  rw [show N = a + (N - a) by omega, strN_add, List.take_append_of_le_length (by rw [strN_len]; exact hk)]
theorem streamF_take (key nonce : List UInt8) (n : UInt32) (k m : Nat) (h : k ≤ m) : (streamF key nonce n m).take k = streamF key nonce n k := by
  unfold streamF
  rw [List.take_take, Nat.min_eq_left h, strN_take key nonce n ((k + 63) / 64) ((m + 63) / 64) k (by omega) (by omega)]
theorem streamF_block (key nonce : List UInt8) (n : UInt32) (j m : Nat) (h : 64 * j + 64 ≤ m) : ((streamF key nonce n m).drop (64 * j)).take 64 = blockC key nonce (n + UInt32.ofNat j) := by
  have e : (streamF key nonce n m).take (64 * (j + 1)) = strN key nonce n (j + 1) := by rw [streamF_take key nonce n _ m (by omega), streamF_whole]
  have e2 : ((streamF key nonce n m).drop (64 * j)).take 64 = ((streamF key nonce n m).take (64 * (j + 1))).drop (64 * j) := by
    rw [List.drop_take, show 64 * (j + 1) - 64 * j = 64 by omega]
  rw [e2, e, strN, List.drop_append_of_le_length (by rw [strN_len]; omega), List.drop_of_length_le (by rw [strN_len]; omega), List.nil_append]

end Go.Proofs.Ytgolndfimhogoaa
