/-
  Arrays of 16 bytes: plain theorems.
-/
import Derived.Test.YthcmdjaccjghjaaBits2
import Derived.Test.YthcmdjaccjghjaaArr
namespace Go.Proofs.Ythcmdjaccjghjaa
open Go Go.RowKit

theorem putBigF_len' (n : UInt64) (k : Nat) : (putBigF n k).length = k := by simp [putBigF, putLittleF]
theorem cells_all (bs : List UInt8) : ((bs.map b8).toArray).all (·.oneCell') = true := by
  rw [Array.all_eq_true_iff_forall_mem]
  intro v hv
  exact b8_one bs v (by simpa using hv)

theorem zeros16 : (#[.int .u8 0, .int .u8 0, .int .u8 0, .int .u8 0, .int .u8 0, .int .u8 0, .int .u8 0, .int .u8 0, .int .u8 0, .int .u8 0, .int .u8 0, .int .u8 0, .int .u8 0, .int .u8 0, .int .u8 0, .int .u8 0] : Array Value) = ((List.replicate 16 (0 : UInt8)).map b8).toArray := rfl
theorem splice_high (hi lo : List UInt8) (h1 : hi.length = 8) (h2 : lo.length = 8) : splice (splice (List.replicate 16 (0 : UInt8)) 0 hi) 8 lo = hi ++ lo := by
  simp [splice, h1, h2]
theorem Try.size16 : (Try.prog.info? 23).map (·.size) = some 16 := by kernel_rfl
theorem Try.sizeByte : (Try.prog.info? 5).map (·.size) = some 1 := by kernel_rfl

end Go.Proofs.Ythcmdjaccjghjaa
