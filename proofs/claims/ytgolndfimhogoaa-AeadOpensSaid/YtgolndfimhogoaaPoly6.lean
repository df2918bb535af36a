/-
  The walk of poly.Sum; what the chapter's example of layer 5 says.
-/
import Derived.Test.YtgolndfimhogoaaPoly5
import Derived.Test.YtgolndfimhogoaaMonoF
import Derived.Deep.Cut
namespace Go.Proofs.Ytgolndfimhogoaa
open Go Go.RowKit
set_option linter.unusedSimpArgs false


def polyF (key bs : List UInt8) : List UInt8 := psumF (kr0 key) (kr1 key) (ks0 key) (ks1 key) bs
theorem polyF_len (key bs : List UInt8) : (polyF key bs).length = 16 := psumF_len _ _ _ _ _
def awkKey : List UInt8 := 2 :: (List.replicate 15 0 ++ 7 :: List.replicate 15 0)
theorem awk_a : polyF awkKey [] = 7 :: List.replicate 15 0 := by decide +kernel
theorem awk_b : polyF awkKey [3] = 13 :: 2 :: List.replicate 14 0 := by decide +kernel
theorem awk_lk : (#[.int .u8 2, .int .u8 0, .int .u8 0, .int .u8 0, .int .u8 0, .int .u8 0, .int .u8 0, .int .u8 0, .int .u8 0, .int .u8 0, .int .u8 0, .int .u8 0, .int .u8 0, .int .u8 0, .int .u8 0, .int .u8 0, .int .u8 7, .int .u8 0, .int .u8 0, .int .u8 0, .int .u8 0, .int .u8 0, .int .u8 0, .int .u8 0, .int .u8 0, .int .u8 0, .int .u8 0, .int .u8 0, .int .u8 0, .int .u8 0, .int .u8 0, .int .u8 0] : Array Value) = (awkKey.map b8).toArray := rfl
theorem awk_la : (#[.int .u8 7, .int .u8 0, .int .u8 0, .int .u8 0, .int .u8 0, .int .u8 0, .int .u8 0, .int .u8 0, .int .u8 0, .int .u8 0, .int .u8 0, .int .u8 0, .int .u8 0, .int .u8 0, .int .u8 0, .int .u8 0] : Array Value) = ((7 :: List.replicate 15 (0 : UInt8)).map b8).toArray := rfl
theorem awk_lb : (#[.int .u8 13, .int .u8 2, .int .u8 0, .int .u8 0, .int .u8 0, .int .u8 0, .int .u8 0, .int .u8 0, .int .u8 0, .int .u8 0, .int .u8 0, .int .u8 0, .int .u8 0, .int .u8 0, .int .u8 0, .int .u8 0] : Array Value) = ((13 :: 2 :: List.replicate 14 (0 : UInt8)).map b8).toArray := rfl
end Go.Proofs.Ytgolndfimhogoaa
