/-
  The walks of package bits: the exclusive or, and whether two rows of bytes are the same.
-/
import Derived.Test.YtilgkadochhkjaaBits2
namespace Go.Proofs.Ytilgkadochhkjaa
open Go Go.RowKit

theorem xorF_len (a b : List UInt8) : (xorF a b).length = min a.length b.length := by simp [xorF]
theorem xorF_range (a b : List UInt8) : (List.range (min a.length b.length)).map (fun i => a.getD i 0 ^^^ b.getD i 0) = xorF a b := by
  apply List.ext_getElem
  · simp [xorF]
  · intro i h1 h2
    simp only [List.length_map, List.length_range] at h1
    simp only [xorF, List.getElem_map, List.getElem_range, List.getElem_zipWith]
    have ha : i < a.length := by omega
    have hb : i < b.length := by omega
    simp [List.getD, ha, hb]

end Go.Proofs.Ytilgkadochhkjaa
