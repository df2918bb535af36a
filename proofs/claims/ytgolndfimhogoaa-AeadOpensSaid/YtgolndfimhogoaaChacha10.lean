/-
  The walk of the reference's Quarter.
-/
import Derived.Test.YtgolndfimhogoaaRoundLe
import Derived.Deep.Cut
namespace Go.Proofs.Ytgolndfimhogoaa
open Go Go.RowKit
set_option linter.unusedSimpArgs false


theorem quarterS_F (a b c d : UInt32) : quarterS (a :: b :: c :: d :: List.replicate 12 0) 0 1 2 3 = (quarterF ⟨a, b, c, d⟩).a :: (quarterF ⟨a, b, c, d⟩).b :: (quarterF ⟨a, b, c, d⟩).c :: (quarterF ⟨a, b, c, d⟩).d :: List.replicate 12 0 := rfl
end Go.Proofs.Ytgolndfimhogoaa
