/-
  Layer 4's argument, opened: a key, a nonce, a counter.
-/
import Derived.Test.YtgolndfimhogoaaOpen2
import Derived.Test.YtgolndfimhogoaaChacha1
import Derived.Deep.Strs
namespace Go.Proofs.Ytgolndfimhogoaa
open Go Go.RowKit Go.ChangeShapes Go.WideShapes Go.ChangeAt
set_option linter.unusedSimpArgs false

end Go.Proofs.Ytgolndfimhogoaa
