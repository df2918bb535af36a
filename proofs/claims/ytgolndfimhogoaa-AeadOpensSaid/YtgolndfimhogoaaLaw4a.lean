/-
  The walks of the laws of layer 4: ChachaBack.
-/
import Derived.Test.YtgolndfimhogoaaChacha4
import Derived.Test.YtgolndfimhogoaaOpenKey
import Derived.Deep.Cut
namespace Go.Proofs.Ytgolndfimhogoaa
open Go Go.RowKit
set_option linter.unusedSimpArgs false


theorem xorF_back (a s : List UInt8) (h : s.length = a.length) : xorF (xorF a s) s = a := by
  apply List.ext_getElem
  · simp [xorF, h]
  · intro i h1 h2
    simp [xorF, UInt8.xor_assoc]
theorem crypt_back (key nonce : List UInt8) (n : UInt32) (bs : List UInt8) : cryptF key nonce n (cryptF key nonce n bs) = bs := by
  have hl := cryptF_len key nonce n bs
  unfold cryptF at hl ⊢
  rw [hl]
  exact xorF_back _ _ (streamF_len _ _ _ _)

end Go.Proofs.Ytgolndfimhogoaa
