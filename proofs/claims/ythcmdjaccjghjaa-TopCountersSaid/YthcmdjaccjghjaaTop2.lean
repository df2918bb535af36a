/-
  aes.Expand of the theorems' key, long or not.
-/
import Derived.Test.YthcmdjaccjghjaaTop1
import Derived.Test.YthcmdjaccjghjaaAes9
import Derived.Test.YthcmdjaccjghjaaAes10
namespace Go.Proofs.Ythcmdjaccjghjaa
open Go Go.RowKit
set_option linter.unusedSimpArgs false
set_option linter.unusedVariables false


def keyB (K : List UInt8) (L : Bool) : List UInt8 := if L then K else K.take 16
def keyW (K : List UInt8) (L : Bool) : List UInt8 := if L then (exF tabF K 8 52).1 else (exF tabF (K.take 16) 4 40).1
def keyN (L : Bool) : Nat := if L then 14 else 10
theorem keyN_le (L : Bool) : 1 ≤ keyN L ∧ keyN L ≤ 14 := by cases L <;> decide
theorem keyBytes_top (K IV : List UInt8) (L : Bool) (hK : K.length = 32) (hI : IV.length = 16) : ∃ kl : Nat, (∀ W : World, Calls Try.prog 7 #[.agg (keyV K L IV)] W fun e w' => ∃ g, e = .returned (.slice (some ⟨g, 0, none⟩) kl 32) ∧ Grows W w' ∧ SB w' (some ⟨g, 0, none⟩) kl 32 (keyB K L)) ∧
    (∀ (W : World) (g : Nat), SB W (some ⟨g, 0, none⟩) kl 32 (keyB K L) → Calls Try.prog 6 #[.slice (some ⟨g, 0, none⟩) kl 32] W fun e w' => ∃ g, e = .returned (.tuple #[.pointer (some ⟨g, 0, none⟩), .int .i64 0]) ∧ Grows W w' ∧ W.heap.size ≤ g ∧ KeyR w' w'.heap.size g tabF (keyW K L) (keyN L)) := by
  refine ⟨if L then 32 else 16, fun W => (keyBytes_any K IV L hK hI W).mono ?_, fun W g h => ?_⟩
  · rintro e w1 ⟨rfl, hg, hs⟩
    exact ⟨_, rfl, hg, hs⟩
  · cases L
    · exact expand4_any _ 32 (K.take 16) W h
    · exact expand8_any _ 32 K W h
end Go.Proofs.Ythcmdjaccjghjaa
