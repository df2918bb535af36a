/-
  The chained mode, in plain Lean: what is out behind so many blocks; a longer text begins as its beginning does, and goes on from its last block as its IV.
-/
import Derived.Test.YthcmdjaccjghjaaBits3
namespace Go.Proofs.Ythcmdjaccjghjaa
open Go Go.RowKit
set_option linter.unusedSimpArgs false
set_option linter.unusedVariables false

/-- What is put behind so many bytes. -/
def padC (n : Nat) : List UInt8 := List.replicate (16 - n % 16) (UInt8.ofNat (16 - n % 16))
theorem padC_len (n : Nat) : (padC n).length = 16 - n % 16 := by simp [padC]
theorem padC_add (m n : Nat) : padC (16 * m + n) = padC n := by unfold padC; rw [show (16 * m + n) % 16 = n % 16 by omega]
/-- The chain, behind so many blocks: what is out, and the last block. -/
def chL (E : List UInt8 → List UInt8) (iv bs : List UInt8) : Nat → List UInt8 × List UInt8
  | 0 => ([], iv)
  | k + 1 => ((chL E iv bs k).1 ++ E (xorF (chL E iv bs k).2 ((bs.drop (16 * k)).take 16)), E (xorF (chL E iv bs k).2 ((bs.drop (16 * k)).take 16)))
def cbcF (E : List UInt8 → List UInt8) (iv bs : List UInt8) : List UInt8 := (chL E iv (bs ++ padC bs.length) (bs.length / 16 + 1)).1
theorem chL_len {E : List UInt8 → List UInt8} (hE : ∀ xs, (E xs).length = 16) (iv bs : List UInt8) (hiv : iv.length = 16) : ∀ k, (chL E iv bs k).1.length = 16 * k ∧ (chL E iv bs k).2.length = 16
  | 0 => ⟨rfl, hiv⟩
  | k + 1 => ⟨by rw [chL, List.length_append, (chL_len hE iv bs hiv k).1, hE]; omega, hE _⟩
theorem chL_app (E : List UInt8 → List UInt8) (iv a r : List UInt8) : ∀ k, 16 * k ≤ a.length → chL E iv (a ++ r) k = chL E iv a k
  | 0, _ => rfl
  | k + 1, h => by
    have e : ((a ++ r).drop (16 * k)).take 16 = (a.drop (16 * k)).take 16 := by
      rw [List.drop_append_of_le_length (by omega), List.take_append_of_le_length (by rw [List.length_drop]; omega)]
    rw [chL, chL, chL_app E iv a r k (by omega), e]
theorem chL_add (E : List UInt8 → List UInt8) (iv bs : List UInt8) (m : Nat) : ∀ j, chL E iv bs (m + j) = ((chL E iv bs m).1 ++ (chL E (chL E iv bs m).2 (bs.drop (16 * m)) j).1, (chL E (chL E iv bs m).2 (bs.drop (16 * m)) j).2)
  | 0 => by simp [chL]
  | j + 1 => by
    have e : (bs.drop (16 * (m + j))).take 16 = ((bs.drop (16 * m)).drop (16 * j)).take 16 := by rw [List.drop_drop, show 16 * m + 16 * j = 16 * (m + j) by omega]
    rw [show m + (j + 1) = (m + j) + 1 by omega, chL, chL, chL_add E iv bs m j, e]
    simp only [List.append_assoc]
theorem cbcF_len {E : List UInt8 → List UInt8} (hE : ∀ xs, (E xs).length = 16) (iv bs : List UInt8) (hiv : iv.length = 16) : (cbcF E iv bs).length = 16 * (bs.length / 16 + 1) := (chL_len hE iv _ hiv _).1
/-- The beginning's chain. -/
theorem cbcF_head (E : List UInt8 → List UInt8) (hE : ∀ xs, (E xs).length = 16) (iv a : List UInt8) (hiv : iv.length = 16) (m : Nat) (ha : a.length = 16 * m) : (cbcF E iv a).take (16 * m) = (chL E iv a m).1 := by
  unfold cbcF
  rw [show a.length / 16 + 1 = m + 1 by omega, chL_add, chL_app E iv a _ m (by omega)]
  simp only
  exact List.take_left' (chL_len hE iv a hiv m).1
theorem cbcF_split (E : List UInt8 → List UInt8) (iv a b : List UInt8) (m : Nat) (ha : a.length = 16 * m) : cbcF E iv (a ++ b) = (chL E iv a m).1 ++ cbcF E (chL E iv a m).2 b := by
  unfold cbcF
  rw [List.length_append, ha, show (16 * m + b.length) / 16 + 1 = m + (b.length / 16 + 1) by omega, chL_add, padC_add, List.append_assoc, chL_app E iv a _ m (by omega)]
  simp only
  rw [← ha, List.drop_left]
theorem chL_last {E : List UInt8 → List UInt8} (hE : ∀ xs, (E xs).length = 16) (iv a r : List UInt8) (hiv : iv.length = 16) (k : Nat) : (((chL E iv a (k + 1)).1 ++ r).drop (16 * k)).take 16 = (chL E iv a (k + 1)).2 := by
  rw [chL]
  simp only
  rw [List.append_assoc, List.drop_left' (chL_len hE iv a hiv k).1, List.take_left' (hE _)]
end Go.Proofs.Ythcmdjaccjghjaa
