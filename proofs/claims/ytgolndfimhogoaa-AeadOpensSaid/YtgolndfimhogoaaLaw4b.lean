/-
  The walks of the laws of layer 4: ChachaCuts.
-/
import Derived.Test.YtgolndfimhogoaaChacha4
import Derived.Test.YtgolndfimhogoaaOpenKey
import Derived.Deep.Cut
namespace Go.Proofs.Ytgolndfimhogoaa
open Go Go.RowKit
set_option linter.unusedSimpArgs false


theorem strN_add (key nonce : List UInt8) (n : UInt32) (q j : Nat) : strN key nonce n (q + j) = strN key nonce n q ++ strN key nonce (n + UInt32.ofNat q) j := by
  induction j with
  | zero => simp [strN]
  | succ j ih =>
    rw [← Nat.add_assoc, strN, ih, strN, List.append_assoc]
    congr 3
    rw [UInt32.ofNat_add, UInt32.add_assoc]
theorem streamF_cut (key nonce : List UInt8) (n : UInt32) (q m : Nat) (h : 64 * q ≤ m) : streamF key nonce n m = strN key nonce n q ++ streamF key nonce (n + UInt32.ofNat q) (m - 64 * q) := by
  unfold streamF
  rw [show (m + 63) / 64 = q + (m - 64 * q + 63) / 64 by omega, strN_add, List.take_append, List.take_of_length_le (by rw [strN_len]; exact h), strN_len]
theorem streamF_whole (key nonce : List UInt8) (n : UInt32) (q : Nat) : streamF key nonce n (64 * q) = strN key nonce n q := by
  unfold streamF
  rw [show (64 * q + 63) / 64 = q by omega, List.take_of_length_le (by rw [strN_len]; omega)]
theorem crypt_cut (key nonce : List UInt8) (n : UInt32) (bs : List UInt8) (q : Nat) (h : 64 * q ≤ bs.length) :
    cryptF key nonce n (bs.take (64 * q)) ++ cryptF key nonce (n + UInt32.ofNat q) (bs.drop (64 * q)) = cryptF key nonce n bs := by
  have e : cryptF key nonce n bs = xorF (bs.take (64 * q) ++ bs.drop (64 * q)) (streamF key nonce n bs.length) := by rw [List.take_append_drop]; rfl
  rw [e, streamF_cut key nonce n q _ h]
  unfold cryptF xorF
  rw [List.length_take, Nat.min_eq_left h, streamF_whole, List.length_drop]
  refine (List.zipWith_append (by rw [List.length_take, strN_len]; omega)).symm

theorem SB.from {w : World} {A : Option Addr} {l c k : Nat} {bs : List UInt8} (h : SB w A l c bs) (hk : k ≤ l) : SB w (if c = k then A else A.map (·.add k)) (l - k) (c - k) (bs.drop k) := by
  obtain ⟨h1, h2, h3, h4, h5⟩ := h
  refine ⟨by rw [List.length_map, List.length_drop, ← h1, List.length_map], by omega, by omega, fun e => ?_, fun hpos => ?_⟩
  · by_cases hc : c = k
    · omega
    · rw [if_neg hc] at e
      cases A with
      | none => have := h4 rfl; omega
      | some a => cases e
  · obtain ⟨b, off, rfl, hb, hcell⟩ := h5 (by omega)
    refine ⟨b, off + k, by rw [if_neg (by omega), Option.map_some, add_zero_spot], hb, fun j hj => ?_⟩
    rw [Nat.add_assoc, hcell (k + j) (by omega), List.map_drop, List.getElem?_drop]

end Go.Proofs.Ytgolndfimhogoaa
