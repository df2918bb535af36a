/-
  Bytes as a number: plain laws.
-/
import Derived.Test.YthcmdjaccjghjaaBits2
namespace Go.Proofs.Ythcmdjaccjghjaa
open Go Go.RowKit

/-- Bytes as a number, the lowest one first. -/
def leN : List UInt8 → Nat
  | [] => 0
  | b :: bs => b.toNat + 256 * leN bs

theorem leN_append (xs ys : List UInt8) : leN (xs ++ ys) = leN xs + 256 ^ xs.length * leN ys := by
  induction xs with
  | nil => simp [leN]
  | cons x xs ih =>
    simp only [List.cons_append, leN, ih, List.length_cons, Nat.pow_succ, Nat.mul_add]
    rw [← Nat.mul_assoc, Nat.mul_comm 256 (256 ^ xs.length)]
    omega
theorem leN_snoc (xs : List UInt8) (c : UInt8) : leN (xs ++ [c]) = leN xs + 256 ^ xs.length * c.toNat := by
  rw [leN_append]; simp [leN]
theorem leN_lt (xs : List UInt8) : leN xs < 256 ^ xs.length := by
  induction xs with
  | nil => simp [leN]
  | cons x xs ih =>
    have := u8_lt x
    simp only [leN, List.length_cons, Nat.pow_succ]
    omega
theorem leN_take (xs : List UInt8) (k : Nat) (h : k < xs.length) : leN (xs.take (k + 1)) = leN (xs.take k) + 256 ^ k * xs[k].toNat := by
  rw [List.take_succ_eq_append_getElem h, leN_snoc, List.length_take, Nat.min_eq_left (by omega)]
theorem leN_mod (xs : List UInt8) (k : Nat) : leN xs % 256 ^ k = leN (xs.take k) := by
  by_cases h : k ≤ xs.length
  · have e : leN xs = leN (xs.take k) + 256 ^ k * leN (xs.drop k) := by
      have := leN_append (xs.take k) (xs.drop k)
      rw [List.take_append_drop, List.length_take, Nat.min_eq_left h] at this
      exact this
    have hl := leN_lt (xs.take k)
    rw [List.length_take, Nat.min_eq_left h] at hl
    rw [e, Nat.add_mul_mod_self_left, Nat.mod_eq_of_lt hl]
  · rw [List.take_of_length_le (by omega)]
    have hl := leN_lt xs
    exact Nat.mod_eq_of_lt (Nat.lt_of_lt_of_le hl (Nat.pow_le_pow_right (by omega) (by omega)))

theorem or_low (n : UInt64) (c : UInt8) : n * 256 ||| c.toUInt64 = n * 256 + c.toUInt64 := by
  apply UInt64.toNat_inj.1
  have hc := u8_lt c
  have hn := u64_lt n
  rw [UInt64.toNat_or, UInt64.toNat_add, UInt64.toNat_mul, UInt8.toNat_toUInt64]
  have e : (256 : UInt64).toNat = 256 := rfl
  rw [e]
  obtain ⟨m, hm, hm'⟩ : ∃ m, n.toNat * 256 % 2 ^ 64 = 2 ^ 8 * m ∧ m < 2 ^ 56 := ⟨n.toNat % 2 ^ 56, by omega, Nat.mod_lt _ (by omega)⟩
  rw [hm, ← Nat.two_pow_add_eq_or_of_lt (by omega)]
  rw [Nat.mod_eq_of_lt (by omega)]

theorem toU64_eq (c : UInt8) : c.toUInt64 = UInt64.ofNat c.toNat := by
  have := u8_lt c
  apply UInt64.toNat_inj.1
  rw [UInt8.toNat_toUInt64, UInt64.toNat_ofNat']
  omega

theorem bigF_eq (bs : List UInt8) : bigF bs = UInt64.ofNat (leN bs.reverse) := by
  have key : ∀ (bs : List UInt8) (n : Nat), bs.foldl (fun n c => n * 256 ||| c.toUInt64) (UInt64.ofNat n) = UInt64.ofNat (leN bs.reverse + 256 ^ bs.length * n) := by
    intro bs
    induction bs with
    | nil => intro n; simp [leN]
    | cons b bs ih =>
      intro n
      have e : UInt64.ofNat n * 256 ||| b.toUInt64 = UInt64.ofNat (n * 256 + b.toNat) := by
        rw [or_low, UInt64.ofNat_add, UInt64.ofNat_mul, toU64_eq]
        rfl
      rw [List.foldl_cons, e, ih, List.reverse_cons, leN_snoc, List.length_reverse, List.length_cons, Nat.pow_succ]
      congr 1
      rw [Nat.mul_add, Nat.mul_assoc, Nat.mul_comm n 256]
      omega
  have := key bs 0
  simpa [bigF] using this

theorem ofNat_mod64 (a : Nat) : UInt64.ofNat (a % 256 ^ 8) = UInt64.ofNat a := by
  apply UInt64.toNat_inj.1
  rw [UInt64.toNat_ofNat', UInt64.toNat_ofNat']
  show a % 2 ^ 64 % 2 ^ 64 = a % 2 ^ 64
  omega

theorem littleF_eq (bs : List UInt8) : littleF bs = UInt64.ofNat (leN (bs.take 8)) := by
  unfold littleF; rw [bigF_eq, List.reverse_reverse]
theorem bigF_last (bs : List UInt8) : bigF bs = UInt64.ofNat (leN (bs.reverse.take 8)) := by
  rw [bigF_eq, ← leN_mod, ofNat_mod64]

theorem byteAt_eq (n : UInt64) (i : Nat) : byteAt n i = UInt8.ofNat (n.toNat / 256 ^ i) := by
  have hn := u64_lt n
  unfold byteAt
  split
  · rename_i h
    have : n.toNat / 256 ^ i = 0 := Nat.div_eq_of_lt (Nat.lt_of_lt_of_le hn (by
      have := Nat.pow_le_pow_right (n := 256) (by omega) h
      exact Nat.le_trans (by decide) this))
    rw [this]; rfl
  · rename_i h
    apply UInt8.toNat_inj.1
    rw [UInt64.toNat_toUInt8, UInt64.toNat_shiftRight, UInt64.toNat_ofNat', UInt8.toNat_ofNat', Nat.shiftRight_eq_div_pow]
    rw [show 8 * i % 2 ^ 64 % 64 = 8 * i by omega, Nat.pow_mul]

theorem leN_putLittle (n : UInt64) (many : Nat) : leN (putLittleF n many) = n.toNat % 256 ^ many := by
  induction many with
  | zero => simp [putLittleF, leN, Nat.mod_one]
  | succ k ih =>
    unfold putLittleF at ih ⊢
    rw [List.range_succ, List.map_append, List.map_cons, List.map_nil, leN_snoc, ih, List.length_map, List.length_range, byteAt_eq, UInt8.toNat_ofNat', Nat.pow_succ 256]
    exact (Nat.mod_mul (x := n.toNat) (a := 256 ^ k) (b := 256)).symm

theorem leN_inj : ∀ (xs ys : List UInt8), xs.length = ys.length → leN xs = leN ys → xs = ys
  | [], [], _, _ => rfl
  | x :: xs, y :: ys, hl, h => by
    simp only [leN] at h
    have hx := u8_lt x
    have hy := u8_lt y
    have e1 : x.toNat = y.toNat := by omega
    have e2 : leN xs = leN ys := by omega
    rw [UInt8.toNat_inj.mp e1, leN_inj xs ys (by simpa using hl) e2]

theorem putBigF_reverse (n : UInt64) (k : Nat) : (putBigF n k).reverse = putLittleF n k := by unfold putBigF; rw [List.reverse_reverse]

end Go.Proofs.Ythcmdjaccjghjaa
