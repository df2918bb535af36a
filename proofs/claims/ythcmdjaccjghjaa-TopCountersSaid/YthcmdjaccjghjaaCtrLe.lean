/-
  Counters, in plain Lean: GCM's stream is the stream of counts from the second one on.
-/
import Derived.Test.YthcmdjaccjghjaaGcm3
import Derived.Test.YthcmdjaccjghjaaLe
import Derived.Test.YthcmdjaccjghjaaCount
namespace Go.Proofs.Ythcmdjaccjghjaa
open Go Go.RowKit
set_option linter.unusedSimpArgs false
set_option linter.unusedVariables false


theorem leN_countF (bs : List UInt8) (hb : bs.length = 16) (n : UInt64) : leN (countF bs n).reverse = (leN bs.reverse + n.toNat) % 340282366920938463463374607431768211456 := by
  have e : leN bs.reverse = leN (bs.drop 8).reverse + 256 ^ 8 * leN (bs.take 8).reverse := by
    have := leN_append (bs.drop 8).reverse (bs.take 8).reverse
    rw [← List.reverse_append, List.take_append_drop] at this
    rw [this]; simp [hb]
  have hL := leN_lt (bs.drop 8).reverse
  have hH := leN_lt (bs.take 8).reverse
  have hn := u64_lt n
  simp only [List.length_reverse, List.length_drop, List.length_take, hb] at hL hH
  have hl : (lowF bs n).toNat = (leN (bs.drop 8).reverse + n.toNat) % 18446744073709551616 := by
    unfold lowF; rw [bigF_eq, UInt64.toNat_add, UInt64.toNat_ofNat']; omega
  have hh : (highF bs n).toNat = (leN (bs.take 8).reverse + (leN (bs.drop 8).reverse + n.toNat) / 18446744073709551616) % 18446744073709551616 := by
    unfold highF; rw [bigF_eq, bigF_eq, UInt64.toNat_add, UInt64.toNat_ofNat', UInt64.toNat_ofNat', UInt64.toNat_ofNat']; omega
  unfold countF
  rw [List.reverse_append, putBigF_reverse, putBigF_reverse, leN_append, leN_putLittle, leN_putLittle, hl, hh, e]
  simp only [putLittleF, List.length_map, List.length_range]
  omega

theorem countF_len (bs : List UInt8) (n : UInt64) : (countF bs n).length = 16 := by unfold countF; simp [putBigF_len']
/-- A counter, gone on. -/
def cK (iv : List UInt8) : Nat → List UInt8
  | 0 => iv
  | k + 1 => countF (cK iv k) 1
/-- The stream of so many blocks. -/
def ksF (E : List UInt8 → List UInt8) (iv : List UInt8) : Nat → List UInt8
  | 0 => []
  | k + 1 => ksF E iv k ++ E (cK iv k)
theorem cK_len (iv : List UInt8) (h : iv.length = 16) : ∀ k, (cK iv k).length = 16
  | 0 => h
  | k + 1 => countF_len _ _
theorem ksF_len {E : List UInt8 → List UInt8} (hE : ∀ xs, (E xs).length = 16) (iv : List UInt8) : ∀ k, (ksF E iv k).length = 16 * k
  | 0 => rfl
  | k + 1 => by rw [ksF, List.length_append, ksF_len hE iv k, hE]; omega
theorem cK_succ (iv : List UInt8) : ∀ k, cK (countF iv 1) k = cK iv (k + 1)
  | 0 => rfl
  | k + 1 => by rw [cK, cK_succ iv k]; rfl
/-- A count of a counter whose last byte is small. -/
theorem count_small (p : List UInt8) (hp : p.length = 12) (j : Nat) (hj : j < 200) : countF (p ++ [0, 0, 0, UInt8.ofNat j]) 1 = p ++ [0, 0, 0, UInt8.ofNat (j + 1)] := by
  have hl : (p ++ [0, 0, 0, UInt8.ofNat j]).length = 16 := by simp [hp]
  have h1 := leN_countF (p ++ [0, 0, 0, UInt8.ofNat j]) hl 1
  have key : ∀ i : Nat, i < 250 → leN (p ++ [0, 0, 0, UInt8.ofNat i]).reverse = i + 4294967296 * leN p.reverse := fun i hi => by
    rw [List.reverse_append, leN_append]
    have : leN ([0, 0, 0, UInt8.ofNat i] : List UInt8).reverse = i := by
      simp only [List.reverse_cons, List.reverse_nil, List.nil_append, List.cons_append, leN]
      rw [UInt8.toNat_ofNat']
      have h0 : (0 : UInt8).toNat = 0 := rfl
      omega
    rw [this]
    simp
  have hlt : leN p.reverse < 79228162514264337593543950336 := by
    have := leN_lt p.reverse
    rw [List.length_reverse, hp] at this
    exact this
  have h2 : leN (countF (p ++ [0, 0, 0, UInt8.ofNat j]) 1).reverse = leN (p ++ [0, 0, 0, UInt8.ofNat (j + 1)]).reverse := by
    rw [h1, key j (by omega), key (j + 1) (by omega), show (1 : UInt64).toNat = 1 from rfl]
    omega
  have h3 := leN_inj _ _ (by rw [List.length_reverse, List.length_reverse, countF_len]; simp [hp]) h2
  exact List.reverse_inj.1 h3
theorem cK_first (p : List UInt8) (hp : p.length = 12) : ∀ k, k < 100 → cK (firstG p) k = p ++ [0, 0, 0, UInt8.ofNat (k + 1)]
  | 0, _ => rfl
  | k + 1, h => by rw [cK, cK_first p hp k (by omega), count_small p hp (k + 1) (by omega)]
theorem ctrN_first (p : List UInt8) (hp : p.length = 12) : ctrN (firstG p) = 1 := by
  unfold ctrN firstG
  rw [show 12 = p.length from hp.symm, List.drop_left]
  rfl
theorem put4 : ∀ i : Fin 100, putBigF (UInt64.ofNat ((1 : UInt32) + UInt32.ofNat i.val + 1).toNat) 4 = [0, 0, 0, UInt8.ofNat (i.val + 2)] := by decide +kernel
theorem fB_first (p : List UInt8) (hp : p.length = 12) : ∀ i, i < 90 → fB (firstG p) 1 (i + 1) = cK (countF (firstG p) 1) i
  | 0, _ => by
    rw [fB, fB, cK_succ, cK_first p hp 1 (by omega), put4 ⟨0, by omega⟩]
    unfold splice firstG
    rw [show (12 : Nat) = p.length from hp.symm, List.take_left, List.drop_of_length_le (by simp), List.append_nil]
  | i + 1, h => by
    rw [fB, fB_first p hp i (by omega), cK_succ, cK_succ, cK_first p hp (i + 1) (by omega), cK_first p hp (i + 1 + 1) (by omega), put4 ⟨i + 1, by omega⟩]
    unfold splice
    rw [show (12 : Nat) = p.length from hp.symm, List.take_left, List.drop_of_length_le (by simp), List.append_nil]
theorem oB_first (E : List UInt8 → List UInt8) (p : List UInt8) (hp : p.length = 12) : ∀ k, k < 90 → oB E (firstG p) 1 k = ksF E (countF (firstG p) 1) k
  | 0, _ => rfl
  | k + 1, h => by rw [oB, ksF, oB_first E p hp k (by omega), fB_first p hp k (by omega)]
theorem xor_take (b x : List UInt8) : xorF b (x.take b.length) = xorF b x := by
  unfold xorF
  apply List.ext_getElem
  · simp
  · intro i h1 h2
    simp [List.getElem_zipWith]
/-- What counter mode makes of bytes. -/
def ctrF (E : List UInt8 → List UInt8) (iv b : List UInt8) : List UInt8 := xorF b (ksF E iv ((b.length + 15) / 16))
/-- GCM's text is counter mode's from the second count on. -/
theorem gcm_ctr (E : List UInt8 → List UInt8) (p b : List UInt8) (hp : p.length = 12) (hb : b.length ≤ 1000) : xorF b (strmF E (firstG p) b.length) = ctrF E (countF (firstG p) 1) b := by
  unfold strmF ctrF
  rw [xor_take, ctrN_first p hp, oB_first E p hp _ (by omega)]
end Go.Proofs.Ythcmdjaccjghjaa
