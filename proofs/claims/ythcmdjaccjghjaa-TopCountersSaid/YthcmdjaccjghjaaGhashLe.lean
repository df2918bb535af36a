/-
  The product of blocks is the product in the field. Plain theorems: no program in sight.
-/
import Derived.Test.YthcmdjaccjghjaaGhash3
import Derived.Test.YthcmdjaccjghjaaLe
namespace Go.Proofs.Ythcmdjaccjghjaa
open Go Go.RowKit

/-- An element as a number: the first coefficient is the highest bit. -/
def val (a b : UInt64) : Nat := 18446744073709551616 * a.toNat + b.toNat
def NB (xs : List UInt8) : Nat := leN xs.reverse

theorem val_lt (a b : UInt64) : val a b < 2 ^ 128 := by
  have ha := u64_lt a
  have hb := u64_lt b
  unfold val; omega
theorem val_bit (a b : UInt64) (i : Nat) : (val a b).testBit i = if i < 64 then b.toNat.testBit i else a.toNat.testBit (i - 64) :=
  Nat.testBit_two_pow_mul_add a.toNat (i := 64) (u64_lt b) i
theorem bit_high (a : UInt64) (i : Nat) (h : 64 ≤ i) : a.toNat.testBit i = false :=
  Nat.testBit_lt_two_pow (Nat.lt_of_lt_of_le (u64_lt a) (by rw [show 18446744073709551616 = 2 ^ 64 from rfl]; exact Nat.pow_le_pow_right (by omega) h))
theorem val_xor (a b c d : UInt64) : val (a ^^^ c) (b ^^^ d) = val a b ^^^ val c d := by
  apply Nat.eq_of_testBit_eq
  intro i
  rw [Nat.testBit_xor, val_bit, val_bit, val_bit, UInt64.toNat_xor, UInt64.toNat_xor, Nat.testBit_xor, Nat.testBit_xor]
  split <;> rfl
theorem val_shr (a b : UInt64) : val (a >>> 1) ((b >>> 1) ||| (a <<< 63)) = val a b >>> 1 := by
  apply Nat.eq_of_testBit_eq
  intro i
  rw [Nat.testBit_shiftRight, val_bit, val_bit, UInt64.toNat_or, UInt64.toNat_shiftRight, UInt64.toNat_shiftRight, UInt64.toNat_shiftLeft]
  have e1 : (1 : UInt64).toNat % 64 = 1 := rfl
  have e2 : (63 : UInt64).toNat % 64 = 63 := rfl
  rw [e1, e2, Nat.testBit_or, Nat.testBit_shiftRight, Nat.testBit_shiftRight, Nat.testBit_mod_two_pow, Nat.testBit_shiftLeft]
  by_cases h : i < 64
  · rw [if_pos h]
    by_cases h63 : i = 63
    · subst h63
      rw [bit_high b 64 (by omega)]
      simp
    · rw [if_pos (by omega)]
      have : ¬ i ≥ 63 := by omega
      simp [this]
  · rw [if_neg h, if_neg (by omega)]
    congr 1; omega
theorem bit_zero (b : UInt64) : (b &&& 1 = 1) ↔ b.toNat.testBit 0 = true := by
  rw [← UInt64.toNat_inj, UInt64.toNat_and, show (1 : UInt64).toNat = 1 from rfl, Nat.and_one_is_mod]
  simp [Nat.testBit_zero]
theorem val_on (a b : UInt64) : val (onA a b) (onB a b) = Gf.on (val a b) := by
  have h0 : (val a b).testBit 0 = b.toNat.testBit 0 := by rw [val_bit, if_pos (by omega)]
  unfold Gf.on onA onB
  rw [h0]
  by_cases hb : b &&& 1 = 1
  · rw [if_pos hb, (bit_zero b).1 hb, cond_true, ← val_shr]
    have := val_xor (a >>> 1) ((b >>> 1) ||| (a <<< 63)) 16212958658533785600 0
    rw [UInt64.xor_zero] at this
    rw [this]
    rfl
  · have hf : b.toNat.testBit 0 = false := by
      cases h : b.toNat.testBit 0 with
      | false => rfl
      | true => exact absurd ((bit_zero b).2 h) hb
    rw [if_neg hb, hf, cond_false, ← val_shr]
theorem shr_bit (a : UInt64) (j : Nat) (h : j < 64) : ((a >>> UInt64.ofNat j) &&& 1 == 1) = a.toNat.testBit j := by
  rw [Bool.eq_iff_iff, beq_iff_eq, bit_zero, UInt64.toNat_shiftRight, UInt64.toNat_ofNat', Nat.testBit_shiftRight]
  have : j % 2 ^ 64 % 64 = j := by omega
  rw [this, Nat.add_zero]
theorem val_bitE (a b : UInt64) (i : Nat) (h : i < 128) : bitE a b i = (val a b).testBit (127 - i) := by
  unfold bitE
  rw [val_bit]
  by_cases hi : i < 64
  · rw [if_pos hi, if_neg (by omega), shr_bit a _ (by omega)]
    congr 1; omega
  · rw [if_neg hi, if_pos (by omega), shr_bit b _ (by omega)]
theorem stAt_val (a b c d : UInt64) (k : Nat) (hk : k ≤ 128) :
    val (stAt a b c d k).oa (stAt a b c d k).ob ^^^ Gf.mulB (val a b) (128 - k) (val (stAt a b c d k).fa (stAt a b c d k).fb) = Gf.mul (val a b) (val c d) := by
  induction k with
  | zero =>
    show val 0 0 ^^^ Gf.mulB (val a b) 128 (val c d) = _
    rw [show val 0 0 = 0 from rfl, Nat.zero_xor]; rfl
  | succ k ih =>
    rw [← ih (by omega), show 128 - k = (128 - (k + 1)) + 1 by omega]
    obtain ⟨fa, fb, oa, ob, hst⟩ : ∃ fa fb oa ob, stAt a b c d k = ⟨fa, fb, oa, ob⟩ := ⟨_, _, _, _, rfl⟩
    rw [stAt, hst]
    simp only [stStep, Gf.mulB]
    rw [val_on, show 128 - (k + 1) = 127 - k by omega, ← val_bitE a b k (by omega)]
    cases bitE a b k with
    | false => simp
    | true =>
      simp only [if_true, cond_true]
      rw [val_xor, Nat.xor_assoc]
theorem mul_val (a b c d : UInt64) : val (mulA a b c d) (mulBB a b c d) = Gf.mul (val a b) (val c d) := by
  have := stAt_val a b c d 128 (Nat.le_refl _)
  rw [Nat.sub_self] at this
  rw [← this]
  exact (Nat.xor_zero _).symm

theorem NB_split (xs : List UInt8) (h : xs.length = 16) : NB xs = val (hiF xs) (loF xs) := by
  have e : xs.reverse = (xs.drop 8).reverse ++ (xs.take 8).reverse := by rw [← List.reverse_append, List.take_append_drop]
  have l1 : (xs.drop 8).reverse.length = 8 := by simp [h]
  have l2 : (xs.take 8).reverse.length = 8 := by simp [h]
  have b1 := leN_lt (xs.drop 8).reverse
  have b2 := leN_lt (xs.take 8).reverse
  rw [l1] at b1
  rw [l2] at b2
  unfold NB val hiF loF
  rw [bigF_eq, bigF_eq, UInt64.toNat_ofNat', UInt64.toNat_ofNat', Nat.mod_eq_of_lt b1, Nat.mod_eq_of_lt b2, e, leN_append, l1]
  omega
theorem NB_lt (xs : List UInt8) (h : xs.length = 16) : NB xs < 2 ^ 128 := by rw [NB_split xs h]; exact val_lt _ _
theorem NB_inj (xs ys : List UInt8) (hx : xs.length = 16) (hy : ys.length = 16) (h : NB xs = NB ys) : xs = ys := by
  have := leN_inj xs.reverse ys.reverse (by simp [hx, hy]) h
  exact List.reverse_inj.1 this
theorem NB_block (a b : UInt64) : NB (blockF a b) = val a b := by
  unfold NB blockF
  rw [List.reverse_append, putBigF_reverse, putBigF_reverse, leN_append, leN_putLittle, leN_putLittle]
  have ha := u64_lt a
  have hb := u64_lt b
  have hl : (putLittleF b 8).length = 8 := by simp [putLittleF]
  rw [hl]
  unfold val
  omega
theorem NB_mul (xs ys : List UInt8) (hx : xs.length = 16) (hy : ys.length = 16) : NB (mulF xs ys) = Gf.mul (NB xs) (NB ys) := by
  unfold mulF
  rw [NB_block, mul_val, NB_split xs hx, NB_split ys hy]

/-! ### The laws of the product of blocks -/
theorem mulF_comm (xs ys : List UInt8) (hx : xs.length = 16) (hy : ys.length = 16) : mulF xs ys = mulF ys xs :=
  NB_inj _ _ (mulF_len _ _) (mulF_len _ _) (by rw [NB_mul xs ys hx hy, NB_mul ys xs hy hx, Gf.mul_comm _ _ (NB_lt xs hx) (NB_lt ys hy)])
theorem mulF_assoc (xs ys zs : List UInt8) (hx : xs.length = 16) (hy : ys.length = 16) (hz : zs.length = 16) : mulF (mulF xs ys) zs = mulF xs (mulF ys zs) :=
  NB_inj _ _ (mulF_len _ _) (mulF_len _ _) (by
    rw [NB_mul _ zs (mulF_len _ _) hz, NB_mul xs ys hx hy, NB_mul xs _ hx (mulF_len _ _), NB_mul ys zs hy hz, Gf.mul_assoc _ _ _ (NB_lt xs hx) (NB_lt ys hy) (NB_lt zs hz)])
theorem NB_xor (xs ys : List UInt8) (h : xs.length = ys.length) : NB (List.zipWith (· ^^^ ·) xs ys) = NB xs ^^^ NB ys := by
  have key : ∀ (xs ys : List UInt8), xs.length = ys.length → leN (List.zipWith (· ^^^ ·) xs ys) = leN xs ^^^ leN ys := by
    intro xs
    induction xs with
    | nil => intro ys h; cases ys with | nil => rfl | cons _ _ => simp at h
    | cons x xs ih =>
      intro ys h
      cases ys with
      | nil => simp at h
      | cons y ys =>
        have ih' := ih ys (by simpa using h)
        show (x ^^^ y).toNat + 256 * leN (List.zipWith (· ^^^ ·) xs ys) = (x.toNat + 256 * leN xs) ^^^ (y.toNat + 256 * leN ys)
        rw [ih']
        apply Nat.eq_of_testBit_eq
        intro i
        have hx : x.toNat < 2 ^ 8 := x.toNat_lt
        have hy : y.toNat < 2 ^ 8 := y.toNat_lt
        have hxy : (x ^^^ y).toNat < 2 ^ 8 := (x ^^^ y).toNat_lt
        rw [Nat.testBit_xor, Nat.add_comm, Nat.add_comm x.toNat, Nat.add_comm y.toNat, show (256 : Nat) = 2 ^ 8 from rfl, Nat.testBit_two_pow_mul_add _ hxy, Nat.testBit_two_pow_mul_add _ hx, Nat.testBit_two_pow_mul_add _ hy, UInt8.toNat_xor]
        split <;> rw [Nat.testBit_xor]
  unfold NB
  rw [← key _ _ (by simpa using h), List.reverse_zipWith h]
theorem zip_len (xs ys : List UInt8) (hx : xs.length = 16) (hy : ys.length = 16) : (List.zipWith (· ^^^ ·) xs ys).length = 16 := by simp [hx, hy]
theorem mulF_xor (xs ys zs : List UInt8) (hx : xs.length = 16) (hy : ys.length = 16) (hz : zs.length = 16) :
    mulF xs (List.zipWith (· ^^^ ·) ys zs) = List.zipWith (· ^^^ ·) (mulF xs ys) (mulF xs zs) :=
  NB_inj _ _ (mulF_len _ _) (zip_len _ _ (mulF_len _ _) (mulF_len _ _)) (by
    rw [NB_mul xs _ hx (zip_len _ _ hy hz), NB_xor ys zs (by rw [hy, hz]), Gf.mul_xorr, NB_xor _ _ (by rw [mulF_len, mulF_len]), NB_mul xs ys hx hy, NB_mul xs zs hx hz])
def oneB : List UInt8 := 128 :: List.replicate 15 0
def zeroB : List UInt8 := List.replicate 16 0
theorem NB_one : NB oneB = Gf.one := by decide +kernel
theorem NB_zero : NB zeroB = 0 := by decide +kernel
theorem mulF_one (xs : List UInt8) (hx : xs.length = 16) : mulF xs oneB = xs :=
  NB_inj _ _ (mulF_len _ _) hx (by rw [NB_mul xs _ hx rfl, NB_one, Gf.mul_one _ (NB_lt xs hx)])
theorem mulF_zero (xs : List UInt8) (hx : xs.length = 16) : mulF xs zeroB = zeroB :=
  NB_inj _ _ (mulF_len _ _) rfl (by rw [NB_mul xs _ hx rfl, NB_zero, Gf.mul_zero])
theorem mulF_apart (xs ys zs : List UInt8) (hx : xs.length = 16) (hy : ys.length = 16) (hz : zs.length = 16) (h0 : zs ≠ zeroB) : mulF xs zs = mulF ys zs ↔ xs = ys := by
  constructor
  · intro h
    have e := congrArg NB h
    rw [NB_mul xs zs hx hz, NB_mul ys zs hy hz] at e
    refine NB_inj _ _ hx hy (Gf.apart _ _ _ (NB_lt xs hx) (NB_lt ys hy) (NB_lt zs hz) (fun hn => h0 (NB_inj _ _ hz rfl (hn.trans NB_zero.symm))) e)
  · intro h; rw [h]

end Go.Proofs.Ythcmdjaccjghjaa
