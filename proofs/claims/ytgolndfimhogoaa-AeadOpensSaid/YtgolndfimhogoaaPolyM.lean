/-
  PolyV, PolyW, PolyR1, PolyR2, PolyR3, PolyR4, PolyR5 in one text.
-/
import Derived.Test.YtgolndfimhogoaaPolyLe
import Derived.Test.YtgolndfimhogoaaPoly6
import Derived.Deep.Cut
import Derived.Test.YtgolndfimhogoaaRef1
import Derived.Lib.MinMax
namespace Go.Proofs.Ytgolndfimhogoaa
open Go Go.RowKit
set_option linter.unusedSimpArgs false
set_option linter.unusedVariables false

/-- The prime. -/
def pP : Nat := 1361129467683753853853498429727072845819
def v3 (h : Lim3) : Nat := h.x.toNat + 18446744073709551616 * h.y.toNat + 340282366920938463463374607431768211456 * h.z.toNat

theorem addH_v3 (h : Lim3) (l hh hi : UInt64) (hz : h.z.toNat + hi.toNat ≤ 18446744073709551600) :
    v3 (addH h l hh hi) = v3 h + l.toNat + 18446744073709551616 * hh.toNat + 340282366920938463463374607431768211456 * hi.toNat := by
  have h0 := u64_lt h.x; have h1 := u64_lt h.y; have h2 := u64_lt h.z; have h3 := u64_lt l; have h4 := u64_lt hh; have h5 := u64_lt hi
  have c0 := adC_toNat h.x l 0 (by decide)
  have c1 := adC_toNat h.y hh (adC h.x l 0) (adC_le _ _ _ (by decide))
  have e0 := adC_le h.x l 0 (by decide)
  have e1 := adC_le h.y hh (adC h.x l 0) (adC_le _ _ _ (by decide))
  have z0 : (0 : UInt64).toNat = 0 := rfl
  unfold v3 addH ad0 ad1 ad2
  simp only [UInt64.toNat_add]
  rw [z0] at c0
  generalize (adC h.x l 0).toNat = a at *
  generalize (adC h.y hh (adC h.x l 0)).toNat = b at *
  omega

theorem mulT_v (r0 r1 h0 h1 h2 : UInt64) (hr0 : r0.toNat < 1152921504606846976) (hr1 : r1.toNat < 1152921504606846976) (hz : h2.toNat ≤ 7) :
    (mulT r0 r1 h0 h1 h2).x0.toNat + 18446744073709551616 * (mulT r0 r1 h0 h1 h2).x1.toNat + 340282366920938463463374607431768211456 * (mulT r0 r1 h0 h1 h2).x2.toNat + 6277101735386680763835789423207666416102355444464034512896 * (mulT r0 r1 h0 h1 h2).x3.toNat =
      (h0.toNat + 18446744073709551616 * h1.toNat + 340282366920938463463374607431768211456 * h2.toNat) * (r0.toNat + 18446744073709551616 * r1.toNat) := by
  have e : (h0.toNat + 18446744073709551616 * h1.toNat + 340282366920938463463374607431768211456 * h2.toNat) * (r0.toNat + 18446744073709551616 * r1.toNat) =
      h0.toNat * r0.toNat + 18446744073709551616 * (h1.toNat * r0.toNat + h0.toNat * r1.toNat) + 340282366920938463463374607431768211456 * (h2.toNat * r0.toNat + h1.toNat * r1.toNat) + 6277101735386680763835789423207666416102355444464034512896 * (h2.toNat * r1.toNat) := by
    have f1 : 18446744073709551616 * h1.toNat * r0.toNat = 18446744073709551616 * (h1.toNat * r0.toNat) := Nat.mul_assoc _ _ _
    have f2 : 340282366920938463463374607431768211456 * h2.toNat * r0.toNat = 340282366920938463463374607431768211456 * (h2.toNat * r0.toNat) := Nat.mul_assoc _ _ _
    have f3 : h0.toNat * (18446744073709551616 * r1.toNat) = 18446744073709551616 * (h0.toNat * r1.toNat) := Nat.mul_left_comm _ _ _
    have f4 : 18446744073709551616 * h1.toNat * (18446744073709551616 * r1.toNat) = 18446744073709551616 * 18446744073709551616 * (h1.toNat * r1.toNat) := Nat.mul_mul_mul_comm _ _ _ _
    have f5 : 340282366920938463463374607431768211456 * h2.toNat * (18446744073709551616 * r1.toNat) = 340282366920938463463374607431768211456 * 18446744073709551616 * (h2.toNat * r1.toNat) := Nat.mul_mul_mul_comm _ _ _ _
    rw [Nat.mul_add, Nat.add_mul, Nat.add_mul, Nat.add_mul, Nat.add_mul, f1, f2, f3, f4, f5]
    omega
  rw [e]
  have l0 := u64_lt h0; have l1 := u64_lt h1
  have b00 : h0.toNat * r0.toNat ≤ 18446744073709551615 * 1152921504606846975 := Nat.mul_le_mul (by omega) (by omega)
  have b10 : h1.toNat * r0.toNat ≤ 18446744073709551615 * 1152921504606846975 := Nat.mul_le_mul (by omega) (by omega)
  have b01 : h0.toNat * r1.toNat ≤ 18446744073709551615 * 1152921504606846975 := Nat.mul_le_mul (by omega) (by omega)
  have b11 : h1.toNat * r1.toNat ≤ 18446744073709551615 * 1152921504606846975 := Nat.mul_le_mul (by omega) (by omega)
  have b20 : h2.toNat * r0.toNat ≤ 7 * 1152921504606846975 := Nat.mul_le_mul hz (by omega)
  have b21 : h2.toNat * r1.toNat ≤ 7 * 1152921504606846975 := Nat.mul_le_mul hz (by omega)
  have z0 : (0 : UInt64).toNat = 0 := rfl
  -- the middle sums
  have k1 := adC_toNat (h1 * r0) (h0 * r1) 0 (by decide)
  have k2 := adC_toNat (h2 * r0) (h1 * r1) 0 (by decide)
  have n10 : (h1 * r0).toNat = h1.toNat * r0.toNat % 18446744073709551616 := UInt64.toNat_mul _ _
  have n01 : (h0 * r1).toNat = h0.toNat * r1.toNat % 18446744073709551616 := UInt64.toNat_mul _ _
  have n20 : (h2 * r0).toNat = h2.toNat * r0.toNat % 18446744073709551616 := UInt64.toNat_mul _ _
  have n11 : (h1 * r1).toNat = h1.toNat * r1.toNat % 18446744073709551616 := UInt64.toNat_mul _ _
  have n00 : (h0 * r0).toNat = h0.toNat * r0.toNat % 18446744073709551616 := UInt64.toNat_mul _ _
  have n21 : (h2 * r1).toNat = h2.toNat * r1.toNat % 18446744073709551616 := UInt64.toNat_mul _ _
  have m10 := mulH_toNat h1 r0
  have m01 := mulH_toNat h0 r1
  have m20 := mulH_toNat h2 r0
  have m11 := mulH_toNat h1 r1
  have m00 := mulH_toNat h0 r0
  generalize h0.toNat * r0.toNat = p00 at *
  generalize h1.toNat * r0.toNat = p10 at *
  generalize h0.toNat * r1.toNat = p01 at *
  generalize h1.toNat * r1.toNat = p11 at *
  generalize h2.toNat * r0.toNat = p20 at *
  generalize h2.toNat * r1.toNat = p21 at *
  obtain ⟨b0, hb0⟩ : ∃ x, h1 * r0 + h0 * r1 = x := ⟨_, rfl⟩
  obtain ⟨b1, hb1⟩ : ∃ x, mulH h1 r0 + mulH h0 r1 + adC (h1 * r0) (h0 * r1) 0 = x := ⟨_, rfl⟩
  obtain ⟨c0, hc0⟩ : ∃ x, h2 * r0 + h1 * r1 = x := ⟨_, rfl⟩
  obtain ⟨c1, hc1⟩ : ∃ x, mulH h2 r0 + mulH h1 r1 + adC (h2 * r0) (h1 * r1) 0 = x := ⟨_, rfl⟩
  have B0 : b0.toNat = (p10 + p01) % 18446744073709551616 := by rw [← hb0, UInt64.toNat_add, n10, n01]; omega
  have B1 : b1.toNat = (p10 + p01) / 18446744073709551616 := by rw [← hb1, UInt64.toNat_add, UInt64.toNat_add, k1, m10, m01, n10, n01, z0]; omega
  have C0 : c0.toNat = (p20 + p11) % 18446744073709551616 := by rw [← hc0, UInt64.toNat_add, n20, n11]; omega
  have C1 : c1.toNat = (p20 + p11) / 18446744073709551616 := by rw [← hc1, UInt64.toNat_add, UInt64.toNat_add, k2, m20, m11, n20, n11, z0]; omega
  have k3 := adC_toNat b0 (mulH h0 r0) 0 (by decide)
  have k4 := adC_toNat c0 b1 (adC b0 (mulH h0 r0) 0) (adC_le _ _ _ (by decide))
  have X0 : (mulT r0 r1 h0 h1 h2).x0.toNat = p00 % 18446744073709551616 := n00
  have X1 : (mulT r0 r1 h0 h1 h2).x1.toNat = (b0.toNat + p00 / 18446744073709551616) % 18446744073709551616 := by
    show (h1 * r0 + h0 * r1 + mulH h0 r0).toNat = _
    rw [hb0, UInt64.toNat_add, m00]
  have X2 : (mulT r0 r1 h0 h1 h2).x2.toNat = (c0.toNat + b1.toNat + (b0.toNat + p00 / 18446744073709551616) / 18446744073709551616) % 18446744073709551616 := by
    show (h2 * r0 + h1 * r1 + (mulH h1 r0 + mulH h0 r1 + adC (h1 * r0) (h0 * r1) 0) + adC (h1 * r0 + h0 * r1) (mulH h0 r0) 0).toNat = _
    rw [hb0, hb1, hc0, UInt64.toNat_add, UInt64.toNat_add, k3, m00, z0]; omega
  have X3 : (mulT r0 r1 h0 h1 h2).x3.toNat = (p21 % 18446744073709551616 + c1.toNat + (c0.toNat + b1.toNat + (b0.toNat + p00 / 18446744073709551616) / 18446744073709551616) / 18446744073709551616) % 18446744073709551616 := by
    show (h2 * r1 + (mulH h2 r0 + mulH h1 r1 + adC (h2 * r0) (h1 * r1) 0) + adC (h2 * r0 + h1 * r1) (mulH h1 r0 + mulH h0 r1 + adC (h1 * r0) (h0 * r1) 0) (adC (h1 * r0 + h0 * r1) (mulH h0 r0) 0)).toNat = _
    rw [hb0, hb1, hc0, hc1, UInt64.toNat_add, UInt64.toNat_add, k4, k3, m00, n21, z0]; omega
  rw [X0, X1, X2, X3]
  clear X0 X1 X2 X3 k1 k2 k3 k4 n10 n01 n20 n11 n00 n21 m10 m01 m20 m11 m00 hb0 hb1 hc0 hc1 e
  have e1 : b0.toNat + 18446744073709551616 * b1.toNat = p10 + p01 := by omega
  have e2 : c0.toNat + 18446744073709551616 * c1.toNat = p20 + p11 := by omega
  have l0 := u64_lt b0; have l2 := u64_lt c0
  have l1 : b1.toNat ≤ 2305843009213693952 := by omega
  have l3 : c1.toNat ≤ 1152921504606846977 := by omega
  clear B0 B1 C0 C1
  generalize b0.toNat = x at *
  generalize b1.toNat = y at *
  generalize c0.toNat = z at *
  generalize c1.toNat = u at *
  obtain ⟨q, hq⟩ : ∃ q, q = p00 / 18446744073709551616 := ⟨_, rfl⟩
  have hq1 : p00 = p00 % 18446744073709551616 + 18446744073709551616 * q := by omega
  generalize p00 % 18446744073709551616 = r at *
  rw [← hq]
  obtain ⟨k, hk⟩ : ∃ k, k = (x + q) / 18446744073709551616 := ⟨_, rfl⟩
  have hk1 : x + q = (x + q) % 18446744073709551616 + 18446744073709551616 * k := by omega
  have hkl : k ≤ 1 := by omega
  generalize (x + q) % 18446744073709551616 = s1 at *
  rw [← hk]
  obtain ⟨j, hj⟩ : ∃ j, j = (z + y + k) / 18446744073709551616 := ⟨_, rfl⟩
  have hj1 : z + y + k = (z + y + k) % 18446744073709551616 + 18446744073709551616 * j := by omega
  have hjl : j ≤ 1 := by omega
  generalize (z + y + k) % 18446744073709551616 = s2 at *
  rw [← hj]
  rw [Nat.mod_eq_of_lt (show p21 < 18446744073709551616 by omega), Nat.mod_eq_of_lt (show p21 + u + j < 18446744073709551616 by omega)]
  omega
theorem and3 (x : UInt64) : (x &&& 3).toNat = x.toNat % 4 := by
  rw [UInt64.toNat_and]
  exact Nat.and_two_pow_sub_one_eq_mod x.toNat 2
theorem andn3 (x : UInt64) : (x &&& ~~~ (3 : UInt64)).toNat = 4 * (x.toNat / 4) := by
  have hx := u64_lt x
  have e : x &&& ~~~ (3 : UInt64) = (x >>> 2) <<< 2 := by
    apply UInt64.toBitVec_inj.1
    show x.toBitVec &&& ~~~ (3#64) = (x.toBitVec >>> (2 : Nat)) <<< (2 : Nat)
    apply BitVec.eq_of_getLsbD_eq
    intro i hi
    simp only [BitVec.getLsbD_and, BitVec.getLsbD_not, BitVec.getLsbD_shiftLeft, BitVec.getLsbD_ushiftRight, hi, decide_true, Bool.true_and]
    by_cases h : i < 2
    · have : i = 0 ∨ i = 1 := by omega
      rcases this with rfl | rfl <;> simp
    · have h3 : (3#64).getLsbD i = false := by
        rw [BitVec.getLsbD_ofNat, show (3 : Nat) = 2 ^ 2 - 1 from rfl, Nat.testBit_two_pow_sub_one]
        simp [h]
      rw [h3]
      simp only [h, Bool.not_false, Bool.and_true, decide_false, Bool.true_and]
      rw [show 2 + (i - 2) = i by omega]
  rw [e, UInt64.toNat_shiftLeft, UInt64.toNat_shiftRight]
  show (x.toNat >>> 2) <<< 2 % 18446744073709551616 = _
  rw [Nat.shiftRight_eq_div_pow, Nat.shiftLeft_eq]
  omega
theorem top_or (m x : UInt64) : ((m >>> 2) ||| (x <<< 62)).toNat = m.toNat / 4 + 4611686018427387904 * (x.toNat % 4) := by
  have hm := u64_lt m
  rw [UInt64.toNat_or, UInt64.toNat_shiftLeft, UInt64.toNat_shiftRight]
  show (m.toNat >>> 2) ||| ((x.toNat <<< 62) % 18446744073709551616) = _
  rw [Nat.shiftRight_eq_div_pow, Nat.shiftLeft_eq]
  have e : x.toNat * 2 ^ 62 % 18446744073709551616 = 2 ^ 62 * (x.toNat % 4) := by omega
  rw [e, Nat.or_comm, ← Nat.two_pow_add_eq_or_of_lt (by omega)]
  omega
theorem shr2 (x : UInt64) : (x >>> 2).toNat = x.toNat / 4 := by
  rw [UInt64.toNat_shiftRight]
  show x.toNat >>> 2 = _
  rw [Nat.shiftRight_eq_div_pow]
/-- Taken back in: what is above 2^130, five times. -/
def foldN (t : Nat) : Nat := t % 1361129467683753853853498429727072845824 + 5 * (t / 1361129467683753853853498429727072845824)
theorem fold_mod (t : Nat) : foldN t % pP = t % pP := by unfold foldN pP; omega
theorem multF_v3 (r0 r1 : UInt64) (h : Lim3) (hr0 : r0.toNat < 1152921504606846976) (hr1 : r1.toNat < 1152921504606846976) (hz : h.z.toNat ≤ 7) :
    v3 (multF r0 r1 h) = foldN (v3 h * (r0.toNat + 18446744073709551616 * r1.toNat)) ∧ (multF r0 r1 h).z.toNat ≤ 4 := by
  have ht := mulT_v r0 r1 h.x h.y h.z hr0 hr1 hz
  have hb : v3 h * (r0.toNat + 18446744073709551616 * r1.toNat) ≤ 2722258935367507707706996859454145691647 * 21267647932558653966460912964485513215 := Nat.mul_le_mul (by unfold v3; have := u64_lt h.x; have := u64_lt h.y; omega) (by omega)
  change _ = v3 h * _ at ht
  generalize v3 h * (r0.toNat + 18446744073709551616 * r1.toNat) = t at *
  have l0 := u64_lt (mulT r0 r1 h.x h.y h.z).x0; have l1 := u64_lt (mulT r0 r1 h.x h.y h.z).x1; have l2 := u64_lt (mulT r0 r1 h.x h.y h.z).x2; have l3 := u64_lt (mulT r0 r1 h.x h.y h.z).x3
  have e : multF r0 r1 h = addH (addH ⟨(mulT r0 r1 h.x h.y h.z).x0, (mulT r0 r1 h.x h.y h.z).x1, (mulT r0 r1 h.x h.y h.z).x2 &&& 3⟩ ((mulT r0 r1 h.x h.y h.z).x2 &&& ~~~ 3) (mulT r0 r1 h.x h.y h.z).x3 0) ((((mulT r0 r1 h.x h.y h.z).x2 &&& ~~~ 3) >>> 2) ||| ((mulT r0 r1 h.x h.y h.z).x3 <<< 62)) ((mulT r0 r1 h.x h.y h.z).x3 >>> 2) 0 := rfl
  rw [e]
  generalize mulT r0 r1 h.x h.y h.z = T at *
  obtain ⟨x0, x1, x2, x3⟩ := T
  simp only at *
  have z0 : (0 : UInt64).toNat = 0 := rfl
  have a3 := and3 x2
  have an := andn3 x2
  have s1 := addH_v3 ⟨x0, x1, x2 &&& 3⟩ (x2 &&& ~~~ 3) x3 0 (by rw [z0]; show (x2 &&& 3).toNat + 0 ≤ _; omega)
  have v0 : v3 ⟨x0, x1, x2 &&& 3⟩ = x0.toNat + 18446744073709551616 * x1.toNat + 340282366920938463463374607431768211456 * (x2.toNat % 4) := by unfold v3; rw [← a3]
  generalize addH ⟨x0, x1, x2 &&& 3⟩ (x2 &&& ~~~ 3) x3 0 = H1 at *
  have hz1 : H1.z.toNat ≤ 5 := by
    have : 340282366920938463463374607431768211456 * H1.z.toNat ≤ v3 H1 := by unfold v3; omega
    omega
  have s2 := addH_v3 H1 (((x2 &&& ~~~ 3) >>> 2) ||| (x3 <<< 62)) (x3 >>> 2) 0 (by rw [z0]; omega)
  rw [top_or, shr2] at s2
  generalize addH H1 (((x2 &&& ~~~ 3) >>> 2) ||| (x3 <<< 62)) (x3 >>> 2) 0 = H2 at *
  have key : v3 H2 = foldN t := by
    unfold foldN
    rw [s2, s1, v0, z0, an]
    omega
  refine ⟨key, ?_⟩
  have h5 : 340282366920938463463374607431768211456 * H2.z.toNat ≤ v3 H2 := by unfold v3; omega
  have h6 : v3 H2 ≤ 1361129467683753853853498429727072845823 + 5 * 42535295865117307932921825928971026431 := by rw [key]; unfold foldN; omega
  omega
theorem sbC_toNat (x y b : UInt64) : (sbC x y b).toNat = if x.toNat < y.toNat + b.toNat then 1 else 0 := by
  unfold sbC
  split <;> rfl
theorem sbC_zero (x y b : UInt64) : sbC x y b = 0 ↔ ¬ x.toNat < y.toNat + b.toNat := by
  unfold sbC
  split
  · rename_i hh
    exact ⟨fun e => absurd e (by decide), fun e => absurd hh e⟩
  · rename_i hh
    exact ⟨fun _ => hh, fun _ => rfl⟩
theorem redF_v (h : Lim3) (hz : h.z.toNat ≤ 4) : (redF h).1.toNat + 18446744073709551616 * (redF h).2.toNat = v3 h % pP % 340282366920938463463374607431768211456 := by
  have l0 := u64_lt h.x; have l1 := u64_lt h.y; have l2 := u64_lt h.z
  have k1 : (18446744073709551611 : UInt64).toNat = 18446744073709551611 := rfl
  have k2 : (18446744073709551615 : UInt64).toNat = 18446744073709551615 := rfl
  have k3 : (3 : UInt64).toNat = 3 := rfl
  have k0 : (0 : UInt64).toNat = 0 := rfl
  have c1 := sbC_toNat h.x 18446744073709551611 0
  rw [k1, k0] at c1
  have e : redF h = if sbC h.z 3 (sbC h.y 18446744073709551615 (sbC h.x 18446744073709551611 0)) = 0 then (h.x - 18446744073709551611, h.y - 18446744073709551615 - sbC h.x 18446744073709551611 0) else (h.x, h.y) := rfl
  rw [e]
  generalize sbC h.x 18446744073709551611 0 = C at *
  have c2 := sbC_toNat h.y 18446744073709551615 C
  rw [k2] at c2
  generalize sbC h.y 18446744073709551615 C = D at *
  have c3 := sbC_zero h.z 3 D
  rw [k3] at c3
  have a1 : (h.x - 18446744073709551611).toNat + 18446744073709551611 = h.x.toNat + 18446744073709551616 * C.toNat := by
    rw [UInt64.toNat_sub, k1, c1]
    split <;> omega
  have b1 : (h.y - 18446744073709551615 - C).toNat + 18446744073709551615 + C.toNat = h.y.toNat + 18446744073709551616 * D.toNat := by
    rw [UInt64.toNat_sub, UInt64.toNat_sub, k2, c2]
    have hC : C.toNat ≤ 1 := by rw [c1]; split <;> omega
    generalize C.toNat = c at *
    split <;> omega
  have hC : C.toNat ≤ 1 := by rw [c1]; split <;> omega
  have hD : D.toNat ≤ 1 := by rw [c2]; split <;> omega
  have l3 := u64_lt (h.x - 18446744073709551611)
  have l4 := u64_lt (h.y - 18446744073709551615 - C)
  by_cases hc : sbC h.z 3 D = 0
  · rw [if_pos hc]
    have h3 := c3.1 hc
    clear c1 c2 c3 k0 k1 k2 k3 e
    simp only
    generalize (h.x - 18446744073709551611).toNat = a at *
    generalize (h.y - 18446744073709551615 - C).toNat = b at *
    generalize C.toNat = c at *
    generalize D.toNat = d at *
    have e1 : v3 h = pP + (a + 18446744073709551616 * b) + 340282366920938463463374607431768211456 * (h.z.toNat - d - 3) := by unfold v3 pP; omega
    have e2 : v3 h % pP = (a + 18446744073709551616 * b) + 340282366920938463463374607431768211456 * (h.z.toNat - d - 3) := by
      rw [e1]; unfold pP; omega
    rw [e2]
    omega
  · rw [if_neg hc]
    have h3 : h.z.toNat < 3 + D.toNat := by
      rcases Nat.lt_or_ge h.z.toNat (3 + D.toNat) with h' | h'
      · exact h'
      · exact absurd (c3.2 (by omega)) hc
    have hv : v3 h < pP := by
      unfold v3 pP
      generalize C.toNat = c at *
      generalize D.toNat = d at *
      split at c1 <;> split at c2 <;> omega
    rw [Nat.mod_eq_of_lt hv]
    unfold v3
    simp only
    omega
theorem halfA_take (bs : List UInt8) (h : 16 ≤ bs.length) : halfA (bs.take 16) = halfA bs := by
  unfold halfA; rw [List.take_take]; rfl
theorem halfB_take (bs : List UInt8) (h : 16 ≤ bs.length) : halfB (bs.take 16) = halfB bs := by
  unfold halfB; rw [List.drop_take, List.take_take]; rfl
/-- A block as a number, a one behind it. -/
def blkN (bs : List UInt8) : Nat := leN bs + 256 ^ bs.length
/-- What is summed up by k blocks. -/
def accN (R : Nat) (bs : List UInt8) : Nat → Nat
  | 0 => 0
  | k + 1 => (accN R bs k + blkN ((bs.drop (16 * k)).take 16)) * R % pP
theorem absorb_v (r0 r1 : UInt64) (h : Lim3) (bs : List UInt8) (hr0 : r0.toNat < 1152921504606846976) (hr1 : r1.toNat < 1152921504606846976) (hz : h.z.toNat ≤ 4) (hb : 16 ≤ bs.length) :
    v3 (absorb r0 r1 h bs) % pP = (v3 h % pP + blkN (bs.take 16)) * (r0.toNat + 18446744073709551616 * r1.toNat) % pP ∧ (absorb r0 r1 h bs).z.toNat ≤ 4 := by
  have ha := addH_v3 h (halfA bs) (halfB bs) 1 (by have : (1 : UInt64).toNat = 1 := rfl; omega)
  have h1 : (1 : UInt64).toNat = 1 := rfl
  have l0 := u64_lt (halfA bs); have l1 := u64_lt (halfB bs); have l2 := u64_lt h.x; have l3 := u64_lt h.y
  have hv : v3 h ≤ 18446744073709551615 + 18446744073709551616 * 18446744073709551615 + 340282366920938463463374607431768211456 * 4 := by unfold v3; omega
  have hz2 : (addH h (halfA bs) (halfB bs) 1).z.toNat ≤ 7 := by
    have : 340282366920938463463374607431768211456 * (addH h (halfA bs) (halfB bs) 1).z.toNat ≤ v3 (addH h (halfA bs) (halfB bs) 1) := by unfold v3; omega
    omega
  obtain ⟨m1, m2⟩ := multF_v3 r0 r1 _ hr0 hr1 hz2
  refine ⟨?_, m2⟩
  unfold absorb
  rw [m1, fold_mod, ha, h1]
  have hl : (bs.take 16).length = 16 := by rw [List.length_take]; omega
  have hh := halves (bs.take 16) hl
  rw [halfA_take bs hb, halfB_take bs hb] at hh
  have e : v3 h + (halfA bs).toNat + 18446744073709551616 * (halfB bs).toNat + 340282366920938463463374607431768211456 * 1 = v3 h + blkN (bs.take 16) := by
    unfold blkN
    rw [hl, ← hh]
    omega
  rw [e, Nat.mul_mod, Nat.add_mod, ← Nat.mod_add_mod, Nat.mod_mod, ← Nat.add_mod]
  conv => rhs; rw [Nat.mul_mod, Nat.add_mod, Nat.mod_mod, ← Nat.add_mod]
theorem run_v (r0 r1 : UInt64) (hr0 : r0.toNat < 1152921504606846976) (hr1 : r1.toNat < 1152921504606846976) (bs : List UInt8) : ∀ k, 16 * k ≤ bs.length →
    v3 (runF r0 r1 k ⟨0, 0, 0⟩ bs) % pP = accN (r0.toNat + 18446744073709551616 * r1.toNat) bs k ∧ (runF r0 r1 k ⟨0, 0, 0⟩ bs).z.toNat ≤ 4
  | 0, _ => ⟨rfl, Nat.zero_le _⟩
  | k + 1, hk => by
    obtain ⟨h1, h2⟩ := run_v r0 r1 hr0 hr1 bs k (by omega)
    have e : runF r0 r1 (k + 1) ⟨0, 0, 0⟩ bs = absorb r0 r1 (runF r0 r1 k ⟨0, 0, 0⟩ bs) (bs.drop (16 * k)) := by
      rw [runF_add]; rfl
    rw [e, accN]
    have h3 := absorb_v r0 r1 (runF r0 r1 k ⟨0, 0, 0⟩ bs) (bs.drop (16 * k)) hr0 hr1 h2 (by rw [List.length_drop]; omega)
    rw [h1] at h3
    exact h3
theorem last_v (r : List UInt8) (h : r.length < 16) : leN (lastF r) = blkN r ∧ (lastF r).length = 16 := by
  have z : ∀ n, leN (List.replicate n 0) = 0 := fun n => by
    induction n with
    | zero => rfl
    | succ n ih => rw [List.replicate_succ, leN, ih]; rfl
  refine ⟨?_, by unfold lastF; simp; omega⟩
  unfold lastF blkN
  rw [leN_append, leN_append, z]
  show leN r + 256 ^ r.length * (1 + 256 * 0) + _ * 0 = _
  omega
/-- How many blocks. -/
def nBlk (n : Nat) : Nat := (n + 15) / 16
theorem fin_v (r0 r1 : UInt64) (hr0 : r0.toNat < 1152921504606846976) (hr1 : r1.toNat < 1152921504606846976) (bs : List UInt8) :
    v3 (finH r0 r1 (stH r0 r1 bs) (stR bs)) % pP = accN (r0.toNat + 18446744073709551616 * r1.toNat) bs (nBlk bs.length) ∧ (finH r0 r1 (stH r0 r1 bs) (stR bs)).z.toNat ≤ 4 := by
  obtain ⟨h1, h2⟩ := run_v r0 r1 hr0 hr1 bs (bs.length / 16) (by omega)
  have hl := stR_len bs
  unfold finH
  by_cases h0 : (stR bs).length = 0
  · rw [if_pos h0, show nBlk bs.length = bs.length / 16 by unfold nBlk; omega]
    exact ⟨h1, h2⟩
  · rw [if_neg h0, show nBlk bs.length = bs.length / 16 + 1 by unfold nBlk; omega, accN]
    have g1 : v3 (stH r0 r1 bs) % pP = accN (r0.toNat + 18446744073709551616 * r1.toNat) bs (bs.length / 16) := h1
    have g2 : (stH r0 r1 bs).z.toNat ≤ 4 := h2
    clear h1 h2
    obtain ⟨q1, q2⟩ := last_v (stR bs) (by omega)
    have hh := halves (lastF (stR bs)) q2
    rw [q1] at hh
    have ht : (bs.drop (16 * (bs.length / 16))).take 16 = stR bs := by rw [← stR, List.take_of_length_le (by omega)]
    rw [ht]
    generalize stH r0 r1 bs = h at *
    generalize halfA (lastF (stR bs)) = a at *
    generalize halfB (lastF (stR bs)) = b at *
    have z0 : (0 : UInt64).toNat = 0 := rfl
    have ha := addH_v3 h a b 0 (by omega)
    rw [z0] at ha
    have l0 := u64_lt a; have l1 := u64_lt b; have l2 := u64_lt h.x; have l3 := u64_lt h.y
    have hv : v3 h ≤ 18446744073709551615 + 18446744073709551616 * 18446744073709551615 + 340282366920938463463374607431768211456 * 4 := by unfold v3; omega
    have hz2 : (addH h a b 0).z.toNat ≤ 7 := by
      have : 340282366920938463463374607431768211456 * (addH h a b 0).z.toNat ≤ v3 (addH h a b 0) := by unfold v3; omega
      omega
    obtain ⟨m1, m2⟩ := multF_v3 r0 r1 _ hr0 hr1 hz2
    refine ⟨?_, m2⟩
    have e : v3 (addH h a b 0) = v3 h + blkN (stR bs) := by rw [ha, ← hh]; omega
    rw [m1, fold_mod, e, ← g1, Nat.mul_mod, Nat.add_mod, ← Nat.mod_add_mod, Nat.mod_mod, ← Nat.add_mod]
    conv => rhs; rw [Nat.mul_mod, Nat.add_mod, Nat.mod_mod, ← Nat.add_mod]
/-- The sum as a number. -/
theorem psum_v (r0 r1 s0 s1 : UInt64) (hr0 : r0.toNat < 1152921504606846976) (hr1 : r1.toNat < 1152921504606846976) (bs : List UInt8) :
    leN (psumF r0 r1 s0 s1 bs) = (accN (r0.toNat + 18446744073709551616 * r1.toNat) bs (nBlk bs.length) + (s0.toNat + 18446744073709551616 * s1.toNat)) % 340282366920938463463374607431768211456 := by
  obtain ⟨h1, h2⟩ := fin_v r0 r1 hr0 hr1 bs
  unfold psumF
  rw [leN_putS, redF_v _ h2, h1]
  omega
/-! ### Numbers of 40 bytes -/
def numV : List Nat → Nat
  | [] => 0
  | x :: xs => x + 256 * numV xs
def digL : Nat → Nat → List Nat
  | 0, _ => []
  | k + 1, v => v % 256 :: digL k (v / 256)
theorem digL_len : ∀ k v, (digL k v).length = k
  | 0, _ => rfl
  | k + 1, v => by rw [digL, List.length_cons, digL_len]
theorem digL_at : ∀ k v i, i < k → (digL k v).getD i 0 = v / 256 ^ i % 256
  | 0, _, _, h => by omega
  | k + 1, v, 0, _ => by rw [digL]; simp
  | k + 1, v, i + 1, h => by
    rw [digL, List.getD_cons_succ, digL_at k _ i (by omega), Nat.pow_succ, Nat.mul_comm, Nat.div_div_eq_div_mul]
theorem numV_digL : ∀ k v, v < 256 ^ k → numV (digL k v) = v
  | 0, v, h => by simp at h; subst h; rfl
  | k + 1, v, h => by
    rw [digL, numV, numV_digL k _ (by rw [Nat.pow_succ] at h; omega)]
    omega
theorem numV_set : ∀ (xs : List Nat) (j d : Nat), j < xs.length → numV (xs.set j (xs.getD j 0 + d)) = numV xs + d * 256 ^ j
  | [], _, _, h => by simp at h
  | x :: xs, 0, d, _ => by simp [numV]; omega
  | x :: xs, j + 1, d, h => by
    rw [List.set_cons_succ, List.getD_cons_succ, numV, numV, numV_set xs j d (by simpa using h), Nat.pow_succ]
    have e : d * (256 ^ j * 256) = 256 * (d * 256 ^ j) := by rw [← Nat.mul_assoc, Nat.mul_comm]
    rw [e]
    omega
theorem numV_zero : ∀ n, numV (List.replicate n 0) = 0
  | 0 => rfl
  | n + 1 => by rw [List.replicate_succ, numV, numV_zero n]
theorem numV_append : ∀ (xs ys : List Nat), numV (xs ++ ys) = numV xs + 256 ^ xs.length * numV ys
  | [], ys => by simp [numV]
  | x :: xs, ys => by
    rw [List.cons_append, numV, numV, numV_append xs ys, List.length_cons, Nat.pow_succ, Nat.mul_add, Nat.mul_comm (256 ^ xs.length) 256, Nat.mul_assoc]
    omega
theorem numV_take (xs : List Nat) (k : Nat) (h : k < xs.length) : numV (xs.take (k + 1)) = numV (xs.take k) + 256 ^ k * xs.getD k 0 := by
  rw [List.take_add_one, List.getElem?_eq_getElem h, numV_append, List.length_take, Nat.min_eq_left (by omega), List.getD_eq_getElem?_getD, List.getElem?_eq_getElem h]
  simp [numV]
/-- Carried on: k of the bytes done. -/
def carA (n : List Nat) : Nat → List Nat × Nat
  | 0 => (n, 0)
  | i + 1 => let p := carA n i; (p.1.set i ((p.1.getD i 0 + p.2) % 256), (p.1.getD i 0 + p.2) / 256)
theorem carA_len (n : List Nat) (i : Nat) : (carA n i).1.length = n.length := by
  induction i with
  | zero => rfl
  | succ i ih => simp [carA, ih]
theorem digL_snoc : ∀ k v, digL (k + 1) v = digL k v ++ [v / 256 ^ k % 256]
  | 0, v => by simp [digL]
  | k + 1, v => by
    rw [digL, digL_snoc k (v / 256), digL, List.cons_append, Nat.div_div_eq_div_mul, Nat.pow_succ, Nat.mul_comm 256]
theorem digL_take : ∀ k v j, digL k (v + 256 ^ k * j) = digL k v
  | 0, _, _ => rfl
  | k + 1, v, j => by
    have e : v + 256 ^ (k + 1) * j = v + 256 * (256 ^ k * j) := by rw [Nat.pow_succ, Nat.mul_comm (256 ^ k), Nat.mul_assoc]
    rw [e, digL, digL, Nat.add_mul_mod_self_left, Nat.add_mul_div_left _ _ (by omega), digL_take k]
theorem carA_inv (n : List Nat) : ∀ i, i ≤ n.length → (carA n i).1.take i = digL i (numV (n.take i)) ∧ (∀ j, i ≤ j → (carA n i).1[j]? = n[j]?) ∧ (carA n i).2 = numV (n.take i) / 256 ^ i
  | 0, _ => ⟨by simp [carA, digL], fun _ _ => rfl, by simp [carA, numV]⟩
  | i + 1, h => by
    obtain ⟨h1, h2, h3⟩ := carA_inv n i (by omega)
    have hg : (carA n i).1.getD i 0 = n.getD i 0 := by rw [List.getD_eq_getElem?_getD, List.getD_eq_getElem?_getD, h2 i (Nat.le_refl _)]
    have hl := carA_len n i
    have hv := numV_take n i (by omega)
    have hpos : 0 < 256 ^ i := Nat.pow_pos (by omega)
    have hc : (n.getD i 0 + numV (n.take i) / 256 ^ i) = numV (n.take (i + 1)) / 256 ^ i := by
      rw [hv, Nat.add_mul_div_left _ _ hpos, Nat.add_comm]
    refine ⟨?_, fun j hj => ?_, ?_⟩
    · show ((carA n i).1.set i (((carA n i).1.getD i 0 + (carA n i).2) % 256)).take (i + 1) = _
      rw [List.take_add_one, List.take_set_of_le (Nat.le_refl _), h1, List.getElem?_set_self (by omega), hg, h3, hc, digL_snoc, hv, digL_take]
      rfl
    · show ((carA n i).1.set i _)[j]? = _
      rw [List.getElem?_set_ne (by omega), h2 j (by omega)]
    · show ((carA n i).1.getD i 0 + (carA n i).2) / 256 = _
      rw [hg, h3, hc, Nat.div_div_eq_div_mul, Nat.pow_succ]
theorem carA_all (n : List Nat) (k : Nat) (h : n.length = k) : (carA n k).1 = digL k (numV n) := by
  obtain ⟨h1, _, _⟩ := carA_inv n k (by omega)
  rw [List.take_of_length_le (by rw [carA_len]; omega), List.take_of_length_le (by omega)] at h1
  exact h1
end Go.Proofs.Ytgolndfimhogoaa

namespace Go.Proofs.Ytgolndfimhogoaa
open Go Go.RowKit
set_option linter.unusedSimpArgs false
set_option linter.unusedVariables false

def lowA (n : List Nat) : Nat → List Nat
  | 0 => List.replicate 40 0
  | i + 1 => if i < 16 then (lowA n i).set i (n.getD i 0) else if i = 16 then (lowA n i).set i (n.getD i 0 % 4) else lowA n i
theorem lowA_len (n : List Nat) (i : Nat) : (lowA n i).length = 40 := by
  induction i with
  | zero => simp [lowA]
  | succ i ih => rw [lowA]; split <;> (try split) <;> simp [ih]
theorem lowA_zero (n : List Nat) : ∀ i j, i ≤ j → (lowA n i).getD j 0 = 0
  | 0, j, _ => by rw [lowA, List.getD_eq_getElem?_getD, List.getElem?_replicate]; split <;> rfl
  | i + 1, j, h => by
    have ih := lowA_zero n i j (by omega)
    rw [List.getD_eq_getElem?_getD] at ih ⊢
    rw [lowA]
    split
    · rw [List.getElem?_set_ne (by omega)]; exact ih
    · split
      · rw [List.getElem?_set_ne (by omega)]; exact ih
      · exact ih
theorem set_v (xs : List Nat) (j d : Nat) (h : j < xs.length) (h0 : xs.getD j 0 = 0) : numV (xs.set j d) = numV xs + d * 256 ^ j := by
  have := numV_set xs j d h
  rw [h0, Nat.zero_add] at this
  exact this
theorem lowA_v (n : List Nat) (hn : n.length = 40) : ∀ i, i ≤ 40 → numV (lowA n i) = numV (n.take (min i 16)) + (if 16 < i then 256 ^ 16 * (n.getD 16 0 % 4) else 0)
  | 0, _ => by simp [lowA, numV_zero, numV]
  | i + 1, h => by
    have ih := lowA_v n hn i (by omega)
    have hl := lowA_len n i
    have hz := lowA_zero n i i (Nat.le_refl _)
    rw [lowA]
    by_cases h1 : i < 16
    · rw [if_pos h1, set_v _ _ _ (by omega) hz, ih, Nat.min_eq_left (by omega), Nat.min_eq_left (by omega), numV_take n i (by omega), if_neg (by omega), if_neg (by omega), Nat.mul_comm]
      omega
    · rw [if_neg h1]
      by_cases h2 : i = 16
      · subst h2
        rw [if_pos rfl, set_v _ _ _ (by omega) hz, ih, if_neg (by omega), if_pos (by omega)]
        rw [Nat.mul_comm]
        rfl
      · rw [if_neg h2, ih, Nat.min_eq_right (by omega), Nat.min_eq_right (by omega), if_pos (by omega), if_pos (by omega)]
def hiA (n : List Nat) : Nat → List Nat
  | 0 => List.replicate 40 0
  | k + 1 => let q := (hiA n k).set k ((hiA n k).getD k 0 + n.getD (16 + k) 0 / 4); if 0 < k then q.set (k - 1) (q.getD (k - 1) 0 + n.getD (16 + k) 0 % 4 * 64) else q
theorem hiA_len (n : List Nat) (i : Nat) : (hiA n i).length = 40 := by
  induction i with
  | zero => simp [hiA]
  | succ i ih => rw [hiA]; split <;> simp [ih]
theorem hiA_bd (n : List Nat) (hb : ∀ j, n.getD j 0 ≤ 255) : ∀ k, k ≤ 24 → (∀ j, k ≤ j → (hiA n k).getD j 0 = 0) ∧ (∀ j, (hiA n k).getD j 0 ≤ 255) ∧ (0 < k → (hiA n k).getD (k - 1) 0 ≤ 63)
  | 0, _ => by
    have e : ∀ j, (hiA n 0).getD j 0 = 0 := fun j => by rw [hiA, List.getD_eq_getElem?_getD, List.getElem?_replicate]; split <;> rfl
    exact ⟨fun j _ => e j, fun j => by rw [e]; omega, fun h => by omega⟩
  | k + 1, h => by
    obtain ⟨h1, h2, h3⟩ := hiA_bd n hb k (by omega)
    have hl := hiA_len n k
    have hx := hb (16 + k)
    have hz := h1 k (Nat.le_refl _)
    have key : ∀ j, (hiA n (k + 1)).getD j 0 = if j = k then n.getD (16 + k) 0 / 4 else if j + 1 = k then (hiA n k).getD j 0 + n.getD (16 + k) 0 % 4 * 64 else (hiA n k).getD j 0 := fun j => by
      rw [hiA]
      simp only [List.getD_eq_getElem?_getD] at hz ⊢
      split
      · by_cases hj : j = k
        · subst hj; rw [if_pos rfl, List.getElem?_set_ne (by omega), List.getElem?_set_self (by omega), hz]; simp
        · rw [if_neg hj]
          by_cases hj2 : j + 1 = k
          · rw [if_pos hj2, show k - 1 = j by omega, List.getElem?_set_self (by simp; omega), List.getElem?_set_ne (by omega)]; rfl
          · rw [if_neg hj2, List.getElem?_set_ne (by omega), List.getElem?_set_ne (by omega)]
      · have : k = 0 := by omega
        subst this
        by_cases hj : j = 0
        · subst hj; rw [if_pos rfl, List.getElem?_set_self (by omega), hz]; simp
        · rw [if_neg hj, if_neg (by omega), List.getElem?_set_ne (by omega)]
    refine ⟨fun j hj => ?_, fun j => ?_, fun _ => ?_⟩
    · rw [key, if_neg (by omega), if_neg (by omega)]; exact h1 j (by omega)
    · rw [key]
      split
      · omega
      · split
        · rename_i hh
          have := h3 (by omega)
          rw [show k - 1 = j by omega] at this
          omega
        · exact h2 j
    · rw [key, if_pos (by omega)]; omega
theorem hiA_v (n : List Nat) (hn : n.length = 40) (hb : ∀ j, n.getD j 0 ≤ 255) : ∀ k, k ≤ 24 → 4 * numV (hiA n k) + (if 0 < k then n.getD 16 0 % 4 else 0) = numV ((n.drop 16).take k)
  | 0, _ => by simp [hiA, numV_zero, numV]
  | k + 1, h => by
    have ih := hiA_v n hn hb k (by omega)
    obtain ⟨h1, _, _⟩ := hiA_bd n hb k (by omega)
    have hl := hiA_len n k
    have hd : (n.drop 16).getD k 0 = n.getD (16 + k) 0 := by rw [List.getD_eq_getElem?_getD, List.getD_eq_getElem?_getD, List.getElem?_drop]
    rw [numV_take _ k (by rw [List.length_drop]; omega), ← ih, hd, if_pos (show 0 < k + 1 by omega), hiA]
    by_cases hk : 0 < k
    · rw [if_pos hk, if_pos hk, numV_set _ _ _ (by simp; omega), numV_set _ _ _ (by omega)]
      obtain ⟨m, rfl⟩ : ∃ m, k = m + 1 := ⟨k - 1, by omega⟩
      rw [show m + 1 - 1 = m by omega, Nat.pow_succ]
      generalize n.getD (16 + (m + 1)) 0 = x
      have e : 4 * (x % 4 * 64 * 256 ^ m) = x % 4 * (256 ^ m * 256) := by
        rw [Nat.mul_assoc (x % 4), ← Nat.mul_assoc 4, Nat.mul_comm 4, Nat.mul_assoc (x % 4), ← Nat.mul_assoc 4, Nat.mul_comm (256 ^ m)]
      have e2 : 4 * (x / 4 * (256 ^ m * 256)) + x % 4 * (256 ^ m * 256) = 256 ^ m * 256 * x := by
        rw [← Nat.mul_assoc, ← Nat.add_mul, Nat.div_add_mod, Nat.mul_comm]
      omega
    · have : k = 0 := by omega
      subst this
      rw [if_neg (by omega), if_neg (by omega), numV_set _ _ _ (by omega), Nat.add_zero]
      simp only [Nat.pow_zero, Nat.mul_one, Nat.one_mul]
      generalize n.getD 16 0 = x
      omega
def sumA (a b : List Nat) : Nat → List Nat
  | 0 => a
  | i + 1 => (sumA a b i).set i ((sumA a b i).getD i 0 + 5 * b.getD i 0)
theorem sumA_len (a b : List Nat) (i : Nat) : (sumA a b i).length = a.length := by
  induction i with
  | zero => rfl
  | succ i ih => simp [sumA, ih]
theorem sumA_v (a b : List Nat) (ha : a.length = 40) (hb : b.length = 40) : ∀ i, i ≤ 40 → numV (sumA a b i) = numV a + 5 * numV (b.take i)
  | 0, _ => by simp [sumA, numV]
  | i + 1, h => by
    rw [sumA, numV_set _ _ _ (by rw [sumA_len]; omega), sumA_v a b ha hb i (by omega), numV_take b i (by omega), Nat.mul_add, Nat.mul_assoc, Nat.mul_comm (b.getD i 0)]
    omega
theorem sumA_at (a b : List Nat) : ∀ i j, i ≤ j → (sumA a b i).getD j 0 = a.getD j 0
  | 0, _, _ => rfl
  | i + 1, j, h => by
    have ih := sumA_at a b i j (by omega)
    rw [List.getD_eq_getElem?_getD] at ih ⊢
    rw [sumA, List.getElem?_set_ne (by omega)]
    exact ih
theorem digL_bd (k v j : Nat) : (digL k v).getD j 0 ≤ 255 := by
  rcases Nat.lt_or_ge j k with h | h
  · rw [digL_at k v j h]; omega
  · rw [List.getD_eq_getElem?_getD, List.getElem?_eq_none (by rw [digL_len]; exact h)]; simp
theorem take_v : ∀ (k : Nat) (v i : Nat), i ≤ k → numV ((digL k v).take i) = v % 256 ^ i
  | _, v, 0, _ => by simp [numV, Nat.mod_one]
  | 0, _, i + 1, h => by omega
  | k + 1, v, i + 1, h => by
    rw [digL, List.take_succ_cons, numV, take_v k _ i (by omega), Nat.pow_succ, Nat.mul_comm (256 ^ i), Nat.mod_mul]
theorem drop_v : ∀ (k : Nat) (v i : Nat), i ≤ k → (digL k v).drop i = digL (k - i) (v / 256 ^ i)
  | _, v, 0, _ => by simp
  | 0, _, i + 1, h => by omega
  | k + 1, v, i + 1, h => by
    rw [digL, List.drop_succ_cons, drop_v k _ i (by omega), Nat.div_div_eq_div_mul, Nat.pow_succ, Nat.mul_comm (256 ^ i)]
    congr 1
    omega
/-- Folded. -/
theorem folded_v (v : Nat) (hv : v < 256 ^ 40) : (carA (sumA (lowA (digL 40 v) 40) (hiA (digL 40 v) 24) 40) 40).1 = digL 40 (foldN v) := by
  have hl := digL_len 40 v
  rw [carA_all _ 40 (by rw [sumA_len, lowA_len]), sumA_v _ _ (lowA_len _ _) (hiA_len _ _) 40 (by omega), List.take_of_length_le (by rw [hiA_len]; omega), lowA_v _ hl 40 (by omega)]
  have h2 := hiA_v _ hl (digL_bd 40 v) 24 (by omega)
  rw [if_pos (by omega), drop_v 40 v 16 (by omega), List.take_of_length_le (by rw [digL_len]; omega), numV_digL _ _ (by
    rw [Nat.div_lt_iff_lt_mul (Nat.pow_pos (by omega)), ← Nat.pow_add]; exact hv)] at h2
  rw [take_v 40 v _ (by omega), if_pos (by omega), digL_at 40 v 16 (by omega)]
  rw [digL_at 40 v 16 (by omega)] at h2
  refine congrArg (digL 40) ?_
  unfold foldN
  have e16 : (256 : Nat) ^ 16 = 340282366920938463463374607431768211456 := by decide
  rw [show min 40 16 = 16 from rfl]
  rw [e16] at h2 ⊢
  clear hv hl e16
  generalize numV (hiA (digL 40 v) 24) = w at *
  omega
theorem fold_lt (v : Nat) (h : v < 1361129467683753853853498429727072845824 * 1361129467683753853853498429727072845824) : foldN v < 6 * 1361129467683753853853498429727072845824 := by
  unfold foldN
  have : v / 1361129467683753853853498429727072845824 < 1361129467683753853853498429727072845824 := (Nat.div_lt_iff_lt_mul (by omega)).2 h
  omega
theorem fold_six (v : Nat) (h : v < 1361129467683753853853498429727072845824 * 1361129467683753853853498429727072845824) : foldN (foldN (foldN (foldN (foldN (foldN v))))) < 1361129467683753853853498429727072845824 ∧ foldN (foldN (foldN (foldN (foldN (foldN v))))) % pP = v % pP := by
  refine ⟨?_, by simp only [fold_mod]⟩
  have h1 := fold_lt v h
  generalize foldN v = a at *
  have h2 : foldN a < 1361129467683753853853498429727072845824 + 26 := by unfold foldN; omega
  generalize foldN a = b at *
  have h3 : foldN b < 1361129467683753853853498429727072845824 := by unfold foldN; omega
  generalize foldN b = c at *
  have st : ∀ x, x < 1361129467683753853853498429727072845824 → foldN x = x := fun x hx => by unfold foldN; omega
  rw [st c h3, st c h3, st c h3]
  exact h3
theorem foldN_le (x : Nat) : foldN x ≤ x := by unfold foldN; omega
def foldI : Nat → Nat → Nat
  | 0, v => v
  | k + 1, v => foldN (foldI k v)
theorem foldI_le (v : Nat) : ∀ k, foldI k v ≤ v
  | 0 => Nat.le_refl _
  | k + 1 => Nat.le_trans (foldN_le _) (foldI_le v k)
theorem foldI_six (v : Nat) (h : v < 1361129467683753853853498429727072845824 * 1361129467683753853853498429727072845824) : foldI 6 v < 1361129467683753853853498429727072845824 ∧ foldI 6 v % pP = v % pP := fold_six v h
/-- Are k bytes of w 255? -/
def allB (w : Nat) : Nat → Bool
  | 0 => true
  | k + 1 => allB w k && decide (w / 256 ^ k % 256 = 255)
theorem allB_iff (w : Nat) : ∀ k, allB w k = true ↔ w % 256 ^ k + 1 = 256 ^ k
  | 0 => by simp [allB, Nat.mod_one]
  | k + 1 => by
    have ih := allB_iff w k
    have hl : w % 256 ^ k < 256 ^ k := Nat.mod_lt _ (Nat.pow_pos (by omega))
    rw [allB, Bool.and_eq_true, ih, decide_eq_true_iff, Nat.pow_succ, Nat.mod_mul]
    generalize w % 256 ^ k = a at *
    have hx : w / 256 ^ k % 256 < 256 := Nat.mod_lt _ (by omega)
    generalize w / 256 ^ k % 256 = x at *
    generalize 256 ^ k = q at *
    constructor
    · rintro ⟨h1, h2⟩
      subst h2
      omega
    · intro h
      have hx2 : x = 255 := by
        rcases Nat.lt_or_ge x 255 with hl2 | hl2
        · exfalso
          have : q * x ≤ q * 254 := Nat.mul_le_mul_left _ (by omega)
          omega
        · omega
      subst hx2
      exact ⟨by omega, rfl⟩
def mostB (v : Nat) (i : Nat) : Bool := (decide (v / 256 ^ 16 % 256 = 3) && decide (251 ≤ v % 256)) && allB (v / 256) i
theorem most_v (v : Nat) (h : v < 1361129467683753853853498429727072845824) : mostB v 15 = true ↔ pP ≤ v := by
  unfold mostB pP
  rw [Bool.and_eq_true, Bool.and_eq_true, decide_eq_true_iff, decide_eq_true_iff, allB_iff]
  rw [show (256 : Nat) ^ 16 = 340282366920938463463374607431768211456 by decide, show (256 : Nat) ^ 15 = 1329227995784915872903807060280344576 by decide]
  omega
theorem digL_zero : ∀ k, digL k 0 = List.replicate k 0
  | 0 => rfl
  | k + 1 => by rw [digL, digL_zero k, List.replicate_succ]
theorem most_digits (v : Nat) (h : v < 1361129467683753853853498429727072845824) (hp : pP ≤ v) : digL 40 (v % pP) = (v % 256 - 251) :: List.replicate 39 0 := by
  have e : v % pP = v - pP := by
    rw [Nat.mod_eq_sub_mod hp, Nat.mod_eq_of_lt]
    unfold pP at *; omega
  rw [e, digL, show (v - pP) / 256 = 0 by unfold pP at *; omega, digL_zero]
  have : (v - pP) % 256 = v % 256 - 251 := by unfold pP at *; omega
  rw [this]
theorem less_digits (v : Nat) (hp : ¬ pP ≤ v) : digL 40 (v % pP) = digL 40 v := by rw [Nat.mod_eq_of_lt (by omega)]

/-! ### A block put to the number -/
def addB (h : List Nat) (bs : List UInt8) : Nat → List Nat
  | 0 => h
  | i + 1 => (addB h bs i).set i ((addB h bs i).getD i 0 + (bs.getD i 0).toNat)
theorem addB_len (h : List Nat) (bs : List UInt8) (i : Nat) : (addB h bs i).length = h.length := by
  induction i with
  | zero => rfl
  | succ i ih => simp [addB, ih]
theorem set_getD (p : List Nat) (i x j : Nat) (hi : i < p.length) : (p.set i x).getD j 0 = if j = i then x else p.getD j 0 := by
  rw [List.getD_eq_getElem?_getD, List.getD_eq_getElem?_getD]
  split
  · next h => subst h; rw [List.getElem?_set_self hi]; rfl
  · next h => rw [List.getElem?_set_ne (by omega)]
theorem addB_bd (h : List Nat) (hb : ∀ j, h.getD j 0 ≤ 255) (bs : List UInt8) : ∀ i, i ≤ h.length → (∀ j, (addB h bs i).getD j 0 ≤ 510) ∧ (∀ j, i ≤ j → (addB h bs i).getD j 0 ≤ 255)
  | 0, _ => ⟨fun j => by have := hb j; rw [addB]; omega, fun j _ => hb j⟩
  | i + 1, hi => by
    obtain ⟨h1, h2⟩ := addB_bd h hb bs i (by omega)
    have hx := (bs.getD i 0).toNat_lt
    have hl := addB_len h bs i
    refine ⟨fun j => ?_, fun j hj => ?_⟩
    · rw [addB, set_getD _ _ _ _ (by omega)]
      split
      · have := h2 i (Nat.le_refl _)
        have : (bs.getD i 0).toNat < 256 := hx
        omega
      · exact h1 j
    · rw [addB, set_getD _ _ _ _ (by omega), if_neg (by omega)]
      exact h2 j (by omega)
theorem addB_v (h : List Nat) (bs : List UInt8) : ∀ i, i ≤ bs.length → i ≤ h.length → numV (addB h bs i) = numV h + leN (bs.take i)
  | 0, _, _ => by simp [addB, leN]
  | i + 1, h1, h2 => by
    rw [addB, numV_set _ _ _ (by rw [addB_len]; omega), addB_v h bs i (by omega) (by omega), leN_take bs i (by omega), List.getD_eq_getElem?_getD, List.getElem?_eq_getElem (by omega), Nat.mul_comm (256 ^ i)]
    simp only [Option.getD_some]
    omega
def endB (h : List Nat) (bs : List UInt8) (n : Nat) : List Nat := (addB h bs n).set n ((addB h bs n).getD n 0 + 1)
theorem endB_len (h : List Nat) (bs : List UInt8) (i : Nat) : (endB h bs i).length = h.length := by unfold endB; rw [List.length_set, addB_len]
theorem endB_bd (h : List Nat) (hb : ∀ j, h.getD j 0 ≤ 255) (bs : List UInt8) (n : Nat) (hn : n < h.length) (j : Nat) : (endB h bs n).getD j 0 ≤ 511 := by
  obtain ⟨h1, h2⟩ := addB_bd h hb bs n (by omega)
  have hl := addB_len h bs n
  rw [endB, set_getD _ _ _ _ (by omega)]
  split
  · have := h1 n; omega
  · have := h1 j; omega
theorem endB_v (h : List Nat) (bs : List UInt8) (hn : bs.length < h.length) : numV (endB h bs bs.length) = numV h + blkN bs := by
  rw [endB, numV_set _ _ _ (by rw [addB_len]; omega), addB_v h bs _ (Nat.le_refl _) (by omega), List.take_length, Nat.one_mul]
  unfold blkN
  omega
theorem addB_drop (h : List Nat) (bs : List UInt8) (m : Nat) : ∀ i, i ≤ m → (addB h bs i).drop m = h.drop m
  | 0, _ => rfl
  | i + 1, hi => by rw [addB, List.drop_set_of_lt (by omega), addB_drop h bs m i (by omega)]
theorem endB_drop (h : List Nat) (bs : List UInt8) (m n : Nat) (hn : n < m) : (endB h bs n).drop m = h.drop m := by
  rw [endB, List.drop_set_of_lt hn, addB_drop _ _ _ _ (by omega)]

/-! ### Times r -/
def rowP (h : List Nat) (r : List UInt8) (i : Nat) (p : List Nat) : Nat → List Nat
  | 0 => p
  | k + 1 => (rowP h r i p k).set (i + k) ((rowP h r i p k).getD (i + k) 0 + h.getD i 0 * (r.getD k 0).toNat)
theorem rowP_len (h : List Nat) (r : List UInt8) (i : Nat) (p : List Nat) (k : Nat) : (rowP h r i p k).length = p.length := by
  induction k with
  | zero => rfl
  | succ i ih => simp [rowP, ih]
theorem rowP_v (h : List Nat) (r : List UInt8) (i : Nat) (p : List Nat) : ∀ k, k ≤ r.length → i + k ≤ p.length → numV (rowP h r i p k) = numV p + 256 ^ i * h.getD i 0 * leN (r.take k)
  | 0, _, _ => by simp [rowP, leN]
  | k + 1, h1, h2 => by
    rw [rowP, numV_set _ _ _ (by rw [rowP_len]; omega), rowP_v h r i p k (by omega) (by omega), leN_take r k (by omega), List.getD_eq_getElem?_getD (l := r), List.getElem?_eq_getElem (by omega)]
    simp only [Option.getD_some]
    rw [Nat.mul_add, Nat.pow_add]
    generalize h.getD i 0 = x
    generalize (r[k]).toNat = y
    rw [← Nat.add_assoc]
    congr 1
    rw [Nat.mul_comm (x * y), Nat.mul_assoc, Nat.mul_assoc, Nat.mul_left_comm x]
theorem rowP_bd (h : List Nat) (hb : ∀ j, h.getD j 0 ≤ 511) (r : List UInt8) (i : Nat) (p : List Nat) (B : Nat) (hB : ∀ j, p.getD j 0 ≤ B) : ∀ k, i + k ≤ p.length → ∀ j, (rowP h r i p k).getD j 0 ≤ B + 130305 * k
  | 0, _, j => hB j
  | k + 1, hk, j => by
    have ih := rowP_bd h hb r i p B hB k (by omega)
    have hl := rowP_len h r i p k
    have hx : (r.getD k 0).toNat < 256 := (r.getD k 0).toNat_lt
    have hy := hb i
    have hm : h.getD i 0 * (r.getD k 0).toNat ≤ 511 * 255 := Nat.mul_le_mul hy (by omega)
    rw [rowP, set_getD _ _ _ _ (by omega)]
    split
    · have := ih (i + k); omega
    · have := ih j; omega
def prodP (h : List Nat) (r : List UInt8) : Nat → List Nat
  | 0 => List.replicate 40 0
  | i + 1 => rowP h r i (prodP h r i) 16
theorem prodP_len (h : List Nat) (r : List UInt8) (i : Nat) : (prodP h r i).length = 40 := by
  induction i with
  | zero => simp [prodP]
  | succ i ih => rw [prodP, rowP_len, ih]
theorem prodP_v (h : List Nat) (hh : h.length = 40) (r : List UInt8) (hr : r.length = 16) : ∀ i, i ≤ 24 → numV (prodP h r i) = numV (h.take i) * leN r
  | 0, _ => by simp [prodP, numV_zero, numV]
  | i + 1, hi => by
    rw [prodP, rowP_v _ _ _ _ 16 (by omega) (by rw [prodP_len]; omega), prodP_v h hh r hr i (by omega), List.take_of_length_le (show r.length ≤ 16 by omega), numV_take h i (by omega), Nat.add_mul]
theorem prodP_bd (h : List Nat) (hb : ∀ j, h.getD j 0 ≤ 511) (r : List UInt8) : ∀ i, i ≤ 24 → ∀ j, (prodP h r i).getD j 0 ≤ 2084880 * i
  | 0, _, j => by
    rw [prodP, List.getD_eq_getElem?_getD, List.getElem?_replicate]
    split <;> simp
  | i + 1, hi, j => by
    have := rowP_bd h hb r i (prodP h r i) _ (prodP_bd h hb r i (by omega)) 16 (by rw [prodP_len]; omega) j
    rw [prodP]
    omega
/-- A block's step. -/
theorem step_v (a : Nat) (ha : a < 1361129467683753853853498429727072845824) (bs r : List UInt8) (hl : bs.length ≤ 16) (hr : r.length = 16) (hR : leN r < 21267647932558653966460912964485513216) :
    numV (prodP (endB (digL 40 a) bs bs.length) r 20) = (a + blkN bs) * leN r ∧ (a + blkN bs) * leN r < 1361129467683753853853498429727072845824 * 1361129467683753853853498429727072845824 := by
  have hd := digL_len 40 a
  have el := endB_len (digL 40 a) bs bs.length
  have e20 : (256 : Nat) ^ 20 = 1461501637330902918203684832716283019655932542976 := by decide
  have e40 : (256 : Nat) ^ 40 = 2135987035920910082395021706169552114602704522356652769947041607822219725780640550022962086936576 := by decide
  have hz : numV ((endB (digL 40 a) bs bs.length).drop 20) = 0 := by
    rw [endB_drop _ _ _ _ (by omega), drop_v 40 a 20 (by omega), e20, Nat.div_eq_of_lt (by omega), digL_zero, numV_zero]
  have hs := numV_append ((endB (digL 40 a) bs bs.length).take 20) ((endB (digL 40 a) bs bs.length).drop 20)
  rw [List.take_append_drop, hz, Nat.mul_zero, Nat.add_zero, endB_v _ _ (by omega), numV_digL 40 a (by rw [e40]; omega)] at hs
  refine ⟨by rw [prodP_v _ (by omega) r hr 20 (by omega), ← hs], ?_⟩
  have hb : blkN bs ≤ 2 * 340282366920938463463374607431768211456 := by
    have h1 := leN_lt bs
    have h2 : 256 ^ bs.length ≤ 256 ^ 16 := Nat.pow_le_pow_right (by omega) hl
    rw [show (256 : Nat) ^ 16 = 340282366920938463463374607431768211456 by decide] at h2
    unfold blkN
    omega
  exact Nat.lt_of_le_of_lt (Nat.mul_le_mul (show a + blkN bs ≤ 1361129467683753853853498429727072845824 + 2 * 340282366920938463463374607431768211456 by omega) (Nat.le_of_lt hR)) (by decide)

/-! ### The end -/
def lastS (h : List Nat) (k2 : List UInt8) : Nat → List Nat
  | 0 => List.replicate 40 0
  | i + 1 => (lastS h k2 i).set i (h.getD i 0 + (k2.getD i 0).toNat)
theorem lastS_len (h : List Nat) (k2 : List UInt8) (i : Nat) : (lastS h k2 i).length = 40 := by
  induction i with
  | zero => simp [lastS]
  | succ i ih => rw [lastS, List.length_set, ih]
theorem lastS_zero (h : List Nat) (k2 : List UInt8) : ∀ i j, i ≤ j → (lastS h k2 i).getD j 0 = 0
  | 0, j, _ => by rw [lastS, List.getD_eq_getElem?_getD, List.getElem?_replicate]; split <;> rfl
  | i + 1, j, hj => by
    have ih := lastS_zero h k2 i j (by omega)
    rw [List.getD_eq_getElem?_getD] at ih ⊢
    rw [lastS, List.getElem?_set_ne (by omega)]
    exact ih
theorem lastS_v (h : List Nat) (hh : h.length = 40) (k2 : List UInt8) (hk : k2.length = 16) : ∀ i, i ≤ 16 → numV (lastS h k2 i) = numV (h.take i) + leN (k2.take i)
  | 0, _ => by simp [lastS, numV_zero, numV, leN]
  | i + 1, hi => by
    rw [lastS, set_v _ _ _ (by rw [lastS_len]; omega) (lastS_zero h k2 i i (Nat.le_refl _)), lastS_v h hh k2 hk i (by omega), numV_take h i (by omega), leN_take k2 i (by omega), List.getD_eq_getElem?_getD (l := k2), List.getElem?_eq_getElem (by omega)]
    simp only [Option.getD_some]
    rw [Nat.add_mul, Nat.mul_comm (256 ^ i), Nat.mul_comm (256 ^ i)]
    omega
theorem lastS_bd (h : List Nat) (hb : ∀ j, h.getD j 0 ≤ 255) (k2 : List UInt8) : ∀ i, i ≤ 16 → ∀ j, (lastS h k2 i).getD j 0 ≤ 510
  | 0, _, j => by rw [lastS, List.getD_eq_getElem?_getD, List.getElem?_replicate]; split <;> simp
  | i + 1, hi, j => by
    have ih := lastS_bd h hb k2 i (by omega) j
    have hx : (k2.getD i 0).toNat < 256 := (k2.getD i 0).toNat_lt
    have := hb i
    rw [lastS, set_getD _ _ _ _ (by rw [lastS_len]; omega)]
    split <;> omega
def outB (w : Nat) (i : Nat) : List UInt8 := (digL i w).map UInt8.ofNat
theorem outB_len (w i : Nat) : (outB w i).length = i := by unfold outB; rw [List.length_map, digL_len]
theorem outB_succ (w i : Nat) : outB w (i + 1) = outB w i ++ [UInt8.ofNat (w / 256 ^ i % 256)] := by
  unfold outB; rw [digL_snoc, List.map_append]; rfl
theorem outB_v : ∀ i w, leN (outB w i) = w % 256 ^ i
  | 0, w => by simp [outB, digL, leN, Nat.mod_one]
  | i + 1, w => by
    have ih := outB_v i (w / 256)
    unfold outB at ih ⊢
    rw [digL, List.map_cons, leN, ih, UInt8.toNat_ofNat', show 256 ^ (i + 1) = 256 * 256 ^ i by rw [Nat.pow_succ, Nat.mul_comm], Nat.mod_mul]
    omega
/-! ### The keys -/
theorem clamp_small (bs : List UInt8) (h : bs.length = 16) : (halfA (clampF bs)).toNat < 1152921504606846976 ∧ (halfB (clampF bs)).toNat < 1152921504606846976 := by
  match bs, h with
  | [x0, x1, x2, x3, x4, x5, x6, x7, x8, x9, x10, x11, x12, x13, x14, x15], _ =>
    have h7 : (x7 &&& 15).toNat < 16 := by rw [UInt8.toNat_and]; exact Nat.lt_of_le_of_lt Nat.and_le_right (by decide)
    have h15 : (x15 &&& 15).toNat < 16 := by rw [UInt8.toNat_and]; exact Nat.lt_of_le_of_lt Nat.and_le_right (by decide)
    unfold halfA halfB
    rw [half_toNat, half_toNat]
    simp only [clampF, cl1, cl2, List.set_cons_succ, List.set_cons_zero, List.getD_cons_succ, List.getD_cons_zero, Nat.reduceMul, Nat.reduceAdd, List.take_succ_cons, List.drop_succ_cons, List.drop_zero, List.take_zero, leN]
    have e0 := u8_lt x0; have e1 := u8_lt x1; have e2 := u8_lt x2; have e3 := u8_lt (x3 &&& 15); have e4 := u8_lt (x4 &&& 252); have e5 := u8_lt x5; have e6 := u8_lt x6
    have e8 := u8_lt (x8 &&& 252); have e9 := u8_lt x9; have e10 := u8_lt x10; have e11 := u8_lt (x11 &&& 15); have e12 := u8_lt (x12 &&& 252); have e13 := u8_lt x13; have e14 := u8_lt x14
    omega
theorem clamp_value (bs : List UInt8) (h : bs.length = 16) : leN (clampF bs) < 21267647932558653966460912964485513216 := by
  have hl : (clampF bs).length = 16 := by rw [clampF_len, h]
  obtain ⟨h1, h2⟩ := clamp_small bs h
  rw [← halves _ hl]
  omega
/-- The reference's sum. -/
def refPolyF (key bs : List UInt8) : List UInt8 := outB (accN (leN (clampF (key.take 16))) bs (nBlk bs.length) % 340282366920938463463374607431768211456 + leN (key.drop 16)) 16
theorem refPoly_eq (key bs : List UInt8) (hk : key.length = 32) : refPolyF key bs = polyF key bs := by
  have ht : (key.take 16).length = 16 := by rw [List.length_take, hk]; rfl
  have hd : (key.drop 16).length = 16 := by rw [List.length_drop, hk]
  have hl : (clampF (key.take 16)).length = 16 := by rw [clampF_len, ht]
  obtain ⟨h1, h2⟩ := clamp_small (key.take 16) ht
  refine leN_inj _ _ (by rw [polyF_len]; exact outB_len _ _) ?_
  have hp := psum_v (kr0 key) (kr1 key) (ks0 key) (ks1 key) h1 h2 bs
  unfold polyF
  rw [hp]
  unfold refPolyF kr0 kr1 ks0 ks1
  rw [halves _ hl, halves _ hd, outB_v, show (256 : Nat) ^ 16 = 340282366920938463463374607431768211456 by decide, Nat.mod_add_mod]
/-- The reference's clamp: k of the bytes done. -/
def clR : Nat → List UInt8 → List UInt8
  | 0, bs => bs
  | k + 1, bs => let c := if k % 4 = 3 then (clR k bs).set k ((clR k bs).getD k 0 % 16) else clR k bs; if k = 4 ∨ k = 8 ∨ k = 12 then c.set k (c.getD k 0 - c.getD k 0 % 4) else c
theorem clR_len (k : Nat) (bs : List UInt8) : (clR k bs).length = bs.length := by
  induction k with
  | zero => rfl
  | succ k ih => rw [clR]; split <;> split <;> simp [ih]
theorem u8_mod16 (x : UInt8) : x % 16 = x &&& 15 := by
  apply UInt8.toNat_inj.1
  rw [UInt8.toNat_mod, UInt8.toNat_and]
  exact (Nat.and_two_pow_sub_one_eq_mod x.toNat 4).symm
theorem u8_less4 : ∀ x : UInt8, x - x % 4 = x &&& 252 := by
  have h : ∀ i : Fin 256, UInt8.ofNat i.val - UInt8.ofNat i.val % 4 = UInt8.ofNat i.val &&& 252 := by decide +kernel
  intro x
  have := h ⟨x.toNat, u8_lt x⟩
  simpa using this
theorem clR_eq (bs : List UInt8) (h : bs.length = 16) : clR 16 bs = clampF bs := by
  match bs, h with
  | [x0, x1, x2, x3, x4, x5, x6, x7, x8, x9, x10, x11, x12, x13, x14, x15], _ =>
    simp [clR, clampF, cl1, cl2, u8_mod16, u8_less4]
end Go.Proofs.Ytgolndfimhogoaa

namespace Go.Proofs.Ytgolndfimhogoaa
open Go Go.RowKit
set_option linter.unusedSimpArgs false

theorem run_alloc_arr {P : Program} {t : TypeId} {vs : Array Value} (h : (P.info? t).bind (·.zero) = some (.agg vs)) (w : World) :
    Sem.run P (Instr.alloc t true (.tuple #[])) w = .ok (.pointer (some ⟨w.heap.size, 0, none⟩)) (w.alloc (.cells vs t)) := by
  obtain ⟨i, hi, hz⟩ := Option.bind_eq_some_iff.1 h
  unfold Instr.alloc zeroValue newVar
  simp only [Sem.run_bind, Sem.run_pure]
  simp [hi, hz, typeInfo, Sem.run_bind, Result.andThen, newRow, Value.cells]
theorem wpList_alloc_arr {P : Program} {w : World} {ops : Array Oper} {rest : List Oper} {o : Oper} {a : Act} {Q : Exit → Act → World → Prop} (hgd : Region.wanted o (yielded ops a.tmps) = true) (t : TypeId) (ho : o.op = .alloc t)
    (cells : Array Value) (hz : (P.info? t).bind (·.zero) = some (.agg cells)) (h : wpList P ops Q rest (a.put o.dst (.pointer (some ⟨w.heap.size, 0, none⟩))) (w.alloc (.cells cells t))) : wpList P ops Q (o :: rest) a w := by
  refine wpList_step fun K hK => ?_
  rw [if_pos hgd]
  have hrun := run_alloc_arr hz w
  unfold Oper.wp execOp
  simp only [ho, Sem.run_bind, Sem.run_pure, Result.andThen_ok, hrun]
  exact hK _ _ h
def iL (p : List Nat) : Array Value := (p.map (fun n : Nat => Value.int .i64 (n : Int))).toArray
theorem iL_size (p : List Nat) : (iL p).size = p.length := by simp [iL]
theorem iL_all (p : List Nat) : (iL p).all (·.oneCell') = true := by
  unfold iL
  rw [List.all_toArray, List.all_map, List.all_eq_true]
  intro x _
  rfl
set_option maxRecDepth 100000 in
theorem zero40 : (Try.prog.info? 82).bind (·.zero) = some (.agg (iL (List.replicate 40 0))) := by kernel_rfl
theorem Try.size40 : (Try.prog.info? 82).map (·.size) = some 40 := by kernel_rfl
theorem cellL {w : World} {g : Nat} {t : TypeId} {p : List Nat} (h : Blk w g t (iL p)) (i : Nat) (hi : i < p.length) : w.cell? ⟨g, i, none⟩ = some (.int .i64 ((p.getD i 0 : Nat) : Int)) := by
  rw [h.cell, iL, List.getElem?_toArray, List.getElem?_map, List.getElem?_eq_getElem hi, List.getD_eq_getElem?_getD, List.getElem?_eq_getElem hi]
  rfl
theorem blk_setL {w : World} {g : Nat} {t : TypeId} {p : List Nat} (h : Blk w g t (iL p)) (i n : Nat) : Blk (w.setCell ⟨g, i, none⟩ (.int .i64 (n : Int))) g t (iL (p.set i n)) := by
  have := h.set i (.int .i64 (n : Int))
  rw [iL, List.setIfInBounds_toArray] at this
  rw [iL, List.map_set]
  exact this
theorem carA_bd (p : List Nat) (hb : ∀ j, p.getD j 0 ≤ 100000000) : ∀ i, i ≤ p.length → (carA p i).2 ≤ 100000000
  | 0, _ => by simp [carA]
  | i + 1, h => by
    have ih := carA_bd p hb i (by omega)
    obtain ⟨_, h2, _⟩ := carA_inv p i (by omega)
    have := hb i
    have e : (carA p i).1.getD i 0 = p.getD i 0 := by rw [List.getD_eq_getElem?_getD, List.getD_eq_getElem?_getD, h2 i (Nat.le_refl _)]
    show ((carA p i).1.getD i 0 + (carA p i).2) / 256 ≤ _
    rw [e]
    omega

set_option maxRecDepth 100000 in
set_option maxHeartbeats 4000000 in
theorem carried_any (p : List Nat) (hp : p.length = 40) (hb : ∀ j, p.getD j 0 ≤ 100000000) (w : World) :
    Calls Try.prog 49 #[.agg (iL p)] w fun e w' => e = .returned (.agg (iL (carA p 40).1)) ∧ Grows w w' := by
  obtain ⟨W0, HW0, hg0⟩ : ∃ W0 : World, Hid (W0 = (w.alloc (.cells (iL p) 82)).alloc (.cells (iL (List.replicate 40 0)) 82)) ∧ Grows w W0 := ⟨_, lib_hid rfl, ((Grows.refl w).alloc _).alloc _⟩
  have HB0 : Hid (Blk W0 w.heap.size 82 (iL (carA p 0).1)) := by
    unfold Hid; rw [HW0.out]; have := (Blk.new (w) 82 (iL p)).alloc (.cells (iL (List.replicate 40 0)) 82); simpa [carA] using this
  obtain ⟨z, Hz⟩ : ∃ z, Hid (iL (List.replicate 40 0) = z) := ⟨_, lib_hid rfl⟩
  have HB1 : Hid (Blk W0 (w.heap.size + 1) 82 z) := by
    unfold Hid; rw [HW0.out, ← Hz.out]; have := Blk.new (w.alloc (.cells (iL p) 82)) 82 (iL (List.replicate 40 0)); simpa using this
  have pl := lib_hid hp
  have pb := lib_hid hb
  have HW0' := HW0.out
  clear hp hb HW0
  go_enter Try.func49, Try.ntmps49
  go_upto_region 1 with (refine wpList_alloc_arr rfl 82 rfl _ zero40 ?_)
  rw [← HW0']
  clear HW0'
  go_wp2_with fail
  go_loopw [3, 4] (fun v i wr => ∃ k c : Nat, k ≤ 40 ∧ v = .int .i64 (c : Int) ∧ i = .int .i64 (k : Int) ∧ Hid ((carA p k).2 = c) ∧ Grows w wr ∧ Hid (Blk wr (w.heap.size + 1) 82 z) ∧ Hid (Blk wr w.heap.size 82 (iL (carA p k).1))) (fun _ i _ => 40 - (intOf i).toNat)
  case atStart => exact ⟨0, 0, by omega, rfl, rfl, lib_hid rfl, hg0, HB1, HB0⟩
  case round =>
    clear hg0 HB1 HB0
    obtain ⟨k, c, hk, rfl, rfl, Hc, hgr, hZ, hC⟩ := hrel
    by_cases hlt : k < 40
    · have hki : (k : Int) < 40 := by omega
      obtain ⟨q, Hq, ql⟩ : ∃ q, Hid ((carA p k).1 = q) ∧ Hid (q.length = 40) := ⟨_, lib_hid rfl, by unfold Hid; rw [carA_len, pl.out]⟩
      rw [Hq.out] at hC
      obtain ⟨x, Hx, hxb⟩ : ∃ x : Nat, Hid (q.getD k 0 = x) ∧ (x : Int) ≤ 100000000 := ⟨_, lib_hid rfl, by
        obtain ⟨_, h2, _⟩ := carA_inv p k (by rw [pl.out]; omega)
        have := pb.out k
        rw [← Hq.out, List.getD_eq_getElem?_getD, h2 k (Nat.le_refl _), ← List.getD_eq_getElem?_getD]
        omega⟩
      have hcb : (c : Int) ≤ 100000000 := by
        have := carA_bd p pb.out k (by rw [pl.out]; omega)
        rw [Hc.out] at this
        omega
      obtain ⟨y, hy, Hy, hyb⟩ : ∃ y : Nat, (x : Int) + (c : Int) = (y : Int) ∧ Hid (y = x + c) ∧ (y : Int) ≤ 200000000 := ⟨x + c, by omega, lib_hid rfl, by omega⟩
      obtain ⟨d, hd, Hd, hdb⟩ : ∃ d : Nat, (y : Int).tdiv 256 = (d : Int) ∧ Hid (d = y / 256) ∧ (d : Int) ≤ 100000000 := ⟨y / 256, by rw [Int.tdiv_eq_ediv_of_nonneg (by omega)]; omega, lib_hid rfl, by omega⟩
      obtain ⟨r, hr, Hr, hrb⟩ : ∃ r : Nat, (y : Int).tmod 256 = (r : Int) ∧ Hid (r = y % 256) ∧ (r : Int) ≤ 255 := ⟨y % 256, by rw [Int.tmod_eq_emod_of_nonneg (by omega)]; omega, lib_hid rfl, by omega⟩
      have cI : wr.cell? ⟨w.heap.size, k, none⟩ = some (.int .i64 (x : Int)) := by rw [← Hx.out]; exact cellL hC.out k (by rw [ql.out]; exact hlt)
      have fI := hC.out.frozen k
      obtain ⟨W1, HW1⟩ : ∃ X : World, Hid (X = wr.setCell ⟨w.heap.size, k, none⟩ (.int .i64 (y : Int))) := ⟨_, lib_hid rfl⟩
      have B1 : Hid (Blk W1 w.heap.size 82 (iL (q.set k y))) := by unfold Hid; rw [HW1.out]; exact blk_setL hC.out k y
      have Z1 : Hid (Blk W1 (w.heap.size + 1) 82 z) := by unfold Hid; rw [HW1.out]; exact hZ.out.far (p := ⟨w.heap.size, k, none⟩) (by simp) _
      have g1 : Grows w W1 := by rw [HW1.out]; exact hgr.setCell (p := ⟨w.heap.size, k, none⟩) (Nat.le_refl _) _
      have c1 : W1.cell? ⟨w.heap.size, k, none⟩ = some (.int .i64 (y : Int)) := by
        have := cellL B1.out k (by rw [List.length_set, ql.out]; exact hlt)
        rw [set_getD _ _ _ _ (by rw [ql.out]; exact hlt), if_pos rfl] at this
        exact this
      have f1 := B1.out.frozen k
      obtain ⟨W2, HW2⟩ : ∃ X : World, Hid (X = W1.setCell ⟨w.heap.size, k, none⟩ (.int .i64 (r : Int))) := ⟨_, lib_hid rfl⟩
      have B2 : Hid (Blk W2 w.heap.size 82 (iL (carA p (k + 1)).1)) := by
        have := blk_setL B1.out k r
        rw [List.set_set] at this
        unfold Hid; rw [HW2.out]
        show Blk _ _ _ (iL ((carA p k).1.set k (((carA p k).1.getD k 0 + (carA p k).2) % 256)))
        rw [Hq.out, Hx.out, Hc.out, ← Hy.out, ← Hr.out]
        exact this
      have Z2 : Hid (Blk W2 (w.heap.size + 1) 82 z) := by unfold Hid; rw [HW2.out]; exact Z1.out.far (p := ⟨w.heap.size, k, none⟩) (by simp) _
      have g2 : Grows w W2 := by rw [HW2.out]; exact g1.setCell (p := ⟨w.heap.size, k, none⟩) (Nat.le_refl _) _
      have Hc2 : Hid ((carA p (k + 1)).2 = d) := by
        unfold Hid
        show ((carA p k).1.getD k 0 + (carA p k).2) / 256 = d
        rw [Hq.out, Hx.out, Hc.out, ← Hy.out, ← Hd.out]
      have HW1' := HW1.out
      have HW2' := HW2.out
      clear hC hZ hgr HW1 HW2 B1 Z1 g1 hlt
      go_upto_region 6 with fail
      rw [← HW1']
      clear HW1' cI fI hxb hcb hy
      go_upto_region 4 with fail
      rw [← HW2']
      clear HW2' c1 f1 hd hr
      go_wp2_with fail
      go_roundw
      case rel => exact ⟨k + 1, d, by omega, rfl, by go_num, Hc2, g2, Z2, B2⟩
      case measure => simp [intOf]; omega
    · have Hk : Hid (k = 40) := by unfold Hid; omega
      have hki : ¬ (k : Int) < 40 := by omega
      obtain ⟨res, Hres, hrl, hra⟩ : ∃ r : Array Value, Hid (iL (carA p 40).1 = r) ∧ r.size = 40 ∧ r.all (·.oneCell') = true := ⟨_, lib_hid rfl, by rw [iL_size, carA_len, pl.out], iL_all _⟩
      have zl : z.size = 40 := by rw [← Hz.out, iL_size]; simp
      have hR : Hid (Blk wr w.heap.size 82 res) := by unfold Hid; rw [← Hres.out]; have := hC.out; rw [Hk.out] at this; exact this
      clear hC hlt
      go_wp2_with (first
        | (refine wpList_load_blk rfl _ _ rfl w.heap.size rfl 82 res _ hR.out Try.underlying82 rfl (by rw [Try.size40, hrl]) ?_)
        | (refine wpList_store_blk rfl _ _ _ rfl (w.heap.size + 1) res rfl rfl 82 _ hZ.out (by rw [Try.size40, hrl]) (by rw [zl, hrl]) hra (w.heap.size + 1) wr (Below.refl _ _) (Nat.le_refl _) ?_; intro w5 HR6 hb5 hgr5))
      refine bodyPost_ret (results_cell_row rfl _ _ (w.heap.size + 1) _ res _ _ rfl HR6 Try.underlying82 rfl (by rw [Try.size40, hrl])) rfl ?_
      exact ⟨by rw [Hres.out], Below.trans hgr (hb5.mono (by omega))⟩

end Go.Proofs.Ytgolndfimhogoaa

namespace Go.Proofs.Ytgolndfimhogoaa
open Go Go.RowKit
set_option linter.unusedSimpArgs false

theorem lowA_bd (n : List Nat) (hb : ∀ j, n.getD j 0 ≤ 255) : ∀ i, i ≤ 40 → ∀ j, (lowA n i).getD j 0 ≤ 255
  | 0, _, j => by rw [lowA, List.getD_eq_getElem?_getD, List.getElem?_replicate]; split <;> simp
  | i + 1, h, j => by
    have ih := lowA_bd n hb i (by omega) j
    have hl := lowA_len n i
    have hx := hb i
    rw [lowA]
    split
    · rw [set_getD _ _ _ _ (by omega)]; split
      · exact hx
      · exact ih
    · split
      · rw [set_getD _ _ _ _ (by omega)]; split
        · omega
        · exact ih
      · exact ih
theorem sumA_bd (a b : List Nat) (ha : ∀ j, a.getD j 0 ≤ 255) (hb : ∀ j, b.getD j 0 ≤ 255) : ∀ i, i ≤ a.length → ∀ j, (sumA a b i).getD j 0 ≤ 1530
  | 0, _, j => by have := ha j; rw [sumA]; omega
  | i + 1, h, j => by
    have ih := sumA_bd a b ha hb i (by omega) j
    have h1 := sumA_at a b i i (Nat.le_refl _)
    have h2 := ha i
    have h3 := hb i
    rw [sumA, set_getD _ _ _ _ (by rw [sumA_len]; omega)]
    split
    · omega
    · exact ih
/-- The four blocks of folded. -/
def FS (w : World) (n lo hi : List Nat) (z : Array Value) (W : World) : Prop :=
  Grows w W ∧ Blk W w.heap.size 82 (iL n) ∧ Blk W (w.heap.size + 1) 82 z ∧ Blk W (w.heap.size + 2) 82 (iL lo) ∧ Blk W (w.heap.size + 3) 82 (iL hi)
theorem FS.setLo {w W : World} {n lo hi : List Nat} {z : Array Value} (h : FS w n lo hi z W) (i x : Nat) : FS w n (lo.set i x) hi z (W.setCell ⟨w.heap.size + 2, i, none⟩ (.int .i64 (x : Int))) :=
  ⟨h.1.setCell (p := ⟨w.heap.size + 2, i, none⟩) (by show w.heap.size ≤ w.heap.size + 2; omega) _, h.2.1.far (p := ⟨w.heap.size + 2, i, none⟩) (by simp) _, h.2.2.1.far (p := ⟨w.heap.size + 2, i, none⟩) (by simp) _, blk_setL h.2.2.2.1 i x, h.2.2.2.2.far (p := ⟨w.heap.size + 2, i, none⟩) (by simp) _⟩
theorem FS.setHi {w W : World} {n lo hi : List Nat} {z : Array Value} (h : FS w n lo hi z W) (i x : Nat) : FS w n lo (hi.set i x) z (W.setCell ⟨w.heap.size + 3, i, none⟩ (.int .i64 (x : Int))) :=
  ⟨h.1.setCell (p := ⟨w.heap.size + 3, i, none⟩) (by show w.heap.size ≤ w.heap.size + 3; omega) _, h.2.1.far (p := ⟨w.heap.size + 3, i, none⟩) (by simp) _, h.2.2.1.far (p := ⟨w.heap.size + 3, i, none⟩) (by simp) _, h.2.2.2.1.far (p := ⟨w.heap.size + 3, i, none⟩) (by simp) _, blk_setL h.2.2.2.2 i x⟩
theorem FS.drew {w W : World} {n lo hi : List Nat} {z : Array Value} (h : FS w n lo hi z W) : FS w n lo hi z W.drew :=
  ⟨h.1.drew, h.2.1, h.2.2.1, h.2.2.2.1, h.2.2.2.2⟩

set_option maxRecDepth 100000 in
set_option maxHeartbeats 4000000 in
theorem folded_any (n : List Nat) (hn : n.length = 40) (hb : ∀ j, n.getD j 0 ≤ 255) (w : World) :
    Calls Try.prog 56 #[.agg (iL n)] w fun e w' => e = .returned (.agg (iL (carA (sumA (lowA n 40) (hiA n 24) 40) 40).1)) ∧ Grows w w' := by
  obtain ⟨W0, HW0, hg0⟩ : ∃ W0 : World, Hid (W0 = (w.alloc (.cells (iL n) 82)).alloc (.cells (iL (List.replicate 40 0)) 82)) ∧ Grows w W0 := ⟨_, lib_hid rfl, ((Grows.refl w).alloc _).alloc _⟩
  have hW0 : W0.heap.size = w.heap.size + 2 := by rw [HW0.out]; simp
  obtain ⟨z, Hz⟩ : ∃ z, Hid (iL (List.replicate 40 0) = z) := ⟨_, lib_hid rfl⟩
  have HB0 : Blk W0 w.heap.size 82 (iL n) := by
    rw [HW0.out]; have := (Blk.new (w) 82 (iL n)).alloc (.cells (iL (List.replicate 40 0)) 82); simpa using this
  have HB1 : Blk W0 (w.heap.size + 1) 82 z := by
    rw [HW0.out, ← Hz.out]; have := Blk.new (w.alloc (.cells (iL n) 82)) 82 (iL (List.replicate 40 0)); simpa using this
  obtain ⟨W1, HW1⟩ : ∃ W1 : World, Hid (W1 = (W0.alloc (.cells (iL (List.replicate 40 0)) 82)).alloc (.cells (iL (List.replicate 40 0)) 82)) := ⟨_, lib_hid rfl⟩
  have HF0 : Hid (FS w n (lowA n 0) (hiA n 0) z W1) := by
    unfold Hid; rw [HW1.out]
    have b2 := (Blk.new W0 82 (iL (List.replicate 40 0))).alloc (.cells (iL (List.replicate 40 0)) 82)
    have b3 := Blk.new (W0.alloc (.cells (iL (List.replicate 40 0)) 82)) 82 (iL (List.replicate 40 0))
    refine ⟨(hg0.alloc _).alloc _, (HB0.alloc _).alloc _, (HB1.alloc _).alloc _, ?_, ?_⟩
    · rw [hW0] at b2; exact b2
    · rw [show w.heap.size + 3 = (W0.alloc (.cells (iL (List.replicate 40 0)) 82)).heap.size by simp [hW0]]; exact b3
  have nl := lib_hid hn
  have nb := lib_hid hb
  obtain ⟨L, HL, ll, lb⟩ : ∃ L, Hid (lowA n 40 = L) ∧ Hid (L.length = 40) ∧ Hid (∀ j, L.getD j 0 ≤ 255) := ⟨_, lib_hid rfl, lib_hid (lowA_len n 40), lowA_bd n nb.out 40 (by omega)⟩
  obtain ⟨G, HG, gl, gb⟩ : ∃ L, Hid (hiA n 24 = L) ∧ Hid (L.length = 40) ∧ Hid (∀ j, L.getD j 0 ≤ 255) := ⟨_, lib_hid rfl, lib_hid (hiA_len n 24), (hiA_bd n nb.out 24 (by omega)).2.1⟩
  obtain ⟨S, HS, sl, sb⟩ : ∃ S, Hid (sumA L G 40 = S) ∧ Hid (S.length = 40) ∧ Hid (∀ j, S.getD j 0 ≤ 100000000) := ⟨_, lib_hid rfl, by unfold Hid; rw [sumA_len, ll.out], fun j => by have := sumA_bd L G lb.out gb.out 40 (by rw [ll.out]; omega) j; omega⟩
  have HC : Hid (∀ W, Calls Try.prog 49 #[.agg (iL S)] W fun e w' => e = .returned (.agg (iL (carA S 40).1)) ∧ Grows W w') := carried_any S sl.out sb.out
  obtain ⟨res, Hres, hrl, hra⟩ : ∃ r : Array Value, Hid (iL (carA S 40).1 = r) ∧ Hid (r.size = 40) ∧ Hid (r.all (·.oneCell') = true) := ⟨_, lib_hid rfl, by unfold Hid; rw [iL_size, carA_len, sl.out], iL_all _⟩
  rw [HL.out, HG.out, HS.out, Hres.out]
  have HW0' := HW0.out
  have HW1' := HW1.out
  clear hn hb HW0 HW1 HB0 HB1
  go_enter Try.func56, Try.ntmps56
  go_upto_region 1 with (refine wpList_alloc_arr rfl 82 rfl _ zero40 ?_)
  rw [← HW0']
  clear HW0'
  go_upto_region 2 with (refine wpList_alloc_arr rfl 82 rfl _ zero40 ?_)
  rw [← HW1']
  clear HW1'
  have e2 : (W0.alloc (.cells (iL (List.replicate 40 0)) 82)).heap.size = w.heap.size + 3 := by simp [hW0]
  rw [e2, hW0]
  clear e2 hW0
  go_wp2_with fail
  go_loopw [5] (fun i wr => ∃ k : Nat, k ≤ 40 ∧ i = .int .i64 (k : Int) ∧ Hid (FS w n (lowA n k) (hiA n 0) z wr)) (fun i _ => 40 - (intOf i).toNat)
  case atStart => exact ⟨0, by omega, rfl, HF0⟩
  case round =>
    clear HF0 hg0
    obtain ⟨k, hk, rfl, HF⟩ := hrel
    by_cases hlt : k < 40
    · have hki : (k : Int) < 40 := by omega
      obtain ⟨x, Hx, hxb⟩ : ∃ x : Nat, Hid (n.getD k 0 = x) ∧ (x : Int) ≤ 255 := ⟨_, lib_hid rfl, by have := nb.out k; omega⟩
      have c0 : wr.cell? ⟨w.heap.size, k, none⟩ = some (.int .i64 (x : Int)) := by rw [← Hx.out]; exact cellL HF.out.2.1 k (by rw [nl.out]; exact hlt)
      have f2 : wr.frozen? ⟨w.heap.size + 2, k, none⟩ = false := HF.out.2.2.2.1.frozen k
      have hll := lowA_len n k
      obtain ⟨y0, c2⟩ : ∃ y0 : Nat, wr.cell? ⟨w.heap.size + 2, k, none⟩ = some (.int .i64 (y0 : Int)) := ⟨_, cellL HF.out.2.2.2.1 k (by rw [hll]; exact hlt)⟩
      have b2 := lib_hid HF.out.2.2.2.1
      by_cases h16 : k < 16
      · have hkj : (k : Int) < 16 := by omega
        obtain ⟨W2, HW2⟩ : ∃ X : World, Hid (X = wr.setCell ⟨w.heap.size + 2, k, none⟩ (.int .i64 (x : Int))) := ⟨_, lib_hid rfl⟩
        have HF2 : Hid (FS w n (lowA n (k + 1)) (hiA n 0) z W2) := by
          unfold Hid; rw [HW2.out, lowA, if_pos h16, Hx.out]; exact HF.out.setLo k x
        have HW2' := HW2.out
        clear HF HW2 b2 hlt h16 hll
        go_upto_region 4 with fail
        rw [← HW2']
        clear HW2' c0 f2 c2
        go_wp2_with fail
        go_roundw
        case rel => exact ⟨k + 1, by omega, by go_num, HF2⟩
        case measure => simp [intOf]; omega
      · have hkj : ¬ (k : Int) < 16 := by omega
        by_cases he : k = 16
        · obtain ⟨m, hm, Hm, hmb⟩ : ∃ m : Nat, (x : Int).tmod 4 = (m : Int) ∧ Hid (m = x % 4) ∧ (m : Int) ≤ 3 := ⟨x % 4, by rw [Int.tmod_eq_emod_of_nonneg (by omega)]; omega, lib_hid rfl, by omega⟩
          obtain ⟨W2, HW2⟩ : ∃ X : World, Hid (X = wr.setCell ⟨w.heap.size + 2, k, none⟩ (.int .i64 (m : Int))) := ⟨_, lib_hid rfl⟩
          have HF2 : Hid (FS w n (lowA n (k + 1)) (hiA n 0) z W2) := by
            unfold Hid; rw [HW2.out, lowA, if_neg h16, if_pos he, Hx.out, ← Hm.out]; exact HF.out.setLo k m
          have HW2' := HW2.out
          have hke : ((k : Int) == 16) = true := beq_iff_eq.2 (by omega)
          have He := lib_hid he
          clear HF HW2 b2 hlt h16 hll he
          go_upto_if 20 with fail
          clear hke
          go_upto_region 4 with fail
          rw [← HW2']
          clear HW2' c0 f2 c2 hm
          go_wp2_with fail
          go_roundw
          case rel => exact ⟨k + 1, by omega, by go_num, HF2⟩
          case measure => simp [intOf]; omega
        · have HF2 : Hid (FS w n (lowA n (k + 1)) (hiA n 0) z wr) := by
            unfold Hid; rw [lowA, if_neg h16, if_neg he]; exact HF.out
          have hke : ((k : Int) == 16) = false := beq_false_of_ne (by omega)
          clear HF b2 hlt h16 hll he c0 f2 c2
          go_upto_if 20 with fail
          clear hke
          go_wp2_with fail
          go_roundw
          case rel => exact ⟨k + 1, by omega, by go_num, HF2⟩
          case measure => simp [intOf]; omega
    · have Hk : Hid (k = 40) := by unfold Hid; omega
      have hki : ¬ (k : Int) < 40 := by omega
      have HF1 : Hid (FS w n L (hiA n 0) z wr) := by have := HF.out; rw [Hk.out, HL.out] at this; exact this
      clear HF hlt hk
      go_wp2_with fail
      obtain ⟨wo, ewo⟩ : ∃ wo : World, wo = wr := ⟨_, rfl⟩
      subst ewo
      clear hki
      go_loopw [6] (fun iv wr => ∃ k i : Nat, k ≤ 24 ∧ Hid (i = 16 + k) ∧ iv = .int .i64 (i : Int) ∧ Hid (FS w n L (hiA n k) z wr)) (fun i _ => 40 - (intOf i).toNat)
      case atStart => exact ⟨0, 16, by omega, lib_hid rfl, rfl, HF1⟩
      case round =>
        clear HF1
        obtain ⟨k, i, hk, Hi, rfl, HF⟩ := hrel
        by_cases hlt : k < 24
        · have hki : (i : Int) < 40 := by have := Hi.out; omega
          have Hlt := lib_hid hlt
          obtain ⟨hz1, hz2, _⟩ := hiA_bd n nb.out k (by omega)
          obtain ⟨hz1', hz2', _⟩ := hiA_bd n nb.out (k + 1) (by omega)
          obtain ⟨x, Hx, hxb⟩ : ∃ x : Nat, Hid (n.getD i 0 = x) ∧ (x : Int) ≤ 255 := ⟨_, lib_hid rfl, by have := nb.out i; omega⟩
          obtain ⟨y, Hy, hyb⟩ : ∃ y : Nat, Hid ((hiA n k).getD k 0 = y) ∧ (y : Int) ≤ 255 := ⟨_, lib_hid rfl, by have := hz2 k; omega⟩
          have c0 : wr.cell? ⟨w.heap.size, i, none⟩ = some (.int .i64 (x : Int)) := by rw [← Hx.out]; exact cellL HF.out.2.1 i (by rw [nl.out]; omega)
          have c3 : wr.cell? ⟨w.heap.size + 3, k, none⟩ = some (.int .i64 (y : Int)) := by rw [← Hy.out]; exact cellL HF.out.2.2.2.2 k (by rw [hiA_len]; omega)
          have f3 : wr.frozen? ⟨w.heap.size + 3, k, none⟩ = false := HF.out.2.2.2.2.frozen k
          obtain ⟨q, hq, Hq, hqb⟩ : ∃ q : Nat, (x : Int).tdiv 4 = (q : Int) ∧ Hid (q = x / 4) ∧ (q : Int) ≤ 63 := ⟨x / 4, by rw [Int.tdiv_eq_ediv_of_nonneg (by omega)]; omega, lib_hid rfl, by omega⟩
          obtain ⟨s, hs, Hs, hsb⟩ : ∃ s : Nat, (y : Int) + (q : Int) = (s : Int) ∧ Hid (s = y + q) ∧ (s : Int) ≤ 1000 := ⟨y + q, by omega, lib_hid rfl, by omega⟩
          have hj : (i : Int) - 16 = (k : Int) := by have := Hi.out; omega
          have hkb : (k : Int) < 40 := by omega
          obtain ⟨W2, HW2⟩ : ∃ X : World, Hid (X = (wr.setCell ⟨w.heap.size + 3, k, none⟩ (.int .i64 (s : Int))).drew) := ⟨_, lib_hid rfl⟩
          have HF2 : Hid (FS w n L ((hiA n k).set k s) z W2) := by unfold Hid; rw [HW2.out]; exact (HF.out.setHi k s).drew
          have HW2' := HW2.out
          have Hz2 := lib_hid hz2
          clear HF HW2 hz1 hz2 hz1' hz2'
          go_upto_region 12 with fail
          clear hki
          go_region
          rw [← HW2']
          clear HW2' c0 c3 f3 hq hs hj
          by_cases h0 : 0 < k
          · have hgt : (16 : Int) < (i : Int) := by have := Hi.out; omega
            obtain ⟨j, hj, Hj, hjb⟩ : ∃ j : Nat, (i : Int) - 17 = (j : Int) ∧ Hid (j = k - 1) ∧ (j : Int) < 40 := ⟨k - 1, by have := Hi.out; omega, lib_hid rfl, by omega⟩
            obtain ⟨y2, Hy2, hyb2⟩ : ∃ y : Nat, Hid (((hiA n k).set k s).getD j 0 = y) ∧ (y : Int) ≤ 1000 := ⟨_, lib_hid rfl, by
              rw [set_getD _ _ _ _ (by rw [hiA_len]; omega)]
              split
              · exact hsb
              · have := Hz2.out j; omega⟩
            obtain ⟨m, hm, Hm, hmb⟩ : ∃ m : Nat, (x : Int).tmod 4 = (m : Int) ∧ Hid (m = x % 4) ∧ (m : Int) ≤ 3 := ⟨x % 4, by rw [Int.tmod_eq_emod_of_nonneg (by omega)]; omega, lib_hid rfl, by omega⟩
            obtain ⟨m2, hm2, Hm2, hm2b⟩ : ∃ t : Nat, (m : Int) * 64 = (t : Int) ∧ Hid (t = m * 64) ∧ (t : Int) ≤ 200 := ⟨m * 64, by omega, lib_hid rfl, by omega⟩
            obtain ⟨s2, hs2, Hs2, hs2b⟩ : ∃ s : Nat, (y2 : Int) + (m2 : Int) = (s : Int) ∧ Hid (s = y2 + m2) ∧ (s : Int) ≤ 2000 := ⟨y2 + m2, by omega, lib_hid rfl, by omega⟩
            have c0 : W2.cell? ⟨w.heap.size, i, none⟩ = some (.int .i64 (x : Int)) := by rw [← Hx.out]; exact cellL HF2.out.2.1 i (by rw [nl.out]; have := Hi.out; omega)
            have c3 : W2.cell? ⟨w.heap.size + 3, j, none⟩ = some (.int .i64 (y2 : Int)) := by rw [← Hy2.out]; exact cellL HF2.out.2.2.2.2 j (by rw [List.length_set, hiA_len]; omega)
            have f3 : W2.frozen? ⟨w.heap.size + 3, j, none⟩ = false := HF2.out.2.2.2.2.frozen j
            obtain ⟨W3, HW3⟩ : ∃ X : World, Hid (X = (W2.setCell ⟨w.heap.size + 3, j, none⟩ (.int .i64 (s2 : Int))).drew) := ⟨_, lib_hid rfl⟩
            have HF3 : Hid (FS w n L (hiA n (k + 1)) z W3) := by
              have := (HF2.out.setHi j s2).drew
              unfold Hid
              rw [HW3.out, hiA, if_pos h0, ← Hi.out, Hx.out, Hy.out, ← Hq.out, ← Hs.out, ← Hj.out, Hy2.out, ← Hm.out, ← Hm2.out, ← Hs2.out]
              exact this
            have HW3' := HW3.out
            have hib : (i : Int) < 40 := by have := Hi.out; omega
            clear HF2 HW3 Hz2 h0 hlt
            go_upto_region 14 with fail
            clear hgt
            go_region
            rw [← HW3']
            clear HW3' c0 c3 f3 hm hm2 hs2 hj
            go_wp2_with fail
            go_roundw
            case rel => exact ⟨k + 1, i + 1, by have := Hlt.out; omega, by have := Hi.out; unfold Hid; omega, by go_num, HF3⟩
            case measure => simp [intOf]; omega
          · have hgt : ¬ (16 : Int) < (i : Int) := by have := Hi.out; omega
            have HF3 : Hid (FS w n L (hiA n (k + 1)) z W2) := by
              unfold Hid
              rw [hiA, if_neg h0, ← Hi.out, Hx.out, Hy.out, ← Hq.out, ← Hs.out]
              exact HF2.out
            have hib : (i : Int) < 40 := by have := Hi.out; omega
            clear HF2 Hz2 h0 hlt
            go_wp2_with fail
            go_roundw
            case rel => exact ⟨k + 1, i + 1, by have := Hlt.out; omega, by have := Hi.out; unfold Hid; omega, by go_num, HF3⟩
            case measure => simp [intOf]; omega
        · have Hk : Hid (k = 24) := by unfold Hid; omega
          have hki : ¬ (i : Int) < 40 := by have := Hi.out; omega
          have HF1 : Hid (FS w n (sumA L G 0) G z wr) := by have := HF.out; rw [Hk.out, HG.out] at this; exact this
          clear HF hlt hk Hi
          go_wp2_with fail
          obtain ⟨wo, ewo⟩ : ∃ wo : World, wo = wr := ⟨_, rfl⟩
          subst ewo
          clear hki
          go_loopw [7] (fun iv wr => ∃ k : Nat, k ≤ 40 ∧ iv = .int .i64 (k : Int) ∧ Hid (FS w n (sumA L G k) G z wr)) (fun i _ => 40 - (intOf i).toNat)
          case atStart => exact ⟨0, by omega, rfl, HF1⟩
          case round =>
            clear HF1
            obtain ⟨k, hk, rfl, HF⟩ := hrel
            by_cases hlt : k < 40
            · have hki : (k : Int) < 40 := by omega
              obtain ⟨x, Hx, hxb⟩ : ∃ x : Nat, Hid ((sumA L G k).getD k 0 = x) ∧ (x : Int) ≤ 255 := ⟨_, lib_hid rfl, by have := lb.out k; rw [sumA_at _ _ _ _ (Nat.le_refl _)]; omega⟩
              obtain ⟨y, Hy, hyb⟩ : ∃ y : Nat, Hid (G.getD k 0 = y) ∧ (y : Int) ≤ 255 := ⟨_, lib_hid rfl, by have := gb.out k; omega⟩
              have c2 : wr.cell? ⟨w.heap.size + 2, k, none⟩ = some (.int .i64 (x : Int)) := by rw [← Hx.out]; exact cellL HF.out.2.2.2.1 k (by rw [sumA_len, ll.out]; exact hlt)
              have c3 : wr.cell? ⟨w.heap.size + 3, k, none⟩ = some (.int .i64 (y : Int)) := by rw [← Hy.out]; exact cellL HF.out.2.2.2.2 k (by rw [gl.out]; exact hlt)
              have f2 : wr.frozen? ⟨w.heap.size + 2, k, none⟩ = false := HF.out.2.2.2.1.frozen k
              obtain ⟨m, hm, Hm, hmb⟩ : ∃ t : Nat, (5 : Int) * (y : Int) = (t : Int) ∧ Hid (t = 5 * y) ∧ (t : Int) ≤ 1275 := ⟨5 * y, by omega, lib_hid rfl, by omega⟩
              obtain ⟨s, hs, Hs, hsb⟩ : ∃ s : Nat, (x : Int) + (m : Int) = (s : Int) ∧ Hid (s = x + m) ∧ (s : Int) ≤ 2000 := ⟨x + m, by omega, lib_hid rfl, by omega⟩
              obtain ⟨W2, HW2⟩ : ∃ X : World, Hid (X = (wr.setCell ⟨w.heap.size + 2, k, none⟩ (.int .i64 (s : Int))).drew) := ⟨_, lib_hid rfl⟩
              have HF2 : Hid (FS w n (sumA L G (k + 1)) G z W2) := by
                have := (HF.out.setLo k s).drew
                unfold Hid; rw [HW2.out, sumA, Hx.out, Hy.out, ← Hm.out, ← Hs.out]; exact this
              have HW2' := HW2.out
              clear HF HW2 hlt
              go_upto_region 18 with fail
              go_region
              rw [← HW2']
              clear HW2' c2 c3 f2 hm hs
              go_wp2_with fail
              go_roundw
              case rel => exact ⟨k + 1, by omega, by go_num, HF2⟩
              case measure => simp [intOf]; omega
            · have Hk : Hid (k = 40) := by unfold Hid; omega
              have hki : ¬ (k : Int) < 40 := by omega
              have HF1 : Hid (FS w n S G z wr) := by have := HF.out; rw [Hk.out, HS.out] at this; exact this
              obtain ⟨sv, Hsv, svl⟩ : ∃ r : Array Value, Hid (iL S = r) ∧ r.size = 40 := ⟨_, lib_hid rfl, by rw [iL_size, sl.out]⟩
              have zl : z.size = 40 := by rw [← Hz.out, iL_size]; simp
              have hgr := HF1.out.1
              have hrl := hrl.out
              have hra := hra.out
              have hZ := lib_hid HF1.out.2.2.1
              have hS := lib_hid HF1.out.2.2.2.1
              rw [Hsv.out] at hS HC
              rw [Hres.out] at HC
              clear HF HF1 hlt sl sb
              go_wp2_with (refine wpList_load_blk rfl _ _ rfl (w.heap.size + 2) rfl 82 sv _ hS.out Try.underlying82 rfl (by rw [Try.size40, svl]) ?_)
              refine (HC.out _).mono ?_
              rintro e w3 ⟨rfl, hg3⟩
              have hZ3 := lib_hid (hZ.out.grows hg3)
              have hgr3 := hgr.trans hg3
              clear hZ hS HC hgr hg3
              go_wp2_with (refine wpList_store_blk rfl _ _ _ rfl (w.heap.size + 1) res rfl rfl 82 _ hZ3.out (by rw [Try.size40, hrl]) (by rw [zl, hrl]) hra (w.heap.size + 1) w3 (Below.refl _ _) (Nat.le_refl _) ?_; intro w5 HR6 hb5 hgr5)
              refine bodyPost_ret (results_cell_row rfl _ _ (w.heap.size + 1) _ res _ _ rfl HR6 Try.underlying82 rfl (by rw [Try.size40, hrl])) rfl ?_
              exact ⟨rfl, Below.trans hgr3 (hb5.mono (by omega))⟩

end Go.Proofs.Ytgolndfimhogoaa

namespace Go.Proofs.Ytgolndfimhogoaa
open Go Go.RowKit
set_option linter.unusedSimpArgs false

theorem folded_digits (v : Nat) (hv : v < 256 ^ 40) (w : World) :
    Calls Try.prog 56 #[.agg (iL (digL 40 v))] w fun e w' => e = .returned (.agg (iL (digL 40 (foldN v)))) ∧ Grows w w' := by
  have := folded_any (digL 40 v) (digL_len 40 v) (digL_bd 40 v) w
  rw [folded_v v hv] at this
  exact this
theorem mostB_succ (u k : Nat) : mostB u (k + 1) = (mostB u k && decide (u / 256 ^ (k + 1) % 256 = 255)) := by
  unfold mostB
  rw [show allB (u / 256) (k + 1) = (allB (u / 256) k && decide (u / 256 / 256 ^ k % 256 = 255)) from rfl, Nat.div_div_eq_div_mul u 256, show 256 * 256 ^ k = 256 ^ (k + 1) by rw [Nat.pow_succ, Nat.mul_comm]]
  simp only [Bool.and_assoc]
theorem zeroNum (w : World) : (zeroValue 82).run Try.prog w = .ok (.agg (iL (List.replicate 40 0))) w := by kernel_rfl

set_option maxRecDepth 100000 in
set_option maxHeartbeats 4000000 in
theorem reduced_any (v : Nat) (hv : v < 1361129467683753853853498429727072845824 * 1361129467683753853853498429727072845824) (w : World) :
    Calls Try.prog 48 #[.agg (iL (digL 40 v))] w fun e w' => e = .returned (.agg (iL (digL 40 (v % pP)))) ∧ Grows w w' := by
  have h40 : (1361129467683753853853498429727072845824 * 1361129467683753853853498429727072845824 : Nat) < 256 ^ 40 := by decide
  obtain ⟨hu, hup⟩ := foldI_six v hv
  obtain ⟨D, HD, Dl, Da⟩ : ∃ D : Nat → Array Value, Hid (D = fun k => iL (digL 40 (foldI k v))) ∧ Hid (∀ k, (D k).size = 40) ∧ Hid (∀ k, (D k).all (·.oneCell') = true) :=
    ⟨_, lib_hid rfl, fun k => by simp only [iL_size, digL_len], fun k => iL_all _⟩
  have HCf : Hid (∀ k W, Calls Try.prog 56 #[.agg (D k)] W fun e w' => e = .returned (.agg (D (k + 1))) ∧ Grows W w') := fun k W => by
    rw [HD.out]
    exact folded_digits (foldI k v) (Nat.lt_of_le_of_lt (foldI_le v k) (Nat.lt_trans hv h40)) W
  obtain ⟨u, Hu⟩ : ∃ u, Hid (foldI 6 v = u) := ⟨_, lib_hid rfl⟩
  rw [Hu.out] at hu hup
  obtain ⟨res, Hres, hrl, hra⟩ : ∃ r : Array Value, Hid (iL (digL 40 (v % pP)) = r) ∧ Hid (r.size = 40) ∧ Hid (r.all (·.oneCell') = true) := ⟨_, lib_hid rfl, by unfold Hid; rw [iL_size, digL_len], iL_all _⟩
  rw [Hres.out, show iL (digL 40 v) = D 0 by rw [HD.out]; rfl]
  have Hmost : Hid (pP ≤ u → ∃ x : Nat, u % 256 = x ∧ res = iL ((x - 251) :: List.replicate 39 0)) := fun h => ⟨_, rfl, by rw [← Hres.out, ← hup, most_digits u hu h]⟩
  have Hless : Hid (¬ pP ≤ u → D 6 = res) := fun h => by rw [← Hres.out, ← hup, less_digits u h, HD.out, ← Hu.out]
  have HD6 : Hid (∀ i, i < 40 → ∀ W, Blk W w.heap.size 82 (D 6) → W.cell? ⟨w.heap.size, i, none⟩ = some (.int .i64 ((u / 256 ^ i % 256 : Nat) : Int))) := fun i hi W hB => by
    rw [HD.out] at hB
    have := cellL hB i (by rw [digL_len]; exact hi)
    rw [digL_at _ _ _ hi, Hu.out] at this
    exact this
  obtain ⟨z, Hz, Hzl⟩ : ∃ z, Hid (iL (List.replicate 40 0) = z) ∧ Hid (z.size = 40) := ⟨_, lib_hid rfl, by unfold Hid; rw [iL_size]; simp⟩
  obtain ⟨W0, HW0, hg0⟩ : ∃ W0 : World, Hid (W0 = (w.alloc (.cells (D 0) 82)).alloc (.cells (iL (List.replicate 40 0)) 82)) ∧ Grows w W0 := ⟨_, lib_hid rfl, ((Grows.refl w).alloc _).alloc _⟩
  have HB0 : Hid (Blk W0 w.heap.size 82 (D 0)) := by
    unfold Hid; rw [HW0.out]; have := (Blk.new (w) 82 (D 0)).alloc (.cells (iL (List.replicate 40 0)) 82); simpa using this
  have HB1 : Hid (Blk W0 (w.heap.size + 1) 82 z) := by
    unfold Hid; rw [HW0.out, ← Hz.out]; have := Blk.new (w.alloc (.cells (D 0) 82)) 82 (iL (List.replicate 40 0)); simpa using this
  have HW0' := HW0.out
  have Hm15 := lib_hid (most_v u hu)
  clear hv h40 HD HW0 hu hup Hu
  go_enter Try.func48, Try.ntmps48
  go_upto_region 1 with (refine wpList_alloc_arr rfl 82 rfl _ zero40 ?_)
  rw [← HW0']
  clear HW0'
  go_wp2_with fail
  go_loopw [3] (fun i wr => ∃ k : Nat, k ≤ 6 ∧ i = .int .i64 (k : Int) ∧ Grows w wr ∧ Hid (Blk wr w.heap.size 82 (D k)) ∧ Hid (Blk wr (w.heap.size + 1) 82 z)) (fun i _ => 6 - (intOf i).toNat)
  case atStart => exact ⟨0, by omega, rfl, hg0, HB0, HB1⟩
  case round =>
    clear HB0 HB1 hg0
    obtain ⟨k, hk, rfl, hgr, HN, HZ⟩ := hrel
    by_cases hlt : k < 6
    · have hki : (k : Int) < 6 := by omega
      go_wp2_with (refine wpList_load_blk rfl _ _ rfl w.heap.size rfl 82 (D k) _ HN.out Try.underlying82 rfl (by rw [Try.size40, Dl.out]) ?_)
      refine (HCf.out k _).mono ?_
      rintro e w3 ⟨rfl, hg3⟩
      have HN3 := lib_hid (HN.out.grows hg3)
      have HZ3 := lib_hid (HZ.out.grows hg3)
      have hgr3 := hgr.trans hg3
      have hl1 := Dl.out (k + 1)
      have hl0 := Dl.out k
      have ha1 := Da.out (k + 1)
      clear HN HZ hgr hg3
      obtain ⟨d1, Hd1⟩ : ∃ d, Hid (D (k + 1) = d) := ⟨_, lib_hid rfl⟩
      rw [Hd1.out] at hl1 ha1
      rw [Hd1.out]
      have hl1' := lib_hid hl1
      have hl0' := lib_hid hl0
      have ha1' := lib_hid ha1
      clear hl1 hl0 ha1
      go_wp2_with (refine wpList_store_blk rfl _ _ _ rfl w.heap.size d1 rfl rfl 82 _ HN3.out (by rw [Try.size40, hl1'.out]) (by rw [hl0'.out, hl1'.out]) ha1'.out w.heap.size w3 (Below.refl _ _) (Nat.le_refl _) ?_; intro w5 HR6 hb5 hgr5; have HR7 := lib_hid HR6; have hgr7 := lib_hid hgr5; clear HR6 hb5 hgr5)
      have HN5 : Hid (Blk w5 w.heap.size 82 (D (k + 1))) := by unfold Hid; rw [Hd1.out]; exact HR7.out
      have HZ5 : Hid (Blk w5 (w.heap.size + 1) 82 z) := HZ3.out.grown hgr7.out (by simp)
      have hg5 : Grows w w5 := hgr3.grown hgr7.out (fun k e => by cases e; exact Nat.le_refl _)
      clear HN3 HZ3 HR7 hgr7 hgr3
      go_roundw
      case rel => exact ⟨k + 1, by omega, by go_num, hg5, HN5, HZ5⟩
      case measure => simp [intOf]; omega
    · have Hk : Hid (k = 6) := by unfold Hid; omega
      have hki : ¬ (k : Int) < 6 := by omega
      have HN6 : Hid (Blk wr w.heap.size 82 (D 6)) := by have := HN.out; rw [Hk.out] at this; exact this
      clear HN hlt hk
      obtain ⟨wo, ewo⟩ : ∃ wo : World, wo = wr := ⟨_, rfl⟩
      subst ewo
      go_upto_region 5 with fail
      clear hki
      go_cut [4] from 12 (fun b wx => b = .bool (mostB u 0) ∧ wx = wo)
      case first =>
        obtain ⟨x, Hx, hxb⟩ : ∃ x : Nat, Hid (u / 256 ^ 16 % 256 = x) ∧ (x : Int) ≤ 255 := ⟨_, lib_hid rfl, by have := Nat.mod_lt (u / 256 ^ 16) (show 0 < 256 by omega); omega⟩
        obtain ⟨y, Hy, hyb⟩ : ∃ x : Nat, Hid (u % 256 = x) ∧ (x : Int) ≤ 255 := ⟨_, lib_hid rfl, by omega⟩
        have c16 : wo.cell? ⟨w.heap.size, 16, none⟩ = some (.int .i64 (x : Int)) := by rw [← Hx.out]; exact HD6.out 16 (by omega) wo HN6.out
        have c0 : wo.cell? ⟨w.heap.size, 0, none⟩ = some (.int .i64 (y : Int)) := by
          rw [← Hy.out]; have := HD6.out 0 (by omega) wo HN6.out
          rw [Nat.pow_zero, Nat.div_one] at this; exact this
        have Hm : Hid (mostB u 0 = (decide (x = 3) && decide (251 ≤ y))) := by unfold Hid mostB allB; rw [Hx.out, Hy.out, Bool.and_true]
        have hgo := hgr
        clear HN6 HZ hgr
        by_cases h3 : x = 3
        · have k3 : ((x : Int) == 3) = true := beq_iff_eq.2 (by omega)
          by_cases h251 : 251 ≤ y
          · have k0 : (251 : Int) ≤ (y : Int) := by omega
            have Hm2 : Hid (mostB u 0 = true) := by unfold Hid; rw [Hm.out, decide_eq_true h3, decide_eq_true h251]; rfl
            clear h3 h251 Hm
            go_wp2_with fail
            go_meet
            case rel => exact ⟨by rw [Hm2.out], rfl⟩
          · have k0 : ¬ (251 : Int) ≤ (y : Int) := by omega
            have Hm2 : Hid (mostB u 0 = false) := by unfold Hid; rw [Hm.out, decide_eq_false h251, Bool.and_false]
            clear h3 h251 Hm
            go_wp2_with fail
            go_meet
            case rel => exact ⟨by rw [Hm2.out], rfl⟩
        · have k3 : ((x : Int) == 3) = false := beq_false_of_ne (by omega)
          have Hm2 : Hid (mostB u 0 = false) := by unfold Hid; rw [Hm.out, decide_eq_false h3, Bool.false_and]
          clear h3 Hm
          go_wp2_with fail
          go_meet
          case rel => exact ⟨by rw [Hm2.out], rfl⟩
      case rest =>
        obtain ⟨rfl, rfl⟩ := hcut
        go_wp2_with fail
        go_loopw [4, 5] (fun b iv wx => ∃ k i : Nat, k ≤ 15 ∧ Hid (i = k + 1) ∧ b = .bool (mostB u k) ∧ iv = .int .i64 (i : Int) ∧ wx = wc) (fun _ i _ => 16 - (intOf i).toNat)
        case atStart => exact ⟨0, 1, by omega, lib_hid rfl, rfl, rfl, rfl⟩
        case round =>
          obtain ⟨k, i, hk, Hi, rfl, rfl, rfl⟩ := hrel
          by_cases hlt : k < 15
          · have hki : (i : Int) < 16 := by have := Hi.out; omega
            have hib : (i : Int) < 40 := by omega
            have Hlt := lib_hid hlt
            obtain ⟨x, Hx, hxb⟩ : ∃ x : Nat, Hid (u / 256 ^ i % 256 = x) ∧ (x : Int) ≤ 255 := ⟨_, lib_hid rfl, by have := Nat.mod_lt (u / 256 ^ i) (show 0 < 256 by omega); omega⟩
            have ci : wr.cell? ⟨w.heap.size, i, none⟩ = some (.int .i64 (x : Int)) := by rw [← Hx.out]; exact HD6.out i (by omega) _ HN6.out
            have Hm : Hid (mostB u (k + 1) = (mostB u k && decide (x = 255))) := by unfold Hid; rw [mostB_succ, ← Hi.out, Hx.out]
            have hgo := lib_hid (And.intro HN6.out (And.intro HZ.out hgr))
            clear HN6 HZ hgr hlt hk
            obtain ⟨b, Hb⟩ : ∃ b, Hid (mostB u k = b) := ⟨_, lib_hid rfl⟩
            rw [Hb.out] at Hm ⊢
            cases b with
            | true =>
              by_cases h3 : x = 255
              · have k3 : ((x : Int) == 255) = true := beq_iff_eq.2 (by omega)
                have Hm2 : Hid (mostB u (k + 1) = true) := by unfold Hid; rw [Hm.out, decide_eq_true h3]; rfl
                clear h3 Hm
                go_wp2_with fail
                go_roundw
                case rel => exact ⟨k + 1, i + 1, by have := Hlt.out; omega, by have := Hi.out; unfold Hid; omega, by rw [Hm2.out], by go_num, trivial⟩
                case measure => simp [intOf]; omega
              · have k3 : ((x : Int) == 255) = false := beq_false_of_ne (by omega)
                have Hm2 : Hid (mostB u (k + 1) = false) := by unfold Hid; rw [Hm.out, decide_eq_false h3]; rfl
                clear h3 Hm
                go_wp2_with fail
                go_roundw
                case rel => exact ⟨k + 1, i + 1, by have := Hlt.out; omega, by have := Hi.out; unfold Hid; omega, by rw [Hm2.out], by go_num, trivial⟩
                case measure => simp [intOf]; omega
            | false =>
              have Hm2 : Hid (mostB u (k + 1) = false) := by unfold Hid; rw [Hm.out]; rfl
              clear Hm ci
              go_wp2_with fail
              go_roundw
              case rel => exact ⟨k + 1, i + 1, by have := Hlt.out; omega, by have := Hi.out; unfold Hid; omega, by rw [Hm2.out], by go_num, trivial⟩
              case measure => simp [intOf]; omega
          · have Hk : Hid (k = 15) := by unfold Hid; omega
            have hki : ¬ (i : Int) < 16 := by have := Hi.out; omega
            rw [Hk.out]
            have hrl := hrl.out
            have hra := hra.out
            by_cases hp : pP ≤ u
            · rw [Hm15.out.2 hp]
              obtain ⟨x, Hx, hres⟩ := Hmost.out hp
              have hx : 251 ≤ x ∧ x ≤ 255 := by
                have h1 := (Hm15.out).2 hp
                unfold mostB at h1
                rw [Bool.and_eq_true, Bool.and_eq_true, decide_eq_true_iff, decide_eq_true_iff] at h1
                omega
              obtain ⟨d, hd, Hd⟩ : ∃ d : Nat, (x : Int) - 251 = (d : Int) ∧ Hid (d = x - 251) := ⟨x - 251, by omega, lib_hid rfl⟩
              have c0 : wr.cell? ⟨w.heap.size, 0, none⟩ = some (.int .i64 (x : Int)) := by
                have := HD6.out 0 (by omega) _ HN6.out
                rw [Nat.pow_zero, Nat.div_one, Hx] at this; exact this
              have hxb : (x : Int) ≤ 255 := by omega
              have hdb : (d : Int) ≤ 255 := by omega
              have Hres2 : Hid (res = iL (d :: List.replicate 39 0)) := by unfold Hid; rw [hres, Hd.out]
              have hrl2 : Hid ((iL (d :: List.replicate 39 0)).size = 40) := by unfold Hid; rw [← Hres2.out]; exact hrl
              have hra2 := lib_hid (iL_all (d :: List.replicate 39 0))
              clear hrl hra hres hx Hx
              have zl := Hzl
              clear HN6
              go_wp2_with (refine wpList_store_blk rfl _ _ _ rfl (w.heap.size + 1) (iL (d :: List.replicate 39 0)) rfl rfl 82 _ HZ.out (by rw [Try.size40, hrl2.out]) (by rw [zl.out, hrl2.out]) hra2.out (w.heap.size + 1) wr (Below.refl _ _) (Nat.le_refl _) ?_; intro w5 HR6 hb5 hgr5)
              refine bodyPost_ret (results_cell_row rfl _ _ (w.heap.size + 1) _ _ _ _ rfl HR6 Try.underlying82 rfl (by rw [Try.size40, hrl2.out])) rfl ?_
              exact ⟨by rw [Hres2.out], Below.trans hgr (hb5.mono (by omega))⟩
            · rw [show mostB u 15 = false from Bool.eq_false_iff.2 (fun e => hp (Hm15.out.1 e))]
              have HR : Hid (Blk wr w.heap.size 82 res) := by have := HN6.out; rw [Hless.out hp] at this; exact this
              have zl := Hzl.out
              clear HN6
              go_wp2_with (first
                | (refine wpList_load_blk rfl _ _ rfl w.heap.size rfl 82 res _ HR.out Try.underlying82 rfl (by rw [Try.size40, hrl]) ?_)
                | (refine wpList_store_blk rfl _ _ _ rfl (w.heap.size + 1) res rfl rfl 82 _ HZ.out (by rw [Try.size40, hrl]) (by rw [zl, hrl]) hra (w.heap.size + 1) wr (Below.refl _ _) (Nat.le_refl _) ?_; intro w5 HR6 hb5 hgr5))
              refine bodyPost_ret (results_cell_row rfl _ _ (w.heap.size + 1) _ res _ _ rfl HR6 Try.underlying82 rfl (by rw [Try.size40, hrl])) rfl ?_
              exact ⟨rfl, Below.trans hgr (hb5.mono (by omega))⟩

end Go.Proofs.Ytgolndfimhogoaa

namespace Go.Proofs.Ytgolndfimhogoaa
open Go Go.RowKit
set_option linter.unusedSimpArgs false

theorem blk_set8 {w : World} {g : Nat} {t : TypeId} {bs : List UInt8} (h : Blk w g t (bs.map b8).toArray) (i : Nat) (y : UInt8) : Blk (w.setCell ⟨g, i, none⟩ (b8 y)) g t ((bs.set i y).map b8).toArray := by
  have := h.set i (b8 y)
  rw [List.setIfInBounds_toArray, ← List.map_set] at this
  exact this
theorem cell8 {w : World} {g : Nat} {t : TypeId} {bs : List UInt8} (h : Blk w g t (bs.map b8).toArray) (i : Nat) (hi : i < bs.length) : w.cell? ⟨g, i, none⟩ = some (.int .u8 ((bs.getD i 0).toNat : Int)) := by
  rw [h.cell, List.getElem?_toArray, List.getElem?_map, List.getElem?_eq_getElem hi, List.getD_eq_getElem?_getD, List.getElem?_eq_getElem hi]
  rfl

set_option maxRecDepth 100000 in
set_option maxHeartbeats 4000000 in
theorem refClamp_any (bs : List UInt8) (hl : bs.length = 16) (w : World) :
    Calls Try.prog 47 #[.agg (bs.map b8).toArray] w fun e w' => e = .returned (.agg ((clampF bs).map b8).toArray) ∧ Grows w w' := by
  obtain ⟨W0, HW0, hW0, hg0⟩ : ∃ W0 : World, Hid (W0 = (w.alloc (.cells (bs.map b8).toArray 56)).alloc (.cells ((List.replicate 16 (0 : UInt8)).map b8).toArray 56)) ∧ W0.heap.size = w.heap.size + 2 ∧ Grows w W0 := ⟨_, lib_hid rfl, by simp, ((Grows.refl w).alloc _).alloc _⟩
  have HB0 : Hid (Blk W0 w.heap.size 56 ((clR 0 bs).map b8).toArray) := by
    unfold Hid; rw [HW0.out]; have := (Blk.new (w) 56 (bs.map b8).toArray).alloc (.cells ((List.replicate 16 (0 : UInt8)).map b8).toArray 56); simpa [clR] using this
  obtain ⟨z, Hz⟩ : ∃ z, Hid ((List.replicate 16 (0 : UInt8)).map b8 = z) := ⟨_, lib_hid rfl⟩
  have HB1 : Hid (Blk W0 (w.heap.size + 1) 56 z.toArray) := by
    unfold Hid; rw [HW0.out, ← Hz.out]; have := Blk.new (w.alloc (.cells (bs.map b8).toArray 56)) 56 ((List.replicate 16 (0 : UInt8)).map b8).toArray; simpa using this
  have bsl := lib_hid hl
  have Hcl := lib_hid (clR_eq bs hl)
  have HW0' := HW0.out
  rw [← zeros16] at HW0'
  clear hl hW0
  go_enter Try.func47, Try.ntmps47
  go_upto_region 1 with fail
  rw [← HW0']
  clear HW0'
  go_wp2_with fail
  go_loopw [3] (fun v wr => ∃ k : Nat, k ≤ 16 ∧ v = .int .i64 (k : Int) ∧ Grows w wr ∧ Hid (Blk wr (w.heap.size + 1) 56 z.toArray) ∧ Hid (Blk wr w.heap.size 56 ((clR k bs).map b8).toArray)) (fun v _ => 16 - (intOf v).toNat)
  case atStart => exact ⟨0, by omega, rfl, hg0, HB1, HB0⟩
  case round =>
    clear hg0 HB1 HB0
    obtain ⟨k, hk, rfl, hgr, HZ, HC⟩ := hrel
    by_cases hlt : k < 16
    · have hki : (k : Int) < 16 := by omega
      obtain ⟨c, Hc, cl⟩ : ∃ c, Hid (clR k bs = c) ∧ Hid (c.length = 16) := ⟨_, lib_hid rfl, by unfold Hid; rw [clR_len, bsl.out]⟩
      rw [Hc.out] at HC
      obtain ⟨m, hm, Hm, hmb⟩ : ∃ m : Nat, (k : Int).tmod 4 = (m : Int) ∧ Hid (m = k % 4) ∧ (m : Int) ≤ 3 := ⟨k % 4, by rw [Int.tmod_eq_emod_of_nonneg (by omega)]; omega, lib_hid rfl, by omega⟩
      obtain ⟨x, Hx⟩ : ∃ x, Hid (c.getD k 0 = x) := ⟨_, lib_hid rfl⟩
      have c0 : wr.cell? ⟨w.heap.size, k, none⟩ = some (.int .u8 (x.toNat : Int)) := by rw [← Hx.out]; exact cell8 HC.out k (by rw [cl.out]; exact hlt)
      have f0 := HC.out.frozen k
      by_cases h3 : m = 3
      · have k3 : ((m : Int) == 3) = true := beq_iff_eq.2 (by omega)
        obtain ⟨y, hy, Hy⟩ : ∃ y : UInt8, (x.toNat : Int).tmod 16 = (y.toNat : Int) ∧ Hid (x % 16 = y) := ⟨x % 16, by rw [Int.tmod_eq_emod_of_nonneg (by omega), UInt8.toNat_mod]; rfl, lib_hid rfl⟩
        have q4 : ((k : Int) == 4) = false := beq_false_of_ne (by have := Hm.out; omega)
        have q8 : ((k : Int) == 8) = false := beq_false_of_ne (by have := Hm.out; omega)
        have q12 : ((k : Int) == 12) = false := beq_false_of_ne (by have := Hm.out; omega)
        obtain ⟨W2, HW2⟩ : ∃ X : World, Hid (X = wr.setCell ⟨w.heap.size, k, none⟩ (b8 y)) := ⟨_, lib_hid rfl⟩
        have HC2 : Hid (Blk W2 w.heap.size 56 ((clR (k + 1) bs).map b8).toArray) := by
          have := blk_set8 HC.out k y
          unfold Hid; rw [HW2.out, clR]
          rw [if_pos (show k % 4 = 3 by have := Hm.out; omega), if_neg (by have := Hm.out; omega), Hc.out, Hx.out, Hy.out]
          exact this
        have HZ2 : Hid (Blk W2 (w.heap.size + 1) 56 z.toArray) := by unfold Hid; rw [HW2.out]; exact HZ.out.far (p := ⟨w.heap.size, k, none⟩) (by simp) _
        have hg2 : Grows w W2 := by rw [HW2.out]; exact hgr.setCell (p := ⟨w.heap.size, k, none⟩) (Nat.le_refl _) _
        have HW2' := HW2.out
        have Hlt := lib_hid hlt
        clear h3 HC HZ hgr HW2 hlt
        go_upto_region 6 with fail
        rw [← HW2']
        clear HW2' c0 f0 hy hm k3
        go_wp2_with fail
        go_roundw
        case rel => exact ⟨k + 1, Hlt.out, by go_num, hg2, HZ2, HC2⟩
        case measure => simp [intOf]; omega
      · have k3 : ((m : Int) == 3) = false := beq_false_of_ne (by omega)
        by_cases ho : k = 4 ∨ k = 8 ∨ k = 12
        · have K : ((k : Int) == 4) = true ∨ (((k : Int) == 4) = false ∧ ((k : Int) == 8) = true) ∨ (((k : Int) == 4) = false ∧ ((k : Int) == 8) = false ∧ ((k : Int) == 12) = true) := by
            rcases ho with e | e | e
            · exact .inl (beq_iff_eq.2 (by omega))
            · exact .inr (.inl ⟨beq_false_of_ne (by omega), beq_iff_eq.2 (by omega)⟩)
            · exact .inr (.inr ⟨beq_false_of_ne (by omega), beq_false_of_ne (by omega), beq_iff_eq.2 (by omega)⟩)
          obtain ⟨r, hr, Hr, hrb⟩ : ∃ r : UInt8, (x.toNat : Int).tmod 4 = (r.toNat : Int) ∧ Hid (x % 4 = r) ∧ Hid (r.toNat ≤ x.toNat) := ⟨x % 4, by rw [Int.tmod_eq_emod_of_nonneg (by omega), UInt8.toNat_mod]; rfl, lib_hid rfl, by unfold Hid; rw [UInt8.toNat_mod]; exact Nat.mod_le _ _⟩
          obtain ⟨y, hy, Hy⟩ : ∃ y : UInt8, (x.toNat : Int) - (r.toNat : Int) = (y.toNat : Int) ∧ Hid (x - r = y) := ⟨x - r, by rw [UInt8.toNat_sub_of_le _ _ (UInt8.le_iff_toNat_le.2 hrb.out)]; have := hrb.out; omega, lib_hid rfl⟩
          have hyb := u8_lt y
          have hyb2 : (y.toNat : Int) < 256 := by omega
          obtain ⟨W2, HW2⟩ : ∃ X : World, Hid (X = (wr.setCell ⟨w.heap.size, k, none⟩ (b8 y)).drew) := ⟨_, lib_hid rfl⟩
          have HC2 : Hid (Blk W2 w.heap.size 56 ((clR (k + 1) bs).map b8).toArray) := by
            have := blk_set8 HC.out k y
            unfold Hid; rw [HW2.out, clR]
            rw [if_neg (show ¬ k % 4 = 3 by have := Hm.out; omega), if_pos ho, Hc.out, Hx.out, Hr.out, Hy.out]
            exact this
          have HZ2 : Hid (Blk W2 (w.heap.size + 1) 56 z.toArray) := by unfold Hid; rw [HW2.out]; exact HZ.out.far (p := ⟨w.heap.size, k, none⟩) (by simp) _
          have hg2 : Grows w W2 := by rw [HW2.out]; exact (hgr.setCell (p := ⟨w.heap.size, k, none⟩) (Nat.le_refl _) _).drew
          have HW2' := HW2.out
          have Hlt := lib_hid hlt
          clear h3 HC HZ hgr HW2 hlt ho hyb
          rcases K with q4 | ⟨q4, q8⟩ | ⟨q4, q8, q12⟩ <;> (
            go_upto_region 7 with fail
            clear hm k3
            go_region
            rw [← HW2']
            clear HW2' c0 f0 hy hr
            go_wp2_with fail
            go_roundw
            case rel => exact ⟨k + 1, Hlt.out, by go_num, hg2, HZ2, HC2⟩
            case measure => simp [intOf]; omega)
        · have q4 : ((k : Int) == 4) = false := beq_false_of_ne (by omega)
          have q8 : ((k : Int) == 8) = false := beq_false_of_ne (by omega)
          have q12 : ((k : Int) == 12) = false := beq_false_of_ne (by omega)
          have HC2 : Hid (Blk wr w.heap.size 56 ((clR (k + 1) bs).map b8).toArray) := by
            unfold Hid; rw [clR]
            rw [if_neg (show ¬ k % 4 = 3 by have := Hm.out; omega), if_neg ho, Hc.out]
            exact HC.out
          have Hlt := lib_hid hlt
          clear h3 HC hlt ho c0 f0
          go_wp2_with fail
          go_roundw
          case rel => exact ⟨k + 1, Hlt.out, by go_num, hgr, HZ, HC2⟩
          case measure => simp [intOf]; omega
    · have Hk : Hid (k = 16) := by unfold Hid; omega
      have hki : ¬ (k : Int) < 16 := by omega
      obtain ⟨res, Hres, hrl, hra⟩ : ∃ r : Array Value, Hid (((clampF bs).map b8).toArray = r) ∧ r.size = 16 ∧ r.all (·.oneCell') = true := ⟨_, lib_hid rfl, by simp [clampF_len, bsl.out], cells_all _⟩
      have hR : Hid (Blk wr w.heap.size 56 res) := by unfold Hid; rw [← Hres.out, ← Hcl.out]; have := HC; rw [Hk.out] at this; exact this
      have zl : z.length = 16 := by rw [← Hz.out]; simp
      clear HC hlt
      go_wp2_with (first
        | (refine wpList_load_blk rfl _ _ rfl w.heap.size rfl 56 res _ hR.out Try.underlying56 rfl (by rw [Try.size16, hrl]) ?_)
        | (refine wpList_store_blk rfl _ _ _ rfl (w.heap.size + 1) res rfl rfl 56 _ HZ.out (by rw [Try.size16, hrl]) (by simp [zl, hrl]) hra (w.heap.size + 1) wr (Below.refl _ _) (Nat.le_refl _) ?_; intro w5 HR6 hb5 hgr5))
      refine bodyPost_ret (results_cell_row rfl _ _ (w.heap.size + 1) _ res _ _ rfl HR6 Try.underlying56 rfl (by rw [Try.size16, hrl])) rfl ?_
      exact ⟨by rw [Hres.out], Below.trans hgr (hb5.mono (by omega))⟩

end Go.Proofs.Ytgolndfimhogoaa

namespace Go.Proofs.Ytgolndfimhogoaa
open Go Go.RowKit
set_option linter.unusedSimpArgs false

theorem accN_lt (R : Nat) (bs : List UInt8) : ∀ k, accN R bs k < 1361129467683753853853498429727072845824
  | 0 => by rw [accN]; omega
  | k + 1 => by
    rw [accN]
    exact Nat.lt_trans (Nat.mod_lt _ (by unfold pP; omega)) (by unfold pP; omega)
def firstL (key : List UInt8) (k : Nat) : List UInt8 := key.take k ++ List.replicate (16 - k) 0
theorem firstL_succ (key : List UInt8) (hl : key.length = 32) (k : Nat) (hk : k < 16) : (firstL key k).set k (key.getD k 0) = firstL key (k + 1) := by
  unfold firstL
  rw [List.set_append_right _ _ (by rw [List.length_take]; omega), List.length_take, Nat.min_eq_left (by omega), Nat.sub_self, show 16 - k = (16 - (k + 1)) + 1 by omega, List.replicate_succ, List.set_cons_zero,
    List.take_succ_eq_append_getElem (by omega), List.append_assoc, List.getD_eq_getElem?_getD, List.getElem?_eq_getElem (by omega)]
  rfl
theorem firstL_len (key : List UInt8) (hl : key.length = 32) (k : Nat) (hk : k ≤ 16) : (firstL key k).length = 16 := by
  unfold firstL; rw [List.length_append, List.length_take, List.length_replicate]; omega
theorem firstL_all (key : List UInt8) : firstL key 16 = key.take 16 := by unfold firstL; simp
theorem Try.size32q : (Try.prog.info? 37).map (·.size) = some 32 := by kernel_rfl

set_option maxRecDepth 100000 in
set_option maxHeartbeats 8000000 in
theorem refSum05_any (key bs : List UInt8) (hk : key.length = 32) (A : Option Addr) (l c : Nat) (w : World) (hs : SB w A l c bs) (hl : l ≤ 1000000) :
    Calls Try.prog 32 #[.agg (key.map b8).toArray, .slice A l c] w (NewB 5 w (refPolyF key bs)) := by
  have hbl := hs.len
  obtain ⟨k1, Hk1, hk1⟩ : ∃ k1, Hid (key.take 16 = k1) ∧ Hid (k1.length = 16) := ⟨_, lib_hid rfl, by unfold Hid; rw [List.length_take, hk]; rfl⟩
  obtain ⟨k2, Hk2, hk2⟩ : ∃ k2, Hid (key.drop 16 = k2) ∧ Hid (k2.length = 16) := ⟨_, lib_hid rfl, by unfold Hid; rw [List.length_drop, hk]⟩
  obtain ⟨cl, Hcl, hcl, HR⟩ : ∃ cl, Hid (clampF k1 = cl) ∧ Hid (cl.length = 16) ∧ Hid (leN cl < 21267647932558653966460912964485513216) := ⟨_, lib_hid rfl, by unfold Hid; rw [clampF_len, hk1.out], by unfold Hid; exact clamp_value k1 hk1.out⟩
  have HCl : Hid (∀ W, Calls Try.prog 47 #[.agg (k1.map b8).toArray] W fun e w' => e = .returned (.agg (cl.map b8).toArray) ∧ Grows W w') := fun W => by rw [← Hcl.out]; exact refClamp_any k1 hk1.out W
  obtain ⟨acc, Hacc⟩ : ∃ a : Nat → Nat, Hid (a = accN (leN cl) bs) := ⟨_, lib_hid rfl⟩
  have Hlt : Hid (∀ k, acc k < 1361129467683753853853498429727072845824) := fun k => by rw [Hacc.out]; exact accN_lt _ _ k
  obtain ⟨H, HH, Hsz, Hal⟩ : ∃ D : Nat → Array Value, Hid (D = fun k => iL (digL 40 (acc k))) ∧ Hid (∀ k, (D k).size = 40) ∧ Hid (∀ k, (D k).all (·.oneCell') = true) :=
    ⟨_, lib_hid rfl, fun k => by simp only [iL_size, digL_len], fun k => iL_all _⟩
  have HCa : Hid (∀ (p : List Nat) (W : World), p.length = 40 → (∀ j, p.getD j 0 ≤ 100000000) → Calls Try.prog 49 #[.agg (iL p)] W fun e w' => e = .returned (.agg (iL (digL 40 (numV p)))) ∧ Grows W w') := fun p W h1 h2 => by
    have := carried_any p h1 h2 W
    rw [carA_all p 40 h1] at this
    exact this
  have HRe : Hid (∀ (v : Nat) (W : World), v < 1361129467683753853853498429727072845824 * 1361129467683753853853498429727072845824 → Calls Try.prog 48 #[.agg (iL (digL 40 v))] W fun e w' => e = .returned (.agg (iL (digL 40 (v % pP)))) ∧ Grows W w') := fun v W h => reduced_any v h W
  obtain ⟨res, Hres⟩ : ∃ r, Hid (refPolyF key bs = r) := ⟨_, lib_hid rfl⟩
  rw [Hres.out]
  have HRes : Hid (outB (acc (nBlk bs.length) % 340282366920938463463374607431768211456 + leN k2) 16 = res) := by
    unfold Hid; rw [← Hres.out, refPolyF, Hk1.out, Hcl.out, Hk2.out, Hacc.out]
  obtain ⟨K, HK⟩ : ∃ K, Hid ((key.map b8).toArray = K) := ⟨_, lib_hid rfl⟩
  rw [HK.out]
  obtain ⟨W0, HW0, hW0, hg0⟩ : ∃ W0 : World, Hid (W0 = w.alloc (.cells K 37)) ∧ W0.heap.size = w.heap.size + 1 ∧ Grows w W0 := ⟨_, lib_hid rfl, by simp, (Grows.refl w).alloc _⟩
  have HB0 : Hid (Blk W0 w.heap.size 37 (key.map b8).toArray) := by
    unfold Hid; rw [HW0.out, HK.out]; exact Blk.new w _ _
  have hs0 := hs.grows hg0
  have HS0 := lib_hid hs0
  obtain ⟨W1, HW1⟩ : ∃ W1 : World, Hid (W1 = W0.alloc (.cells ((List.replicate 16 (0 : UInt8)).map b8).toArray 56)) := ⟨_, lib_hid rfl⟩
  have HF1 : Hid (Blk W1 (w.heap.size + 1) 56 ((firstL key 0).map b8).toArray) := by
    unfold Hid; rw [HW1.out, ← hW0]; exact Blk.new W0 _ _
  have hg1 : Grows W0 W1 := by rw [HW1.out]; exact (Grows.refl _).alloc _
  have kl := lib_hid hk
  have HW0' := HW0.out
  have HW1' := HW1.out
  rw [← zeros16] at HW1'
  have hll := lib_hid hl
  have hW0' := lib_hid hW0
  have Hbl := lib_hid hbl
  have hcm : l ≤ c ∧ c ≤ maxLen := ⟨hs.cap, hs.max⟩
  have hcm1 := hcm.1
  have hcm2 := hcm.2
  unfold maxLen at hcm2
  clear hk hs hs0 hbl HW0 HW1 hcm
  go_enter Try.func32, Try.ntmps32
  go_upto_region 1 with fail
  rw [← HW0']
  clear HW0'
  go_upto_region 2 with fail
  rw [← HW1']
  clear HW1' hW0
  go_wp2_with fail
  go_loopw [6] (fun v wr => ∃ k : Nat, k ≤ 16 ∧ v = .int .i64 (k : Int) ∧ Grows W0 wr ∧ Hid (Blk wr (w.heap.size + 1) 56 ((firstL key k).map b8).toArray)) (fun v _ => 16 - (intOf v).toNat)
  case atStart => exact ⟨0, by omega, rfl, hg1, HF1⟩
  case round =>
    clear HF1 hg1
    obtain ⟨k, hk, rfl, hgr, HF⟩ := hrel
    by_cases hlt : k < 16
    · have hki : (k : Int) < 16 := by omega
      obtain ⟨x, Hx⟩ : ∃ x, Hid (key.getD k 0 = x) := ⟨_, lib_hid rfl⟩
      have c0 : wr.cell? ⟨w.heap.size, k, none⟩ = some (.int .u8 (x.toNat : Int)) := by rw [← Hx.out]; exact cell8 (HB0.out.grows hgr) k (by rw [kl.out]; omega)
      obtain ⟨y, Hy⟩ : ∃ x, Hid ((firstL key k).getD k 0 = x) := ⟨_, lib_hid rfl⟩
      have c1 : wr.cell? ⟨w.heap.size + 1, k, none⟩ = some (.int .u8 (y.toNat : Int)) := by rw [← Hy.out]; exact cell8 HF.out k (by rw [firstL_len key kl.out k hk]; omega)
      have f1 := HF.out.frozen k
      obtain ⟨W2, HW2⟩ : ∃ X : World, Hid (X = wr.setCell ⟨w.heap.size + 1, k, none⟩ (b8 x)) := ⟨_, lib_hid rfl⟩
      have HF2 : Hid (Blk W2 (w.heap.size + 1) 56 ((firstL key (k + 1)).map b8).toArray) := by
        have := blk_set8 HF.out k x
        unfold Hid; rw [HW2.out, ← firstL_succ key kl.out k hlt, Hx.out]
        exact this
      have hg2 : Grows W0 W2 := by rw [HW2.out]; exact hgr.setCell (p := ⟨w.heap.size + 1, k, none⟩) (by show W0.heap.size ≤ w.heap.size + 1; rw [hW0'.out]; exact Nat.le_refl _) _
      have HW2' := HW2.out
      have HLt := lib_hid hlt
      clear HF hgr HW2 hlt
      go_upto_region 4 with fail
      rw [← HW2']
      clear HW2' c0 c1 f1
      go_wp2_with fail
      go_roundw
      case rel => exact ⟨k + 1, HLt.out, by go_num, hg2, HF2⟩
      case measure => simp [intOf]; omega
    · have Hk : Hid (k = 16) := by unfold Hid; omega
      have hki : ¬ (k : Int) < 16 := by omega
      have HF2 : Hid (Blk wr (w.heap.size + 1) 56 (k1.map b8).toArray) := by have := HF.out; rw [Hk.out, firstL_all, Hk1.out] at this; exact this
      clear HF hlt hk
      go_wp2_with (refine wpList_load_blk rfl _ _ rfl (w.heap.size + 1) rfl 56 (k1.map b8).toArray _ HF2.out Try.underlying56 rfl (by rw [Try.size16]; simp [hk1.out]) ?_)
      refine (HCl.out _).mono ?_
      rintro e w3 ⟨rfl, hg3⟩
      have hgr3 := hgr.trans hg3
      clear HF2 hgr hg3 hki
      obtain ⟨g7, Hg7⟩ : ∃ x, Hid (w3.heap.size = x) := ⟨_, lib_hid rfl⟩
      obtain ⟨ca, Hca, hcas, hcaa⟩ : ∃ r : Array Value, Hid ((cl.map b8).toArray = r) ∧ Hid (r.size = 16) ∧ Hid (r.all (·.oneCell') = true) := ⟨_, lib_hid rfl, by unfold Hid; simp [hcl.out], cells_all _⟩
      rw [Hca.out]
      go_upto_region 7 with (refine wpList_store_blk rfl _ _ _ rfl w3.heap.size ca rfl rfl 56 _ (Blk.new w3 _ _) (by rw [Try.size16, hcas.out]) (by simp [hcas.out]) hcaa.out w3.heap.size _ (Below.refl _ _) (Nat.le_refl _) ?_; intro w5 HR6 hb5 hgr5; have HR7 := lib_hid HR6; have hgr7 := lib_hid hgr5; clear HR6 hb5 hgr5)
      have hgr5 : Grows W0 w5 := (hgr3.alloc _).grown hgr7.out (fun k e => by cases e; exact hgr3.le)
      have HKr := lib_hid (HB0.out.grows hgr5)
      have HSr := lib_hid (HS0.out.grows hgr5)
      have HRr : Hid (Blk w5 g7 56 (cl.map b8).toArray) := by unfold Hid; rw [Hca.out, ← Hg7.out]; exact HR7.out
      have h7lt : Hid (g7 < w5.heap.size) := HRr.out.lt
      clear hgr7 HR7 hgr3
      rw [Hg7.out]
      clear Hg7 HCl Hca hcas hcaa
      obtain ⟨g8, Hg8⟩ : ∃ x, Hid (w5.heap.size = x) := ⟨_, lib_hid rfl⟩
      obtain ⟨W6, HW6⟩ : ∃ X : World, Hid (X = w5.alloc (.cells (iL (List.replicate 40 0)) 82)) := ⟨_, lib_hid rfl⟩
      have hg6 : Grows w5 W6 := by rw [HW6.out]; exact (Grows.refl _).alloc _
      have HH6 : Hid (Blk W6 g8 82 (H 0)) := by
        unfold Hid; rw [HW6.out, ← Hg8.out, HH.out]
        simp only
        rw [Hacc.out, accN, digL_zero]
        exact Blk.new w5 _ _
      have HW6' := HW6.out
      clear HW6
      go_upto_region 8 with (refine wpList_alloc_arr rfl 82 rfl _ zero40 ?_)
      rw [← HW6', Hg8.out]
      clear HW6'
      go_wp2_with fail
      go_loopw [9] (fun v wr => ∃ j a : Nat, j ≤ nBlk bs.length ∧ Hid (a = 16 * j) ∧ v = .int .i64 (a : Int) ∧ Grows w5 wr ∧ Hid (Blk wr g8 82 (H j))) (fun v _ => l + 16 - (intOf v).toNat)
      case atStart => exact ⟨0, 0, Nat.zero_le _, lib_hid rfl, rfl, hg6, HH6⟩
      case round =>
        clear HH6 hg6
        obtain ⟨j, a, hj, Ha, rfl, hgr, HN⟩ := hrel
        by_cases hlt : a < l
        · have hki : (a : Int) < (l : Int) := by omega
          obtain ⟨bk, ok, rfl, hbk, hcb⟩ := HSr.out.at (by omega)
          have Hcb := lib_hid hcb
          have Hbk := lib_hid hbk
          obtain ⟨d, hd, Hd⟩ : ∃ d : Nat, (l : Int) - (a : Int) = (d : Int) ∧ Hid (d = l - a) := ⟨l - a, by omega, lib_hid rfl⟩
          obtain ⟨n, hn, Hn, hn16⟩ : ∃ n : Nat, min (16 : Int) (d : Int) = (n : Int) ∧ Hid (n = min 16 d) ∧ (n : Int) ≤ 16 := ⟨min 16 d, by omega, lib_hid rfl, by omega⟩
          obtain ⟨blk, Hblk, Hbn⟩ : ∃ b, Hid ((bs.drop a).take 16 = b) ∧ Hid (b.length = n) := ⟨_, lib_hid rfl, by unfold Hid; rw [List.length_take, List.length_drop, Hbl.out, Hn.out, Hd.out]⟩
          obtain ⟨h0, Hh0, h0l, h0b⟩ : ∃ h, Hid (digL 40 (acc j) = h) ∧ Hid (h.length = 40) ∧ Hid (∀ i, h.getD i 0 ≤ 255) := ⟨_, lib_hid rfl, lib_hid (digL_len _ _), lib_hid (digL_bd _ _)⟩
          have HN0 : Hid (Blk wr g8 82 (iL (addB h0 blk 0))) := by
            unfold Hid; rw [addB, ← Hh0.out]; have := HN.out; rw [HH.out] at this; exact this
          have Haj := lib_hid (And.intro hlt hj)
          have hab : (a : Int) ≤ 1000000 := by have := hll.out; omega
          have hlb : (l : Int) ≤ 1000000 := by have := hll.out; omega
          clear HN hcb hbk hlt hj
          go_wp2_with fail
          obtain ⟨wo, ewo⟩ : ∃ wo : World, wo = wr := ⟨_, rfl⟩
          subst ewo
          have hgo := hgr
          clear hgr hn hd
          go_loopw [11] (fun v wr => ∃ i : Nat, i ≤ n ∧ v = .int .i64 (i : Int) ∧ Grows w5 wr ∧ Hid (Blk wr g8 82 (iL (addB h0 blk i)))) (fun v _ => n - (intOf v).toNat)
          case atStart => exact ⟨0, Nat.zero_le _, rfl, hgo, HN0⟩
          case round =>
            clear HN0 hgo hki
            obtain ⟨i, hi, rfl, hgr, HN⟩ := hrel
            by_cases hlt : i < n
            · have hii : (i : Int) < (n : Int) := by omega
              have hi40 : (i : Int) < 40 := by omega
              obtain ⟨e, he, He, hel⟩ : ∃ e : Nat, (a : Int) + (i : Int) = (e : Int) ∧ Hid (e = a + i) ∧ e < l := ⟨a + i, by omega, lib_hid rfl, by have := Hn.out; have := Hd.out; have := Haj.out.1; omega⟩
              have heli : (e : Int) < (l : Int) := by omega
              obtain ⟨y, Hy⟩ : ∃ y, Hid (blk.getD i 0 = y) := ⟨_, lib_hid rfl⟩
              have cb : wr.cell? ⟨bk, ok + e, none⟩ = some (.int .u8 (y.toNat : Int)) := by
                obtain ⟨b', o', e', _, hc⟩ := (HSr.out.grows hgr).at (by omega)
                cases e'
                have hbe : e < bs.length := by rw [Hbl.out]; exact hel
                rw [hc e hbe, ← Hy.out, ← Hblk.out, List.getD_eq_getElem?_getD, List.getElem?_take, if_pos (by omega), List.getElem?_drop, ← He.out, List.getElem?_eq_getElem hbe]
                rfl
              have hyb := u8_lt y
              have hyb2 : (y.toNat : Int) ≤ 255 := by omega
              obtain ⟨x, Hx, hxb⟩ : ∃ x : Nat, Hid ((addB h0 blk i).getD i 0 = x) ∧ (x : Int) ≤ 255 := ⟨_, lib_hid rfl, by have := (addB_bd h0 h0b.out blk i (by rw [h0l.out]; omega)).2 i (Nat.le_refl _); omega⟩
              have c8 : wr.cell? ⟨g8, i, none⟩ = some (.int .i64 (x : Int)) := by rw [← Hx.out]; exact cellL HN.out i (by rw [addB_len, h0l.out]; omega)
              have f8 := HN.out.frozen i
              obtain ⟨z, hz, Hz, hzb⟩ : ∃ z : Nat, (x : Int) + (y.toNat : Int) = (z : Int) ∧ Hid (z = x + y.toNat) ∧ (z : Int) ≤ 1000 := ⟨x + y.toNat, by omega, lib_hid rfl, by omega⟩
              obtain ⟨W2, HW2⟩ : ∃ X : World, Hid (X = (wr.setCell ⟨g8, i, none⟩ (.int .i64 (z : Int))).drew) := ⟨_, lib_hid rfl⟩
              have HN2 : Hid (Blk W2 g8 82 (iL (addB h0 blk (i + 1)))) := by
                have := blk_setL HN.out i z
                unfold Hid; rw [HW2.out, addB, Hx.out, Hy.out, ← Hz.out]; exact this
              have hg2 : Grows w5 W2 := by rw [HW2.out]; exact (hgr.setCell (p := ⟨g8, i, none⟩) (by show w5.heap.size ≤ g8; rw [Hg8.out]; exact Nat.le_refl _) _).drew
              have HW2' := HW2.out
              have HLt := lib_hid hlt
              clear HN hgr HW2 hlt hyb hel
              go_upto_region 15 with fail
              clear hii
              go_region
              rw [← HW2']
              clear HW2' cb c8 f8 hz he heli
              go_wp2_with fail
              go_roundw
              case rel => exact ⟨i + 1, HLt.out, by go_num, hg2, HN2⟩
              case measure => have := HLt.out; simp [intOf]; omega
            · have Hi : Hid (i = n) := by unfold Hid; omega
              have hii : ¬ (i : Int) < (n : Int) := by omega
              have hn40 : (n : Int) < 40 := by omega
              have HNn : Hid (Blk wr g8 82 (iL (addB h0 blk n))) := by have := HN.out; rw [Hi.out] at this; exact this
              obtain ⟨x, Hx, hxb⟩ : ∃ x : Nat, Hid ((addB h0 blk n).getD n 0 = x) ∧ (x : Int) ≤ 510 := ⟨_, lib_hid rfl, by have := (addB_bd h0 h0b.out blk n (by rw [h0l.out]; omega)).1 n; omega⟩
              have c8 : wr.cell? ⟨g8, n, none⟩ = some (.int .i64 (x : Int)) := by rw [← Hx.out]; exact cellL HNn.out n (by rw [addB_len, h0l.out]; omega)
              have f8 := HNn.out.frozen n
              obtain ⟨z, hz, Hz, hzb⟩ : ∃ z : Nat, (x : Int) + 1 = (z : Int) ∧ Hid (z = x + 1) ∧ (z : Int) ≤ 1000 := ⟨x + 1, by omega, lib_hid rfl, by omega⟩
              obtain ⟨E, HE, El, Eb⟩ : ∃ E, Hid (endB h0 blk n = E) ∧ Hid (E.length = 40) ∧ Hid (∀ j, E.getD j 0 ≤ 511) := ⟨_, lib_hid rfl, by unfold Hid; rw [endB_len, h0l.out], fun j => endB_bd h0 h0b.out blk n (by rw [h0l.out]; omega) j⟩
              obtain ⟨W3, HW3⟩ : ∃ X : World, Hid (X = wr.setCell ⟨g8, n, none⟩ (.int .i64 (z : Int))) := ⟨_, lib_hid rfl⟩
              have HN3 : Hid (Blk W3 g8 82 (iL E)) := by
                have := blk_setL HNn.out n z
                unfold Hid; rw [HW3.out, ← HE.out, endB, Hx.out, ← Hz.out]; exact this
              have hg3 : Grows w5 W3 := by rw [HW3.out]; exact hgr.setCell (p := ⟨g8, n, none⟩) (by show w5.heap.size ≤ g8; rw [Hg8.out]; exact Nat.le_refl _) _
              obtain ⟨g12, Hg12⟩ : ∃ x, Hid (W3.heap.size = x) := ⟨_, lib_hid rfl⟩
              obtain ⟨W4, HW4⟩ : ∃ X : World, Hid (X = W3.alloc (.cells (iL (List.replicate 40 0)) 82)) := ⟨_, lib_hid rfl⟩
              have hg4 : Grows W3 W4 := by rw [HW4.out]; exact (Grows.refl _).alloc _
              have HP4 : Hid (Blk W4 g12 82 (iL (prodP E cl 0))) := by
                unfold Hid; rw [HW4.out, ← Hg12.out, prodP]; exact Blk.new W3 _ _
              have HW3' := HW3.out
              have HW4' := HW4.out
              clear HN HNn HW3 HW4 hlt hgr hi
              go_upto_region 17 with fail
              rw [← HW3']
              clear HW3' c8 f8 hz hii
              go_upto_region 18 with (refine wpList_alloc_arr rfl 82 rfl _ zero40 ?_)
              rw [← HW4', Hg12.out]
              clear HW4'
              go_wp2_with fail
              go_loopw [13] (fun v wr => ∃ i : Nat, i ≤ 20 ∧ v = .int .i64 (i : Int) ∧ Grows W3 wr ∧ Hid (Blk wr g12 82 (iL (prodP E cl i)))) (fun v _ => 20 - (intOf v).toNat)
              case atStart => exact ⟨0, by omega, rfl, hg4, HP4⟩
              case round =>
                clear HP4 hg4
                obtain ⟨i, hi, rfl, hgr, HP⟩ := hrel
                by_cases hlt : i < 20
                · have hii : (i : Int) < 20 := by omega
                  obtain ⟨P, HPP, Pl, Pb⟩ : ∃ P, Hid (prodP E cl i = P) ∧ Hid (P.length = 40) ∧ Hid (∀ j, P.getD j 0 ≤ 2084880 * i) := ⟨_, lib_hid rfl, lib_hid (prodP_len _ _ _), prodP_bd E Eb.out cl i (by omega)⟩
                  have HP0 : Hid (Blk wr g12 82 (iL (rowP E cl i P 0))) := by unfold Hid; rw [rowP, ← HPP.out]; exact HP.out
                  have HLti := lib_hid hlt
                  clear HP hlt hi
                  go_wp2_with fail
                  obtain ⟨wo, ewo⟩ : ∃ wo : World, wo = wr := ⟨_, rfl⟩
                  subst ewo
                  have hgo := hgr
                  clear hgr
                  go_loopw [14] (fun v wr => ∃ k : Nat, k ≤ 16 ∧ v = .int .i64 (k : Int) ∧ Grows W3 wr ∧ Hid (Blk wr g12 82 (iL (rowP E cl i P k)))) (fun v _ => 16 - (intOf v).toNat)
                  case atStart => exact ⟨0, by omega, rfl, hgo, HP0⟩
                  case round =>
                    clear HP0 hgo
                    obtain ⟨k, hk, rfl, hgr, HP⟩ := hrel
                    by_cases hlt : k < 16
                    · have hkk : (k : Int) < 16 := by omega
                      have hi40 : (i : Int) < 40 := by omega
                      obtain ⟨e, he, He, heb⟩ : ∃ e : Nat, (i : Int) + (k : Int) = (e : Int) ∧ Hid (e = i + k) ∧ (e : Int) < 40 := ⟨i + k, by omega, lib_hid rfl, by omega⟩
                      obtain ⟨x, Hx, hxb⟩ : ∃ x : Nat, Hid ((rowP E cl i P k).getD e 0 = x) ∧ (x : Int) ≤ 50000000 := ⟨_, lib_hid rfl, by
                        have := rowP_bd E Eb.out cl i P _ Pb.out k (by rw [Pl.out]; omega) e
                        omega⟩
                      obtain ⟨hv, Hhv, hhvb⟩ : ∃ x : Nat, Hid (E.getD i 0 = x) ∧ (x : Int) ≤ 511 := ⟨_, lib_hid rfl, by have := Eb.out i; omega⟩
                      obtain ⟨rv, Hrv⟩ : ∃ y, Hid (cl.getD k 0 = y) := ⟨_, lib_hid rfl⟩
                      have hrv := u8_lt rv
                      have hrvb : (rv.toNat : Int) ≤ 255 := by omega
                      obtain ⟨m, hm, Hm, hmb⟩ : ∃ m : Nat, (hv : Int) * (rv.toNat : Int) = (m : Int) ∧ Hid (m = hv * rv.toNat) ∧ (m : Int) ≤ 130305 := ⟨hv * rv.toNat, by rw [Int.natCast_mul], lib_hid rfl, by
                        have : hv * rv.toNat ≤ 511 * 255 := Nat.mul_le_mul (by omega) (by omega)
                        omega⟩
                      obtain ⟨s, hs, Hs, hsb⟩ : ∃ s : Nat, (x : Int) + (m : Int) = (s : Int) ∧ Hid (s = x + m) ∧ (s : Int) ≤ 60000000 := ⟨x + m, by omega, lib_hid rfl, by omega⟩
                      have c12 : wr.cell? ⟨g12, e, none⟩ = some (.int .i64 (x : Int)) := by rw [← Hx.out]; exact cellL HP.out e (by rw [rowP_len, Pl.out]; omega)
                      have c8 : wr.cell? ⟨g8, i, none⟩ = some (.int .i64 (hv : Int)) := by rw [← Hhv.out]; exact cellL (HN3.out.grows hgr) i (by rw [El.out]; omega)
                      have c7 : wr.cell? ⟨g7, k, none⟩ = some (.int .u8 (rv.toNat : Int)) := by rw [← Hrv.out]; exact cell8 ((HRr.out.grows hg3).grows hgr) k (by rw [hcl.out]; omega)
                      have f12 := HP.out.frozen e
                      obtain ⟨W9, HW9⟩ : ∃ X : World, Hid (X = (wr.setCell ⟨g12, e, none⟩ (.int .i64 (s : Int))).drew) := ⟨_, lib_hid rfl⟩
                      have HP9 : Hid (Blk W9 g12 82 (iL (rowP E cl i P (k + 1)))) := by
                        have := blk_setL HP.out e s
                        unfold Hid; rw [HW9.out, rowP, ← He.out, Hx.out, Hhv.out, Hrv.out, ← Hm.out, ← Hs.out]; exact this
                      have hg9 : Grows W3 W9 := by rw [HW9.out]; exact (hgr.setCell (p := ⟨g12, e, none⟩) (by show W3.heap.size ≤ g12; rw [Hg12.out]; exact Nat.le_refl _) _).drew
                      have HW9' := HW9.out
                      clear HP hgr HW9 hlt hrv
                      go_upto_region 24 with fail
                      go_region
                      rw [← HW9']
                      clear HW9' c12 c8 c7 f12 he hm hs
                      go_wp2_with fail
                      go_roundw
                      case rel => exact ⟨k + 1, by omega, by go_num, hg9, HP9⟩
                      case measure => simp [intOf]; omega
                    · have hkk : ¬ (k : Int) < 16 := by omega
                      have HP3 : Hid (Blk wr g12 82 (iL (prodP E cl (i + 1)))) := by
                        have e : k = 16 := by omega
                        have := HP.out
                        rw [e] at this
                        unfold Hid; rw [prodP, HPP.out]; exact this
                      clear HP hlt
                      go_wp2_with fail
                      go_roundw
                      case rel => exact ⟨i + 1, HLti.out, by go_num, hgr, HP3⟩
                      case measure => simp [intOf]; omega
                · have hii : ¬ (i : Int) < 20 := by omega
                  have Hi : Hid (i = 20) := by unfold Hid; omega
                  obtain ⟨P, HPP, Pl, Pb⟩ : ∃ P, Hid (prodP E cl 20 = P) ∧ Hid (P.length = 40) ∧ Hid (∀ j, P.getD j 0 ≤ 100000000) := ⟨_, lib_hid rfl, lib_hid (prodP_len _ _ _), fun j => by have := prodP_bd E Eb.out cl 20 (by omega) j; omega⟩
                  have HP2 : Hid (Blk wr g12 82 (iL P)) := by have := HP.out; rw [Hi.out, HPP.out] at this; exact this
                  have Hstep : Hid (numV P < 1361129467683753853853498429727072845824 * 1361129467683753853853498429727072845824 ∧ iL (digL 40 (numV P % pP)) = H (j + 1)) := by
                    have h1 := step_v (acc j) (Hlt.out j) blk cl (by rw [Hbn.out]; omega) hcl.out HR.out
                    rw [Hh0.out, Hbn.out, HE.out, HPP.out] at h1
                    refine ⟨by rw [h1.1]; exact h1.2, ?_⟩
                    rw [h1.1, HH.out]
                    simp only
                    rw [Hacc.out]
                    simp only [accN]
                    rw [← Ha.out, Hblk.out, ← Hacc.out]
                  have HC1 : Hid (∀ W, Calls Try.prog 49 #[.agg (iL P)] W fun e w' => e = .returned (.agg (iL (digL 40 (numV P)))) ∧ Grows W w') := fun W => HCa.out P W Pl.out Pb.out
                  have HC2 : Hid (∀ W, Calls Try.prog 48 #[.agg (iL (digL 40 (numV P)))] W fun e w' => e = .returned (.agg (H (j + 1))) ∧ Grows W w') := fun W => by rw [← Hstep.out.2]; exact HRe.out _ W Hstep.out.1
                  obtain ⟨Q, HQ⟩ : ∃ Q, Hid (iL (digL 40 (numV P)) = Q) := ⟨_, lib_hid rfl⟩
                  rw [HQ.out] at HC1 HC2
                  obtain ⟨V, HV, Vl⟩ : ∃ Q, Hid (iL P = Q) ∧ Hid (Q.size = 40) := ⟨_, lib_hid rfl, by unfold Hid; rw [iL_size, Pl.out]⟩
                  rw [HV.out] at HC1 HP2
                  obtain ⟨N1, HN1, N1l, N1a⟩ : ∃ Q, Hid (H (j + 1) = Q) ∧ Hid (Q.size = 40) ∧ Hid (Q.all (·.oneCell') = true) := ⟨_, lib_hid rfl, Hsz.out _, Hal.out _⟩
                  rw [HN1.out] at HC2
                  have HNr := lib_hid (HN3.out.grows hgr)
                  have hgr5' := hg3.trans hgr
                  obtain ⟨E', HE', E'l⟩ : ∃ Q, Hid (iL E = Q) ∧ Hid (Q.size = 40) := ⟨_, lib_hid rfl, by unfold Hid; rw [iL_size, El.out]⟩
                  rw [HE'.out] at HNr
                  clear HP hgr hlt hi
                  go_wp2_with (refine wpList_load_blk rfl _ _ rfl g12 rfl 82 V _ HP2.out Try.underlying82 rfl (by rw [Try.size40, Vl.out]) ?_)
                  refine (HC1.out _).mono ?_
                  rintro e w7 ⟨rfl, hg7⟩
                  go_wp2_with fail
                  refine (HC2.out _).mono ?_
                  rintro e w8 ⟨rfl, hg8'⟩
                  have hgg := hgr5'.trans (hg7.trans hg8')
                  have HN8 := lib_hid (HNr.out.grows (hg7.trans hg8'))
                  clear HNr hgr5' hg7 hg8' HP2
                  go_wp2_with (refine wpList_store_blk rfl _ _ _ rfl g8 N1 rfl rfl 82 _ HN8.out (by rw [Try.size40, N1l.out]) (by rw [E'l.out, N1l.out]) N1a.out g8 w8 (Below.refl _ _) (Nat.le_refl _) ?_; intro w9 HR6 hb5 hgr9; have HR9 := lib_hid HR6; have hgr9' := lib_hid hgr9; clear HR6 hb5 hgr9)
                  have hgw9 : Grows w5 w9 := hgg.grown hgr9'.out (fun k e => by cases e; show w5.heap.size ≤ g8; rw [Hg8.out]; exact Nat.le_refl _)
                  have HN9 : Hid (Blk w9 g8 82 (H (j + 1))) := by unfold Hid; rw [HN1.out]; exact HR9.out
                  go_roundw
                  case rel => exact ⟨j + 1, a + 16, by have h1 := Haj.out.1; have h2 := Ha.out; have h3 := Hbl.out; unfold nBlk; omega, by have h2 := Ha.out; unfold Hid; omega, by go_num, hgw9, HN9⟩
                  case measure => have h1 := Haj.out.1; simp [intOf]; omega
        · have hki : ¬ (a : Int) < (l : Int) := by omega
          have Hj : Hid (j = nBlk bs.length) := by have h2 := Ha.out; have h3 := Hbl.out; unfold Hid nBlk at *; omega
          obtain ⟨av, Hav, havb⟩ : ∃ a, Hid (acc j = a) ∧ Hid (a < 1361129467683753853853498429727072845824) := ⟨_, lib_hid rfl, lib_hid (Hlt.out j)⟩
          rw [← Hj.out, Hav.out] at HRes
          obtain ⟨h0, Hh0, h0l, h0b⟩ : ∃ h, Hid (digL 40 av = h) ∧ Hid (h.length = 40) ∧ Hid (∀ i, h.getD i 0 ≤ 255) := ⟨_, lib_hid rfl, lib_hid (digL_len _ _), lib_hid (digL_bd _ _)⟩
          have HN0 : Hid (Blk wr g8 82 (iL h0)) := by
            unfold Hid; rw [← Hh0.out, ← Hav.out]; have := HN.out; rw [HH.out] at this; exact this
          have HK0 := lib_hid (HKr.out.grows hgr)
          have hgw : Grows w wr := hg0.trans (hgr5.trans hgr)
          obtain ⟨g15, Hg15⟩ : ∃ x, Hid (wr.heap.size = x) := ⟨_, lib_hid rfl⟩
          obtain ⟨W2, HW2⟩ : ∃ X : World, Hid (X = wr.alloc (.cells (iL (List.replicate 40 0)) 82)) := ⟨_, lib_hid rfl⟩
          have hg2 : Grows wr W2 := by rw [HW2.out]; exact (Grows.refl _).alloc _
          have HS2 : Hid (Blk W2 g15 82 (iL (lastS h0 k2 0))) := by
            unfold Hid; rw [HW2.out, ← Hg15.out, lastS]; exact Blk.new wr _ _
          have HW2' := HW2.out
          clear HN HW2 hlt hj hgr
          obtain ⟨wo, ewo⟩ : ∃ wo : World, wo = wr := ⟨_, rfl⟩
          subst ewo
          go_upto_region 26 with fail
          clear hki
          go_upto_region 27 with (refine wpList_alloc_arr rfl 82 rfl _ zero40 ?_)
          rw [← HW2', Hg15.out]
          clear HW2'
          go_wp2_with fail
          go_loopw [16] (fun v wr => ∃ i : Nat, i ≤ 16 ∧ v = .int .i64 (i : Int) ∧ Grows wo wr ∧ Hid (Blk wr g15 82 (iL (lastS h0 k2 i)))) (fun v _ => 16 - (intOf v).toNat)
          case atStart => exact ⟨0, by omega, rfl, hg2, HS2⟩
          case round =>
            clear HS2 hg2
            obtain ⟨i, hi, rfl, hgr, HS⟩ := hrel
            by_cases hlt : i < 16
            · have hii : (i : Int) < 16 := by omega
              have hi40 : (i : Int) < 40 := by omega
              obtain ⟨e, he, He, heb⟩ : ∃ e : Nat, (16 : Int) + (i : Int) = (e : Int) ∧ Hid (e = 16 + i) ∧ (e : Int) < 32 := ⟨16 + i, by omega, lib_hid rfl, by omega⟩
              obtain ⟨x, Hx, hxb⟩ : ∃ x : Nat, Hid (h0.getD i 0 = x) ∧ (x : Int) ≤ 255 := ⟨_, lib_hid rfl, by have := h0b.out i; omega⟩
              obtain ⟨y, Hy⟩ : ∃ y, Hid (key.getD e 0 = y) := ⟨_, lib_hid rfl⟩
              have Hy2 : Hid (k2.getD i 0 = y) := by
                unfold Hid
                rw [← Hk2.out, ← Hy.out, He.out, List.getD_eq_getElem?_getD, List.getElem?_drop, ← List.getD_eq_getElem?_getD]
              have hyb := u8_lt y
              have hyb2 : (y.toNat : Int) ≤ 255 := by omega
              obtain ⟨z, hz, Hz, hzb⟩ : ∃ z : Nat, (x : Int) + (y.toNat : Int) = (z : Int) ∧ Hid (z = x + y.toNat) ∧ (z : Int) ≤ 1000 := ⟨x + y.toNat, by omega, lib_hid rfl, by omega⟩
              have c8 : wr.cell? ⟨g8, i, none⟩ = some (.int .i64 (x : Int)) := by rw [← Hx.out]; exact cellL (HN0.out.grows hgr) i (by rw [h0l.out]; omega)
              have ck : wr.cell? ⟨w.heap.size, e, none⟩ = some (.int .u8 (y.toNat : Int)) := by rw [← Hy.out]; exact cell8 (HK0.out.grows hgr) e (by rw [kl.out]; omega)
              obtain ⟨y0, cs⟩ : ∃ y0 : Nat, wr.cell? ⟨g15, i, none⟩ = some (.int .i64 (y0 : Int)) := ⟨_, cellL HS.out i (by rw [lastS_len]; omega)⟩
              have fs := HS.out.frozen i
              obtain ⟨W9, HW9⟩ : ∃ X : World, Hid (X = (wr.setCell ⟨g15, i, none⟩ (.int .i64 (z : Int))).drew) := ⟨_, lib_hid rfl⟩
              have HS9 : Hid (Blk W9 g15 82 (iL (lastS h0 k2 (i + 1)))) := by
                have := blk_setL HS.out i z
                unfold Hid; rw [HW9.out, lastS, Hx.out, Hy2.out, ← Hz.out]; exact this
              have hg9 : Grows wo W9 := by rw [HW9.out]; exact (hgr.setCell (p := ⟨g15, i, none⟩) (by show wo.heap.size ≤ g15; rw [Hg15.out]; exact Nat.le_refl _) _).drew
              have HW9' := HW9.out
              clear HS hgr HW9 hlt hyb
              go_upto_region 30 with fail
              go_region
              rw [← HW9']
              clear HW9' c8 ck cs fs he hz
              go_wp2_with fail
              go_roundw
              case rel => exact ⟨i + 1, by omega, by go_num, hg9, HS9⟩
              case measure => simp [intOf]; omega
            · have hii : ¬ (i : Int) < 16 := by omega
              have Hi : Hid (i = 16) := by unfold Hid; omega
              obtain ⟨S, HSS, Sl, Sb⟩ : ∃ S, Hid (lastS h0 k2 16 = S) ∧ Hid (S.length = 40) ∧ Hid (∀ j, S.getD j 0 ≤ 100000000) := ⟨_, lib_hid rfl, lib_hid (lastS_len _ _ _), fun j => by have := lastS_bd h0 h0b.out k2 16 (by omega) j; omega⟩
              have HSr2 : Hid (Blk wr g15 82 (iL S)) := by have := HS.out; rw [Hi.out, HSS.out] at this; exact this
              obtain ⟨wv, Hwv⟩ : ∃ x, Hid (numV S = x) := ⟨_, lib_hid rfl⟩
              have Hwv2 : Hid (outB wv 16 = res) := by
                have h1 := lastS_v h0 h0l.out k2 hk2.out 16 (by omega)
                rw [HSS.out, Hwv.out, ← Hh0.out, take_v 40 av 16 (by omega), List.take_of_length_le (by rw [hk2.out]; omega), show (256 : Nat) ^ 16 = 340282366920938463463374607431768211456 by decide] at h1
                unfold Hid; rw [h1]; exact HRes.out
              have HC1 : Hid (∀ W, Calls Try.prog 49 #[.agg (iL S)] W fun e w' => e = .returned (.agg (iL (digL 40 wv))) ∧ Grows W w') := fun W => by rw [← Hwv.out]; exact HCa.out S W Sl.out Sb.out
              obtain ⟨V, HV, Vl⟩ : ∃ Q, Hid (iL S = Q) ∧ Hid (Q.size = 40) := ⟨_, lib_hid rfl, by unfold Hid; rw [iL_size, Sl.out]⟩
              obtain ⟨N1, HN1, N1l, N1a⟩ : ∃ Q, Hid (iL (digL 40 wv) = Q) ∧ Hid (Q.size = 40) ∧ Hid (Q.all (·.oneCell') = true) := ⟨_, lib_hid rfl, by unfold Hid; rw [iL_size, digL_len], iL_all _⟩
              rw [HV.out, HN1.out] at HC1
              rw [HV.out] at HSr2
              have hgww := hgw.trans hgr
              clear HS hgr hlt hi
              go_wp2_with (refine wpList_load_blk rfl _ _ rfl g15 rfl 82 V _ HSr2.out Try.underlying82 rfl (by rw [Try.size40, Vl.out]) ?_)
              refine (HC1.out _).mono ?_
              rintro e w7 ⟨rfl, hg7⟩
              have HS7 := lib_hid (HSr2.out.grows hg7)
              have hgw7 := hgww.trans hg7
              have hwle : w.heap.size ≤ g15 := by rw [← Hg15.out]; exact hgw.le
              have Hwle := lib_hid hwle
              clear HSr2 hg7 hgww hwle hii
              go_upto_region 32 with (refine wpList_store_blk rfl _ _ _ rfl g15 N1 rfl rfl 82 _ HS7.out (by rw [Try.size40, N1l.out]) (by rw [Vl.out, N1l.out]) N1a.out g15 w7 (Below.refl _ _) (Nat.le_refl _) ?_; intro w9 HR6 hb5 hgr9; have HR9 := lib_hid HR6; have hgr9' := lib_hid hgr9; clear HR6 hb5 hgr9)
              have hgw9 : Grows w w9 := hgw7.grown hgr9'.out (fun k e => by cases e; exact Hwle.out)
              have HS9 : Hid (∀ k, k < 40 → ∀ W, Grows w9 W → W.cell? ⟨g15, k, none⟩ = some (.int .i64 ((wv / 256 ^ k % 256 : Nat) : Int))) := fun k hk W hW => by
                have h1 := HR9.out
                rw [← HN1.out] at h1
                have h2 := cellL (h1.grows hW) k (by rw [digL_len]; exact hk)
                rw [digL_at _ _ _ hk] at h2
                exact h2
              clear HS7 hgw7 hgr9'
              go_wp2_with fail
              go_loopw [17, 18] (fun v iv wr => ∃ (k : Nat) (A' : Option Addr) (c' : Nat), k ≤ 16 ∧ iv = .int .i64 (k : Int) ∧ v = .slice A' k c' ∧ Grows w9 wr ∧ Hid (wr.ownsRow w9.heap.size 5 1 (.slice A' k c') k ((outB wv k).map b8))) (fun _ iv _ => 16 - (intOf iv).toNat)
              case atStart => exact ⟨0, none, 0, by omega, rfl, rfl, Grows.refl _, World.ownsRow_nil _ _ _ _⟩
              case round =>
                obtain ⟨k, A', c', hk, rfl, rfl, hg, HO⟩ := hrel
                by_cases hlt : k < 16
                · have hkk : (k : Int) < 16 := by omega
                  have hk40 : (k : Int) < 40 := by omega
                  obtain ⟨x, Hx, hx⟩ : ∃ x : UInt8, Hid (UInt8.ofNat (wv / 256 ^ k % 256) = x) ∧ ((wv / 256 ^ k % 256 : Nat) : Int) = (x.toNat : Int) := ⟨_, lib_hid rfl, by
                    have := Nat.mod_lt (wv / 256 ^ k) (show 0 < 256 by omega)
                    generalize wv / 256 ^ k % 256 = q at this ⊢
                    rw [UInt8.toNat_ofNat', Nat.mod_eq_of_lt this]⟩
                  have c15 : wr.cell? ⟨g15, k, none⟩ = some (.int .i64 (x.toNat : Int)) := by rw [← hx]; exact HS9.out k (by omega) wr hg
                  have hxb := u8_lt x
                  have hxb2 : (x.toNat : Int) ≤ 255 := by omega
                  have hr := one_row wr 5 (b8 x)
                  have ho := HO.out.alloc (.cells #[b8 x] 5)
                  have hg1 := hg.alloc (.cells #[b8 x] 5)
                  have hge := hg.le
                  have HHH := lib_hid (And.intro hr ho)
                  have Hs : Hid ((outB wv k).map b8 ++ [b8 x] = (outB wv (k + 1)).map b8) := by
                    unfold Hid
                    rw [outB_succ, Hx.out]
                    simp
                  clear hr ho hx
                  go_wp2_with (at_builtin; refine wpList_append rfl _ _ 22 rfl w9.heap.size 5 (.int .u8 0) 1 Try.underlying22 Try.infoByte rfl _ k _ rfl HHH.out.2 _ 1 _ [b8 x] rfl HHH.out.1 (b8_one [x]) (by omega) (by omega) (by simp; omega) ?_; intro A2 c2 w2 ho' hb' _)
                  rw [Hs.out] at ho'
                  have HO' := lib_hid ho'
                  clear ho'
                  have hg' := below_trans hg1 hb'
                  go_roundw
                  case rel => exact ⟨k + 1, A2, c2, by omega, by go_num, rfl, hg', HO'⟩
                  case measure => simp [intOf]; omega
                · have hkk : ¬ (k : Int) < 16 := by omega
                  have e : k = 16 := by omega
                  have Hfin : Hid (outB wv k = res) := by unfold Hid; rw [e]; exact Hwv2.out
                  have Hlen : Hid (k = res.length) := by unfold Hid; rw [← Hwv2.out, outB_len, e]
                  have hgf := hgw9.trans hg
                  have hle := lib_hid hgw9.le
                  clear e hlt hk
                  go_wp2_with fail
                  go_ret
                  exact newB_mk rfl Hlen.out hgf (by have := HO.out; rw [Hfin.out] at this; exact own_base this hle.out)

end Go.Proofs.Ytgolndfimhogoaa

