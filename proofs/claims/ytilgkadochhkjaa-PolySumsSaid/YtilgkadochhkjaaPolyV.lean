/-
  poly's numbers: what the limbs come to modulo 2^130 - 5. Plain Lean, no program.
-/
import Derived.Test.YtilgkadochhkjaaPolyLe
import Derived.Test.YtilgkadochhkjaaPoly6
namespace Go.Proofs.Ytilgkadochhkjaa
open Go Go.RowKit
set_option linter.unusedSimpArgs false
set_option linter.unusedVariables false

/-- The prime. -/
def pP : Nat := 1361129467683753853853498429727072845819
def v3 (h : Lim3) : Nat := h.x.toNat + 18446744073709551616 * h.y.toNat + 340282366920938463463374607431768211456 * h.z.toNat

theorem addH_v3 (h : Lim3) (l hh hi : UInt64) (hz : h.z.toNat + hi.toNat ≤ 18446744073709551600) :
    v3 (addH h l hh hi) = v3 h + l.toNat + 18446744073709551616 * hh.toNat + 340282366920938463463374607431768211456 * hi.toNat := by
  have h0 := u64_lt h.x; have h1 := u64_lt h.y; have h2 := u64_lt h.z; have h3 := u64_lt l; have h4 := u64_lt hh; have h5 := u64_lt hi
  have c0 := adC_toNat h.x l 0 (by decide)
  have c1 := adC_toNat h.y hh (adC h.x l 0) (adC_le _ _ _ (by decide))
  have e0 := adC_le h.x l 0 (by decide)
  have e1 := adC_le h.y hh (adC h.x l 0) (adC_le _ _ _ (by decide))
  have z0 : (0 : UInt64).toNat = 0 := rfl
  unfold v3 addH ad0 ad1 ad2
  simp only [UInt64.toNat_add]
  rw [z0] at c0
  generalize (adC h.x l 0).toNat = a at *
  generalize (adC h.y hh (adC h.x l 0)).toNat = b at *
  omega

theorem mulT_v (r0 r1 h0 h1 h2 : UInt64) (hr0 : r0.toNat < 1152921504606846976) (hr1 : r1.toNat < 1152921504606846976) (hz : h2.toNat ≤ 7) :
    (mulT r0 r1 h0 h1 h2).x0.toNat + 18446744073709551616 * (mulT r0 r1 h0 h1 h2).x1.toNat + 340282366920938463463374607431768211456 * (mulT r0 r1 h0 h1 h2).x2.toNat + 6277101735386680763835789423207666416102355444464034512896 * (mulT r0 r1 h0 h1 h2).x3.toNat =
      (h0.toNat + 18446744073709551616 * h1.toNat + 340282366920938463463374607431768211456 * h2.toNat) * (r0.toNat + 18446744073709551616 * r1.toNat) := by
  have e : (h0.toNat + 18446744073709551616 * h1.toNat + 340282366920938463463374607431768211456 * h2.toNat) * (r0.toNat + 18446744073709551616 * r1.toNat) =
      h0.toNat * r0.toNat + 18446744073709551616 * (h1.toNat * r0.toNat + h0.toNat * r1.toNat) + 340282366920938463463374607431768211456 * (h2.toNat * r0.toNat + h1.toNat * r1.toNat) + 6277101735386680763835789423207666416102355444464034512896 * (h2.toNat * r1.toNat) := by
    have f1 : 18446744073709551616 * h1.toNat * r0.toNat = 18446744073709551616 * (h1.toNat * r0.toNat) := Nat.mul_assoc _ _ _
    have f2 : 340282366920938463463374607431768211456 * h2.toNat * r0.toNat = 340282366920938463463374607431768211456 * (h2.toNat * r0.toNat) := Nat.mul_assoc _ _ _
    have f3 : h0.toNat * (18446744073709551616 * r1.toNat) = 18446744073709551616 * (h0.toNat * r1.toNat) := Nat.mul_left_comm _ _ _
    have f4 : 18446744073709551616 * h1.toNat * (18446744073709551616 * r1.toNat) = 18446744073709551616 * 18446744073709551616 * (h1.toNat * r1.toNat) := Nat.mul_mul_mul_comm _ _ _ _
    have f5 : 340282366920938463463374607431768211456 * h2.toNat * (18446744073709551616 * r1.toNat) = 340282366920938463463374607431768211456 * 18446744073709551616 * (h2.toNat * r1.toNat) := Nat.mul_mul_mul_comm _ _ _ _
    rw [Nat.mul_add, Nat.add_mul, Nat.add_mul, Nat.add_mul, Nat.add_mul, f1, f2, f3, f4, f5]
    omega
  rw [e]
  have l0 := u64_lt h0; have l1 := u64_lt h1
  have b00 : h0.toNat * r0.toNat ≤ 18446744073709551615 * 1152921504606846975 := Nat.mul_le_mul (by omega) (by omega)
  have b10 : h1.toNat * r0.toNat ≤ 18446744073709551615 * 1152921504606846975 := Nat.mul_le_mul (by omega) (by omega)
  have b01 : h0.toNat * r1.toNat ≤ 18446744073709551615 * 1152921504606846975 := Nat.mul_le_mul (by omega) (by omega)
  have b11 : h1.toNat * r1.toNat ≤ 18446744073709551615 * 1152921504606846975 := Nat.mul_le_mul (by omega) (by omega)
  have b20 : h2.toNat * r0.toNat ≤ 7 * 1152921504606846975 := Nat.mul_le_mul hz (by omega)
  have b21 : h2.toNat * r1.toNat ≤ 7 * 1152921504606846975 := Nat.mul_le_mul hz (by omega)
  have z0 : (0 : UInt64).toNat = 0 := rfl
  -- the middle sums
  have k1 := adC_toNat (h1 * r0) (h0 * r1) 0 (by decide)
  have k2 := adC_toNat (h2 * r0) (h1 * r1) 0 (by decide)
  have n10 : (h1 * r0).toNat = h1.toNat * r0.toNat % 18446744073709551616 := UInt64.toNat_mul _ _
  have n01 : (h0 * r1).toNat = h0.toNat * r1.toNat % 18446744073709551616 := UInt64.toNat_mul _ _
  have n20 : (h2 * r0).toNat = h2.toNat * r0.toNat % 18446744073709551616 := UInt64.toNat_mul _ _
  have n11 : (h1 * r1).toNat = h1.toNat * r1.toNat % 18446744073709551616 := UInt64.toNat_mul _ _
  have n00 : (h0 * r0).toNat = h0.toNat * r0.toNat % 18446744073709551616 := UInt64.toNat_mul _ _
  have n21 : (h2 * r1).toNat = h2.toNat * r1.toNat % 18446744073709551616 := UInt64.toNat_mul _ _
  have m10 := mulH_toNat h1 r0
  have m01 := mulH_toNat h0 r1
  have m20 := mulH_toNat h2 r0
  have m11 := mulH_toNat h1 r1
  have m00 := mulH_toNat h0 r0
  generalize h0.toNat * r0.toNat = p00 at *
  generalize h1.toNat * r0.toNat = p10 at *
  generalize h0.toNat * r1.toNat = p01 at *
  generalize h1.toNat * r1.toNat = p11 at *
  generalize h2.toNat * r0.toNat = p20 at *
  generalize h2.toNat * r1.toNat = p21 at *
  obtain ⟨b0, hb0⟩ : ∃ x, h1 * r0 + h0 * r1 = x := ⟨_, rfl⟩
  obtain ⟨b1, hb1⟩ : ∃ x, mulH h1 r0 + mulH h0 r1 + adC (h1 * r0) (h0 * r1) 0 = x := ⟨_, rfl⟩
  obtain ⟨c0, hc0⟩ : ∃ x, h2 * r0 + h1 * r1 = x := ⟨_, rfl⟩
  obtain ⟨c1, hc1⟩ : ∃ x, mulH h2 r0 + mulH h1 r1 + adC (h2 * r0) (h1 * r1) 0 = x := ⟨_, rfl⟩
  have B0 : b0.toNat = (p10 + p01) % 18446744073709551616 := by rw [← hb0, UInt64.toNat_add, n10, n01]; omega
  have B1 : b1.toNat = (p10 + p01) / 18446744073709551616 := by rw [← hb1, UInt64.toNat_add, UInt64.toNat_add, k1, m10, m01, n10, n01, z0]; omega
  have C0 : c0.toNat = (p20 + p11) % 18446744073709551616 := by rw [← hc0, UInt64.toNat_add, n20, n11]; omega
  have C1 : c1.toNat = (p20 + p11) / 18446744073709551616 := by rw [← hc1, UInt64.toNat_add, UInt64.toNat_add, k2, m20, m11, n20, n11, z0]; omega
  have k3 := adC_toNat b0 (mulH h0 r0) 0 (by decide)
  have k4 := adC_toNat c0 b1 (adC b0 (mulH h0 r0) 0) (adC_le _ _ _ (by decide))
  have X0 : (mulT r0 r1 h0 h1 h2).x0.toNat = p00 % 18446744073709551616 := n00
  have X1 : (mulT r0 r1 h0 h1 h2).x1.toNat = (b0.toNat + p00 / 18446744073709551616) % 18446744073709551616 := by
    show (h1 * r0 + h0 * r1 + mulH h0 r0).toNat = _
    rw [hb0, UInt64.toNat_add, m00]
  have X2 : (mulT r0 r1 h0 h1 h2).x2.toNat = (c0.toNat + b1.toNat + (b0.toNat + p00 / 18446744073709551616) / 18446744073709551616) % 18446744073709551616 := by
    show (h2 * r0 + h1 * r1 + (mulH h1 r0 + mulH h0 r1 + adC (h1 * r0) (h0 * r1) 0) + adC (h1 * r0 + h0 * r1) (mulH h0 r0) 0).toNat = _
    rw [hb0, hb1, hc0, UInt64.toNat_add, UInt64.toNat_add, k3, m00, z0]; omega
  have X3 : (mulT r0 r1 h0 h1 h2).x3.toNat = (p21 % 18446744073709551616 + c1.toNat + (c0.toNat + b1.toNat + (b0.toNat + p00 / 18446744073709551616) / 18446744073709551616) / 18446744073709551616) % 18446744073709551616 := by
    show (h2 * r1 + (mulH h2 r0 + mulH h1 r1 + adC (h2 * r0) (h1 * r1) 0) + adC (h2 * r0 + h1 * r1) (mulH h1 r0 + mulH h0 r1 + adC (h1 * r0) (h0 * r1) 0) (adC (h1 * r0 + h0 * r1) (mulH h0 r0) 0)).toNat = _
    rw [hb0, hb1, hc0, hc1, UInt64.toNat_add, UInt64.toNat_add, k4, k3, m00, n21, z0]; omega
  rw [X0, X1, X2, X3]
  clear X0 X1 X2 X3 k1 k2 k3 k4 n10 n01 n20 n11 n00 n21 m10 m01 m20 m11 m00 hb0 hb1 hc0 hc1 e
  have e1 : b0.toNat + 18446744073709551616 * b1.toNat = p10 + p01 := by omega
  have e2 : c0.toNat + 18446744073709551616 * c1.toNat = p20 + p11 := by omega
  have l0 := u64_lt b0; have l2 := u64_lt c0
  have l1 : b1.toNat ≤ 2305843009213693952 := by omega
  have l3 : c1.toNat ≤ 1152921504606846977 := by omega
  clear B0 B1 C0 C1
  generalize b0.toNat = x at *
  generalize b1.toNat = y at *
  generalize c0.toNat = z at *
  generalize c1.toNat = u at *
  obtain ⟨q, hq⟩ : ∃ q, q = p00 / 18446744073709551616 := ⟨_, rfl⟩
  have hq1 : p00 = p00 % 18446744073709551616 + 18446744073709551616 * q := by omega
  generalize p00 % 18446744073709551616 = r at *
  rw [← hq]
  obtain ⟨k, hk⟩ : ∃ k, k = (x + q) / 18446744073709551616 := ⟨_, rfl⟩
  have hk1 : x + q = (x + q) % 18446744073709551616 + 18446744073709551616 * k := by omega
  have hkl : k ≤ 1 := by omega
  generalize (x + q) % 18446744073709551616 = s1 at *
  rw [← hk]
  obtain ⟨j, hj⟩ : ∃ j, j = (z + y + k) / 18446744073709551616 := ⟨_, rfl⟩
  have hj1 : z + y + k = (z + y + k) % 18446744073709551616 + 18446744073709551616 * j := by omega
  have hjl : j ≤ 1 := by omega
  generalize (z + y + k) % 18446744073709551616 = s2 at *
  rw [← hj]
  rw [Nat.mod_eq_of_lt (show p21 < 18446744073709551616 by omega), Nat.mod_eq_of_lt (show p21 + u + j < 18446744073709551616 by omega)]
  omega
theorem and3 (x : UInt64) : (x &&& 3).toNat = x.toNat % 4 := by
  rw [UInt64.toNat_and]
  exact Nat.and_two_pow_sub_one_eq_mod x.toNat 2
theorem andn3 (x : UInt64) : (x &&& ~~~ (3 : UInt64)).toNat = 4 * (x.toNat / 4) := by
  have hx := u64_lt x
  have e : x &&& ~~~ (3 : UInt64) = (x >>> 2) <<< 2 := by
    apply UInt64.toBitVec_inj.1
    show x.toBitVec &&& ~~~ (3#64) = (x.toBitVec >>> (2 : Nat)) <<< (2 : Nat)
    apply BitVec.eq_of_getLsbD_eq
    intro i hi
    simp only [BitVec.getLsbD_and, BitVec.getLsbD_not, BitVec.getLsbD_shiftLeft, BitVec.getLsbD_ushiftRight, hi, decide_true, Bool.true_and]
    by_cases h : i < 2
    · have : i = 0 ∨ i = 1 := by omega
      rcases this with rfl | rfl <;> simp
    · have h3 : (3#64).getLsbD i = false := by
        rw [BitVec.getLsbD_ofNat, show (3 : Nat) = 2 ^ 2 - 1 from rfl, Nat.testBit_two_pow_sub_one]
        simp [h]
      rw [h3]
      simp only [h, Bool.not_false, Bool.and_true, decide_false, Bool.true_and]
      rw [show 2 + (i - 2) = i by omega]
  rw [e, UInt64.toNat_shiftLeft, UInt64.toNat_shiftRight]
  show (x.toNat >>> 2) <<< 2 % 18446744073709551616 = _
  rw [Nat.shiftRight_eq_div_pow, Nat.shiftLeft_eq]
  omega
theorem top_or (m x : UInt64) : ((m >>> 2) ||| (x <<< 62)).toNat = m.toNat / 4 + 4611686018427387904 * (x.toNat % 4) := by
  have hm := u64_lt m
  rw [UInt64.toNat_or, UInt64.toNat_shiftLeft, UInt64.toNat_shiftRight]
  show (m.toNat >>> 2) ||| ((x.toNat <<< 62) % 18446744073709551616) = _
  rw [Nat.shiftRight_eq_div_pow, Nat.shiftLeft_eq]
  have e : x.toNat * 2 ^ 62 % 18446744073709551616 = 2 ^ 62 * (x.toNat % 4) := by omega
  rw [e, Nat.or_comm, ← Nat.two_pow_add_eq_or_of_lt (by omega)]
  omega
theorem shr2 (x : UInt64) : (x >>> 2).toNat = x.toNat / 4 := by
  rw [UInt64.toNat_shiftRight]
  show x.toNat >>> 2 = _
  rw [Nat.shiftRight_eq_div_pow]
/-- Taken back in: what is above 2^130, five times. -/
def foldN (t : Nat) : Nat := t % 1361129467683753853853498429727072845824 + 5 * (t / 1361129467683753853853498429727072845824)
theorem fold_mod (t : Nat) : foldN t % pP = t % pP := by unfold foldN pP; omega
theorem multF_v3 (r0 r1 : UInt64) (h : Lim3) (hr0 : r0.toNat < 1152921504606846976) (hr1 : r1.toNat < 1152921504606846976) (hz : h.z.toNat ≤ 7) :
    v3 (multF r0 r1 h) = foldN (v3 h * (r0.toNat + 18446744073709551616 * r1.toNat)) ∧ (multF r0 r1 h).z.toNat ≤ 4 := by
  have ht := mulT_v r0 r1 h.x h.y h.z hr0 hr1 hz
  have hb : v3 h * (r0.toNat + 18446744073709551616 * r1.toNat) ≤ 2722258935367507707706996859454145691647 * 21267647932558653966460912964485513215 := Nat.mul_le_mul (by unfold v3; have := u64_lt h.x; have := u64_lt h.y; omega) (by omega)
  change _ = v3 h * _ at ht
  generalize v3 h * (r0.toNat + 18446744073709551616 * r1.toNat) = t at *
  have l0 := u64_lt (mulT r0 r1 h.x h.y h.z).x0; have l1 := u64_lt (mulT r0 r1 h.x h.y h.z).x1; have l2 := u64_lt (mulT r0 r1 h.x h.y h.z).x2; have l3 := u64_lt (mulT r0 r1 h.x h.y h.z).x3
  have e : multF r0 r1 h = addH (addH ⟨(mulT r0 r1 h.x h.y h.z).x0, (mulT r0 r1 h.x h.y h.z).x1, (mulT r0 r1 h.x h.y h.z).x2 &&& 3⟩ ((mulT r0 r1 h.x h.y h.z).x2 &&& ~~~ 3) (mulT r0 r1 h.x h.y h.z).x3 0) ((((mulT r0 r1 h.x h.y h.z).x2 &&& ~~~ 3) >>> 2) ||| ((mulT r0 r1 h.x h.y h.z).x3 <<< 62)) ((mulT r0 r1 h.x h.y h.z).x3 >>> 2) 0 := rfl
  rw [e]
  generalize mulT r0 r1 h.x h.y h.z = T at *
  obtain ⟨x0, x1, x2, x3⟩ := T
  simp only at *
  have z0 : (0 : UInt64).toNat = 0 := rfl
  have a3 := and3 x2
  have an := andn3 x2
  have s1 := addH_v3 ⟨x0, x1, x2 &&& 3⟩ (x2 &&& ~~~ 3) x3 0 (by rw [z0]; show (x2 &&& 3).toNat + 0 ≤ _; omega)
  have v0 : v3 ⟨x0, x1, x2 &&& 3⟩ = x0.toNat + 18446744073709551616 * x1.toNat + 340282366920938463463374607431768211456 * (x2.toNat % 4) := by unfold v3; rw [← a3]
  generalize addH ⟨x0, x1, x2 &&& 3⟩ (x2 &&& ~~~ 3) x3 0 = H1 at *
  have hz1 : H1.z.toNat ≤ 5 := by
    have : 340282366920938463463374607431768211456 * H1.z.toNat ≤ v3 H1 := by unfold v3; omega
    omega
  have s2 := addH_v3 H1 (((x2 &&& ~~~ 3) >>> 2) ||| (x3 <<< 62)) (x3 >>> 2) 0 (by rw [z0]; omega)
  rw [top_or, shr2] at s2
  generalize addH H1 (((x2 &&& ~~~ 3) >>> 2) ||| (x3 <<< 62)) (x3 >>> 2) 0 = H2 at *
  have key : v3 H2 = foldN t := by
    unfold foldN
    rw [s2, s1, v0, z0, an]
    omega
  refine ⟨key, ?_⟩
  have h5 : 340282366920938463463374607431768211456 * H2.z.toNat ≤ v3 H2 := by unfold v3; omega
  have h6 : v3 H2 ≤ 1361129467683753853853498429727072845823 + 5 * 42535295865117307932921825928971026431 := by rw [key]; unfold foldN; omega
  omega
theorem sbC_toNat (x y b : UInt64) : (sbC x y b).toNat = if x.toNat < y.toNat + b.toNat then 1 else 0 := by
  unfold sbC
  split <;> rfl
theorem sbC_zero (x y b : UInt64) : sbC x y b = 0 ↔ ¬ x.toNat < y.toNat + b.toNat := by
  unfold sbC
  split
  · rename_i hh
    exact ⟨fun e => absurd e (by decide), fun e => absurd hh e⟩
  · rename_i hh
    exact ⟨fun _ => hh, fun _ => rfl⟩
theorem redF_v (h : Lim3) (hz : h.z.toNat ≤ 4) : (redF h).1.toNat + 18446744073709551616 * (redF h).2.toNat = v3 h % pP % 340282366920938463463374607431768211456 := by
  have l0 := u64_lt h.x; have l1 := u64_lt h.y; have l2 := u64_lt h.z
  have k1 : (18446744073709551611 : UInt64).toNat = 18446744073709551611 := rfl
  have k2 : (18446744073709551615 : UInt64).toNat = 18446744073709551615 := rfl
  have k3 : (3 : UInt64).toNat = 3 := rfl
  have k0 : (0 : UInt64).toNat = 0 := rfl
  have c1 := sbC_toNat h.x 18446744073709551611 0
  rw [k1, k0] at c1
  have e : redF h = if sbC h.z 3 (sbC h.y 18446744073709551615 (sbC h.x 18446744073709551611 0)) = 0 then (h.x - 18446744073709551611, h.y - 18446744073709551615 - sbC h.x 18446744073709551611 0) else (h.x, h.y) := rfl
  rw [e]
  generalize sbC h.x 18446744073709551611 0 = C at *
  have c2 := sbC_toNat h.y 18446744073709551615 C
  rw [k2] at c2
  generalize sbC h.y 18446744073709551615 C = D at *
  have c3 := sbC_zero h.z 3 D
  rw [k3] at c3
  have a1 : (h.x - 18446744073709551611).toNat + 18446744073709551611 = h.x.toNat + 18446744073709551616 * C.toNat := by
    rw [UInt64.toNat_sub, k1, c1]
    split <;> omega
  have b1 : (h.y - 18446744073709551615 - C).toNat + 18446744073709551615 + C.toNat = h.y.toNat + 18446744073709551616 * D.toNat := by
    rw [UInt64.toNat_sub, UInt64.toNat_sub, k2, c2]
    have hC : C.toNat ≤ 1 := by rw [c1]; split <;> omega
    generalize C.toNat = c at *
    split <;> omega
  have hC : C.toNat ≤ 1 := by rw [c1]; split <;> omega
  have hD : D.toNat ≤ 1 := by rw [c2]; split <;> omega
  have l3 := u64_lt (h.x - 18446744073709551611)
  have l4 := u64_lt (h.y - 18446744073709551615 - C)
  by_cases hc : sbC h.z 3 D = 0
  · rw [if_pos hc]
    have h3 := c3.1 hc
    clear c1 c2 c3 k0 k1 k2 k3 e
    simp only
    generalize (h.x - 18446744073709551611).toNat = a at *
    generalize (h.y - 18446744073709551615 - C).toNat = b at *
    generalize C.toNat = c at *
    generalize D.toNat = d at *
    have e1 : v3 h = pP + (a + 18446744073709551616 * b) + 340282366920938463463374607431768211456 * (h.z.toNat - d - 3) := by unfold v3 pP; omega
    have e2 : v3 h % pP = (a + 18446744073709551616 * b) + 340282366920938463463374607431768211456 * (h.z.toNat - d - 3) := by
      rw [e1]; unfold pP; omega
    rw [e2]
    omega
  · rw [if_neg hc]
    have h3 : h.z.toNat < 3 + D.toNat := by
      rcases Nat.lt_or_ge h.z.toNat (3 + D.toNat) with h' | h'
      · exact h'
      · exact absurd (c3.2 (by omega)) hc
    have hv : v3 h < pP := by
      unfold v3 pP
      generalize C.toNat = c at *
      generalize D.toNat = d at *
      split at c1 <;> split at c2 <;> omega
    rw [Nat.mod_eq_of_lt hv]
    unfold v3
    simp only
    omega
theorem halfA_take (bs : List UInt8) (h : 16 ≤ bs.length) : halfA (bs.take 16) = halfA bs := by
  unfold halfA; rw [List.take_take]; rfl
theorem halfB_take (bs : List UInt8) (h : 16 ≤ bs.length) : halfB (bs.take 16) = halfB bs := by
  unfold halfB; rw [List.drop_take, List.take_take]; rfl
/-- A block as a number, a one behind it. -/
def blkN (bs : List UInt8) : Nat := leN bs + 256 ^ bs.length
/-- What is summed up by k blocks. -/
def accN (R : Nat) (bs : List UInt8) : Nat → Nat
  | 0 => 0
  | k + 1 => (accN R bs k + blkN ((bs.drop (16 * k)).take 16)) * R % pP
theorem absorb_v (r0 r1 : UInt64) (h : Lim3) (bs : List UInt8) (hr0 : r0.toNat < 1152921504606846976) (hr1 : r1.toNat < 1152921504606846976) (hz : h.z.toNat ≤ 4) (hb : 16 ≤ bs.length) :
    v3 (absorb r0 r1 h bs) % pP = (v3 h % pP + blkN (bs.take 16)) * (r0.toNat + 18446744073709551616 * r1.toNat) % pP ∧ (absorb r0 r1 h bs).z.toNat ≤ 4 := by
  have ha := addH_v3 h (halfA bs) (halfB bs) 1 (by have : (1 : UInt64).toNat = 1 := rfl; omega)
  have h1 : (1 : UInt64).toNat = 1 := rfl
  have l0 := u64_lt (halfA bs); have l1 := u64_lt (halfB bs); have l2 := u64_lt h.x; have l3 := u64_lt h.y
  have hv : v3 h ≤ 18446744073709551615 + 18446744073709551616 * 18446744073709551615 + 340282366920938463463374607431768211456 * 4 := by unfold v3; omega
  have hz2 : (addH h (halfA bs) (halfB bs) 1).z.toNat ≤ 7 := by
    have : 340282366920938463463374607431768211456 * (addH h (halfA bs) (halfB bs) 1).z.toNat ≤ v3 (addH h (halfA bs) (halfB bs) 1) := by unfold v3; omega
    omega
  obtain ⟨m1, m2⟩ := multF_v3 r0 r1 _ hr0 hr1 hz2
  refine ⟨?_, m2⟩
  unfold absorb
  rw [m1, fold_mod, ha, h1]
  have hl : (bs.take 16).length = 16 := by rw [List.length_take]; omega
  have hh := halves (bs.take 16) hl
  rw [halfA_take bs hb, halfB_take bs hb] at hh
  have e : v3 h + (halfA bs).toNat + 18446744073709551616 * (halfB bs).toNat + 340282366920938463463374607431768211456 * 1 = v3 h + blkN (bs.take 16) := by
    unfold blkN
    rw [hl, ← hh]
    omega
  rw [e, Nat.mul_mod, Nat.add_mod, ← Nat.mod_add_mod, Nat.mod_mod, ← Nat.add_mod]
  conv => rhs; rw [Nat.mul_mod, Nat.add_mod, Nat.mod_mod, ← Nat.add_mod]
theorem run_v (r0 r1 : UInt64) (hr0 : r0.toNat < 1152921504606846976) (hr1 : r1.toNat < 1152921504606846976) (bs : List UInt8) : ∀ k, 16 * k ≤ bs.length →
    v3 (runF r0 r1 k ⟨0, 0, 0⟩ bs) % pP = accN (r0.toNat + 18446744073709551616 * r1.toNat) bs k ∧ (runF r0 r1 k ⟨0, 0, 0⟩ bs).z.toNat ≤ 4
  | 0, _ => ⟨rfl, Nat.zero_le _⟩
  | k + 1, hk => by
    obtain ⟨h1, h2⟩ := run_v r0 r1 hr0 hr1 bs k (by omega)
    have e : runF r0 r1 (k + 1) ⟨0, 0, 0⟩ bs = absorb r0 r1 (runF r0 r1 k ⟨0, 0, 0⟩ bs) (bs.drop (16 * k)) := by
      rw [runF_add]; rfl
    rw [e, accN]
    have h3 := absorb_v r0 r1 (runF r0 r1 k ⟨0, 0, 0⟩ bs) (bs.drop (16 * k)) hr0 hr1 h2 (by rw [List.length_drop]; omega)
    rw [h1] at h3
    exact h3
theorem last_v (r : List UInt8) (h : r.length < 16) : leN (lastF r) = blkN r ∧ (lastF r).length = 16 := by
  have z : ∀ n, leN (List.replicate n 0) = 0 := fun n => by
    induction n with
    | zero => rfl
    | succ n ih => rw [List.replicate_succ, leN, ih]; rfl
  refine ⟨?_, by unfold lastF; simp; omega⟩
  unfold lastF blkN
  rw [leN_append, leN_append, z]
  show leN r + 256 ^ r.length * (1 + 256 * 0) + _ * 0 = _
  omega
/-- How many blocks. -/
def nBlk (n : Nat) : Nat := (n + 15) / 16
theorem fin_v (r0 r1 : UInt64) (hr0 : r0.toNat < 1152921504606846976) (hr1 : r1.toNat < 1152921504606846976) (bs : List UInt8) :
    v3 (finH r0 r1 (stH r0 r1 bs) (stR bs)) % pP = accN (r0.toNat + 18446744073709551616 * r1.toNat) bs (nBlk bs.length) ∧ (finH r0 r1 (stH r0 r1 bs) (stR bs)).z.toNat ≤ 4 := by
  obtain ⟨h1, h2⟩ := run_v r0 r1 hr0 hr1 bs (bs.length / 16) (by omega)
  have hl := stR_len bs
  unfold finH
  by_cases h0 : (stR bs).length = 0
  · rw [if_pos h0, show nBlk bs.length = bs.length / 16 by unfold nBlk; omega]
    exact ⟨h1, h2⟩
  · rw [if_neg h0, show nBlk bs.length = bs.length / 16 + 1 by unfold nBlk; omega, accN]
    have g1 : v3 (stH r0 r1 bs) % pP = accN (r0.toNat + 18446744073709551616 * r1.toNat) bs (bs.length / 16) := h1
    have g2 : (stH r0 r1 bs).z.toNat ≤ 4 := h2
    clear h1 h2
    obtain ⟨q1, q2⟩ := last_v (stR bs) (by omega)
    have hh := halves (lastF (stR bs)) q2
    rw [q1] at hh
    have ht : (bs.drop (16 * (bs.length / 16))).take 16 = stR bs := by rw [← stR, List.take_of_length_le (by omega)]
    rw [ht]
    generalize stH r0 r1 bs = h at *
    generalize halfA (lastF (stR bs)) = a at *
    generalize halfB (lastF (stR bs)) = b at *
    have z0 : (0 : UInt64).toNat = 0 := rfl
    have ha := addH_v3 h a b 0 (by omega)
    rw [z0] at ha
    have l0 := u64_lt a; have l1 := u64_lt b; have l2 := u64_lt h.x; have l3 := u64_lt h.y
    have hv : v3 h ≤ 18446744073709551615 + 18446744073709551616 * 18446744073709551615 + 340282366920938463463374607431768211456 * 4 := by unfold v3; omega
    have hz2 : (addH h a b 0).z.toNat ≤ 7 := by
      have : 340282366920938463463374607431768211456 * (addH h a b 0).z.toNat ≤ v3 (addH h a b 0) := by unfold v3; omega
      omega
    obtain ⟨m1, m2⟩ := multF_v3 r0 r1 _ hr0 hr1 hz2
    refine ⟨?_, m2⟩
    have e : v3 (addH h a b 0) = v3 h + blkN (stR bs) := by rw [ha, ← hh]; omega
    rw [m1, fold_mod, e, ← g1, Nat.mul_mod, Nat.add_mod, ← Nat.mod_add_mod, Nat.mod_mod, ← Nat.add_mod]
    conv => rhs; rw [Nat.mul_mod, Nat.add_mod, Nat.mod_mod, ← Nat.add_mod]
/-- The sum as a number. -/
theorem psum_v (r0 r1 s0 s1 : UInt64) (hr0 : r0.toNat < 1152921504606846976) (hr1 : r1.toNat < 1152921504606846976) (bs : List UInt8) :
    leN (psumF r0 r1 s0 s1 bs) = (accN (r0.toNat + 18446744073709551616 * r1.toNat) bs (nBlk bs.length) + (s0.toNat + 18446744073709551616 * s1.toNat)) % 340282366920938463463374607431768211456 := by
  obtain ⟨h1, h2⟩ := fin_v r0 r1 hr0 hr1 bs
  unfold psumF
  rw [leN_putS, redF_v _ h2, h1]
  omega
/-! ### Numbers of 40 bytes -/
def numV : List Nat → Nat
  | [] => 0
  | x :: xs => x + 256 * numV xs
def digL : Nat → Nat → List Nat
  | 0, _ => []
  | k + 1, v => v % 256 :: digL k (v / 256)
theorem digL_len : ∀ k v, (digL k v).length = k
  | 0, _ => rfl
  | k + 1, v => by rw [digL, List.length_cons, digL_len]
theorem digL_at : ∀ k v i, i < k → (digL k v).getD i 0 = v / 256 ^ i % 256
  | 0, _, _, h => by omega
  | k + 1, v, 0, _ => by rw [digL]; simp
  | k + 1, v, i + 1, h => by
    rw [digL, List.getD_cons_succ, digL_at k _ i (by omega), Nat.pow_succ, Nat.mul_comm, Nat.div_div_eq_div_mul]
theorem numV_digL : ∀ k v, v < 256 ^ k → numV (digL k v) = v
  | 0, v, h => by simp at h; subst h; rfl
  | k + 1, v, h => by
    rw [digL, numV, numV_digL k _ (by rw [Nat.pow_succ] at h; omega)]
    omega
theorem numV_set : ∀ (xs : List Nat) (j d : Nat), j < xs.length → numV (xs.set j (xs.getD j 0 + d)) = numV xs + d * 256 ^ j
  | [], _, _, h => by simp at h
  | x :: xs, 0, d, _ => by simp [numV]; omega
  | x :: xs, j + 1, d, h => by
    rw [List.set_cons_succ, List.getD_cons_succ, numV, numV, numV_set xs j d (by simpa using h), Nat.pow_succ]
    have e : d * (256 ^ j * 256) = 256 * (d * 256 ^ j) := by rw [← Nat.mul_assoc, Nat.mul_comm]
    rw [e]
    omega
theorem numV_zero : ∀ n, numV (List.replicate n 0) = 0
  | 0 => rfl
  | n + 1 => by rw [List.replicate_succ, numV, numV_zero n]
theorem numV_append : ∀ (xs ys : List Nat), numV (xs ++ ys) = numV xs + 256 ^ xs.length * numV ys
  | [], ys => by simp [numV]
  | x :: xs, ys => by
    rw [List.cons_append, numV, numV, numV_append xs ys, List.length_cons, Nat.pow_succ, Nat.mul_add, Nat.mul_comm (256 ^ xs.length) 256, Nat.mul_assoc]
    omega
theorem numV_take (xs : List Nat) (k : Nat) (h : k < xs.length) : numV (xs.take (k + 1)) = numV (xs.take k) + 256 ^ k * xs.getD k 0 := by
  rw [List.take_add_one, List.getElem?_eq_getElem h, numV_append, List.length_take, Nat.min_eq_left (by omega), List.getD_eq_getElem?_getD, List.getElem?_eq_getElem h]
  simp [numV]
/-- Carried on: k of the bytes done. -/
def carA (n : List Nat) : Nat → List Nat × Nat
  | 0 => (n, 0)
  | i + 1 => let p := carA n i; (p.1.set i ((p.1.getD i 0 + p.2) % 256), (p.1.getD i 0 + p.2) / 256)
theorem carA_len (n : List Nat) (i : Nat) : (carA n i).1.length = n.length := by
  induction i with
  | zero => rfl
  | succ i ih => simp [carA, ih]
theorem digL_snoc : ∀ k v, digL (k + 1) v = digL k v ++ [v / 256 ^ k % 256]
  | 0, v => by simp [digL]
  | k + 1, v => by
    rw [digL, digL_snoc k (v / 256), digL, List.cons_append, Nat.div_div_eq_div_mul, Nat.pow_succ, Nat.mul_comm 256]
theorem digL_take : ∀ k v j, digL k (v + 256 ^ k * j) = digL k v
  | 0, _, _ => rfl
  | k + 1, v, j => by
    have e : v + 256 ^ (k + 1) * j = v + 256 * (256 ^ k * j) := by rw [Nat.pow_succ, Nat.mul_comm (256 ^ k), Nat.mul_assoc]
    rw [e, digL, digL, Nat.add_mul_mod_self_left, Nat.add_mul_div_left _ _ (by omega), digL_take k]
theorem carA_inv (n : List Nat) : ∀ i, i ≤ n.length → (carA n i).1.take i = digL i (numV (n.take i)) ∧ (∀ j, i ≤ j → (carA n i).1[j]? = n[j]?) ∧ (carA n i).2 = numV (n.take i) / 256 ^ i
  | 0, _ => ⟨by simp [carA, digL], fun _ _ => rfl, by simp [carA, numV]⟩
  | i + 1, h => by
    obtain ⟨h1, h2, h3⟩ := carA_inv n i (by omega)
    have hg : (carA n i).1.getD i 0 = n.getD i 0 := by rw [List.getD_eq_getElem?_getD, List.getD_eq_getElem?_getD, h2 i (Nat.le_refl _)]
    have hl := carA_len n i
    have hv := numV_take n i (by omega)
    have hpos : 0 < 256 ^ i := Nat.pow_pos (by omega)
    have hc : (n.getD i 0 + numV (n.take i) / 256 ^ i) = numV (n.take (i + 1)) / 256 ^ i := by
      rw [hv, Nat.add_mul_div_left _ _ hpos, Nat.add_comm]
    refine ⟨?_, fun j hj => ?_, ?_⟩
    · show ((carA n i).1.set i (((carA n i).1.getD i 0 + (carA n i).2) % 256)).take (i + 1) = _
      rw [List.take_add_one, List.take_set_of_le (Nat.le_refl _), h1, List.getElem?_set_self (by omega), hg, h3, hc, digL_snoc, hv, digL_take]
      rfl
    · show ((carA n i).1.set i _)[j]? = _
      rw [List.getElem?_set_ne (by omega), h2 j (by omega)]
    · show ((carA n i).1.getD i 0 + (carA n i).2) / 256 = _
      rw [hg, h3, hc, Nat.div_div_eq_div_mul, Nat.pow_succ]
theorem carA_all (n : List Nat) (k : Nat) (h : n.length = k) : (carA n k).1 = digL k (numV n) := by
  obtain ⟨h1, _, _⟩ := carA_inv n k (by omega)
  rw [List.take_of_length_le (by rw [carA_len]; omega), List.take_of_length_le (by omega)] at h1
  exact h1
end Go.Proofs.Ytilgkadochhkjaa
