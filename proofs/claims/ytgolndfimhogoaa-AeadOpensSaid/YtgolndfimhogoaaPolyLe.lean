/-
  Plain laws of Poly1305's sums.
-/
import Derived.Test.YtgolndfimhogoaaPoly6
import Derived.Test.YtgolndfimhogoaaLe
namespace Go.Proofs.Ytgolndfimhogoaa
open Go Go.RowKit

theorem half_toNat (bs : List UInt8) : (littleF bs).toNat = leN (bs.take 8) := by
  have h1 := leN_lt (bs.take 8)
  have h2 : (bs.take 8).length ≤ 8 := by rw [List.length_take]; omega
  have h3 : 256 ^ (bs.take 8).length ≤ 256 ^ 8 := Nat.pow_le_pow_right (by decide) h2
  rw [littleF_eq, UInt64.toNat_ofNat', Nat.mod_eq_of_lt]
  have : (256 : Nat) ^ 8 = 18446744073709551616 := by decide
  omega
theorem halves (xs : List UInt8) (h : xs.length = 16) : (halfA xs).toNat + 18446744073709551616 * (halfB xs).toNat = leN xs := by
  unfold halfA halfB
  rw [half_toNat, half_toNat]
  have e : xs = xs.take 8 ++ xs.drop 8 := (List.take_append_drop 8 xs).symm
  have h8 : (xs.take 8).length = 8 := by rw [List.length_take, h]; rfl
  have hd : (xs.drop 8).length = 8 := by rw [List.length_drop, h]
  have l := leN_append (xs.take 8) (xs.drop 8)
  rw [← e, h8] at l
  rw [List.take_of_length_le (by omega : (xs.take 8).length ≤ 8), List.take_of_length_le (by rw [List.length_take]; omega : ((xs.drop 8).take 8).length ≤ 8), List.take_of_length_le (by omega : (xs.drop 8).length ≤ 8), l]
theorem leN_two (a b : UInt64) : leN (putLittleF a 8 ++ putLittleF b 8) = a.toNat + 18446744073709551616 * b.toNat := by
  have ha := u64_lt a
  have hb := u64_lt b
  have e : (256 : Nat) ^ 8 = 18446744073709551616 := by decide
  rw [leN_append, leN_putLittle, leN_putLittle, show (putLittleF a 8).length = 8 by simp [putLittleF], e]
  rw [Nat.mod_eq_of_lt ha, Nat.mod_eq_of_lt hb]
theorem leN_putS (p : UInt64 × UInt64) (s0 s1 : UInt64) : leN (putS p s0 s1) = (p.1.toNat + 18446744073709551616 * p.2.toNat + (s0.toNat + 18446744073709551616 * s1.toNat)) % 340282366920938463463374607431768211456 := by
  obtain ⟨a, b⟩ := p
  have ha := u64_lt a
  have hb := u64_lt b
  have h0 := u64_lt s0
  have h1 := u64_lt s1
  unfold putS
  rw [leN_two]
  have e1 : (a + s0).toNat = (a.toNat + s0.toNat) % 18446744073709551616 := UInt64.toNat_add _ _
  have e2 : (b + s1 + adC a s0 0).toNat = ((b.toNat + s1.toNat) % 18446744073709551616 + (a.toNat + s0.toNat) / 18446744073709551616) % 18446744073709551616 := by
    rw [UInt64.toNat_add, UInt64.toNat_add, adC_toNat _ _ _ (by decide)]
    rfl
  simp only
  rw [e1, e2]
  omega
theorem leN_digit (bs : List UInt8) (i : Nat) (h : i < bs.length) : leN bs / 256 ^ i % 256 = (bs[i]).toNat := by
  have h1 := leN_take bs i h
  have h2 := leN_lt (bs.take i)
  rw [List.length_take, Nat.min_eq_left (by omega)] at h2
  have h3 := leN_mod bs (i + 1)
  rw [← Nat.mod_mul_right_div_self, ← Nat.pow_succ, h3, h1, Nat.add_mul_div_left _ _ (Nat.pow_pos (by decide)), Nat.div_eq_of_lt h2, Nat.zero_add]
theorem carry_digit (X Y q : Nat) (hq : 0 < q) : (X + Y) / q % 256 = (X / q % 256 + Y / q % 256 + (X % q + Y % q) / q) % 256 ∧ (X % (q * 256) + Y % (q * 256)) / (q * 256) = (X / q % 256 + Y / q % 256 + (X % q + Y % q) / q) / 256 := by
  have hx := Nat.div_add_mod X q
  have hy := Nat.div_add_mod Y q
  constructor
  · have e : X + Y = (X % q + Y % q) + q * (X / q + Y / q) := by rw [Nat.mul_add]; omega
    rw [e, Nat.add_mul_div_left _ _ hq]
    omega
  · rw [Nat.mod_mul, Nat.mod_mul]
    have e : X % q + q * (X / q % 256) + (Y % q + q * (Y / q % 256)) = (X % q + Y % q) + q * (X / q % 256 + Y / q % 256) := by rw [Nat.mul_add]; omega
    rw [e, ← Nat.div_div_eq_div_mul, Nat.add_mul_div_left _ _ hq]
    congr 1
    omega
theorem mod_digit (N i : Nat) (h : i < 16) : N % 340282366920938463463374607431768211456 / 256 ^ i % 256 = N / 256 ^ i % 256 := by
  have e : (340282366920938463463374607431768211456 : Nat) = 256 ^ i * 256 ^ (16 - i) := by
    rw [← Nat.pow_add, show i + (16 - i) = 16 by omega]
  rw [e, Nat.mod_mul_right_div_self, Nat.mod_mod_of_dvd]
  have : 256 ^ (16 - i) = 256 ^ 1 * 256 ^ (15 - i) := by rw [← Nat.pow_add, show 1 + (15 - i) = 16 - i by omega]
  exact ⟨256 ^ (15 - i), by rw [this]⟩

/-! ### A first half that is nought -/
theorem mulH_zero (x : UInt64) : mulH x 0 = 0 := by unfold mulH; simp
theorem mult_nought (h : Lim3) : multF 0 0 h = ⟨0, 0, 0⟩ := by
  unfold multF mulT
  simp only [mulH_zero, UInt64.mul_zero]
  rfl
theorem run_nought (k : Nat) : ∀ bs, runF 0 0 k ⟨0, 0, 0⟩ bs = ⟨0, 0, 0⟩ := by
  induction k with
  | zero => intro bs; rfl
  | succ k ih => intro bs; rw [runF, absorb, mult_nought]; exact ih _
theorem red_nought : redF ⟨0, 0, 0⟩ = (0, 0) := by decide +kernel
theorem sum_nought (s0 s1 : UInt64) (bs : List UInt8) : psumF 0 0 s0 s1 bs = putS (0, 0) s0 s1 := by
  unfold psumF
  have e : finH 0 0 (stH 0 0 bs) (stR bs) = ⟨0, 0, 0⟩ := by
    unfold stH finH
    rw [run_nought]
    split
    · rfl
    · exact mult_nought _
  rw [e, red_nought]
theorem put_nought (xs : List UInt8) (h : xs.length = 16) : putS (0, 0) (halfA xs) (halfB xs) = xs := by
  refine leN_inj _ _ (by simp [putS, putLittleF, h]) ?_
  have hl := leN_lt xs
  rw [h] at hl
  have e : (256 : Nat) ^ 16 = 340282366920938463463374607431768211456 := by decide
  rw [leN_putS, halves xs h]
  show (0 + 18446744073709551616 * 0 + leN xs) % _ = _
  rw [Nat.mod_eq_of_lt (by omega)]
  omega
theorem poly_nought (key bs : List UInt8) (hk : key.length = 32) : polyF (List.replicate 16 0 ++ key.drop 16) bs = key.drop 16 := by
  have hd : (key.drop 16).length = 16 := by rw [List.length_drop, hk]
  unfold polyF
  have e0 : kr0 (List.replicate 16 0 ++ key.drop 16) = 0 := by
    unfold kr0; rw [List.take_left' (by simp)]; decide +kernel
  have e1 : kr1 (List.replicate 16 0 ++ key.drop 16) = 0 := by
    unfold kr1; rw [List.take_left' (by simp)]; decide +kernel
  have e2 : ks0 (List.replicate 16 0 ++ key.drop 16) = halfA (key.drop 16) := by unfold ks0; rw [List.drop_left' (by simp)]
  have e3 : ks1 (List.replicate 16 0 ++ key.drop 16) = halfB (key.drop 16) := by unfold ks1; rw [List.drop_left' (by simp)]
  rw [e0, e1, e2, e3, sum_nought, put_nought _ hd]
theorem poly_nothing (key : List UInt8) (hk : key.length = 32) : polyF key [] = key.drop 16 := by
  have hd : (key.drop 16).length = 16 := by rw [List.length_drop, hk]
  unfold polyF psumF
  have e : finH (kr0 key) (kr1 key) (stH (kr0 key) (kr1 key) []) (stR []) = ⟨0, 0, 0⟩ := rfl
  rw [e, red_nought]
  exact put_nought _ hd

/-! ### Clamping -/
theorem clamp_clamp (bs : List UInt8) (h : bs.length = 16) : clampF (clampF bs) = clampF bs := by
  match bs, h with
  | [x0, x1, x2, x3, x4, x5, x6, x7, x8, x9, x10, x11, x12, x13, x14, x15], _ =>
    simp [clampF, cl1, cl2, UInt8.and_assoc]
theorem poly_clamp (key bs : List UInt8) (hk : key.length = 32) : polyF (clampF (key.take 16) ++ key.drop 16) bs = polyF key bs := by
  have hl : (clampF (key.take 16)).length = 16 := by rw [clampF_len, List.length_take, hk]; rfl
  unfold polyF kr0 kr1 ks0 ks1
  rw [List.take_left' hl, List.drop_left' hl, clamp_clamp _ (by rw [List.length_take, hk]; rfl)]

/-! ### The second half -/
theorem poly_number (key bs : List UInt8) (hk : key.length = 32) : ∃ P, P < 340282366920938463463374607431768211456 ∧ ∀ k2 : List UInt8, k2.length = 16 → leN (polyF (key.take 16 ++ k2) bs) = (P + leN k2) % 340282366920938463463374607431768211456 := by
  have ht : (key.take 16).length = 16 := by rw [List.length_take, hk]; rfl
  obtain ⟨p, hp⟩ : ∃ p, p = redF (finH (halfA (clampF (key.take 16))) (halfB (clampF (key.take 16))) (stH (halfA (clampF (key.take 16))) (halfB (clampF (key.take 16))) bs) (stR bs)) := ⟨_, rfl⟩
  have h1 := u64_lt p.1
  have h2 := u64_lt p.2
  refine ⟨p.1.toNat + 18446744073709551616 * p.2.toNat, by omega, fun k2 h2 => ?_⟩
  unfold polyF psumF kr0 kr1 ks0 ks1
  rw [List.take_left' ht, List.drop_left' ht, ← hp, leN_putS, halves k2 h2]
theorem poly_shift (key bs : List UInt8) (hk : key.length = 32) : leN (polyF key bs) = (leN (polyF (key.take 16 ++ List.replicate 16 0) bs) + leN (key.drop 16)) % 340282366920938463463374607431768211456 := by
  obtain ⟨P, hP, h⟩ := poly_number key bs hk
  have e := h (key.drop 16) (by rw [List.length_drop, hk])
  rw [List.take_append_drop] at e
  rw [e, h _ (by simp), show leN (List.replicate 16 0) = 0 by decide +kernel, Nat.add_zero, Nat.mod_eq_of_lt hP]

end Go.Proofs.Ytgolndfimhogoaa
