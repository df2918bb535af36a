/-
  What is told is read again (layer 15).
-/
import Derived.Test.YtbmmjkpibnnmeaaEnc2
namespace Go.Proofs.Ytbmmjkpibnnmeaa
open Go Go.RowKit
set_option linter.unusedSimpArgs false
set_option linter.unusedVariables false


theorem decV_put (x : Nat) (hx : x < 4294967296) : decV (putLittleF (UInt64.ofNat x) 4) = x := by
  unfold decV
  have hl : (putLittleF (UInt64.ofNat x) 4).take 8 = putLittleF (UInt64.ofNat x) 4 := List.take_of_length_le (by simp [putLittleF])
  rw [littleF_eq, hl, leN_putLittle, UInt64.toNat_ofNat', UInt64.toNat_ofNat']
  omega
theorem put_decV (c : List UInt8) (hc : c.length = 4) : putLittleF (UInt64.ofNat (decV c)) 4 = c := by
  apply leN_inj
  · simp [putLittleF, hc]
  · have h1 := leN_lt c
    rw [hc] at h1
    unfold decV
    rw [leN_putLittle, littleF_eq, List.take_of_length_le (by omega), UInt64.toNat_ofNat', UInt64.toNat_ofNat']
    omega
theorem decAt_add (p bs : List UInt8) (k : Nat) (hp : p.length = 8) : decAt (p ++ bs) (k + 1) = decAt bs k := by
  have h1 : (p ++ bs).drop (8 * (k + 1)) = bs.drop (8 * k) := by
    rw [List.drop_append, List.drop_of_length_le (by omega), List.nil_append, hp]
    congr 1
  have h2 : (p ++ bs).drop (8 * (k + 1) + 4) = bs.drop (8 * k + 4) := by
    rw [List.drop_append, List.drop_of_length_le (by omega), List.nil_append, hp]
    congr 1
  unfold decAt
  rw [h1, h2]
theorem decL_add (p bs : List UInt8) (n : Nat) (hp : p.length = 8) : decL (p ++ bs) (n + 1) = decAt p 0 :: decL bs n := by
  unfold decL
  rw [List.range_succ_eq_map, List.map_cons, List.map_map]
  congr 1
  · unfold decAt
    have h1 : ((p ++ bs).drop (8 * 0)).take 4 = (p.drop (8 * 0)).take 4 := by
      rw [Nat.mul_zero, List.drop_zero, List.drop_zero, List.take_append_of_le_length (by omega)]
    have h2 : ((p ++ bs).drop (8 * 0 + 4)).take 4 = (p.drop (8 * 0 + 4)).take 4 := by
      rw [Nat.mul_zero, Nat.zero_add, List.drop_append_of_le_length (by omega), List.take_append_of_le_length (by rw [List.length_drop]; omega)]
    rw [h1, h2]
  · apply List.map_congr_left
    intro k _
    exact decAt_add p bs k hp
theorem encI_cons2 (x y : Int) (l : List (Int × Int)) : encI (ints ((x, y) :: l)) = (putLittleF (UInt64.ofNat x.toNat) 4 ++ putLittleF (UInt64.ofNat y.toNat) 4) ++ encI (ints l) := by
  unfold ints encI
  rw [List.flatMap_cons, List.flatMap_append]
  simp
theorem dec_enc : ∀ (l : List (Int × Int)), (ints l).all okE = true → decL (encI (ints l)) l.length = l
  | [], _ => rfl
  | (x, y) :: l, h => by
    have h2 : okE x = true ∧ okE y = true ∧ (ints l).all okE = true := by
      unfold ints at h
      rw [List.flatMap_cons] at h
      simp only [List.all_append, List.all_cons, List.all_nil, Bool.and_true, Bool.and_eq_true] at h
      exact ⟨h.1.1, h.1.2, h.2⟩
    obtain ⟨hx, hy, ht⟩ := h2
    unfold okE at hx hy
    simp only [Bool.and_eq_true, decide_eq_true_eq] at hx hy
    rw [encI_cons2, List.length_cons, decL_add _ _ _ (by simp [putLittleF]), dec_enc l ht]
    congr 1
    unfold decAt
    have e1 : ((putLittleF (UInt64.ofNat x.toNat) 4 ++ putLittleF (UInt64.ofNat y.toNat) 4).drop (8 * 0)).take 4 = putLittleF (UInt64.ofNat x.toNat) 4 := by
      rw [Nat.mul_zero, List.drop_zero, List.take_append_of_le_length (by simp [putLittleF]), List.take_of_length_le (by simp [putLittleF])]
    have e2 : ((putLittleF (UInt64.ofNat x.toNat) 4 ++ putLittleF (UInt64.ofNat y.toNat) 4).drop (8 * 0 + 4)).take 4 = putLittleF (UInt64.ofNat y.toNat) 4 := by
      rw [Nat.mul_zero, Nat.zero_add, List.drop_append, List.drop_of_length_le (by simp [putLittleF]), List.nil_append]
      rw [show 4 - (putLittleF (UInt64.ofNat x.toNat) 4).length = 0 by simp [putLittleF], List.drop_zero, List.take_of_length_le (by simp [putLittleF])]
    rw [e1, e2, decV_put _ (by omega), decV_put _ (by omega)]
    rw [Int.toNat_of_nonneg hx.1, Int.toNat_of_nonneg hy.1]
theorem okE_nat (x : Nat) (h : x < 4294967296) : okE (x : Int) = true := by
  unfold okE
  simp only [Bool.and_eq_true, decide_eq_true_eq]
  omega
theorem enc_dec : ∀ (n : Nat) (bs : List UInt8), bs.length = 8 * n → encI (ints (decL bs n)) = bs ∧ (ints (decL bs n)).all okE = true
  | 0, bs, h => by
    have : bs = [] := List.length_eq_zero_iff.1 (by omega)
    subst this
    exact ⟨rfl, rfl⟩
  | n + 1, bs, h => by
    obtain ⟨p, hp⟩ : ∃ p, bs.take 8 = p := ⟨_, rfl⟩
    have hpl : p.length = 8 := by rw [← hp, List.length_take]; omega
    have hb : bs = p ++ bs.drop 8 := by rw [← hp, List.take_append_drop]
    obtain ⟨t, ht⟩ : ∃ t, bs.drop 8 = t := ⟨_, rfl⟩
    have htl : t.length = 8 * n := by rw [← ht, List.length_drop]; omega
    rw [ht] at hb
    subst hb
    obtain ⟨i1, i2⟩ := enc_dec n t htl
    rw [decL_add p t n hpl]
    have l1 : (p.take 4).length = 4 := by rw [List.length_take]; omega
    have l2 : ((p.drop 4).take 4).length = 4 := by rw [List.length_take, List.length_drop]; omega
    have l3 : (p.drop 4).take 4 = p.drop 4 := List.take_of_length_le (by rw [List.length_drop]; omega)
    have hd : decAt p 0 = ((decV (p.take 4) : Int), (decV ((p.drop 4).take 4) : Int)) := by
      unfold decAt
      rw [Nat.mul_zero, List.drop_zero, Nat.zero_add]
    rw [hd]
    constructor
    · rw [encI_cons2, i1, Int.toNat_natCast, Int.toNat_natCast, put_decV _ l1, put_decV _ l2, l3, List.take_append_drop]
    · have b1 := decV_lt (p.take 4) (by omega)
      have b2 := decV_lt ((p.drop 4).take 4) (by omega)
      unfold ints at i2 ⊢
      rw [List.flatMap_cons, List.all_append, i2]
      simp [okE_nat _ b1, okE_nat _ b2]
theorem encR_back (l : List (Int × Int)) (h : (encR l).2 = 0) : decR (encR l).1 = (l, 0) := by
  unfold encR at h ⊢
  by_cases h8 : 8 < l.length
  · rw [if_pos h8] at h; simp at h
  rw [if_neg h8] at h ⊢
  by_cases ha : (ints l).all okE = true
  · rw [if_pos ha]
    have hl : (encI (ints l)).length = 8 * l.length := by rw [encI_len, ints_len]; omega
    unfold decR
    simp only
    rw [hl, if_neg (by omega), if_neg (by omega), show 8 * l.length / 8 = l.length by omega, dec_enc l ha]
  · rw [if_neg ha] at h; simp at h
theorem decR_back (bs : List UInt8) (h : (decR bs).2 = 0) : encR (decR bs).1 = (bs, 0) := by
  unfold decR at h ⊢
  by_cases h8 : bs.length % 8 ≠ 0
  · rw [if_pos h8] at h; simp at h
  rw [if_neg h8] at h ⊢
  by_cases h9 : 8 < bs.length / 8
  · rw [if_pos h9] at h; simp at h
  rw [if_neg h9]
  obtain ⟨i1, i2⟩ := enc_dec (bs.length / 8) bs (by omega)
  simp only
  rw [encR_yes (by unfold decL; simp; omega) i2, i1]
theorem decR_len (bs : List UInt8) : (decR bs).1.length ≤ 8 := by
  unfold decR
  by_cases h8 : bs.length % 8 ≠ 0
  · rw [if_pos h8]; simp
  rw [if_neg h8]
  by_cases h9 : 8 < bs.length / 8
  · rw [if_pos h9]; simp
  rw [if_neg h9]
  unfold decL; simp; omega
theorem encR_len (l : List (Int × Int)) : (encR l).1.length ≤ 64 := by
  unfold encR
  by_cases h8 : 8 < l.length
  · rw [if_pos h8]; simp
  rw [if_neg h8]
  by_cases ha : (ints l).all okE = true
  · rw [if_pos ha]; simp only; rw [encI_len, ints_len]; omega
  · rw [if_neg ha]; simp
theorem decR_err (bs : List UInt8) : (decR bs).2 = 0 ∨ (decR bs).2 = 17 ∨ (decR bs).2 = 10 := by
  unfold decR
  split
  · simp
  · split <;> simp
theorem encR_err (l : List (Int × Int)) : (encR l).2 = 0 ∨ (encR l).2 = 1 ∨ (encR l).2 = 10 := by
  unfold encR
  split
  · simp
  · split <;> simp
end Go.Proofs.Ytbmmjkpibnnmeaa
