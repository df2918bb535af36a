/-
  Counting, in plain Lean: both ways of it are the sum modulo 2^128.
-/
import Derived.Test.YtbajolgfejcecaaRefCount
import Derived.Test.YtbajolgfejcecaaLe
namespace Go.Proofs.Ytbajolgfejcecaa
open Go Go.RowKit

theorem leN_countF (bs : List UInt8) (hb : bs.length = 16) (n : UInt64) : leN (countF bs n).reverse = (leN bs.reverse + n.toNat) % 340282366920938463463374607431768211456 := by
  have e : leN bs.reverse = leN (bs.drop 8).reverse + 256 ^ 8 * leN (bs.take 8).reverse := by
    have := leN_append (bs.drop 8).reverse (bs.take 8).reverse
    rw [← List.reverse_append, List.take_append_drop] at this
    rw [this]; simp [hb]
  have hL := leN_lt (bs.drop 8).reverse
  have hH := leN_lt (bs.take 8).reverse
  have hn := u64_lt n
  simp only [List.length_reverse, List.length_drop, List.length_take, hb] at hL hH
  have hl : (lowF bs n).toNat = (leN (bs.drop 8).reverse + n.toNat) % 18446744073709551616 := by
    unfold lowF; rw [bigF_eq, UInt64.toNat_add, UInt64.toNat_ofNat']; omega
  have hh : (highF bs n).toNat = (leN (bs.take 8).reverse + (leN (bs.drop 8).reverse + n.toNat) / 18446744073709551616) % 18446744073709551616 := by
    unfold highF; rw [bigF_eq, bigF_eq, UInt64.toNat_add, UInt64.toNat_ofNat', UInt64.toNat_ofNat', UInt64.toNat_ofNat']; omega
  unfold countF
  rw [List.reverse_append, putBigF_reverse, putBigF_reverse, leN_append, leN_putLittle, leN_putLittle, hl, hh, e]
  simp only [putLittleF, List.length_map, List.length_range]
  omega

theorem countF_len (bs : List UInt8) (n : UInt64) : (countF bs n).length = 16 := by unfold countF; simp [putBigF_len']

theorem refCnt_le (add : List UInt8) : ∀ (k : Nat) (cs : List UInt8) (y : Nat), k ≤ cs.length → k ≤ add.length →
    ∃ (X : List UInt8) (c : Nat), refCnt add k cs y = X ++ cs.drop k ∧ X.length = k ∧ leN X.reverse + 256 ^ k * c = leN (cs.take k).reverse + leN (add.take k).reverse + y
  | 0, cs, y, _, _ => ⟨[], y, by simp [refCnt], rfl, by simp [leN]⟩
  | k + 1, cs, y, hc, ha => by
    obtain ⟨s, hs⟩ : ∃ s, (cs.getD k 0).toNat + (add.getD k 0).toNat + y = s := ⟨_, rfl⟩
    obtain ⟨X, c, h1, h2, h3⟩ := refCnt_le add k (cs.set k (UInt8.ofNat s)) (s / 256) (by rw [List.length_set]; omega) (by omega)
    refine ⟨X ++ [UInt8.ofNat s], c, ?_, by simp [h2], ?_⟩
    · rw [refCnt, hs, h1]
      have e : (cs.set k (UInt8.ofNat s)).drop k = UInt8.ofNat s :: cs.drop (k + 1) := by
        rw [List.drop_set, if_neg (by omega), Nat.sub_self, List.drop_eq_getElem_cons (show k < cs.length by omega), List.set_cons_zero]
      rw [e]; simp
    · have g1 : cs.take (k + 1) = cs.take k ++ [cs.getD k 0] := by
        rw [List.take_succ_eq_append_getElem (by omega)]; simp [List.getD, show k < cs.length by omega]
      have g2 : add.take (k + 1) = add.take k ++ [add.getD k 0] := by
        rw [List.take_succ_eq_append_getElem (by omega)]; simp [List.getD, show k < add.length by omega]
      rw [g1, g2, List.reverse_append, List.reverse_append, List.reverse_append]
      simp only [List.reverse_cons, List.reverse_nil, List.nil_append, List.singleton_append, leN]
      rw [List.take_set_of_le (Nat.le_refl k)] at h3
      rw [UInt8.toNat_ofNat']
      have : 256 ^ (k + 1) * c = 256 * (256 ^ k * c) := by rw [Nat.pow_succ, Nat.mul_comm (256 ^ k) 256, Nat.mul_assoc]
      rw [this]
      generalize 256 ^ k * c = z at *
      omega

theorem refCnt_eq (bs : List UInt8) (hb : bs.length = 16) (n : UInt64) : refCnt (putBigF n 16) 16 bs 0 = countF bs n := by
  obtain ⟨X, c, h1, h2, h3⟩ := refCnt_le (putBigF n 16) 16 bs 0 (by omega) (by rw [putBigF_len']; omega)
  rw [List.drop_of_length_le (by omega), List.append_nil] at h1
  rw [List.take_of_length_le (by omega), List.take_of_length_le (by rw [putBigF_len']; omega), putBigF_reverse, leN_putLittle] at h3
  rw [h1]
  have hn := u64_lt n
  have hX := leN_lt X.reverse
  rw [List.length_reverse, h2] at hX
  have := leN_countF bs hb n
  have e : X.reverse = (countF bs n).reverse := leN_inj _ _ (by simp [h2, countF_len]) (by rw [this]; omega)
  rw [← List.reverse_reverse X, e, List.reverse_reverse]

theorem countF_add (bs : List UInt8) (hb : bs.length = 16) (n m : UInt64) (h : n.toNat + m.toNat < 18446744073709551616) : countF (countF bs n) m = countF bs (n + m) := by
  have h1 := leN_countF bs hb n
  have h2 := leN_countF (countF bs n) (countF_len _ _) m
  have h3 := leN_countF bs hb (n + m)
  rw [UInt64.toNat_add] at h3
  have e := leN_inj (countF (countF bs n) m).reverse (countF bs (n + m)).reverse (by simp [countF_len]) (by rw [h2, h3, h1]; omega)
  simpa using congrArg List.reverse e

theorem countF_zero (bs : List UInt8) (hb : bs.length = 16) : countF bs 0 = bs := by
  have h1 := leN_countF bs hb 0
  have hX := leN_lt bs.reverse
  rw [List.length_reverse, hb] at hX
  have e := leN_inj (countF bs 0).reverse bs.reverse (by simp [countF_len, hb]) (by rw [h1]; simp; omega)
  simpa using congrArg List.reverse e

theorem countF_inj (bs : List UInt8) (hb : bs.length = 16) (n m : UInt64) : countF bs n = countF bs m ↔ n = m := by
  constructor
  · intro h
    have h1 := leN_countF bs hb n
    have h2 := leN_countF bs hb m
    have hX := leN_lt bs.reverse
    rw [List.length_reverse, hb] at hX
    have hn := u64_lt n
    have hm := u64_lt m
    rw [h, h2] at h1
    exact UInt64.toNat_inj.mp (by omega)
  · rintro rfl; rfl

end Go.Proofs.Ytbajolgfejcecaa
