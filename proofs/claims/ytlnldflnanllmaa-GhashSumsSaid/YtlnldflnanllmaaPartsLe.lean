/-
  The sum of whole blocks and what follows, in plain Lean.
-/
import Derived.Test.YtlnldflnanllmaaGhash6
namespace Go.Proofs.Ytlnldflnanllmaa
open Go Go.RowKit
set_option linter.unusedSimpArgs false

/-- The state behind n blocks. -/
def stE (ka kb : UInt64) : Nat → UInt64 → UInt64 → List UInt8 → UInt64 × UInt64
  | 0, a, b, _ => (a, b)
  | n + 1, a, b, bs => stE ka kb n (mulA (a ^^^ hiF (pad16 (bs.take 16))) (b ^^^ loF (pad16 (bs.take 16))) ka kb) (mulBB (a ^^^ hiF (pad16 (bs.take 16))) (b ^^^ loF (pad16 (bs.take 16))) ka kb) (bs.drop 16)
theorem sumE_st (ka kb : UInt64) (n : Nat) : ∀ (a b : UInt64) (bs : List UInt8), sumE ka kb n a b bs = blockF (stE ka kb n a b bs).1 (stE ka kb n a b bs).2 := by
  induction n with
  | zero => intro a b bs; rfl
  | succ n ih => intro a b bs; rw [sumE, stE, ih]
theorem sumE_add (ka kb : UInt64) (q r : Nat) : ∀ (a b : UInt64) (xs ys : List UInt8), xs.length = 16 * q → sumE ka kb (q + r) a b (xs ++ ys) = sumE ka kb r (stE ka kb q a b xs).1 (stE ka kb q a b xs).2 ys := by
  induction q with
  | zero =>
    intro a b xs ys h
    obtain rfl : xs = [] := List.eq_nil_of_length_eq_zero (by omega)
    simp [stE]
  | succ q ih =>
    intro a b xs ys h
    rw [show q + 1 + r = (q + r) + 1 by omega, sumE, stE, List.take_append_of_le_length (by omega), List.drop_append_of_le_length (by omega), ih _ _ _ _ (by rw [List.length_drop]; omega)]
theorem val_inj (a b c d : UInt64) (h : val a b = val c d) : a = c ∧ b = d := by
  have h1 := u64_lt b
  have h2 := u64_lt d
  unfold val at h
  exact ⟨UInt64.toNat_inj.1 (by omega), UInt64.toNat_inj.1 (by omega)⟩
theorem hilo_xor (xs ys : List UInt8) (hx : xs.length = 16) (hy : ys.length = 16) : hiF (List.zipWith (· ^^^ ·) xs ys) = hiF xs ^^^ hiF ys ∧ loF (List.zipWith (· ^^^ ·) xs ys) = loF xs ^^^ loF ys := by
  have := NB_xor xs ys (by rw [hx, hy])
  rw [NB_split _ (zip_len xs ys hx hy), NB_split xs hx, NB_split ys hy, ← val_xor] at this
  exact val_inj _ _ _ _ this
theorem hilo_block (a b : UInt64) : hiF (blockF a b) = a ∧ loF (blockF a b) = b := by
  have := NB_block a b
  rw [NB_split _ (blockF_len a b)] at this
  exact val_inj _ _ _ _ this
theorem pad16_full (xs : List UInt8) (h : xs.length = 16) : pad16 xs = xs := by simp [pad16, h]
def partF (s ys : List UInt8) : List UInt8 := List.zipWith (· ^^^ ·) (pad16 (ys.take 16)) s ++ ys.drop 16
theorem sum_parts (hs xs ys : List UInt8) (q : Nat) (hx : xs.length = 16 * q) (hy : 0 < ys.length) : sumF hs (xs ++ ys) = sumF hs (partF (sumF hs xs) ys) := by
  have hp : (pad16 (ys.take 16)).length = 16 := pad16_len _ (by simp; omega)
  have hs1 : sumF hs xs = blockF (stE (hiF hs) (loF hs) q 0 0 xs).1 (stE (hiF hs) (loF hs) q 0 0 xs).2 := by
    unfold sumF; rw [show (xs.length + 15) / 16 = q by omega, sumE_st]
  obtain ⟨ya, yb, hst⟩ : ∃ ya yb, stE (hiF hs) (loF hs) q 0 0 xs = (ya, yb) := ⟨_, _, rfl⟩
  obtain ⟨r, hr⟩ : ∃ r, (ys.length + 15) / 16 = r + 1 := ⟨(ys.length + 15) / 16 - 1, by omega⟩
  have hsl : (sumF hs xs).length = 16 := sumE_len _ _ _ _ _ _
  rw [hst] at hs1
  have hz : (List.zipWith (· ^^^ ·) (pad16 (ys.take 16)) (sumF hs xs)).length = 16 := zip_len _ _ hp hsl
  have hl : (partF (sumF hs xs) ys).length = 16 + (ys.length - 16) := by unfold partF; rw [List.length_append, hz, List.length_drop]
  have e1 : sumF hs (xs ++ ys) = sumE (hiF hs) (loF hs) (r + 1) ya yb ys := by
    unfold sumF
    rw [List.length_append, show (xs.length + ys.length + 15) / 16 = q + (r + 1) by omega, sumE_add _ _ _ _ _ _ _ _ hx, hst]
  have e2 : sumF hs (partF (sumF hs xs) ys) = sumE (hiF hs) (loF hs) (r + 1) 0 0 (partF (sumF hs xs) ys) := by
    show sumE (hiF hs) (loF hs) (((partF (sumF hs xs) ys).length + 15) / 16) 0 0 (partF (sumF hs xs) ys) = _
    rw [hl, show (16 + (ys.length - 16) + 15) / 16 = r + 1 by omega]
  have et : (partF (sumF hs xs) ys).take 16 = List.zipWith (· ^^^ ·) (pad16 (ys.take 16)) (sumF hs xs) := by
    unfold partF; rw [List.take_append_of_le_length (by rw [hz]; omega), List.take_of_length_le (by rw [hz]; omega)]
  have ed : (partF (sumF hs xs) ys).drop 16 = ys.drop 16 := by
    unfold partF; rw [List.drop_append_of_le_length (by rw [hz]; omega), List.drop_of_length_le (by rw [hz]; omega), List.nil_append]
  obtain ⟨hh, hlo⟩ := hilo_xor _ _ hp hsl
  have hb := hilo_block ya yb
  simp only at hs1
  rw [e1, e2, sumE, sumE, et, ed, pad16_full _ hz, hh, hlo]
  simp only [UInt64.zero_xor]
  rw [hs1, hb.1, hb.2, UInt64.xor_comm ya, UInt64.xor_comm yb]

/-- c, with i bytes of s put to it. -/
def mixP (xs ys : List UInt8) (k : Nat) : List UInt8 := (List.zipWith (· ^^^ ·) (xs.take k) (ys.take k)) ++ xs.drop k
theorem mixP_len (xs ys : List UInt8) (k : Nat) (hx : 16 ≤ xs.length) (hy : ys.length = 16) (hk : k ≤ 16) : (mixP xs ys k).length = xs.length := by simp [mixP, hy]; omega
theorem mixP_at (xs ys : List UInt8) (k : Nat) (hx : 16 ≤ xs.length) (hy : ys.length = 16) (hk : k < 16) : (mixP xs ys k)[k]? = xs[k]? := by
  unfold mixP
  have hl : (List.zipWith (· ^^^ ·) (xs.take k) (ys.take k)).length = k := by simp [hy]; omega
  rw [List.getElem?_append_right (by omega), hl, Nat.sub_self, List.getElem?_drop, Nat.add_zero]
theorem mixP_step (xs ys : List UInt8) (k : Nat) (hx : 16 ≤ xs.length) (hy : ys.length = 16) (hk : k < 16) : (mixP xs ys k).set k (xs.getD k 0 ^^^ ys.getD k 0) = mixP xs ys (k + 1) := by
  have hl : (List.zipWith (· ^^^ ·) (xs.take k) (ys.take k)).length = k := by simp [hy]; omega
  have hl2 : (List.zipWith (· ^^^ ·) (xs.take (k + 1)) (ys.take (k + 1))).length = k + 1 := by simp [hy]; omega
  have e1 : xs.getD k 0 = xs[k]'(by omega) := by simp [List.getD, show k < xs.length by omega]
  have e2 : ys.getD k 0 = ys[k]'(by omega) := by simp [List.getD, show k < ys.length by omega]
  apply List.ext_getElem?
  intro i
  rw [e1, e2, List.getElem?_set, mixP_len xs ys k hx hy (by omega)]
  unfold mixP
  by_cases hi : k = i
  · subst hi
    rw [if_pos rfl, if_pos (by omega), List.getElem?_append_left (by omega)]
    simp [List.getElem?_zipWith, List.getElem?_take, show k < xs.length by omega, show k < ys.length by omega]
  · rw [if_neg hi]
    by_cases hlt : i < k
    · rw [List.getElem?_append_left (by omega), List.getElem?_append_left (by omega)]
      simp [List.getElem?_zipWith, List.getElem?_take, hlt, show i < k + 1 by omega]
    · rw [List.getElem?_append_right (by omega), List.getElem?_append_right (by omega), hl, hl2, List.getElem?_drop, List.getElem?_drop]
      congr 1; omega
theorem mixP_zero (xs ys : List UInt8) : mixP xs ys 0 = xs := by simp [mixP]
theorem mixP_part (ys s : List UInt8) (j : Nat) (hs : s.length = 16) (h1 : 16 ≤ ys.length + j) (h2 : j = 0 ∨ ys.length + j ≤ 16) : mixP (ys ++ List.replicate j 0) s 16 = partF s ys := by
  unfold mixP partF
  rw [List.take_of_length_le (show s.length ≤ 16 by omega)]
  have e1 : (ys ++ List.replicate j (0 : UInt8)).take 16 = pad16 (ys.take 16) := by
    unfold pad16
    rcases h2 with rfl | h2
    · simp [List.take_of_length_le, show 16 - min 16 ys.length = 0 by omega]
    · rw [List.take_of_length_le (by simp; omega), List.take_of_length_le (by omega), show 16 - ys.length = j by omega]
  have e2 : (ys ++ List.replicate j (0 : UInt8)).drop 16 = ys.drop 16 := by
    rcases h2 with rfl | h2
    · simp
    · rw [List.drop_of_length_le (by simp; omega), List.drop_of_length_le (by omega)]
  rw [e1, e2]

end Go.Proofs.Ytlnldflnanllmaa
