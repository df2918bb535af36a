/-
  The reference's numbers of bytes. Plain Lean, no program.
-/
import Derived.Test.YtilgkadochhkjaaPolyV
namespace Go.Proofs.Ytilgkadochhkjaa
open Go Go.RowKit
set_option linter.unusedSimpArgs false
set_option linter.unusedVariables false

def lowA (n : List Nat) : Nat → List Nat
  | 0 => List.replicate 40 0
  | i + 1 => if i < 16 then (lowA n i).set i (n.getD i 0) else if i = 16 then (lowA n i).set i (n.getD i 0 % 4) else lowA n i
theorem lowA_len (n : List Nat) (i : Nat) : (lowA n i).length = 40 := by
  induction i with
  | zero => simp [lowA]
  | succ i ih => rw [lowA]; split <;> (try split) <;> simp [ih]
theorem lowA_zero (n : List Nat) : ∀ i j, i ≤ j → (lowA n i).getD j 0 = 0
  | 0, j, _ => by rw [lowA, List.getD_eq_getElem?_getD, List.getElem?_replicate]; split <;> rfl
  | i + 1, j, h => by
    have ih := lowA_zero n i j (by omega)
    rw [List.getD_eq_getElem?_getD] at ih ⊢
    rw [lowA]
    split
    · rw [List.getElem?_set_ne (by omega)]; exact ih
    · split
      · rw [List.getElem?_set_ne (by omega)]; exact ih
      · exact ih
theorem set_v (xs : List Nat) (j d : Nat) (h : j < xs.length) (h0 : xs.getD j 0 = 0) : numV (xs.set j d) = numV xs + d * 256 ^ j := by
  have := numV_set xs j d h
  rw [h0, Nat.zero_add] at this
  exact this
theorem lowA_v (n : List Nat) (hn : n.length = 40) : ∀ i, i ≤ 40 → numV (lowA n i) = numV (n.take (min i 16)) + (if 16 < i then 256 ^ 16 * (n.getD 16 0 % 4) else 0)
  | 0, _ => by simp [lowA, numV_zero, numV]
  | i + 1, h => by
    have ih := lowA_v n hn i (by omega)
    have hl := lowA_len n i
    have hz := lowA_zero n i i (Nat.le_refl _)
    rw [lowA]
    by_cases h1 : i < 16
    · rw [if_pos h1, set_v _ _ _ (by omega) hz, ih, Nat.min_eq_left (by omega), Nat.min_eq_left (by omega), numV_take n i (by omega), if_neg (by omega), if_neg (by omega), Nat.mul_comm]
      omega
    · rw [if_neg h1]
      by_cases h2 : i = 16
      · subst h2
        rw [if_pos rfl, set_v _ _ _ (by omega) hz, ih, if_neg (by omega), if_pos (by omega)]
        rw [Nat.mul_comm]
        rfl
      · rw [if_neg h2, ih, Nat.min_eq_right (by omega), Nat.min_eq_right (by omega), if_pos (by omega), if_pos (by omega)]
def hiA (n : List Nat) : Nat → List Nat
  | 0 => List.replicate 40 0
  | k + 1 => let q := (hiA n k).set k ((hiA n k).getD k 0 + n.getD (16 + k) 0 / 4); if 0 < k then q.set (k - 1) (q.getD (k - 1) 0 + n.getD (16 + k) 0 % 4 * 64) else q
theorem hiA_len (n : List Nat) (i : Nat) : (hiA n i).length = 40 := by
  induction i with
  | zero => simp [hiA]
  | succ i ih => rw [hiA]; split <;> simp [ih]
theorem hiA_bd (n : List Nat) (hb : ∀ j, n.getD j 0 ≤ 255) : ∀ k, k ≤ 24 → (∀ j, k ≤ j → (hiA n k).getD j 0 = 0) ∧ (∀ j, (hiA n k).getD j 0 ≤ 255) ∧ (0 < k → (hiA n k).getD (k - 1) 0 ≤ 63)
  | 0, _ => by
    have e : ∀ j, (hiA n 0).getD j 0 = 0 := fun j => by rw [hiA, List.getD_eq_getElem?_getD, List.getElem?_replicate]; split <;> rfl
    exact ⟨fun j _ => e j, fun j => by rw [e]; omega, fun h => by omega⟩
  | k + 1, h => by
    obtain ⟨h1, h2, h3⟩ := hiA_bd n hb k (by omega)
    have hl := hiA_len n k
    have hx := hb (16 + k)
    have hz := h1 k (Nat.le_refl _)
    have key : ∀ j, (hiA n (k + 1)).getD j 0 = if j = k then n.getD (16 + k) 0 / 4 else if j + 1 = k then (hiA n k).getD j 0 + n.getD (16 + k) 0 % 4 * 64 else (hiA n k).getD j 0 := fun j => by
      rw [hiA]
      simp only [List.getD_eq_getElem?_getD] at hz ⊢
      split
      · by_cases hj : j = k
        · subst hj; rw [if_pos rfl, List.getElem?_set_ne (by omega), List.getElem?_set_self (by omega), hz]; simp
        · rw [if_neg hj]
          by_cases hj2 : j + 1 = k
          · rw [if_pos hj2, show k - 1 = j by omega, List.getElem?_set_self (by simp; omega), List.getElem?_set_ne (by omega)]; rfl
          · rw [if_neg hj2, List.getElem?_set_ne (by omega), List.getElem?_set_ne (by omega)]
      · have : k = 0 := by omega
        subst this
        by_cases hj : j = 0
        · subst hj; rw [if_pos rfl, List.getElem?_set_self (by omega), hz]; simp
        · rw [if_neg hj, if_neg (by omega), List.getElem?_set_ne (by omega)]
    refine ⟨fun j hj => ?_, fun j => ?_, fun _ => ?_⟩
    · rw [key, if_neg (by omega), if_neg (by omega)]; exact h1 j (by omega)
    · rw [key]
      split
      · omega
      · split
        · rename_i hh
          have := h3 (by omega)
          rw [show k - 1 = j by omega] at this
          omega
        · exact h2 j
    · rw [key, if_pos (by omega)]; omega
theorem hiA_v (n : List Nat) (hn : n.length = 40) (hb : ∀ j, n.getD j 0 ≤ 255) : ∀ k, k ≤ 24 → 4 * numV (hiA n k) + (if 0 < k then n.getD 16 0 % 4 else 0) = numV ((n.drop 16).take k)
  | 0, _ => by simp [hiA, numV_zero, numV]
  | k + 1, h => by
    have ih := hiA_v n hn hb k (by omega)
    obtain ⟨h1, _, _⟩ := hiA_bd n hb k (by omega)
    have hl := hiA_len n k
    have hd : (n.drop 16).getD k 0 = n.getD (16 + k) 0 := by rw [List.getD_eq_getElem?_getD, List.getD_eq_getElem?_getD, List.getElem?_drop]
    rw [numV_take _ k (by rw [List.length_drop]; omega), ← ih, hd, if_pos (show 0 < k + 1 by omega), hiA]
    by_cases hk : 0 < k
    · rw [if_pos hk, if_pos hk, numV_set _ _ _ (by simp; omega), numV_set _ _ _ (by omega)]
      obtain ⟨m, rfl⟩ : ∃ m, k = m + 1 := ⟨k - 1, by omega⟩
      rw [show m + 1 - 1 = m by omega, Nat.pow_succ]
      generalize n.getD (16 + (m + 1)) 0 = x
      have e : 4 * (x % 4 * 64 * 256 ^ m) = x % 4 * (256 ^ m * 256) := by
        rw [Nat.mul_assoc (x % 4), ← Nat.mul_assoc 4, Nat.mul_comm 4, Nat.mul_assoc (x % 4), ← Nat.mul_assoc 4, Nat.mul_comm (256 ^ m)]
      have e2 : 4 * (x / 4 * (256 ^ m * 256)) + x % 4 * (256 ^ m * 256) = 256 ^ m * 256 * x := by
        rw [← Nat.mul_assoc, ← Nat.add_mul, Nat.div_add_mod, Nat.mul_comm]
      omega
    · have : k = 0 := by omega
      subst this
      rw [if_neg (by omega), if_neg (by omega), numV_set _ _ _ (by omega), Nat.add_zero]
      simp only [Nat.pow_zero, Nat.mul_one, Nat.one_mul]
      generalize n.getD 16 0 = x
      omega
def sumA (a b : List Nat) : Nat → List Nat
  | 0 => a
  | i + 1 => (sumA a b i).set i ((sumA a b i).getD i 0 + 5 * b.getD i 0)
theorem sumA_len (a b : List Nat) (i : Nat) : (sumA a b i).length = a.length := by
  induction i with
  | zero => rfl
  | succ i ih => simp [sumA, ih]
theorem sumA_v (a b : List Nat) (ha : a.length = 40) (hb : b.length = 40) : ∀ i, i ≤ 40 → numV (sumA a b i) = numV a + 5 * numV (b.take i)
  | 0, _ => by simp [sumA, numV]
  | i + 1, h => by
    rw [sumA, numV_set _ _ _ (by rw [sumA_len]; omega), sumA_v a b ha hb i (by omega), numV_take b i (by omega), Nat.mul_add, Nat.mul_assoc, Nat.mul_comm (b.getD i 0)]
    omega
theorem sumA_at (a b : List Nat) : ∀ i j, i ≤ j → (sumA a b i).getD j 0 = a.getD j 0
  | 0, _, _ => rfl
  | i + 1, j, h => by
    have ih := sumA_at a b i j (by omega)
    rw [List.getD_eq_getElem?_getD] at ih ⊢
    rw [sumA, List.getElem?_set_ne (by omega)]
    exact ih
theorem digL_bd (k v j : Nat) : (digL k v).getD j 0 ≤ 255 := by
  rcases Nat.lt_or_ge j k with h | h
  · rw [digL_at k v j h]; omega
  · rw [List.getD_eq_getElem?_getD, List.getElem?_eq_none (by rw [digL_len]; exact h)]; simp
theorem take_v : ∀ (k : Nat) (v i : Nat), i ≤ k → numV ((digL k v).take i) = v % 256 ^ i
  | _, v, 0, _ => by simp [numV, Nat.mod_one]
  | 0, _, i + 1, h => by omega
  | k + 1, v, i + 1, h => by
    rw [digL, List.take_succ_cons, numV, take_v k _ i (by omega), Nat.pow_succ, Nat.mul_comm (256 ^ i), Nat.mod_mul]
theorem drop_v : ∀ (k : Nat) (v i : Nat), i ≤ k → (digL k v).drop i = digL (k - i) (v / 256 ^ i)
  | _, v, 0, _ => by simp
  | 0, _, i + 1, h => by omega
  | k + 1, v, i + 1, h => by
    rw [digL, List.drop_succ_cons, drop_v k _ i (by omega), Nat.div_div_eq_div_mul, Nat.pow_succ, Nat.mul_comm (256 ^ i)]
    congr 1
    omega
/-- Folded. -/
theorem folded_v (v : Nat) (hv : v < 256 ^ 40) : (carA (sumA (lowA (digL 40 v) 40) (hiA (digL 40 v) 24) 40) 40).1 = digL 40 (foldN v) := by
  have hl := digL_len 40 v
  rw [carA_all _ 40 (by rw [sumA_len, lowA_len]), sumA_v _ _ (lowA_len _ _) (hiA_len _ _) 40 (by omega), List.take_of_length_le (by rw [hiA_len]; omega), lowA_v _ hl 40 (by omega)]
  have h2 := hiA_v _ hl (digL_bd 40 v) 24 (by omega)
  rw [if_pos (by omega), drop_v 40 v 16 (by omega), List.take_of_length_le (by rw [digL_len]; omega), numV_digL _ _ (by
    rw [Nat.div_lt_iff_lt_mul (Nat.pow_pos (by omega)), ← Nat.pow_add]; exact hv)] at h2
  rw [take_v 40 v _ (by omega), if_pos (by omega), digL_at 40 v 16 (by omega)]
  rw [digL_at 40 v 16 (by omega)] at h2
  refine congrArg (digL 40) ?_
  unfold foldN
  have e16 : (256 : Nat) ^ 16 = 340282366920938463463374607431768211456 := by decide
  rw [show min 40 16 = 16 from rfl]
  rw [e16] at h2 ⊢
  clear hv hl e16
  generalize numV (hiA (digL 40 v) 24) = w at *
  omega
theorem fold_lt (v : Nat) (h : v < 1361129467683753853853498429727072845824 * 1361129467683753853853498429727072845824) : foldN v < 6 * 1361129467683753853853498429727072845824 := by
  unfold foldN
  have : v / 1361129467683753853853498429727072845824 < 1361129467683753853853498429727072845824 := (Nat.div_lt_iff_lt_mul (by omega)).2 h
  omega
theorem fold_six (v : Nat) (h : v < 1361129467683753853853498429727072845824 * 1361129467683753853853498429727072845824) : foldN (foldN (foldN (foldN (foldN (foldN v))))) < 1361129467683753853853498429727072845824 ∧ foldN (foldN (foldN (foldN (foldN (foldN v))))) % pP = v % pP := by
  refine ⟨?_, by simp only [fold_mod]⟩
  have h1 := fold_lt v h
  generalize foldN v = a at *
  have h2 : foldN a < 1361129467683753853853498429727072845824 + 26 := by unfold foldN; omega
  generalize foldN a = b at *
  have h3 : foldN b < 1361129467683753853853498429727072845824 := by unfold foldN; omega
  generalize foldN b = c at *
  have st : ∀ x, x < 1361129467683753853853498429727072845824 → foldN x = x := fun x hx => by unfold foldN; omega
  rw [st c h3, st c h3, st c h3]
  exact h3
theorem foldN_le (x : Nat) : foldN x ≤ x := by unfold foldN; omega
def foldI : Nat → Nat → Nat
  | 0, v => v
  | k + 1, v => foldN (foldI k v)
theorem foldI_le (v : Nat) : ∀ k, foldI k v ≤ v
  | 0 => Nat.le_refl _
  | k + 1 => Nat.le_trans (foldN_le _) (foldI_le v k)
theorem foldI_six (v : Nat) (h : v < 1361129467683753853853498429727072845824 * 1361129467683753853853498429727072845824) : foldI 6 v < 1361129467683753853853498429727072845824 ∧ foldI 6 v % pP = v % pP := fold_six v h
/-- Are k bytes of w 255? -/
def allB (w : Nat) : Nat → Bool
  | 0 => true
  | k + 1 => allB w k && decide (w / 256 ^ k % 256 = 255)
theorem allB_iff (w : Nat) : ∀ k, allB w k = true ↔ w % 256 ^ k + 1 = 256 ^ k
  | 0 => by simp [allB, Nat.mod_one]
  | k + 1 => by
    have ih := allB_iff w k
    have hl : w % 256 ^ k < 256 ^ k := Nat.mod_lt _ (Nat.pow_pos (by omega))
    rw [allB, Bool.and_eq_true, ih, decide_eq_true_iff, Nat.pow_succ, Nat.mod_mul]
    generalize w % 256 ^ k = a at *
    have hx : w / 256 ^ k % 256 < 256 := Nat.mod_lt _ (by omega)
    generalize w / 256 ^ k % 256 = x at *
    generalize 256 ^ k = q at *
    constructor
    · rintro ⟨h1, h2⟩
      subst h2
      omega
    · intro h
      have hx2 : x = 255 := by
        rcases Nat.lt_or_ge x 255 with hl2 | hl2
        · exfalso
          have : q * x ≤ q * 254 := Nat.mul_le_mul_left _ (by omega)
          omega
        · omega
      subst hx2
      exact ⟨by omega, rfl⟩
def mostB (v : Nat) (i : Nat) : Bool := (decide (v / 256 ^ 16 % 256 = 3) && decide (251 ≤ v % 256)) && allB (v / 256) i
theorem most_v (v : Nat) (h : v < 1361129467683753853853498429727072845824) : mostB v 15 = true ↔ pP ≤ v := by
  unfold mostB pP
  rw [Bool.and_eq_true, Bool.and_eq_true, decide_eq_true_iff, decide_eq_true_iff, allB_iff]
  rw [show (256 : Nat) ^ 16 = 340282366920938463463374607431768211456 by decide, show (256 : Nat) ^ 15 = 1329227995784915872903807060280344576 by decide]
  omega
theorem digL_zero : ∀ k, digL k 0 = List.replicate k 0
  | 0 => rfl
  | k + 1 => by rw [digL, digL_zero k, List.replicate_succ]
theorem most_digits (v : Nat) (h : v < 1361129467683753853853498429727072845824) (hp : pP ≤ v) : digL 40 (v % pP) = (v % 256 - 251) :: List.replicate 39 0 := by
  have e : v % pP = v - pP := by
    rw [Nat.mod_eq_sub_mod hp, Nat.mod_eq_of_lt]
    unfold pP at *; omega
  rw [e, digL, show (v - pP) / 256 = 0 by unfold pP at *; omega, digL_zero]
  have : (v - pP) % 256 = v % 256 - 251 := by unfold pP at *; omega
  rw [this]
theorem less_digits (v : Nat) (hp : ¬ pP ≤ v) : digL 40 (v % pP) = digL 40 v := by rw [Nat.mod_eq_of_lt (by omega)]

/-! ### A block put to the number -/
def addB (h : List Nat) (bs : List UInt8) : Nat → List Nat
  | 0 => h
  | i + 1 => (addB h bs i).set i ((addB h bs i).getD i 0 + (bs.getD i 0).toNat)
theorem addB_len (h : List Nat) (bs : List UInt8) (i : Nat) : (addB h bs i).length = h.length := by
  induction i with
  | zero => rfl
  | succ i ih => simp [addB, ih]
theorem set_getD (p : List Nat) (i x j : Nat) (hi : i < p.length) : (p.set i x).getD j 0 = if j = i then x else p.getD j 0 := by
  rw [List.getD_eq_getElem?_getD, List.getD_eq_getElem?_getD]
  split
  · next h => subst h; rw [List.getElem?_set_self hi]; rfl
  · next h => rw [List.getElem?_set_ne (by omega)]
theorem addB_bd (h : List Nat) (hb : ∀ j, h.getD j 0 ≤ 255) (bs : List UInt8) : ∀ i, i ≤ h.length → (∀ j, (addB h bs i).getD j 0 ≤ 510) ∧ (∀ j, i ≤ j → (addB h bs i).getD j 0 ≤ 255)
  | 0, _ => ⟨fun j => by have := hb j; rw [addB]; omega, fun j _ => hb j⟩
  | i + 1, hi => by
    obtain ⟨h1, h2⟩ := addB_bd h hb bs i (by omega)
    have hx := (bs.getD i 0).toNat_lt
    have hl := addB_len h bs i
    refine ⟨fun j => ?_, fun j hj => ?_⟩
    · rw [addB, set_getD _ _ _ _ (by omega)]
      split
      · have := h2 i (Nat.le_refl _)
        have : (bs.getD i 0).toNat < 256 := hx
        omega
      · exact h1 j
    · rw [addB, set_getD _ _ _ _ (by omega), if_neg (by omega)]
      exact h2 j (by omega)
theorem addB_v (h : List Nat) (bs : List UInt8) : ∀ i, i ≤ bs.length → i ≤ h.length → numV (addB h bs i) = numV h + leN (bs.take i)
  | 0, _, _ => by simp [addB, leN]
  | i + 1, h1, h2 => by
    rw [addB, numV_set _ _ _ (by rw [addB_len]; omega), addB_v h bs i (by omega) (by omega), leN_take bs i (by omega), List.getD_eq_getElem?_getD, List.getElem?_eq_getElem (by omega), Nat.mul_comm (256 ^ i)]
    simp only [Option.getD_some]
    omega
def endB (h : List Nat) (bs : List UInt8) (n : Nat) : List Nat := (addB h bs n).set n ((addB h bs n).getD n 0 + 1)
theorem endB_len (h : List Nat) (bs : List UInt8) (i : Nat) : (endB h bs i).length = h.length := by unfold endB; rw [List.length_set, addB_len]
theorem endB_bd (h : List Nat) (hb : ∀ j, h.getD j 0 ≤ 255) (bs : List UInt8) (n : Nat) (hn : n < h.length) (j : Nat) : (endB h bs n).getD j 0 ≤ 511 := by
  obtain ⟨h1, h2⟩ := addB_bd h hb bs n (by omega)
  have hl := addB_len h bs n
  rw [endB, set_getD _ _ _ _ (by omega)]
  split
  · have := h1 n; omega
  · have := h1 j; omega
theorem endB_v (h : List Nat) (bs : List UInt8) (hn : bs.length < h.length) : numV (endB h bs bs.length) = numV h + blkN bs := by
  rw [endB, numV_set _ _ _ (by rw [addB_len]; omega), addB_v h bs _ (Nat.le_refl _) (by omega), List.take_length, Nat.one_mul]
  unfold blkN
  omega
theorem addB_drop (h : List Nat) (bs : List UInt8) (m : Nat) : ∀ i, i ≤ m → (addB h bs i).drop m = h.drop m
  | 0, _ => rfl
  | i + 1, hi => by rw [addB, List.drop_set_of_lt (by omega), addB_drop h bs m i (by omega)]
theorem endB_drop (h : List Nat) (bs : List UInt8) (m n : Nat) (hn : n < m) : (endB h bs n).drop m = h.drop m := by
  rw [endB, List.drop_set_of_lt hn, addB_drop _ _ _ _ (by omega)]

/-! ### Times r -/
def rowP (h : List Nat) (r : List UInt8) (i : Nat) (p : List Nat) : Nat → List Nat
  | 0 => p
  | k + 1 => (rowP h r i p k).set (i + k) ((rowP h r i p k).getD (i + k) 0 + h.getD i 0 * (r.getD k 0).toNat)
theorem rowP_len (h : List Nat) (r : List UInt8) (i : Nat) (p : List Nat) (k : Nat) : (rowP h r i p k).length = p.length := by
  induction k with
  | zero => rfl
  | succ i ih => simp [rowP, ih]
theorem rowP_v (h : List Nat) (r : List UInt8) (i : Nat) (p : List Nat) : ∀ k, k ≤ r.length → i + k ≤ p.length → numV (rowP h r i p k) = numV p + 256 ^ i * h.getD i 0 * leN (r.take k)
  | 0, _, _ => by simp [rowP, leN]
  | k + 1, h1, h2 => by
    rw [rowP, numV_set _ _ _ (by rw [rowP_len]; omega), rowP_v h r i p k (by omega) (by omega), leN_take r k (by omega), List.getD_eq_getElem?_getD (l := r), List.getElem?_eq_getElem (by omega)]
    simp only [Option.getD_some]
    rw [Nat.mul_add, Nat.pow_add]
    generalize h.getD i 0 = x
    generalize (r[k]).toNat = y
    rw [← Nat.add_assoc]
    congr 1
    rw [Nat.mul_comm (x * y), Nat.mul_assoc, Nat.mul_assoc, Nat.mul_left_comm x]
theorem rowP_bd (h : List Nat) (hb : ∀ j, h.getD j 0 ≤ 511) (r : List UInt8) (i : Nat) (p : List Nat) (B : Nat) (hB : ∀ j, p.getD j 0 ≤ B) : ∀ k, i + k ≤ p.length → ∀ j, (rowP h r i p k).getD j 0 ≤ B + 130305 * k
  | 0, _, j => hB j
  | k + 1, hk, j => by
    have ih := rowP_bd h hb r i p B hB k (by omega)
    have hl := rowP_len h r i p k
    have hx : (r.getD k 0).toNat < 256 := (r.getD k 0).toNat_lt
    have hy := hb i
    have hm : h.getD i 0 * (r.getD k 0).toNat ≤ 511 * 255 := Nat.mul_le_mul hy (by omega)
    rw [rowP, set_getD _ _ _ _ (by omega)]
    split
    · have := ih (i + k); omega
    · have := ih j; omega
def prodP (h : List Nat) (r : List UInt8) : Nat → List Nat
  | 0 => List.replicate 40 0
  | i + 1 => rowP h r i (prodP h r i) 16
theorem prodP_len (h : List Nat) (r : List UInt8) (i : Nat) : (prodP h r i).length = 40 := by
  induction i with
  | zero => simp [prodP]
  | succ i ih => rw [prodP, rowP_len, ih]
theorem prodP_v (h : List Nat) (hh : h.length = 40) (r : List UInt8) (hr : r.length = 16) : ∀ i, i ≤ 24 → numV (prodP h r i) = numV (h.take i) * leN r
  | 0, _ => by simp [prodP, numV_zero, numV]
  | i + 1, hi => by
    rw [prodP, rowP_v _ _ _ _ 16 (by omega) (by rw [prodP_len]; omega), prodP_v h hh r hr i (by omega), List.take_of_length_le (show r.length ≤ 16 by omega), numV_take h i (by omega), Nat.add_mul]
theorem prodP_bd (h : List Nat) (hb : ∀ j, h.getD j 0 ≤ 511) (r : List UInt8) : ∀ i, i ≤ 24 → ∀ j, (prodP h r i).getD j 0 ≤ 2084880 * i
  | 0, _, j => by
    rw [prodP, List.getD_eq_getElem?_getD, List.getElem?_replicate]
    split <;> simp
  | i + 1, hi, j => by
    have := rowP_bd h hb r i (prodP h r i) _ (prodP_bd h hb r i (by omega)) 16 (by rw [prodP_len]; omega) j
    rw [prodP]
    omega
/-- A block's step. -/
theorem step_v (a : Nat) (ha : a < 1361129467683753853853498429727072845824) (bs r : List UInt8) (hl : bs.length ≤ 16) (hr : r.length = 16) (hR : leN r < 21267647932558653966460912964485513216) :
    numV (prodP (endB (digL 40 a) bs bs.length) r 20) = (a + blkN bs) * leN r ∧ (a + blkN bs) * leN r < 1361129467683753853853498429727072845824 * 1361129467683753853853498429727072845824 := by
  have hd := digL_len 40 a
  have el := endB_len (digL 40 a) bs bs.length
  have e20 : (256 : Nat) ^ 20 = 1461501637330902918203684832716283019655932542976 := by decide
  have e40 : (256 : Nat) ^ 40 = 2135987035920910082395021706169552114602704522356652769947041607822219725780640550022962086936576 := by decide
  have hz : numV ((endB (digL 40 a) bs bs.length).drop 20) = 0 := by
    rw [endB_drop _ _ _ _ (by omega), drop_v 40 a 20 (by omega), e20, Nat.div_eq_of_lt (by omega), digL_zero, numV_zero]
  have hs := numV_append ((endB (digL 40 a) bs bs.length).take 20) ((endB (digL 40 a) bs bs.length).drop 20)
  rw [List.take_append_drop, hz, Nat.mul_zero, Nat.add_zero, endB_v _ _ (by omega), numV_digL 40 a (by rw [e40]; omega)] at hs
  refine ⟨by rw [prodP_v _ (by omega) r hr 20 (by omega), ← hs], ?_⟩
  have hb : blkN bs ≤ 2 * 340282366920938463463374607431768211456 := by
    have h1 := leN_lt bs
    have h2 : 256 ^ bs.length ≤ 256 ^ 16 := Nat.pow_le_pow_right (by omega) hl
    rw [show (256 : Nat) ^ 16 = 340282366920938463463374607431768211456 by decide] at h2
    unfold blkN
    omega
  exact Nat.lt_of_le_of_lt (Nat.mul_le_mul (show a + blkN bs ≤ 1361129467683753853853498429727072845824 + 2 * 340282366920938463463374607431768211456 by omega) (Nat.le_of_lt hR)) (by decide)

/-! ### The end -/
def lastS (h : List Nat) (k2 : List UInt8) : Nat → List Nat
  | 0 => List.replicate 40 0
  | i + 1 => (lastS h k2 i).set i (h.getD i 0 + (k2.getD i 0).toNat)
theorem lastS_len (h : List Nat) (k2 : List UInt8) (i : Nat) : (lastS h k2 i).length = 40 := by
  induction i with
  | zero => simp [lastS]
  | succ i ih => rw [lastS, List.length_set, ih]
theorem lastS_zero (h : List Nat) (k2 : List UInt8) : ∀ i j, i ≤ j → (lastS h k2 i).getD j 0 = 0
  | 0, j, _ => by rw [lastS, List.getD_eq_getElem?_getD, List.getElem?_replicate]; split <;> rfl
  | i + 1, j, hj => by
    have ih := lastS_zero h k2 i j (by omega)
    rw [List.getD_eq_getElem?_getD] at ih ⊢
    rw [lastS, List.getElem?_set_ne (by omega)]
    exact ih
theorem lastS_v (h : List Nat) (hh : h.length = 40) (k2 : List UInt8) (hk : k2.length = 16) : ∀ i, i ≤ 16 → numV (lastS h k2 i) = numV (h.take i) + leN (k2.take i)
  | 0, _ => by simp [lastS, numV_zero, numV, leN]
  | i + 1, hi => by
    rw [lastS, set_v _ _ _ (by rw [lastS_len]; omega) (lastS_zero h k2 i i (Nat.le_refl _)), lastS_v h hh k2 hk i (by omega), numV_take h i (by omega), leN_take k2 i (by omega), List.getD_eq_getElem?_getD (l := k2), List.getElem?_eq_getElem (by omega)]
    simp only [Option.getD_some]
    rw [Nat.add_mul, Nat.mul_comm (256 ^ i), Nat.mul_comm (256 ^ i)]
    omega
theorem lastS_bd (h : List Nat) (hb : ∀ j, h.getD j 0 ≤ 255) (k2 : List UInt8) : ∀ i, i ≤ 16 → ∀ j, (lastS h k2 i).getD j 0 ≤ 510
  | 0, _, j => by rw [lastS, List.getD_eq_getElem?_getD, List.getElem?_replicate]; split <;> simp
  | i + 1, hi, j => by
    have ih := lastS_bd h hb k2 i (by omega) j
    have hx : (k2.getD i 0).toNat < 256 := (k2.getD i 0).toNat_lt
    have := hb i
    rw [lastS, set_getD _ _ _ _ (by rw [lastS_len]; omega)]
    split <;> omega
def outB (w : Nat) (i : Nat) : List UInt8 := (digL i w).map UInt8.ofNat
theorem outB_len (w i : Nat) : (outB w i).length = i := by unfold outB; rw [List.length_map, digL_len]
theorem outB_succ (w i : Nat) : outB w (i + 1) = outB w i ++ [UInt8.ofNat (w / 256 ^ i % 256)] := by
  unfold outB; rw [digL_snoc, List.map_append]; rfl
theorem outB_v : ∀ i w, leN (outB w i) = w % 256 ^ i
  | 0, w => by simp [outB, digL, leN, Nat.mod_one]
  | i + 1, w => by
    have ih := outB_v i (w / 256)
    unfold outB at ih ⊢
    rw [digL, List.map_cons, leN, ih, UInt8.toNat_ofNat', show 256 ^ (i + 1) = 256 * 256 ^ i by rw [Nat.pow_succ, Nat.mul_comm], Nat.mod_mul]
    omega
/-! ### The keys -/
theorem clamp_small (bs : List UInt8) (h : bs.length = 16) : (halfA (clampF bs)).toNat < 1152921504606846976 ∧ (halfB (clampF bs)).toNat < 1152921504606846976 := by
  match bs, h with
  | [x0, x1, x2, x3, x4, x5, x6, x7, x8, x9, x10, x11, x12, x13, x14, x15], _ =>
    have h7 : (x7 &&& 15).toNat < 16 := by rw [UInt8.toNat_and]; exact Nat.lt_of_le_of_lt Nat.and_le_right (by decide)
    have h15 : (x15 &&& 15).toNat < 16 := by rw [UInt8.toNat_and]; exact Nat.lt_of_le_of_lt Nat.and_le_right (by decide)
    unfold halfA halfB
    rw [half_toNat, half_toNat]
    simp only [clampF, cl1, cl2, List.set_cons_succ, List.set_cons_zero, List.getD_cons_succ, List.getD_cons_zero, Nat.reduceMul, Nat.reduceAdd, List.take_succ_cons, List.drop_succ_cons, List.drop_zero, List.take_zero, leN]
    have e0 := u8_lt x0; have e1 := u8_lt x1; have e2 := u8_lt x2; have e3 := u8_lt (x3 &&& 15); have e4 := u8_lt (x4 &&& 252); have e5 := u8_lt x5; have e6 := u8_lt x6
    have e8 := u8_lt (x8 &&& 252); have e9 := u8_lt x9; have e10 := u8_lt x10; have e11 := u8_lt (x11 &&& 15); have e12 := u8_lt (x12 &&& 252); have e13 := u8_lt x13; have e14 := u8_lt x14
    omega
theorem clamp_value (bs : List UInt8) (h : bs.length = 16) : leN (clampF bs) < 21267647932558653966460912964485513216 := by
  have hl : (clampF bs).length = 16 := by rw [clampF_len, h]
  obtain ⟨h1, h2⟩ := clamp_small bs h
  rw [← halves _ hl]
  omega
/-- The reference's sum. -/
def refPolyF (key bs : List UInt8) : List UInt8 := outB (accN (leN (clampF (key.take 16))) bs (nBlk bs.length) % 340282366920938463463374607431768211456 + leN (key.drop 16)) 16
theorem refPoly_eq (key bs : List UInt8) (hk : key.length = 32) : refPolyF key bs = polyF key bs := by
  have ht : (key.take 16).length = 16 := by rw [List.length_take, hk]; rfl
  have hd : (key.drop 16).length = 16 := by rw [List.length_drop, hk]
  have hl : (clampF (key.take 16)).length = 16 := by rw [clampF_len, ht]
  obtain ⟨h1, h2⟩ := clamp_small (key.take 16) ht
  refine leN_inj _ _ (by rw [polyF_len]; exact outB_len _ _) ?_
  have hp := psum_v (kr0 key) (kr1 key) (ks0 key) (ks1 key) h1 h2 bs
  unfold polyF
  rw [hp]
  unfold refPolyF kr0 kr1 ks0 ks1
  rw [halves _ hl, halves _ hd, outB_v, show (256 : Nat) ^ 16 = 340282366920938463463374607431768211456 by decide, Nat.mod_add_mod]
/-- The reference's clamp: k of the bytes done. -/
def clR : Nat → List UInt8 → List UInt8
  | 0, bs => bs
  | k + 1, bs => let c := if k % 4 = 3 then (clR k bs).set k ((clR k bs).getD k 0 % 16) else clR k bs; if k = 4 ∨ k = 8 ∨ k = 12 then c.set k (c.getD k 0 - c.getD k 0 % 4) else c
theorem clR_len (k : Nat) (bs : List UInt8) : (clR k bs).length = bs.length := by
  induction k with
  | zero => rfl
  | succ k ih => rw [clR]; split <;> split <;> simp [ih]
theorem u8_mod16 (x : UInt8) : x % 16 = x &&& 15 := by
  apply UInt8.toNat_inj.1
  rw [UInt8.toNat_mod, UInt8.toNat_and]
  exact (Nat.and_two_pow_sub_one_eq_mod x.toNat 4).symm
theorem u8_less4 : ∀ x : UInt8, x - x % 4 = x &&& 252 := by
  have h : ∀ i : Fin 256, UInt8.ofNat i.val - UInt8.ofNat i.val % 4 = UInt8.ofNat i.val &&& 252 := by decide +kernel
  intro x
  have := h ⟨x.toNat, u8_lt x⟩
  simpa using this
theorem clR_eq (bs : List UInt8) (h : bs.length = 16) : clR 16 bs = clampF bs := by
  match bs, h with
  | [x0, x1, x2, x3, x4, x5, x6, x7, x8, x9, x10, x11, x12, x13, x14, x15], _ =>
    simp [clR, clampF, cl1, cl2, u8_mod16, u8_less4]
end Go.Proofs.Ytilgkadochhkjaa
