/-
  The reference's product of blocks, polynomial by polynomial, is the product in the field. Plain theorems: no program in sight.
-/
import Derived.Test.YtlnldflnanllmaaGhashLe
namespace Go.Proofs.Ytlnldflnanllmaa
open Go Go.RowKit
set_option linter.unusedSimpArgs false

/-! ### Sums of powers -/
def Vb (g : Nat → Bool) (f : Nat) : Nat → Nat
  | 0 => 0
  | m + 1 => Vb g f m ^^^ (bif g m then Gf.onI m f else 0)
theorem Vb_ext (g g' : Nat → Bool) (f : Nat) : ∀ m, (∀ j, j < m → g j = g' j) → Vb g f m = Vb g' f m
  | 0, _ => rfl
  | m + 1, h => by rw [Vb, Vb, Vb_ext g g' f m (fun j hj => h j (by omega)), h m (by omega)]
theorem Vb_front (g : Nat → Bool) (f : Nat) : ∀ m, Vb g f (m + 1) = (bif g 0 then f else 0) ^^^ Vb (fun j => g (j + 1)) (Gf.on f) m
  | 0 => by rw [Vb, Vb, Vb, Nat.zero_xor, Nat.xor_zero]; rfl
  | m + 1 => by
    rw [Vb, Vb_front g f m, Vb, Nat.xor_assoc]
    rfl
theorem mulB_V (e : Nat) : ∀ k f, Gf.mulB e k f = Vb (fun j => e.testBit (k - 1 - j)) f k
  | 0, _ => rfl
  | k + 1, f => by
    rw [Gf.mulB, mulB_V e k (Gf.on f), Vb_front]
    congr 1
    refine Vb_ext _ _ _ _ fun j hj => ?_
    rw [show k + 1 - 1 - (j + 1) = k - 1 - j by omega]
theorem mul_V (e f : Nat) : Gf.mul e f = Vb (fun j => e.testBit (127 - j)) f 128 := mulB_V e 128 f
theorem Vb_flip (g g' : Nat → Bool) (f i : Nat) (c : Bool) (hg : ∀ j, g' j = if j = i then xor (g j) c else g j) : ∀ m, Vb g' f m = Vb g f m ^^^ (bif decide (i < m) && c then Gf.onI i f else 0)
  | 0 => by simp [Vb]
  | m + 1 => by
    rw [Vb, Vb, Vb_flip g g' f i c hg m, hg m]
    by_cases h1 : m = i
    · subst h1
      have e1 : decide (m < m) = false := decide_eq_false (by omega)
      have e2 : decide (m < m + 1) = true := decide_eq_true (by omega)
      rw [if_pos rfl, e1, e2]
      cases g m <;> cases c <;> simp
      all_goals first | rfl | (rw [Nat.xor_assoc, Nat.xor_self, Nat.xor_zero])
    · rw [if_neg h1]
      have e : decide (i < m + 1) = decide (i < m) := decide_eq_decide.mpr (by omega)
      rw [e]
      ac_rfl

/-! ### Bits of a block -/
def bitT (xs : List UInt8) (i : Nat) : Bool := (xs.getD (i / 8) 0).toNat.testBit (7 - i % 8)
theorem leN_digit6 (bs : List UInt8) (i : Nat) (h : i < bs.length) : leN bs / 256 ^ i % 256 = (bs[i]).toNat := by
  have h1 := leN_take bs i h
  have h2 := leN_lt (bs.take i)
  rw [List.length_take, Nat.min_eq_left (by omega)] at h2
  have h3 := leN_mod bs (i + 1)
  rw [← Nat.mod_mul_right_div_self, ← Nat.pow_succ, h3, h1, Nat.add_mul_div_left _ _ (Nat.pow_pos (by decide)), Nat.div_eq_of_lt h2, Nat.zero_add]
theorem NB_bit (xs : List UInt8) (hx : xs.length = 16) (i : Nat) (hi : i < 128) : (NB xs).testBit (127 - i) = bitT xs i := by
  have hq : 15 - i / 8 < xs.reverse.length := by rw [List.length_reverse]; omega
  have h1 := leN_digit6 xs.reverse (15 - i / 8) hq
  have e1 : xs.reverse[15 - i / 8] = xs.getD (i / 8) 0 := by
    rw [List.getElem_reverse, List.getD_eq_getElem?_getD, List.getElem?_eq_getElem (by omega)]
    simp only [Option.getD_some]
    congr 1
    omega
  rw [e1] at h1
  unfold bitT NB
  rw [← h1, show 127 - i = 8 * (15 - i / 8) + (7 - i % 8) by omega, show (256 : Nat) ^ (15 - i / 8) = 2 ^ (8 * (15 - i / 8)) by rw [Nat.pow_mul]]
  rw [show (256 : Nat) = 2 ^ 8 from rfl, Nat.testBit_mod_two_pow, Nat.testBit_div_two_pow, decide_eq_true (by omega), Bool.true_and, Nat.add_comm]
theorem NB_V (xs : List UInt8) (hx : xs.length = 16) : NB xs = Vb (bitT xs) Gf.one 128 := by
  rw [← Gf.mul_one (NB xs) (NB_lt xs hx), mul_V]
  refine Vb_ext _ _ _ _ fun j hj => ?_
  exact NB_bit xs hx j hj

/-! ### Counters -/
def odd (p : List Nat) (j : Nat) : Bool := p.getD j 0 % 2 == 1
def addL (p : List Nat) (i v : Nat) : List Nat := p.set i (p.getD i 0 + v)
theorem addL_len (p : List Nat) (i v : Nat) : (addL p i v).length = p.length := List.length_set
theorem addL_at (p : List Nat) (i v j : Nat) (h : i < p.length) : (addL p i v).getD j 0 = if j = i then p.getD i 0 + v else p.getD j 0 := by
  unfold addL
  rw [List.getD_eq_getElem?_getD, List.getElem?_set]
  by_cases e : j = i
  · subst e
    rw [if_pos rfl, if_pos h, if_pos rfl]; rfl
  · rw [if_neg (fun h => e h.symm), if_neg e, List.getD_eq_getElem?_getD]
theorem addL_odd (p : List Nat) (i v : Nat) (h : i < p.length) (j : Nat) : odd (addL p i v) j = if j = i then xor (odd p j) (v % 2 == 1) else odd p j := by
  unfold odd
  rw [addL_at p i v j h]
  by_cases e : j = i
  · subst e
    rw [if_pos rfl, if_pos rfl]
    have h1 : p.getD j 0 % 2 = 0 ∨ p.getD j 0 % 2 = 1 := by omega
    have h2 : v % 2 = 0 ∨ v % 2 = 1 := by omega
    rw [Nat.add_mod]
    rcases h1 with h1 | h1 <;> rcases h2 with h2 | h2 <;> rw [h1, h2] <;> rfl
  · rw [if_neg e, if_neg e]
def V (m : Nat) (p : List Nat) : Nat := Vb (odd p) Gf.one m
theorem V_add (m : Nat) (p : List Nat) (i v : Nat) (h : i < p.length) : V m (addL p i v) = V m p ^^^ (bif decide (i < m) && (v % 2 == 1) then Gf.onI i Gf.one else 0) :=
  Vb_flip _ _ _ _ _ (addL_odd p i v h) m

/-! ### The product of polynomials -/
def bitN (xs : List UInt8) (i : Nat) : Nat := (xs.getD (i / 8) 0).toNat / 2 ^ (7 - i % 8) % 2
theorem bitN_T (xs : List UInt8) (i : Nat) : (bitN xs i % 2 == 1) = bitT xs i := by
  unfold bitN bitT
  rw [Nat.testBit_eq_decide_div_mod_eq, Nat.mod_mod]
  by_cases h : (xs.getD (i / 8) 0).toNat / 2 ^ (7 - i % 8) % 2 = 1
  · rw [h]; rfl
  · rw [decide_eq_false h, beq_eq_false_iff_ne.mpr h]
def rowL (b : List UInt8) (i : Nat) : Nat → List Nat → List Nat
  | 0, p => p
  | k + 1, p => addL (rowL b i k p) (i + k) (bitN b k)
theorem rowL_len (b : List UInt8) (i : Nat) (p : List Nat) : ∀ k, (rowL b i k p).length = p.length
  | 0 => rfl
  | k + 1 => by rw [rowL, addL_len, rowL_len b i p k]
def prodL (a b : List UInt8) : Nat → List Nat
  | 0 => List.replicate 256 0
  | i + 1 => if bitN a i = 0 then prodL a b i else rowL b i 128 (prodL a b i)
theorem prodL_len (a b : List UInt8) : ∀ n, (prodL a b n).length = 256
  | 0 => by rw [prodL, List.length_replicate]
  | n + 1 => by rw [prodL]; split; (· exact prodL_len a b n); (· rw [rowL_len]; exact prodL_len a b n)
theorem onI_zero' (k : Nat) : Gf.onI k 0 = 0 := by
  induction k with
  | zero => rfl
  | succ k ih => show Gf.onI k (Gf.on 0) = 0; rw [Gf.on_zero]; exact ih
theorem V_row (b : List UInt8) (i : Nat) (hi : i < 128) (p : List Nat) (hp : p.length = 256) : ∀ k, k ≤ 128 → V 255 (rowL b i k p) = V 255 p ^^^ Gf.onI i (Vb (bitT b) Gf.one k)
  | 0, _ => by rw [rowL, Vb, onI_zero', Nat.xor_zero]
  | k + 1, h => by
    rw [rowL, V_add _ _ _ _ (by rw [rowL_len]; omega), V_row b i hi p hp k (by omega), Vb, Gf.onI_xor, bitN_T, decide_eq_true (by omega), Bool.true_and, Nat.xor_assoc]
    congr 2
    cases bitT b k
    · simp [onI_zero']
    · simp [Gf.onI_add]
theorem odd_zeros (n j : Nat) : odd (List.replicate n 0) j = false := by
  unfold odd
  rw [List.getD_eq_getElem?_getD, List.getElem?_replicate]
  split <;> rfl
theorem Vb_false (f : Nat) : ∀ m, Vb (fun _ => false) f m = 0
  | 0 => rfl
  | m + 1 => by rw [Vb, Vb_false f m, cond_false, Nat.xor_zero]
theorem V_prod (a b : List UInt8) (hb : b.length = 16) : ∀ n, n ≤ 128 → V 255 (prodL a b n) = Vb (bitT a) (NB b) n
  | 0, _ => by
    show Vb (odd (List.replicate 256 0)) _ 255 = 0
    rw [Vb_ext _ (fun _ => false) _ _ (fun j _ => odd_zeros 256 j), Vb_false]
  | n + 1, h => by
    rw [prodL, Vb]
    have e := bitN_T a n
    by_cases h0 : bitN a n = 0
    · rw [if_pos h0, V_prod a b hb n (by omega), ← e, h0]; simp
    · have h1 : bitN a n = 1 := by unfold bitN at h0 ⊢; omega
      rw [if_neg h0, V_row b n (by omega) _ (prodL_len a b n) 128 (by omega), V_prod a b hb n (by omega), ← NB_V b hb, ← e, h1]; rfl

/-! ### What is above is taken in -/
def stepL (p : List Nat) (i : Nat) : List Nat := if p.getD i 0 % 2 = 1 then addL (addL (addL (addL p (i - 128) 1) (i - 127) 1) (i - 126) 1) (i - 121) 1 else p
theorem stepL_len (p : List Nat) (i : Nat) : (stepL p i).length = p.length := by unfold stepL; split; (· simp only [addL_len]); (· rfl)
theorem fold128 : Gf.onI 128 Gf.one = Gf.onI 0 Gf.one ^^^ Gf.onI 1 Gf.one ^^^ Gf.onI 2 Gf.one ^^^ Gf.onI 7 Gf.one := by decide +kernel
theorem fold_at (k : Nat) : Gf.onI (k + 128) Gf.one = Gf.onI k Gf.one ^^^ Gf.onI (k + 1) Gf.one ^^^ Gf.onI (k + 2) Gf.one ^^^ Gf.onI (k + 7) Gf.one := by
  rw [Gf.onI_add, fold128, Gf.onI_xor, Gf.onI_xor, Gf.onI_xor, ← Gf.onI_add, ← Gf.onI_add, ← Gf.onI_add, ← Gf.onI_add]
  rfl
theorem V_step (p : List Nat) (i : Nat) (h1 : 128 ≤ i) (h2 : i < 255) (hp : p.length = 256) : V i (stepL p i) = V (i + 1) p := by
  obtain ⟨k, rfl⟩ : ∃ k, i = k + 128 := ⟨i - 128, by omega⟩
  show _ = V (k + 128) p ^^^ (bif odd p (k + 128) then Gf.onI (k + 128) Gf.one else 0)
  unfold stepL
  by_cases h : p.getD (k + 128) 0 % 2 = 1
  · rw [if_pos h, V_add _ _ _ _ (by simp only [addL_len]; omega), V_add _ _ _ _ (by simp only [addL_len]; omega), V_add _ _ _ _ (by simp only [addL_len]; omega), V_add _ _ _ _ (by omega)]
    have e : odd p (k + 128) = true := by unfold odd; rw [h]; rfl
    rw [e, decide_eq_true (by omega), decide_eq_true (by omega), decide_eq_true (by omega), decide_eq_true (by omega), fold_at,
      show k + 128 - 128 = k by omega, show k + 128 - 127 = k + 1 by omega, show k + 128 - 126 = k + 2 by omega, show k + 128 - 121 = k + 7 by omega]
    simp only [Nat.mod_succ, Bool.true_and, beq_self_eq_true, cond_true]
    ac_rfl
  · rw [if_neg h]
    have e : odd p (k + 128) = false := by unfold odd; exact beq_eq_false_iff_ne.mpr h
    rw [e, cond_false, Nat.xor_zero]
def downL : Nat → List Nat → List Nat
  | 0, p => p
  | t + 1, p => stepL (downL t p) (254 - t)
theorem downL_len (p : List Nat) : ∀ t, (downL t p).length = p.length
  | 0 => rfl
  | t + 1 => by rw [downL, stepL_len, downL_len p t]
theorem V_down (p : List Nat) (hp : p.length = 256) : ∀ t, t ≤ 127 → V (255 - t) (downL t p) = V 255 p
  | 0, _ => rfl
  | t + 1, h => by
    rw [downL, show 255 - (t + 1) = 254 - t by omega, V_step _ _ (by omega) (by omega) (by rw [downL_len]; exact hp), show 254 - t + 1 = 255 - t by omega, V_down p hp t (by omega)]

/-! ### The bits are read off -/
def outL (p : List Nat) : Nat → List UInt8
  | 0 => List.replicate 16 0
  | i + 1 => if p.getD i 0 % 2 = 1 then (outL p i).set (i / 8) ((outL p i).getD (i / 8) 0 ||| (1 <<< UInt8.ofNat (7 - i % 8))) else outL p i
theorem outL_len (p : List Nat) : ∀ i, (outL p i).length = 16
  | 0 => by simp [outL]
  | i + 1 => by rw [outL]; split; (· rw [List.length_set]; exact outL_len p i); (· exact outL_len p i)
theorem shl_bit : ∀ k : Fin 8, ((1 : UInt8) <<< UInt8.ofNat k.val).toNat = 2 ^ k.val := by decide
theorem outL_bit (p : List Nat) (j : Nat) (hj : j < 128) : ∀ i, i ≤ 128 → bitT (outL p i) j = (decide (j < i) && odd p j)
  | 0, _ => by
    unfold bitT outL
    rw [show (List.replicate 16 (0 : UInt8)).getD (j / 8) 0 = 0 by rw [List.getD_eq_getElem?_getD, List.getElem?_replicate]; split <;> rfl]
    simp
  | i + 1, h => by
    have ih := outL_bit p j hj i (by omega)
    rw [outL]
    by_cases ho : p.getD i 0 % 2 = 1
    · rw [if_pos ho]
      unfold bitT at ih ⊢
      rw [List.getD_eq_getElem?_getD, List.getElem?_set]
      by_cases hq : i / 8 = j / 8
      · rw [if_pos hq, if_pos (by rw [outL_len]; omega), Option.getD_some, UInt8.toNat_or, Nat.testBit_or, hq, ih, shl_bit ⟨7 - i % 8, by omega⟩, Nat.testBit_two_pow]
        by_cases e : j = i
        · subst e
          rw [decide_eq_true (rfl : 7 - j % 8 = 7 - j % 8), Bool.or_true, decide_eq_true (by omega), Bool.true_and]
          unfold odd; rw [ho]; rfl
        · rw [decide_eq_false (by omega : ¬ 7 - i % 8 = 7 - j % 8), Bool.or_false]
          congr 1
          exact decide_eq_decide.mpr (by omega)
      · rw [if_neg hq, ← List.getD_eq_getElem?_getD, ih]
        congr 1
        exact decide_eq_decide.mpr (by omega)
    · rw [if_neg ho, ih]
      by_cases e : j = i
      · subst e
        have : odd p j = false := by unfold odd; exact beq_eq_false_iff_ne.mpr ho
        rw [this, Bool.and_false, Bool.and_false]
      · congr 1
        exact decide_eq_decide.mpr (by omega)
theorem NB_out (p : List Nat) : NB (outL p 128) = V 128 p := by
  rw [NB_V _ (outL_len p 128)]
  refine Vb_ext _ _ _ _ fun j hj => ?_
  rw [outL_bit p j hj 128 (by omega), decide_eq_true hj, Bool.true_and]

/-- The reference's product is the product. -/
def refMulF (a b : List UInt8) : List UInt8 := outL (downL 127 (prodL a b 128)) 128
theorem refMul_eq (a b : List UInt8) (ha : a.length = 16) (hb : b.length = 16) : refMulF a b = mulF a b := by
  refine NB_inj _ _ (outL_len _ _) (mulF_len _ _) ?_
  unfold refMulF
  rw [NB_out, V_down _ (prodL_len a b 128) 127 (by omega), V_prod a b hb 128 (by omega), NB_mul a b ha hb, mul_V]
  exact Vb_ext _ _ _ _ fun j hj => (NB_bit a ha j hj).symm

end Go.Proofs.Ytlnldflnanllmaa
