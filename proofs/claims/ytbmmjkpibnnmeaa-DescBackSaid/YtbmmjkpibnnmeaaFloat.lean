/-
  Whole numbers below 2^53 as floats: their order, the least and the greatest of two.
  Plain theorems over any program.
-/
import Derived.Laws.Cover2
import Derived.Laws.Cover3
namespace Go.Proofs.Ytbmmjkpibnnmeaa
open Go Ieee

/-- A datum stands for the number n (c: 1074, kept behind a letter). -/
def Stands (c : Nat) (d : Datum) (n : Nat) : Prop := ∃ m i : Nat, d = .number false m ((i : Int) - (c : Int)) ∧ m * 2 ^ i = n * 2 ^ c

theorem order_stands {c : Nat} {d e : Datum} {a b : Nat} (hd : Stands c d a) (he : Stands c e b) : d.order e = some (compare a b) := by
  obtain ⟨m, i, rfl, hm⟩ := hd
  obtain ⟨n, j, rfl, hn⟩ := he
  simp only [Datum.order, Option.some.injEq]
  have key : ∀ (k : Nat), (hk : k ≤ i) → (hk2 : k ≤ j) → compare (m * 2 ^ (i - k)) (n * 2 ^ (j - k)) = compare a b := by
    intro k hk hk2
    have h1 : m * 2 ^ (i - k) * 2 ^ k = a * 2 ^ c := by rw [Nat.mul_assoc, ← Nat.pow_add, Nat.sub_add_cancel hk, hm]
    have h2 : n * 2 ^ (j - k) * 2 ^ k = b * 2 ^ c := by rw [Nat.mul_assoc, ← Nat.pow_add, Nat.sub_add_cancel hk2, hn]
    have p1 : 0 < 2 ^ k := Nat.two_pow_pos k
    have p2 : 0 < 2 ^ c := Nat.two_pow_pos c
    generalize m * 2 ^ (i - k) = x at *
    generalize n * 2 ^ (j - k) = y at *
    generalize 2 ^ k = p at *
    generalize 2 ^ c = q at *
    rcases Nat.lt_trichotomy a b with h | h | h
    · have : x * p < y * p := by rw [h1, h2]; exact (Nat.mul_lt_mul_right p2).2 h
      have hxy := (Nat.mul_lt_mul_right p1).1 this
      rw [Nat.compare_eq_lt.2 h, Nat.compare_eq_lt.2 hxy]
    · have : x * p = y * p := by rw [h1, h2, h]
      have hxy := Nat.eq_of_mul_eq_mul_right p1 this
      rw [Nat.compare_eq_eq.2 h, Nat.compare_eq_eq.2 hxy]
    · have : y * p < x * p := by rw [h1, h2]; exact (Nat.mul_lt_mul_right p2).2 h
      have hxy := (Nat.mul_lt_mul_right p1).1 this
      rw [Nat.compare_eq_gt.2 h, Nat.compare_eq_gt.2 hxy]
  have cast : ∀ x y : Nat, compare (x : Int) (y : Int) = compare x y := by
    intro x y
    rcases Nat.lt_trichotomy x y with h | h | h
    · rw [Nat.compare_eq_lt.2 h, Int.compare_eq_lt.2 (by omega)]
    · rw [Nat.compare_eq_eq.2 h, Int.compare_eq_eq.2 (by omega)]
    · rw [Nat.compare_eq_gt.2 h, Int.compare_eq_gt.2 (by omega)]
  simp only [signed, Bool.false_eq_true, if_false, cast, Nat.shiftLeft_eq]
  have e1 : ((i : Int) - c - min ((i : Int) - c) ((j : Int) - c)).toNat = i - min i j := by omega
  have e2 : ((j : Int) - c - min ((i : Int) - c) ((j : Int) - c)).toNat = j - min i j := by omega
  rw [e1, e2]
  exact key (min i j) (Nat.min_le_left _ _) (Nat.min_le_right _ _)

theorem read_rung (q M : Nat) (hq : q ≤ 1074) (ha : 2 ^ 52 ≤ M) (hb : M < 2 ^ 53) : double.read (q * 2 ^ 52 + M) = .number false M ((q : Int) - 1074) := by
  have lp : double.leastPlace = -1074 := by decide
  have bn : double.binade = 4503599627370496 := rfl
  have sw : double.signWeight = 9223372036854775808 := rfl
  have ir : double.infRung = 9218868437227405312 := by decide
  have e52 : 2 ^ 52 = 4503599627370496 := rfl
  have e53 : 2 ^ 53 = 9007199254740992 := rfl
  rw [e52] at ha ⊢
  rw [e53] at hb
  clear e52 e53
  unfold Format.read
  simp only [sw, bn, ir, lp]
  have d1 : (q * 4503599627370496 + M) / 9223372036854775808 = 0 := by omega
  have d2 : (q * 4503599627370496 + M) % 9223372036854775808 = q * 4503599627370496 + M := by omega
  rw [d1, d2]
  have c1 : ¬ (q * 4503599627370496 + M < 4503599627370496) := by omega
  have c2 : q * 4503599627370496 + M < 9218868437227405312 := by omega
  rw [if_neg c1, if_pos c2]
  have c3 : (q * 4503599627370496 + M) % 4503599627370496 = M - 4503599627370496 := by omega
  have c4 : (q * 4503599627370496 + M) / 4503599627370496 = q + 1 := by omega
  rw [c3, c4]
  have c5 : 4503599627370496 + (M - 4503599627370496) = M := by omega
  rw [c5]
  have c6 : (0 % 2 == 1) = false := by decide
  rw [c6]
  congr 1

theorem nearest_nat (n L M : Nat) (h0 : n ≠ 0) (hL : n.log2 = L) (hl : L ≤ 52) (hM : n * 2 ^ (52 - L) = M) (hb : M < 2 ^ 53) : double.nearest false n 0 = (L + 1022) * 2 ^ 52 + M := by
  have lp : double.leastPlace = -1074 := by decide
  have bn : double.binade = 4503599627370496 := rfl
  unfold Format.nearest
  rw [if_neg h0, hL, lp]
  have em : max ((0 : Int) + (L : Int) - (double.fractionBits : Int)) (-1074) = (L : Int) - 52 := by
    show max ((0 : Int) + (L : Int) - 52) (-1074) = _
    omega
  simp only [em]
  have e1 : ((0 : Int) - ((L : Int) - 52)).toNat = 52 - L := by omega
  have e2 : ((L : Int) - 52 - 0).toNat = 0 := by omega
  have e3 : ((L : Int) - 52 - -1074).toNat = L + 1022 := by omega
  rw [e1, e2, e3, bn]
  have hc : Toward.even.cut false (n <<< (52 - L)) 0 = M := by
    rw [Nat.shiftLeft_eq, hM]
    unfold Toward.cut
    simp [Nat.mod_one]
  rw [hc]
  unfold Format.word
  simp only [Bool.false_eq_true, if_false]
  have hi : double.infRung = 9218868437227405312 := by decide
  have e52 : 2 ^ 52 = 4503599627370496 := rfl
  have e53 : 2 ^ 53 = 9007199254740992 := rfl
  rw [hi, e52]
  rw [e53] at hb
  clear e52 e53 hM em hL lp bn hc
  omega

theorem stands_nat (c n : Nat) (hc : c = 1074) (h : n < 2 ^ 53) : Stands c (double.read (floatOfInt .f64 (n : Int))) n := by
  have hf : floatOfInt .f64 (n : Int) = double.nearest false n 0 := by
    have : decide ((n : Int) < 0) = false := by simp
    show double.nearest (decide ((n : Int) < 0)) (n : Int).natAbs 0 = _
    rw [this, Int.natAbs_natCast]
  rw [hf]
  by_cases h0 : n = 0
  · subst h0
    refine ⟨0, 0, ?_, by simp⟩
    rw [hc]
    decide +kernel
  · have hl : n.log2 ≤ 52 := by
      have := (Nat.log2_lt h0).2 h
      omega
    have hlo := Nat.log2_self_le h0
    have hhi := Nat.lt_log2_self (n := n)
    obtain ⟨L, hL⟩ : ∃ L, n.log2 = L := ⟨_, rfl⟩
    rw [hL] at hl hlo hhi
    obtain ⟨M, hM⟩ : ∃ M, n * 2 ^ (52 - L) = M := ⟨_, rfl⟩
    have hb : M < 2 ^ 53 := by
      have : n * 2 ^ (52 - L) < 2 ^ (L + 1) * 2 ^ (52 - L) := (Nat.mul_lt_mul_right (Nat.two_pow_pos _)).2 hhi
      rw [← Nat.pow_add, show L + 1 + (52 - L) = 53 by clear hM hhi hlo this; omega, hM] at this
      exact this
    have ha : 2 ^ 52 ≤ M := by
      have : 2 ^ L * 2 ^ (52 - L) ≤ n * 2 ^ (52 - L) := Nat.mul_le_mul_right _ hlo
      rw [← Nat.pow_add, show L + (52 - L) = 52 by clear hM hhi hlo this hb; omega, hM] at this
      exact this
    rw [nearest_nat n L M h0 hL hl hM hb, read_rung (L + 1022) M (by clear hM hhi hlo ha hb; omega) ha hb]
    refine ⟨M, L + 1022, by rw [hc]; rfl, ?_⟩
    rw [← hM, Nat.mul_assoc, ← Nat.pow_add]
    congr 2
    clear hM hhi hlo ha hb
    omega

/-- A whole number as a float. -/
abbrev fl (n : Nat) : Value := .float .f64 (floatOfInt .f64 (n : Int))
/-- Two of them as a complex number. -/
abbrev cx (a b : Nat) : Value := .complex .f64 (floatOfInt .f64 (a : Int)) (floatOfInt .f64 (b : Int))

theorem order_nat (a b : Nat) (ha : a < 2 ^ 53) (hb : b < 2 ^ 53) : FloatKind.f64.format.order (floatOfInt .f64 (a : Int)) (floatOfInt .f64 (b : Int)) = some (compare a b) :=
  order_stands (stands_nat _ a rfl ha) (stands_nat _ b rfl hb)

theorem float_zero : floatOfInt .f64 ((0 : Nat) : Int) = 0 := by decide +kernel

section
variable {P : Program} (w : World)
theorem run_lss_nat (t : TypeId) (a b : Nat) (ha : a < 2 ^ 53) (hb : b < 2 ^ 53) : (binOp .lss t (fl a) (fl b)).run P w = .ok (.bool (decide (a < b))) w := by
  unfold fl
  rw [binOp_float_cmp_lss, order_nat a b ha hb]
  have : (some (compare a b) == some Ordering.lt) = decide (a < b) := by
    rw [Bool.eq_iff_iff]; simp [Nat.compare_eq_lt]
  rw [this]; rfl
theorem run_geq_nat (t : TypeId) (a b : Nat) (ha : a < 2 ^ 53) (hb : b < 2 ^ 53) : (binOp .geq t (fl a) (fl b)).run P w = .ok (.bool (decide (b ≤ a))) w := by
  unfold fl
  rw [binOp_float_cmp_geq, order_nat a b ha hb]
  have : (some (compare a b) == some Ordering.gt || some (compare a b) == some Ordering.eq) = decide (b ≤ a) := by
    rw [Bool.eq_iff_iff]; simp [Nat.compare_eq_gt]; omega
  rw [this]; rfl
theorem run_min_nat (ts : Array TypeId) (t : TypeId) (a b : Nat) (ha : a < 2 ^ 53) (hb : b < 2 ^ 53) : (Builtin.min_ ts t #[fl a, fl b]).run P w = .ok (fl (min a b)) w := by
  have e := order_nat a b ha hb
  unfold fl
  rcases Nat.lt_trichotomy a b with h | h | h
  · rw [Nat.compare_eq_lt.2 h] at e
    simp [Builtin.min_, Builtin.min2, e, Nat.min_eq_left (Nat.le_of_lt h)]
  · subst h
    rw [Nat.compare_eq_eq.2 rfl] at e
    simp [Builtin.min_, Builtin.min2, e]
  · rw [Nat.compare_eq_gt.2 h] at e
    simp [Builtin.min_, Builtin.min2, e, Nat.min_eq_right (Nat.le_of_lt h)]
theorem run_max_nat (ts : Array TypeId) (t : TypeId) (a b : Nat) (ha : a < 2 ^ 53) (hb : b < 2 ^ 53) : (Builtin.max_ ts t #[fl a, fl b]).run P w = .ok (fl (max a b)) w := by
  have e := order_nat a b ha hb
  unfold fl
  rcases Nat.lt_trichotomy a b with h | h | h
  · rw [Nat.compare_eq_lt.2 h] at e
    simp [Builtin.max_, Builtin.max2, e, Nat.max_eq_right (Nat.le_of_lt h)]
  · subst h
    rw [Nat.compare_eq_eq.2 rfl] at e
    simp [Builtin.max_, Builtin.max2, e]
  · rw [Nat.compare_eq_gt.2 h] at e
    simp [Builtin.max_, Builtin.max2, e, Nat.max_eq_left (Nat.le_of_lt h)]
theorem run_eql_cx (t : TypeId) (a b c d : Nat) (ha : a < 2 ^ 53) (hb : b < 2 ^ 53) (hc : c < 2 ^ 53) (hd : d < 2 ^ 53) : (binOp .eql t (cx a b) (cx c d)).run P w = .ok (.bool (decide (a = c ∧ b = d))) w := by
  unfold cx
  rw [run_eql_complex, order_nat a c ha hc, order_nat b d hb hd]
  have : ((some (compare a c) == some Ordering.eq) && (some (compare b d) == some Ordering.eq)) = decide (a = c ∧ b = d) := by
    rw [Bool.eq_iff_iff]; simp
  rw [this]
end
end Go.Proofs.Ytbmmjkpibnnmeaa
