/-
  '==' on two arrays of bytes.
-/
import Derived.Test.YthcmdjaccjghjaaArr16
import Derived.Laws.StructEq
import Derived.ChangeKeysEq
namespace Go.Proofs.Ythcmdjaccjghjaa
open Go Go.RowKit

theorem run_equalIn_bytes {P : Program} (w : World) (d : Nat) (t e : TypeId) (k : Nat) (xs ys : List UInt8) (hx : xs.length = k) (hy : ys.length = k)
    (ht : P.underlying t = some (.array k e)) (he : P.underlying e = some (.int .u8)) (hs : (P.info? e).map (·.size) = some 1) :
    (Op.equalIn (d + 2) t (.agg (xs.map b8).toArray) (.agg (ys.map b8).toArray)).run P w = .ok (xs == ys) w := by
  obtain ⟨i, hi, hi1⟩ : ∃ i, P.info? e = some i ∧ P.cellsOf e = 1 := by
    cases h : P.info? e with
    | none => rw [h] at hs; simp at hs
    | some i => rw [h] at hs; exact ⟨i, rfl, by unfold Program.cellsOf; rw [h]; simpa using hs⟩
  have hpk : P.plainKey e = true := by simp [Program.plainKey, he]
  rw [show d + 2 = (d + 1) + 1 from rfl, Op.equalIn]
  simp only [Sem.run_bind, run_underlying ht, Result.andThen_ok, run_sizeOf w hi, hi1, Nat.mul_one]
  simp only [Std.Legacy.Range.forIn_eq_forIn_range', Std.Legacy.Range.size, Nat.sub_zero, Nat.add_sub_cancel, Nat.div_one]
  suffices H : ∀ m s, s + m = k → ∀ w, ((Sem.run P (forIn (List.range' s m 1) ((none : Option Bool), ()) fun i __s => do
      let a ← part e (xs.map b8).toArray i
      let b ← part e (ys.map b8).toArray i
      let r ← Op.equalIn (d + 1) e a b
      if (!r) = true then pure (ForInStep.done (some false, ())) else pure (ForInStep.yield (none, ()))) w).andThen fun a w' => (match a.1 with | none => (pure true : Sem Bool) | some r => pure r).run P w') = .ok (xs.drop s == ys.drop s) w by
    have := H k 0 (by omega) w
    simp only [List.drop_zero] at this
    rw [← this]
    congr 1
    funext a w'
    rcases a with ⟨_ | r, _⟩ <;> rfl
  intro m
  induction m with
  | zero =>
    intro s h w
    simp [List.drop_of_length_le (show xs.length ≤ s by omega), List.drop_of_length_le (show ys.length ≤ s by omega)]
  | succ m ih =>
    intro s h w
    have h1 : (xs.map b8).toArray[s]? = some (.int .u8 (xs[s]'(by omega)).toNat) := by simp [b8, show s < xs.length by omega]
    have h2 : (ys.map b8).toArray[s]? = some (.int .u8 (ys[s]'(by omega)).toNat) := by simp [b8, show s < ys.length by omega]
    rw [List.range'_succ, List.forIn_cons]
    simp only [Sem.run_bind, run_part_plain _ hpk h1, run_part_plain _ hpk h2, Result.andThen_ok, run_equalIn_int _ d e _ _ _ _ he]
    rw [List.drop_eq_getElem_cons (show s < xs.length by omega), List.drop_eq_getElem_cons (show s < ys.length by omega)]
    by_cases hc : xs[s]'(by omega) = ys[s]'(by omega)
    · have e1 : (((xs[s]'(by omega)).toNat : Int) == (ys[s]'(by omega)).toNat) = true := by rw [hc]; simp
      simp only [e1, Bool.not_true, Bool.false_eq_true, if_false, Sem.run_pure, Result.andThen_ok]
      rw [ih (s + 1) (by omega) w, List.cons_beq_cons, hc, beq_self_eq_true, Bool.true_and]
    · have e1 : (((xs[s]'(by omega)).toNat : Int) == (ys[s]'(by omega)).toNat) = false := by
        simp only [beq_eq_false_iff_ne, ne_eq]
        intro h; exact hc (UInt8.toNat_inj.mp (by omega))
      simp only [e1, Bool.not_false, if_true, Sem.run_pure, Result.andThen_ok]
      rw [List.cons_beq_cons, beq_eq_false_iff_ne.mpr hc, Bool.false_and]


theorem run_binOp_eql_bytes {P : Program} (w : World) (t e : TypeId) (k : Nat) (xs ys : List UInt8) (hx : xs.length = k) (hy : ys.length = k)
    (ht : P.underlying t = some (.array k e)) (he : P.underlying e = some (.int .u8)) (hs : (P.info? e).map (·.size) = some 1) :
    (binOp .eql t (.agg (xs.map b8).toArray) (.agg (ys.map b8).toArray)).run P w = .ok (.bool (xs == ys)) w := by
  rw [run_eql_struct, run_equalIn_bytes w 9998 t e k xs ys hx hy ht he hs]
  rfl

theorem Try.arr16 : Try.prog.underlying 23 = some (.array 16 5) := by kernel_rfl
theorem Try.eqg16 : Try.prog.eqGuardType Try.prog.depth 23 = false := by kernel_rfl

end Go.Proofs.Ythcmdjaccjghjaa
