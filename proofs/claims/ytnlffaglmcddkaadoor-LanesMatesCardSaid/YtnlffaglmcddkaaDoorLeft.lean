/-
  The walk of bits.Left.
-/
import Derived.Test.YtnlffaglmcddkaaDoorRows
import Derived.Test.YtnlffaglmcddkaaDoorMem
import Derived.WalkKit
import Derived.WalkSpells
import Derived.WalkLawsBesides
namespace Go.Proofs.YtnlffaglmcddkaaDoor
open Go Go.RowKit

def leftF (x : UInt32) (n : Int) : UInt32 := ⟨x.toBitVec.rotateLeft (n % 32).toNat⟩
theorem and31 (n : Int) : bits BinOp.and IntKind.u64 (IntKind.u64.wrap n) 31 = n % 32 := by
  rw [u64_wrap_ofInt, show (31 : Int) = (((31 : UInt64).toNat : Nat) : Int) from rfl, u64_and]
  rw [UInt64.toNat_and]
  show (((UInt64.ofInt n).toNat &&& 2 ^ 5 - 1 : Nat) : Int) = n % 32
  rw [Nat.and_two_pow_sub_one_eq_mod, UInt64.ofInt, UInt64.toNat_ofNat']
  omega
theorem left_arith (x : UInt32) (n : Int) : bits BinOp.or IntKind.u32 (↑x.toNat * 2 ^ (n % 32).toNat % 4294967296) (↑x.toNat / 2 ^ (32 - n % 32).toNat) = ((leftF x n).toNat : Int) := by
  obtain ⟨r, hr, e⟩ : ∃ r : Nat, r < 32 ∧ n % 32 = (r : Int) := ⟨(n % 32).toNat, by omega, by omega⟩
  have e1 : (n % 32).toNat = r := by omega
  have e2 : (32 - n % 32).toNat = 32 - r := by omega
  have hl : (leftF x n).toNat = (x.toBitVec <<< r ||| x.toBitVec >>> (32 - r)).toNat := by
    unfold leftF
    rw [e, Int.toNat_natCast, BitVec.rotateLeft, BitVec.rotateLeftAux, Nat.mod_eq_of_lt hr]
    rfl
  rw [e1, e2, hl]
  have h1 : (x.toNat : Int) * 2 ^ r % 4294967296 = (((UInt32.ofBitVec (x.toBitVec <<< r)).toNat : Nat) : Int) := by
    show _ = (((x.toBitVec <<< r).toNat : Nat) : Int)
    rw [BitVec.toNat_shiftLeft, Nat.shiftLeft_eq]
    have : (x.toNat : Int) * 2 ^ r = ((x.toNat * 2 ^ r : Nat) : Int) := by simp
    rw [this]; show _ = ((x.toNat * 2 ^ r % 4294967296 : Nat) : Int); omega
  have h2 : (x.toNat : Int) / 2 ^ (32 - r) = (((UInt32.ofBitVec (x.toBitVec >>> (32 - r))).toNat : Nat) : Int) := by
    show _ = (((x.toBitVec >>> (32 - r)).toNat : Nat) : Int)
    rw [BitVec.toNat_ushiftRight, Nat.shiftRight_eq_div_pow]
    have : (2 : Int) ^ (32 - r) = ((2 ^ (32 - r) : Nat) : Int) := by simp
    rw [this]; exact (Int.natCast_ediv _ _).symm
  rw [h1, h2, u32_or]
  rfl
set_option maxHeartbeats 400000 in
theorem rot_any (x : UInt32) (n : Int) (w : World) :
    Calls Tryd.prog 56 #[.int .u32 x.toNat, .int .i64 n] w fun e w' => e = .returned (.int .u32 (leftF x n).toNat) ∧ w = w' := by
  have h1 := and31 n
  have h2 : 0 ≤ n % 32 := by omega
  have h3 : n % 32 < 32 := by omega
  go_enter Tryd.func56, Tryd.ntmps56
  go_wp2
  go_ret
  exact ⟨congrArg (fun z => Ending.returned (Value.int .u32 z)) (left_arith x n), rfl⟩
set_option maxHeartbeats 400000 in
theorem left_any (x : UInt32) (n : Int) (w : World) :
    Calls Tryd.prog 52 #[.int .u32 x.toNat, .int .i64 n] w fun e w' => e = .returned (.int .u32 (leftF x n).toNat) ∧ w = w' := by
  go_enter Tryd.func52, Tryd.ntmps52
  go_wp2_with (go_at_call 56; refine (rot_any _ _ _).mono ?_; rintro e w' ⟨rfl, rfl⟩)
  go_ret
  exact ⟨rfl, rfl⟩

/-! ### Plain laws of turning -/
theorem rotl_bit (x : BitVec 32) (r i : Nat) (hi : i < 32) : (x.rotateLeft r).getLsbD i = x.getLsbD ((i + 32 - r % 32) % 32) := by
  have hr : r % 32 < 32 := Nat.mod_lt _ (by omega)
  rw [BitVec.getLsbD_rotateLeft]
  by_cases h : i < r % 32
  · rw [decide_eq_true h, cond_true]
    congr 1; omega
  · rw [decide_eq_false h, cond_false, decide_eq_true hi, Bool.true_and]
    congr 1; omega
theorem rotl_add (x : BitVec 32) (a b : Nat) : (x.rotateLeft a).rotateLeft b = x.rotateLeft (a + b) := by
  apply BitVec.eq_of_getLsbD_eq
  intro i hi
  rw [rotl_bit _ _ _ hi, rotl_bit _ _ _ (Nat.mod_lt _ (by omega)), rotl_bit _ _ _ hi]
  congr 1
  have ha : a % 32 < 32 := Nat.mod_lt _ (by omega)
  have hb : b % 32 < 32 := Nat.mod_lt _ (by omega)
  omega
theorem rotl_zero (x : BitVec 32) (r : Nat) (h : r % 32 = 0) : x.rotateLeft r = x := by
  apply BitVec.eq_of_getLsbD_eq
  intro i hi
  rw [rotl_bit _ _ _ hi]
  congr 1; omega
theorem leftF_zero (x : UInt32) (n : Int) (h : n % 32 = 0) : leftF x n = x := by
  apply UInt32.toBitVec_inj.1
  show x.toBitVec.rotateLeft _ = _
  rw [h]
  exact rotl_zero _ _ rfl
theorem leftF_add (x : UInt32) (a b : Int) : leftF (leftF x a) b = leftF x (a + b) := by
  apply UInt32.toBitVec_inj.1
  show (x.toBitVec.rotateLeft _).rotateLeft _ = x.toBitVec.rotateLeft _
  rw [rotl_add]
  apply BitVec.eq_of_getLsbD_eq
  intro i hi
  rw [rotl_bit _ _ _ hi, rotl_bit _ _ _ hi]
  congr 1
  omega
theorem leftF_mod (x : UInt32) (n : Int) : leftF x (n % 32) = leftF x n := by
  unfold leftF; rw [Int.emod_emod_of_dvd _ (Int.dvd_refl 32)]
theorem leftF_one (x : UInt32) : ((leftF x 1).toNat : Int) = ((x.toNat : Int) * 2 % 4294967296 + (x.toNat : Int) / 2147483648) % 4294967296 := by
  rw [← left_arith]
  have hx := u32_lt x
  have e1 : (x.toNat : Int) * 2 ^ ((1 : Int) % 32).toNat % 4294967296 = ((2 ^ 1 * (x.toNat % 2147483648) : Nat) : Int) := by
    show (x.toNat : Int) * 2 ^ 1 % 4294967296 = _
    omega
  have e2 : (x.toNat : Int) / 2 ^ (32 - (1 : Int) % 32).toNat = ((x.toNat / 2147483648 : Nat) : Int) := by
    show (x.toNat : Int) / 2147483648 = _
    omega
  rw [e1, e2]
  have e3 : (((2 ^ 1 * (x.toNat % 2147483648) : Nat)) : Int) = ((UInt32.ofNat (2 ^ 1 * (x.toNat % 2147483648))).toNat : Int) := by rw [UInt32.toNat_ofNat']; omega
  have e4 : ((x.toNat / 2147483648 : Nat) : Int) = ((UInt32.ofNat (x.toNat / 2147483648)).toNat : Int) := by rw [UInt32.toNat_ofNat']; omega
  have m1 : (UInt32.ofNat (2 ^ 1 * (x.toNat % 2147483648))).toNat = 2 ^ 1 * (x.toNat % 2147483648) := by rw [UInt32.toNat_ofNat']; omega
  have m2 : (UInt32.ofNat (x.toNat / 2147483648)).toNat = x.toNat / 2147483648 := by rw [UInt32.toNat_ofNat']; omega
  rw [e3, e4, u32_or, UInt32.toNat_or, m1, m2, ← Nat.two_pow_add_eq_or_of_lt (by omega)]
  omega

end Go.Proofs.YtnlffaglmcddkaaDoor
