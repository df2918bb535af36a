/-
  The model's unsigned whole numbers are Lean's own UInt8, UInt16, UInt32, UInt64: sums, products, bits, shifts and conversions.
  Plain theorems over any program.
-/
import Derived.WalkKit
namespace Go.Proofs.Ythcmdjaccjghjaa
open Go Go.RowKit


theorem u8_lt (x : UInt8) : x.toNat < 256 := x.toNat_lt
theorem u8_wrap (n : Int) : IntKind.u8.wrap n = n % 256 := by simp [IntKind.wrap, IntKind.bits, IntKind.signed]
theorem u8_wrap_ofInt (n : Int) : IntKind.u8.wrap n = ((UInt8.ofInt n).toNat : Int) := by
  rw [u8_wrap]
  simp only [UInt8.ofInt, UInt8.toNat_ofNat']
  omega
theorem u8_wrap_nat (n : Nat) : IntKind.u8.wrap (n : Int) = ((UInt8.ofNat n).toNat : Int) := by
  rw [u8_wrap, UInt8.toNat_ofNat']
  simp
theorem u8_wrap_self (x : UInt8) : IntKind.u8.wrap (x.toNat : Int) = (x.toNat : Int) := by
  have := u8_lt x
  rw [u8_wrap]; omega
theorem u8_wrap_add (x y : UInt8) : IntKind.u8.wrap ((x.toNat : Int) + (y.toNat : Int)) = ((x + y).toNat : Int) := by
  rw [u8_wrap, UInt8.toNat_add]; omega
theorem u8_wrap_sub (x y : UInt8) : IntKind.u8.wrap ((x.toNat : Int) - (y.toNat : Int)) = ((x - y).toNat : Int) := by
  have := u8_lt x
  have := u8_lt y
  rw [u8_wrap, UInt8.toNat_sub]; omega
theorem u8_wrap_mul (x y : UInt8) : IntKind.u8.wrap ((x.toNat : Int) * (y.toNat : Int)) = ((x * y).toNat : Int) := by
  rw [u8_wrap, UInt8.toNat_mul, ← Int.natCast_mul]; omega
theorem u8_wrap_mulk (x : UInt8) (k : Nat) : IntKind.u8.wrap ((x.toNat : Int) * (k : Int)) = ((x * UInt8.ofNat k).toNat : Int) := by
  rw [u8_wrap, UInt8.toNat_mul, UInt8.toNat_ofNat', ← Int.natCast_mul]
  have : (x.toNat * (k % 2 ^ 8)) % 2 ^ 8 = (x.toNat * k) % 256 := by rw [Nat.mul_mod_mod]
  rw [this]; omega
theorem u8_inj (x y : UInt8) : ((x.toNat : Int) = (y.toNat : Int)) ↔ x = y := by
  rw [Int.natCast_inj]; exact UInt8.toNat_inj
theorem u8_beq (x y : UInt8) : ((x.toNat : Int) == (y.toNat : Int)) = (x == y) := by
  rw [Bool.eq_iff_iff]; simp only [beq_iff_eq]; exact u8_inj x y
theorem u8_ofInt_bv (x : UInt8) : BitVec.ofInt 8 (x.toNat : Int) = x.toBitVec := by
  rw [BitVec.ofInt_natCast]; apply BitVec.eq_of_toNat_eq; rw [BitVec.toNat_ofNat]; exact Nat.mod_eq_of_lt x.toNat_lt
theorem u8_back (v : BitVec 8) : IntKind.u8.wrap (v.toNat : Int) = (v.toNat : Int) := u8_wrap_self (UInt8.ofBitVec v)
theorem u8_and (x y : UInt8) : bits .and .u8 (x.toNat : Int) (y.toNat : Int) = ((x &&& y).toNat : Int) := by
  show IntKind.u8.wrap ((BitVec.ofInt 8 (x.toNat : Int) &&& BitVec.ofInt 8 (y.toNat : Int)).toNat : Int) = _
  rw [u8_ofInt_bv, u8_ofInt_bv, u8_back]; rfl
theorem u8_or (x y : UInt8) : bits .or .u8 (x.toNat : Int) (y.toNat : Int) = ((x ||| y).toNat : Int) := by
  show IntKind.u8.wrap ((BitVec.ofInt 8 (x.toNat : Int) ||| BitVec.ofInt 8 (y.toNat : Int)).toNat : Int) = _
  rw [u8_ofInt_bv, u8_ofInt_bv, u8_back]; rfl
theorem u8_xor (x y : UInt8) : bits .xor .u8 (x.toNat : Int) (y.toNat : Int) = ((x ^^^ y).toNat : Int) := by
  show IntKind.u8.wrap ((BitVec.ofInt 8 (x.toNat : Int) ^^^ BitVec.ofInt 8 (y.toNat : Int)).toNat : Int) = _
  rw [u8_ofInt_bv, u8_ofInt_bv, u8_back]; rfl
theorem u8_andNot (x y : UInt8) : bits .andNot .u8 (x.toNat : Int) (y.toNat : Int) = ((x &&& ~~~ y).toNat : Int) := by
  show IntKind.u8.wrap ((BitVec.ofInt 8 (x.toNat : Int) &&& ~~~ (BitVec.ofInt 8 (y.toNat : Int))).toNat : Int) = _
  rw [u8_ofInt_bv, u8_ofInt_bv, u8_back]; rfl
theorem u8_lit (n : Nat) (h : n < 256) : (n : Int) = ((UInt8.ofNat n).toNat : Int) := by
  rw [UInt8.toNat_ofNat']; omega
theorem u8_shl (x : UInt8) (j : Nat) (h : j < 8) : IntKind.u8.wrap ((x.toNat : Int) * 2 ^ j) = ((x <<< UInt8.ofNat j).toNat : Int) := by
  have hb : (UInt8.ofNat j).toNat = j := by rw [UInt8.toNat_ofNat']; omega
  rw [u8_wrap, UInt8.toNat_shiftLeft, hb, Nat.mod_eq_of_lt h, Nat.shiftLeft_eq]
  have e : ((x.toNat : Int) * 2 ^ j) = ((x.toNat * 2 ^ j : Nat) : Int) := by simp
  rw [e]; omega
theorem u8_shr (x : UInt8) (j : Nat) (h : j < 8) : (x.toNat : Int) / 2 ^ j = ((x >>> UInt8.ofNat j).toNat : Int) := by
  have hb : (UInt8.ofNat j).toNat = j := by rw [UInt8.toNat_ofNat']; omega
  rw [UInt8.toNat_shiftRight, hb, Nat.mod_eq_of_lt h, Nat.shiftRight_eq_div_pow]
  simp

theorem u16_lt (x : UInt16) : x.toNat < 65536 := x.toNat_lt
theorem u16_wrap (n : Int) : IntKind.u16.wrap n = n % 65536 := by simp [IntKind.wrap, IntKind.bits, IntKind.signed]
theorem u16_wrap_ofInt (n : Int) : IntKind.u16.wrap n = ((UInt16.ofInt n).toNat : Int) := by
  rw [u16_wrap]
  simp only [UInt16.ofInt, UInt16.toNat_ofNat']
  omega
theorem u16_wrap_nat (n : Nat) : IntKind.u16.wrap (n : Int) = ((UInt16.ofNat n).toNat : Int) := by
  rw [u16_wrap, UInt16.toNat_ofNat']
  simp
theorem u16_wrap_self (x : UInt16) : IntKind.u16.wrap (x.toNat : Int) = (x.toNat : Int) := by
  have := u16_lt x
  rw [u16_wrap]; omega
theorem u16_wrap_add (x y : UInt16) : IntKind.u16.wrap ((x.toNat : Int) + (y.toNat : Int)) = ((x + y).toNat : Int) := by
  rw [u16_wrap, UInt16.toNat_add]; omega
theorem u16_wrap_sub (x y : UInt16) : IntKind.u16.wrap ((x.toNat : Int) - (y.toNat : Int)) = ((x - y).toNat : Int) := by
  have := u16_lt x
  have := u16_lt y
  rw [u16_wrap, UInt16.toNat_sub]; omega
theorem u16_wrap_mul (x y : UInt16) : IntKind.u16.wrap ((x.toNat : Int) * (y.toNat : Int)) = ((x * y).toNat : Int) := by
  rw [u16_wrap, UInt16.toNat_mul, ← Int.natCast_mul]; omega
theorem u16_wrap_mulk (x : UInt16) (k : Nat) : IntKind.u16.wrap ((x.toNat : Int) * (k : Int)) = ((x * UInt16.ofNat k).toNat : Int) := by
  rw [u16_wrap, UInt16.toNat_mul, UInt16.toNat_ofNat', ← Int.natCast_mul]
  have : (x.toNat * (k % 2 ^ 16)) % 2 ^ 16 = (x.toNat * k) % 65536 := by rw [Nat.mul_mod_mod]
  rw [this]; omega
theorem u16_inj (x y : UInt16) : ((x.toNat : Int) = (y.toNat : Int)) ↔ x = y := by
  rw [Int.natCast_inj]; exact UInt16.toNat_inj
theorem u16_beq (x y : UInt16) : ((x.toNat : Int) == (y.toNat : Int)) = (x == y) := by
  rw [Bool.eq_iff_iff]; simp only [beq_iff_eq]; exact u16_inj x y
theorem u16_ofInt_bv (x : UInt16) : BitVec.ofInt 16 (x.toNat : Int) = x.toBitVec := by
  rw [BitVec.ofInt_natCast]; apply BitVec.eq_of_toNat_eq; rw [BitVec.toNat_ofNat]; exact Nat.mod_eq_of_lt x.toNat_lt
theorem u16_back (v : BitVec 16) : IntKind.u16.wrap (v.toNat : Int) = (v.toNat : Int) := u16_wrap_self (UInt16.ofBitVec v)
theorem u16_and (x y : UInt16) : bits .and .u16 (x.toNat : Int) (y.toNat : Int) = ((x &&& y).toNat : Int) := by
  show IntKind.u16.wrap ((BitVec.ofInt 16 (x.toNat : Int) &&& BitVec.ofInt 16 (y.toNat : Int)).toNat : Int) = _
  rw [u16_ofInt_bv, u16_ofInt_bv, u16_back]; rfl
theorem u16_or (x y : UInt16) : bits .or .u16 (x.toNat : Int) (y.toNat : Int) = ((x ||| y).toNat : Int) := by
  show IntKind.u16.wrap ((BitVec.ofInt 16 (x.toNat : Int) ||| BitVec.ofInt 16 (y.toNat : Int)).toNat : Int) = _
  rw [u16_ofInt_bv, u16_ofInt_bv, u16_back]; rfl
theorem u16_xor (x y : UInt16) : bits .xor .u16 (x.toNat : Int) (y.toNat : Int) = ((x ^^^ y).toNat : Int) := by
  show IntKind.u16.wrap ((BitVec.ofInt 16 (x.toNat : Int) ^^^ BitVec.ofInt 16 (y.toNat : Int)).toNat : Int) = _
  rw [u16_ofInt_bv, u16_ofInt_bv, u16_back]; rfl
theorem u16_andNot (x y : UInt16) : bits .andNot .u16 (x.toNat : Int) (y.toNat : Int) = ((x &&& ~~~ y).toNat : Int) := by
  show IntKind.u16.wrap ((BitVec.ofInt 16 (x.toNat : Int) &&& ~~~ (BitVec.ofInt 16 (y.toNat : Int))).toNat : Int) = _
  rw [u16_ofInt_bv, u16_ofInt_bv, u16_back]; rfl
theorem u16_lit (n : Nat) (h : n < 65536) : (n : Int) = ((UInt16.ofNat n).toNat : Int) := by
  rw [UInt16.toNat_ofNat']; omega
theorem u16_shl (x : UInt16) (j : Nat) (h : j < 16) : IntKind.u16.wrap ((x.toNat : Int) * 2 ^ j) = ((x <<< UInt16.ofNat j).toNat : Int) := by
  have hb : (UInt16.ofNat j).toNat = j := by rw [UInt16.toNat_ofNat']; omega
  rw [u16_wrap, UInt16.toNat_shiftLeft, hb, Nat.mod_eq_of_lt h, Nat.shiftLeft_eq]
  have e : ((x.toNat : Int) * 2 ^ j) = ((x.toNat * 2 ^ j : Nat) : Int) := by simp
  rw [e]; omega
theorem u16_shr (x : UInt16) (j : Nat) (h : j < 16) : (x.toNat : Int) / 2 ^ j = ((x >>> UInt16.ofNat j).toNat : Int) := by
  have hb : (UInt16.ofNat j).toNat = j := by rw [UInt16.toNat_ofNat']; omega
  rw [UInt16.toNat_shiftRight, hb, Nat.mod_eq_of_lt h, Nat.shiftRight_eq_div_pow]
  simp

theorem u32_lt (x : UInt32) : x.toNat < 4294967296 := x.toNat_lt
theorem u32_wrap (n : Int) : IntKind.u32.wrap n = n % 4294967296 := by simp [IntKind.wrap, IntKind.bits, IntKind.signed]
theorem u32_wrap_ofInt (n : Int) : IntKind.u32.wrap n = ((UInt32.ofInt n).toNat : Int) := by
  rw [u32_wrap]
  simp only [UInt32.ofInt, UInt32.toNat_ofNat']
  omega
theorem u32_wrap_nat (n : Nat) : IntKind.u32.wrap (n : Int) = ((UInt32.ofNat n).toNat : Int) := by
  rw [u32_wrap, UInt32.toNat_ofNat']
  simp
theorem u32_wrap_self (x : UInt32) : IntKind.u32.wrap (x.toNat : Int) = (x.toNat : Int) := by
  have := u32_lt x
  rw [u32_wrap]; omega
theorem u32_wrap_add (x y : UInt32) : IntKind.u32.wrap ((x.toNat : Int) + (y.toNat : Int)) = ((x + y).toNat : Int) := by
  rw [u32_wrap, UInt32.toNat_add]; omega
theorem u32_wrap_sub (x y : UInt32) : IntKind.u32.wrap ((x.toNat : Int) - (y.toNat : Int)) = ((x - y).toNat : Int) := by
  have := u32_lt x
  have := u32_lt y
  rw [u32_wrap, UInt32.toNat_sub]; omega
theorem u32_wrap_mul (x y : UInt32) : IntKind.u32.wrap ((x.toNat : Int) * (y.toNat : Int)) = ((x * y).toNat : Int) := by
  rw [u32_wrap, UInt32.toNat_mul, ← Int.natCast_mul]; omega
theorem u32_wrap_mulk (x : UInt32) (k : Nat) : IntKind.u32.wrap ((x.toNat : Int) * (k : Int)) = ((x * UInt32.ofNat k).toNat : Int) := by
  rw [u32_wrap, UInt32.toNat_mul, UInt32.toNat_ofNat', ← Int.natCast_mul]
  have : (x.toNat * (k % 2 ^ 32)) % 2 ^ 32 = (x.toNat * k) % 4294967296 := by rw [Nat.mul_mod_mod]
  rw [this]; omega
theorem u32_inj (x y : UInt32) : ((x.toNat : Int) = (y.toNat : Int)) ↔ x = y := by
  rw [Int.natCast_inj]; exact UInt32.toNat_inj
theorem u32_beq (x y : UInt32) : ((x.toNat : Int) == (y.toNat : Int)) = (x == y) := by
  rw [Bool.eq_iff_iff]; simp only [beq_iff_eq]; exact u32_inj x y
theorem u32_ofInt_bv (x : UInt32) : BitVec.ofInt 32 (x.toNat : Int) = x.toBitVec := by
  rw [BitVec.ofInt_natCast]; apply BitVec.eq_of_toNat_eq; rw [BitVec.toNat_ofNat]; exact Nat.mod_eq_of_lt x.toNat_lt
theorem u32_back (v : BitVec 32) : IntKind.u32.wrap (v.toNat : Int) = (v.toNat : Int) := u32_wrap_self (UInt32.ofBitVec v)
theorem u32_and (x y : UInt32) : bits .and .u32 (x.toNat : Int) (y.toNat : Int) = ((x &&& y).toNat : Int) := by
  show IntKind.u32.wrap ((BitVec.ofInt 32 (x.toNat : Int) &&& BitVec.ofInt 32 (y.toNat : Int)).toNat : Int) = _
  rw [u32_ofInt_bv, u32_ofInt_bv, u32_back]; rfl
theorem u32_or (x y : UInt32) : bits .or .u32 (x.toNat : Int) (y.toNat : Int) = ((x ||| y).toNat : Int) := by
  show IntKind.u32.wrap ((BitVec.ofInt 32 (x.toNat : Int) ||| BitVec.ofInt 32 (y.toNat : Int)).toNat : Int) = _
  rw [u32_ofInt_bv, u32_ofInt_bv, u32_back]; rfl
theorem u32_xor (x y : UInt32) : bits .xor .u32 (x.toNat : Int) (y.toNat : Int) = ((x ^^^ y).toNat : Int) := by
  show IntKind.u32.wrap ((BitVec.ofInt 32 (x.toNat : Int) ^^^ BitVec.ofInt 32 (y.toNat : Int)).toNat : Int) = _
  rw [u32_ofInt_bv, u32_ofInt_bv, u32_back]; rfl
theorem u32_andNot (x y : UInt32) : bits .andNot .u32 (x.toNat : Int) (y.toNat : Int) = ((x &&& ~~~ y).toNat : Int) := by
  show IntKind.u32.wrap ((BitVec.ofInt 32 (x.toNat : Int) &&& ~~~ (BitVec.ofInt 32 (y.toNat : Int))).toNat : Int) = _
  rw [u32_ofInt_bv, u32_ofInt_bv, u32_back]; rfl
theorem u32_lit (n : Nat) (h : n < 4294967296) : (n : Int) = ((UInt32.ofNat n).toNat : Int) := by
  rw [UInt32.toNat_ofNat']; omega
theorem u32_shl (x : UInt32) (j : Nat) (h : j < 32) : IntKind.u32.wrap ((x.toNat : Int) * 2 ^ j) = ((x <<< UInt32.ofNat j).toNat : Int) := by
  have hb : (UInt32.ofNat j).toNat = j := by rw [UInt32.toNat_ofNat']; omega
  rw [u32_wrap, UInt32.toNat_shiftLeft, hb, Nat.mod_eq_of_lt h, Nat.shiftLeft_eq]
  have e : ((x.toNat : Int) * 2 ^ j) = ((x.toNat * 2 ^ j : Nat) : Int) := by simp
  rw [e]; omega
theorem u32_shr (x : UInt32) (j : Nat) (h : j < 32) : (x.toNat : Int) / 2 ^ j = ((x >>> UInt32.ofNat j).toNat : Int) := by
  have hb : (UInt32.ofNat j).toNat = j := by rw [UInt32.toNat_ofNat']; omega
  rw [UInt32.toNat_shiftRight, hb, Nat.mod_eq_of_lt h, Nat.shiftRight_eq_div_pow]
  simp

theorem u64_lt (x : UInt64) : x.toNat < 18446744073709551616 := x.toNat_lt
theorem u64_wrap (n : Int) : IntKind.u64.wrap n = n % 18446744073709551616 := by simp [IntKind.wrap, IntKind.bits, IntKind.signed]
theorem u64_wrap_ofInt (n : Int) : IntKind.u64.wrap n = ((UInt64.ofInt n).toNat : Int) := by
  rw [u64_wrap]
  simp only [UInt64.ofInt, UInt64.toNat_ofNat']
  omega
theorem u64_wrap_nat (n : Nat) : IntKind.u64.wrap (n : Int) = ((UInt64.ofNat n).toNat : Int) := by
  rw [u64_wrap, UInt64.toNat_ofNat']
  simp
theorem u64_wrap_self (x : UInt64) : IntKind.u64.wrap (x.toNat : Int) = (x.toNat : Int) := by
  have := u64_lt x
  rw [u64_wrap]; omega
theorem u64_wrap_add (x y : UInt64) : IntKind.u64.wrap ((x.toNat : Int) + (y.toNat : Int)) = ((x + y).toNat : Int) := by
  rw [u64_wrap, UInt64.toNat_add]; omega
theorem u64_wrap_sub (x y : UInt64) : IntKind.u64.wrap ((x.toNat : Int) - (y.toNat : Int)) = ((x - y).toNat : Int) := by
  have := u64_lt x
  have := u64_lt y
  rw [u64_wrap, UInt64.toNat_sub]; omega
theorem u64_wrap_mul (x y : UInt64) : IntKind.u64.wrap ((x.toNat : Int) * (y.toNat : Int)) = ((x * y).toNat : Int) := by
  rw [u64_wrap, UInt64.toNat_mul, ← Int.natCast_mul]; omega
theorem u64_wrap_mulk (x : UInt64) (k : Nat) : IntKind.u64.wrap ((x.toNat : Int) * (k : Int)) = ((x * UInt64.ofNat k).toNat : Int) := by
  rw [u64_wrap, UInt64.toNat_mul, UInt64.toNat_ofNat', ← Int.natCast_mul]
  have : (x.toNat * (k % 2 ^ 64)) % 2 ^ 64 = (x.toNat * k) % 18446744073709551616 := by rw [Nat.mul_mod_mod]
  rw [this]; omega
theorem u64_inj (x y : UInt64) : ((x.toNat : Int) = (y.toNat : Int)) ↔ x = y := by
  rw [Int.natCast_inj]; exact UInt64.toNat_inj
theorem u64_beq (x y : UInt64) : ((x.toNat : Int) == (y.toNat : Int)) = (x == y) := by
  rw [Bool.eq_iff_iff]; simp only [beq_iff_eq]; exact u64_inj x y
theorem u64_ofInt_bv (x : UInt64) : BitVec.ofInt 64 (x.toNat : Int) = x.toBitVec := by
  rw [BitVec.ofInt_natCast]; apply BitVec.eq_of_toNat_eq; rw [BitVec.toNat_ofNat]; exact Nat.mod_eq_of_lt x.toNat_lt
theorem u64_back (v : BitVec 64) : IntKind.u64.wrap (v.toNat : Int) = (v.toNat : Int) := u64_wrap_self (UInt64.ofBitVec v)
theorem u64_and (x y : UInt64) : bits .and .u64 (x.toNat : Int) (y.toNat : Int) = ((x &&& y).toNat : Int) := by
  show IntKind.u64.wrap ((BitVec.ofInt 64 (x.toNat : Int) &&& BitVec.ofInt 64 (y.toNat : Int)).toNat : Int) = _
  rw [u64_ofInt_bv, u64_ofInt_bv, u64_back]; rfl
theorem u64_or (x y : UInt64) : bits .or .u64 (x.toNat : Int) (y.toNat : Int) = ((x ||| y).toNat : Int) := by
  show IntKind.u64.wrap ((BitVec.ofInt 64 (x.toNat : Int) ||| BitVec.ofInt 64 (y.toNat : Int)).toNat : Int) = _
  rw [u64_ofInt_bv, u64_ofInt_bv, u64_back]; rfl
theorem u64_xor (x y : UInt64) : bits .xor .u64 (x.toNat : Int) (y.toNat : Int) = ((x ^^^ y).toNat : Int) := by
  show IntKind.u64.wrap ((BitVec.ofInt 64 (x.toNat : Int) ^^^ BitVec.ofInt 64 (y.toNat : Int)).toNat : Int) = _
  rw [u64_ofInt_bv, u64_ofInt_bv, u64_back]; rfl
theorem u64_andNot (x y : UInt64) : bits .andNot .u64 (x.toNat : Int) (y.toNat : Int) = ((x &&& ~~~ y).toNat : Int) := by
  show IntKind.u64.wrap ((BitVec.ofInt 64 (x.toNat : Int) &&& ~~~ (BitVec.ofInt 64 (y.toNat : Int))).toNat : Int) = _
  rw [u64_ofInt_bv, u64_ofInt_bv, u64_back]; rfl
theorem u64_lit (n : Nat) (h : n < 18446744073709551616) : (n : Int) = ((UInt64.ofNat n).toNat : Int) := by
  rw [UInt64.toNat_ofNat']; omega
theorem u64_shl (x : UInt64) (j : Nat) (h : j < 64) : IntKind.u64.wrap ((x.toNat : Int) * 2 ^ j) = ((x <<< UInt64.ofNat j).toNat : Int) := by
  have hb : (UInt64.ofNat j).toNat = j := by rw [UInt64.toNat_ofNat']; omega
  rw [u64_wrap, UInt64.toNat_shiftLeft, hb, Nat.mod_eq_of_lt h, Nat.shiftLeft_eq]
  have e : ((x.toNat : Int) * 2 ^ j) = ((x.toNat * 2 ^ j : Nat) : Int) := by simp
  rw [e]; omega
theorem u64_shr (x : UInt64) (j : Nat) (h : j < 64) : (x.toNat : Int) / 2 ^ j = ((x >>> UInt64.ofNat j).toNat : Int) := by
  have hb : (UInt64.ofNat j).toNat = j := by rw [UInt64.toNat_ofNat']; omega
  rw [UInt64.toNat_shiftRight, hb, Nat.mod_eq_of_lt h, Nat.shiftRight_eq_div_pow]
  simp
theorem u16_of_u8 (x : UInt8) : IntKind.u16.wrap (x.toNat : Int) = (x.toUInt16.toNat : Int) := by
  have := u8_lt x
  rw [u16_wrap, UInt8.toNat_toUInt16]; omega
theorem u32_of_u8 (x : UInt8) : IntKind.u32.wrap (x.toNat : Int) = (x.toUInt32.toNat : Int) := by
  have := u8_lt x
  rw [u32_wrap, UInt8.toNat_toUInt32]; omega
theorem u64_of_u8 (x : UInt8) : IntKind.u64.wrap (x.toNat : Int) = (x.toUInt64.toNat : Int) := by
  have := u8_lt x
  rw [u64_wrap, UInt8.toNat_toUInt64]; omega
theorem u8_of_u16 (x : UInt16) : IntKind.u8.wrap (x.toNat : Int) = (x.toUInt8.toNat : Int) := by
  rw [u8_wrap, UInt16.toNat_toUInt8]; omega
theorem u32_of_u16 (x : UInt16) : IntKind.u32.wrap (x.toNat : Int) = (x.toUInt32.toNat : Int) := by
  have := u16_lt x
  rw [u32_wrap, UInt16.toNat_toUInt32]; omega
theorem u64_of_u16 (x : UInt16) : IntKind.u64.wrap (x.toNat : Int) = (x.toUInt64.toNat : Int) := by
  have := u16_lt x
  rw [u64_wrap, UInt16.toNat_toUInt64]; omega
theorem u8_of_u32 (x : UInt32) : IntKind.u8.wrap (x.toNat : Int) = (x.toUInt8.toNat : Int) := by
  rw [u8_wrap, UInt32.toNat_toUInt8]; omega
theorem u16_of_u32 (x : UInt32) : IntKind.u16.wrap (x.toNat : Int) = (x.toUInt16.toNat : Int) := by
  rw [u16_wrap, UInt32.toNat_toUInt16]; omega
theorem u64_of_u32 (x : UInt32) : IntKind.u64.wrap (x.toNat : Int) = (x.toUInt64.toNat : Int) := by
  have := u32_lt x
  rw [u64_wrap, UInt32.toNat_toUInt64]; omega
theorem u8_of_u64 (x : UInt64) : IntKind.u8.wrap (x.toNat : Int) = (x.toUInt8.toNat : Int) := by
  rw [u8_wrap, UInt64.toNat_toUInt8]; omega
theorem u16_of_u64 (x : UInt64) : IntKind.u16.wrap (x.toNat : Int) = (x.toUInt16.toNat : Int) := by
  rw [u16_wrap, UInt64.toNat_toUInt16]; omega
theorem u32_of_u64 (x : UInt64) : IntKind.u32.wrap (x.toNat : Int) = (x.toUInt32.toNat : Int) := by
  rw [u32_wrap, UInt64.toNat_toUInt32]; omega

theorem i64_wrap (n : Int) (h0 : -9223372036854775808 ≤ n) (h1 : n < 9223372036854775808) : IntKind.i64.wrap n = n := by
  rw [IntKind.wrap_i64]; omega

end Go.Proofs.Ythcmdjaccjghjaa
