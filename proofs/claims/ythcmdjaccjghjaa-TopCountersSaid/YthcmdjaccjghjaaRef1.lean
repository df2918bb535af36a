/-
  The walks of the references of layer 1: numbers and bytes.
-/
import Derived.Test.YthcmdjaccjghjaaLe
namespace Go.Proofs.Ythcmdjaccjghjaa
open Go Go.RowKit

/-- One element more: the block that holds it is the source. -/
theorem one_row (w : World) (t : TypeId) (v : Value) : Row (w.alloc (.cells #[v] t)) (some ⟨w.heap.size, 0, none⟩) 1 1 [v] := by
  have := (Blk.new w t #[v]).row (o := 0) (n := 1) (c := 1) (Nat.le_refl _) (by simp) (by unfold maxLen; omega)
  exact this

theorem refStep_arith (X U : UInt64) (c : UInt8) : IntKind.u64.wrap ((X.toNat : Int) + IntKind.u64.wrap ((U.toNat : Int) * IntKind.u64.wrap (c.toNat : Int))) = ((X + U * c.toUInt64).toNat : Int) := by
  rw [u64_of_u8, u64_wrap_mul, u64_wrap_add]
theorem refUnit_arith (U : UInt64) : IntKind.u64.wrap ((U.toNat : Int) * 256) = ((U * 256).toNat : Int) := by
  rw [show (256 : Int) = ((256 : Nat) : Int) from rfl, u64_wrap_mulk]; rfl
theorem refStep_eq (n k : Nat) (c : UInt8) : UInt64.ofNat n + UInt64.ofNat (256 ^ k) * c.toUInt64 = UInt64.ofNat (n + 256 ^ k * c.toNat) := by
  rw [toU64_eq, UInt64.ofNat_add, UInt64.ofNat_mul]
theorem refUnit_eq (k : Nat) : UInt64.ofNat (256 ^ k) * 256 = UInt64.ofNat (256 ^ (k + 1)) := by
  rw [Nat.pow_succ, UInt64.ofNat_mul]; rfl







end Go.Proofs.Ythcmdjaccjghjaa
