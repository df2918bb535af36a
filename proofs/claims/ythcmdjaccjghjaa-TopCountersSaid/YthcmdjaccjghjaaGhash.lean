/-
  The walks of package ghash.
-/
import Derived.Test.YthcmdjaccjghjaaBits2
import Derived.Test.YthcmdjaccjghjaaArrEq
import Derived.Test.YthcmdjaccjghjaaGf
namespace Go.Proofs.Ythcmdjaccjghjaa
open Go Go.RowKit

abbrev eV (a b : UInt64) : Value := .agg #[.int .u64 a.toNat, .int .u64 b.toNat]
def onA (a b : UInt64) : UInt64 := if b &&& 1 = 1 then (a >>> 1) ^^^ 16212958658533785600 else a >>> 1
def onB (a b : UInt64) : UInt64 := (b >>> 1) ||| (a <<< 63)

theorem shr1 (a : UInt64) : (a.toNat : Int) / (2 : Int) = ((a >>> 1).toNat : Int) := by
  have := u64_shr a 1 (by omega)
  simpa using this
theorem shl63 (a : UInt64) : IntKind.u64.wrap ((a.toNat : Int) * 9223372036854775808) = ((a <<< 63).toNat : Int) := by
  have := u64_shl a 63 (by omega)
  simpa using this
theorem and1 (b : UInt64) : bits .and .u64 (b.toNat : Int) 1 = ((b &&& 1).toNat : Int) := u64_and b 1
theorem onA_arith (a : UInt64) : bits .xor .u64 ((a.toNat : Int) / 2) 16212958658533785600 = (((a >>> 1) ^^^ 16212958658533785600).toNat : Int) := by
  rw [shr1]; exact u64_xor (a >>> 1) 16212958658533785600
theorem onB_arith (a b : UInt64) : bits .or .u64 ((b.toNat : Int) / 2) (IntKind.u64.wrap ((a.toNat : Int) * 9223372036854775808)) = ((onB a b).toNat : Int) := by
  rw [shr1, shl63]; exact u64_or _ _

theorem blk_mid (w : World) (o1 o3 : Obj) (t : TypeId) (cs : Array Value) : Blk (((w.alloc o1).alloc (.cells cs t)).alloc o3) (w.heap.size + 1) t cs := by
  have := (Blk.new (w.alloc o1) t cs).alloc o3
  simpa using this
theorem Try.sizeElem : (Try.prog.info? 64).map (·.size) = some 2 := by kernel_rfl

set_option maxHeartbeats 1000000 in
theorem on_any (a b : UInt64) (w : World) :
    Calls Try.prog 49 #[eV a b] w fun e w' => e = .returned (eV (onA a b) (onB a b)) ∧ Grows w w' := by
  have H1 := lib_hid (onA_arith a)
  have H2 := lib_hid (onB_arith a b)
  have H3 := lib_hid (shr1 a)
  by_cases hb : b &&& 1 = 1
  · have h1 : bits .and .u64 (b.toNat : Int) 1 = 1 := by rw [and1, hb]; rfl
    have H4 : Hid (onA a b = (a >>> 1) ^^^ 16212958658533785600) := by unfold Hid onA; rw [if_pos hb]
    clear hb
    go_enter Try.func49, Try.ntmps49
    go_wp2
    refine bodyPost_ret (results_cell_row rfl _ _ (w.heap.size + 1) _ _ _ _ rfl (blk_mid _ _ _ _ _) Try.underlying64 rfl Try.sizeElem) rfl ?_
    refine ⟨?_, (((Grows.refl w).alloc _).alloc _).alloc _⟩
    rw [H1.out, H2.out, H4.out]
  · have h1 : ¬ bits .and .u64 (b.toNat : Int) 1 = 1 := by
      rw [and1]; intro h; exact hb (UInt64.toNat_inj.1 (by have h2 : (1 : UInt64).toNat = 1 := rfl; omega))
    have H4 : Hid (onA a b = a >>> 1) := by unfold Hid onA; rw [if_neg hb]
    clear hb
    go_enter Try.func49, Try.ntmps49
    go_wp2
    refine bodyPost_ret (results_cell_row rfl _ _ (w.heap.size + 1) _ _ _ _ rfl (blk_mid _ _ _ _ _) Try.underlying64 rfl Try.sizeElem) rfl ?_
    refine ⟨?_, (((Grows.refl w).alloc _).alloc _).alloc _⟩
    rw [H3.out, H2.out, H4.out]

end Go.Proofs.Ythcmdjaccjghjaa
