/-
  The walks of ghash.Lengths and palfreyref06.Lengths.
-/
import Derived.Test.YthcmdjaccjghjaaGhash3
import Derived.Test.YthcmdjaccjghjaaRef1
import Derived.Deep.Cut
namespace Go.Proofs.Ythcmdjaccjghjaa
open Go Go.RowKit
set_option linter.unusedSimpArgs false


set_option maxRecDepth 100000 in
set_option maxHeartbeats 4000000 in
theorem lengths_any (n m : Int) (w : World) : Calls Try.prog 11 #[.int .i64 n, .int .i64 m] w fun e w' => e = .returned (.agg ((blockF (8 * UInt64.ofInt n) (8 * UInt64.ofInt m)).map b8).toArray) ∧ Grows w w' := by
  obtain ⟨u, Hu, hu⟩ : ∃ x : UInt64, Hid (UInt64.ofInt n = x) ∧ IntKind.u64.wrap n = (x.toNat : Int) := ⟨_, lib_hid rfl, u64_wrap_ofInt n⟩
  obtain ⟨v, Hv, hv⟩ : ∃ x : UInt64, Hid (UInt64.ofInt m = x) ∧ IntKind.u64.wrap m = (x.toNat : Int) := ⟨_, lib_hid rfl, u64_wrap_ofInt m⟩
  obtain ⟨a, Ha, ha⟩ : ∃ x : UInt64, Hid (8 * u = x) ∧ IntKind.u64.wrap (8 * (u.toNat : Int)) = (x.toNat : Int) := ⟨_, lib_hid rfl, u64_wrap_mul 8 u⟩
  obtain ⟨b, Hb, hb⟩ : ∃ x : UInt64, Hid (8 * v = x) ∧ IntKind.u64.wrap (8 * (v.toNat : Int)) = (x.toNat : Int) := ⟨_, lib_hid rfl, u64_wrap_mul 8 v⟩
  rw [Hu.out, Hv.out, Ha.out, Hb.out]
  obtain ⟨W0, HW0, hW0, hg0⟩ : ∃ W0 : World, Hid (W0 = w.alloc (.cells #[.int .u8 0, .int .u8 0, .int .u8 0, .int .u8 0, .int .u8 0, .int .u8 0, .int .u8 0, .int .u8 0, .int .u8 0, .int .u8 0, .int .u8 0, .int .u8 0, .int .u8 0, .int .u8 0, .int .u8 0, .int .u8 0] 23)) ∧ W0.heap.size = w.heap.size + 1 ∧ Grows w W0 := ⟨_, lib_hid rfl, by simp, (Grows.refl w).alloc _⟩
  have HB0 : Hid (Blk W0 w.heap.size 23 #[.int .u8 0, .int .u8 0, .int .u8 0, .int .u8 0, .int .u8 0, .int .u8 0, .int .u8 0, .int .u8 0, .int .u8 0, .int .u8 0, .int .u8 0, .int .u8 0, .int .u8 0, .int .u8 0, .int .u8 0, .int .u8 0]) := by
    unfold Hid; rw [HW0.out]; have := Blk.new (w) 23 #[.int .u8 0, .int .u8 0, .int .u8 0, .int .u8 0, .int .u8 0, .int .u8 0, .int .u8 0, .int .u8 0, .int .u8 0, .int .u8 0, .int .u8 0, .int .u8 0, .int .u8 0, .int .u8 0, .int .u8 0, .int .u8 0]; simpa using this
  obtain ⟨res, Hres, hrl, hra⟩ : ∃ r : Array Value, Hid (((blockF a b).map b8).toArray = r) ∧ r.size = 16 ∧ r.all (·.oneCell') = true := ⟨_, lib_hid rfl, by rw [List.size_toArray, List.length_map]; exact blockF_len _ _, cells_all _⟩
  have HW0' := HW0.out
  clear hW0
  go_enter Try.func11, Try.ntmps11
  go_upto_region 1 with fail
  rw [← HW0']
  clear HW0'
  go_wp2_with fail
  refine (block_any a b W0).mono ?_
  rintro e w1 ⟨rfl, hg1⟩
  rw [Hres.out]
  have HR := lib_hid (HB0.out.grows hg1)
  have hgw := hg0.trans hg1
  go_wp2_with (refine wpList_store_blk rfl _ _ _ rfl w.heap.size res rfl rfl 23 _ HR.out (by rw [Try.size16, hrl]) (by simp [hrl]) hra w.heap.size w1 (Below.refl _ _) (Nat.le_refl _) ?_; intro w7 HR7 hb7 hgr7)
  refine bodyPost_ret (results_cell_row rfl _ _ w.heap.size _ res _ _ rfl HR7 Try.underlying23 rfl (by rw [Try.size16, hrl])) rfl ?_
  exact ⟨by rw [Hres.out], Below.trans hgw (hb7.mono (by omega))⟩

end Go.Proofs.Ythcmdjaccjghjaa
