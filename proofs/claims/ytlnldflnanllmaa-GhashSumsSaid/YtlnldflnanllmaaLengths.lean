/-
  The walks of ghash.Lengths and palfreyref06.Lengths.
-/
import Derived.Test.YtlnldflnanllmaaGhash3
import Derived.Test.YtlnldflnanllmaaRef1
import Derived.Deep.Cut
namespace Go.Proofs.Ytlnldflnanllmaa
open Go Go.RowKit
set_option linter.unusedSimpArgs false


set_option maxRecDepth 100000 in
set_option maxHeartbeats 4000000 in
theorem lengths_any (n m : Int) (w : World) : Calls Try.prog 17 #[.int .i64 n, .int .i64 m] w fun e w' => e = .returned (.agg ((blockF (8 * UInt64.ofInt n) (8 * UInt64.ofInt m)).map b8).toArray) ∧ Grows w w' := by
  obtain ⟨u, Hu, hu⟩ : ∃ x : UInt64, Hid (UInt64.ofInt n = x) ∧ IntKind.u64.wrap n = (x.toNat : Int) := ⟨_, lib_hid rfl, u64_wrap_ofInt n⟩
  obtain ⟨v, Hv, hv⟩ : ∃ x : UInt64, Hid (UInt64.ofInt m = x) ∧ IntKind.u64.wrap m = (x.toNat : Int) := ⟨_, lib_hid rfl, u64_wrap_ofInt m⟩
  obtain ⟨a, Ha, ha⟩ : ∃ x : UInt64, Hid (8 * u = x) ∧ IntKind.u64.wrap (8 * (u.toNat : Int)) = (x.toNat : Int) := ⟨_, lib_hid rfl, u64_wrap_mul 8 u⟩
  obtain ⟨b, Hb, hb⟩ : ∃ x : UInt64, Hid (8 * v = x) ∧ IntKind.u64.wrap (8 * (v.toNat : Int)) = (x.toNat : Int) := ⟨_, lib_hid rfl, u64_wrap_mul 8 v⟩
  rw [Hu.out, Hv.out, Ha.out, Hb.out]
  obtain ⟨W0, HW0, hW0, hg0⟩ : ∃ W0 : World, Hid (W0 = w.alloc (.cells #[.int .u8 0, .int .u8 0, .int .u8 0, .int .u8 0, .int .u8 0, .int .u8 0, .int .u8 0, .int .u8 0, .int .u8 0, .int .u8 0, .int .u8 0, .int .u8 0, .int .u8 0, .int .u8 0, .int .u8 0, .int .u8 0] 22)) ∧ W0.heap.size = w.heap.size + 1 ∧ Grows w W0 := ⟨_, lib_hid rfl, by simp, (Grows.refl w).alloc _⟩
  have HB0 : Hid (Blk W0 w.heap.size 22 #[.int .u8 0, .int .u8 0, .int .u8 0, .int .u8 0, .int .u8 0, .int .u8 0, .int .u8 0, .int .u8 0, .int .u8 0, .int .u8 0, .int .u8 0, .int .u8 0, .int .u8 0, .int .u8 0, .int .u8 0, .int .u8 0]) := by
    unfold Hid; rw [HW0.out]; have := Blk.new (w) 22 #[.int .u8 0, .int .u8 0, .int .u8 0, .int .u8 0, .int .u8 0, .int .u8 0, .int .u8 0, .int .u8 0, .int .u8 0, .int .u8 0, .int .u8 0, .int .u8 0, .int .u8 0, .int .u8 0, .int .u8 0, .int .u8 0]; simpa using this
  obtain ⟨res, Hres, hrl, hra⟩ : ∃ r : Array Value, Hid (((blockF a b).map b8).toArray = r) ∧ r.size = 16 ∧ r.all (·.oneCell') = true := ⟨_, lib_hid rfl, by rw [List.size_toArray, List.length_map]; exact blockF_len _ _, cells_all _⟩
  have HW0' := HW0.out
  clear hW0
  go_enter Try.func17, Try.ntmps17
  go_upto_region 1 with fail
  rw [← HW0']
  clear HW0'
  go_wp2_with fail
  refine (block_any a b W0).mono ?_
  rintro e w1 ⟨rfl, hg1⟩
  rw [Hres.out]
  have HR := lib_hid (HB0.out.grows hg1)
  have hgw := hg0.trans hg1
  go_wp2_with (refine wpList_store_blk rfl _ _ _ rfl w.heap.size res rfl rfl 22 _ HR.out (by rw [Try.size16, hrl]) (by simp [hrl]) hra w.heap.size w1 (Below.refl _ _) (Nat.le_refl _) ?_; intro w7 HR7 hb7 hgr7)
  refine bodyPost_ret (results_cell_row rfl _ _ w.heap.size _ res _ _ rfl HR7 Try.underlying22 rfl (by rw [Try.size16, hrl])) rfl ?_
  exact ⟨by rw [Hres.out], Below.trans hgw (hb7.mono (by omega))⟩

set_option maxRecDepth 100000 in
set_option maxHeartbeats 4000000 in
theorem refLengths_any (n m : Int) (w : World) : Calls Try.prog 20 #[.int .i64 n, .int .i64 m] w (NewB 5 w (blockF (8 * UInt64.ofInt n) (8 * UInt64.ofInt m))) := by
  obtain ⟨u, Hu, hu⟩ : ∃ x : UInt64, Hid (UInt64.ofInt n = x) ∧ IntKind.u64.wrap n = (x.toNat : Int) := ⟨_, lib_hid rfl, u64_wrap_ofInt n⟩
  obtain ⟨v, Hv, hv⟩ : ∃ x : UInt64, Hid (UInt64.ofInt m = x) ∧ IntKind.u64.wrap m = (x.toNat : Int) := ⟨_, lib_hid rfl, u64_wrap_ofInt m⟩
  obtain ⟨a, Ha, ha⟩ : ∃ x : UInt64, Hid (8 * u = x) ∧ IntKind.u64.wrap (8 * (u.toNat : Int)) = (x.toNat : Int) := ⟨_, lib_hid rfl, u64_wrap_mul 8 u⟩
  obtain ⟨b, Hb, hb⟩ : ∃ x : UInt64, Hid (8 * v = x) ∧ IntKind.u64.wrap (8 * (v.toNat : Int)) = (x.toNat : Int) := ⟨_, lib_hid rfl, u64_wrap_mul 8 v⟩
  rw [Hu.out, Hv.out, Ha.out, Hb.out]
  have H1 : Hid (∀ (x : UInt64) W, Calls Try.prog 25 #[.int .u64 x.toNat, .int .i64 8] W (NewB 5 W (putBigF x 8))) := fun x W => refPutBig_any x 8 W (by omega)
  obtain ⟨xs, Hxs, xl⟩ : ∃ x, Hid (putBigF a 8 = x) ∧ Hid (x.length = 8) := ⟨_, lib_hid rfl, putBigF_len' _ _⟩
  obtain ⟨ys, Hys, yl⟩ : ∃ x, Hid (putBigF b 8 = x) ∧ Hid (x.length = 8) := ⟨_, lib_hid rfl, putBigF_len' _ _⟩
  rw [show blockF a b = xs ++ ys by rw [← Hxs.out, ← Hys.out]; rfl]
  go_enter Try.func20, Try.ntmps20
  go_wp2_with fail
  refine (H1.out a w).mono ?_
  rintro e w1 ⟨A1, n1, c1, hn1, rfl, hg1, ho1⟩
  rw [Hxs.out] at ho1
  obtain rfl : n1 = 8 := by rw [hn1.out, Hxs.out]; exact xl.out
  have HO1 := lib_hid ho1
  clear ho1
  go_wp2_with fail
  refine (H1.out b w1).mono ?_
  rintro e w2 ⟨A2, n2, c2, hn2, rfl, hg2, ho2⟩
  rw [Hys.out] at ho2
  obtain rfl : n2 = 8 := by rw [hn2.out, Hys.out]; exact yl.out
  have HO2 := lib_hid (own_grows HO1.out hg2)
  have HS2 := lib_hid (SB.own ho2)
  have hg12 := hg1.trans hg2
  have hle := hg12.le
  clear ho2 HO1 hg1 hg2
  go_wp2_with (at_builtin; refine wpList_append rfl _ _ 29 rfl w.heap.size 5 (.int .u8 0) 1 Try.underlying29 Try.infoByte rfl (.slice A1 8 c1) 8 _ rfl HO2.out _ 8 c2 _ rfl HS2.out (b8_one ys) (by omega) (by omega) hle ?_; intro A4 c4 w4 ho4 hb4 hg4)
  rw [← List.map_append] at ho4
  go_ret
  exact newB_mk rfl (by rw [List.length_append, xl.out, yl.out]) (Below.trans hg12 hb4) ho4

end Go.Proofs.Ytlnldflnanllmaa
