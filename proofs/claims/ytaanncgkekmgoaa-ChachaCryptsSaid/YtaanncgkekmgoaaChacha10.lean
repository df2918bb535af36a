/-
  The walk of the reference's Quarter.
-/
import Derived.Test.YtaanncgkekmgoaaRoundLe
import Derived.Deep.Cut
namespace Go.Proofs.Ytaanncgkekmgoaa
open Go Go.RowKit
set_option linter.unusedSimpArgs false


theorem quarterS_F (a b c d : UInt32) : quarterS (a :: b :: c :: d :: List.replicate 12 0) 0 1 2 3 = (quarterF ⟨a, b, c, d⟩).a :: (quarterF ⟨a, b, c, d⟩).b :: (quarterF ⟨a, b, c, d⟩).c :: (quarterF ⟨a, b, c, d⟩).d :: List.replicate 12 0 := rfl
theorem Try.size4w : (Try.prog.info? 27).map (·.size) = some 4 := by kernel_rfl

set_option maxRecDepth 100000 in
set_option maxHeartbeats 4000000 in
theorem refQuarter_any (a b c d : UInt32) (w : World) :
    Calls Try.prog 12 #[b32 a, b32 b, b32 c, b32 d] w fun e w' => e = .returned (.agg #[b32 (quarterF ⟨a, b, c, d⟩).a, b32 (quarterF ⟨a, b, c, d⟩).b, b32 (quarterF ⟨a, b, c, d⟩).c, b32 (quarterF ⟨a, b, c, d⟩).d]) ∧ Grows w w' := by
  obtain ⟨W0, HW0, hW0, hg0⟩ : ∃ W0 : World, Hid (W0 = (w.alloc (.cells #[.int .u32 0, .int .u32 0, .int .u32 0, .int .u32 0] 27)).alloc (.cells #[b32 a, b32 b, b32 c, b32 d, .int .u32 0, .int .u32 0, .int .u32 0, .int .u32 0, .int .u32 0, .int .u32 0, .int .u32 0, .int .u32 0, .int .u32 0, .int .u32 0, .int .u32 0, .int .u32 0] 49)) ∧ W0.heap.size = w.heap.size + 2 ∧ Grows w W0 := ⟨_, lib_hid rfl, by simp, ((Grows.refl w).alloc _).alloc _⟩
  have HB0 : Hid (Blk W0 w.heap.size 27 #[.int .u32 0, .int .u32 0, .int .u32 0, .int .u32 0]) := by
    unfold Hid; rw [HW0.out]; have := (Blk.new (w) 27 #[.int .u32 0, .int .u32 0, .int .u32 0, .int .u32 0]).alloc (.cells #[b32 a, b32 b, b32 c, b32 d, .int .u32 0, .int .u32 0, .int .u32 0, .int .u32 0, .int .u32 0, .int .u32 0, .int .u32 0, .int .u32 0, .int .u32 0, .int .u32 0, .int .u32 0, .int .u32 0] 49); simpa using this
  have HB1 : Hid (Blk W0 (w.heap.size + 1) 49 #[b32 a, b32 b, b32 c, b32 d, .int .u32 0, .int .u32 0, .int .u32 0, .int .u32 0, .int .u32 0, .int .u32 0, .int .u32 0, .int .u32 0, .int .u32 0, .int .u32 0, .int .u32 0, .int .u32 0]) := by
    unfold Hid; rw [HW0.out]; have := Blk.new (w.alloc (.cells #[.int .u32 0, .int .u32 0, .int .u32 0, .int .u32 0] 27)) 49 #[b32 a, b32 b, b32 c, b32 d, .int .u32 0, .int .u32 0, .int .u32 0, .int .u32 0, .int .u32 0, .int .u32 0, .int .u32 0, .int .u32 0, .int .u32 0, .int .u32 0, .int .u32 0, .int .u32 0]; simpa using this
  obtain ⟨q1, q2, q3, q4, Hq⟩ : ∃ q1 q2 q3 q4, Hid (quarterF ⟨a, b, c, d⟩ = ⟨q1, q2, q3, q4⟩) := ⟨_, _, _, _, lib_hid rfl⟩
  obtain ⟨s0, Hs0, s0l⟩ : ∃ s : List UInt32, Hid (s = a :: b :: c :: d :: List.replicate 12 0) ∧ Hid (s.length = 16) := ⟨_, lib_hid rfl, lib_hid rfl⟩
  have HB : Hid (Blk W0 (w.heap.size + 1) 49 (s0.map b32).toArray) := by unfold Hid; rw [Hs0.out]; exact HB1.out
  have Hfin : Hid (quarterS s0 0 1 2 3 = q1 :: q2 :: q3 :: q4 :: List.replicate 12 0) := by unfold Hid; rw [Hs0.out, quarterS_F, Hq.out]
  have HW0' := HW0.out
  clear HB1 hW0
  go_enter Try.func12, Try.ntmps12
  go_upto_region 2 with fail
  rw [← HW0']
  clear HW0'
  go_wp2_with fail
  refine (refq_any (w.heap.size + 1) s0 0 1 2 3 W0 s0l.out (by omega) (by omega) (by omega) (by omega) HB.out).mono ?_
  rintro e w1 ⟨rfl, hg, hB⟩
  rw [Hfin.out] at hB
  have hR : Hid (Blk w1 w.heap.size 27 #[.int .u32 0, .int .u32 0, .int .u32 0, .int .u32 0]) := HB0.out.grown hg (fun e => by have := Option.some.inj e; omega)
  have c0 : w1.cell? ⟨w.heap.size + 1, 0, none⟩ = some (b32 q1) := hB.cell 0
  have c1 : w1.cell? ⟨w.heap.size + 1, 1, none⟩ = some (b32 q2) := hB.cell 1
  have c2 : w1.cell? ⟨w.heap.size + 1, 2, none⟩ = some (b32 q3) := hB.cell 2
  have c3 : w1.cell? ⟨w.heap.size + 1, 3, none⟩ = some (b32 q4) := hB.cell 3
  have hgw : Grows w w1 := hg0.grown hg (fun k hk => by cases hk; omega)
  clear hB HB HB0 hg
  obtain ⟨res, Hres, hrl, hra⟩ : ∃ r : Array Value, Hid (#[b32 q1, b32 q2, b32 q3, b32 q4] = r) ∧ r.size = 4 ∧ r.all (·.oneCell') = true := ⟨_, lib_hid rfl, rfl, cells32 [q1, q2, q3, q4]⟩
  have HR := hR
  go_wp2_with (refine wpList_store_blk rfl _ _ _ rfl w.heap.size #[b32 q1, b32 q2, b32 q3, b32 q4] rfl rfl _ _ HR.out (by rw [Try.size4w]; rfl) rfl (cells32 [q1, q2, q3, q4]) w.heap.size w hgw (Nat.le_refl _) ?_; intro w5 HR6 hb5 hgr5)
  refine bodyPost_ret (results_cell_row rfl _ _ w.heap.size _ _ _ _ rfl HR6 Try.underlying27 rfl (by rw [Try.size4w]; rfl)) rfl ?_
  exact ⟨by rw [Hq.out], hb5⟩

end Go.Proofs.Ytaanncgkekmgoaa
