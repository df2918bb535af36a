/-
  The walk of the law's own 'awake' of layer 1.
-/
import Derived.Test.YtbajolgfejcecaaBits3
import Derived.Test.YtbajolgfejcecaaLeft
namespace Go.Proofs.Ytbajolgfejcecaa
open Go Go.RowKit

theorem sb_lit (w : World) (t : TypeId) (bs : List UInt8) (h : bs.length ≤ 1000000) : SB (w.alloc (.cells (bs.map b8).toArray t)) (some ⟨w.heap.size, 0, none⟩) bs.length bs.length bs := by
  have := (Blk.new w t (bs.map b8).toArray).row (o := 0) (n := bs.length) (c := bs.length) (Nat.le_refl _) (by simp) (by unfold maxLen; omega)
  rw [List.drop_zero, List.take_of_length_le (by simp)] at this
  exact this

theorem awake_big (w : World) : Calls Try.prog 14 #[.slice (some ⟨w.heap.size, 0, none⟩) 2 2] (w.alloc (.cells #[.int .u8 1, .int .u8 2] 5)) fun e w' => e = .returned (.int .u64 258) ∧ Grows w w' :=
  (big_any _ 2 2 [1, 2] _ (sb_lit w 5 [1, 2] (by decide))).mono fun e w' ⟨he, hw⟩ => ⟨he, hw ▸ (Grows.refl w).alloc _⟩
theorem awake_little (w : World) : Calls Try.prog 16 #[.slice (some ⟨w.heap.size, 0, none⟩) 2 2] (w.alloc (.cells #[.int .u8 1, .int .u8 2] 5)) fun e w' => e = .returned (.int .u64 513) ∧ Grows w w' :=
  (little_any _ 2 2 [1, 2] _ (sb_lit w 5 [1, 2] (by decide))).mono fun e w' ⟨he, hw⟩ => ⟨he, ((Grows.refl w).alloc _).trans hw⟩
theorem left_c : leftF 2147483649 1 = 3 := by decide +kernel
theorem awake_left (w : World) : Calls Try.prog 11 #[.int .u32 2147483649, .int .i64 1] w fun e w' => e = .returned (.int .u32 3) ∧ w = w' :=
  (left_any 2147483649 1 w).mono fun e w' ⟨he, hw⟩ => ⟨he.trans (by rw [left_c]; rfl), hw⟩

set_option maxHeartbeats 400000 in
theorem awake_any (w : World) : Calls Try.prog 12 #[] w fun e w' => e = .returned (.bool true) ∧ Grows w w' := by
  go_enter Try.func12, Try.ntmps12
  go_wp2_with fail
  refine (awake_big w).mono ?_
  rintro e w1 ⟨rfl, hg1⟩
  go_wp2_with fail
  refine (awake_little w1).mono ?_
  rintro e w2 ⟨rfl, hg2⟩
  go_wp2_with fail
  refine (awake_left w2).mono ?_
  rintro e w3 ⟨rfl, rfl⟩
  go_wp2
  go_ret
  exact ⟨rfl, hg1.trans hg2⟩

end Go.Proofs.Ytbajolgfejcecaa
