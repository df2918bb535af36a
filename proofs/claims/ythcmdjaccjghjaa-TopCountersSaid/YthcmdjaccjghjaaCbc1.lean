/-
  cbc.mixed.
-/
import Derived.Test.YthcmdjaccjghjaaTop1
import Derived.Test.YthcmdjaccjghjaaBits3
import Derived.Deep.Cut
namespace Go.Proofs.Ythcmdjaccjghjaa
open Go Go.RowKit
set_option linter.unusedSimpArgs false
set_option linter.unusedVariables false


set_option maxRecDepth 100000 in
set_option maxHeartbeats 4000000 in
theorem cbcMixed_any (xs ys : List UInt8) (B : Option Addr) (d : Nat) (w : World) (hx : xs.length = 16) (hy : SB w B 16 d ys) :
    Calls Try.prog 24 #[.agg (xs.map b8).toArray, .slice B 16 d] w fun e w' => e = .returned (.agg ((xorF xs ys).map b8).toArray) ∧ Grows w w' := by
  obtain ⟨W0, HW0, hW0, hg0⟩ : ∃ W0 : World, Hid (W0 = (w.alloc (.cells (xs.map b8).toArray 23)).alloc (.cells #[.int .u8 0, .int .u8 0, .int .u8 0, .int .u8 0, .int .u8 0, .int .u8 0, .int .u8 0, .int .u8 0, .int .u8 0, .int .u8 0, .int .u8 0, .int .u8 0, .int .u8 0, .int .u8 0, .int .u8 0, .int .u8 0] 23)) ∧ W0.heap.size = w.heap.size + 2 ∧ Grows w W0 := ⟨_, lib_hid rfl, by simp, ((Grows.refl w).alloc _).alloc _⟩
  have HB0 : Hid (Blk W0 w.heap.size 23 (xs.map b8).toArray) := by
    unfold Hid; rw [HW0.out]; have := (Blk.new (w) 23 (xs.map b8).toArray).alloc (.cells #[.int .u8 0, .int .u8 0, .int .u8 0, .int .u8 0, .int .u8 0, .int .u8 0, .int .u8 0, .int .u8 0, .int .u8 0, .int .u8 0, .int .u8 0, .int .u8 0, .int .u8 0, .int .u8 0, .int .u8 0, .int .u8 0] 23); simpa using this
  have HB1 : Hid (Blk W0 (w.heap.size + 1) 23 #[.int .u8 0, .int .u8 0, .int .u8 0, .int .u8 0, .int .u8 0, .int .u8 0, .int .u8 0, .int .u8 0, .int .u8 0, .int .u8 0, .int .u8 0, .int .u8 0, .int .u8 0, .int .u8 0, .int .u8 0, .int .u8 0]) := by
    unfold Hid; rw [HW0.out]; have := Blk.new (w.alloc (.cells (xs.map b8).toArray 23)) 23 #[.int .u8 0, .int .u8 0, .int .u8 0, .int .u8 0, .int .u8 0, .int .u8 0, .int .u8 0, .int .u8 0, .int .u8 0, .int .u8 0, .int .u8 0, .int .u8 0, .int .u8 0, .int .u8 0, .int .u8 0, .int .u8 0]; simpa using this
  obtain ⟨p0, Hp0⟩ : ∃ p0, Hid (w.heap.size = p0) := ⟨_, lib_hid rfl⟩
  rw [Hp0.out] at HB0 HB1
  have HY := lib_hid (hy.grows hg0)
  have HX : Hid (SB W0 (some ⟨p0, 0, none⟩) 16 16 xs) := by
    have := HB0.out.row (o := 0) (n := 16) (c := 16) (by omega) (by simp [hx]) (by unfold maxLen; omega)
    rw [List.drop_zero, List.take_of_length_le (by simp [hx])] at this
    exact this
  obtain ⟨z, Hz, hzl⟩ : ∃ z, Hid (xorF xs ys = z) ∧ z.length = 16 := ⟨_, lib_hid rfl, by rw [xorF_len, hx, hy.len]; rfl⟩
  obtain ⟨res, hres⟩ : ∃ res, Hid ((z.map b8).toArray = res) := ⟨_, lib_hid rfl⟩
  have hcl : res.size = 16 := by rw [← hres.out]; simp [hzl]
  have hca : res.all (·.oneCell') = true := by rw [← hres.out]; exact cells_all _
  clear hy
  go_enter Try.func24, Try.ntmps24
  go_upto_region 1 with fail
  rw [← HW0.out, Hp0.out]
  go_wp2_with fail
  refine (xor_any _ _ _ _ _ _ _ _ W0 HX.out HY.out (by omega)).mono ?_
  rintro e w1 ⟨A1, n1, c1, hn1, rfl, hg1, ho1⟩
  obtain rfl : n1 = 16 := by rw [hn1.out, Hz.out, hzl]
  have hs1 := SB.own ho1
  rw [Hz.out] at hs1
  obtain ⟨b1, o1, rfl, _, _⟩ := hs1.2.2.2.2 (by omega)
  have HR1 : Hid (Row w1 (some ⟨b1, o1, none⟩) 16 c1 (z.map b8)) := lib_hid hs1
  have HB2 := lib_hid (HB1.out.grows hg1)
  have hG1 : Below p0 W0 w1 := Below.mono hg1 (by have := Hp0.out; omega)
  have hat := fun W => run_arrayAtA (Pr := Try.prog) Try.underlying23 (some ⟨b1, o1, none⟩) 16 c1 (by omega) W
  clear hs1 ho1 hn1 hg1 HX HY
  go_wp2_with (first
    | (refine wpList_load_part rfl _ _ rfl ⟨b1, o1, none⟩ rfl 16 c1 _ _ HR1.out Try.underlying23 rfl Try.size16 ?_; rw [hres.out])
    | (refine wpList_store_blk rfl _ _ _ rfl (p0 + 1) res rfl rfl _ _ HB2.out (by rw [Try.size16, hcl]) (by simp [hcl]) hca p0 W0 hG1 (by omega) ?_; intro w5 HR6 hb5 hgr5))
  refine bodyPost_ret (results_cell_row rfl _ _ (p0 + 1) _ res _ _ rfl HR6 Try.underlying23 rfl (by rw [Try.size16, hcl])) rfl ?_
  exact ⟨by rw [← hres.out, Hz.out], Below.trans hg0 (by rw [Hp0.out]; exact hb5)⟩
end Go.Proofs.Ythcmdjaccjghjaa
