/-
  aes.shift.
-/
import Derived.Test.YthcmdjaccjghjaaAes1
import Derived.Test.YthcmdjaccjghjaaOwn
import Derived.Deep.Cut
namespace Go.Proofs.Ythcmdjaccjghjaa
open Go Go.RowKit
set_option linter.unusedSimpArgs false
set_option linter.unusedVariables false


/-- Rows turned to the left by their number: which byte comes to place i. -/
def sIdx (i : Nat) : Nat := 4 * ((i / 4 + i % 4 + 16) % 4) + i % 4
def sft (xs : List UInt8) (i : Nat) : UInt8 := xs.getD (sIdx i) 0
def shiftF (xs : List UInt8) : List UInt8 := (List.range 16).map (sft xs)
theorem shiftF_len (xs : List UInt8) : (shiftF xs).length = 16 := by simp [shiftF]
set_option maxRecDepth 100000 in
set_option maxHeartbeats 4000000 in
theorem shift_any (xs : List UInt8) (hx : xs.length = 16) (w : World) : Calls Try.prog 35 #[.agg (xs.map b8).toArray, .int .i64 1] w fun e w' => e = .returned (.agg ((shiftF xs).map b8).toArray) ∧ Grows w w' := by
  obtain ⟨W0, HW0, hW0, hg0⟩ : ∃ W0 : World, Hid (W0 = ((w.alloc (.cells (xs.map b8).toArray 23)).alloc (.cells #[.int .u8 0, .int .u8 0, .int .u8 0, .int .u8 0, .int .u8 0, .int .u8 0, .int .u8 0, .int .u8 0, .int .u8 0, .int .u8 0, .int .u8 0, .int .u8 0, .int .u8 0, .int .u8 0, .int .u8 0, .int .u8 0] 23)).alloc (.cells #[.int .u8 0, .int .u8 0, .int .u8 0, .int .u8 0, .int .u8 0, .int .u8 0, .int .u8 0, .int .u8 0, .int .u8 0, .int .u8 0, .int .u8 0, .int .u8 0, .int .u8 0, .int .u8 0, .int .u8 0, .int .u8 0] 23)) ∧ W0.heap.size = w.heap.size + 3 ∧ Grows w W0 := ⟨_, lib_hid rfl, by simp, (((Grows.refl w).alloc _).alloc _).alloc _⟩
  have HB0 : Hid (Blk W0 w.heap.size 23 (xs.map b8).toArray) := by
    unfold Hid; rw [HW0.out]; have := ((Blk.new (w) 23 (xs.map b8).toArray).alloc (.cells #[.int .u8 0, .int .u8 0, .int .u8 0, .int .u8 0, .int .u8 0, .int .u8 0, .int .u8 0, .int .u8 0, .int .u8 0, .int .u8 0, .int .u8 0, .int .u8 0, .int .u8 0, .int .u8 0, .int .u8 0, .int .u8 0] 23)).alloc (.cells #[.int .u8 0, .int .u8 0, .int .u8 0, .int .u8 0, .int .u8 0, .int .u8 0, .int .u8 0, .int .u8 0, .int .u8 0, .int .u8 0, .int .u8 0, .int .u8 0, .int .u8 0, .int .u8 0, .int .u8 0, .int .u8 0] 23); simpa using this
  have HB1 : Hid (Blk W0 (w.heap.size + 1) 23 #[.int .u8 0, .int .u8 0, .int .u8 0, .int .u8 0, .int .u8 0, .int .u8 0, .int .u8 0, .int .u8 0, .int .u8 0, .int .u8 0, .int .u8 0, .int .u8 0, .int .u8 0, .int .u8 0, .int .u8 0, .int .u8 0]) := by
    unfold Hid; rw [HW0.out]; have := (Blk.new (w.alloc (.cells (xs.map b8).toArray 23)) 23 #[.int .u8 0, .int .u8 0, .int .u8 0, .int .u8 0, .int .u8 0, .int .u8 0, .int .u8 0, .int .u8 0, .int .u8 0, .int .u8 0, .int .u8 0, .int .u8 0, .int .u8 0, .int .u8 0, .int .u8 0, .int .u8 0]).alloc (.cells #[.int .u8 0, .int .u8 0, .int .u8 0, .int .u8 0, .int .u8 0, .int .u8 0, .int .u8 0, .int .u8 0, .int .u8 0, .int .u8 0, .int .u8 0, .int .u8 0, .int .u8 0, .int .u8 0, .int .u8 0, .int .u8 0] 23); simpa using this
  have HB2 : Hid (Blk W0 (w.heap.size + 2) 23 #[.int .u8 0, .int .u8 0, .int .u8 0, .int .u8 0, .int .u8 0, .int .u8 0, .int .u8 0, .int .u8 0, .int .u8 0, .int .u8 0, .int .u8 0, .int .u8 0, .int .u8 0, .int .u8 0, .int .u8 0, .int .u8 0]) := by
    unfold Hid; rw [HW0.out]; have := Blk.new ((w.alloc (.cells (xs.map b8).toArray 23)).alloc (.cells #[.int .u8 0, .int .u8 0, .int .u8 0, .int .u8 0, .int .u8 0, .int .u8 0, .int .u8 0, .int .u8 0, .int .u8 0, .int .u8 0, .int .u8 0, .int .u8 0, .int .u8 0, .int .u8 0, .int .u8 0, .int .u8 0] 23)) 23 #[.int .u8 0, .int .u8 0, .int .u8 0, .int .u8 0, .int .u8 0, .int .u8 0, .int .u8 0, .int .u8 0, .int .u8 0, .int .u8 0, .int .u8 0, .int .u8 0, .int .u8 0, .int .u8 0, .int .u8 0, .int .u8 0]; simpa using this
  obtain ⟨p0, Hp0⟩ : ∃ p0, Hid (w.heap.size = p0) := ⟨_, lib_hid rfl⟩
  rw [Hp0.out] at HB0 HB1 HB2
  have HX : Hid (∀ W, Keeps (fun k => k = p0 + 1 + 1) W0 W → ∀ j, j < 16 → W.cell? ⟨p0, j, none⟩ = some (.int .u8 ((xs.getD j 0).toNat : Int))) := fun W hW j hj => by
    rw [(HB0.out.keeps hW (by omega)).cell, List.getElem?_toArray, List.getElem?_map, List.getElem?_eq_getElem (by omega), List.getD_eq_getElem?_getD, List.getElem?_eq_getElem (by omega)]
    rfl
  go_enter Try.func35, Try.ntmps35
  go_upto_region 2 with fail
  rw [← HW0.out, Hp0.out]
  go_wp2
  go_loopw [9] (fun i wr => ∃ k : Nat, k ≤ 16 ∧ i = .int .i64 (k : Int) ∧ Hid (Keeps (fun k => k = p0 + 1 + 1) W0 wr) ∧ Hid (Blk wr (p0 + 1 + 1) 23 (putsRow 16 (sft xs) k))) (fun i _ => 16 - (intOf i).toNat)
  case atStart => exact ⟨0, Nat.zero_le _, rfl, lib_hid (Keeps.refl _ _), lib_hid (by rw [putsRow_zero]; exact HB2.out)⟩
  case round =>
    obtain ⟨k, hk, rfl, HK, HB⟩ := hrel
    by_cases hlt : k < 16
    · skip
      rcases (show k = 0 ∨ k = 1 ∨ k = 2 ∨ k = 3 ∨ k = 4 ∨ k = 5 ∨ k = 6 ∨ k = 7 ∨ k = 8 ∨ k = 9 ∨ k = 10 ∨ k = 11 ∨ k = 12 ∨ k = 13 ∨ k = 14 ∨ k = 15 by omega) with rfl | rfl | rfl | rfl | rfl | rfl | rfl | rfl | rfl | rfl | rfl | rfl | rfl | rfl | rfl | rfl
      · obtain ⟨x, Hx⟩ : ∃ x, Hid (sft xs 0 = x) := ⟨_, lib_hid rfl⟩
        have hc : wr.cell? ⟨p0, 0, none⟩ = some (.int .u8 (x.toNat : Int)) := by
          rw [← Hx.out]; exact HX.out wr HK.out 0 (by omega)
        obtain ⟨v0, hv0⟩ := putsRow_cell 16 (sft xs) 0 0 (by omega)
        have hc2 : wr.cell? ⟨p0 + 1 + 1, 0, none⟩ = some v0 := by rw [HB.out.cell]; exact hv0
        have hf2 := HB.out.frozen 0
        have hb3 := HB.out.set 0 (b8 (sft xs 0))
        rw [putsRow_set 16 (sft xs) 0 (by omega), Hx.out] at hb3
        have HB3 := lib_hid hb3
        have HK3 : Hid (Keeps (fun k => k = p0 + 1 + 1) W0 (wr.setCell ⟨p0 + 1 + 1, 0, none⟩ (b8 x))) := lib_hid (HK.out.trans (keeps_set wr ⟨p0 + 1 + 1, 0, none⟩ (b8 x)) (fun _ h _ => h))
        clear hv0 hb3 HB
        go_wp2
        go_roundw
        case rel => exact ⟨0 + 1, by omega, rfl, HK3, HB3⟩
        case measure => simp [intOf]
      · obtain ⟨x, Hx⟩ : ∃ x, Hid (sft xs 1 = x) := ⟨_, lib_hid rfl⟩
        have hc : wr.cell? ⟨p0, 5, none⟩ = some (.int .u8 (x.toNat : Int)) := by
          rw [← Hx.out]; exact HX.out wr HK.out 5 (by omega)
        obtain ⟨v0, hv0⟩ := putsRow_cell 16 (sft xs) 1 1 (by omega)
        have hc2 : wr.cell? ⟨p0 + 1 + 1, 1, none⟩ = some v0 := by rw [HB.out.cell]; exact hv0
        have hf2 := HB.out.frozen 1
        have hb3 := HB.out.set 1 (b8 (sft xs 1))
        rw [putsRow_set 16 (sft xs) 1 (by omega), Hx.out] at hb3
        have HB3 := lib_hid hb3
        have HK3 : Hid (Keeps (fun k => k = p0 + 1 + 1) W0 (wr.setCell ⟨p0 + 1 + 1, 1, none⟩ (b8 x))) := lib_hid (HK.out.trans (keeps_set wr ⟨p0 + 1 + 1, 1, none⟩ (b8 x)) (fun _ h _ => h))
        clear hv0 hb3 HB
        go_wp2
        go_roundw
        case rel => exact ⟨1 + 1, by omega, rfl, HK3, HB3⟩
        case measure => simp [intOf]
      · obtain ⟨x, Hx⟩ : ∃ x, Hid (sft xs 2 = x) := ⟨_, lib_hid rfl⟩
        have hc : wr.cell? ⟨p0, 10, none⟩ = some (.int .u8 (x.toNat : Int)) := by
          rw [← Hx.out]; exact HX.out wr HK.out 10 (by omega)
        obtain ⟨v0, hv0⟩ := putsRow_cell 16 (sft xs) 2 2 (by omega)
        have hc2 : wr.cell? ⟨p0 + 1 + 1, 2, none⟩ = some v0 := by rw [HB.out.cell]; exact hv0
        have hf2 := HB.out.frozen 2
        have hb3 := HB.out.set 2 (b8 (sft xs 2))
        rw [putsRow_set 16 (sft xs) 2 (by omega), Hx.out] at hb3
        have HB3 := lib_hid hb3
        have HK3 : Hid (Keeps (fun k => k = p0 + 1 + 1) W0 (wr.setCell ⟨p0 + 1 + 1, 2, none⟩ (b8 x))) := lib_hid (HK.out.trans (keeps_set wr ⟨p0 + 1 + 1, 2, none⟩ (b8 x)) (fun _ h _ => h))
        clear hv0 hb3 HB
        go_wp2
        go_roundw
        case rel => exact ⟨2 + 1, by omega, rfl, HK3, HB3⟩
        case measure => simp [intOf]
      · obtain ⟨x, Hx⟩ : ∃ x, Hid (sft xs 3 = x) := ⟨_, lib_hid rfl⟩
        have hc : wr.cell? ⟨p0, 15, none⟩ = some (.int .u8 (x.toNat : Int)) := by
          rw [← Hx.out]; exact HX.out wr HK.out 15 (by omega)
        obtain ⟨v0, hv0⟩ := putsRow_cell 16 (sft xs) 3 3 (by omega)
        have hc2 : wr.cell? ⟨p0 + 1 + 1, 3, none⟩ = some v0 := by rw [HB.out.cell]; exact hv0
        have hf2 := HB.out.frozen 3
        have hb3 := HB.out.set 3 (b8 (sft xs 3))
        rw [putsRow_set 16 (sft xs) 3 (by omega), Hx.out] at hb3
        have HB3 := lib_hid hb3
        have HK3 : Hid (Keeps (fun k => k = p0 + 1 + 1) W0 (wr.setCell ⟨p0 + 1 + 1, 3, none⟩ (b8 x))) := lib_hid (HK.out.trans (keeps_set wr ⟨p0 + 1 + 1, 3, none⟩ (b8 x)) (fun _ h _ => h))
        clear hv0 hb3 HB
        go_wp2
        go_roundw
        case rel => exact ⟨3 + 1, by omega, rfl, HK3, HB3⟩
        case measure => simp [intOf]
      · obtain ⟨x, Hx⟩ : ∃ x, Hid (sft xs 4 = x) := ⟨_, lib_hid rfl⟩
        have hc : wr.cell? ⟨p0, 4, none⟩ = some (.int .u8 (x.toNat : Int)) := by
          rw [← Hx.out]; exact HX.out wr HK.out 4 (by omega)
        obtain ⟨v0, hv0⟩ := putsRow_cell 16 (sft xs) 4 4 (by omega)
        have hc2 : wr.cell? ⟨p0 + 1 + 1, 4, none⟩ = some v0 := by rw [HB.out.cell]; exact hv0
        have hf2 := HB.out.frozen 4
        have hb3 := HB.out.set 4 (b8 (sft xs 4))
        rw [putsRow_set 16 (sft xs) 4 (by omega), Hx.out] at hb3
        have HB3 := lib_hid hb3
        have HK3 : Hid (Keeps (fun k => k = p0 + 1 + 1) W0 (wr.setCell ⟨p0 + 1 + 1, 4, none⟩ (b8 x))) := lib_hid (HK.out.trans (keeps_set wr ⟨p0 + 1 + 1, 4, none⟩ (b8 x)) (fun _ h _ => h))
        clear hv0 hb3 HB
        go_wp2
        go_roundw
        case rel => exact ⟨4 + 1, by omega, rfl, HK3, HB3⟩
        case measure => simp [intOf]
      · obtain ⟨x, Hx⟩ : ∃ x, Hid (sft xs 5 = x) := ⟨_, lib_hid rfl⟩
        have hc : wr.cell? ⟨p0, 9, none⟩ = some (.int .u8 (x.toNat : Int)) := by
          rw [← Hx.out]; exact HX.out wr HK.out 9 (by omega)
        obtain ⟨v0, hv0⟩ := putsRow_cell 16 (sft xs) 5 5 (by omega)
        have hc2 : wr.cell? ⟨p0 + 1 + 1, 5, none⟩ = some v0 := by rw [HB.out.cell]; exact hv0
        have hf2 := HB.out.frozen 5
        have hb3 := HB.out.set 5 (b8 (sft xs 5))
        rw [putsRow_set 16 (sft xs) 5 (by omega), Hx.out] at hb3
        have HB3 := lib_hid hb3
        have HK3 : Hid (Keeps (fun k => k = p0 + 1 + 1) W0 (wr.setCell ⟨p0 + 1 + 1, 5, none⟩ (b8 x))) := lib_hid (HK.out.trans (keeps_set wr ⟨p0 + 1 + 1, 5, none⟩ (b8 x)) (fun _ h _ => h))
        clear hv0 hb3 HB
        go_wp2
        go_roundw
        case rel => exact ⟨5 + 1, by omega, rfl, HK3, HB3⟩
        case measure => simp [intOf]
      · obtain ⟨x, Hx⟩ : ∃ x, Hid (sft xs 6 = x) := ⟨_, lib_hid rfl⟩
        have hc : wr.cell? ⟨p0, 14, none⟩ = some (.int .u8 (x.toNat : Int)) := by
          rw [← Hx.out]; exact HX.out wr HK.out 14 (by omega)
        obtain ⟨v0, hv0⟩ := putsRow_cell 16 (sft xs) 6 6 (by omega)
        have hc2 : wr.cell? ⟨p0 + 1 + 1, 6, none⟩ = some v0 := by rw [HB.out.cell]; exact hv0
        have hf2 := HB.out.frozen 6
        have hb3 := HB.out.set 6 (b8 (sft xs 6))
        rw [putsRow_set 16 (sft xs) 6 (by omega), Hx.out] at hb3
        have HB3 := lib_hid hb3
        have HK3 : Hid (Keeps (fun k => k = p0 + 1 + 1) W0 (wr.setCell ⟨p0 + 1 + 1, 6, none⟩ (b8 x))) := lib_hid (HK.out.trans (keeps_set wr ⟨p0 + 1 + 1, 6, none⟩ (b8 x)) (fun _ h _ => h))
        clear hv0 hb3 HB
        go_wp2
        go_roundw
        case rel => exact ⟨6 + 1, by omega, rfl, HK3, HB3⟩
        case measure => simp [intOf]
      · obtain ⟨x, Hx⟩ : ∃ x, Hid (sft xs 7 = x) := ⟨_, lib_hid rfl⟩
        have hc : wr.cell? ⟨p0, 3, none⟩ = some (.int .u8 (x.toNat : Int)) := by
          rw [← Hx.out]; exact HX.out wr HK.out 3 (by omega)
        obtain ⟨v0, hv0⟩ := putsRow_cell 16 (sft xs) 7 7 (by omega)
        have hc2 : wr.cell? ⟨p0 + 1 + 1, 7, none⟩ = some v0 := by rw [HB.out.cell]; exact hv0
        have hf2 := HB.out.frozen 7
        have hb3 := HB.out.set 7 (b8 (sft xs 7))
        rw [putsRow_set 16 (sft xs) 7 (by omega), Hx.out] at hb3
        have HB3 := lib_hid hb3
        have HK3 : Hid (Keeps (fun k => k = p0 + 1 + 1) W0 (wr.setCell ⟨p0 + 1 + 1, 7, none⟩ (b8 x))) := lib_hid (HK.out.trans (keeps_set wr ⟨p0 + 1 + 1, 7, none⟩ (b8 x)) (fun _ h _ => h))
        clear hv0 hb3 HB
        go_wp2
        go_roundw
        case rel => exact ⟨7 + 1, by omega, rfl, HK3, HB3⟩
        case measure => simp [intOf]
      · obtain ⟨x, Hx⟩ : ∃ x, Hid (sft xs 8 = x) := ⟨_, lib_hid rfl⟩
        have hc : wr.cell? ⟨p0, 8, none⟩ = some (.int .u8 (x.toNat : Int)) := by
          rw [← Hx.out]; exact HX.out wr HK.out 8 (by omega)
        obtain ⟨v0, hv0⟩ := putsRow_cell 16 (sft xs) 8 8 (by omega)
        have hc2 : wr.cell? ⟨p0 + 1 + 1, 8, none⟩ = some v0 := by rw [HB.out.cell]; exact hv0
        have hf2 := HB.out.frozen 8
        have hb3 := HB.out.set 8 (b8 (sft xs 8))
        rw [putsRow_set 16 (sft xs) 8 (by omega), Hx.out] at hb3
        have HB3 := lib_hid hb3
        have HK3 : Hid (Keeps (fun k => k = p0 + 1 + 1) W0 (wr.setCell ⟨p0 + 1 + 1, 8, none⟩ (b8 x))) := lib_hid (HK.out.trans (keeps_set wr ⟨p0 + 1 + 1, 8, none⟩ (b8 x)) (fun _ h _ => h))
        clear hv0 hb3 HB
        go_wp2
        go_roundw
        case rel => exact ⟨8 + 1, by omega, rfl, HK3, HB3⟩
        case measure => simp [intOf]
      · obtain ⟨x, Hx⟩ : ∃ x, Hid (sft xs 9 = x) := ⟨_, lib_hid rfl⟩
        have hc : wr.cell? ⟨p0, 13, none⟩ = some (.int .u8 (x.toNat : Int)) := by
          rw [← Hx.out]; exact HX.out wr HK.out 13 (by omega)
        obtain ⟨v0, hv0⟩ := putsRow_cell 16 (sft xs) 9 9 (by omega)
        have hc2 : wr.cell? ⟨p0 + 1 + 1, 9, none⟩ = some v0 := by rw [HB.out.cell]; exact hv0
        have hf2 := HB.out.frozen 9
        have hb3 := HB.out.set 9 (b8 (sft xs 9))
        rw [putsRow_set 16 (sft xs) 9 (by omega), Hx.out] at hb3
        have HB3 := lib_hid hb3
        have HK3 : Hid (Keeps (fun k => k = p0 + 1 + 1) W0 (wr.setCell ⟨p0 + 1 + 1, 9, none⟩ (b8 x))) := lib_hid (HK.out.trans (keeps_set wr ⟨p0 + 1 + 1, 9, none⟩ (b8 x)) (fun _ h _ => h))
        clear hv0 hb3 HB
        go_wp2
        go_roundw
        case rel => exact ⟨9 + 1, by omega, rfl, HK3, HB3⟩
        case measure => simp [intOf]
      · obtain ⟨x, Hx⟩ : ∃ x, Hid (sft xs 10 = x) := ⟨_, lib_hid rfl⟩
        have hc : wr.cell? ⟨p0, 2, none⟩ = some (.int .u8 (x.toNat : Int)) := by
          rw [← Hx.out]; exact HX.out wr HK.out 2 (by omega)
        obtain ⟨v0, hv0⟩ := putsRow_cell 16 (sft xs) 10 10 (by omega)
        have hc2 : wr.cell? ⟨p0 + 1 + 1, 10, none⟩ = some v0 := by rw [HB.out.cell]; exact hv0
        have hf2 := HB.out.frozen 10
        have hb3 := HB.out.set 10 (b8 (sft xs 10))
        rw [putsRow_set 16 (sft xs) 10 (by omega), Hx.out] at hb3
        have HB3 := lib_hid hb3
        have HK3 : Hid (Keeps (fun k => k = p0 + 1 + 1) W0 (wr.setCell ⟨p0 + 1 + 1, 10, none⟩ (b8 x))) := lib_hid (HK.out.trans (keeps_set wr ⟨p0 + 1 + 1, 10, none⟩ (b8 x)) (fun _ h _ => h))
        clear hv0 hb3 HB
        go_wp2
        go_roundw
        case rel => exact ⟨10 + 1, by omega, rfl, HK3, HB3⟩
        case measure => simp [intOf]
      · obtain ⟨x, Hx⟩ : ∃ x, Hid (sft xs 11 = x) := ⟨_, lib_hid rfl⟩
        have hc : wr.cell? ⟨p0, 7, none⟩ = some (.int .u8 (x.toNat : Int)) := by
          rw [← Hx.out]; exact HX.out wr HK.out 7 (by omega)
        obtain ⟨v0, hv0⟩ := putsRow_cell 16 (sft xs) 11 11 (by omega)
        have hc2 : wr.cell? ⟨p0 + 1 + 1, 11, none⟩ = some v0 := by rw [HB.out.cell]; exact hv0
        have hf2 := HB.out.frozen 11
        have hb3 := HB.out.set 11 (b8 (sft xs 11))
        rw [putsRow_set 16 (sft xs) 11 (by omega), Hx.out] at hb3
        have HB3 := lib_hid hb3
        have HK3 : Hid (Keeps (fun k => k = p0 + 1 + 1) W0 (wr.setCell ⟨p0 + 1 + 1, 11, none⟩ (b8 x))) := lib_hid (HK.out.trans (keeps_set wr ⟨p0 + 1 + 1, 11, none⟩ (b8 x)) (fun _ h _ => h))
        clear hv0 hb3 HB
        go_wp2
        go_roundw
        case rel => exact ⟨11 + 1, by omega, rfl, HK3, HB3⟩
        case measure => simp [intOf]
      · obtain ⟨x, Hx⟩ : ∃ x, Hid (sft xs 12 = x) := ⟨_, lib_hid rfl⟩
        have hc : wr.cell? ⟨p0, 12, none⟩ = some (.int .u8 (x.toNat : Int)) := by
          rw [← Hx.out]; exact HX.out wr HK.out 12 (by omega)
        obtain ⟨v0, hv0⟩ := putsRow_cell 16 (sft xs) 12 12 (by omega)
        have hc2 : wr.cell? ⟨p0 + 1 + 1, 12, none⟩ = some v0 := by rw [HB.out.cell]; exact hv0
        have hf2 := HB.out.frozen 12
        have hb3 := HB.out.set 12 (b8 (sft xs 12))
        rw [putsRow_set 16 (sft xs) 12 (by omega), Hx.out] at hb3
        have HB3 := lib_hid hb3
        have HK3 : Hid (Keeps (fun k => k = p0 + 1 + 1) W0 (wr.setCell ⟨p0 + 1 + 1, 12, none⟩ (b8 x))) := lib_hid (HK.out.trans (keeps_set wr ⟨p0 + 1 + 1, 12, none⟩ (b8 x)) (fun _ h _ => h))
        clear hv0 hb3 HB
        go_wp2
        go_roundw
        case rel => exact ⟨12 + 1, by omega, rfl, HK3, HB3⟩
        case measure => simp [intOf]
      · obtain ⟨x, Hx⟩ : ∃ x, Hid (sft xs 13 = x) := ⟨_, lib_hid rfl⟩
        have hc : wr.cell? ⟨p0, 1, none⟩ = some (.int .u8 (x.toNat : Int)) := by
          rw [← Hx.out]; exact HX.out wr HK.out 1 (by omega)
        obtain ⟨v0, hv0⟩ := putsRow_cell 16 (sft xs) 13 13 (by omega)
        have hc2 : wr.cell? ⟨p0 + 1 + 1, 13, none⟩ = some v0 := by rw [HB.out.cell]; exact hv0
        have hf2 := HB.out.frozen 13
        have hb3 := HB.out.set 13 (b8 (sft xs 13))
        rw [putsRow_set 16 (sft xs) 13 (by omega), Hx.out] at hb3
        have HB3 := lib_hid hb3
        have HK3 : Hid (Keeps (fun k => k = p0 + 1 + 1) W0 (wr.setCell ⟨p0 + 1 + 1, 13, none⟩ (b8 x))) := lib_hid (HK.out.trans (keeps_set wr ⟨p0 + 1 + 1, 13, none⟩ (b8 x)) (fun _ h _ => h))
        clear hv0 hb3 HB
        go_wp2
        go_roundw
        case rel => exact ⟨13 + 1, by omega, rfl, HK3, HB3⟩
        case measure => simp [intOf]
      · obtain ⟨x, Hx⟩ : ∃ x, Hid (sft xs 14 = x) := ⟨_, lib_hid rfl⟩
        have hc : wr.cell? ⟨p0, 6, none⟩ = some (.int .u8 (x.toNat : Int)) := by
          rw [← Hx.out]; exact HX.out wr HK.out 6 (by omega)
        obtain ⟨v0, hv0⟩ := putsRow_cell 16 (sft xs) 14 14 (by omega)
        have hc2 : wr.cell? ⟨p0 + 1 + 1, 14, none⟩ = some v0 := by rw [HB.out.cell]; exact hv0
        have hf2 := HB.out.frozen 14
        have hb3 := HB.out.set 14 (b8 (sft xs 14))
        rw [putsRow_set 16 (sft xs) 14 (by omega), Hx.out] at hb3
        have HB3 := lib_hid hb3
        have HK3 : Hid (Keeps (fun k => k = p0 + 1 + 1) W0 (wr.setCell ⟨p0 + 1 + 1, 14, none⟩ (b8 x))) := lib_hid (HK.out.trans (keeps_set wr ⟨p0 + 1 + 1, 14, none⟩ (b8 x)) (fun _ h _ => h))
        clear hv0 hb3 HB
        go_wp2
        go_roundw
        case rel => exact ⟨14 + 1, by omega, rfl, HK3, HB3⟩
        case measure => simp [intOf]
      · obtain ⟨x, Hx⟩ : ∃ x, Hid (sft xs 15 = x) := ⟨_, lib_hid rfl⟩
        have hc : wr.cell? ⟨p0, 11, none⟩ = some (.int .u8 (x.toNat : Int)) := by
          rw [← Hx.out]; exact HX.out wr HK.out 11 (by omega)
        obtain ⟨v0, hv0⟩ := putsRow_cell 16 (sft xs) 15 15 (by omega)
        have hc2 : wr.cell? ⟨p0 + 1 + 1, 15, none⟩ = some v0 := by rw [HB.out.cell]; exact hv0
        have hf2 := HB.out.frozen 15
        have hb3 := HB.out.set 15 (b8 (sft xs 15))
        rw [putsRow_set 16 (sft xs) 15 (by omega), Hx.out] at hb3
        have HB3 := lib_hid hb3
        have HK3 : Hid (Keeps (fun k => k = p0 + 1 + 1) W0 (wr.setCell ⟨p0 + 1 + 1, 15, none⟩ (b8 x))) := lib_hid (HK.out.trans (keeps_set wr ⟨p0 + 1 + 1, 15, none⟩ (b8 x)) (fun _ h _ => h))
        clear hv0 hb3 HB
        go_wp2
        go_roundw
        case rel => exact ⟨15 + 1, by omega, rfl, HK3, HB3⟩
        case measure => simp [intOf]
    · have hki : ¬ (k : Int) < 16 := by omega
      obtain rfl : k = 16 := by omega
      obtain ⟨res, hres⟩ : ∃ res, Hid (((shiftF xs).map b8).toArray = res) := ⟨_, lib_hid rfl⟩
      have hcl : res.size = 16 := by rw [← hres.out]; simp [shiftF]
      have hca : res.all (·.oneCell') = true := by rw [← hres.out]; exact cells_all _
      have HB4 : Blk wr (p0 + 1 + 1) 23 res := by
        have := HB.out
        rw [show putsRow 16 (sft xs) 16 = res from by rw [← hres.out]; unfold shiftF; rw [← putsRow_all]] at this
        exact this
      have HB1' := HB1.out.keeps HK.out (by omega)
      have hb0 : Below p0 W0 wr := HK.out.below (by have := Hp0.out; omega) (by intro i hi; omega)
      go_wp2_with (first
        | (refine wpList_load_blk rfl _ _ rfl (p0 + 1 + 1) rfl _ res _ HB4 Try.underlying23 rfl (by rw [Try.size16, hcl]) ?_)
        | (refine wpList_store_blk rfl _ _ _ rfl (p0 + 1) res rfl rfl _ _ HB1' (by rw [Try.size16, hcl]) (by simp [hcl]) hca p0 W0 hb0 (by omega) ?_; intro w5 HR6 hb5 hgr5))
      refine bodyPost_ret (results_cell_row rfl _ _ (p0 + 1) _ res _ _ rfl HR6 Try.underlying23 rfl (by rw [Try.size16, hcl])) rfl ?_
      exact ⟨by rw [hres.out], Below.trans hg0 (by rw [Hp0.out]; exact hb5)⟩
end Go.Proofs.Ythcmdjaccjghjaa
