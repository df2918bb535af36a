/-
  The walk of palfreyref05.Clamp.
-/
import Derived.Test.YtilgkadochhkjaaPolyR1
import Derived.Deep.Cut
namespace Go.Proofs.Ytilgkadochhkjaa
open Go Go.RowKit
set_option linter.unusedSimpArgs false

theorem blk_set8 {w : World} {g : Nat} {t : TypeId} {bs : List UInt8} (h : Blk w g t (bs.map b8).toArray) (i : Nat) (y : UInt8) : Blk (w.setCell ⟨g, i, none⟩ (b8 y)) g t ((bs.set i y).map b8).toArray := by
  have := h.set i (b8 y)
  rw [List.setIfInBounds_toArray, ← List.map_set] at this
  exact this
theorem cell8 {w : World} {g : Nat} {t : TypeId} {bs : List UInt8} (h : Blk w g t (bs.map b8).toArray) (i : Nat) (hi : i < bs.length) : w.cell? ⟨g, i, none⟩ = some (.int .u8 ((bs.getD i 0).toNat : Int)) := by
  rw [h.cell, List.getElem?_toArray, List.getElem?_map, List.getElem?_eq_getElem hi, List.getD_eq_getElem?_getD, List.getElem?_eq_getElem hi]
  rfl

set_option maxRecDepth 100000 in
set_option maxHeartbeats 4000000 in
theorem refClamp_any (bs : List UInt8) (hl : bs.length = 16) (w : World) :
    Calls Try.prog 12 #[.agg (bs.map b8).toArray] w fun e w' => e = .returned (.agg ((clampF bs).map b8).toArray) ∧ Grows w w' := by
  obtain ⟨W0, HW0, hW0, hg0⟩ : ∃ W0 : World, Hid (W0 = (w.alloc (.cells (bs.map b8).toArray 24)).alloc (.cells ((List.replicate 16 (0 : UInt8)).map b8).toArray 24)) ∧ W0.heap.size = w.heap.size + 2 ∧ Grows w W0 := ⟨_, lib_hid rfl, by simp, ((Grows.refl w).alloc _).alloc _⟩
  have HB0 : Hid (Blk W0 w.heap.size 24 ((clR 0 bs).map b8).toArray) := by
    unfold Hid; rw [HW0.out]; have := (Blk.new (w) 24 (bs.map b8).toArray).alloc (.cells ((List.replicate 16 (0 : UInt8)).map b8).toArray 24); simpa [clR] using this
  obtain ⟨z, Hz⟩ : ∃ z, Hid ((List.replicate 16 (0 : UInt8)).map b8 = z) := ⟨_, lib_hid rfl⟩
  have HB1 : Hid (Blk W0 (w.heap.size + 1) 24 z.toArray) := by
    unfold Hid; rw [HW0.out, ← Hz.out]; have := Blk.new (w.alloc (.cells (bs.map b8).toArray 24)) 24 ((List.replicate 16 (0 : UInt8)).map b8).toArray; simpa using this
  have bsl := lib_hid hl
  have Hcl := lib_hid (clR_eq bs hl)
  have HW0' := HW0.out
  rw [← zeros16] at HW0'
  clear hl hW0
  go_enter Try.func12, Try.ntmps12
  go_upto_region 1 with fail
  rw [← HW0']
  clear HW0'
  go_wp2_with fail
  go_loopw [3] (fun v wr => ∃ k : Nat, k ≤ 16 ∧ v = .int .i64 (k : Int) ∧ Grows w wr ∧ Hid (Blk wr (w.heap.size + 1) 24 z.toArray) ∧ Hid (Blk wr w.heap.size 24 ((clR k bs).map b8).toArray)) (fun v _ => 16 - (intOf v).toNat)
  case atStart => exact ⟨0, by omega, rfl, hg0, HB1, HB0⟩
  case round =>
    clear hg0 HB1 HB0
    obtain ⟨k, hk, rfl, hgr, HZ, HC⟩ := hrel
    by_cases hlt : k < 16
    · have hki : (k : Int) < 16 := by omega
      obtain ⟨c, Hc, cl⟩ : ∃ c, Hid (clR k bs = c) ∧ Hid (c.length = 16) := ⟨_, lib_hid rfl, by unfold Hid; rw [clR_len, bsl.out]⟩
      rw [Hc.out] at HC
      obtain ⟨m, hm, Hm, hmb⟩ : ∃ m : Nat, (k : Int).tmod 4 = (m : Int) ∧ Hid (m = k % 4) ∧ (m : Int) ≤ 3 := ⟨k % 4, by rw [Int.tmod_eq_emod_of_nonneg (by omega)]; omega, lib_hid rfl, by omega⟩
      obtain ⟨x, Hx⟩ : ∃ x, Hid (c.getD k 0 = x) := ⟨_, lib_hid rfl⟩
      have c0 : wr.cell? ⟨w.heap.size, k, none⟩ = some (.int .u8 (x.toNat : Int)) := by rw [← Hx.out]; exact cell8 HC.out k (by rw [cl.out]; exact hlt)
      have f0 := HC.out.frozen k
      by_cases h3 : m = 3
      · have k3 : ((m : Int) == 3) = true := beq_iff_eq.2 (by omega)
        obtain ⟨y, hy, Hy⟩ : ∃ y : UInt8, (x.toNat : Int).tmod 16 = (y.toNat : Int) ∧ Hid (x % 16 = y) := ⟨x % 16, by rw [Int.tmod_eq_emod_of_nonneg (by omega), UInt8.toNat_mod]; rfl, lib_hid rfl⟩
        have q4 : ((k : Int) == 4) = false := beq_false_of_ne (by have := Hm.out; omega)
        have q8 : ((k : Int) == 8) = false := beq_false_of_ne (by have := Hm.out; omega)
        have q12 : ((k : Int) == 12) = false := beq_false_of_ne (by have := Hm.out; omega)
        obtain ⟨W2, HW2⟩ : ∃ X : World, Hid (X = wr.setCell ⟨w.heap.size, k, none⟩ (b8 y)) := ⟨_, lib_hid rfl⟩
        have HC2 : Hid (Blk W2 w.heap.size 24 ((clR (k + 1) bs).map b8).toArray) := by
          have := blk_set8 HC.out k y
          unfold Hid; rw [HW2.out, clR]
          rw [if_pos (show k % 4 = 3 by have := Hm.out; omega), if_neg (by have := Hm.out; omega), Hc.out, Hx.out, Hy.out]
          exact this
        have HZ2 : Hid (Blk W2 (w.heap.size + 1) 24 z.toArray) := by unfold Hid; rw [HW2.out]; exact HZ.out.far (p := ⟨w.heap.size, k, none⟩) (by simp) _
        have hg2 : Grows w W2 := by rw [HW2.out]; exact hgr.setCell (p := ⟨w.heap.size, k, none⟩) (Nat.le_refl _) _
        have HW2' := HW2.out
        have Hlt := lib_hid hlt
        clear h3 HC HZ hgr HW2 hlt
        go_upto_region 6 with fail
        rw [← HW2']
        clear HW2' c0 f0 hy hm k3
        go_wp2_with fail
        go_roundw
        case rel => exact ⟨k + 1, Hlt.out, by go_num, hg2, HZ2, HC2⟩
        case measure => simp [intOf]; omega
      · have k3 : ((m : Int) == 3) = false := beq_false_of_ne (by omega)
        by_cases ho : k = 4 ∨ k = 8 ∨ k = 12
        · have K : ((k : Int) == 4) = true ∨ (((k : Int) == 4) = false ∧ ((k : Int) == 8) = true) ∨ (((k : Int) == 4) = false ∧ ((k : Int) == 8) = false ∧ ((k : Int) == 12) = true) := by
            rcases ho with e | e | e
            · exact .inl (beq_iff_eq.2 (by omega))
            · exact .inr (.inl ⟨beq_false_of_ne (by omega), beq_iff_eq.2 (by omega)⟩)
            · exact .inr (.inr ⟨beq_false_of_ne (by omega), beq_false_of_ne (by omega), beq_iff_eq.2 (by omega)⟩)
          obtain ⟨r, hr, Hr, hrb⟩ : ∃ r : UInt8, (x.toNat : Int).tmod 4 = (r.toNat : Int) ∧ Hid (x % 4 = r) ∧ Hid (r.toNat ≤ x.toNat) := ⟨x % 4, by rw [Int.tmod_eq_emod_of_nonneg (by omega), UInt8.toNat_mod]; rfl, lib_hid rfl, by unfold Hid; rw [UInt8.toNat_mod]; exact Nat.mod_le _ _⟩
          obtain ⟨y, hy, Hy⟩ : ∃ y : UInt8, (x.toNat : Int) - (r.toNat : Int) = (y.toNat : Int) ∧ Hid (x - r = y) := ⟨x - r, by rw [UInt8.toNat_sub_of_le _ _ (UInt8.le_iff_toNat_le.2 hrb.out)]; have := hrb.out; omega, lib_hid rfl⟩
          have hyb := u8_lt y
          have hyb2 : (y.toNat : Int) < 256 := by omega
          obtain ⟨W2, HW2⟩ : ∃ X : World, Hid (X = (wr.setCell ⟨w.heap.size, k, none⟩ (b8 y)).drew) := ⟨_, lib_hid rfl⟩
          have HC2 : Hid (Blk W2 w.heap.size 24 ((clR (k + 1) bs).map b8).toArray) := by
            have := blk_set8 HC.out k y
            unfold Hid; rw [HW2.out, clR]
            rw [if_neg (show ¬ k % 4 = 3 by have := Hm.out; omega), if_pos ho, Hc.out, Hx.out, Hr.out, Hy.out]
            exact this
          have HZ2 : Hid (Blk W2 (w.heap.size + 1) 24 z.toArray) := by unfold Hid; rw [HW2.out]; exact HZ.out.far (p := ⟨w.heap.size, k, none⟩) (by simp) _
          have hg2 : Grows w W2 := by rw [HW2.out]; exact (hgr.setCell (p := ⟨w.heap.size, k, none⟩) (Nat.le_refl _) _).drew
          have HW2' := HW2.out
          have Hlt := lib_hid hlt
          clear h3 HC HZ hgr HW2 hlt ho hyb
          rcases K with q4 | ⟨q4, q8⟩ | ⟨q4, q8, q12⟩ <;> (
            go_upto_region 7 with fail
            clear hm k3
            go_region
            rw [← HW2']
            clear HW2' c0 f0 hy hr
            go_wp2_with fail
            go_roundw
            case rel => exact ⟨k + 1, Hlt.out, by go_num, hg2, HZ2, HC2⟩
            case measure => simp [intOf]; omega)
        · have q4 : ((k : Int) == 4) = false := beq_false_of_ne (by omega)
          have q8 : ((k : Int) == 8) = false := beq_false_of_ne (by omega)
          have q12 : ((k : Int) == 12) = false := beq_false_of_ne (by omega)
          have HC2 : Hid (Blk wr w.heap.size 24 ((clR (k + 1) bs).map b8).toArray) := by
            unfold Hid; rw [clR]
            rw [if_neg (show ¬ k % 4 = 3 by have := Hm.out; omega), if_neg ho, Hc.out]
            exact HC.out
          have Hlt := lib_hid hlt
          clear h3 HC hlt ho c0 f0
          go_wp2_with fail
          go_roundw
          case rel => exact ⟨k + 1, Hlt.out, by go_num, hgr, HZ, HC2⟩
          case measure => simp [intOf]; omega
    · have Hk : Hid (k = 16) := by unfold Hid; omega
      have hki : ¬ (k : Int) < 16 := by omega
      obtain ⟨res, Hres, hrl, hra⟩ : ∃ r : Array Value, Hid (((clampF bs).map b8).toArray = r) ∧ r.size = 16 ∧ r.all (·.oneCell') = true := ⟨_, lib_hid rfl, by simp [clampF_len, bsl.out], cells_all _⟩
      have hR : Hid (Blk wr w.heap.size 24 res) := by unfold Hid; rw [← Hres.out, ← Hcl.out]; have := HC; rw [Hk.out] at this; exact this
      have zl : z.length = 16 := by rw [← Hz.out]; simp
      clear HC hlt
      go_wp2_with (first
        | (refine wpList_load_blk rfl _ _ rfl w.heap.size rfl 24 res _ hR.out Try.underlying24 rfl (by rw [Try.size16, hrl]) ?_)
        | (refine wpList_store_blk rfl _ _ _ rfl (w.heap.size + 1) res rfl rfl 24 _ HZ.out (by rw [Try.size16, hrl]) (by simp [zl, hrl]) hra (w.heap.size + 1) wr (Below.refl _ _) (Nat.le_refl _) ?_; intro w5 HR6 hb5 hgr5))
      refine bodyPost_ret (results_cell_row rfl _ _ (w.heap.size + 1) _ res _ _ rfl HR6 Try.underlying24 rfl (by rw [Try.size16, hrl])) rfl ?_
      exact ⟨by rw [Hres.out], Below.trans hgr (hb5.mono (by omega))⟩

end Go.Proofs.Ytilgkadochhkjaa
