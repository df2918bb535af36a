/-
  The walk of awake of layer 2.
-/
import Derived.Test.YtgknojaaimefkaaDoorSha9
import Derived.Deep.Cut
import Derived.BigRegion
import Derived.RegionTactic
import Derived.Outline
import Derived.Lib.SlBytesConst
namespace Go.Proofs.YtgknojaaimefkaaDoor
open Go Go.RowKit
set_option linter.unusedSimpArgs false


def abcM : List UInt8 := [97, 98, 99] ++ padS 3
theorem abc4 : (outF (blockF shaK startV abcM)).take 4 = [186, 120, 22, 191] := by decide +kernel
theorem abcM_len : abcM.length = 64 := by decide +kernel
theorem sum_abc : (sumS shaK [97, 98, 99]).take 4 = [186, 120, 22, 191] := by
  unfold sumS
  show (outF (runF shaK startV abcM).1).take 4 = _
  have ht : abcM.take 64 = abcM := List.take_of_length_le (by rw [abcM_len]; omega)
  have hd : abcM.drop 64 = [] := List.drop_of_length_le (by rw [abcM_len]; omega)
  rw [runF_step shaK startV abcM (by rw [abcM_len]; omega), ht, hd, runF_end _ _ _ (by simp)]
  exact abc4
theorem sum_abc_at (ks : List UInt32) (hk : ks = shaK) (k : Nat) (hk4 : k < 4) : (sumS ks [97, 98, 99])[k]? = ([186, 120, 22, 191] : List UInt8)[k]? := by
  rw [hk, ← sum_abc, List.getElem?_take, if_pos hk4]
attribute [local irreducible] startV schedF moreW firstW blockF roundsF sumsF outF outW padS sumS shaK

set_option maxRecDepth 100000 in
set_option maxHeartbeats 4000000 in
theorem awake2_any {tK : TypeId} (w : World) (HK : Hid (Blk w 0 tK (shaK.map b32).toArray)) : Calls Tryd.prog 12 #[] w fun e w' => e = .returned (.bool true) ∧ Grows w w' := by
  obtain ⟨ks, Hks, hkl⟩ : ∃ ks, Hid (ks = shaK) ∧ ks.length = 64 := ⟨_, lib_hid rfl, shaK_len⟩
  rw [← Hks.out] at HK
  obtain ⟨ms, Hms⟩ : ∃ ms, Hid (sumS ks [97, 98, 99] = ms) := ⟨_, lib_hid rfl⟩
  have Hat : Hid (∀ k, k < 4 → ms[k]? = ([186, 120, 22, 191] : List UInt8)[k]?) := fun k hk => by rw [← Hms.out]; exact sum_abc_at ks Hks.out k hk
  obtain ⟨rs, Hrs, hrl, hra⟩ : ∃ rs : Array Value, Hid ((ms.map b8).toArray = rs) ∧ rs.size = 32 ∧ rs.all (·.oneCell') = true := ⟨_, lib_hid rfl, by rw [← Hms.out]; simp [sumS_len], cells_all _⟩
  have Hcell : Hid (∀ (W : World) (g k : Nat) (x : UInt8), k < 4 → ([186, 120, 22, 191] : List UInt8)[k]? = some x → Blk W g 24 rs → W.cell? ⟨g, k, none⟩ = some (.int .u8 (x.toNat : Int))) := fun W g k x hk hx hB => by
    rw [hB.cell, ← Hrs.out, List.getElem?_toArray, List.getElem?_map, Hat.out k hk, hx]
    rfl
  obtain ⟨W, HW⟩ : ∃ W : World, Hid (W = w.alloc (.cells #[.int .u8 97, .int .u8 98, .int .u8 99] 5 (3, 4))) := ⟨_, lib_hid rfl⟩
  have Hg : Hid (Grows w W) := by unfold Hid; rw [HW.out]; exact (Grows.refl w).alloc _
  have HS : Hid (SB W (some ⟨w.heap.size, 0, none⟩) 3 3 [97, 98, 99]) := by
    unfold Hid; rw [HW.out]
    refine ⟨rfl, by omega, by unfold maxLen; omega, fun h => (by cases h), fun _ => ⟨w.heap.size, 0, rfl, by simp, fun j hj => ?_⟩⟩
    rw [cell_of_row _ w.heap.size (0 + j) _ _ _ (heap_alloc_new w _), Nat.zero_add]
    match j, hj with
    | 0, _ => rfl
    | 1, _ => rfl
    | 2, _ => rfl
  have HC : Hid (Calls Tryd.prog 10 #[.slice (some ⟨w.heap.size, 0, none⟩) 3 3] W fun e w' => e = .returned (.agg rs) ∧ Grows W w') := by
    have := shaSum_any ks (some ⟨w.heap.size, 0, none⟩) 3 3 [97, 98, 99] W hkl (HK.out.grows Hg.out) HS.out (by omega)
    rw [Hms.out, Hrs.out] at this
    exact this
  clear HS HK Hks hkl Hms Hat Hrs
  have hcv := Go.Lib.run_convert_bytes_const (P := Tryd.prog) w 22 5 #[.int .u8 97, .int .u8 98, .int .u8 99] 3 3 Tryd.underlying22 Tryd.underlying5
  change _ = Result.ok _ (w.alloc (.cells #[.int .u8 97, .int .u8 98, .int .u8 99] 5 (3, 4))) at hcv
  rw [← HW.out] at hcv
  clear HW
  go_enter Tryd.func12, Tryd.ntmps12
  go_wp2_with fail
  refine HC.out.mono ?_
  rintro e1 w1 ⟨rfl, hg1⟩
  have Hg1 : Hid (Grows w w1) := Hg.out.trans hg1
  clear hg1 HC Hg
  have HZ : Hid (Blk (w1.alloc (.cells #[.int .u8 0, .int .u8 0, .int .u8 0, .int .u8 0, .int .u8 0, .int .u8 0, .int .u8 0, .int .u8 0, .int .u8 0, .int .u8 0, .int .u8 0, .int .u8 0, .int .u8 0, .int .u8 0, .int .u8 0, .int .u8 0, .int .u8 0, .int .u8 0, .int .u8 0, .int .u8 0, .int .u8 0, .int .u8 0, .int .u8 0, .int .u8 0, .int .u8 0, .int .u8 0, .int .u8 0, .int .u8 0, .int .u8 0, .int .u8 0, .int .u8 0, .int .u8 0] 24)) w1.heap.size 24 #[.int .u8 0, .int .u8 0, .int .u8 0, .int .u8 0, .int .u8 0, .int .u8 0, .int .u8 0, .int .u8 0, .int .u8 0, .int .u8 0, .int .u8 0, .int .u8 0, .int .u8 0, .int .u8 0, .int .u8 0, .int .u8 0, .int .u8 0, .int .u8 0, .int .u8 0, .int .u8 0, .int .u8 0, .int .u8 0, .int .u8 0, .int .u8 0, .int .u8 0, .int .u8 0, .int .u8 0, .int .u8 0, .int .u8 0, .int .u8 0, .int .u8 0, .int .u8 0]) := Blk.new _ _ _
  have Hle := lib_hid Hg1.out.le
  go_upto_region 2 with (refine wpList_store_blk rfl _ _ _ rfl w1.heap.size rs rfl rfl 24 _ HZ.out (by rw [Tryd.size32B, hrl]) (by rw [hrl]; rfl) hra w.heap.size w (Hg1.out.alloc _) Hle.out ?_; intro w8 H8 hb8 hg8)
  obtain ⟨gz, Hgz⟩ : ∃ x, Hid (w1.heap.size = x) := ⟨_, lib_hid rfl⟩
  rw [Hgz.out] at H8 ⊢
  have c0 := Hcell.out w8 gz 0 186 (by omega) rfl H8
  have c1 := Hcell.out w8 gz 1 120 (by omega) rfl H8
  have c2 := Hcell.out w8 gz 2 22 (by omega) rfl H8
  have c3 := Hcell.out w8 gz 3 191 (by omega) rfl H8
  change w8.cell? ⟨gz, 0, none⟩ = some (.int .u8 186) at c0
  change w8.cell? ⟨gz, 1, none⟩ = some (.int .u8 120) at c1
  change w8.cell? ⟨gz, 2, none⟩ = some (.int .u8 22) at c2
  change w8.cell? ⟨gz, 3, none⟩ = some (.int .u8 191) at c3
  have Hb8 := lib_hid hb8
  clear H8 hg8 HZ Hcell hrl hra hb8
  go_wp2
  go_ret
  exact ⟨rfl, Hb8.out⟩

end Go.Proofs.YtgknojaaimefkaaDoor
