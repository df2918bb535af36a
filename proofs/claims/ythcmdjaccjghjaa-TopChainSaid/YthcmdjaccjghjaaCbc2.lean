/-
  cbc.Pad.
-/
import Derived.Test.YthcmdjaccjghjaaRepA
import Derived.Test.YthcmdjaccjghjaaRepB
import Derived.Test.YthcmdjaccjghjaaRepC
import Derived.Test.YthcmdjaccjghjaaRepD
import Derived.Test.YthcmdjaccjghjaaChainLe
import Derived.Test.YthcmdjaccjghjaaAes8
import Derived.Deep.Cut
namespace Go.Proofs.Ythcmdjaccjghjaa
open Go Go.RowKit
set_option linter.unusedSimpArgs false
set_option linter.unusedVariables false


theorem one_sb (x : UInt8) (w : World) : SB (w.alloc (.cells #[.int .u8 (x.toNat : Int)] 5)) (some ⟨w.heap.size, 0, none⟩) 1 1 [x] := by
  have := (Blk.new w 5 #[b8 x]).row (o := 0) (n := 1) (c := 1) (by omega) (by simp) (by decide)
  exact this
set_option maxRecDepth 100000 in
set_option maxHeartbeats 4000000 in
theorem cbcPad_any (n : Nat) (w : World) (hn : n ≤ 1000000) :
    Calls Try.prog 23 #[.int .i64 (n : Int)] w fun e w' => ∃ A m c, e = .returned (.slice A m c) ∧ Grows w w' ∧ SB w' A m c (padC n) := by
  have HS : Hid (∀ x : UInt8, SB (w.alloc (.cells #[.int .u8 (x.toNat : Int)] 5)) (some ⟨w.heap.size, 0, none⟩) 1 1 [x]) := lib_hid (fun x => one_sb x w)
  have h0 : ¬ (n : Int) < 0 := by omega
  rcases (show n % 16 = 0 ∨ n % 16 = 1 ∨ n % 16 = 2 ∨ n % 16 = 3 ∨ n % 16 = 4 ∨ n % 16 = 5 ∨ n % 16 = 6 ∨ n % 16 = 7 ∨ n % 16 = 8 ∨ n % 16 = 9 ∨ n % 16 = 10 ∨ n % 16 = 11 ∨ n % 16 = 12 ∨ n % 16 = 13 ∨ n % 16 = 14 ∨ n % 16 = 15 by omega) with hr | hr | hr | hr | hr | hr | hr | hr | hr | hr | hr | hr | hr | hr | hr | hr
  · have hm : ((n : Int)).tmod 16 = 0 := by rw [Int.tmod_eq_emod_of_nonneg (by omega)]; omega
    have HP : Hid (padC n = List.replicate 16 16) := by unfold Hid padC; rw [hr]; rfl
    clear hr
    go_enter Try.func23, Try.ntmps23
    go_wp2_with fail
    refine (repeat16_any 16 (some ⟨w.heap.size, 0, none⟩) 1 (w.alloc (.cells #[.int .u8 16] 5)) (HS.out 16)).mono ?_
    rintro e w1 ⟨g, rfl, hg1, hs1⟩
    have HG := lib_hid (((Grows.refl w).alloc (.cells #[.int .u8 16] 5)).trans hg1)
    have HS1 := lib_hid hs1
    clear hg1 hs1 HS
    go_wp2
    go_ret
    exact ⟨_, _, _, rfl, HG.out, by rw [HP.out]; exact HS1.out⟩
  · have hm : ((n : Int)).tmod 16 = 1 := by rw [Int.tmod_eq_emod_of_nonneg (by omega)]; omega
    have HP : Hid (padC n = List.replicate 15 15) := by unfold Hid padC; rw [hr]; rfl
    clear hr
    go_enter Try.func23, Try.ntmps23
    go_wp2_with fail
    refine (repeat15_any 15 (some ⟨w.heap.size, 0, none⟩) 1 (w.alloc (.cells #[.int .u8 15] 5)) (HS.out 15)).mono ?_
    rintro e w1 ⟨g, rfl, hg1, hs1⟩
    have HG := lib_hid (((Grows.refl w).alloc (.cells #[.int .u8 15] 5)).trans hg1)
    have HS1 := lib_hid hs1
    clear hg1 hs1 HS
    go_wp2
    go_ret
    exact ⟨_, _, _, rfl, HG.out, by rw [HP.out]; exact HS1.out⟩
  · have hm : ((n : Int)).tmod 16 = 2 := by rw [Int.tmod_eq_emod_of_nonneg (by omega)]; omega
    have HP : Hid (padC n = List.replicate 14 14) := by unfold Hid padC; rw [hr]; rfl
    clear hr
    go_enter Try.func23, Try.ntmps23
    go_wp2_with fail
    refine (repeat14_any 14 (some ⟨w.heap.size, 0, none⟩) 1 (w.alloc (.cells #[.int .u8 14] 5)) (HS.out 14)).mono ?_
    rintro e w1 ⟨g, rfl, hg1, hs1⟩
    have HG := lib_hid (((Grows.refl w).alloc (.cells #[.int .u8 14] 5)).trans hg1)
    have HS1 := lib_hid hs1
    clear hg1 hs1 HS
    go_wp2
    go_ret
    exact ⟨_, _, _, rfl, HG.out, by rw [HP.out]; exact HS1.out⟩
  · have hm : ((n : Int)).tmod 16 = 3 := by rw [Int.tmod_eq_emod_of_nonneg (by omega)]; omega
    have HP : Hid (padC n = List.replicate 13 13) := by unfold Hid padC; rw [hr]; rfl
    clear hr
    go_enter Try.func23, Try.ntmps23
    go_wp2_with fail
    refine (repeat13_any 13 (some ⟨w.heap.size, 0, none⟩) 1 (w.alloc (.cells #[.int .u8 13] 5)) (HS.out 13)).mono ?_
    rintro e w1 ⟨g, rfl, hg1, hs1⟩
    have HG := lib_hid (((Grows.refl w).alloc (.cells #[.int .u8 13] 5)).trans hg1)
    have HS1 := lib_hid hs1
    clear hg1 hs1 HS
    go_wp2
    go_ret
    exact ⟨_, _, _, rfl, HG.out, by rw [HP.out]; exact HS1.out⟩
  · have hm : ((n : Int)).tmod 16 = 4 := by rw [Int.tmod_eq_emod_of_nonneg (by omega)]; omega
    have HP : Hid (padC n = List.replicate 12 12) := by unfold Hid padC; rw [hr]; rfl
    clear hr
    go_enter Try.func23, Try.ntmps23
    go_wp2_with fail
    refine (repeat12_any 12 (some ⟨w.heap.size, 0, none⟩) 1 (w.alloc (.cells #[.int .u8 12] 5)) (HS.out 12)).mono ?_
    rintro e w1 ⟨g, rfl, hg1, hs1⟩
    have HG := lib_hid (((Grows.refl w).alloc (.cells #[.int .u8 12] 5)).trans hg1)
    have HS1 := lib_hid hs1
    clear hg1 hs1 HS
    go_wp2
    go_ret
    exact ⟨_, _, _, rfl, HG.out, by rw [HP.out]; exact HS1.out⟩
  · have hm : ((n : Int)).tmod 16 = 5 := by rw [Int.tmod_eq_emod_of_nonneg (by omega)]; omega
    have HP : Hid (padC n = List.replicate 11 11) := by unfold Hid padC; rw [hr]; rfl
    clear hr
    go_enter Try.func23, Try.ntmps23
    go_wp2_with fail
    refine (repeat11_any 11 (some ⟨w.heap.size, 0, none⟩) 1 (w.alloc (.cells #[.int .u8 11] 5)) (HS.out 11)).mono ?_
    rintro e w1 ⟨g, rfl, hg1, hs1⟩
    have HG := lib_hid (((Grows.refl w).alloc (.cells #[.int .u8 11] 5)).trans hg1)
    have HS1 := lib_hid hs1
    clear hg1 hs1 HS
    go_wp2
    go_ret
    exact ⟨_, _, _, rfl, HG.out, by rw [HP.out]; exact HS1.out⟩
  · have hm : ((n : Int)).tmod 16 = 6 := by rw [Int.tmod_eq_emod_of_nonneg (by omega)]; omega
    have HP : Hid (padC n = List.replicate 10 10) := by unfold Hid padC; rw [hr]; rfl
    clear hr
    go_enter Try.func23, Try.ntmps23
    go_wp2_with fail
    refine (repeat10_any 10 (some ⟨w.heap.size, 0, none⟩) 1 (w.alloc (.cells #[.int .u8 10] 5)) (HS.out 10)).mono ?_
    rintro e w1 ⟨g, rfl, hg1, hs1⟩
    have HG := lib_hid (((Grows.refl w).alloc (.cells #[.int .u8 10] 5)).trans hg1)
    have HS1 := lib_hid hs1
    clear hg1 hs1 HS
    go_wp2
    go_ret
    exact ⟨_, _, _, rfl, HG.out, by rw [HP.out]; exact HS1.out⟩
  · have hm : ((n : Int)).tmod 16 = 7 := by rw [Int.tmod_eq_emod_of_nonneg (by omega)]; omega
    have HP : Hid (padC n = List.replicate 9 9) := by unfold Hid padC; rw [hr]; rfl
    clear hr
    go_enter Try.func23, Try.ntmps23
    go_wp2_with fail
    refine (repeat9_any 9 (some ⟨w.heap.size, 0, none⟩) 1 (w.alloc (.cells #[.int .u8 9] 5)) (HS.out 9)).mono ?_
    rintro e w1 ⟨g, rfl, hg1, hs1⟩
    have HG := lib_hid (((Grows.refl w).alloc (.cells #[.int .u8 9] 5)).trans hg1)
    have HS1 := lib_hid hs1
    clear hg1 hs1 HS
    go_wp2
    go_ret
    exact ⟨_, _, _, rfl, HG.out, by rw [HP.out]; exact HS1.out⟩
  · have hm : ((n : Int)).tmod 16 = 8 := by rw [Int.tmod_eq_emod_of_nonneg (by omega)]; omega
    have HP : Hid (padC n = List.replicate 8 8) := by unfold Hid padC; rw [hr]; rfl
    clear hr
    go_enter Try.func23, Try.ntmps23
    go_wp2_with fail
    refine (repeat8_any 8 (some ⟨w.heap.size, 0, none⟩) 1 (w.alloc (.cells #[.int .u8 8] 5)) (HS.out 8)).mono ?_
    rintro e w1 ⟨g, rfl, hg1, hs1⟩
    have HG := lib_hid (((Grows.refl w).alloc (.cells #[.int .u8 8] 5)).trans hg1)
    have HS1 := lib_hid hs1
    clear hg1 hs1 HS
    go_wp2
    go_ret
    exact ⟨_, _, _, rfl, HG.out, by rw [HP.out]; exact HS1.out⟩
  · have hm : ((n : Int)).tmod 16 = 9 := by rw [Int.tmod_eq_emod_of_nonneg (by omega)]; omega
    have HP : Hid (padC n = List.replicate 7 7) := by unfold Hid padC; rw [hr]; rfl
    clear hr
    go_enter Try.func23, Try.ntmps23
    go_wp2_with fail
    refine (repeat7_any 7 (some ⟨w.heap.size, 0, none⟩) 1 (w.alloc (.cells #[.int .u8 7] 5)) (HS.out 7)).mono ?_
    rintro e w1 ⟨g, rfl, hg1, hs1⟩
    have HG := lib_hid (((Grows.refl w).alloc (.cells #[.int .u8 7] 5)).trans hg1)
    have HS1 := lib_hid hs1
    clear hg1 hs1 HS
    go_wp2
    go_ret
    exact ⟨_, _, _, rfl, HG.out, by rw [HP.out]; exact HS1.out⟩
  · have hm : ((n : Int)).tmod 16 = 10 := by rw [Int.tmod_eq_emod_of_nonneg (by omega)]; omega
    have HP : Hid (padC n = List.replicate 6 6) := by unfold Hid padC; rw [hr]; rfl
    clear hr
    go_enter Try.func23, Try.ntmps23
    go_wp2_with fail
    refine (repeat6_any 6 (some ⟨w.heap.size, 0, none⟩) 1 (w.alloc (.cells #[.int .u8 6] 5)) (HS.out 6)).mono ?_
    rintro e w1 ⟨g, rfl, hg1, hs1⟩
    have HG := lib_hid (((Grows.refl w).alloc (.cells #[.int .u8 6] 5)).trans hg1)
    have HS1 := lib_hid hs1
    clear hg1 hs1 HS
    go_wp2
    go_ret
    exact ⟨_, _, _, rfl, HG.out, by rw [HP.out]; exact HS1.out⟩
  · have hm : ((n : Int)).tmod 16 = 11 := by rw [Int.tmod_eq_emod_of_nonneg (by omega)]; omega
    have HP : Hid (padC n = List.replicate 5 5) := by unfold Hid padC; rw [hr]; rfl
    clear hr
    go_enter Try.func23, Try.ntmps23
    go_wp2_with fail
    refine (repeat5_any 5 (some ⟨w.heap.size, 0, none⟩) 1 (w.alloc (.cells #[.int .u8 5] 5)) (HS.out 5)).mono ?_
    rintro e w1 ⟨g, rfl, hg1, hs1⟩
    have HG := lib_hid (((Grows.refl w).alloc (.cells #[.int .u8 5] 5)).trans hg1)
    have HS1 := lib_hid hs1
    clear hg1 hs1 HS
    go_wp2
    go_ret
    exact ⟨_, _, _, rfl, HG.out, by rw [HP.out]; exact HS1.out⟩
  · have hm : ((n : Int)).tmod 16 = 12 := by rw [Int.tmod_eq_emod_of_nonneg (by omega)]; omega
    have HP : Hid (padC n = List.replicate 4 4) := by unfold Hid padC; rw [hr]; rfl
    clear hr
    go_enter Try.func23, Try.ntmps23
    go_wp2_with fail
    refine (repeat4_any 4 (some ⟨w.heap.size, 0, none⟩) 1 (w.alloc (.cells #[.int .u8 4] 5)) (HS.out 4)).mono ?_
    rintro e w1 ⟨g, rfl, hg1, hs1⟩
    have HG := lib_hid (((Grows.refl w).alloc (.cells #[.int .u8 4] 5)).trans hg1)
    have HS1 := lib_hid hs1
    clear hg1 hs1 HS
    go_wp2
    go_ret
    exact ⟨_, _, _, rfl, HG.out, by rw [HP.out]; exact HS1.out⟩
  · have hm : ((n : Int)).tmod 16 = 13 := by rw [Int.tmod_eq_emod_of_nonneg (by omega)]; omega
    have HP : Hid (padC n = List.replicate 3 3) := by unfold Hid padC; rw [hr]; rfl
    clear hr
    go_enter Try.func23, Try.ntmps23
    go_wp2_with fail
    refine (repeat3_any 3 (some ⟨w.heap.size, 0, none⟩) 1 (w.alloc (.cells #[.int .u8 3] 5)) (HS.out 3)).mono ?_
    rintro e w1 ⟨g, rfl, hg1, hs1⟩
    have HG := lib_hid (((Grows.refl w).alloc (.cells #[.int .u8 3] 5)).trans hg1)
    have HS1 := lib_hid hs1
    clear hg1 hs1 HS
    go_wp2
    go_ret
    exact ⟨_, _, _, rfl, HG.out, by rw [HP.out]; exact HS1.out⟩
  · have hm : ((n : Int)).tmod 16 = 14 := by rw [Int.tmod_eq_emod_of_nonneg (by omega)]; omega
    have HP : Hid (padC n = List.replicate 2 2) := by unfold Hid padC; rw [hr]; rfl
    clear hr
    go_enter Try.func23, Try.ntmps23
    go_wp2_with fail
    refine (repeat2_any 2 (some ⟨w.heap.size, 0, none⟩) 1 (w.alloc (.cells #[.int .u8 2] 5)) (HS.out 2)).mono ?_
    rintro e w1 ⟨g, rfl, hg1, hs1⟩
    have HG := lib_hid (((Grows.refl w).alloc (.cells #[.int .u8 2] 5)).trans hg1)
    have HS1 := lib_hid hs1
    clear hg1 hs1 HS
    go_wp2
    go_ret
    exact ⟨_, _, _, rfl, HG.out, by rw [HP.out]; exact HS1.out⟩
  · have hm : ((n : Int)).tmod 16 = 15 := by rw [Int.tmod_eq_emod_of_nonneg (by omega)]; omega
    have HP : Hid (padC n = List.replicate 1 1) := by unfold Hid padC; rw [hr]; rfl
    clear hr
    go_enter Try.func23, Try.ntmps23
    go_wp2_with fail
    refine (repeat1_any 1 (some ⟨w.heap.size, 0, none⟩) 1 (w.alloc (.cells #[.int .u8 1] 5)) (HS.out 1)).mono ?_
    rintro e w1 ⟨g, rfl, hg1, hs1⟩
    have HG := lib_hid (((Grows.refl w).alloc (.cells #[.int .u8 1] 5)).trans hg1)
    have HS1 := lib_hid hs1
    clear hg1 hs1 HS
    go_wp2
    go_ret
    exact ⟨_, _, _, rfl, HG.out, by rw [HP.out]; exact HS1.out⟩
end Go.Proofs.Ythcmdjaccjghjaa
