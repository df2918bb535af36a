/-
  aes.mix.
-/
import Derived.Test.YthcmdjaccjghjaaAes4
import Derived.Test.YthcmdjaccjghjaaArr
import Derived.Test.YthcmdjaccjghjaaCopyG
import Derived.Deep.Cut
import Derived.LoopN
namespace Go.Proofs.Ythcmdjaccjghjaa
open Go Go.RowKit
set_option linter.unusedSimpArgs false
set_option linter.unusedVariables false


theorem run_arrayAtA {Pr : Program} {arr e : TypeId} {m : Nat} (h : Pr.underlying arr = some (.array m e)) (A : Option Addr) (n c : Nat) (hn : m ≤ n) (W : World) : Sem.run Pr (Instr.arrayAt arr (.slice A n c)) W = .ok (.pointer A) W := by
  unfold Instr.arrayAt
  rw [Sem.run_bind, run_underlying h W]
  simp only [Result.andThen_ok]
  rw [if_neg (by omega)]
  rfl
def mixL (xs : List UInt8) (k : Nat) : List UInt8 := (List.range 16).map fun j => if j < 4 * k then mixG (xs.getD (4 * (j / 4)) 0) (xs.getD (4 * (j / 4) + 1) 0) (xs.getD (4 * (j / 4) + 2) 0) (xs.getD (4 * (j / 4) + 3) 0) (j % 4) else xs.getD j 0
theorem mixL_len (xs : List UInt8) (k : Nat) : (mixL xs k).length = 16 := by simp [mixL]
theorem mixL_zero (xs : List UInt8) (hx : xs.length = 16) : mixL xs 0 = xs := by
  unfold mixL
  apply List.ext_getElem
  · simp [hx]
  · intro i h1 h2
    simp only [List.getElem_map, List.getElem_range, Nat.mul_zero, Nat.not_lt_zero, if_false, List.getD_eq_getElem?_getD, List.getElem?_eq_getElem h2, Option.getD_some]
set_option maxRecDepth 100000 in
set_option maxHeartbeats 4000000 in
theorem mix_any (b : Nat) (xs : List UInt8) (W : World) (hb : Blk W b 23 (xs.map b8).toArray) (hx : xs.length = 16) :
    Calls Try.prog 36 #[.pointer (some ⟨b, 0, none⟩), .int .i64 1] W fun e W' => e = .returned (.tuple #[]) ∧ Keeps (fun k => k = b) W W' ∧ Blk W' b 23 ((mixL xs 4).map b8).toArray := by
  have Hb := lib_hid hb
  clear hb
  go_enter Try.func36, Try.ntmps36
  go_wp2
  go_loopw [6] (fun i wr => ∃ k : Nat, k ≤ 4 ∧ i = .int .i64 (k : Int) ∧ Hid (Keeps (fun k => k = b) W wr) ∧ Hid (Blk wr b 23 ((mixL xs k).map b8).toArray)) (fun i _ => 4 - (intOf i).toNat)
  case atStart => exact ⟨0, Nat.zero_le _, rfl, lib_hid (Keeps.refl _ _), lib_hid (by rw [mixL_zero xs hx]; exact Hb.out)⟩
  case round =>
    obtain ⟨k, hk, rfl, Hk, HB⟩ := hrel
    by_cases hlt : k < 4
    · have hbl : b < wr.heap.size := HB.out.lt
      rcases (show k = 0 ∨ k = 1 ∨ k = 2 ∨ k = 3 by omega) with rfl | rfl | rfl | rfl
      · obtain ⟨x0, Hx0⟩ : ∃ x, Hid (xs.getD 0 0 = x) := ⟨_, lib_hid rfl⟩
        obtain ⟨x1, Hx1⟩ : ∃ x, Hid (xs.getD 1 0 = x) := ⟨_, lib_hid rfl⟩
        obtain ⟨x2, Hx2⟩ : ∃ x, Hid (xs.getD 2 0 = x) := ⟨_, lib_hid rfl⟩
        obtain ⟨x3, Hx3⟩ : ∃ x, Hid (xs.getD 3 0 = x) := ⟨_, lib_hid rfl⟩
        have HR : Hid (Row wr (some ⟨b, 0, none⟩) 4 16 [.int .u8 (x0.toNat : Int), .int .u8 (x1.toNat : Int), .int .u8 (x2.toNat : Int), .int .u8 (x3.toNat : Int)]) := by
          have := HB.out.row (o := 0) (n := 4) (c := 16) (by omega) (by simp [mixL]) (by unfold maxLen; omega)
          unfold Hid
          rw [← Hx0.out, ← Hx1.out, ← Hx2.out, ← Hx3.out]
          exact this
        have Hs1 : Hid (∀ W, Sem.run Try.prog (Instr.sliceAt 23 (.pointer (some ⟨b, 0, none⟩)) (some (.int .i64 0)) none none) W = .ok (.slice (some ⟨b, 0, none⟩) 16 16) W) := fun W => run_slice_arr_l Try.underlying23 Try.sizeByte b 0 0 rfl (by omega) W
        have hs1 := Hs1.out
        have hat : ∀ W, Sem.run Try.prog (Instr.arrayAt 50 (.slice (some ⟨b, 0, none⟩) 16 16)) W = .ok (.pointer (some ⟨b, 0, none⟩)) W := fun W => run_arrayAtA (Pr := Try.prog) Try.underlying50 (some ⟨b, 0, none⟩) 16 16 (by omega) W
        go_wp2_with (refine wpList_load_part rfl _ _ rfl ⟨b, 0, none⟩ rfl 4 16 _ _ HR.out Try.underlying50 rfl Try.size4b ?_)
        obtain ⟨W1, HW1⟩ : ∃ W1, Hid (wr.alloc (.cells #[.int .u8 (x0.toNat : Int), .int .u8 (x1.toNat : Int), .int .u8 (x2.toNat : Int), .int .u8 (x3.toNat : Int)] 50) = W1) := ⟨_, lib_hid rfl⟩
        obtain ⟨q, Hq⟩ : ∃ q, Hid (wr.heap.size = q) := ⟨_, lib_hid rfl⟩
        have HBc : Hid (Blk W1 q 50 #[.int .u8 (x0.toNat : Int), .int .u8 (x1.toNat : Int), .int .u8 (x2.toNat : Int), .int .u8 (x3.toNat : Int)]) := by
          unfold Hid; rw [← HW1.out, ← Hq.out]; exact Blk.new wr _ _
        have HgW : Hid (Grows wr W1) := by unfold Hid; rw [← HW1.out]; exact (Grows.refl wr).alloc _
        rw [HW1.out, Hq.out]
        rw [Hq.out] at hbl
        clear hs1 hat HR HW1
        refine wp_loop_rounds 2 ?_
        rw [rounds_succ]
        go_wp2_with (refine wpList_load_blk rfl _ _ rfl q rfl 50 #[.int .u8 (x0.toNat : Int), .int .u8 (x1.toNat : Int), .int .u8 (x2.toNat : Int), .int .u8 (x3.toNat : Int)] _ HBc.out Try.underlying50 rfl Try.size4b ?_)
        refine (mixed_any x0 x1 x2 x3 W1).mono ?_
        rintro e w5 ⟨rfl, hg5⟩
        obtain ⟨res, hres⟩ : ∃ res, Hid (((mixF x0 x1 x2 x3).map b8).toArray = res) := ⟨_, lib_hid rfl⟩
        have hcl : res.size = 4 := by rw [← hres.out]; simp [mixF]
        have hca : res.all (·.oneCell') = true := by rw [← hres.out]; exact cells_all _
        have HBq := lib_hid (HBc.out.grows hg5)
        have HBb := lib_hid (HB.out.grows (HgW.out.trans hg5))
        have HG5 := lib_hid (HgW.out.trans hg5)
        rw [hres.out]
        clear hg5 HBc HB HgW
        go_wp2_with (refine wpList_store_blk rfl _ _ _ rfl q res rfl rfl 50 _ HBq.out (by rw [Try.size4b, hcl]) (by simp [hcl]) hca q w5 (Below.refl _ _) (Nat.le_refl _) ?_; intro w6 HB6 hb6 hg6)
        have HB7 : Hid (Blk w6 b 23 ((mixL xs 0).map b8).toArray) := lib_hid (HBb.out.grown hg6 (by intro e; cases e; omega))
        have HK6 : Hid (Keeps (fun k => k = b) W w6) := lib_hid ((Hk.out.trans (HG5.out.keeps (fun k => k = b)) (fun _ h _ => h)).trans (keeps_grown hg6) (fun j e hj => by cases e; have := Hk.out.size; have := Hq.out; omega))
        have HRq : Hid (SB w6 (some ⟨q, 0, none⟩) 4 4 (mixF x0 x1 x2 x3)) := by
          have h6 : Blk w6 q 50 ((mixF x0 x1 x2 x3).map b8).toArray := by rw [hres.out]; exact HB6
          have := h6.row (o := 0) (n := 4) (c := 4) (by omega) (by simp [mixF]) (by unfold maxLen; omega)
          unfold Hid SB
          rw [List.drop_zero, List.take_of_length_le (by simp [mixF])] at this
          exact this
        clear HB6 hb6 hg6 HBq HBb HG5 hcl hca hres
        rw [rounds_succ]
        go_wp2
        apply wp_region_mono 6 ((.is _, []) :: (.is _, []) :: (.is _, []) :: (.is _, []) :: (.is _, []) :: (.is _, []) :: []) (by kernel_rfl) (by kernel_rfl)
        iterate 4
          apply Mono.is0
          · kernel_rfl
          · intro W hW
            go_wp2
            refine ⟨rfl, rfl, Grows.refl _, ?_⟩
            unfold Oper.valAt
            go_simp
            rfl
          intro k1 a1 hk1 ha1
          simp only [Nat.reduceAdd] at hk1
          simp only [Act.put, List.setIfInBounds_toArray, List.set_cons_succ, List.set_cons_zero] at ha1
          subst hk1 ha1
        apply Mono.is0
        · kernel_rfl
        · intro W hW
          have hh := Hs1.out W
          go_wp2
          refine ⟨rfl, rfl, Grows.refl _, ?_⟩
          unfold Oper.valAt
          go_simp
          rfl
        intro k1 a1 hk1 ha1
        simp only [Nat.reduceAdd] at hk1
        simp only [Act.put, List.setIfInBounds_toArray, List.set_cons_succ, List.set_cons_zero] at ha1
        subst hk1 ha1
        apply Mono.is0
        · kernel_rfl
        · intro W hW
          go_wp2
          refine ⟨rfl, rfl, Grows.refl _, ?_⟩
          unfold Oper.valAt
          go_simp
          rfl
        intro k1 a1 hk1 ha1
        simp only [Nat.reduceAdd] at hk1
        simp only [Act.put, List.setIfInBounds_toArray, List.set_cons_succ, List.set_cons_zero] at ha1
        subst hk1 ha1
        refine Mono.done ?_
        intro wm hgm
        simp only [allF, List.drop_succ_cons, List.drop_zero]
        have HMx : Hid (splice (mixL xs 0) 0 (mixF x0 x1 x2 x3) = mixL xs (0 + 1)) := by
          unfold Hid
          rw [← Hx0.out, ← Hx1.out, ← Hx2.out, ← Hx3.out]
          rfl
        refine wpList_copy_g rfl _ _ 26 26 rfl 5 Try.underlying26 Try.sizeByte b 0 16 16 rfl ⟨q, 0, none⟩ 4 4 rfl (mixL xs 0) 23 (HB7.out.grows hgm) (mixF x0 x1 x2 x3) (HRq.out.grows hgm) (by omega) (by rw [mixL_len]; omega) ?_
        intro w8 hb8 hg8
        rw [HMx.out] at hb8
        have HB8 := lib_hid hb8
        have HK8 : Hid (Keeps (fun k => k = b) W w8) := lib_hid ((HK6.out.trans (hgm.keeps (fun k => k = b)) (fun _ h _ => h)).trans (keeps_grown hg8) (fun j e _ => by cases e; rfl))
        clear hb8 hg8 hgm HB7 HK6 HRq Hs1
        go_wp2
        go_roundw
        case rel => exact ⟨0 + 1, by omega, rfl, HK8, HB8⟩
        case measure => simp [intOf]
      · obtain ⟨x0, Hx0⟩ : ∃ x, Hid (xs.getD 4 0 = x) := ⟨_, lib_hid rfl⟩
        obtain ⟨x1, Hx1⟩ : ∃ x, Hid (xs.getD 5 0 = x) := ⟨_, lib_hid rfl⟩
        obtain ⟨x2, Hx2⟩ : ∃ x, Hid (xs.getD 6 0 = x) := ⟨_, lib_hid rfl⟩
        obtain ⟨x3, Hx3⟩ : ∃ x, Hid (xs.getD 7 0 = x) := ⟨_, lib_hid rfl⟩
        have HR : Hid (Row wr (some ⟨b, 4, none⟩) 4 12 [.int .u8 (x0.toNat : Int), .int .u8 (x1.toNat : Int), .int .u8 (x2.toNat : Int), .int .u8 (x3.toNat : Int)]) := by
          have := HB.out.row (o := 4) (n := 4) (c := 12) (by omega) (by simp [mixL]) (by unfold maxLen; omega)
          unfold Hid
          rw [← Hx0.out, ← Hx1.out, ← Hx2.out, ← Hx3.out]
          exact this
        have Hs1 : Hid (∀ W, Sem.run Try.prog (Instr.sliceAt 23 (.pointer (some ⟨b, 0, none⟩)) (some (.int .i64 4)) none none) W = .ok (.slice (some ⟨b, 4, none⟩) 12 12) W) := fun W => run_slice_arr_l Try.underlying23 Try.sizeByte b 4 4 rfl (by omega) W
        have hs1 := Hs1.out
        have hat : ∀ W, Sem.run Try.prog (Instr.arrayAt 50 (.slice (some ⟨b, 4, none⟩) 12 12)) W = .ok (.pointer (some ⟨b, 4, none⟩)) W := fun W => run_arrayAtA (Pr := Try.prog) Try.underlying50 (some ⟨b, 4, none⟩) 12 12 (by omega) W
        go_wp2_with (refine wpList_load_part rfl _ _ rfl ⟨b, 4, none⟩ rfl 4 12 _ _ HR.out Try.underlying50 rfl Try.size4b ?_)
        obtain ⟨W1, HW1⟩ : ∃ W1, Hid (wr.alloc (.cells #[.int .u8 (x0.toNat : Int), .int .u8 (x1.toNat : Int), .int .u8 (x2.toNat : Int), .int .u8 (x3.toNat : Int)] 50) = W1) := ⟨_, lib_hid rfl⟩
        obtain ⟨q, Hq⟩ : ∃ q, Hid (wr.heap.size = q) := ⟨_, lib_hid rfl⟩
        have HBc : Hid (Blk W1 q 50 #[.int .u8 (x0.toNat : Int), .int .u8 (x1.toNat : Int), .int .u8 (x2.toNat : Int), .int .u8 (x3.toNat : Int)]) := by
          unfold Hid; rw [← HW1.out, ← Hq.out]; exact Blk.new wr _ _
        have HgW : Hid (Grows wr W1) := by unfold Hid; rw [← HW1.out]; exact (Grows.refl wr).alloc _
        rw [HW1.out, Hq.out]
        rw [Hq.out] at hbl
        clear hs1 hat HR HW1
        refine wp_loop_rounds 2 ?_
        rw [rounds_succ]
        go_wp2_with (refine wpList_load_blk rfl _ _ rfl q rfl 50 #[.int .u8 (x0.toNat : Int), .int .u8 (x1.toNat : Int), .int .u8 (x2.toNat : Int), .int .u8 (x3.toNat : Int)] _ HBc.out Try.underlying50 rfl Try.size4b ?_)
        refine (mixed_any x0 x1 x2 x3 W1).mono ?_
        rintro e w5 ⟨rfl, hg5⟩
        obtain ⟨res, hres⟩ : ∃ res, Hid (((mixF x0 x1 x2 x3).map b8).toArray = res) := ⟨_, lib_hid rfl⟩
        have hcl : res.size = 4 := by rw [← hres.out]; simp [mixF]
        have hca : res.all (·.oneCell') = true := by rw [← hres.out]; exact cells_all _
        have HBq := lib_hid (HBc.out.grows hg5)
        have HBb := lib_hid (HB.out.grows (HgW.out.trans hg5))
        have HG5 := lib_hid (HgW.out.trans hg5)
        rw [hres.out]
        clear hg5 HBc HB HgW
        go_wp2_with (refine wpList_store_blk rfl _ _ _ rfl q res rfl rfl 50 _ HBq.out (by rw [Try.size4b, hcl]) (by simp [hcl]) hca q w5 (Below.refl _ _) (Nat.le_refl _) ?_; intro w6 HB6 hb6 hg6)
        have HB7 : Hid (Blk w6 b 23 ((mixL xs 1).map b8).toArray) := lib_hid (HBb.out.grown hg6 (by intro e; cases e; omega))
        have HK6 : Hid (Keeps (fun k => k = b) W w6) := lib_hid ((Hk.out.trans (HG5.out.keeps (fun k => k = b)) (fun _ h _ => h)).trans (keeps_grown hg6) (fun j e hj => by cases e; have := Hk.out.size; have := Hq.out; omega))
        have HRq : Hid (SB w6 (some ⟨q, 0, none⟩) 4 4 (mixF x0 x1 x2 x3)) := by
          have h6 : Blk w6 q 50 ((mixF x0 x1 x2 x3).map b8).toArray := by rw [hres.out]; exact HB6
          have := h6.row (o := 0) (n := 4) (c := 4) (by omega) (by simp [mixF]) (by unfold maxLen; omega)
          unfold Hid SB
          rw [List.drop_zero, List.take_of_length_le (by simp [mixF])] at this
          exact this
        clear HB6 hb6 hg6 HBq HBb HG5 hcl hca hres
        rw [rounds_succ]
        go_wp2
        apply wp_region_mono 6 ((.is _, []) :: (.is _, []) :: (.is _, []) :: (.is _, []) :: (.is _, []) :: (.is _, []) :: []) (by kernel_rfl) (by kernel_rfl)
        iterate 4
          apply Mono.is0
          · kernel_rfl
          · intro W hW
            go_wp2
            refine ⟨rfl, rfl, Grows.refl _, ?_⟩
            unfold Oper.valAt
            go_simp
            rfl
          intro k1 a1 hk1 ha1
          simp only [Nat.reduceAdd] at hk1
          simp only [Act.put, List.setIfInBounds_toArray, List.set_cons_succ, List.set_cons_zero] at ha1
          subst hk1 ha1
        apply Mono.is0
        · kernel_rfl
        · intro W hW
          have hh := Hs1.out W
          go_wp2
          refine ⟨rfl, rfl, Grows.refl _, ?_⟩
          unfold Oper.valAt
          go_simp
          rfl
        intro k1 a1 hk1 ha1
        simp only [Nat.reduceAdd] at hk1
        simp only [Act.put, List.setIfInBounds_toArray, List.set_cons_succ, List.set_cons_zero] at ha1
        subst hk1 ha1
        apply Mono.is0
        · kernel_rfl
        · intro W hW
          go_wp2
          refine ⟨rfl, rfl, Grows.refl _, ?_⟩
          unfold Oper.valAt
          go_simp
          rfl
        intro k1 a1 hk1 ha1
        simp only [Nat.reduceAdd] at hk1
        simp only [Act.put, List.setIfInBounds_toArray, List.set_cons_succ, List.set_cons_zero] at ha1
        subst hk1 ha1
        refine Mono.done ?_
        intro wm hgm
        simp only [allF, List.drop_succ_cons, List.drop_zero]
        have HMx : Hid (splice (mixL xs 1) 4 (mixF x0 x1 x2 x3) = mixL xs (1 + 1)) := by
          unfold Hid
          rw [← Hx0.out, ← Hx1.out, ← Hx2.out, ← Hx3.out]
          rfl
        refine wpList_copy_g rfl _ _ 26 26 rfl 5 Try.underlying26 Try.sizeByte b 4 12 12 rfl ⟨q, 0, none⟩ 4 4 rfl (mixL xs 1) 23 (HB7.out.grows hgm) (mixF x0 x1 x2 x3) (HRq.out.grows hgm) (by omega) (by rw [mixL_len]; omega) ?_
        intro w8 hb8 hg8
        rw [HMx.out] at hb8
        have HB8 := lib_hid hb8
        have HK8 : Hid (Keeps (fun k => k = b) W w8) := lib_hid ((HK6.out.trans (hgm.keeps (fun k => k = b)) (fun _ h _ => h)).trans (keeps_grown hg8) (fun j e _ => by cases e; rfl))
        clear hb8 hg8 hgm HB7 HK6 HRq Hs1
        go_wp2
        go_roundw
        case rel => exact ⟨1 + 1, by omega, rfl, HK8, HB8⟩
        case measure => simp [intOf]
      · obtain ⟨x0, Hx0⟩ : ∃ x, Hid (xs.getD 8 0 = x) := ⟨_, lib_hid rfl⟩
        obtain ⟨x1, Hx1⟩ : ∃ x, Hid (xs.getD 9 0 = x) := ⟨_, lib_hid rfl⟩
        obtain ⟨x2, Hx2⟩ : ∃ x, Hid (xs.getD 10 0 = x) := ⟨_, lib_hid rfl⟩
        obtain ⟨x3, Hx3⟩ : ∃ x, Hid (xs.getD 11 0 = x) := ⟨_, lib_hid rfl⟩
        have HR : Hid (Row wr (some ⟨b, 8, none⟩) 4 8 [.int .u8 (x0.toNat : Int), .int .u8 (x1.toNat : Int), .int .u8 (x2.toNat : Int), .int .u8 (x3.toNat : Int)]) := by
          have := HB.out.row (o := 8) (n := 4) (c := 8) (by omega) (by simp [mixL]) (by unfold maxLen; omega)
          unfold Hid
          rw [← Hx0.out, ← Hx1.out, ← Hx2.out, ← Hx3.out]
          exact this
        have Hs1 : Hid (∀ W, Sem.run Try.prog (Instr.sliceAt 23 (.pointer (some ⟨b, 0, none⟩)) (some (.int .i64 8)) none none) W = .ok (.slice (some ⟨b, 8, none⟩) 8 8) W) := fun W => run_slice_arr_l Try.underlying23 Try.sizeByte b 8 8 rfl (by omega) W
        have hs1 := Hs1.out
        have hat : ∀ W, Sem.run Try.prog (Instr.arrayAt 50 (.slice (some ⟨b, 8, none⟩) 8 8)) W = .ok (.pointer (some ⟨b, 8, none⟩)) W := fun W => run_arrayAtA (Pr := Try.prog) Try.underlying50 (some ⟨b, 8, none⟩) 8 8 (by omega) W
        go_wp2_with (refine wpList_load_part rfl _ _ rfl ⟨b, 8, none⟩ rfl 4 8 _ _ HR.out Try.underlying50 rfl Try.size4b ?_)
        obtain ⟨W1, HW1⟩ : ∃ W1, Hid (wr.alloc (.cells #[.int .u8 (x0.toNat : Int), .int .u8 (x1.toNat : Int), .int .u8 (x2.toNat : Int), .int .u8 (x3.toNat : Int)] 50) = W1) := ⟨_, lib_hid rfl⟩
        obtain ⟨q, Hq⟩ : ∃ q, Hid (wr.heap.size = q) := ⟨_, lib_hid rfl⟩
        have HBc : Hid (Blk W1 q 50 #[.int .u8 (x0.toNat : Int), .int .u8 (x1.toNat : Int), .int .u8 (x2.toNat : Int), .int .u8 (x3.toNat : Int)]) := by
          unfold Hid; rw [← HW1.out, ← Hq.out]; exact Blk.new wr _ _
        have HgW : Hid (Grows wr W1) := by unfold Hid; rw [← HW1.out]; exact (Grows.refl wr).alloc _
        rw [HW1.out, Hq.out]
        rw [Hq.out] at hbl
        clear hs1 hat HR HW1
        refine wp_loop_rounds 2 ?_
        rw [rounds_succ]
        go_wp2_with (refine wpList_load_blk rfl _ _ rfl q rfl 50 #[.int .u8 (x0.toNat : Int), .int .u8 (x1.toNat : Int), .int .u8 (x2.toNat : Int), .int .u8 (x3.toNat : Int)] _ HBc.out Try.underlying50 rfl Try.size4b ?_)
        refine (mixed_any x0 x1 x2 x3 W1).mono ?_
        rintro e w5 ⟨rfl, hg5⟩
        obtain ⟨res, hres⟩ : ∃ res, Hid (((mixF x0 x1 x2 x3).map b8).toArray = res) := ⟨_, lib_hid rfl⟩
        have hcl : res.size = 4 := by rw [← hres.out]; simp [mixF]
        have hca : res.all (·.oneCell') = true := by rw [← hres.out]; exact cells_all _
        have HBq := lib_hid (HBc.out.grows hg5)
        have HBb := lib_hid (HB.out.grows (HgW.out.trans hg5))
        have HG5 := lib_hid (HgW.out.trans hg5)
        rw [hres.out]
        clear hg5 HBc HB HgW
        go_wp2_with (refine wpList_store_blk rfl _ _ _ rfl q res rfl rfl 50 _ HBq.out (by rw [Try.size4b, hcl]) (by simp [hcl]) hca q w5 (Below.refl _ _) (Nat.le_refl _) ?_; intro w6 HB6 hb6 hg6)
        have HB7 : Hid (Blk w6 b 23 ((mixL xs 2).map b8).toArray) := lib_hid (HBb.out.grown hg6 (by intro e; cases e; omega))
        have HK6 : Hid (Keeps (fun k => k = b) W w6) := lib_hid ((Hk.out.trans (HG5.out.keeps (fun k => k = b)) (fun _ h _ => h)).trans (keeps_grown hg6) (fun j e hj => by cases e; have := Hk.out.size; have := Hq.out; omega))
        have HRq : Hid (SB w6 (some ⟨q, 0, none⟩) 4 4 (mixF x0 x1 x2 x3)) := by
          have h6 : Blk w6 q 50 ((mixF x0 x1 x2 x3).map b8).toArray := by rw [hres.out]; exact HB6
          have := h6.row (o := 0) (n := 4) (c := 4) (by omega) (by simp [mixF]) (by unfold maxLen; omega)
          unfold Hid SB
          rw [List.drop_zero, List.take_of_length_le (by simp [mixF])] at this
          exact this
        clear HB6 hb6 hg6 HBq HBb HG5 hcl hca hres
        rw [rounds_succ]
        go_wp2
        apply wp_region_mono 6 ((.is _, []) :: (.is _, []) :: (.is _, []) :: (.is _, []) :: (.is _, []) :: (.is _, []) :: []) (by kernel_rfl) (by kernel_rfl)
        iterate 4
          apply Mono.is0
          · kernel_rfl
          · intro W hW
            go_wp2
            refine ⟨rfl, rfl, Grows.refl _, ?_⟩
            unfold Oper.valAt
            go_simp
            rfl
          intro k1 a1 hk1 ha1
          simp only [Nat.reduceAdd] at hk1
          simp only [Act.put, List.setIfInBounds_toArray, List.set_cons_succ, List.set_cons_zero] at ha1
          subst hk1 ha1
        apply Mono.is0
        · kernel_rfl
        · intro W hW
          have hh := Hs1.out W
          go_wp2
          refine ⟨rfl, rfl, Grows.refl _, ?_⟩
          unfold Oper.valAt
          go_simp
          rfl
        intro k1 a1 hk1 ha1
        simp only [Nat.reduceAdd] at hk1
        simp only [Act.put, List.setIfInBounds_toArray, List.set_cons_succ, List.set_cons_zero] at ha1
        subst hk1 ha1
        apply Mono.is0
        · kernel_rfl
        · intro W hW
          go_wp2
          refine ⟨rfl, rfl, Grows.refl _, ?_⟩
          unfold Oper.valAt
          go_simp
          rfl
        intro k1 a1 hk1 ha1
        simp only [Nat.reduceAdd] at hk1
        simp only [Act.put, List.setIfInBounds_toArray, List.set_cons_succ, List.set_cons_zero] at ha1
        subst hk1 ha1
        refine Mono.done ?_
        intro wm hgm
        simp only [allF, List.drop_succ_cons, List.drop_zero]
        have HMx : Hid (splice (mixL xs 2) 8 (mixF x0 x1 x2 x3) = mixL xs (2 + 1)) := by
          unfold Hid
          rw [← Hx0.out, ← Hx1.out, ← Hx2.out, ← Hx3.out]
          rfl
        refine wpList_copy_g rfl _ _ 26 26 rfl 5 Try.underlying26 Try.sizeByte b 8 8 8 rfl ⟨q, 0, none⟩ 4 4 rfl (mixL xs 2) 23 (HB7.out.grows hgm) (mixF x0 x1 x2 x3) (HRq.out.grows hgm) (by omega) (by rw [mixL_len]; omega) ?_
        intro w8 hb8 hg8
        rw [HMx.out] at hb8
        have HB8 := lib_hid hb8
        have HK8 : Hid (Keeps (fun k => k = b) W w8) := lib_hid ((HK6.out.trans (hgm.keeps (fun k => k = b)) (fun _ h _ => h)).trans (keeps_grown hg8) (fun j e _ => by cases e; rfl))
        clear hb8 hg8 hgm HB7 HK6 HRq Hs1
        go_wp2
        go_roundw
        case rel => exact ⟨2 + 1, by omega, rfl, HK8, HB8⟩
        case measure => simp [intOf]
      · obtain ⟨x0, Hx0⟩ : ∃ x, Hid (xs.getD 12 0 = x) := ⟨_, lib_hid rfl⟩
        obtain ⟨x1, Hx1⟩ : ∃ x, Hid (xs.getD 13 0 = x) := ⟨_, lib_hid rfl⟩
        obtain ⟨x2, Hx2⟩ : ∃ x, Hid (xs.getD 14 0 = x) := ⟨_, lib_hid rfl⟩
        obtain ⟨x3, Hx3⟩ : ∃ x, Hid (xs.getD 15 0 = x) := ⟨_, lib_hid rfl⟩
        have HR : Hid (Row wr (some ⟨b, 12, none⟩) 4 4 [.int .u8 (x0.toNat : Int), .int .u8 (x1.toNat : Int), .int .u8 (x2.toNat : Int), .int .u8 (x3.toNat : Int)]) := by
          have := HB.out.row (o := 12) (n := 4) (c := 4) (by omega) (by simp [mixL]) (by unfold maxLen; omega)
          unfold Hid
          rw [← Hx0.out, ← Hx1.out, ← Hx2.out, ← Hx3.out]
          exact this
        have Hs1 : Hid (∀ W, Sem.run Try.prog (Instr.sliceAt 23 (.pointer (some ⟨b, 0, none⟩)) (some (.int .i64 12)) none none) W = .ok (.slice (some ⟨b, 12, none⟩) 4 4) W) := fun W => run_slice_arr_l Try.underlying23 Try.sizeByte b 12 12 rfl (by omega) W
        have hs1 := Hs1.out
        have hat : ∀ W, Sem.run Try.prog (Instr.arrayAt 50 (.slice (some ⟨b, 12, none⟩) 4 4)) W = .ok (.pointer (some ⟨b, 12, none⟩)) W := fun W => run_arrayAtA (Pr := Try.prog) Try.underlying50 (some ⟨b, 12, none⟩) 4 4 (by omega) W
        go_wp2_with (refine wpList_load_part rfl _ _ rfl ⟨b, 12, none⟩ rfl 4 4 _ _ HR.out Try.underlying50 rfl Try.size4b ?_)
        obtain ⟨W1, HW1⟩ : ∃ W1, Hid (wr.alloc (.cells #[.int .u8 (x0.toNat : Int), .int .u8 (x1.toNat : Int), .int .u8 (x2.toNat : Int), .int .u8 (x3.toNat : Int)] 50) = W1) := ⟨_, lib_hid rfl⟩
        obtain ⟨q, Hq⟩ : ∃ q, Hid (wr.heap.size = q) := ⟨_, lib_hid rfl⟩
        have HBc : Hid (Blk W1 q 50 #[.int .u8 (x0.toNat : Int), .int .u8 (x1.toNat : Int), .int .u8 (x2.toNat : Int), .int .u8 (x3.toNat : Int)]) := by
          unfold Hid; rw [← HW1.out, ← Hq.out]; exact Blk.new wr _ _
        have HgW : Hid (Grows wr W1) := by unfold Hid; rw [← HW1.out]; exact (Grows.refl wr).alloc _
        rw [HW1.out, Hq.out]
        rw [Hq.out] at hbl
        clear hs1 hat HR HW1
        refine wp_loop_rounds 2 ?_
        rw [rounds_succ]
        go_wp2_with (refine wpList_load_blk rfl _ _ rfl q rfl 50 #[.int .u8 (x0.toNat : Int), .int .u8 (x1.toNat : Int), .int .u8 (x2.toNat : Int), .int .u8 (x3.toNat : Int)] _ HBc.out Try.underlying50 rfl Try.size4b ?_)
        refine (mixed_any x0 x1 x2 x3 W1).mono ?_
        rintro e w5 ⟨rfl, hg5⟩
        obtain ⟨res, hres⟩ : ∃ res, Hid (((mixF x0 x1 x2 x3).map b8).toArray = res) := ⟨_, lib_hid rfl⟩
        have hcl : res.size = 4 := by rw [← hres.out]; simp [mixF]
        have hca : res.all (·.oneCell') = true := by rw [← hres.out]; exact cells_all _
        have HBq := lib_hid (HBc.out.grows hg5)
        have HBb := lib_hid (HB.out.grows (HgW.out.trans hg5))
        have HG5 := lib_hid (HgW.out.trans hg5)
        rw [hres.out]
        clear hg5 HBc HB HgW
        go_wp2_with (refine wpList_store_blk rfl _ _ _ rfl q res rfl rfl 50 _ HBq.out (by rw [Try.size4b, hcl]) (by simp [hcl]) hca q w5 (Below.refl _ _) (Nat.le_refl _) ?_; intro w6 HB6 hb6 hg6)
        have HB7 : Hid (Blk w6 b 23 ((mixL xs 3).map b8).toArray) := lib_hid (HBb.out.grown hg6 (by intro e; cases e; omega))
        have HK6 : Hid (Keeps (fun k => k = b) W w6) := lib_hid ((Hk.out.trans (HG5.out.keeps (fun k => k = b)) (fun _ h _ => h)).trans (keeps_grown hg6) (fun j e hj => by cases e; have := Hk.out.size; have := Hq.out; omega))
        have HRq : Hid (SB w6 (some ⟨q, 0, none⟩) 4 4 (mixF x0 x1 x2 x3)) := by
          have h6 : Blk w6 q 50 ((mixF x0 x1 x2 x3).map b8).toArray := by rw [hres.out]; exact HB6
          have := h6.row (o := 0) (n := 4) (c := 4) (by omega) (by simp [mixF]) (by unfold maxLen; omega)
          unfold Hid SB
          rw [List.drop_zero, List.take_of_length_le (by simp [mixF])] at this
          exact this
        clear HB6 hb6 hg6 HBq HBb HG5 hcl hca hres
        rw [rounds_succ]
        go_wp2
        apply wp_region_mono 6 ((.is _, []) :: (.is _, []) :: (.is _, []) :: (.is _, []) :: (.is _, []) :: (.is _, []) :: []) (by kernel_rfl) (by kernel_rfl)
        iterate 4
          apply Mono.is0
          · kernel_rfl
          · intro W hW
            go_wp2
            refine ⟨rfl, rfl, Grows.refl _, ?_⟩
            unfold Oper.valAt
            go_simp
            rfl
          intro k1 a1 hk1 ha1
          simp only [Nat.reduceAdd] at hk1
          simp only [Act.put, List.setIfInBounds_toArray, List.set_cons_succ, List.set_cons_zero] at ha1
          subst hk1 ha1
        apply Mono.is0
        · kernel_rfl
        · intro W hW
          have hh := Hs1.out W
          go_wp2
          refine ⟨rfl, rfl, Grows.refl _, ?_⟩
          unfold Oper.valAt
          go_simp
          rfl
        intro k1 a1 hk1 ha1
        simp only [Nat.reduceAdd] at hk1
        simp only [Act.put, List.setIfInBounds_toArray, List.set_cons_succ, List.set_cons_zero] at ha1
        subst hk1 ha1
        apply Mono.is0
        · kernel_rfl
        · intro W hW
          go_wp2
          refine ⟨rfl, rfl, Grows.refl _, ?_⟩
          unfold Oper.valAt
          go_simp
          rfl
        intro k1 a1 hk1 ha1
        simp only [Nat.reduceAdd] at hk1
        simp only [Act.put, List.setIfInBounds_toArray, List.set_cons_succ, List.set_cons_zero] at ha1
        subst hk1 ha1
        refine Mono.done ?_
        intro wm hgm
        simp only [allF, List.drop_succ_cons, List.drop_zero]
        have HMx : Hid (splice (mixL xs 3) 12 (mixF x0 x1 x2 x3) = mixL xs (3 + 1)) := by
          unfold Hid
          rw [← Hx0.out, ← Hx1.out, ← Hx2.out, ← Hx3.out]
          rfl
        refine wpList_copy_g rfl _ _ 26 26 rfl 5 Try.underlying26 Try.sizeByte b 12 4 4 rfl ⟨q, 0, none⟩ 4 4 rfl (mixL xs 3) 23 (HB7.out.grows hgm) (mixF x0 x1 x2 x3) (HRq.out.grows hgm) (by omega) (by rw [mixL_len]; omega) ?_
        intro w8 hb8 hg8
        rw [HMx.out] at hb8
        have HB8 := lib_hid hb8
        have HK8 : Hid (Keeps (fun k => k = b) W w8) := lib_hid ((HK6.out.trans (hgm.keeps (fun k => k = b)) (fun _ h _ => h)).trans (keeps_grown hg8) (fun j e _ => by cases e; rfl))
        clear hb8 hg8 hgm HB7 HK6 HRq Hs1
        go_wp2
        go_roundw
        case rel => exact ⟨3 + 1, by omega, rfl, HK8, HB8⟩
        case measure => simp [intOf]
    · have hki : ¬ (k : Int) < 4 := by omega
      have hkn : Hid (k = 4) := lib_hid (by omega)
      go_wp2
      go_end0
      refine ⟨rfl, Hk.out, ?_⟩
      have := HB.out
      rw [hkn.out] at this
      exact this
end Go.Proofs.Ythcmdjaccjghjaa
