/-
  The walk of GhashMuls.
-/
import Derived.Test.YtlnldflnanllmaaRefMul2
import Derived.Test.YtlnldflnanllmaaGhash4
import Derived.Deep.Cut
namespace Go.Proofs.Ytlnldflnanllmaa
open Go Go.RowKit
set_option linter.unusedSimpArgs false


set_option maxRecDepth 100000 in
set_option maxHeartbeats 4000000 in
theorem walk_GhashMuls (xs ys : List UInt8) (w : World) (hx : xs.length = 16) (hy : ys.length = 16) :
    Calls Try.prog 3 #[.agg (xs.map b8).toArray, .agg (ys.map b8).toArray] w fun e w' => e = .returned (.bool true) ∧ Below w.heap.size w w' := by
  obtain ⟨W0, HW0, hW0, hg0⟩ : ∃ W0 : World, Hid (W0 = (w.alloc (.cells (xs.map b8).toArray 22)).alloc (.cells (ys.map b8).toArray 22)) ∧ W0.heap.size = w.heap.size + 2 ∧ Grows w W0 := ⟨_, lib_hid rfl, by simp, ((Grows.refl w).alloc _).alloc _⟩
  have HB0 : Hid (Blk W0 w.heap.size 22 (xs.map b8).toArray) := by
    unfold Hid; rw [HW0.out]; have := (Blk.new (w) 22 (xs.map b8).toArray).alloc (.cells (ys.map b8).toArray 22); simpa using this
  have HB1 : Hid (Blk W0 (w.heap.size + 1) 22 (ys.map b8).toArray) := by
    unfold Hid; rw [HW0.out]; have := Blk.new (w.alloc (.cells (xs.map b8).toArray 22)) 22 (ys.map b8).toArray; simpa using this
  have xsl := lib_hid hx
  have ysl := lib_hid hy
  obtain ⟨m, Hm, ml⟩ : ∃ v : List UInt8, Hid (mulF xs ys = v) ∧ Hid (v.length = 16) := ⟨_, lib_hid rfl, lib_hid (mulF_len _ _)⟩
  have HM : Hid (∀ W, Calls Try.prog 10 #[.agg (xs.map b8).toArray, .agg (ys.map b8).toArray] W fun e w' => e = .returned (.agg (m.map b8).toArray) ∧ Grows W w') := fun W => by rw [← Hm.out]; exact mul_any xs ys hx hy W
  have HR : Hid (∀ W, Calls Try.prog 11 #[.agg (xs.map b8).toArray, .agg (ys.map b8).toArray] W fun e w' => e = .returned (.agg (m.map b8).toArray) ∧ Grows W w') := fun W => by rw [← Hm.out, ← refMul_eq xs ys hx hy]; exact refMul_any xs ys hx hy W
  have HW0' := HW0.out
  clear hx hy hW0
  go_enter Try.func3, Try.ntmps3
  go_upto_region 1 with fail
  rw [← HW0']
  clear HW0'
  apply wp_region_mono 11 ((.is (.agg ((xs).map b8).toArray), []) :: (.is (.agg ((ys).map b8).toArray), []) :: (.is (.agg ((m).map b8).toArray), []) :: (.is (.agg ((xs).map b8).toArray), []) :: (.is (.agg ((ys).map b8).toArray), []) :: (.is (.agg ((m).map b8).toArray), []) :: (.is (.bool true), []) :: (.is _, []) :: (.is (.bool true), []) :: (.is _, []) :: (.is _, []) :: []) (by kernel_rfl) (by kernel_rfl)
  apply Mono.is0
  · kernel_rfl
  · intro W hW 
    go_wp2_with (refine wpList_load_blk (by kernel_rfl) _ _ rfl (w.heap.size) rfl 22 ((xs).map b8).toArray _ (HB0.out.grows hW) Try.underlying22 rfl (by rw [Try.size16]; simp [xsl.out]) ?_)
    exact ⟨rfl, rfl, Grows.refl _, rfl⟩
  intro k1 a1 hk1 ha1
  simp only [Nat.reduceAdd] at hk1
  simp only [Act.put, List.setIfInBounds_toArray, List.set_cons_succ, List.set_cons_zero] at ha1
  subst hk1 ha1
  apply Mono.is0
  · kernel_rfl
  · intro W hW 
    go_wp2_with (refine wpList_load_blk (by kernel_rfl) _ _ rfl ((w.heap.size + 1)) rfl 22 ((ys).map b8).toArray _ (HB1.out.grows hW) Try.underlying22 rfl (by rw [Try.size16]; simp [ysl.out]) ?_)
    exact ⟨rfl, rfl, Grows.refl _, rfl⟩
  intro k1 a1 hk1 ha1
  simp only [Nat.reduceAdd] at hk1
  simp only [Act.put, List.setIfInBounds_toArray, List.set_cons_succ, List.set_cons_zero] at ha1
  subst hk1 ha1
  apply Mono.is0
  · kernel_rfl
  · intro W hW 
    go_wp2_with fail
    refine (HM.out W).mono ?_
    rintro e w1 ⟨rfl, hg1⟩
    go_wp2
    exact ⟨rfl, rfl, hg1, rfl⟩
  intro k1 a1 hk1 ha1
  simp only [Nat.reduceAdd] at hk1
  simp only [Act.put, List.setIfInBounds_toArray, List.set_cons_succ, List.set_cons_zero] at ha1
  subst hk1 ha1
  apply Mono.is0
  · kernel_rfl
  · intro W hW 
    go_wp2_with (refine wpList_load_blk (by kernel_rfl) _ _ rfl (w.heap.size) rfl 22 ((xs).map b8).toArray _ (HB0.out.grows hW) Try.underlying22 rfl (by rw [Try.size16]; simp [xsl.out]) ?_)
    exact ⟨rfl, rfl, Grows.refl _, rfl⟩
  intro k1 a1 hk1 ha1
  simp only [Nat.reduceAdd] at hk1
  simp only [Act.put, List.setIfInBounds_toArray, List.set_cons_succ, List.set_cons_zero] at ha1
  subst hk1 ha1
  apply Mono.is0
  · kernel_rfl
  · intro W hW 
    go_wp2_with (refine wpList_load_blk (by kernel_rfl) _ _ rfl ((w.heap.size + 1)) rfl 22 ((ys).map b8).toArray _ (HB1.out.grows hW) Try.underlying22 rfl (by rw [Try.size16]; simp [ysl.out]) ?_)
    exact ⟨rfl, rfl, Grows.refl _, rfl⟩
  intro k1 a1 hk1 ha1
  simp only [Nat.reduceAdd] at hk1
  simp only [Act.put, List.setIfInBounds_toArray, List.set_cons_succ, List.set_cons_zero] at ha1
  subst hk1 ha1
  apply Mono.is0
  · kernel_rfl
  · intro W hW 
    go_wp2_with fail
    refine (HR.out W).mono ?_
    rintro e w1 ⟨rfl, hg1⟩
    go_wp2
    exact ⟨rfl, rfl, hg1, rfl⟩
  intro k1 a1 hk1 ha1
  simp only [Nat.reduceAdd] at hk1
  simp only [Act.put, List.setIfInBounds_toArray, List.set_cons_succ, List.set_cons_zero] at ha1
  subst hk1 ha1
  apply Mono.is0
  · kernel_rfl
  · intro W hW 
    have he : (Op.equalIn 10000 22 (.agg ((m).map b8).toArray) (.agg ((m).map b8).toArray)).run Try.prog W = .ok true W := (run_equalIn_bytes W 9998 22 5 16 (m) (m) ml.out ml.out Try.arr16 Try.underlying5 Try.sizeByte).trans (by rw [beq_self_eq_true])
    go_wp2
    refine ⟨rfl, rfl, Grows.refl _, ?_⟩
    unfold Oper.valAt
    go_simp
  intro k1 a1 hk1 ha1
  simp only [Nat.reduceAdd] at hk1
  simp only [Act.put, List.setIfInBounds_toArray, List.set_cons_succ, List.set_cons_zero] at ha1
  subst hk1 ha1
  apply Mono.is0
  · kernel_rfl
  · intro W hW
    go_wp2
    refine ⟨rfl, rfl, Grows.refl _, ?_⟩
    unfold Oper.valAt
    go_simp
    rfl
  intro k1 a1 hk1 ha1
  simp only [Nat.reduceAdd] at hk1
  simp only [Act.put, List.setIfInBounds_toArray, List.set_cons_succ, List.set_cons_zero] at ha1
  subst hk1 ha1
  apply Mono.is0
  · kernel_rfl
  · intro W hW 
    go_wp2_with fail
    refine (awake6_any W).mono ?_
    rintro e w1 ⟨rfl, hg1⟩
    go_wp2
    exact ⟨rfl, rfl, hg1, rfl⟩
  intro k1 a1 hk1 ha1
  simp only [Nat.reduceAdd] at hk1
  simp only [Act.put, List.setIfInBounds_toArray, List.set_cons_succ, List.set_cons_zero] at ha1
  subst hk1 ha1
  iterate 2
    apply Mono.is0
    · kernel_rfl
    · intro W hW
      go_wp2
      refine ⟨rfl, rfl, Grows.refl _, ?_⟩
      unfold Oper.valAt
      go_simp
      rfl
    intro k1 a1 hk1 ha1
    simp only [Nat.reduceAdd] at hk1
    simp only [Act.put, List.setIfInBounds_toArray, List.set_cons_succ, List.set_cons_zero] at ha1
    subst hk1 ha1
  refine Mono.done ?_
  intro wm hgm
  simp only [allF, List.drop_succ_cons, List.drop_zero]
  go_wp2
  go_ret
  exact ⟨rfl, hg0.trans hgm⟩

end Go.Proofs.Ytlnldflnanllmaa
