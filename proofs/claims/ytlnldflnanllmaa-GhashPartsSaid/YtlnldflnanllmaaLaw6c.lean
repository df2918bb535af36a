/-
  The walks of the laws of layer 6: GhashPads.
-/
import Derived.Test.YtlnldflnanllmaaGhash4
import Derived.Test.YtlnldflnanllmaaGhash6
import Derived.Deep.Cut
namespace Go.Proofs.Ytlnldflnanllmaa
open Go Go.RowKit
set_option linter.unusedSimpArgs false


theorem pad16_zeros (bs : List UInt8) (j : Nat) : pad16 ((bs ++ List.replicate j 0).take 16) = pad16 (bs.take 16) := by
  unfold pad16
  rw [List.take_append, List.append_assoc, List.length_append, List.take_replicate, List.length_replicate, List.length_take, List.replicate_append_replicate]
  congr 2
  omega
theorem sumE_zeros (ka kb : UInt64) (n : Nat) : ∀ (a b : UInt64) (bs : List UInt8) (j : Nat), sumE ka kb n a b (bs ++ List.replicate j 0) = sumE ka kb n a b bs := by
  induction n with
  | zero => intro a b bs j; rfl
  | succ n ih =>
    intro a b bs j
    rw [sumE, sumE, pad16_zeros, List.drop_append, List.drop_replicate, ih]
theorem sumF_pad (hs bs : List UInt8) : sumF hs (bs ++ List.replicate (padF bs.length) 0) = sumF hs bs := by
  unfold sumF
  rw [List.length_append, List.length_replicate, show (bs.length + padF bs.length + 15) / 16 = (bs.length + 15) / 16 by unfold padF; omega, sumE_zeros]
theorem sumF_len (hs bs : List UInt8) : (sumF hs bs).length = 16 := sumE_len _ _ _ _ _ _
set_option maxHeartbeats 1000000 in
theorem pad0_any (w : World) : Calls Try.prog 16 #[.int .i64 0] w fun e w' => e = .returned (.int .i64 0) ∧ w = w' := by
  go_enter Try.func16, Try.ntmps16
  go_wp2
  go_ret
  exact ⟨rfl, rfl⟩
theorem pad_all (n : Nat) (h : n ≤ 1000000) (w : World) : Calls Try.prog 16 #[.int .i64 (n : Int)] w fun e w' => e = .returned (.int .i64 (padF n : Nat)) ∧ w = w' := by
  rcases Nat.eq_zero_or_pos n with rfl | hp
  · exact pad0_any w
  · exact pad_any n hp (by omega) w

set_option maxRecDepth 100000 in
set_option maxHeartbeats 4000000 in
theorem walk_GhashPads (hs : List UInt8) (A : Option Addr) (n c : Nat) (bs : List UInt8) (w : World) (hh : hs.length = 16) (hb : SB w A n c bs) :
    Calls Try.prog 8 #[.agg (hs.map b8).toArray, .slice A n c] w fun e w' => e = .returned (.bool true) ∧ Below w.heap.size w w' := by
  obtain ⟨W0, HW0, hW0, hg0⟩ : ∃ W0 : World, Hid (W0 = w.alloc (.cells (hs.map b8).toArray 22)) ∧ W0.heap.size = w.heap.size + 1 ∧ Grows w W0 := ⟨_, lib_hid rfl, by simp, (Grows.refl w).alloc _⟩
  have HB0 : Hid (Blk W0 w.heap.size 22 (hs.map b8).toArray) := by
    unfold Hid; rw [HW0.out]; have := Blk.new (w) 22 (hs.map b8).toArray; simpa using this
  have hlen := lib_hid hb.len
  have HS := lib_hid (hb.grows hg0)
  have hsl := lib_hid hh
  by_cases hbig : 300 < n
  · have h1 : (300 : Int) < n := by omega
    clear hh hb
    go_enter Try.func8, Try.ntmps8
    go_wp2
    go_ret
    exact ⟨rfl, (Grows.refl w).alloc _⟩
  have h1 : ¬ (300 : Int) < n := by omega
  obtain ⟨q, Hq, hq16⟩ : ∃ q : Nat, Hid (padF n = q) ∧ q < 16 := ⟨_, lib_hid rfl, by unfold padF; omega⟩
  obtain ⟨fin, Hfin, finl⟩ : ∃ v, Hid (sumF hs bs = v) ∧ Hid (v.length = 16) := ⟨_, lib_hid rfl, lib_hid (sumF_len _ _)⟩
  obtain ⟨cs, Hcs⟩ : ∃ v : List UInt8, Hid (bs ++ List.replicate q 0 = v) := ⟨_, lib_hid rfl⟩
  have Hs1 : Hid (∀ W, SB W A n c bs → Calls Try.prog 15 #[.agg (hs.map b8).toArray, .slice A n c] W fun e w' => e = .returned (.agg (fin.map b8).toArray) ∧ Grows W w') := fun W h => by rw [← Hfin.out]; exact sum_any hs bs A n c hh W h
  have Hs2 : Hid (∀ A' n' c' W, SB W A' n' c' cs → Calls Try.prog 15 #[.agg (hs.map b8).toArray, .slice A' n' c'] W fun e w' => e = .returned (.agg (fin.map b8).toArray) ∧ Grows W w') := fun A' n' c' W h => by
    have := sum_any hs cs A' n' c' hh W h
    rw [← Hcs.out, ← Hq.out, ← hlen.out, sumF_pad, Hfin.out] at this
    exact this
  have Hpad : Hid (∀ W, Calls Try.prog 16 #[.int .i64 (n : Int)] W fun e w' => e = .returned (.int .i64 (q : Nat)) ∧ W = w') := fun W => by rw [← Hq.out]; exact pad_all n (by omega) W
  have hmod : ((n : Int) + (q : Int)).tmod 16 = 0 := by
    rw [Int.tmod_eq_emod_of_nonneg (by omega), ← Hq.out]
    unfold padF; omega
  have Hmod := lib_hid hmod
  have hHm := HB0.out.lt
  have ho := World.ownsRow_lit (base := W0.heap.size) (e := 5) (size := 1) W0 #[] 0 (Nat.le_refl _) (by unfold maxLen; omega) rfl
  have hr := HS.out.grows ((Grows.refl W0).alloc (.cells #[] 5))
  have HH := lib_hid (And.intro hr ho)
  have HW0' := HW0.out
  clear hh hb hr ho hmod hW0
  go_enter Try.func8, Try.ntmps8
  go_upto_region 3 with fail
  rw [← HW0']
  clear HW0' h1
  go_wp2_with (at_builtin; refine wpList_append rfl _ _ 29 rfl W0.heap.size 5 (.int .u8 0) 1 Try.underlying29 Try.infoByte rfl _ 0 [] rfl HH.out.2 _ _ _ (bs.map b8) rfl HH.out.1 (b8_one bs) (by omega) (by omega) (by simp) ?_; intro A3 c3 w3 ho3 hb3 hg3)
  refine (Hpad.out w3).mono ?_
  rintro e w4 ⟨rfl, rfl⟩
  simp only [Nat.zero_add, List.nil_append] at ho3
  have HO3 := lib_hid ho3
  have hb4 : Below W0.heap.size W0 w3 := Below.trans ((Grows.refl W0).alloc (.cells #[] 5)) hb3
  have hsz3 : W0.heap.size ≤ w3.heap.size := hb4.size
  clear ho3 hb3 hg3 HH
  go_upto_region 4 with (at_builtin; refine wpList_append_zeros rfl _ _ 29 3 rfl W0.heap.size 5 .i64 (.int .u8 0) 1 Try.underlying29 Try.underlying3 Try.infoByte rfl rfl _ n _ rfl HO3.out q rfl (by omega) (by omega) (by omega) (by omega) hsz3 ?_; intro A4 c4 w5 ho5 hb5 hg5)
  have hg6 : Grows W0 w5 := Below.trans hb4 hb5
  have HC5 : Hid (SB w5 A4 (n + q) c4 cs) := by
    have e : bs.map b8 ++ List.replicate q (Value.int .u8 0) = cs.map b8 := by rw [← Hcs.out, List.map_append, List.map_replicate]; rfl
    rw [e] at ho5
    exact SB.own ho5
  have HS5 := lib_hid (HS.out.grows hg6)
  have HH5 := lib_hid (HB0.out.grows hg6)
  have hgw := hg0.trans hg6
  have hmod := Hmod.out
  clear ho5 hb5 hg5 hb4 HO3
  apply wp_region_mono 17 ((.is _, []) :: (.is _, []) :: (.is (.int .i64 0), []) :: (.is _, []) :: (.is _, []) :: (.is (.agg (hs.map b8).toArray), []) :: (.is _, []) :: (.is (.agg ((fin).map b8).toArray), []) :: (.is (.agg (hs.map b8).toArray), []) :: (.is _, []) :: (.is (.agg ((fin).map b8).toArray), []) :: (.is (.bool true), []) :: (.is _, []) :: (.is _, []) :: (.is (.bool true), []) :: (.is _, []) :: (.is _, []) :: []) (by kernel_rfl) (by kernel_rfl)
  iterate 2
    apply Mono.is0
    · kernel_rfl
    · intro W hW
      go_wp2
      refine ⟨rfl, rfl, Grows.refl _, ?_⟩
      unfold Oper.valAt
      go_simp
      rfl
    intro k1 a1 hk1 ha1
    simp only [Nat.reduceAdd] at hk1
    simp only [Act.put, List.setIfInBounds_toArray, List.set_cons_succ, List.set_cons_zero] at ha1
    subst hk1 ha1
  apply Mono.is0
  · kernel_rfl
  · intro W hW 
    go_wp2
    refine ⟨rfl, rfl, Grows.refl _, ?_⟩
    unfold Oper.valAt
    go_simp
  intro k1 a1 hk1 ha1
  simp only [Nat.reduceAdd] at hk1
  simp only [Act.put, List.setIfInBounds_toArray, List.set_cons_succ, List.set_cons_zero] at ha1
  subst hk1 ha1
  iterate 2
    apply Mono.is0
    · kernel_rfl
    · intro W hW
      go_wp2
      refine ⟨rfl, rfl, Grows.refl _, ?_⟩
      unfold Oper.valAt
      go_simp
      rfl
    intro k1 a1 hk1 ha1
    simp only [Nat.reduceAdd] at hk1
    simp only [Act.put, List.setIfInBounds_toArray, List.set_cons_succ, List.set_cons_zero] at ha1
    subst hk1 ha1
  apply Mono.is0
  · kernel_rfl
  · intro W hW 
    go_wp2_with (refine wpList_load_blk (by kernel_rfl) _ _ rfl w.heap.size rfl 22 (hs.map b8).toArray _ (HH5.out.grows hW) Try.underlying22 rfl (by rw [Try.size16]; simp [hsl.out]) ?_)
    exact ⟨rfl, rfl, Grows.refl _, rfl⟩
  intro k1 a1 hk1 ha1
  simp only [Nat.reduceAdd] at hk1
  simp only [Act.put, List.setIfInBounds_toArray, List.set_cons_succ, List.set_cons_zero] at ha1
  subst hk1 ha1
  apply Mono.is0
  · kernel_rfl
  · intro W hW
    go_wp2
    refine ⟨rfl, rfl, Grows.refl _, ?_⟩
    unfold Oper.valAt
    go_simp
    rfl
  intro k1 a1 hk1 ha1
  simp only [Nat.reduceAdd] at hk1
  simp only [Act.put, List.setIfInBounds_toArray, List.set_cons_succ, List.set_cons_zero] at ha1
  subst hk1 ha1
  apply Mono.is0
  · kernel_rfl
  · intro W hW 
    go_wp2_with fail
    refine (Hs1.out W (HS5.out.grows hW)).mono ?_
    rintro e w1 ⟨rfl, hg1⟩
    go_wp2
    exact ⟨rfl, rfl, hg1, rfl⟩
  intro k1 a1 hk1 ha1
  simp only [Nat.reduceAdd] at hk1
  simp only [Act.put, List.setIfInBounds_toArray, List.set_cons_succ, List.set_cons_zero] at ha1
  subst hk1 ha1
  apply Mono.is0
  · kernel_rfl
  · intro W hW 
    go_wp2_with (refine wpList_load_blk (by kernel_rfl) _ _ rfl w.heap.size rfl 22 (hs.map b8).toArray _ (HH5.out.grows hW) Try.underlying22 rfl (by rw [Try.size16]; simp [hsl.out]) ?_)
    exact ⟨rfl, rfl, Grows.refl _, rfl⟩
  intro k1 a1 hk1 ha1
  simp only [Nat.reduceAdd] at hk1
  simp only [Act.put, List.setIfInBounds_toArray, List.set_cons_succ, List.set_cons_zero] at ha1
  subst hk1 ha1
  apply Mono.is0
  · kernel_rfl
  · intro W hW
    go_wp2
    refine ⟨rfl, rfl, Grows.refl _, ?_⟩
    unfold Oper.valAt
    go_simp
    rfl
  intro k1 a1 hk1 ha1
  simp only [Nat.reduceAdd] at hk1
  simp only [Act.put, List.setIfInBounds_toArray, List.set_cons_succ, List.set_cons_zero] at ha1
  subst hk1 ha1
  apply Mono.is0
  · kernel_rfl
  · intro W hW 
    go_wp2_with fail
    refine (Hs2.out _ _ _ W (HC5.out.grows hW)).mono ?_
    rintro e w1 ⟨rfl, hg1⟩
    go_wp2
    exact ⟨rfl, rfl, hg1, rfl⟩
  intro k1 a1 hk1 ha1
  simp only [Nat.reduceAdd] at hk1
  simp only [Act.put, List.setIfInBounds_toArray, List.set_cons_succ, List.set_cons_zero] at ha1
  subst hk1 ha1
  apply Mono.is0
  · kernel_rfl
  · intro W hW 
    have he : (Op.equalIn 10000 22 (.agg ((fin).map b8).toArray) (.agg ((fin).map b8).toArray)).run Try.prog W = .ok true W := (run_equalIn_bytes W 9998 22 5 16 (fin) (fin) finl.out finl.out Try.arr16 Try.underlying5 Try.sizeByte).trans (by rw [beq_self_eq_true])
    go_wp2
    refine ⟨rfl, rfl, Grows.refl _, ?_⟩
    unfold Oper.valAt
    go_simp
  intro k1 a1 hk1 ha1
  simp only [Nat.reduceAdd] at hk1
  simp only [Act.put, List.setIfInBounds_toArray, List.set_cons_succ, List.set_cons_zero] at ha1
  subst hk1 ha1
  iterate 2
    apply Mono.is0
    · kernel_rfl
    · intro W hW
      go_wp2
      refine ⟨rfl, rfl, Grows.refl _, ?_⟩
      unfold Oper.valAt
      go_simp
      rfl
    intro k1 a1 hk1 ha1
    simp only [Nat.reduceAdd] at hk1
    simp only [Act.put, List.setIfInBounds_toArray, List.set_cons_succ, List.set_cons_zero] at ha1
    subst hk1 ha1
  apply Mono.is0
  · kernel_rfl
  · intro W hW 
    go_wp2_with fail
    refine (awake6_any W).mono ?_
    rintro e w1 ⟨rfl, hg1⟩
    go_wp2
    exact ⟨rfl, rfl, hg1, rfl⟩
  intro k1 a1 hk1 ha1
  simp only [Nat.reduceAdd] at hk1
  simp only [Act.put, List.setIfInBounds_toArray, List.set_cons_succ, List.set_cons_zero] at ha1
  subst hk1 ha1
  iterate 2
    apply Mono.is0
    · kernel_rfl
    · intro W hW
      go_wp2
      refine ⟨rfl, rfl, Grows.refl _, ?_⟩
      unfold Oper.valAt
      go_simp
      rfl
    intro k1 a1 hk1 ha1
    simp only [Nat.reduceAdd] at hk1
    simp only [Act.put, List.setIfInBounds_toArray, List.set_cons_succ, List.set_cons_zero] at ha1
    subst hk1 ha1
  refine Mono.done ?_
  intro wm hgm
  simp only [allF, List.drop_succ_cons, List.drop_nil]
  go_wp2
  go_ret
  exact ⟨rfl, hgw.trans hgm⟩

end Go.Proofs.Ytlnldflnanllmaa
