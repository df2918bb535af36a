/-
  The walks of the laws of layer 1: BitsSteps.
-/
import Derived.Test.YtbajolgfejcecaaAwake1
import Derived.Test.YtbajolgfejcecaaArrEq
import Derived.Test.YtbajolgfejcecaaCountLe
namespace Go.Proofs.Ytbajolgfejcecaa
open Go Go.RowKit

set_option maxRecDepth 100000 in
set_option maxHeartbeats 4000000 in
theorem walk_BitsSteps (bs : List UInt8) (n m : UInt32) (w : World) (hb : bs.length = 16) :
    Calls Try.prog 10 #[.agg (bs.map b8).toArray, .int .u32 n.toNat, .int .u32 m.toNat] w fun e w' => e = .returned (.bool true) ∧ Below w.heap.size w w' := by
  obtain ⟨n64, Hn, hn⟩ : ∃ n64 : UInt64, Hid (n64 = n.toUInt64) ∧ IntKind.u64.wrap (n.toNat : Int) = (n64.toNat : Int) := ⟨_, lib_hid rfl, u64_of_u32 n⟩
  obtain ⟨m64, Hm, hm⟩ : ∃ m64 : UInt64, Hid (m64 = m.toUInt64) ∧ IntKind.u64.wrap (m.toNat : Int) = (m64.toNat : Int) := ⟨_, lib_hid rfl, u64_of_u32 m⟩
  obtain ⟨s64, Hs, hs⟩ : ∃ s64 : UInt64, Hid (s64 = n64 + m64) ∧ IntKind.u64.wrap ((n64.toNat : Int) + (m64.toNat : Int)) = (s64.toNat : Int) := ⟨_, lib_hid rfl, u64_wrap_add n64 m64⟩
  obtain ⟨a1, Ha1, HA1l⟩ : ∃ a1, Hid (a1 = countF bs n64) ∧ Hid (a1.length = 16) := ⟨_, lib_hid rfl, lib_hid (countF_len _ _)⟩
  obtain ⟨a2, Ha2, HA2l⟩ : ∃ a2, Hid (a2 = countF a1 m64) ∧ Hid (a2.length = 16) := ⟨_, lib_hid rfl, lib_hid (countF_len _ _)⟩
  obtain ⟨am, Ham, HAml⟩ : ∃ am, Hid (am = countF bs m64) ∧ Hid (am.length = 16) := ⟨_, lib_hid rfl, lib_hid (countF_len _ _)⟩
  obtain ⟨bq, Hbq⟩ : ∃ bq : Bool, Hid (bq = (a1 == am)) := ⟨_, lib_hid rfl⟩
  have Hbn : Hid (bq = (n == m)) := by
    unfold Hid
    rw [Hbq.out, Ha1.out, Ham.out, Bool.eq_iff_iff, beq_iff_eq, beq_iff_eq, countF_inj bs hb, Hn.out, Hm.out]
    constructor
    · intro h; exact UInt32.toNat_inj.1 (by have := congrArg UInt64.toNat h; simpa using this)
    · intro h; rw [h]
  have HS2 : Hid (countF bs s64 = a2) := by
    unfold Hid
    rw [Ha2.out, Ha1.out, Hs.out]
    exact (countF_add bs hb n64 m64 (by rw [Hn.out, Hm.out]; have := n.toNat_lt; have := m.toNat_lt; simp; omega)).symm
  have H0 : Hid (countF bs 0 = bs) := countF_zero bs hb
  have HCl := lib_hid hb
  clear hb
  obtain ⟨W0, HW0, hW0, hg0⟩ : ∃ W0 : World, Hid (W0 = w.alloc (.cells (bs.map b8).toArray 37)) ∧ W0.heap.size = w.heap.size + 1 ∧ Grows w W0 := ⟨_, lib_hid rfl, by simp, (Grows.refl w).alloc _⟩
  have HC : Hid (Blk W0 w.heap.size 37 (bs.map b8).toArray) := by unfold Hid; rw [HW0.out]; exact Blk.new _ _ _
  go_enter Try.func10, Try.ntmps10
  go_wp2_with (rw [← HW0.out]; refine wpList_load_blk rfl _ _ rfl w.heap.size rfl 37 (bs.map b8).toArray _ HC.out Try.underlying37 rfl (by rw [Try.size16]; simp [HCl.out]) ?_)
  refine (count_any bs HCl.out n64 W0).mono ?_
  rintro e w1 ⟨rfl, hg1⟩
  rw [← Ha1.out]
  go_wp2_with fail
  refine (count_any a1 HA1l.out m64 w1).mono ?_
  rintro e w2 ⟨rfl, hg2⟩
  rw [← Ha2.out]
  go_wp2_with (first | (refine wpList_store_blk rfl _ _ _ rfl w2.heap.size (a2.map b8).toArray rfl rfl 37 _ (Blk.new _ _ _) (by rw [Try.size16]; simp [HA2l.out]) (by simp [HA2l.out]) (cells_all _) w2.heap.size w2 ((Grows.refl w2).alloc _) (Nat.le_refl _) ?_; intro w3 HA3 hb3 hg3) | fail)
  have HC3 : Hid (Blk w3 w.heap.size 37 (bs.map b8).toArray) := lib_hid ((HC.out.grows (hg1.trans hg2)).grows hb3)
  have HA4 := lib_hid HA3
  have HA4l := HA2l
  have HC3l := HCl
  have hgw : Grows w w3 := (hg0.trans (hg1.trans hg2)).trans hb3
  clear HC hb3 hg3 HA3
  simp only [Act.put]
  apply wp_region_mono 34 ((.is (.agg ((a2).map b8).toArray), []) :: (.is (.agg ((bs).map b8).toArray), []) :: (.is _, []) :: (.is _, []) :: (.is _, []) :: (.is _, []) :: (.is _, []) :: (.is (.agg ((a2).map b8).toArray), []) :: (.is (.bool true), []) :: (.is _, []) :: (.is (.agg ((bs).map b8).toArray), []) :: (.is _, []) :: (.is _, []) :: (.is (.agg ((a1).map b8).toArray), []) :: (.is (.agg ((bs).map b8).toArray), []) :: (.is _, []) :: (.is _, []) :: (.is (.agg ((am).map b8).toArray), []) :: (.is (.bool bq), []) :: (.is _, []) :: (.is _, []) :: (.is (.bool bq), []) :: (.is (.bool true), []) :: (.is _, []) :: (.is _, []) :: (.is (.agg ((bs).map b8).toArray), []) :: (.is (.agg ((bs).map b8).toArray), []) :: (.is (.agg ((bs).map b8).toArray), []) :: (.is (.bool true), []) :: (.is _, []) :: (.is _, []) :: (.is (.bool true), []) :: (.is _, []) :: (.is _, []) :: []) (by kernel_rfl) (by kernel_rfl)
  apply Mono.is0
  · kernel_rfl
  · intro W hW 
    go_wp2_with (refine wpList_load_blk (by kernel_rfl) _ _ rfl (w2.heap.size) rfl 37 ((a2).map b8).toArray _ (HA4.out.grows hW) Try.underlying37 rfl (by rw [Try.size16]; simp [HA4l.out]) ?_)
    exact ⟨rfl, rfl, Grows.refl _, rfl⟩
  intro k1 a1 hk1 ha1
  simp only [Nat.reduceAdd] at hk1
  simp only [Act.put, List.setIfInBounds_toArray, List.set_cons_succ, List.set_cons_zero] at ha1
  subst hk1 ha1
  apply Mono.is0
  · kernel_rfl
  · intro W hW 
    go_wp2_with (refine wpList_load_blk (by kernel_rfl) _ _ rfl (w.heap.size) rfl 37 ((bs).map b8).toArray _ (HC3.out.grows hW) Try.underlying37 rfl (by rw [Try.size16]; simp [HC3l.out]) ?_)
    exact ⟨rfl, rfl, Grows.refl _, rfl⟩
  intro k1 a1 hk1 ha1
  simp only [Nat.reduceAdd] at hk1
  simp only [Act.put, List.setIfInBounds_toArray, List.set_cons_succ, List.set_cons_zero] at ha1
  subst hk1 ha1
  iterate 5
    apply Mono.is0
    · kernel_rfl
    · intro W hW
      go_wp2
      refine ⟨rfl, rfl, Grows.refl _, ?_⟩
      unfold Oper.valAt
      go_simp
      rfl
    intro k1 a1 hk1 ha1
    simp only [Nat.reduceAdd] at hk1
    simp only [Act.put, List.setIfInBounds_toArray, List.set_cons_succ, List.set_cons_zero] at ha1
    subst hk1 ha1
  apply Mono.is0
  · kernel_rfl
  · intro W hW 
    go_wp2_with fail
    refine (count_any (bs) HCl.out s64 W).mono ?_
    rintro e w1 ⟨rfl, hg1⟩
    go_wp2
    refine ⟨rfl, rfl, hg1, ?_⟩
    unfold Oper.valAt
    go_simp
    rw [HS2.out]
  intro k1 a1 hk1 ha1
  simp only [Nat.reduceAdd] at hk1
  simp only [Act.put, List.setIfInBounds_toArray, List.set_cons_succ, List.set_cons_zero] at ha1
  subst hk1 ha1
  apply Mono.is0
  · kernel_rfl
  · intro W hW 
    have he : (Op.equalIn 10000 37 (.agg ((a2).map b8).toArray) (.agg ((a2).map b8).toArray)).run Try.prog W = .ok true W := (run_equalIn_bytes W 9998 37 5 16 (a2) (a2) HA2l.out HA2l.out Try.arr16 Try.underlying5 Try.sizeByte).trans (by rw [beq_self_eq_true])
    go_wp2
    refine ⟨rfl, rfl, Grows.refl _, ?_⟩
    unfold Oper.valAt
    go_simp
  intro k1 a1 hk1 ha1
  simp only [Nat.reduceAdd] at hk1
  simp only [Act.put, List.setIfInBounds_toArray, List.set_cons_succ, List.set_cons_zero] at ha1
  subst hk1 ha1
  apply Mono.is0
  · kernel_rfl
  · intro W hW
    go_wp2
    refine ⟨rfl, rfl, Grows.refl _, ?_⟩
    unfold Oper.valAt
    go_simp
    rfl
  intro k1 a1 hk1 ha1
  simp only [Nat.reduceAdd] at hk1
  simp only [Act.put, List.setIfInBounds_toArray, List.set_cons_succ, List.set_cons_zero] at ha1
  subst hk1 ha1
  apply Mono.is0
  · kernel_rfl
  · intro W hW 
    go_wp2_with (refine wpList_load_blk (by kernel_rfl) _ _ rfl (w.heap.size) rfl 37 ((bs).map b8).toArray _ (HC3.out.grows hW) Try.underlying37 rfl (by rw [Try.size16]; simp [HC3l.out]) ?_)
    exact ⟨rfl, rfl, Grows.refl _, rfl⟩
  intro k1 a1 hk1 ha1
  simp only [Nat.reduceAdd] at hk1
  simp only [Act.put, List.setIfInBounds_toArray, List.set_cons_succ, List.set_cons_zero] at ha1
  subst hk1 ha1
  iterate 2
    apply Mono.is0
    · kernel_rfl
    · intro W hW
      go_wp2
      refine ⟨rfl, rfl, Grows.refl _, ?_⟩
      unfold Oper.valAt
      go_simp
      rfl
    intro k1 a1 hk1 ha1
    simp only [Nat.reduceAdd] at hk1
    simp only [Act.put, List.setIfInBounds_toArray, List.set_cons_succ, List.set_cons_zero] at ha1
    subst hk1 ha1
  apply Mono.is0
  · kernel_rfl
  · intro W hW 
    go_wp2_with fail
    refine (count_any (bs) HCl.out n64 W).mono ?_
    rintro e w1 ⟨rfl, hg1⟩
    go_wp2
    refine ⟨rfl, rfl, hg1, ?_⟩
    unfold Oper.valAt
    go_simp
    rw [← Ha1.out]
  intro k1 a1 hk1 ha1
  simp only [Nat.reduceAdd] at hk1
  simp only [Act.put, List.setIfInBounds_toArray, List.set_cons_succ, List.set_cons_zero] at ha1
  subst hk1 ha1
  apply Mono.is0
  · kernel_rfl
  · intro W hW 
    go_wp2_with (refine wpList_load_blk (by kernel_rfl) _ _ rfl (w.heap.size) rfl 37 ((bs).map b8).toArray _ (HC3.out.grows hW) Try.underlying37 rfl (by rw [Try.size16]; simp [HC3l.out]) ?_)
    exact ⟨rfl, rfl, Grows.refl _, rfl⟩
  intro k1 a1 hk1 ha1
  simp only [Nat.reduceAdd] at hk1
  simp only [Act.put, List.setIfInBounds_toArray, List.set_cons_succ, List.set_cons_zero] at ha1
  subst hk1 ha1
  iterate 2
    apply Mono.is0
    · kernel_rfl
    · intro W hW
      go_wp2
      refine ⟨rfl, rfl, Grows.refl _, ?_⟩
      unfold Oper.valAt
      go_simp
      rfl
    intro k1 a1 hk1 ha1
    simp only [Nat.reduceAdd] at hk1
    simp only [Act.put, List.setIfInBounds_toArray, List.set_cons_succ, List.set_cons_zero] at ha1
    subst hk1 ha1
  apply Mono.is0
  · kernel_rfl
  · intro W hW 
    go_wp2_with fail
    refine (count_any (bs) HCl.out m64 W).mono ?_
    rintro e w1 ⟨rfl, hg1⟩
    go_wp2
    refine ⟨rfl, rfl, hg1, ?_⟩
    unfold Oper.valAt
    go_simp
    rw [← Ham.out]
  intro k1 a1 hk1 ha1
  simp only [Nat.reduceAdd] at hk1
  simp only [Act.put, List.setIfInBounds_toArray, List.set_cons_succ, List.set_cons_zero] at ha1
  subst hk1 ha1
  apply Mono.is0
  · kernel_rfl
  · intro W hW 
    have he : (Op.equalIn 10000 37 (.agg ((a1).map b8).toArray) (.agg ((am).map b8).toArray)).run Try.prog W = .ok bq W := (run_equalIn_bytes W 9998 37 5 16 (a1) (am) HA1l.out HAml.out Try.arr16 Try.underlying5 Try.sizeByte).trans (by rw [← Hbq.out])
    go_wp2
    refine ⟨rfl, rfl, Grows.refl _, ?_⟩
    unfold Oper.valAt
    go_simp
  intro k1 a1 hk1 ha1
  simp only [Nat.reduceAdd] at hk1
  simp only [Act.put, List.setIfInBounds_toArray, List.set_cons_succ, List.set_cons_zero] at ha1
  subst hk1 ha1
  iterate 2
    apply Mono.is0
    · kernel_rfl
    · intro W hW
      go_wp2
      refine ⟨rfl, rfl, Grows.refl _, ?_⟩
      unfold Oper.valAt
      go_simp
      rfl
    intro k1 a1 hk1 ha1
    simp only [Nat.reduceAdd] at hk1
    simp only [Act.put, List.setIfInBounds_toArray, List.set_cons_succ, List.set_cons_zero] at ha1
    subst hk1 ha1
  apply Mono.is0
  · kernel_rfl
  · intro W hW 
    go_wp2
    refine ⟨rfl, rfl, Grows.refl _, ?_⟩
    unfold Oper.valAt
    go_simp
    rw [u32_beq, Hbn.out]
  intro k1 a1 hk1 ha1
  simp only [Nat.reduceAdd] at hk1
  simp only [Act.put, List.setIfInBounds_toArray, List.set_cons_succ, List.set_cons_zero] at ha1
  subst hk1 ha1
  apply Mono.is0
  · kernel_rfl
  · intro W hW 
    go_wp2
    refine ⟨rfl, rfl, Grows.refl _, ?_⟩
    unfold Oper.valAt
    go_simp
  intro k1 a1 hk1 ha1
  simp only [Nat.reduceAdd] at hk1
  simp only [Act.put, List.setIfInBounds_toArray, List.set_cons_succ, List.set_cons_zero] at ha1
  subst hk1 ha1
  iterate 2
    apply Mono.is0
    · kernel_rfl
    · intro W hW
      go_wp2
      refine ⟨rfl, rfl, Grows.refl _, ?_⟩
      unfold Oper.valAt
      go_simp
      rfl
    intro k1 a1 hk1 ha1
    simp only [Nat.reduceAdd] at hk1
    simp only [Act.put, List.setIfInBounds_toArray, List.set_cons_succ, List.set_cons_zero] at ha1
    subst hk1 ha1
  apply Mono.is0
  · kernel_rfl
  · intro W hW 
    go_wp2_with (refine wpList_load_blk (by kernel_rfl) _ _ rfl (w.heap.size) rfl 37 ((bs).map b8).toArray _ (HC3.out.grows hW) Try.underlying37 rfl (by rw [Try.size16]; simp [HC3l.out]) ?_)
    exact ⟨rfl, rfl, Grows.refl _, rfl⟩
  intro k1 a1 hk1 ha1
  simp only [Nat.reduceAdd] at hk1
  simp only [Act.put, List.setIfInBounds_toArray, List.set_cons_succ, List.set_cons_zero] at ha1
  subst hk1 ha1
  apply Mono.is0
  · kernel_rfl
  · intro W hW 
    go_wp2_with fail
    refine (count_any (bs) HCl.out 0 W).mono ?_
    rintro e w1 ⟨rfl, hg1⟩
    go_wp2
    refine ⟨rfl, rfl, hg1, ?_⟩
    unfold Oper.valAt
    go_simp
    rw [H0.out]
  intro k1 a1 hk1 ha1
  simp only [Nat.reduceAdd] at hk1
  simp only [Act.put, List.setIfInBounds_toArray, List.set_cons_succ, List.set_cons_zero] at ha1
  subst hk1 ha1
  apply Mono.is0
  · kernel_rfl
  · intro W hW 
    go_wp2_with (refine wpList_load_blk (by kernel_rfl) _ _ rfl (w.heap.size) rfl 37 ((bs).map b8).toArray _ (HC3.out.grows hW) Try.underlying37 rfl (by rw [Try.size16]; simp [HC3l.out]) ?_)
    exact ⟨rfl, rfl, Grows.refl _, rfl⟩
  intro k1 a1 hk1 ha1
  simp only [Nat.reduceAdd] at hk1
  simp only [Act.put, List.setIfInBounds_toArray, List.set_cons_succ, List.set_cons_zero] at ha1
  subst hk1 ha1
  apply Mono.is0
  · kernel_rfl
  · intro W hW 
    have he : (Op.equalIn 10000 37 (.agg ((bs).map b8).toArray) (.agg ((bs).map b8).toArray)).run Try.prog W = .ok true W := (run_equalIn_bytes W 9998 37 5 16 (bs) (bs) HCl.out HCl.out Try.arr16 Try.underlying5 Try.sizeByte).trans (by rw [beq_self_eq_true])
    go_wp2
    refine ⟨rfl, rfl, Grows.refl _, ?_⟩
    unfold Oper.valAt
    go_simp
  intro k1 a1 hk1 ha1
  simp only [Nat.reduceAdd] at hk1
  simp only [Act.put, List.setIfInBounds_toArray, List.set_cons_succ, List.set_cons_zero] at ha1
  subst hk1 ha1
  iterate 2
    apply Mono.is0
    · kernel_rfl
    · intro W hW
      go_wp2
      refine ⟨rfl, rfl, Grows.refl _, ?_⟩
      unfold Oper.valAt
      go_simp
      rfl
    intro k1 a1 hk1 ha1
    simp only [Nat.reduceAdd] at hk1
    simp only [Act.put, List.setIfInBounds_toArray, List.set_cons_succ, List.set_cons_zero] at ha1
    subst hk1 ha1
  apply Mono.is0
  · kernel_rfl
  · intro W hW 
    go_wp2_with fail
    refine (awake_any W).mono ?_
    rintro e w1 ⟨rfl, hg1⟩
    go_wp2
    exact ⟨rfl, rfl, hg1, rfl⟩
  intro k1 a1 hk1 ha1
  simp only [Nat.reduceAdd] at hk1
  simp only [Act.put, List.setIfInBounds_toArray, List.set_cons_succ, List.set_cons_zero] at ha1
  subst hk1 ha1
  iterate 2
    apply Mono.is0
    · kernel_rfl
    · intro W hW
      go_wp2
      refine ⟨rfl, rfl, Grows.refl _, ?_⟩
      unfold Oper.valAt
      go_simp
      rfl
    intro k1 a1 hk1 ha1
    simp only [Nat.reduceAdd] at hk1
    simp only [Act.put, List.setIfInBounds_toArray, List.set_cons_succ, List.set_cons_zero] at ha1
    subst hk1 ha1
  refine Mono.done ?_
  intro wm hgm
  simp only [allF, List.drop_succ_cons, List.drop_nil]
  go_wp2
  go_ret
  exact ⟨rfl, hgw.trans hgm⟩

end Go.Proofs.Ytbajolgfejcecaa
