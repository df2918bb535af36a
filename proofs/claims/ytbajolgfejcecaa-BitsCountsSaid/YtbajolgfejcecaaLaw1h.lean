/-
  The walks of the laws of layer 1: BitsCounts.
-/
import Derived.Test.YtbajolgfejcecaaAwake1
import Derived.Test.YtbajolgfejcecaaArrEq
import Derived.Test.YtbajolgfejcecaaCountLe
import Derived.Test.YtbajolgfejcecaaArr
import Derived.Test.YtbajolgfejcecaaOpenTurn
import Derived.Test.YtbajolgfejcecaaMonoJ
import Derived.Deep.Cut
namespace Go.Proofs.Ytbajolgfejcecaa
open Go Go.RowKit
set_option linter.unusedSimpArgs false

/-- While the argument is taken apart: the array's own block is made, then filled. -/
def CntI (W0 : World) (bs : List UInt8) (m : Nat) (W : World) : Prop :=
  Grows W0 W ∧ (m = 0 → W.heap.size = W0.heap.size) ∧ (m = 1 → Blk W W0.heap.size 37 #[.int .u8 0, .int .u8 0, .int .u8 0, .int .u8 0, .int .u8 0, .int .u8 0, .int .u8 0, .int .u8 0, .int .u8 0, .int .u8 0, .int .u8 0, .int .u8 0, .int .u8 0, .int .u8 0, .int .u8 0, .int .u8 0]) ∧ (2 ≤ m → Blk W W0.heap.size 37 (bs.map b8).toArray)

set_option maxRecDepth 100000 in
set_option maxHeartbeats 4000000 in
theorem walk_BitsCounts (x : UInt32) (n : Int) (bs : List UInt8) (m : UInt64) (w : World) (hb : bs.length = 16) :
    Calls Try.prog 9 #[.agg (.int .u32 x.toNat :: .int .i64 n :: (bs.map b8 ++ [.int .u64 m.toNat])).toArray] w fun e w' => e = .returned (.bool true) ∧ Below w.heap.size w w' := by
  obtain ⟨lf, Hlf⟩ : ∃ lf, Hid (leftF x n = lf) := ⟨_, lib_hid rfl⟩
  obtain ⟨a1, Ha1, HA1l⟩ : ∃ a1, Hid (a1 = countF bs m) ∧ Hid (a1.length = 16) := ⟨_, lib_hid rfl, lib_hid (countF_len _ _)⟩
  have Hr1 : Hid (refCnt (putBigF m 16) 16 bs 0 = a1) := by unfold Hid; rw [Ha1.out]; exact refCnt_eq bs hb m
  have HCl := lib_hid hb
  obtain ⟨zs, Hz⟩ : ∃ zs : List Value, Hid (zs = .int .u32 x.toNat :: .int .i64 n :: (bs.map b8 ++ [.int .u64 m.toNat])) := ⟨_, lib_hid rfl⟩
  rw [← Hz.out]
  have Hzl : Hid (zs.length = 19) := by unfold Hid; rw [Hz.out]; simp [hb]
  obtain ⟨W0, HW0, hW0, hg0⟩ : ∃ W0 : World, Hid (W0 = w.alloc (.cells zs.toArray 39)) ∧ W0.heap.size = w.heap.size + 1 ∧ Grows w W0 := ⟨_, lib_hid rfl, by simp, (Grows.refl w).alloc _⟩
  have HC : Hid (Blk W0 w.heap.size 39 zs.toArray) := by unfold Hid; rw [HW0.out]; exact Blk.new _ _ _
  have HF0 : Hid (∀ W, Grows W0 W → W.cell? ⟨w.heap.size, 0, none⟩ = some (.int .u32 x.toNat)) := fun W hW => by rw [(HC.out.grows hW).cell, Hz.out]; rfl
  have HF1 : Hid (∀ W, Grows W0 W → W.cell? ⟨w.heap.size, 1, none⟩ = some (.int .i64 n)) := fun W hW => by rw [(HC.out.grows hW).cell, Hz.out]; rfl
  have HF3 : Hid (∀ W, Grows W0 W → W.cell? ⟨w.heap.size, 18, none⟩ = some (.int .u64 m.toNat)) := fun W hW => by rw [(HC.out.grows hW).cell, Hz.out]; simp [hb]
  have HF2 : Hid (∀ W, Grows W0 W → Row W (some ⟨w.heap.size, 2, none⟩) 16 16 (bs.map b8)) := fun W hW => by
    have := (HC.out.grows hW).row (o := 2) (n := 16) (c := 16) (by omega) (by simp [Hzl.out]) (by unfold maxLen; omega)
    rw [Hz.out] at this
    simpa [List.take_append, hb] using this
  clear hb
  go_enter Try.func9, Try.ntmps9
  go_wp2_with fail
  rw [← HW0.out]
  have hI0 : CntI W0 bs 0 W0.drew := ⟨(Grows.refl W0).drew, fun _ => rfl, fun h => by omega, fun h => by omega⟩
  apply wp_region_monoJ (fun _ _ => True) (fun _ => trivial) (ChainJ [8, 11] (fun m W => CntI W0 bs m W)) #[0, 1, 0, 4, 0, 16, 0, 64, 0, 259, 783, 1855, 4095] 13 ((.is _, []) :: (.is _, []) :: (.is _, []) :: (.is _, []) :: (.is _, []) :: (.is (.agg (bs.map b8).toArray), []) :: (.is _, []) :: (.is _, []) :: (.is (.pointer (some ⟨W0.heap.size, 0, none⟩)), []) :: (.is _, []) :: (.is _, []) :: (.is undef, []) :: (.is _, []) :: []) (by kernel_rfl) (chain_start (hI0)) (by kernel_rfl)
  apply MonoJ.is0
  · kernel_rfl
  · intro L W hLk hsh hah hJ
    have hJ2 := lib_hid (chain_pure (k := 0) (w' := W) (by decide) (fun _ h => h) hJ)
    clear hJ hsh hah
    go_wp2
    refine ⟨rfl, rfl, ⟨trivial, hJ2.out⟩, ?_⟩
    unfold Oper.valAt
    go_simp
    rfl
  intro k1 a1 hk1 ha1
  simp only [Nat.reduceAdd] at hk1
  simp only [Act.put, List.setIfInBounds_toArray, List.set_cons_succ, List.set_cons_zero] at ha1
  subst hk1 ha1
  apply MonoJ.is0
  · kernel_rfl
  · intro L W hLk hsh hah hJ
    have hgW : Grows W0 W := by obtain ⟨m, _, hI⟩ := hJ; exact hI.1
    have hcc := HF0.out W hgW
    clear hgW
    have hJ2 := lib_hid (chain_pure (k := 1) (w' := W) (by decide) (fun _ h => h) hJ)
    clear hJ hsh hah
    go_wp2
    refine ⟨rfl, rfl, ⟨trivial, hJ2.out⟩, ?_⟩
    unfold Oper.valAt
    go_simp
    rfl
  intro k1 a1 hk1 ha1
  simp only [Nat.reduceAdd] at hk1
  simp only [Act.put, List.setIfInBounds_toArray, List.set_cons_succ, List.set_cons_zero] at ha1
  subst hk1 ha1
  apply MonoJ.is0
  · kernel_rfl
  · intro L W hLk hsh hah hJ
    have hJ2 := lib_hid (chain_pure (k := 2) (w' := W) (by decide) (fun _ h => h) hJ)
    clear hJ hsh hah
    go_wp2
    refine ⟨rfl, rfl, ⟨trivial, hJ2.out⟩, ?_⟩
    unfold Oper.valAt
    go_simp
    rfl
  intro k1 a1 hk1 ha1
  simp only [Nat.reduceAdd] at hk1
  simp only [Act.put, List.setIfInBounds_toArray, List.set_cons_succ, List.set_cons_zero] at ha1
  subst hk1 ha1
  apply MonoJ.is0
  · kernel_rfl
  · intro L W hLk hsh hah hJ
    have hgW : Grows W0 W := by obtain ⟨m, _, hI⟩ := hJ; exact hI.1
    have hcc := HF1.out W hgW
    clear hgW
    have hJ2 := lib_hid (chain_pure (k := 3) (w' := W) (by decide) (fun _ h => h) hJ)
    clear hJ hsh hah
    go_wp2
    refine ⟨rfl, rfl, ⟨trivial, hJ2.out⟩, ?_⟩
    unfold Oper.valAt
    go_simp
    rfl
  intro k1 a1 hk1 ha1
  simp only [Nat.reduceAdd] at hk1
  simp only [Act.put, List.setIfInBounds_toArray, List.set_cons_succ, List.set_cons_zero] at ha1
  subst hk1 ha1
  apply MonoJ.is0
  · kernel_rfl
  · intro L W hLk hsh hah hJ
    have hJ2 := lib_hid (chain_pure (k := 4) (w' := W) (by decide) (fun _ h => h) hJ)
    clear hJ hsh hah
    go_wp2
    refine ⟨rfl, rfl, ⟨trivial, hJ2.out⟩, ?_⟩
    unfold Oper.valAt
    go_simp
    rfl
  intro k1 a1 hk1 ha1
  simp only [Nat.reduceAdd] at hk1
  simp only [Act.put, List.setIfInBounds_toArray, List.set_cons_succ, List.set_cons_zero] at ha1
  subst hk1 ha1
  apply MonoJ.is0
  · kernel_rfl
  · intro L W hLk hsh hah hJ
    have hgW : Grows W0 W := by obtain ⟨m, _, hI⟩ := hJ; exact hI.1
    have hJ2 := lib_hid (chain_pure (k := 5) (w' := W) (by decide) (fun _ h => h) hJ)
    clear hJ hsh hah
    go_wp2_with (refine wpList_load_part (by kernel_rfl) _ _ rfl ⟨w.heap.size, 2, none⟩ rfl 16 16 (bs.map b8) _ (HF2.out W hgW) Try.underlying37 rfl Try.size16 ?_)
    first | exact ⟨rfl, rfl, hJ2.out, rfl⟩ | exact ⟨rfl, rfl, ⟨trivial, hJ2.out⟩, rfl⟩
  intro k1 a1 hk1 ha1
  simp only [Nat.reduceAdd] at hk1
  simp only [Act.put, List.setIfInBounds_toArray, List.set_cons_succ, List.set_cons_zero] at ha1
  subst hk1 ha1
  apply MonoJ.is0
  · kernel_rfl
  · intro L W hLk hsh hah hJ
    have hJ2 := lib_hid (chain_pure (k := 6) (w' := W) (by decide) (fun _ h => h) hJ)
    clear hJ hsh hah
    go_wp2
    refine ⟨rfl, rfl, ⟨trivial, hJ2.out⟩, ?_⟩
    unfold Oper.valAt
    go_simp
    rfl
  intro k1 a1 hk1 ha1
  simp only [Nat.reduceAdd] at hk1
  simp only [Act.put, List.setIfInBounds_toArray, List.set_cons_succ, List.set_cons_zero] at ha1
  subst hk1 ha1
  apply MonoJ.is0
  · kernel_rfl
  · intro L W hLk hsh hah hJ
    have hgW : Grows W0 W := by obtain ⟨m, _, hI⟩ := hJ; exact hI.1
    have hcc := HF3.out W hgW
    clear hgW
    have hJ2 := lib_hid (chain_pure (k := 7) (w' := W) (by decide) (fun _ h => h) hJ)
    clear hJ hsh hah
    go_wp2
    refine ⟨rfl, rfl, ⟨trivial, hJ2.out⟩, ?_⟩
    unfold Oper.valAt
    go_simp
    rfl
  intro k1 a1 hk1 ha1
  simp only [Nat.reduceAdd] at hk1
  simp only [Act.put, List.setIfInBounds_toArray, List.set_cons_succ, List.set_cons_zero] at ha1
  subst hk1 ha1
  apply MonoJ.is0
  · kernel_rfl
  · intro L W hLk hsh hah hJ
    obtain ⟨hI, hLs⟩ := chain_at (i := 0) (k := 8) rfl hLk (fun j h => by cases h) hJ
    clear hJ hsh hah
    have hsz := hI.2.1 rfl
    have hend : Hid (∀ w2, (fun m W => CntI W0 bs m W) 1 w2 → ChainJ [8, 11] (fun m W => CntI W0 bs m W) (setL L 8) w2) := fun w2 hw => chain_step (i := 0) (k := 8) rfl (by intro j h; rcases j with _ | _ | _ | _ | _ | _ <;> simp at h <;> omega) hLs hw
    clear hLs hLk
    go_wp2
    first | refine ⟨rfl, rfl, hend.out _ ?_, ?_⟩ | refine ⟨rfl, rfl, ⟨trivial, hend.out _ ?_⟩, ?_⟩
    · exact ⟨hI.1.alloc _, fun h => by omega, fun _ => by rw [← hsz]; exact Blk.new _ _ _, fun h => by omega⟩
    · unfold Oper.valAt
      go_simp
  intro k1 a1 hk1 ha1
  simp only [Nat.reduceAdd] at hk1
  simp only [Act.put, List.setIfInBounds_toArray, List.set_cons_succ, List.set_cons_zero] at ha1
  subst hk1 ha1
  apply MonoJ.is0
  · kernel_rfl
  · intro L W hLk hsh hah hJ
    have hJ2 := lib_hid (chain_pure (k := 9) (w' := W) (by decide) (fun _ h => h) hJ)
    clear hJ hsh hah
    go_wp2
    refine ⟨rfl, rfl, ⟨trivial, hJ2.out⟩, ?_⟩
    unfold Oper.valAt
    go_simp
    rfl
  intro k1 a1 hk1 ha1
  simp only [Nat.reduceAdd] at hk1
  simp only [Act.put, List.setIfInBounds_toArray, List.set_cons_succ, List.set_cons_zero] at ha1
  subst hk1 ha1
  apply MonoJ.is0
  · kernel_rfl
  · intro L W hLk hsh hah hJ
    have hJ2 := lib_hid (chain_pure (k := 10) (w' := W) (by decide) (fun _ h => h) hJ)
    clear hJ hsh hah
    go_wp2
    refine ⟨rfl, rfl, ⟨trivial, hJ2.out⟩, ?_⟩
    unfold Oper.valAt
    go_simp
    rfl
  intro k1 a1 hk1 ha1
  simp only [Nat.reduceAdd] at hk1
  simp only [Act.put, List.setIfInBounds_toArray, List.set_cons_succ, List.set_cons_zero] at ha1
  subst hk1 ha1
  apply MonoJ.is0
  · kernel_rfl
  · intro L W hLk hsh hah hJ
    obtain ⟨hI, hLs⟩ := chain_at (i := 1) (k := 11) rfl hLk (fun j h => by cases h; exact ⟨8, rfl, hah 8 (by omega) (by kernel_rfl)⟩) hJ
    clear hJ hsh hah
    have hB := hI.2.2.1 rfl
    have hgI := hI.1
    have hend : Hid (∀ w2, (fun m W => CntI W0 bs m W) 2 w2 → ChainJ [8, 11] (fun m W => CntI W0 bs m W) (setL L 11) w2) := fun w2 hw => chain_step (i := 1) (k := 11) rfl (by intro j h; rcases j with _ | _ | _ | _ | _ | _ <;> simp at h <;> omega) hLs hw
    clear hLs hLk
    go_wp2_with (refine wpList_store_blk (by kernel_rfl) _ _ _ rfl W0.heap.size (bs.map b8).toArray rfl rfl 37 _ hB (by rw [Try.size16]; simp [HCl.out]) (by simp [HCl.out]) (cells_all _) W0.heap.size W0 hgI (Nat.le_refl _) ?_; intro w9 HA9 hb9 hg9)
    first | refine ⟨rfl, rfl, hend.out _ ?_, ?_⟩ | refine ⟨rfl, rfl, ⟨trivial, hend.out _ ?_⟩, ?_⟩
    · exact ⟨hb9, fun h => by omega, fun h => by omega, fun _ => HA9⟩
    · rfl
  intro k1 a1 hk1 ha1
  simp only [Nat.reduceAdd] at hk1
  simp only [Act.put, List.setIfInBounds_toArray, List.set_cons_succ, List.set_cons_zero] at ha1
  subst hk1 ha1
  apply MonoJ.is0
  · kernel_rfl
  · intro L W hLk hsh hah hJ
    have hJ2 := lib_hid (chain_pure (k := 12) (w' := W) (by decide) (fun _ h => h) hJ)
    clear hJ hsh hah
    go_wp2
    refine ⟨rfl, rfl, ⟨trivial, hJ2.out⟩, ?_⟩
    unfold Oper.valAt
    go_simp
    rfl
  intro k1 a1 hk1 ha1
  simp only [Nat.reduceAdd] at hk1
  simp only [Act.put, List.setIfInBounds_toArray, List.set_cons_succ, List.set_cons_zero] at ha1
  subst hk1 ha1
  refine MonoJ.done ?_
  intro wm hJ
  obtain ⟨mj, hm, hI⟩ := chain_end (by decide) hJ
  clear hJ
  simp only [allF, List.drop_succ_cons, List.drop_nil]
  have hgm := hI.1
  have HC3 := lib_hid (hI.2.2.2 hm)
  have HC3l := HCl
  have hgw : Grows w wm := hg0.trans hgm
  clear HF0 HF1 HF2 HF3 HC hI hI0 hgm
  go_upto_region 2 with fail
  apply wp_region_mono 20 ((.is _, []) :: (.is _, []) :: (.is (.int .u32 lf.toNat), []) :: (.is _, []) :: (.is _, []) :: (.is (.int .u32 lf.toNat), []) :: (.is _, []) :: (.is _, []) :: (.is (.agg ((bs).map b8).toArray), []) :: (.is _, []) :: (.is (.agg ((a1).map b8).toArray), []) :: (.is (.agg ((bs).map b8).toArray), []) :: (.is _, []) :: (.is (.agg ((a1).map b8).toArray), []) :: (.is (.bool true), []) :: (.is _, []) :: (.is _, []) :: (.is (.bool true), []) :: (.is _, []) :: (.is _, []) :: []) (by kernel_rfl) (by kernel_rfl)
  iterate 2
    apply Mono.is0
    · kernel_rfl
    · intro W hW
      go_wp2
      refine ⟨rfl, rfl, Grows.refl _, ?_⟩
      unfold Oper.valAt
      go_simp
      rfl
    intro k1 a1 hk1 ha1
    simp only [Nat.reduceAdd] at hk1
    simp only [Act.put, List.setIfInBounds_toArray, List.set_cons_succ, List.set_cons_zero] at ha1
    subst hk1 ha1
  apply Mono.is0
  · kernel_rfl
  · intro W hW 
    go_wp2_with fail
    refine (left_any x n W).mono ?_
    rintro e w1 ⟨rfl, rfl⟩
    rw [Hlf.out]
    go_wp2
    exact ⟨rfl, rfl, Grows.refl _, rfl⟩
  intro k1 a1 hk1 ha1
  simp only [Nat.reduceAdd] at hk1
  simp only [Act.put, List.setIfInBounds_toArray, List.set_cons_succ, List.set_cons_zero] at ha1
  subst hk1 ha1
  iterate 2
    apply Mono.is0
    · kernel_rfl
    · intro W hW
      go_wp2
      refine ⟨rfl, rfl, Grows.refl _, ?_⟩
      unfold Oper.valAt
      go_simp
      rfl
    intro k1 a1 hk1 ha1
    simp only [Nat.reduceAdd] at hk1
    simp only [Act.put, List.setIfInBounds_toArray, List.set_cons_succ, List.set_cons_zero] at ha1
    subst hk1 ha1
  apply Mono.is0
  · kernel_rfl
  · intro W hW 
    go_wp2_with fail
    refine (refLeft_any x n W).mono ?_
    rintro e w1 ⟨rfl, rfl⟩
    rw [Hlf.out]
    go_wp2
    exact ⟨rfl, rfl, Grows.refl _, rfl⟩
  intro k1 a1 hk1 ha1
  simp only [Nat.reduceAdd] at hk1
  simp only [Act.put, List.setIfInBounds_toArray, List.set_cons_succ, List.set_cons_zero] at ha1
  subst hk1 ha1
  iterate 2
    apply Mono.is0
    · kernel_rfl
    · intro W hW
      go_wp2
      refine ⟨rfl, rfl, Grows.refl _, ?_⟩
      unfold Oper.valAt
      go_simp
      rfl
    intro k1 a1 hk1 ha1
    simp only [Nat.reduceAdd] at hk1
    simp only [Act.put, List.setIfInBounds_toArray, List.set_cons_succ, List.set_cons_zero] at ha1
    subst hk1 ha1
  apply Mono.is0
  · kernel_rfl
  · intro W hW 
    go_wp2_with (refine wpList_load_blk (by kernel_rfl) _ _ rfl (W0.heap.size) rfl 37 ((bs).map b8).toArray _ (HC3.out.grows hW) Try.underlying37 rfl (by rw [Try.size16]; simp [HC3l.out]) ?_)
    exact ⟨rfl, rfl, Grows.refl _, rfl⟩
  intro k1 a1 hk1 ha1
  simp only [Nat.reduceAdd] at hk1
  simp only [Act.put, List.setIfInBounds_toArray, List.set_cons_succ, List.set_cons_zero] at ha1
  subst hk1 ha1
  apply Mono.is0
  · kernel_rfl
  · intro W hW
    go_wp2
    refine ⟨rfl, rfl, Grows.refl _, ?_⟩
    unfold Oper.valAt
    go_simp
    rfl
  intro k1 a1 hk1 ha1
  simp only [Nat.reduceAdd] at hk1
  simp only [Act.put, List.setIfInBounds_toArray, List.set_cons_succ, List.set_cons_zero] at ha1
  subst hk1 ha1
  apply Mono.is0
  · kernel_rfl
  · intro W hW 
    go_wp2_with fail
    refine (count_any (bs) HCl.out m W).mono ?_
    rintro e w1 ⟨rfl, hg1⟩
    go_wp2
    refine ⟨rfl, rfl, hg1, ?_⟩
    unfold Oper.valAt
    go_simp
    rw [← Ha1.out]
  intro k1 a1 hk1 ha1
  simp only [Nat.reduceAdd] at hk1
  simp only [Act.put, List.setIfInBounds_toArray, List.set_cons_succ, List.set_cons_zero] at ha1
  subst hk1 ha1
  apply Mono.is0
  · kernel_rfl
  · intro W hW 
    go_wp2_with (refine wpList_load_blk (by kernel_rfl) _ _ rfl (W0.heap.size) rfl 37 ((bs).map b8).toArray _ (HC3.out.grows hW) Try.underlying37 rfl (by rw [Try.size16]; simp [HC3l.out]) ?_)
    exact ⟨rfl, rfl, Grows.refl _, rfl⟩
  intro k1 a1 hk1 ha1
  simp only [Nat.reduceAdd] at hk1
  simp only [Act.put, List.setIfInBounds_toArray, List.set_cons_succ, List.set_cons_zero] at ha1
  subst hk1 ha1
  apply Mono.is0
  · kernel_rfl
  · intro W hW
    go_wp2
    refine ⟨rfl, rfl, Grows.refl _, ?_⟩
    unfold Oper.valAt
    go_simp
    rfl
  intro k1 a1 hk1 ha1
  simp only [Nat.reduceAdd] at hk1
  simp only [Act.put, List.setIfInBounds_toArray, List.set_cons_succ, List.set_cons_zero] at ha1
  subst hk1 ha1
  apply Mono.is0
  · kernel_rfl
  · intro W hW 
    go_wp2_with fail
    refine (refCount_any (bs) HCl.out m W).mono ?_
    rintro e w1 ⟨rfl, hg1⟩
    go_wp2
    refine ⟨rfl, rfl, hg1, ?_⟩
    unfold Oper.valAt
    go_simp
    rw [Hr1.out]
  intro k1 a1 hk1 ha1
  simp only [Nat.reduceAdd] at hk1
  simp only [Act.put, List.setIfInBounds_toArray, List.set_cons_succ, List.set_cons_zero] at ha1
  subst hk1 ha1
  apply Mono.is0
  · kernel_rfl
  · intro W hW 
    have he : (Op.equalIn 10000 37 (.agg ((a1).map b8).toArray) (.agg ((a1).map b8).toArray)).run Try.prog W = .ok true W := (run_equalIn_bytes W 9998 37 5 16 (a1) (a1) HA1l.out HA1l.out Try.arr16 Try.underlying5 Try.sizeByte).trans (by rw [beq_self_eq_true])
    go_wp2
    refine ⟨rfl, rfl, Grows.refl _, ?_⟩
    unfold Oper.valAt
    go_simp
  intro k1 a1 hk1 ha1
  simp only [Nat.reduceAdd] at hk1
  simp only [Act.put, List.setIfInBounds_toArray, List.set_cons_succ, List.set_cons_zero] at ha1
  subst hk1 ha1
  iterate 2
    apply Mono.is0
    · kernel_rfl
    · intro W hW
      go_wp2
      refine ⟨rfl, rfl, Grows.refl _, ?_⟩
      unfold Oper.valAt
      go_simp
      rfl
    intro k1 a1 hk1 ha1
    simp only [Nat.reduceAdd] at hk1
    simp only [Act.put, List.setIfInBounds_toArray, List.set_cons_succ, List.set_cons_zero] at ha1
    subst hk1 ha1
  apply Mono.is0
  · kernel_rfl
  · intro W hW 
    go_wp2_with fail
    refine (awake_any W).mono ?_
    rintro e w1 ⟨rfl, hg1⟩
    go_wp2
    exact ⟨rfl, rfl, hg1, rfl⟩
  intro k1 a1 hk1 ha1
  simp only [Nat.reduceAdd] at hk1
  simp only [Act.put, List.setIfInBounds_toArray, List.set_cons_succ, List.set_cons_zero] at ha1
  subst hk1 ha1
  iterate 2
    apply Mono.is0
    · kernel_rfl
    · intro W hW
      go_wp2
      refine ⟨rfl, rfl, Grows.refl _, ?_⟩
      unfold Oper.valAt
      go_simp
      rfl
    intro k1 a1 hk1 ha1
    simp only [Nat.reduceAdd] at hk1
    simp only [Act.put, List.setIfInBounds_toArray, List.set_cons_succ, List.set_cons_zero] at ha1
    subst hk1 ha1
  refine Mono.done ?_
  intro wn hgn
  simp only [allF, List.drop_succ_cons, List.drop_nil]
  go_wp2
  go_ret
  exact ⟨rfl, hgw.trans hgn⟩

end Go.Proofs.Ytbajolgfejcecaa
