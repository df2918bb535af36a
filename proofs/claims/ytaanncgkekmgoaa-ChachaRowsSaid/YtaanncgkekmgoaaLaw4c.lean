/-
  The walks of the laws of layer 4: ChachaRows.
-/
import Derived.Test.YtaanncgkekmgoaaLaw4b
import Derived.Deep.Cut
namespace Go.Proofs.Ytaanncgkekmgoaa
open Go Go.RowKit
set_option linter.unusedSimpArgs false


theorem strN_take (key nonce : List UInt8) (n : UInt32) (a N : Nat) (k : Nat) (hk : k ≤ 64 * a) (h : a ≤ N) : (strN key nonce n N).take k = (strN key nonce n a).take k := by
  rw [show N = a + (N - a) by omega, strN_add, List.take_append_of_le_length (by rw [strN_len]; exact hk)]
theorem streamF_take (key nonce : List UInt8) (n : UInt32) (k m : Nat) (h : k ≤ m) : (streamF key nonce n m).take k = streamF key nonce n k := by
  unfold streamF
  rw [List.take_take, Nat.min_eq_left h, strN_take key nonce n ((k + 63) / 64) ((m + 63) / 64) k (by omega) (by omega)]
theorem streamF_block (key nonce : List UInt8) (n : UInt32) (j m : Nat) (h : 64 * j + 64 ≤ m) : ((streamF key nonce n m).drop (64 * j)).take 64 = blockC key nonce (n + UInt32.ofNat j) := by
  have e : (streamF key nonce n m).take (64 * (j + 1)) = strN key nonce n (j + 1) := by rw [streamF_take key nonce n _ m (by omega), streamF_whole]
  have e2 : ((streamF key nonce n m).drop (64 * j)).take 64 = ((streamF key nonce n m).take (64 * (j + 1))).drop (64 * j) := by
    rw [List.drop_take, show 64 * (j + 1) - 64 * j = 64 by omega]
  rw [e2, e, strN, List.drop_append_of_le_length (by rw [strN_len]; omega), List.drop_of_length_le (by rw [strN_len]; omega), List.nil_append]

set_option maxRecDepth 100000 in
set_option maxHeartbeats 4000000 in
theorem walk_ChachaRows (key nonce : List UInt8) (ctr : UInt32) (a b : UInt16) (w : World) (hk : key.length = 32) (hn : nonce.length = 12) :
    Calls Try.prog 4 #[.agg (key.map b8 ++ (nonce.map b8 ++ [b32 ctr])).toArray, .int .u16 a.toNat, .int .u16 b.toNat] w fun e w' => e = .returned (.bool true) ∧ Below w.heap.size w w' := by
  obtain ⟨zs, Hz⟩ : ∃ zs : List Value, Hid (zs = key.map b8 ++ (nonce.map b8 ++ [b32 ctr])) := ⟨_, lib_hid rfl⟩
  rw [← Hz.out]
  obtain ⟨W0, HW0, hW0, hg0⟩ : ∃ W0 : World, Hid (W0 = w.alloc (.cells zs.toArray 26)) ∧ W0.heap.size = w.heap.size + 1 ∧ Grows w W0 := ⟨_, lib_hid rfl, by simp, (Grows.refl w).alloc _⟩
  have HZ : Hid (Blk W0 w.heap.size 26 zs.toArray) := by unfold Hid; rw [HW0.out]; exact Blk.new _ _ _
  have HFk : Hid (∀ W, Grows W0 W → Row W (some ⟨w.heap.size, 0, none⟩) 32 32 (key.map b8)) := fun W hW => by
    have := (HZ.out.grows hW).row (o := 0) (n := 32) (c := 32) (by omega) (by rw [Hz.out]; simp [hk, hn]) (by unfold maxLen; omega)
    rw [Hz.out] at this
    simpa [List.take_append, hk] using this
  have HFn : Hid (∀ W, Grows W0 W → Row W (some ⟨w.heap.size, 32, none⟩) 12 12 (nonce.map b8)) := fun W hW => by
    have := (HZ.out.grows hW).row (o := 32) (n := 12) (c := 12) (by omega) (by rw [Hz.out]; simp [hk, hn]) (by unfold maxLen; omega)
    rw [Hz.out] at this
    simpa [List.take_append, List.drop_append, hk, hn] using this
  have HFc : Hid (∀ W, Grows W0 W → W.cell? ⟨w.heap.size, 44, none⟩ = some (b32 ctr)) := fun W hW => by
    rw [(HZ.out.grows hW).cell, Hz.out]
    simp [List.getElem?_append_right, hk, hn]
  have ha := u16_lt a
  have hb := u16_lt b
  obtain ⟨n, hn1, hn6⟩ : ∃ n : Nat, (wrap64 (a.toNat : Int)).tmod 600 = (n : Int) ∧ n < 600 := ⟨a.toNat % 600, by rw [show wrap64 (a.toNat : Int) = a.toNat by unfold wrap64; omega, Int.tmod_eq_emod_of_nonneg (by omega)]; omega, Nat.mod_lt _ (by omega)⟩
  obtain ⟨m, hm1, hm6⟩ : ∃ m : Nat, (wrap64 (b.toNat : Int)).tmod 600 = (m : Int) ∧ m < 600 := ⟨b.toNat % 600, by rw [show wrap64 (b.toNat : Int) = b.toNat by unfold wrap64; omega, Int.tmod_eq_emod_of_nonneg (by omega)]; omega, Nat.mod_lt _ (by omega)⟩
  obtain ⟨xs, Hxs⟩ : ∃ x, Hid (streamF key nonce ctr n = x) := ⟨_, lib_hid rfl⟩
  obtain ⟨ys, Hys⟩ : ∃ x, Hid (streamF key nonce ctr m = x) := ⟨_, lib_hid rfl⟩
  have Hs1 : Hid (∀ W, Calls Try.prog 14 #[.agg (key.map b8).toArray, .agg (nonce.map b8).toArray, b32 ctr, .int .i64 (n : Int)] W fun e w' => ∃ A c, e = .returned (.slice A n c) ∧ Grows W w' ∧ SB w' A n c xs) := fun W => by rw [← Hxs.out]; exact stream_pos key nonce ctr n hk hn (by omega) W
  have Hs2 : Hid (∀ W, Calls Try.prog 14 #[.agg (key.map b8).toArray, .agg (nonce.map b8).toArray, b32 ctr, .int .i64 (m : Int)] W fun e w' => ∃ A c, e = .returned (.slice A m c) ∧ Grows W w' ∧ SB w' A m c ys) := fun W => by rw [← Hys.out]; exact stream_pos key nonce ctr m hk hn (by omega) W
  have HB : Hid (∀ j, 64 * j + 64 ≤ n → ∀ x : UInt32, x = ctr + UInt32.ofNat j → ∃ blk : List UInt8, blk.length = 64 ∧ (xs.drop (64 * j)).take 64 = blk ∧ ∀ W, Calls Try.prog 9 #[.agg (key.map b8).toArray, .agg (nonce.map b8).toArray, b32 x] W fun e w' => e = .returned (.agg (blk.map b8).toArray) ∧ Grows W w') := fun j hj x hx =>
    ⟨blockC key nonce x, blockC_len _ _ _, by rw [hx, ← Hxs.out]; exact streamF_block key nonce ctr j n hj, fun W => blockc_any key nonce x hk hn W⟩
  have Hpre : Hid (∀ k, k ≤ n → k ≤ m → xs.take k = ys.take k) := fun k h1 h2 => by rw [← Hxs.out, ← Hys.out, streamF_take _ _ _ _ _ h1, streamF_take _ _ _ _ _ h2]
  have HW0' := HW0.out
  clear hk hn ha hb
  go_enter Try.func4, Try.ntmps4
  go_upto_region 2 with fail
  rw [← HW0']
  clear HW0' hn1 hm1
  apply wp_region_mono 18 ((.is _, []) :: (.is (.agg (key.map b8).toArray), []) :: (.is _, []) :: (.is (.agg (nonce.map b8).toArray), []) :: (.is _, []) :: (.is _, []) :: (.is _, []) :: (.pr (fun v W => ∃ A c, v = .slice A n c ∧ SB W A n c (xs)), []) :: (.is _, []) :: (.is (.agg (key.map b8).toArray), []) :: (.is _, []) :: (.is (.agg (nonce.map b8).toArray), []) :: (.is _, []) :: (.is _, []) :: (.is _, []) :: (.pr (fun v W => ∃ A c, v = .slice A m c ∧ SB W A m c (ys)), []) :: (.pr (fun v W => ∃ A c, v = .slice A n c ∧ SB W A n c (xs)), [7]) :: (.pr (fun v W => ∃ A c, v = .slice A m c ∧ SB W A m c (ys)), [15]) :: []) (by kernel_rfl) (by kernel_rfl)
  apply Mono.is0
  · kernel_rfl
  · intro W hW
    go_wp2
    refine ⟨rfl, rfl, Grows.refl _, ?_⟩
    unfold Oper.valAt
    go_simp
    rfl
  intro k1 a1 hk1 ha1
  simp only [Nat.reduceAdd] at hk1
  simp only [Act.put, List.setIfInBounds_toArray, List.set_cons_succ, List.set_cons_zero] at ha1
  subst hk1 ha1
  apply Mono.is0
  · kernel_rfl
  · intro W hW 
    go_wp2_with (refine wpList_load_part (by kernel_rfl) _ _ rfl ⟨w.heap.size, 0, none⟩ rfl 32 32 (key.map b8) _ (HFk.out W hW) Try.underlying22 rfl Try.size32 ?_)
    exact ⟨rfl, rfl, Grows.refl _, rfl⟩
  intro k1 a1 hk1 ha1
  simp only [Nat.reduceAdd] at hk1
  simp only [Act.put, List.setIfInBounds_toArray, List.set_cons_succ, List.set_cons_zero] at ha1
  subst hk1 ha1
  apply Mono.is0
  · kernel_rfl
  · intro W hW
    go_wp2
    refine ⟨rfl, rfl, Grows.refl _, ?_⟩
    unfold Oper.valAt
    go_simp
    rfl
  intro k1 a1 hk1 ha1
  simp only [Nat.reduceAdd] at hk1
  simp only [Act.put, List.setIfInBounds_toArray, List.set_cons_succ, List.set_cons_zero] at ha1
  subst hk1 ha1
  apply Mono.is0
  · kernel_rfl
  · intro W hW 
    go_wp2_with (refine wpList_load_part (by kernel_rfl) _ _ rfl ⟨w.heap.size, 32, none⟩ rfl 12 12 (nonce.map b8) _ (HFn.out W hW) Try.underlying23 rfl Try.size12 ?_)
    exact ⟨rfl, rfl, Grows.refl _, rfl⟩
  intro k1 a1 hk1 ha1
  simp only [Nat.reduceAdd] at hk1
  simp only [Act.put, List.setIfInBounds_toArray, List.set_cons_succ, List.set_cons_zero] at ha1
  subst hk1 ha1
  apply Mono.is0
  · kernel_rfl
  · intro W hW
    go_wp2
    refine ⟨rfl, rfl, Grows.refl _, ?_⟩
    unfold Oper.valAt
    go_simp
    rfl
  intro k1 a1 hk1 ha1
  simp only [Nat.reduceAdd] at hk1
  simp only [Act.put, List.setIfInBounds_toArray, List.set_cons_succ, List.set_cons_zero] at ha1
  subst hk1 ha1
  apply Mono.is0
  · kernel_rfl
  · intro W hW
    have hcc := HFc.out W hW
    go_wp2
    refine ⟨rfl, rfl, Grows.refl _, ?_⟩
    unfold Oper.valAt
    go_simp
    rfl
  intro k1 a1 hk1 ha1
  simp only [Nat.reduceAdd] at hk1
  simp only [Act.put, List.setIfInBounds_toArray, List.set_cons_succ, List.set_cons_zero] at ha1
  subst hk1 ha1
  apply Mono.is0
  · kernel_rfl
  · intro W hW
    go_wp2
    refine ⟨rfl, rfl, Grows.refl _, ?_⟩
    unfold Oper.valAt
    go_simp
    rfl
  intro k1 a1 hk1 ha1
  simp only [Nat.reduceAdd] at hk1
  simp only [Act.put, List.setIfInBounds_toArray, List.set_cons_succ, List.set_cons_zero] at ha1
  subst hk1 ha1
  apply Mono.pr0
  · kernel_rfl
  · exact fun v W W' hW ⟨A, c, h1, h2⟩ => ⟨A, c, h1, h2.grows hW⟩
  · intro W hW 
    go_wp2_with fail
    refine (Hs1.out W).mono ?_
    rintro e w1 ⟨A1, c1, rfl, hg1, hs1⟩
    go_wp2
    exact ⟨rfl, rfl, hg1, A1, c1, rfl, hs1⟩
  intro v7
  intro k1 a1 hk1 ha1
  simp only [Nat.reduceAdd] at hk1
  simp only [Act.put, List.setIfInBounds_toArray, List.set_cons_succ, List.set_cons_zero] at ha1
  subst hk1 ha1
  apply Mono.is0
  · kernel_rfl
  · intro W hW
    go_wp2
    refine ⟨rfl, rfl, Grows.refl _, ?_⟩
    unfold Oper.valAt
    go_simp
    rfl
  intro k1 a1 hk1 ha1
  simp only [Nat.reduceAdd] at hk1
  simp only [Act.put, List.setIfInBounds_toArray, List.set_cons_succ, List.set_cons_zero] at ha1
  subst hk1 ha1
  apply Mono.is0
  · kernel_rfl
  · intro W hW 
    go_wp2_with (refine wpList_load_part (by kernel_rfl) _ _ rfl ⟨w.heap.size, 0, none⟩ rfl 32 32 (key.map b8) _ (HFk.out W hW) Try.underlying22 rfl Try.size32 ?_)
    exact ⟨rfl, rfl, Grows.refl _, rfl⟩
  intro k1 a1 hk1 ha1
  simp only [Nat.reduceAdd] at hk1
  simp only [Act.put, List.setIfInBounds_toArray, List.set_cons_succ, List.set_cons_zero] at ha1
  subst hk1 ha1
  apply Mono.is0
  · kernel_rfl
  · intro W hW
    go_wp2
    refine ⟨rfl, rfl, Grows.refl _, ?_⟩
    unfold Oper.valAt
    go_simp
    rfl
  intro k1 a1 hk1 ha1
  simp only [Nat.reduceAdd] at hk1
  simp only [Act.put, List.setIfInBounds_toArray, List.set_cons_succ, List.set_cons_zero] at ha1
  subst hk1 ha1
  apply Mono.is0
  · kernel_rfl
  · intro W hW 
    go_wp2_with (refine wpList_load_part (by kernel_rfl) _ _ rfl ⟨w.heap.size, 32, none⟩ rfl 12 12 (nonce.map b8) _ (HFn.out W hW) Try.underlying23 rfl Try.size12 ?_)
    exact ⟨rfl, rfl, Grows.refl _, rfl⟩
  intro k1 a1 hk1 ha1
  simp only [Nat.reduceAdd] at hk1
  simp only [Act.put, List.setIfInBounds_toArray, List.set_cons_succ, List.set_cons_zero] at ha1
  subst hk1 ha1
  apply Mono.is0
  · kernel_rfl
  · intro W hW
    go_wp2
    refine ⟨rfl, rfl, Grows.refl _, ?_⟩
    unfold Oper.valAt
    go_simp
    rfl
  intro k1 a1 hk1 ha1
  simp only [Nat.reduceAdd] at hk1
  simp only [Act.put, List.setIfInBounds_toArray, List.set_cons_succ, List.set_cons_zero] at ha1
  subst hk1 ha1
  apply Mono.is0
  · kernel_rfl
  · intro W hW
    have hcc := HFc.out W hW
    go_wp2
    refine ⟨rfl, rfl, Grows.refl _, ?_⟩
    unfold Oper.valAt
    go_simp
    rfl
  intro k1 a1 hk1 ha1
  simp only [Nat.reduceAdd] at hk1
  simp only [Act.put, List.setIfInBounds_toArray, List.set_cons_succ, List.set_cons_zero] at ha1
  subst hk1 ha1
  apply Mono.is0
  · kernel_rfl
  · intro W hW
    go_wp2
    refine ⟨rfl, rfl, Grows.refl _, ?_⟩
    unfold Oper.valAt
    go_simp
    rfl
  intro k1 a1 hk1 ha1
  simp only [Nat.reduceAdd] at hk1
  simp only [Act.put, List.setIfInBounds_toArray, List.set_cons_succ, List.set_cons_zero] at ha1
  subst hk1 ha1
  apply Mono.pr0
  · kernel_rfl
  · exact fun v W W' hW ⟨A, c, h1, h2⟩ => ⟨A, c, h1, h2.grows hW⟩
  · intro W hW 
    go_wp2_with fail
    refine (Hs2.out W).mono ?_
    rintro e w1 ⟨A1, c1, rfl, hg1, hs1⟩
    go_wp2
    exact ⟨rfl, rfl, hg1, A1, c1, rfl, hs1⟩
  intro v15
  intro k1 a1 hk1 ha1
  simp only [Nat.reduceAdd] at hk1
  simp only [Act.put, List.setIfInBounds_toArray, List.set_cons_succ, List.set_cons_zero] at ha1
  subst hk1 ha1
  apply Mono.pr1
  · kernel_rfl
  · exact fun v W W' hW ⟨A, c, h1, h2⟩ => ⟨A, c, h1, h2.grows hW⟩
  · intro W hW f0
    obtain ⟨A1, c1, rfl, hs⟩ := f0
    go_wp2
    exact ⟨rfl, rfl, Grows.refl _, A1, c1, rfl, hs⟩
  intro v16
  intro k1 a1 hk1 ha1
  simp only [Nat.reduceAdd] at hk1
  simp only [Act.put, List.setIfInBounds_toArray, List.set_cons_succ, List.set_cons_zero] at ha1
  subst hk1 ha1
  apply Mono.pr1
  · kernel_rfl
  · exact fun v W W' hW ⟨A, c, h1, h2⟩ => ⟨A, c, h1, h2.grows hW⟩
  · intro W hW f0
    obtain ⟨A1, c1, rfl, hs⟩ := f0
    go_wp2
    exact ⟨rfl, rfl, Grows.refl _, A1, c1, rfl, hs⟩
  intro v17
  intro k1 a1 hk1 ha1
  simp only [Nat.reduceAdd] at hk1
  simp only [Act.put, List.setIfInBounds_toArray, List.set_cons_succ, List.set_cons_zero] at ha1
  subst hk1 ha1
  refine Mono.done ?_
  intro wm hgm
  simp only [allF, List.drop_succ_cons, List.drop_nil]
  intro g17 g16 g15 g7
  obtain ⟨A1, c1, rfl, hs1⟩ := g16
  obtain ⟨A2, c2, rfl, hs2⟩ := g17
  have HX := lib_hid hs1
  have HY := lib_hid hs2
  have hx1 := hs1.cap
  have hy1 := hs2.cap
  have hgw := hg0.trans hgm
  clear g7 g15 hs1 hs2
  have Hcont : True := trivial
  by_cases hle : n ≤ m
  · obtain ⟨px, Hpx⟩ : ∃ x, Hid (xs.take n = x) := ⟨_, lib_hid rfl⟩
    have Hpy : Hid (ys.take n = px) := by unfold Hid; rw [← Hpx.out]; exact (Hpre.out n (by omega) (by omega)).symm
    have hkn : n ≤ n := by omega
    have hkm : n ≤ m := by omega
    have hkc1 : (n : Int) ≤ (c1 : Int) := by omega
    have hkc2 : (n : Int) ≤ (c2 : Int) := by omega
    go_upto_region 3 with fail
    apply wp_region_mono 25 ((.is _, []) :: (.is _, []) :: (.is _, []) :: (.is _, []) :: (.is _, []) :: (.is _, []) :: (.is _, []) :: (.is _, []) :: (.is _, []) :: (.is _, []) :: (.is _, []) :: (.is _, []) :: (.is _, []) :: (.is _, []) :: (.is _, []) :: (.is _, []) :: (.is _, []) :: (.is _, []) :: (.is _, []) :: (.is _, []) :: (.is _, []) :: (.is _, []) :: (.is _, []) :: (.is _, []) :: (.is _, []) :: []) (by kernel_rfl) (by kernel_rfl)
    iterate 16
      apply Mono.is0
      · kernel_rfl
      · intro W hW
        go_wp2
        refine ⟨rfl, rfl, Grows.refl _, ?_⟩
        unfold Oper.valAt
        go_simp
        rfl
      intro k1 a1 hk1 ha1
      simp only [Nat.reduceAdd] at hk1
      simp only [Act.put, List.setIfInBounds_toArray, List.set_cons_succ, List.set_cons_zero] at ha1
      subst hk1 ha1
    apply Mono.is0
    · kernel_rfl
    · intro W hW
      have cv := run_string_SB (P := Try.prog) Try.underlying32 Try.underlying5 Try.underlying9 ((HX.out.grows hW).pre hkn)
      rw [Hpx.out] at cv
      go_wp2
      refine ⟨rfl, rfl, Grows.refl _, ?_⟩
      unfold Oper.valAt
      go_simp
      rfl
    intro k1 a1 hk1 ha1
    simp only [Nat.reduceAdd] at hk1
    simp only [Act.put, List.setIfInBounds_toArray, List.set_cons_succ, List.set_cons_zero] at ha1
    subst hk1 ha1
    iterate 5
      apply Mono.is0
      · kernel_rfl
      · intro W hW
        go_wp2
        refine ⟨rfl, rfl, Grows.refl _, ?_⟩
        unfold Oper.valAt
        go_simp
        rfl
      intro k1 a1 hk1 ha1
      simp only [Nat.reduceAdd] at hk1
      simp only [Act.put, List.setIfInBounds_toArray, List.set_cons_succ, List.set_cons_zero] at ha1
      subst hk1 ha1
    apply Mono.is0
    · kernel_rfl
    · intro W hW
      have cv := run_string_SB (P := Try.prog) Try.underlying32 Try.underlying5 Try.underlying9 ((HY.out.grows hW).pre hkm)
      rw [Hpy.out] at cv
      go_wp2
      refine ⟨rfl, rfl, Grows.refl _, ?_⟩
      unfold Oper.valAt
      go_simp
      rfl
    intro k1 a1 hk1 ha1
    simp only [Nat.reduceAdd] at hk1
    simp only [Act.put, List.setIfInBounds_toArray, List.set_cons_succ, List.set_cons_zero] at ha1
    subst hk1 ha1
    iterate 2
      apply Mono.is0
      · kernel_rfl
      · intro W hW
        go_wp2
        refine ⟨rfl, rfl, Grows.refl _, ?_⟩
        unfold Oper.valAt
        go_simp
        rfl
      intro k1 a1 hk1 ha1
      simp only [Nat.reduceAdd] at hk1
      simp only [Act.put, List.setIfInBounds_toArray, List.set_cons_succ, List.set_cons_zero] at ha1
      subst hk1 ha1
    refine Mono.done ?_
    intro wo hgo
    simp only [allF, List.drop_succ_cons, List.drop_nil]
    go_upto_region 5 with fail
    clear Hpx Hpy hkn hkm hkc1 hkc2 hle
    have HFk2 : Hid (∀ W, Grows wo W → Row W (some ⟨w.heap.size, 0, none⟩) 32 32 (key.map b8)) := fun W hW => HFk.out W ((hgm.trans hgo).trans hW)
    have HFn2 : Hid (∀ W, Grows wo W → Row W (some ⟨w.heap.size, 32, none⟩) 12 12 (nonce.map b8)) := fun W hW => HFn.out W ((hgm.trans hgo).trans hW)
    have HFc2 : Hid (∀ W, Grows wo W → W.cell? ⟨w.heap.size, 44, none⟩ = some (b32 ctr)) := fun W hW => HFc.out W ((hgm.trans hgo).trans hW)
    have HX2 := lib_hid (HX.out.grows hgo)
    have hgw2 := hgw.trans hgo
    clear HFk HFn HFc HX HY Hs1 Hs2 Hpre HZ hgm hgo hgw
    go_wp2_with fail
    go_loopw [11, 12] (fun v _ wr => ∃ j i : Nat, Hid (i = 64 * j) ∧ v = .int .i64 (i : Int) ∧ i ≤ 700 ∧ Grows wo wr) (fun v _ _ => 700 - (intOf v).toNat)
    case atStart => exact ⟨0, 0, lib_hid rfl, rfl, by omega, Grows.refl _⟩
    case round =>
      obtain ⟨j, i, Hij, rfl, hi7, hgr⟩ := hrel
      by_cases hlt : i + 64 ≤ n
      · have hlti : (i : Int) + 64 ≤ (n : Int) := by omega
        have hj10 : j ≤ 11 := by have := Hij.out; omega
        have hq : (i : Int).tdiv 64 = (j : Int) := by have := Hij.out; rw [Int.tdiv_eq_ediv_of_nonneg (by omega)]; omega
        obtain ⟨jk, Hjk, hjk⟩ : ∃ x : UInt32, Hid (x = UInt32.ofNat j) ∧ IntKind.u32.wrap (j : Int) = (x.toNat : Int) := ⟨_, lib_hid rfl, u32_wrap_nat j⟩
        obtain ⟨nk, Hnk, hnk⟩ : ∃ x : UInt32, Hid (x = ctr + jk) ∧ IntKind.u32.wrap ((ctr.toNat : Int) + (jk.toNat : Int)) = (x.toNat : Int) := ⟨_, lib_hid rfl, u32_wrap_add _ _⟩
        obtain ⟨blk, hbl, hbd, hbc⟩ := HB.out j (by have := Hij.out; omega) nk (by rw [Hnk.out, Hjk.out])
        have Hd : Hid ((xs.drop i).take 64 = blk) := by unfold Hid; rw [Hij.out]; exact hbd
        have Hbc := lib_hid hbc
        obtain ⟨res, Hres, hrl, hra⟩ : ∃ r : Array Value, Hid ((blk.map b8).toArray = r) ∧ r.size = 64 ∧ r.all (·.oneCell') = true := ⟨_, lib_hid rfl, by simp [hbl], cells_all _⟩
        have hcc := HFc2.out wr hgr
        clear hbd hbc
        go_wp2_with (first
          | (refine wpList_load_part rfl _ _ rfl ⟨w.heap.size, 0, none⟩ rfl 32 32 (key.map b8) _ (HFk2.out wr hgr) Try.underlying22 rfl Try.size32 ?_)
          | (refine wpList_load_part rfl _ _ rfl ⟨w.heap.size, 32, none⟩ rfl 12 12 (nonce.map b8) _ (HFn2.out wr hgr) Try.underlying23 rfl Try.size12 ?_))
        refine (Hbc.out wr).mono ?_
        rintro e w1 ⟨rfl, hg1⟩
        rw [Hres.out]
        clear hcc hq hjk hnk
        go_upto_region 9 with (refine wpList_store_blk rfl _ _ _ rfl w1.heap.size res rfl rfl 28 _ (Blk.new _ _ _) (by rw [Try.size64, hrl]) (by simp [hrl]) hra w1.heap.size w1 ((Grows.refl w1).alloc _) (Nat.le_refl _) ?_; intro w2 H7 hb2 hg2)
        have Hblk : Hid (SB w2 (some ⟨w1.heap.size, 0, none⟩) 64 64 blk) := by
          unfold Hid SB
          have := H7.row (o := 0) (n := 64) (c := 64) (Nat.le_refl _) (by omega) (by unfold maxLen; omega)
          rw [← Hres.out] at this
          simpa [List.take_of_length_le (show (blk.map b8).length ≤ 64 by simp [hbl])] using this
        have hgr2 : Grows wo w2 := (hgr.trans hg1).trans hb2
        have HXw := lib_hid (HX2.out.grows hgr2)
        clear H7 hg2 hb2 hg1 hgr
        apply wp_region_mono 9 ((.is _, []) :: (.is _, []) :: (.is _, []) :: (.is _, []) :: (.pr (fun v W => ∃ A2 c2, v = .slice A2 64 c2 ∧ SB W A2 64 c2 blk), []) :: (.is _, [4]) :: (.is _, []) :: (.is _, []) :: (.is _, []) :: []) (by kernel_rfl) (by kernel_rfl)
        iterate 4
          apply Mono.is0
          · kernel_rfl
          · intro W hW
            go_wp2
            refine ⟨rfl, rfl, Grows.refl _, ?_⟩
            unfold Oper.valAt
            go_simp
            rfl
          intro k1 a1 hk1 ha1
          simp only [Nat.reduceAdd] at hk1
          simp only [Act.put, List.setIfInBounds_toArray, List.set_cons_succ, List.set_cons_zero] at ha1
          subst hk1 ha1
        apply Mono.pr0
        · kernel_rfl
        · exact fun v W W' hW ⟨A, c, h1, h2⟩ => ⟨A, c, h1, h2.grows hW⟩
        · intro W hW 
          have hsW := HXw.out.grows hW
          have hfr := (SB.from hsW (show i ≤ n by omega)).pre (k := 64) (by omega)
          rw [if_neg (show ¬ c1 = i by omega), Hd.out] at hfr
          have Hfr := lib_hid hfr
          clear hfr
          go_wp2
          refine ⟨rfl, rfl, Grows.refl _, _, _, ?_, Hfr.out⟩
          unfold Oper.valAt
          go_simp
        intro v4
        intro k1 a1 hk1 ha1
        simp only [Nat.reduceAdd] at hk1
        simp only [Act.put, List.setIfInBounds_toArray, List.set_cons_succ, List.set_cons_zero] at ha1
        subst hk1 ha1
        apply Mono.is1
        · kernel_rfl
        · intro W hW f0
          obtain ⟨A2, c2, rfl, hs2⟩ := f0
          have cv := run_string_SB (P := Try.prog) Try.underlying32 Try.underlying5 Try.underlying9 hs2
          go_wp2
          refine ⟨rfl, rfl, Grows.refl _, ?_⟩
          unfold Oper.valAt
          go_simp
          rfl
        intro k1 a1 hk1 ha1
        simp only [Nat.reduceAdd] at hk1
        simp only [Act.put, List.setIfInBounds_toArray, List.set_cons_succ, List.set_cons_zero] at ha1
        subst hk1 ha1
        apply Mono.is0
        · kernel_rfl
        · intro W hW
          go_wp2
          refine ⟨rfl, rfl, Grows.refl _, ?_⟩
          unfold Oper.valAt
          go_simp
          rfl
        intro k1 a1 hk1 ha1
        simp only [Nat.reduceAdd] at hk1
        simp only [Act.put, List.setIfInBounds_toArray, List.set_cons_succ, List.set_cons_zero] at ha1
        subst hk1 ha1
        apply Mono.is0
        · kernel_rfl
        · intro W hW
          have cv := run_string_SB (P := Try.prog) Try.underlying32 Try.underlying5 Try.underlying9 (Hblk.out.grows hW)
          go_wp2
          refine ⟨rfl, rfl, Grows.refl _, ?_⟩
          unfold Oper.valAt
          go_simp
          rfl
        intro k1 a1 hk1 ha1
        simp only [Nat.reduceAdd] at hk1
        simp only [Act.put, List.setIfInBounds_toArray, List.set_cons_succ, List.set_cons_zero] at ha1
        subst hk1 ha1
        apply Mono.is0
        · kernel_rfl
        · intro W hW
          go_wp2
          refine ⟨rfl, rfl, Grows.refl _, ?_⟩
          unfold Oper.valAt
          go_simp
          rfl
        intro k1 a1 hk1 ha1
        simp only [Nat.reduceAdd] at hk1
        simp only [Act.put, List.setIfInBounds_toArray, List.set_cons_succ, List.set_cons_zero] at ha1
        subst hk1 ha1
        refine Mono.done ?_
        intro wq hgq
        simp only [allF, List.drop_succ_cons, List.drop_nil]
        intro g4
        go_wp2
        go_roundw
        case rel => exact ⟨j + 1, i + 64, by unfold Hid; rw [Hij.out]; omega, by go_num, by omega, hgr2.trans hgq⟩
        case measure => simp [intOf]; omega
      · have hlti : ¬ (i : Int) + 64 ≤ (n : Int) := by omega
        go_wp2_with fail
        refine (awake4_any wr).mono ?_
        rintro e w1 ⟨rfl, hg1⟩
        go_wp2
        go_ret
        exact ⟨rfl, (hgw2.trans hgr).trans hg1⟩
  · obtain ⟨px, Hpx⟩ : ∃ x, Hid (xs.take m = x) := ⟨_, lib_hid rfl⟩
    have Hpy : Hid (ys.take m = px) := by unfold Hid; rw [← Hpx.out]; exact (Hpre.out m (by omega) (by omega)).symm
    have hkn : m ≤ n := by omega
    have hkm : m ≤ m := by omega
    have hkc1 : (m : Int) ≤ (c1 : Int) := by omega
    have hkc2 : (m : Int) ≤ (c2 : Int) := by omega
    go_upto_region 3 with fail
    apply wp_region_mono 25 ((.is _, []) :: (.is _, []) :: (.is _, []) :: (.is _, []) :: (.is _, []) :: (.is _, []) :: (.is _, []) :: (.is _, []) :: (.is _, []) :: (.is _, []) :: (.is _, []) :: (.is _, []) :: (.is _, []) :: (.is _, []) :: (.is _, []) :: (.is _, []) :: (.is _, []) :: (.is _, []) :: (.is _, []) :: (.is _, []) :: (.is _, []) :: (.is _, []) :: (.is _, []) :: (.is _, []) :: (.is _, []) :: []) (by kernel_rfl) (by kernel_rfl)
    iterate 16
      apply Mono.is0
      · kernel_rfl
      · intro W hW
        go_wp2
        refine ⟨rfl, rfl, Grows.refl _, ?_⟩
        unfold Oper.valAt
        go_simp
        rfl
      intro k1 a1 hk1 ha1
      simp only [Nat.reduceAdd] at hk1
      simp only [Act.put, List.setIfInBounds_toArray, List.set_cons_succ, List.set_cons_zero] at ha1
      subst hk1 ha1
    apply Mono.is0
    · kernel_rfl
    · intro W hW
      have cv := run_string_SB (P := Try.prog) Try.underlying32 Try.underlying5 Try.underlying9 ((HX.out.grows hW).pre hkn)
      rw [Hpx.out] at cv
      go_wp2
      refine ⟨rfl, rfl, Grows.refl _, ?_⟩
      unfold Oper.valAt
      go_simp
      rfl
    intro k1 a1 hk1 ha1
    simp only [Nat.reduceAdd] at hk1
    simp only [Act.put, List.setIfInBounds_toArray, List.set_cons_succ, List.set_cons_zero] at ha1
    subst hk1 ha1
    iterate 5
      apply Mono.is0
      · kernel_rfl
      · intro W hW
        go_wp2
        refine ⟨rfl, rfl, Grows.refl _, ?_⟩
        unfold Oper.valAt
        go_simp
        rfl
      intro k1 a1 hk1 ha1
      simp only [Nat.reduceAdd] at hk1
      simp only [Act.put, List.setIfInBounds_toArray, List.set_cons_succ, List.set_cons_zero] at ha1
      subst hk1 ha1
    apply Mono.is0
    · kernel_rfl
    · intro W hW
      have cv := run_string_SB (P := Try.prog) Try.underlying32 Try.underlying5 Try.underlying9 ((HY.out.grows hW).pre hkm)
      rw [Hpy.out] at cv
      go_wp2
      refine ⟨rfl, rfl, Grows.refl _, ?_⟩
      unfold Oper.valAt
      go_simp
      rfl
    intro k1 a1 hk1 ha1
    simp only [Nat.reduceAdd] at hk1
    simp only [Act.put, List.setIfInBounds_toArray, List.set_cons_succ, List.set_cons_zero] at ha1
    subst hk1 ha1
    iterate 2
      apply Mono.is0
      · kernel_rfl
      · intro W hW
        go_wp2
        refine ⟨rfl, rfl, Grows.refl _, ?_⟩
        unfold Oper.valAt
        go_simp
        rfl
      intro k1 a1 hk1 ha1
      simp only [Nat.reduceAdd] at hk1
      simp only [Act.put, List.setIfInBounds_toArray, List.set_cons_succ, List.set_cons_zero] at ha1
      subst hk1 ha1
    refine Mono.done ?_
    intro wo hgo
    simp only [allF, List.drop_succ_cons, List.drop_nil]
    go_upto_region 5 with fail
    clear Hpx Hpy hkn hkm hkc1 hkc2 hle
    have HFk2 : Hid (∀ W, Grows wo W → Row W (some ⟨w.heap.size, 0, none⟩) 32 32 (key.map b8)) := fun W hW => HFk.out W ((hgm.trans hgo).trans hW)
    have HFn2 : Hid (∀ W, Grows wo W → Row W (some ⟨w.heap.size, 32, none⟩) 12 12 (nonce.map b8)) := fun W hW => HFn.out W ((hgm.trans hgo).trans hW)
    have HFc2 : Hid (∀ W, Grows wo W → W.cell? ⟨w.heap.size, 44, none⟩ = some (b32 ctr)) := fun W hW => HFc.out W ((hgm.trans hgo).trans hW)
    have HX2 := lib_hid (HX.out.grows hgo)
    have hgw2 := hgw.trans hgo
    clear HFk HFn HFc HX HY Hs1 Hs2 Hpre HZ hgm hgo hgw
    go_wp2_with fail
    go_loopw [11, 12] (fun v _ wr => ∃ j i : Nat, Hid (i = 64 * j) ∧ v = .int .i64 (i : Int) ∧ i ≤ 700 ∧ Grows wo wr) (fun v _ _ => 700 - (intOf v).toNat)
    case atStart => exact ⟨0, 0, lib_hid rfl, rfl, by omega, Grows.refl _⟩
    case round =>
      obtain ⟨j, i, Hij, rfl, hi7, hgr⟩ := hrel
      by_cases hlt : i + 64 ≤ n
      · have hlti : (i : Int) + 64 ≤ (n : Int) := by omega
        have hj10 : j ≤ 11 := by have := Hij.out; omega
        have hq : (i : Int).tdiv 64 = (j : Int) := by have := Hij.out; rw [Int.tdiv_eq_ediv_of_nonneg (by omega)]; omega
        obtain ⟨jk, Hjk, hjk⟩ : ∃ x : UInt32, Hid (x = UInt32.ofNat j) ∧ IntKind.u32.wrap (j : Int) = (x.toNat : Int) := ⟨_, lib_hid rfl, u32_wrap_nat j⟩
        obtain ⟨nk, Hnk, hnk⟩ : ∃ x : UInt32, Hid (x = ctr + jk) ∧ IntKind.u32.wrap ((ctr.toNat : Int) + (jk.toNat : Int)) = (x.toNat : Int) := ⟨_, lib_hid rfl, u32_wrap_add _ _⟩
        obtain ⟨blk, hbl, hbd, hbc⟩ := HB.out j (by have := Hij.out; omega) nk (by rw [Hnk.out, Hjk.out])
        have Hd : Hid ((xs.drop i).take 64 = blk) := by unfold Hid; rw [Hij.out]; exact hbd
        have Hbc := lib_hid hbc
        obtain ⟨res, Hres, hrl, hra⟩ : ∃ r : Array Value, Hid ((blk.map b8).toArray = r) ∧ r.size = 64 ∧ r.all (·.oneCell') = true := ⟨_, lib_hid rfl, by simp [hbl], cells_all _⟩
        have hcc := HFc2.out wr hgr
        clear hbd hbc
        go_wp2_with (first
          | (refine wpList_load_part rfl _ _ rfl ⟨w.heap.size, 0, none⟩ rfl 32 32 (key.map b8) _ (HFk2.out wr hgr) Try.underlying22 rfl Try.size32 ?_)
          | (refine wpList_load_part rfl _ _ rfl ⟨w.heap.size, 32, none⟩ rfl 12 12 (nonce.map b8) _ (HFn2.out wr hgr) Try.underlying23 rfl Try.size12 ?_))
        refine (Hbc.out wr).mono ?_
        rintro e w1 ⟨rfl, hg1⟩
        rw [Hres.out]
        clear hcc hq hjk hnk
        go_upto_region 9 with (refine wpList_store_blk rfl _ _ _ rfl w1.heap.size res rfl rfl 28 _ (Blk.new _ _ _) (by rw [Try.size64, hrl]) (by simp [hrl]) hra w1.heap.size w1 ((Grows.refl w1).alloc _) (Nat.le_refl _) ?_; intro w2 H7 hb2 hg2)
        have Hblk : Hid (SB w2 (some ⟨w1.heap.size, 0, none⟩) 64 64 blk) := by
          unfold Hid SB
          have := H7.row (o := 0) (n := 64) (c := 64) (Nat.le_refl _) (by omega) (by unfold maxLen; omega)
          rw [← Hres.out] at this
          simpa [List.take_of_length_le (show (blk.map b8).length ≤ 64 by simp [hbl])] using this
        have hgr2 : Grows wo w2 := (hgr.trans hg1).trans hb2
        have HXw := lib_hid (HX2.out.grows hgr2)
        clear H7 hg2 hb2 hg1 hgr
        apply wp_region_mono 9 ((.is _, []) :: (.is _, []) :: (.is _, []) :: (.is _, []) :: (.pr (fun v W => ∃ A2 c2, v = .slice A2 64 c2 ∧ SB W A2 64 c2 blk), []) :: (.is _, [4]) :: (.is _, []) :: (.is _, []) :: (.is _, []) :: []) (by kernel_rfl) (by kernel_rfl)
        iterate 4
          apply Mono.is0
          · kernel_rfl
          · intro W hW
            go_wp2
            refine ⟨rfl, rfl, Grows.refl _, ?_⟩
            unfold Oper.valAt
            go_simp
            rfl
          intro k1 a1 hk1 ha1
          simp only [Nat.reduceAdd] at hk1
          simp only [Act.put, List.setIfInBounds_toArray, List.set_cons_succ, List.set_cons_zero] at ha1
          subst hk1 ha1
        apply Mono.pr0
        · kernel_rfl
        · exact fun v W W' hW ⟨A, c, h1, h2⟩ => ⟨A, c, h1, h2.grows hW⟩
        · intro W hW 
          have hsW := HXw.out.grows hW
          have hfr := (SB.from hsW (show i ≤ n by omega)).pre (k := 64) (by omega)
          rw [if_neg (show ¬ c1 = i by omega), Hd.out] at hfr
          have Hfr := lib_hid hfr
          clear hfr
          go_wp2
          refine ⟨rfl, rfl, Grows.refl _, _, _, ?_, Hfr.out⟩
          unfold Oper.valAt
          go_simp
        intro v4
        intro k1 a1 hk1 ha1
        simp only [Nat.reduceAdd] at hk1
        simp only [Act.put, List.setIfInBounds_toArray, List.set_cons_succ, List.set_cons_zero] at ha1
        subst hk1 ha1
        apply Mono.is1
        · kernel_rfl
        · intro W hW f0
          obtain ⟨A2, c2, rfl, hs2⟩ := f0
          have cv := run_string_SB (P := Try.prog) Try.underlying32 Try.underlying5 Try.underlying9 hs2
          go_wp2
          refine ⟨rfl, rfl, Grows.refl _, ?_⟩
          unfold Oper.valAt
          go_simp
          rfl
        intro k1 a1 hk1 ha1
        simp only [Nat.reduceAdd] at hk1
        simp only [Act.put, List.setIfInBounds_toArray, List.set_cons_succ, List.set_cons_zero] at ha1
        subst hk1 ha1
        apply Mono.is0
        · kernel_rfl
        · intro W hW
          go_wp2
          refine ⟨rfl, rfl, Grows.refl _, ?_⟩
          unfold Oper.valAt
          go_simp
          rfl
        intro k1 a1 hk1 ha1
        simp only [Nat.reduceAdd] at hk1
        simp only [Act.put, List.setIfInBounds_toArray, List.set_cons_succ, List.set_cons_zero] at ha1
        subst hk1 ha1
        apply Mono.is0
        · kernel_rfl
        · intro W hW
          have cv := run_string_SB (P := Try.prog) Try.underlying32 Try.underlying5 Try.underlying9 (Hblk.out.grows hW)
          go_wp2
          refine ⟨rfl, rfl, Grows.refl _, ?_⟩
          unfold Oper.valAt
          go_simp
          rfl
        intro k1 a1 hk1 ha1
        simp only [Nat.reduceAdd] at hk1
        simp only [Act.put, List.setIfInBounds_toArray, List.set_cons_succ, List.set_cons_zero] at ha1
        subst hk1 ha1
        apply Mono.is0
        · kernel_rfl
        · intro W hW
          go_wp2
          refine ⟨rfl, rfl, Grows.refl _, ?_⟩
          unfold Oper.valAt
          go_simp
          rfl
        intro k1 a1 hk1 ha1
        simp only [Nat.reduceAdd] at hk1
        simp only [Act.put, List.setIfInBounds_toArray, List.set_cons_succ, List.set_cons_zero] at ha1
        subst hk1 ha1
        refine Mono.done ?_
        intro wq hgq
        simp only [allF, List.drop_succ_cons, List.drop_nil]
        intro g4
        go_wp2
        go_roundw
        case rel => exact ⟨j + 1, i + 64, by unfold Hid; rw [Hij.out]; omega, by go_num, by omega, hgr2.trans hgq⟩
        case measure => simp [intOf]; omega
      · have hlti : ¬ (i : Int) + 64 ≤ (n : Int) := by omega
        go_wp2_with fail
        refine (awake4_any wr).mono ?_
        rintro e w1 ⟨rfl, hg1⟩
        go_wp2
        go_ret
        exact ⟨rfl, (hgw2.trans hgr).trans hg1⟩

end Go.Proofs.Ytaanncgkekmgoaa
