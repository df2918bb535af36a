/-
  The walks of HmacSums and HmacKeys.
-/
import Derived.Test.YtngmclajfbknjaaDoorHmac4
import Derived.Test.YtngmclajfbknjaaDoorArrEq
import Derived.Deep.Cut
import Derived.BigRegion
import Derived.RegionTactic
import Derived.Outline
namespace Go.Proofs.YtngmclajfbknjaaDoor
open Go Go.RowKit
set_option linter.unusedSimpArgs false
set_option linter.unusedVariables false


attribute [local irreducible] startV schedF moreW firstW blockF roundsF sumsF outF outW padS sumS shaK ShaOf HC keyB hmF xorK
theorem Tryd.arr32H : Tryd.prog.underlying 23 = some (.array 32 5) := by kernel_rfl
theorem eq32 (xs : List UInt8) (h : xs.length = 32) (W : World) : (Op.equalIn 10000 23 (.agg (xs.map b8).toArray) (.agg (xs.map b8).toArray)).run Tryd.prog W = .ok true W :=
  (run_equalIn_bytes W 9998 23 5 32 xs xs h h Tryd.arr32H Tryd.underlying5 Tryd.sizeByte).trans (by rw [beq_self_eq_true])
set_option maxRecDepth 100000 in
set_option maxHeartbeats 4000000 in
theorem walk_HmacSums {tK : TypeId} (A : Option Addr) (n c : Nat) (key : List UInt8) (B : Option Addr) (m d : Nat) (bs : List UInt8) (w : World) (HK : Hid (Blk w 0 tK (shaK.map b32).toArray)) (hs : SB w A n c key) (hb : SB w B m d bs) :
    Calls Tryd.prog 3 #[.slice A n c, .slice B m d] w fun e w' => e = .returned (.bool true) ∧ Grows w w' := by
  by_cases hn : 300 < n
  · have hni : (n : Int) > 300 := by omega
    clear hs hb HK hn
    go_enter Tryd.func3, Tryd.ntmps3
    go_wp2
    go_ret
    exact ⟨rfl, Grows.refl _⟩
  have hni : ¬ (n : Int) > 300 := by omega
  by_cases hm : 300 < m
  · have hmi : (m : Int) > 300 := by omega
    clear hs hb HK hm hn
    go_enter Tryd.func3, Tryd.ntmps3
    go_wp2
    go_ret
    exact ⟨rfl, Grows.refl _⟩
  have hmi : ¬ (m : Int) > 300 := by omega
  obtain ⟨os, Hos, osl⟩ : ∃ x : List UInt8, Hid (hmF shaK (keyB shaK key) bs = x) ∧ Hid (x.length = 32) := ⟨_, lib_hid rfl, lib_hid (hmF_len _ _ _)⟩
  obtain ⟨rs, Hrs, hrl, hra⟩ : ∃ rs : Array Value, Hid ((os.map b8).toArray = rs) ∧ Hid (rs.size = 32) ∧ Hid (rs.all (·.oneCell') = true) := ⟨_, lib_hid rfl, by unfold Hid; simp [osl.out], lib_hid (cells_all _)⟩
  have HCs : Hid (Calls Tryd.prog 7 #[.slice A n c, .slice B m d] w fun e w' => e = .returned (.agg rs) ∧ Grows w w') := by
    rw [← Hrs.out, ← Hos.out]; exact hmac_any shaK key bs A B n c m d w shaK_len HK hs hb (by omega) (by omega)
  have HRs0 : Hid (∀ W, Grows w W → Calls Tryd.prog 8 #[.slice A n c, .slice B m d] W (NewB 5 W os)) := fun W hW => by
    rw [← Hos.out]; exact refHmac_any key bs A B n c m d W (hs.grows hW) (hb.grows hW) (by omega) (by omega)
  have HCa0 : Hid (∀ W, Grows w W → Calls Tryd.prog 9 #[] W fun e w' => e = .returned (.bool true) ∧ Grows W w') := fun W hW => awake7_any W (HK.out.grows hW)
  clear hs hb HK hn hm
  go_enter Tryd.func3, Tryd.ntmps3
  go_wp2_with fail
  refine HCs.out.mono ?_
  rintro e1 w1 ⟨rfl, hg1⟩
  have HN1 : Hid (Blk (w1.alloc (.cells #[.int .u8 0, .int .u8 0, .int .u8 0, .int .u8 0, .int .u8 0, .int .u8 0, .int .u8 0, .int .u8 0, .int .u8 0, .int .u8 0, .int .u8 0, .int .u8 0, .int .u8 0, .int .u8 0, .int .u8 0, .int .u8 0, .int .u8 0, .int .u8 0, .int .u8 0, .int .u8 0, .int .u8 0, .int .u8 0, .int .u8 0, .int .u8 0, .int .u8 0, .int .u8 0, .int .u8 0, .int .u8 0, .int .u8 0, .int .u8 0, .int .u8 0, .int .u8 0] 23)) w1.heap.size 23 #[.int .u8 0, .int .u8 0, .int .u8 0, .int .u8 0, .int .u8 0, .int .u8 0, .int .u8 0, .int .u8 0, .int .u8 0, .int .u8 0, .int .u8 0, .int .u8 0, .int .u8 0, .int .u8 0, .int .u8 0, .int .u8 0, .int .u8 0, .int .u8 0, .int .u8 0, .int .u8 0, .int .u8 0, .int .u8 0, .int .u8 0, .int .u8 0, .int .u8 0, .int .u8 0, .int .u8 0, .int .u8 0, .int .u8 0, .int .u8 0, .int .u8 0, .int .u8 0]) := Blk.new _ _ _
  have Hg1 := lib_hid hg1
  clear hg1 HCs
  go_upto_region 4 with (refine wpList_store_blk rfl _ _ _ rfl w1.heap.size rs rfl rfl 23 _ HN1.out (by rw [Tryd.size32B, hrl.out]) (by rw [hrl.out]; rfl) hra.out w1.heap.size w1 ((Grows.refl w1).alloc _) (Nat.le_refl _) ?_; intro w2 H2 hb2 hg2)
  obtain ⟨g5, Hg5⟩ : ∃ x, Hid (w1.heap.size = x) := ⟨_, lib_hid rfl⟩
  have HSr : Hid (SB w2 (some ⟨g5, 0, none⟩) 32 32 os) := by
    have h5 : Blk w2 g5 23 (os.map b8).toArray := by rw [Hrs.out, ← Hg5.out]; exact H2
    have h6 := h5.part8 0 32 32 (by omega) (by rw [osl.out]; omega) (by unfold maxLen; omega)
    rw [List.drop_zero, List.take_of_length_le (by rw [osl.out]; omega)] at h6
    exact h6
  rw [Hg5.out]
  have Hg2 : Hid (Grows w w2) := Hg1.out.trans hb2
  have HRs : Hid (∀ W, Grows w2 W → Calls Tryd.prog 8 #[.slice A n c, .slice B m d] W (NewB 5 W os)) := fun W hW => HRs0.out W (Hg2.out.trans hW)
  have HCa : Hid (∀ W, Grows w2 W → Calls Tryd.prog 9 #[] W fun e w' => e = .returned (.bool true) ∧ Grows W w') := fun W hW => HCa0.out W (Hg2.out.trans hW)
  clear H2 hb2 hg2 HN1 Hg1 Hg5 Hrs hrl hra HRs0 HCa0 hni hmi Hos
  apply wp_region_mono 10 ((.is _, []) :: (.is _, []) :: (.is _, []) :: (.is _, []) :: (.pr (fun v W => ∃ A n c, v = .slice A n c ∧ SB W A n c os), []) :: (.is _, [4]) :: (.is _, []) :: (.is _, []) :: (.is (.bool true), []) :: (.is _, []) :: []) (by kernel_rfl) (by kernel_rfl)
  apply Mono.is0
  · kernel_rfl
  · intro W hW
    go_wp2
    refine ⟨rfl, rfl, Grows.refl _, ?_⟩
    unfold Oper.valAt
    go_simp
    rfl
  intro k1 a1 hk1 ha1
  simp only [Nat.reduceAdd] at hk1
  simp only [Act.put, List.setIfInBounds_toArray, List.set_cons_succ, List.set_cons_zero] at ha1
  subst hk1 ha1
  apply Mono.is0
  · kernel_rfl
  · intro W hW
    have cv := run_string_SB (P := Tryd.prog) Tryd.underlying22 Tryd.underlying5 Tryd.underlying9 (HSr.out.grows hW)
    go_wp2
    refine ⟨rfl, rfl, Grows.refl _, ?_⟩
    unfold Oper.valAt
    go_simp
    rfl
  intro k1 a1 hk1 ha1
  simp only [Nat.reduceAdd] at hk1
  simp only [Act.put, List.setIfInBounds_toArray, List.set_cons_succ, List.set_cons_zero] at ha1
  subst hk1 ha1
  iterate 2
    apply Mono.is0
    · kernel_rfl
    · intro W hW
      go_wp2
      refine ⟨rfl, rfl, Grows.refl _, ?_⟩
      unfold Oper.valAt
      go_simp
      rfl
    intro k1 a1 hk1 ha1
    simp only [Nat.reduceAdd] at hk1
    simp only [Act.put, List.setIfInBounds_toArray, List.set_cons_succ, List.set_cons_zero] at ha1
    subst hk1 ha1
  apply Mono.pr0
  · kernel_rfl
  · exact fun v W W' hW ⟨A, n, c, h1, h2⟩ => ⟨A, n, c, h1, h2.grows hW⟩
  · intro W hW 
    go_wp2_with fail
    refine (HRs.out W hW).mono ?_
    rintro e w1 ⟨A1, n1, c1, hn1, rfl, hg1, ho1⟩
    have HS1 := lib_hid (SB.own ho1)
    clear ho1 hn1
    go_wp2
    exact ⟨rfl, rfl, hg1, A1, n1, c1, rfl, HS1.out⟩
  intro v4
  intro k1 a1 hk1 ha1
  simp only [Nat.reduceAdd] at hk1
  simp only [Act.put, List.setIfInBounds_toArray, List.set_cons_succ, List.set_cons_zero] at ha1
  subst hk1 ha1
  apply Mono.is1
  · kernel_rfl
  · intro W hW f0
    obtain ⟨A1, n1, c1, rfl, hs⟩ := f0
    have cv := run_string_SB (P := Tryd.prog) Tryd.underlying22 Tryd.underlying5 Tryd.underlying9 hs
    go_wp2
    refine ⟨rfl, rfl, Grows.refl _, ?_⟩
    unfold Oper.valAt
    go_simp
    rfl
  intro k1 a1 hk1 ha1
  simp only [Nat.reduceAdd] at hk1
  simp only [Act.put, List.setIfInBounds_toArray, List.set_cons_succ, List.set_cons_zero] at ha1
  subst hk1 ha1
  iterate 2
    apply Mono.is0
    · kernel_rfl
    · intro W hW
      go_wp2
      refine ⟨rfl, rfl, Grows.refl _, ?_⟩
      unfold Oper.valAt
      go_simp
      rfl
    intro k1 a1 hk1 ha1
    simp only [Nat.reduceAdd] at hk1
    simp only [Act.put, List.setIfInBounds_toArray, List.set_cons_succ, List.set_cons_zero] at ha1
    subst hk1 ha1
  apply Mono.is0
  · kernel_rfl
  · intro W hW 
    go_wp2_with fail
    refine (HCa.out W hW).mono ?_
    rintro e w1 ⟨rfl, hg1⟩
    go_wp2
    exact ⟨rfl, rfl, hg1, rfl⟩
  intro k1 a1 hk1 ha1
  simp only [Nat.reduceAdd] at hk1
  simp only [Act.put, List.setIfInBounds_toArray, List.set_cons_succ, List.set_cons_zero] at ha1
  subst hk1 ha1
  apply Mono.is0
  · kernel_rfl
  · intro W hW
    go_wp2
    refine ⟨rfl, rfl, Grows.refl _, ?_⟩
    unfold Oper.valAt
    go_simp
    rfl
  intro k1 a1 hk1 ha1
  simp only [Nat.reduceAdd] at hk1
  simp only [Act.put, List.setIfInBounds_toArray, List.set_cons_succ, List.set_cons_zero] at ha1
  subst hk1 ha1
  refine Mono.done ?_
  intro wm hgm
  simp only [allF, List.drop_succ_cons, List.drop_zero]
  intro g4
  go_wp2
  go_ret
  exact ⟨rfl, Hg2.out.trans hgm⟩
theorem keyB_sum (ks : List UInt32) (key : List UInt8) (h : 64 < key.length) : keyB ks (sumS ks key) = keyB ks key := by
  unfold keyB
  rw [if_pos h, if_neg (by rw [sumS_len]; omega), sumS_len]
theorem keyB_more (ks : List UInt32) (key : List UInt8) (q : Nat) (h : key.length + q ≤ 64) : keyB ks (key ++ List.replicate q 0) = keyB ks key := by
  unfold keyB
  rw [if_neg (by simp; omega), if_neg (by omega), List.append_assoc, List.replicate_append_replicate, List.length_append, List.length_replicate]
  congr 2
  omega
set_option maxRecDepth 100000 in
set_option maxHeartbeats 4000000 in
theorem walk_HmacKeys {tK : TypeId} (A : Option Addr) (n c : Nat) (key : List UInt8) (B : Option Addr) (m d : Nat) (bs : List UInt8) (more : UInt8) (w : World) (HK : Hid (Blk w 0 tK (shaK.map b32).toArray)) (hs : SB w A n c key) (hb : SB w B m d bs) :
    Calls Tryd.prog 5 #[.slice A n c, .slice B m d, .int .u8 (more.toNat : Int)] w fun e w' => e = .returned (.bool true) ∧ Grows w w' := by
  by_cases hn : 300 < n
  · have hni : (n : Int) > 300 := by omega
    clear hs hb HK hn
    go_enter Tryd.func5, Tryd.ntmps5
    go_wp2
    go_ret
    exact ⟨rfl, Grows.refl _⟩
  have hni : ¬ (n : Int) > 300 := by omega
  by_cases hm : 300 < m
  · have hmi : (m : Int) > 300 := by omega
    clear hs hb HK hm hn
    go_enter Tryd.func5, Tryd.ntmps5
    go_wp2
    go_ret
    exact ⟨rfl, Grows.refl _⟩
  have hmi : ¬ (m : Int) > 300 := by omega
  have hlen := hs.len
  obtain ⟨ks, Hks, hkl⟩ : ∃ ks, Hid (ks = shaK) ∧ ks.length = 64 := ⟨_, lib_hid rfl, shaK_len⟩
  have HCa0 : Hid (∀ W, Grows w W → Calls Tryd.prog 9 #[] W fun e w' => e = .returned (.bool true) ∧ Grows W w') := fun W hW => awake7_any W (HK.out.grows hW)
  rw [← Hks.out] at HK
  obtain ⟨os, Hos, osl⟩ : ∃ x : List UInt8, Hid (hmF ks (keyB ks key) bs = x) ∧ Hid (x.length = 32) := ⟨_, lib_hid rfl, lib_hid (hmF_len _ _ _)⟩
  obtain ⟨rs, Hrs⟩ : ∃ rs : Array Value, Hid ((os.map b8).toArray = rs) := ⟨_, lib_hid rfl⟩
  have He : Hid (∀ W, (Op.equalIn 10000 23 (.agg rs) (.agg rs)).run Tryd.prog W = .ok true W) := fun W => by rw [← Hrs.out]; exact eq32 os osl.out W
  have HC0 : Hid (∀ (A2 : Option Addr) (n2 c2 : Nat) (k2 : List UInt8) (W : World), Grows w W → SB W A2 n2 c2 k2 → n2 ≤ 300 → keyB ks k2 = keyB ks key → Calls Tryd.prog 7 #[.slice A2 n2 c2, .slice B m d] W fun e w' => e = .returned (.agg rs) ∧ Grows W w') := fun A2 n2 c2 k2 W hW h1 h2 h3 => by
    have h5 := hmac_any ks k2 bs A2 B n2 c2 m d W hkl (HK.out.grows hW) h1 (hb.grows hW) (by omega) (by omega)
    rw [h3, Hos.out, Hrs.out] at h5
    exact h5
  by_cases h64 : 64 < n
  · have h64i : (n : Int) > 64 := by omega
    obtain ⟨ss, Hss, ssl⟩ : ∃ x : List UInt8, Hid (sumS ks key = x) ∧ Hid (x.length = 32) := ⟨_, lib_hid rfl, lib_hid (sumS_len _ _)⟩
    obtain ⟨sa, Hsa, sal, saa⟩ : ∃ rs : Array Value, Hid ((ss.map b8).toArray = rs) ∧ Hid (rs.size = 32) ∧ Hid (rs.all (·.oneCell') = true) := ⟨_, lib_hid rfl, by unfold Hid; simp [ssl.out], lib_hid (cells_all _)⟩
    have HCs : Hid (Calls Tryd.prog 14 #[.slice A n c] w fun e w' => e = .returned (.agg sa) ∧ Grows w w') := by
      rw [← Hsa.out, ← Hss.out]; exact shaSum_any ks A n c key w hkl HK hs (by omega)
    have Hkk : Hid (keyB ks ss = keyB ks key) := by rw [← Hss.out]; exact keyB_sum ks key (by omega)
    have HS0 := lib_hid hs
    have Hn := lib_hid (show n ≤ 300 by omega)
    clear hs hb HK hn hm h64 hlen hkl
    go_enter Tryd.func5, Tryd.ntmps5
    go_wp2_with fail
    refine HCs.out.mono ?_
    rintro e1 w1 ⟨rfl, hg1⟩
    have HN1 : Hid (Blk (w1.alloc (.cells #[.int .u8 0, .int .u8 0, .int .u8 0, .int .u8 0, .int .u8 0, .int .u8 0, .int .u8 0, .int .u8 0, .int .u8 0, .int .u8 0, .int .u8 0, .int .u8 0, .int .u8 0, .int .u8 0, .int .u8 0, .int .u8 0, .int .u8 0, .int .u8 0, .int .u8 0, .int .u8 0, .int .u8 0, .int .u8 0, .int .u8 0, .int .u8 0, .int .u8 0, .int .u8 0, .int .u8 0, .int .u8 0, .int .u8 0, .int .u8 0, .int .u8 0, .int .u8 0] 23)) w1.heap.size 23 #[.int .u8 0, .int .u8 0, .int .u8 0, .int .u8 0, .int .u8 0, .int .u8 0, .int .u8 0, .int .u8 0, .int .u8 0, .int .u8 0, .int .u8 0, .int .u8 0, .int .u8 0, .int .u8 0, .int .u8 0, .int .u8 0, .int .u8 0, .int .u8 0, .int .u8 0, .int .u8 0, .int .u8 0, .int .u8 0, .int .u8 0, .int .u8 0, .int .u8 0, .int .u8 0, .int .u8 0, .int .u8 0, .int .u8 0, .int .u8 0, .int .u8 0, .int .u8 0]) := Blk.new _ _ _
    have Hg1 := lib_hid hg1
    clear hg1 HCs
    go_upto_region 5 with (refine wpList_store_blk rfl _ _ _ rfl w1.heap.size sa rfl rfl 23 _ HN1.out (by rw [Tryd.size32B, sal.out]) (by rw [sal.out]; rfl) saa.out w1.heap.size w1 ((Grows.refl w1).alloc _) (Nat.le_refl _) ?_; intro w2 H2 hb2 hg2)
    obtain ⟨g7, Hg7⟩ : ∃ x, Hid (w1.heap.size = x) := ⟨_, lib_hid rfl⟩
    have HSr : Hid (SB w2 (some ⟨g7, 0, none⟩) 32 32 ss) := by
      have h5 : Blk w2 g7 23 (ss.map b8).toArray := by rw [Hsa.out, ← Hg7.out]; exact H2
      have h6 := h5.part8 0 32 32 (by omega) (by rw [ssl.out]; omega) (by unfold maxLen; omega)
      rw [List.drop_zero, List.take_of_length_le (by rw [ssl.out]; omega)] at h6
      exact h6
    rw [Hg7.out]
    have Hg2 : Hid (Grows w w2) := Hg1.out.trans hb2
    have HCk : Hid (∀ W, Grows w2 W → Calls Tryd.prog 7 #[.slice A n c, .slice B m d] W fun e w' => e = .returned (.agg rs) ∧ Grows W w') := fun W hW => HC0.out A n c key W (Hg2.out.trans hW) (HS0.out.grows (Hg2.out.trans hW)) Hn.out rfl
    have HCl : Hid (∀ W, Grows w2 W → Calls Tryd.prog 7 #[.slice (some ⟨g7, 0, none⟩) 32 32, .slice B m d] W fun e w' => e = .returned (.agg rs) ∧ Grows W w') := fun W hW => HC0.out _ 32 32 ss W (Hg2.out.trans hW) (HSr.out.grows hW) (by omega) Hkk.out
    have HCa : Hid (∀ W, Grows w2 W → Calls Tryd.prog 9 #[] W fun e w' => e = .returned (.bool true) ∧ Grows W w') := fun W hW => HCa0.out W (Hg2.out.trans hW)
    clear H2 hb2 hg2 HN1 Hg1 Hg7 Hsa sal saa HCa0 hni hmi h64i
    apply wp_region_mono 10 ((.is _, []) :: (.is _, []) :: (.is (.agg rs), []) :: (.is _, []) :: (.is _, []) :: (.is (.agg rs), []) :: (.is (.bool true), []) :: (.is _, []) :: (.is (.bool true), []) :: (.is _, []) :: []) (by kernel_rfl) (by kernel_rfl)
    iterate 2
      apply Mono.is0
      · kernel_rfl
      · intro W hW
        go_wp2
        refine ⟨rfl, rfl, Grows.refl _, ?_⟩
        unfold Oper.valAt
        go_simp
        rfl
      intro k1 a1 hk1 ha1
      simp only [Nat.reduceAdd] at hk1
      simp only [Act.put, List.setIfInBounds_toArray, List.set_cons_succ, List.set_cons_zero] at ha1
      subst hk1 ha1
    apply Mono.is0
    · kernel_rfl
    · intro W hW 
      go_wp2_with fail
      refine (HCk.out W hW).mono ?_
      rintro e w1 ⟨rfl, hg1⟩
      go_wp2
      exact ⟨rfl, rfl, hg1, rfl⟩
    intro k1 a1 hk1 ha1
    simp only [Nat.reduceAdd] at hk1
    simp only [Act.put, List.setIfInBounds_toArray, List.set_cons_succ, List.set_cons_zero] at ha1
    subst hk1 ha1
    iterate 2
      apply Mono.is0
      · kernel_rfl
      · intro W hW
        go_wp2
        refine ⟨rfl, rfl, Grows.refl _, ?_⟩
        unfold Oper.valAt
        go_simp
        rfl
      intro k1 a1 hk1 ha1
      simp only [Nat.reduceAdd] at hk1
      simp only [Act.put, List.setIfInBounds_toArray, List.set_cons_succ, List.set_cons_zero] at ha1
      subst hk1 ha1
    apply Mono.is0
    · kernel_rfl
    · intro W hW 
      go_wp2_with fail
      refine (HCl.out W hW).mono ?_
      rintro e w1 ⟨rfl, hg1⟩
      go_wp2
      exact ⟨rfl, rfl, hg1, rfl⟩
    intro k1 a1 hk1 ha1
    simp only [Nat.reduceAdd] at hk1
    simp only [Act.put, List.setIfInBounds_toArray, List.set_cons_succ, List.set_cons_zero] at ha1
    subst hk1 ha1
    apply Mono.is0
    · kernel_rfl
    · intro W hW 
      have he1 := He.out W
      go_wp2
      refine ⟨rfl, rfl, Grows.refl _, ?_⟩
      unfold Oper.valAt
      go_simp
    intro k1 a1 hk1 ha1
    simp only [Nat.reduceAdd] at hk1
    simp only [Act.put, List.setIfInBounds_toArray, List.set_cons_succ, List.set_cons_zero] at ha1
    subst hk1 ha1
    apply Mono.is0
    · kernel_rfl
    · intro W hW
      go_wp2
      refine ⟨rfl, rfl, Grows.refl _, ?_⟩
      unfold Oper.valAt
      go_simp
      rfl
    intro k1 a1 hk1 ha1
    simp only [Nat.reduceAdd] at hk1
    simp only [Act.put, List.setIfInBounds_toArray, List.set_cons_succ, List.set_cons_zero] at ha1
    subst hk1 ha1
    apply Mono.is0
    · kernel_rfl
    · intro W hW 
      go_wp2_with fail
      refine (HCa.out W hW).mono ?_
      rintro e w1 ⟨rfl, hg1⟩
      go_wp2
      exact ⟨rfl, rfl, hg1, rfl⟩
    intro k1 a1 hk1 ha1
    simp only [Nat.reduceAdd] at hk1
    simp only [Act.put, List.setIfInBounds_toArray, List.set_cons_succ, List.set_cons_zero] at ha1
    subst hk1 ha1
    apply Mono.is0
    · kernel_rfl
    · intro W hW
      go_wp2
      refine ⟨rfl, rfl, Grows.refl _, ?_⟩
      unfold Oper.valAt
      go_simp
      rfl
    intro k1 a1 hk1 ha1
    simp only [Nat.reduceAdd] at hk1
    simp only [Act.put, List.setIfInBounds_toArray, List.set_cons_succ, List.set_cons_zero] at ha1
    subst hk1 ha1
    refine Mono.done ?_
    intro wm hgm
    simp only [allF, List.drop_succ_cons, List.drop_zero]
    go_wp2
    go_ret
    exact ⟨rfl, Hg2.out.trans hgm⟩
  · have h64i : ¬ (n : Int) > 64 := by omega
    have hxl : (more.toNat : Int) < 256 := by have := more.toNat_lt; omega
    obtain ⟨z, hz, Hz, hz1⟩ : ∃ z : Nat, (65 : Int) - (n : Int) = (z : Int) ∧ Hid (z = 65 - n) ∧ ¬ (z : Int) = 0 := ⟨65 - n, by omega, lib_hid rfl, by omega⟩
    obtain ⟨q, hq, Hq⟩ : ∃ q : Nat, (more.toNat : Int).tmod (z : Int) = (q : Int) ∧ Hid (q < z) := ⟨more.toNat % z, by rw [Int.tmod_eq_emod_of_nonneg (by omega)]; omega, lib_hid (Nat.mod_lt _ (by omega))⟩
    have Hnq : Hid (n + q ≤ 64) := by have := Hz.out; have := Hq.out; unfold Hid; omega
    have hq64 : (q : Int) ≤ 64 := by have := Hnq.out; omega
    obtain ⟨lk, Hlk, Hkk⟩ : ∃ x, Hid (key ++ List.replicate q 0 = x) ∧ Hid (keyB ks x = keyB ks key) := ⟨_, lib_hid rfl, lib_hid (keyB_more ks key q (by rw [hlen]; exact Hnq.out))⟩
    have ho := World.ownsRow_lit (base := w.heap.size) (e := 5) (size := 1) w #[] 0 (Nat.le_refl _) (by unfold maxLen; omega) rfl
    have hr := hs.grows ((Grows.refl w).alloc (.cells #[] 5))
    have HH := lib_hid (And.intro hr ho)
    have HS0 := lib_hid hs
    have hn64 : n ≤ 64 := by omega
    clear ho hr hs hb HK hn hm h64 hlen hkl
    go_enter Tryd.func5, Tryd.ntmps5
    go_upto_region 8 with (first
      | (at_builtin; refine wpList_append rfl _ _ 22 rfl w.heap.size 5 (.int .u8 0) 1 Tryd.underlying22 Tryd.infoByte rfl _ 0 [] rfl HH.out.2 _ _ _ (key.map b8) rfl HH.out.1 (b8_one key) (by omega) (by omega) (by simp) ?_; intro A3 c3 w3 ho3 hb3 hg3; simp only [Nat.zero_add, List.nil_append] at ho3; have hsz3 : w.heap.size ≤ w3.heap.size := Nat.le_trans (show w.heap.size ≤ (w.alloc (.cells #[] 5)).heap.size by simp) hg3.size)
      | (at_builtin; refine wpList_append_zeros rfl _ _ 22 3 rfl w.heap.size 5 .i64 (.int .u8 0) 1 Tryd.underlying22 Tryd.underlying3 Tryd.infoByte rfl rfl _ n _ rfl ho3 q rfl (by omega) (by omega) (by omega) (by omega) hsz3 ?_; intro A4 c4 w4 ho4 hb4 hg4))
    have hb03 : Below w.heap.size w w3 := Below.trans ((Grows.refl w).alloc (.cells #[] 5)) hb3
    have Hg4 : Hid (Grows w w4) := Below.trans hb03 hb4
    have HSl : Hid (SB w4 A4 (n + q) c4 lk) := by
      have e : key.map b8 ++ List.replicate q (Value.int .u8 0) = lk.map b8 := by rw [← Hlk.out, List.map_append, List.map_replicate]; rfl
      rw [e] at ho4
      exact SB.own ho4
    have HCk : Hid (∀ W, Grows w4 W → Calls Tryd.prog 7 #[.slice A n c, .slice B m d] W fun e w' => e = .returned (.agg rs) ∧ Grows W w') := fun W hW => HC0.out A n c key W (Hg4.out.trans hW) (HS0.out.grows (Hg4.out.trans hW)) (by omega) rfl
    have HCl : Hid (∀ W, Grows w4 W → Calls Tryd.prog 7 #[.slice A4 (n + q) c4, .slice B m d] W fun e w' => e = .returned (.agg rs) ∧ Grows W w') := fun W hW => HC0.out A4 (n + q) c4 lk W (Hg4.out.trans hW) (HSl.out.grows hW) (by have := Hnq.out; omega) Hkk.out
    have HCa : Hid (∀ W, Grows w4 W → Calls Tryd.prog 9 #[] W fun e w' => e = .returned (.bool true) ∧ Grows W w') := fun W hW => HCa0.out W (Hg4.out.trans hW)
    clear hb03 hb3 hg3 ho3 ho4 hb4 hg4 hsz3 HCa0 hni hmi h64i hxl hz hz1 hq hq64 HH
    go_wp2_with fail
    refine (HCk.out w4 (Grows.refl _)).mono ?_
    rintro e5 w5 ⟨rfl, hg5⟩
    go_wp2_with fail
    refine (HCl.out w5 hg5).mono ?_
    rintro e6 w6 ⟨rfl, hg6⟩
    have hg46 := hg5.trans hg6
    have he := He.out w6
    go_wp2_with fail
    refine (HCa.out w6 hg46).mono ?_
    rintro e7 w7 ⟨rfl, hg7⟩
    go_wp2
    go_ret
    exact ⟨rfl, Hg4.out.trans (hg46.trans hg7)⟩

end Go.Proofs.YtngmclajfbknjaaDoor
