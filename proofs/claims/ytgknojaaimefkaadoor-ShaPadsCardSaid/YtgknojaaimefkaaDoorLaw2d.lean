/-
  The walks of ShaSums and ShaBlocks.
-/
import Derived.Test.YtgknojaaimefkaaDoorSha13
import Derived.Test.YtgknojaaimefkaaDoorArrEq
import Derived.Test.YtgknojaaimefkaaDoorArrEqW
import Derived.Deep.Cut
import Derived.BigRegion
import Derived.RegionTactic
import Derived.Outline
namespace Go.Proofs.YtgknojaaimefkaaDoor
open Go Go.RowKit
set_option linter.unusedSimpArgs false


attribute [local irreducible] startV schedF moreW firstW blockF roundsF sumsF outF outW padS sumS shaK wF outB
set_option maxRecDepth 100000 in
set_option maxHeartbeats 4000000 in
theorem whole_any (bs : List UInt8) (hb : bs.length = 32) (w : World) : Calls Tryd.prog 9 #[.agg (bs.map b8).toArray] w fun e w' => e = .returned (.string ⟨bs.toArray⟩) ∧ Grows w w' := by
  obtain ⟨W0, HW0, hg0⟩ : ∃ W0 : World, Hid (W0 = w.alloc (.cells (bs.map b8).toArray 24)) ∧ Grows w W0 := ⟨_, lib_hid rfl, (Grows.refl w).alloc _⟩
  have HB : Hid (Blk W0 w.heap.size 24 (bs.map b8).toArray) := by unfold Hid; rw [HW0.out]; exact Blk.new _ _ _
  have hs : SB W0 (some ⟨w.heap.size, 0, none⟩) 32 32 bs := by
    have := HB.out.part8 0 32 32 (by omega) (by omega) (by unfold maxLen; omega)
    rw [List.drop_zero, List.take_of_length_le (by omega)] at this
    exact this
  have cv := run_string_SB (P := Tryd.prog) Tryd.underlying22 Tryd.underlying5 Tryd.underlying9 hs
  have HW0' := HW0.out
  clear hs
  go_enter Tryd.func9, Tryd.ntmps9
  go_upto_region 1 with fail
  rw [← HW0']
  clear HW0'
  go_wp2
  go_ret
  exact ⟨rfl, hg0⟩
set_option maxRecDepth 100000 in
set_option maxHeartbeats 4000000 in
theorem walk_ShaSums {tK : TypeId} (A : Option Addr) (n c : Nat) (bs : List UInt8) (w : World) (HK : Hid (Blk w 0 tK (shaK.map b32).toArray)) (hs : SB w A n c bs) :
    Calls Tryd.prog 3 #[.slice A n c] w fun e w' => e = .returned (.bool true) ∧ Grows w w' := by
  by_cases hn : 1000 < n
  · have hni : (n : Int) > 1000 := by omega
    clear hs HK hn
    go_enter Tryd.func3, Tryd.ntmps3
    go_wp2
    go_ret
    exact ⟨rfl, Grows.refl _⟩
  have hni : ¬ (n : Int) > 1000 := by omega
  obtain ⟨os, Hos, osl⟩ : ∃ x : List UInt8, Hid (sumS shaK bs = x) ∧ Hid (x.length = 32) := ⟨_, lib_hid rfl, lib_hid (sumS_len _ _)⟩
  have HCs : Hid (Calls Tryd.prog 10 #[.slice A n c] w fun e w' => e = .returned (.agg (os.map b8).toArray) ∧ Grows w w') := by
    rw [← Hos.out]; exact shaSum_any shaK A n c bs w shaK_len HK hs (by omega)
  have HRs : Hid (∀ W, Grows w W → Calls Tryd.prog 11 #[.slice A n c] W (NewB 5 W os)) := fun W hW => by
    rw [← Hos.out]; exact refSumS_any bs A n c W (hs.grows hW) (by omega)
  have HCa : Hid (∀ W, Grows w W → Calls Tryd.prog 12 #[] W fun e w' => e = .returned (.bool true) ∧ Grows W w') := fun W hW => awake2_any W (HK.out.grows hW)
  clear hs HK hn
  go_enter Tryd.func3, Tryd.ntmps3
  go_wp2_with fail
  refine HCs.out.mono ?_
  rintro e1 w1 ⟨rfl, hg1⟩
  go_wp2_with fail
  refine (whole_any os osl.out w1).mono ?_
  rintro e2 w2 ⟨rfl, hg2⟩
  have hg12 := hg1.trans hg2
  go_wp2_with fail
  refine (HRs.out w2 hg12).mono ?_
  rintro e3 w3 ⟨A3, n3, c3, hn3, rfl, hg3, ho3⟩
  have cv := run_string_SB (P := Tryd.prog) Tryd.underlying22 Tryd.underlying5 Tryd.underlying9 (SB.own ho3)
  have hg13 := hg12.trans hg3
  clear ho3 hn3
  go_wp2_with fail
  refine (HCa.out w3 hg13).mono ?_
  rintro e4 w4 ⟨rfl, hg4⟩
  go_wp2
  go_ret
  exact ⟨rfl, hg13.trans hg4⟩
theorem v8_of (l : List UInt32) (h : l.length = 8) : ∃ V : V8, V.list = l := by
  match l, h with
  | [a, b, c, d, e, f, g, i], _ => exact ⟨⟨a, b, c, d, e, f, g, i⟩, rfl⟩
set_option maxRecDepth 100000 in
set_option maxHeartbeats 4000000 in
theorem walk_ShaBlocks {tK : TypeId} (hl : List UInt32) (bs : List UInt8) (w : World) (HK : Hid (Blk w 0 tK (shaK.map b32).toArray)) (hh : hl.length = 8) (hb : bs.length = 64) :
    Calls Tryd.prog 4 #[.agg (hl.map b32).toArray, .agg (bs.map b8).toArray] w fun e w' => e = .returned (.bool true) ∧ Grows w w' := by
  obtain ⟨H, hH⟩ := v8_of hl hh
  subst hH
  obtain ⟨ha, Hha, hal⟩ : ∃ x : Array Value, Hid ((H.list.map b32).toArray = x) ∧ Hid (x.size = 8) := ⟨_, lib_hid rfl, lib_hid rfl⟩
  obtain ⟨xc, Hxc, xcl⟩ : ∃ x : Array Value, Hid ((bs.map b8).toArray = x) ∧ Hid (x.size = 64) := ⟨_, lib_hid rfl, by unfold Hid; simp [hb]⟩
  obtain ⟨V2, HV2⟩ : ∃ x, Hid (blockF shaK H bs = x) := ⟨_, lib_hid rfl⟩
  obtain ⟨hb2, Hhb⟩ : ∃ x : Array Value, Hid ((V2.list.map b32).toArray = x) := ⟨_, lib_hid rfl⟩
  obtain ⟨os, Hos, osl⟩ : ∃ x : List UInt8, Hid (outF H = x) ∧ Hid (x.length = 32) := ⟨_, lib_hid rfl, lib_hid (outF_len H)⟩
  obtain ⟨st, Hst⟩ : ∃ x : Array Value, Hid ((shaH0.map b32).toArray = x) := ⟨_, lib_hid rfl⟩
  obtain ⟨g0, Hg0⟩ : ∃ x, Hid (w.heap.size = x) := ⟨_, lib_hid rfl⟩
  obtain ⟨gx, Hgx⟩ : ∃ x, Hid (w.heap.size + 1 = x) := ⟨_, lib_hid rfl⟩
  obtain ⟨W0, HW0, hg0⟩ : ∃ W0 : World, Hid (W0 = (w.alloc (.cells ha 30)).alloc (.cells xc 31)) ∧ Grows w W0 := ⟨_, lib_hid rfl, ((Grows.refl w).alloc _).alloc _⟩
  have HH : Hid (Blk W0 g0 30 ha) := by unfold Hid; rw [HW0.out, ← Hg0.out]; exact (Blk.new w _ _).alloc _
  have HX : Hid (Blk W0 gx 31 xc) := by
    unfold Hid; rw [HW0.out, ← Hgx.out]
    have := Blk.new (w.alloc (.cells ha 30)) 31 xc
    simpa using this
  have HCb : Hid (∀ W, Grows W0 W → Calls Tryd.prog 13 #[.agg ha, .agg xc] W fun e w' => e = .returned (.agg hb2) ∧ Grows W w') := fun W hW => by
    have h5 := block_any shaK shaK_len H bs W hb (HK.out.grows (hg0.trans hW))
    rw [HV2.out, show H.vals = ha from Hha.out, show V2.vals = hb2 from Hhb.out, Hxc.out] at h5
    exact h5
  have HRb : Hid (∀ W, Grows W0 W → Calls Tryd.prog 14 #[.agg ha, .slice (some ⟨gx, 0, none⟩) 64 64] W fun e w' => e = .returned (.agg hb2) ∧ Grows W w') := fun W hW => by
    have hX : Blk W gx 31 (bs.map b8).toArray := by rw [Hxc.out]; exact HX.out.grows hW
    have h6 := hX.part8 0 64 64 (by omega) (by omega) (by unfold maxLen; omega)
    rw [List.drop_zero, List.take_of_length_le (by omega)] at h6
    have h5 := refBlock_any H bs gx 0 64 W h6
    rw [HV2.out, show H.vals = ha from Hha.out, show V2.vals = hb2 from Hhb.out] at h5
    exact h5
  have HOu : Hid (∀ W, Grows W0 W → Calls Tryd.prog 15 #[.agg ha] W fun e w' => e = .returned (.agg (os.map b8).toArray) ∧ Grows W w') := fun W hW => by
    have h5 := out_any H W
    rw [show H.vals = ha from Hha.out, Hos.out] at h5
    exact h5
  have HRo : Hid (∀ W, Calls Tryd.prog 16 #[.agg ha] W (NewB 5 W os)) := fun W => by
    have h5 := refOut_any H W
    rw [show H.vals = ha from Hha.out, Hos.out] at h5
    exact h5
  have HWh : Hid (∀ W, Grows W W → Calls Tryd.prog 9 #[.agg (os.map b8).toArray] W fun e w' => e = .returned (.string ⟨os.toArray⟩) ∧ Grows W w') := fun W _ => whole_any os osl.out W
  have HSt : Hid (∀ W, Grows W W → Calls Tryd.prog 17 #[] W fun e w' => e = .returned (.agg st) ∧ Grows W w') := fun W _ => by rw [← Hst.out]; exact start_any W
  have HRst : Hid (∀ W, Grows W W → Calls Tryd.prog 18 #[] W fun e w' => e = .returned (.agg st) ∧ Grows W w') := fun W _ => by rw [← Hst.out]; exact refStart_any W
  have HCa : Hid (∀ W, Grows W0 W → Calls Tryd.prog 12 #[] W fun e w' => e = .returned (.bool true) ∧ Grows W w') := fun W hW => awake2_any W (HK.out.grows (hg0.trans hW))
  have He8 : Hid (∀ W, (Op.equalIn 10000 30 (.agg hb2) (.agg hb2)).run Tryd.prog W = .ok true W) := fun W => by
    rw [← Hhb.out]
    exact (run_equalIn_words W 9998 30 29 8 V2.list V2.list rfl rfl Tryd.arr8 Tryd.underlying29 Tryd.size32).trans (by rw [beq_self_eq_true])
  have Hes : Hid (∀ W, (Op.equalIn 10000 30 (.agg st) (.agg st)).run Tryd.prog W = .ok true W) := fun W => by
    rw [← Hst.out]
    exact (run_equalIn_words W 9998 30 29 8 shaH0 shaH0 rfl rfl Tryd.arr8 Tryd.underlying29 Tryd.size32).trans (by rw [beq_self_eq_true])
  rw [Hha.out, Hxc.out]
  have HW0' := HW0.out
  clear hb hh HK Hha Hxc HV2 Hhb Hos Hst HW0
  go_enter Tryd.func4, Tryd.ntmps4
  go_upto_region 1 with fail
  rw [← HW0', Hgx.out, Hg0.out]
  clear HW0' Hgx Hg0
  apply wp_region_mono 24 ((.is (.agg ha), []) :: (.is (.agg xc), []) :: (.is (.agg hb2), []) :: (.is (.agg ha), []) :: (.is _, []) :: (.is (.agg hb2), []) :: (.is (.bool true), []) :: (.is _, []) :: (.is (.agg ha), []) :: (.is (.agg (os.map b8).toArray), []) :: (.is (.string ⟨os.toArray⟩), []) :: (.is (.agg ha), []) :: (.pr (fun v W => ∃ A n c, v = .slice A n c ∧ SB W A n c os), []) :: (.is _, [12]) :: (.is _, []) :: (.is _, []) :: (.is _, []) :: (.is (.agg st), []) :: (.is (.agg st), []) :: (.is (.bool true), []) :: (.is _, []) :: (.is _, []) :: (.is (.bool true), []) :: (.is _, []) :: []) (by kernel_rfl) (by kernel_rfl)
  apply Mono.is0
  · kernel_rfl
  · intro W hW 
    have hB5 := HH.out.grows hW
    go_wp2_with (refine wpList_load_blk (by kernel_rfl) _ _ rfl g0 rfl 30 ha _ hB5 rfl rfl (by rw [Tryd.size8, hal.out]) ?_)
    exact ⟨rfl, rfl, Grows.refl _, rfl⟩
  intro k1 a1 hk1 ha1
  simp only [Nat.reduceAdd] at hk1
  simp only [Act.put, List.setIfInBounds_toArray, List.set_cons_succ, List.set_cons_zero] at ha1
  subst hk1 ha1
  apply Mono.is0
  · kernel_rfl
  · intro W hW 
    have hB5 := HX.out.grows hW
    go_wp2_with (refine wpList_load_blk (by kernel_rfl) _ _ rfl gx rfl 31 xc _ hB5 rfl rfl (by rw [Tryd.size64B, xcl.out]) ?_)
    exact ⟨rfl, rfl, Grows.refl _, rfl⟩
  intro k1 a1 hk1 ha1
  simp only [Nat.reduceAdd] at hk1
  simp only [Act.put, List.setIfInBounds_toArray, List.set_cons_succ, List.set_cons_zero] at ha1
  subst hk1 ha1
  apply Mono.is0
  · kernel_rfl
  · intro W hW 
    go_wp2_with fail
    refine (HCb.out W hW).mono ?_
    rintro e w1 ⟨rfl, hg1⟩
    go_wp2
    exact ⟨rfl, rfl, hg1, rfl⟩
  intro k1 a1 hk1 ha1
  simp only [Nat.reduceAdd] at hk1
  simp only [Act.put, List.setIfInBounds_toArray, List.set_cons_succ, List.set_cons_zero] at ha1
  subst hk1 ha1
  apply Mono.is0
  · kernel_rfl
  · intro W hW 
    have hB5 := HH.out.grows hW
    go_wp2_with (refine wpList_load_blk (by kernel_rfl) _ _ rfl g0 rfl 30 ha _ hB5 rfl rfl (by rw [Tryd.size8, hal.out]) ?_)
    exact ⟨rfl, rfl, Grows.refl _, rfl⟩
  intro k1 a1 hk1 ha1
  simp only [Nat.reduceAdd] at hk1
  simp only [Act.put, List.setIfInBounds_toArray, List.set_cons_succ, List.set_cons_zero] at ha1
  subst hk1 ha1
  apply Mono.is0
  · kernel_rfl
  · intro W hW
    go_wp2
    refine ⟨rfl, rfl, Grows.refl _, ?_⟩
    unfold Oper.valAt
    go_simp
    rfl
  intro k1 a1 hk1 ha1
  simp only [Nat.reduceAdd] at hk1
  simp only [Act.put, List.setIfInBounds_toArray, List.set_cons_succ, List.set_cons_zero] at ha1
  subst hk1 ha1
  apply Mono.is0
  · kernel_rfl
  · intro W hW 
    go_wp2_with fail
    refine (HRb.out W hW).mono ?_
    rintro e w1 ⟨rfl, hg1⟩
    go_wp2
    exact ⟨rfl, rfl, hg1, rfl⟩
  intro k1 a1 hk1 ha1
  simp only [Nat.reduceAdd] at hk1
  simp only [Act.put, List.setIfInBounds_toArray, List.set_cons_succ, List.set_cons_zero] at ha1
  subst hk1 ha1
  apply Mono.is0
  · kernel_rfl
  · intro W hW 
    have he1 := He8.out W
    go_wp2
    refine ⟨rfl, rfl, Grows.refl _, ?_⟩
    unfold Oper.valAt
    go_simp
  intro k1 a1 hk1 ha1
  simp only [Nat.reduceAdd] at hk1
  simp only [Act.put, List.setIfInBounds_toArray, List.set_cons_succ, List.set_cons_zero] at ha1
  subst hk1 ha1
  apply Mono.is0
  · kernel_rfl
  · intro W hW
    go_wp2
    refine ⟨rfl, rfl, Grows.refl _, ?_⟩
    unfold Oper.valAt
    go_simp
    rfl
  intro k1 a1 hk1 ha1
  simp only [Nat.reduceAdd] at hk1
  simp only [Act.put, List.setIfInBounds_toArray, List.set_cons_succ, List.set_cons_zero] at ha1
  subst hk1 ha1
  apply Mono.is0
  · kernel_rfl
  · intro W hW 
    have hB5 := HH.out.grows hW
    go_wp2_with (refine wpList_load_blk (by kernel_rfl) _ _ rfl g0 rfl 30 ha _ hB5 rfl rfl (by rw [Tryd.size8, hal.out]) ?_)
    exact ⟨rfl, rfl, Grows.refl _, rfl⟩
  intro k1 a1 hk1 ha1
  simp only [Nat.reduceAdd] at hk1
  simp only [Act.put, List.setIfInBounds_toArray, List.set_cons_succ, List.set_cons_zero] at ha1
  subst hk1 ha1
  apply Mono.is0
  · kernel_rfl
  · intro W hW 
    go_wp2_with fail
    refine (HOu.out W hW).mono ?_
    rintro e w1 ⟨rfl, hg1⟩
    go_wp2
    exact ⟨rfl, rfl, hg1, rfl⟩
  intro k1 a1 hk1 ha1
  simp only [Nat.reduceAdd] at hk1
  simp only [Act.put, List.setIfInBounds_toArray, List.set_cons_succ, List.set_cons_zero] at ha1
  subst hk1 ha1
  apply Mono.is0
  · kernel_rfl
  · intro W hW 
    go_wp2_with fail
    refine (HWh.out W (Grows.refl _)).mono ?_
    rintro e w1 ⟨rfl, hg1⟩
    go_wp2
    exact ⟨rfl, rfl, hg1, rfl⟩
  intro k1 a1 hk1 ha1
  simp only [Nat.reduceAdd] at hk1
  simp only [Act.put, List.setIfInBounds_toArray, List.set_cons_succ, List.set_cons_zero] at ha1
  subst hk1 ha1
  apply Mono.is0
  · kernel_rfl
  · intro W hW 
    have hB5 := HH.out.grows hW
    go_wp2_with (refine wpList_load_blk (by kernel_rfl) _ _ rfl g0 rfl 30 ha _ hB5 rfl rfl (by rw [Tryd.size8, hal.out]) ?_)
    exact ⟨rfl, rfl, Grows.refl _, rfl⟩
  intro k1 a1 hk1 ha1
  simp only [Nat.reduceAdd] at hk1
  simp only [Act.put, List.setIfInBounds_toArray, List.set_cons_succ, List.set_cons_zero] at ha1
  subst hk1 ha1
  apply Mono.pr0
  · kernel_rfl
  · exact fun v W W' hW ⟨A, n, c, h1, h2⟩ => ⟨A, n, c, h1, h2.grows hW⟩
  · intro W hW 
    go_wp2_with fail
    refine (HRo.out W).mono ?_
    rintro e w1 ⟨A1, n1, c1, hn1, rfl, hg1, ho1⟩
    have HS1 := lib_hid (SB.own ho1)
    clear ho1 hn1
    go_wp2
    exact ⟨rfl, rfl, hg1, A1, n1, c1, rfl, HS1.out⟩
  intro v12
  intro k1 a1 hk1 ha1
  simp only [Nat.reduceAdd] at hk1
  simp only [Act.put, List.setIfInBounds_toArray, List.set_cons_succ, List.set_cons_zero] at ha1
  subst hk1 ha1
  apply Mono.is1
  · kernel_rfl
  · intro W hW f0
    obtain ⟨A1, n1, c1, rfl, hs⟩ := f0
    have cv := run_string_SB (P := Tryd.prog) Tryd.underlying22 Tryd.underlying5 Tryd.underlying9 hs
    go_wp2
    refine ⟨rfl, rfl, Grows.refl _, ?_⟩
    unfold Oper.valAt
    go_simp
    rfl
  intro k1 a1 hk1 ha1
  simp only [Nat.reduceAdd] at hk1
  simp only [Act.put, List.setIfInBounds_toArray, List.set_cons_succ, List.set_cons_zero] at ha1
  subst hk1 ha1
  iterate 3
    apply Mono.is0
    · kernel_rfl
    · intro W hW
      go_wp2
      refine ⟨rfl, rfl, Grows.refl _, ?_⟩
      unfold Oper.valAt
      go_simp
      rfl
    intro k1 a1 hk1 ha1
    simp only [Nat.reduceAdd] at hk1
    simp only [Act.put, List.setIfInBounds_toArray, List.set_cons_succ, List.set_cons_zero] at ha1
    subst hk1 ha1
  apply Mono.is0
  · kernel_rfl
  · intro W hW 
    go_wp2_with fail
    refine (HSt.out W (Grows.refl _)).mono ?_
    rintro e w1 ⟨rfl, hg1⟩
    go_wp2
    exact ⟨rfl, rfl, hg1, rfl⟩
  intro k1 a1 hk1 ha1
  simp only [Nat.reduceAdd] at hk1
  simp only [Act.put, List.setIfInBounds_toArray, List.set_cons_succ, List.set_cons_zero] at ha1
  subst hk1 ha1
  apply Mono.is0
  · kernel_rfl
  · intro W hW 
    go_wp2_with fail
    refine (HRst.out W (Grows.refl _)).mono ?_
    rintro e w1 ⟨rfl, hg1⟩
    go_wp2
    exact ⟨rfl, rfl, hg1, rfl⟩
  intro k1 a1 hk1 ha1
  simp only [Nat.reduceAdd] at hk1
  simp only [Act.put, List.setIfInBounds_toArray, List.set_cons_succ, List.set_cons_zero] at ha1
  subst hk1 ha1
  apply Mono.is0
  · kernel_rfl
  · intro W hW 
    have he1 := Hes.out W
    go_wp2
    refine ⟨rfl, rfl, Grows.refl _, ?_⟩
    unfold Oper.valAt
    go_simp
  intro k1 a1 hk1 ha1
  simp only [Nat.reduceAdd] at hk1
  simp only [Act.put, List.setIfInBounds_toArray, List.set_cons_succ, List.set_cons_zero] at ha1
  subst hk1 ha1
  iterate 2
    apply Mono.is0
    · kernel_rfl
    · intro W hW
      go_wp2
      refine ⟨rfl, rfl, Grows.refl _, ?_⟩
      unfold Oper.valAt
      go_simp
      rfl
    intro k1 a1 hk1 ha1
    simp only [Nat.reduceAdd] at hk1
    simp only [Act.put, List.setIfInBounds_toArray, List.set_cons_succ, List.set_cons_zero] at ha1
    subst hk1 ha1
  apply Mono.is0
  · kernel_rfl
  · intro W hW 
    go_wp2_with fail
    refine (HCa.out W hW).mono ?_
    rintro e w1 ⟨rfl, hg1⟩
    go_wp2
    exact ⟨rfl, rfl, hg1, rfl⟩
  intro k1 a1 hk1 ha1
  simp only [Nat.reduceAdd] at hk1
  simp only [Act.put, List.setIfInBounds_toArray, List.set_cons_succ, List.set_cons_zero] at ha1
  subst hk1 ha1
  apply Mono.is0
  · kernel_rfl
  · intro W hW
    go_wp2
    refine ⟨rfl, rfl, Grows.refl _, ?_⟩
    unfold Oper.valAt
    go_simp
    rfl
  intro k1 a1 hk1 ha1
  simp only [Nat.reduceAdd] at hk1
  simp only [Act.put, List.setIfInBounds_toArray, List.set_cons_succ, List.set_cons_zero] at ha1
  subst hk1 ha1
  refine Mono.done ?_
  intro wm hgm
  simp only [allF, List.drop_succ_cons, List.drop_zero]
  intro g12
  go_wp2
  go_ret
  exact ⟨rfl, hg0.trans hgm⟩

end Go.Proofs.YtgknojaaimefkaaDoor
