/-
  The walk of ShaKept.
-/
import Derived.Test.YtgknojaaimefkaaDoorSha11
import Derived.Test.YtgknojaaimefkaaDoorArrEq
import Derived.Deep.Cut
import Derived.BigRegion
import Derived.RegionTactic
import Derived.Outline
namespace Go.Proofs.YtgknojaaimefkaaDoor
open Go Go.RowKit
set_option linter.unusedSimpArgs false


attribute [local irreducible] startV schedF moreW firstW blockF roundsF sumsF outF outW padS sumS shaK ShaOf
theorem Tryd.arr32K : Tryd.prog.underlying 24 = some (.array 32 5) := by kernel_rfl
set_option maxRecDepth 100000 in
set_option maxHeartbeats 4000000 in
theorem walk_ShaKept {tK : TypeId} (A : Option Addr) (n c : Nat) (bs : List UInt8) (y : UInt8) (w : World) (HK : Hid (Blk w 0 tK (shaK.map b32).toArray)) (hs : SB w A n c bs) : Calls Tryd.prog 7 #[.slice A n c, .int .u8 (y.toNat : Int)] w fun e w' => e = .returned (.bool true) ∧ Grows w w' := by
  by_cases hn : 200 < n
  · have hni : (n : Int) > 200 := by omega
    clear hs HK hn
    go_enter Tryd.func7, Tryd.ntmps7
    go_wp2
    go_ret
    exact ⟨rfl, Grows.refl _⟩
  have hni : ¬ (n : Int) > 200 := by omega
  by_cases hn0 : n = 0
  · have hz : (n : Int) = 0 := by omega
    clear hs HK hn
    go_enter Tryd.func7, Tryd.ntmps7
    go_wp2
    go_ret
    exact ⟨rfl, Grows.refl _⟩
  have hz : ((n : Int) == 0) = false := by rw [beq_eq_false_iff_ne]; omega
  by_cases hy1 : (y.toNat : Int) = 0
  · have hy0 : ((y.toNat : Int) == 0) = true := by rw [hy1]; rfl
    clear hs HK hn hn0 hy1
    go_enter Tryd.func7, Tryd.ntmps7
    go_wp2
    go_ret
    exact ⟨rfl, Grows.refl _⟩
  have hy0 : ((y.toNat : Int) == 0) = false := by rw [beq_eq_false_iff_ne]; exact hy1
  have Hn : Hid (n ≤ 200) := by unfold Hid; omega
  have HS := lib_hid hs
  have Hlen := lib_hid hs.len
  obtain ⟨ks, Hks, Hkl⟩ : ∃ ks, Hid (ks = shaK) ∧ Hid (ks.length = 64) := ⟨_, lib_hid rfl, lib_hid shaK_len⟩
  rw [← Hks.out] at HK
  obtain ⟨rs, Hrs, hrl, hra⟩ : ∃ rs : Array Value, Hid (((sumS ks bs).map b8).toArray = rs) ∧ Hid (rs.size = 32) ∧ Hid (rs.all (·.oneCell') = true) := ⟨_, lib_hid rfl, by unfold Hid; simp [sumS_len], lib_hid (cells_all _)⟩
  have HCs : Hid (Calls Tryd.prog 10 #[.slice A n c] w fun e w' => e = .returned (.agg rs) ∧ Grows w w') := by
    have h5 := shaSum_any ks A n c bs w Hkl.out HK hs (by have := Hn.out; omega)
    rw [Hrs.out] at h5
    exact h5
  have Hw0 : Hid (0 < w.heap.size) := Nat.lt_of_le_of_lt (Nat.zero_le _) HK.out.lt
  clear hs hn hn0 hy1
  go_enter Tryd.func7, Tryd.ntmps7
  go_wp2_with fail
  refine HCs.out.mono ?_
  rintro e1 w1 ⟨rfl, hg1⟩
  have Hg1 := lib_hid hg1
  have HN1 : Hid (Blk (w1.alloc (.cells #[.int .u8 0, .int .u8 0, .int .u8 0, .int .u8 0, .int .u8 0, .int .u8 0, .int .u8 0, .int .u8 0, .int .u8 0, .int .u8 0, .int .u8 0, .int .u8 0, .int .u8 0, .int .u8 0, .int .u8 0, .int .u8 0, .int .u8 0, .int .u8 0, .int .u8 0, .int .u8 0, .int .u8 0, .int .u8 0, .int .u8 0, .int .u8 0, .int .u8 0, .int .u8 0, .int .u8 0, .int .u8 0, .int .u8 0, .int .u8 0, .int .u8 0, .int .u8 0] 24)) w1.heap.size 24 #[.int .u8 0, .int .u8 0, .int .u8 0, .int .u8 0, .int .u8 0, .int .u8 0, .int .u8 0, .int .u8 0, .int .u8 0, .int .u8 0, .int .u8 0, .int .u8 0, .int .u8 0, .int .u8 0, .int .u8 0, .int .u8 0, .int .u8 0, .int .u8 0, .int .u8 0, .int .u8 0, .int .u8 0, .int .u8 0, .int .u8 0, .int .u8 0, .int .u8 0, .int .u8 0, .int .u8 0, .int .u8 0, .int .u8 0, .int .u8 0, .int .u8 0, .int .u8 0]) := Blk.new _ _ _
  clear hg1 HCs hni hz hy0
  go_upto_region 4 with (refine wpList_store_blk rfl _ _ _ rfl w1.heap.size rs rfl rfl 24 _ HN1.out (by rw [Tryd.size32B, hrl.out]) (by rw [hrl.out]; rfl) hra.out w1.heap.size w1 ((Grows.refl w1).alloc _) (Nat.le_refl _) ?_; intro w2 H2 hb2 hg2)
  obtain ⟨g5, Hg5⟩ : ∃ x, Hid (w1.heap.size = x) := ⟨_, lib_hid rfl⟩
  have HR : Hid (Blk w2 g5 24 rs) := by rw [← Hg5.out]; exact H2
  rw [Hg5.out]
  have Hg2 : Hid (Grows w w2) := Hg1.out.trans hb2
  have HE : Hid ((w2.alloc (.cells #[] 5)).ownsRow w2.heap.size 5 1 (.slice (some ⟨w2.heap.size, 0, none⟩) 0 0) 0 []) := World.ownsRow_lit (base := w2.heap.size) (e := 5) (size := 1) w2 #[] 0 (Nat.le_refl _) (by unfold maxLen; omega) rfl
  have hrE : Hid (SB (w2.alloc (.cells #[] 5)) A n c bs) := (HS.out.grows Hg2.out).grows ((Grows.refl w2).alloc _)
  clear H2 hb2 hg2 HN1 Hg1 Hg5
  go_upto_region 5 with (at_builtin; refine wpList_append rfl _ _ 22 rfl w2.heap.size 5 (.int .u8 0) 1 Tryd.underlying22 Tryd.infoByte rfl _ 0 [] rfl HE.out A n c (bs.map b8) rfl hrE.out (b8_one bs) (by have := Hn.out; omega) (by omega) (by simp) ?_; intro A3 c3 w3 ho3 hb3 hg3)
  have Hg23 : Hid (Grows w2 w3) := Below.trans ((Grows.refl w2).alloc _) hb3
  have Hg3 : Hid (Grows w w3) := Hg2.out.trans Hg23.out
  have HO3 : Hid (OwnAt w3 w2.heap.size A3 n c3 (bs.map b8)) := by rw [Nat.zero_add, List.nil_append] at ho3; exact OwnAt.of_own ho3
  have HR3 := lib_hid (HR.out.grows Hg23.out)
  obtain ⟨B2, HB2, HgB, Hwb⟩ : ∃ x, Hid (w2.heap.size = x) ∧ Hid (g5 < x) ∧ Hid (w.heap.size ≤ x) := ⟨_, lib_hid rfl, HR.out.lt, Hg2.out.le⟩
  rw [HB2.out] at HO3
  have HB3 : Hid (B2 ≤ w3.heap.size) := by rw [← HB2.out]; exact Hg23.out.le
  clear ho3 hb3 hg3 hrE HE Hg23 HR Hg2 HB2
  go_wp2_with fail
  refine (shaNew_of ks w3).mono ?_
  rintro e4 w4 ⟨gt, rfl, hg4, hgt, hP4⟩
  have HP4 := lib_hid (hP4 w3.heap.size hgt)
  have Hg34 := lib_hid hg4
  have Hgt := lib_hid hgt
  have Hw3 : Hid (0 < w3.heap.size) := Nat.lt_of_lt_of_le Hw0.out Hg3.out.le
  have HA3 : Hid (∀ p, A3 = some p → B2 ≤ p.block ∧ p.block < w3.heap.size) := fun p hp => ⟨HO3.out.base_le p hp, HO3.out.lt p hp⟩
  have HO4 := lib_hid (HO3.out.grows hg4)
  have HR4 := lib_hid (HR3.out.grows hg4)
  have Hwr := lib_hid (shaWrite_of ks gt w3.heap.size none [] bs A3 n c3 w4 Hkl.out (HK.out.grows (Hg3.out.trans hg4)) HP4.out HO4.out.row (fun _ p hp => by have := (HA3.out p hp).2; omega) hg4.le Hw3.out (by simp) (by have := Hn.out; omega))
  clear hg4 hgt hP4 HP4 HO3 HR3
  go_wp2_with fail
  refine Hwr.out.mono ?_
  rintro e5 w5 ⟨rfl, rb, hP5, hK5, hl5⟩
  rw [List.nil_append] at hP5
  have hg5 : Grows w3 w5 := Keeps.grows' hK5 Hg34.out (fun i hi => by
    rcases hi with h | h
    · rw [h]; exact Hgt.out
    · cases h)
  have hna : Hid (∀ p, A3 = some p → ¬ (p.block = gt ∨ (none : Option Nat) = some p.block)) := fun p hp h => by
    rcases h with h | h
    · have := (HA3.out p hp).2; have := Hgt.out; omega
    · cases h
  have HO5 := lib_hid (HO4.out.keeps hK5 hna.out)
  have hng : ¬ (g5 = gt ∨ (none : Option Nat) = some g5) := fun h => by
    rcases h with h | h
    · have := Hgt.out; have := HgB.out; have := HB3.out; omega
    · cases h
  have HR5 := lib_hid (HR4.out.keeps hK5 hng)
  have HP5 := lib_hid hP5
  have Hg5 : Hid (Grows w w5) := Hg3.out.trans hg5
  have Hrb : Hid (∀ k, rb = some k → w3.heap.size ≤ k) := fun k hk => by
    rcases hl5 with h | ⟨k', h, hle⟩
    · rw [h] at hk; cases hk
    · rw [hk] at h; cases h; exact Nat.le_trans Hg34.out.le hle
  have HgtB : Hid (B2 ≤ gt ∨ True) := Or.inr trivial
  have HC3 : Hid (c3 ≤ maxLen) := HO5.out.2.2.1
  clear hP5 hK5 hl5 hg5 Hg34 HO4 HR4 Hwr hna hng HgtB
  go_wp2
  go_loopw [8] (fun v wr => ∃ (i : Nat) (xs : List UInt8), i ≤ n ∧ v = .int .i64 (i : Int) ∧ Hid (Grows w wr) ∧ Hid (OwnAt wr B2 A3 n c3 (xs.map b8)) ∧ Hid (Blk wr g5 24 rs) ∧ Hid (ShaOf ks wr w3.heap.size gt rb bs)) (fun v _ => n - (intOf v).toNat)
  case atStart => exact ⟨0, bs, by omega, rfl, Hg5, HO5, HR5, HP5⟩
  case round =>
    clear Hg5 HO5 HR5 HP5
    obtain ⟨i, xs, hin, rfl, Hgr, HO, HR, HP⟩ := hrel
    by_cases hlt : i < n
    · have hki : (i : Int) < n := by omega
      obtain ⟨g, off, eA, hbg, hgl, hcell, hfrz, hset⟩ := HO.out.stored2 (k := i) hlt
      have hxl : xs.length = n := by have := HO.out.1; simpa using this
      obtain ⟨x, hx⟩ : ∃ x, xs[i]? = some x := ⟨_, List.getElem?_eq_getElem (by omega)⟩
      have cx : wr.cell? ⟨g, off + i, none⟩ = some (.int .u8 (x.toNat : Int)) := by rw [hcell, List.getElem?_map, hx]; rfl
      obtain ⟨z, Hz, hz1⟩ : ∃ z : UInt8, Hid (x ^^^ y = z) ∧ bits .xor .u8 (x.toNat : Int) (y.toNat : Int) = (z.toNat : Int) := ⟨_, lib_hid rfl, u8_xor x y⟩
      have HO2 : Hid (OwnAt (wr.setCell ⟨g, off + i, none⟩ (.int .u8 (z.toNat : Int))) B2 A3 n c3 ((xs.set i z).map b8)) := by
        have := hset (b8 z); rw [List.map_set]; exact this
      have hA := HA3.out _ eA
      have HR2 : Hid (Blk (wr.setCell ⟨g, off + i, none⟩ (.int .u8 (z.toNat : Int))) g5 24 rs) := HR.out.far (p := ⟨g, off + i, none⟩) (by have := HgB.out; simp only at hA; show g5 ≠ g; omega) _
      have HP2 : Hid (ShaOf ks (wr.setCell ⟨g, off + i, none⟩ (.int .u8 (z.toNat : Int))) w3.heap.size gt rb bs) := HP.out.keeps (keeps_set wr ⟨g, off + i, none⟩ _) (fun h => by have := Hgt.out; simp only at hA h; omega) (fun k hk h => by have := Hrb.out k hk; simp only at hA h; omega)
      have Hg2 : Hid (Grows w (wr.setCell ⟨g, off + i, none⟩ (.int .u8 (z.toNat : Int)))) := Hgr.out.setCell (p := ⟨g, off + i, none⟩) (by simp only at hA; have := Hwb.out; show w.heap.size ≤ g; omega) _
      have HA3' := HA3
      clear hset hcell hA HO HR HP Hgr hx hxl
      subst eA
      have hin2 : (n : Int) ≤ 200 := by have := Hn.out; omega
      have hcn : n ≤ c3 := HO2.out.2.1
      go_wp2
      go_roundw
      case rel => exact ⟨i + 1, xs.set i z, by omega, by go_num, Hg2, HO2, HR2, HP2⟩
      case measure => simp [intOf]; omega
    · have hki : ¬ (i : Int) < n := by omega
      clear hlt
      have HSm : Hid (∀ W, Grows wr W → Calls Tryd.prog 23 #[.pointer (some ⟨gt, 0, none⟩)] W fun e w' => e = .returned (.agg rs) ∧ Grows W w') := fun W hW => by
        have h5 := shaSum_of ks gt w3.heap.size rb bs W Hkl.out (HK.out.grows (Hgr.out.trans hW)) (HP.out.grows hW) (by rw [Hlen.out]; have := Hn.out; omega)
        rw [Hrs.out] at h5
        exact h5
      have HCa : Hid (∀ W, Grows wr W → Calls Tryd.prog 12 #[] W fun e w' => e = .returned (.bool true) ∧ Grows W w') := fun W hW => awake2_any W (by have h5 := HK.out.grows (Hgr.out.trans hW); rw [Hks.out] at h5; exact h5)
      have he : Hid (∀ W, (Op.equalIn 10000 24 (.agg rs) (.agg rs)).run Tryd.prog W = .ok true W) := fun W => by
        rw [← Hrs.out]
        exact (run_equalIn_bytes W 9998 24 5 32 _ _ (sumS_len _ _) (sumS_len _ _) Tryd.arr32K Tryd.underlying5 Tryd.sizeByte).trans (by rw [beq_self_eq_true])
      clear HO HP HS HK Hks Hkl Hrs HA3 Hrb HgB HC3 Hgt Hw3 Hlen hin
      go_upto_region 11 with fail
      clear hki
      apply wp_region_mono 13 ((.is _, []) :: (.is (.agg rs), []) :: (.is (.agg rs), []) :: (.is (.bool true), []) :: (.is _, []) :: (.is _, []) :: (.is (.agg rs), []) :: (.is (.agg rs), []) :: (.is (.bool true), []) :: (.is _, []) :: (.is _, []) :: (.is (.bool true), []) :: (.is _, []) :: []) (by kernel_rfl) (by kernel_rfl)
      apply Mono.is0
      · kernel_rfl
      · intro W hW
        go_wp2
        refine ⟨rfl, rfl, Grows.refl _, ?_⟩
        unfold Oper.valAt
        go_simp
        rfl
      intro k1 a1 hk1 ha1
      simp only [Nat.reduceAdd] at hk1
      simp only [Act.put, List.setIfInBounds_toArray, List.set_cons_succ, List.set_cons_zero] at ha1
      subst hk1 ha1
      apply Mono.is0
      · kernel_rfl
      · intro W hW 
        go_wp2_with fail
        refine (HSm.out W hW).mono ?_
        rintro e w1 ⟨rfl, hg1⟩
        go_wp2
        exact ⟨rfl, rfl, hg1, rfl⟩
      intro k1 a1 hk1 ha1
      simp only [Nat.reduceAdd] at hk1
      simp only [Act.put, List.setIfInBounds_toArray, List.set_cons_succ, List.set_cons_zero] at ha1
      subst hk1 ha1
      apply Mono.is0
      · kernel_rfl
      · intro W hW 
        have hB5 := HR.out.grows hW
        go_wp2_with (refine wpList_load_blk (by kernel_rfl) _ _ rfl g5 rfl 24 rs _ hB5 Tryd.underlying24 rfl (by rw [Tryd.size32B, hrl.out]) ?_)
        exact ⟨rfl, rfl, Grows.refl _, rfl⟩
      intro k1 a1 hk1 ha1
      simp only [Nat.reduceAdd] at hk1
      simp only [Act.put, List.setIfInBounds_toArray, List.set_cons_succ, List.set_cons_zero] at ha1
      subst hk1 ha1
      apply Mono.is0
      · kernel_rfl
      · intro W hW 
        have he1 := he.out W
        go_wp2
        refine ⟨rfl, rfl, Grows.refl _, ?_⟩
        unfold Oper.valAt
        go_simp
      intro k1 a1 hk1 ha1
      simp only [Nat.reduceAdd] at hk1
      simp only [Act.put, List.setIfInBounds_toArray, List.set_cons_succ, List.set_cons_zero] at ha1
      subst hk1 ha1
      iterate 2
        apply Mono.is0
        · kernel_rfl
        · intro W hW
          go_wp2
          refine ⟨rfl, rfl, Grows.refl _, ?_⟩
          unfold Oper.valAt
          go_simp
          rfl
        intro k1 a1 hk1 ha1
        simp only [Nat.reduceAdd] at hk1
        simp only [Act.put, List.setIfInBounds_toArray, List.set_cons_succ, List.set_cons_zero] at ha1
        subst hk1 ha1
      apply Mono.is0
      · kernel_rfl
      · intro W hW 
        go_wp2_with fail
        refine (HSm.out W hW).mono ?_
        rintro e w1 ⟨rfl, hg1⟩
        go_wp2
        exact ⟨rfl, rfl, hg1, rfl⟩
      intro k1 a1 hk1 ha1
      simp only [Nat.reduceAdd] at hk1
      simp only [Act.put, List.setIfInBounds_toArray, List.set_cons_succ, List.set_cons_zero] at ha1
      subst hk1 ha1
      apply Mono.is0
      · kernel_rfl
      · intro W hW 
        have hB5 := HR.out.grows hW
        go_wp2_with (refine wpList_load_blk (by kernel_rfl) _ _ rfl g5 rfl 24 rs _ hB5 Tryd.underlying24 rfl (by rw [Tryd.size32B, hrl.out]) ?_)
        exact ⟨rfl, rfl, Grows.refl _, rfl⟩
      intro k1 a1 hk1 ha1
      simp only [Nat.reduceAdd] at hk1
      simp only [Act.put, List.setIfInBounds_toArray, List.set_cons_succ, List.set_cons_zero] at ha1
      subst hk1 ha1
      apply Mono.is0
      · kernel_rfl
      · intro W hW 
        have he1 := he.out W
        go_wp2
        refine ⟨rfl, rfl, Grows.refl _, ?_⟩
        unfold Oper.valAt
        go_simp
      intro k1 a1 hk1 ha1
      simp only [Nat.reduceAdd] at hk1
      simp only [Act.put, List.setIfInBounds_toArray, List.set_cons_succ, List.set_cons_zero] at ha1
      subst hk1 ha1
      iterate 2
        apply Mono.is0
        · kernel_rfl
        · intro W hW
          go_wp2
          refine ⟨rfl, rfl, Grows.refl _, ?_⟩
          unfold Oper.valAt
          go_simp
          rfl
        intro k1 a1 hk1 ha1
        simp only [Nat.reduceAdd] at hk1
        simp only [Act.put, List.setIfInBounds_toArray, List.set_cons_succ, List.set_cons_zero] at ha1
        subst hk1 ha1
      apply Mono.is0
      · kernel_rfl
      · intro W hW 
        go_wp2_with fail
        refine (HCa.out W hW).mono ?_
        rintro e w1 ⟨rfl, hg1⟩
        go_wp2
        exact ⟨rfl, rfl, hg1, rfl⟩
      intro k1 a1 hk1 ha1
      simp only [Nat.reduceAdd] at hk1
      simp only [Act.put, List.setIfInBounds_toArray, List.set_cons_succ, List.set_cons_zero] at ha1
      subst hk1 ha1
      apply Mono.is0
      · kernel_rfl
      · intro W hW
        go_wp2
        refine ⟨rfl, rfl, Grows.refl _, ?_⟩
        unfold Oper.valAt
        go_simp
        rfl
      intro k1 a1 hk1 ha1
      simp only [Nat.reduceAdd] at hk1
      simp only [Act.put, List.setIfInBounds_toArray, List.set_cons_succ, List.set_cons_zero] at ha1
      subst hk1 ha1
      refine Mono.done ?_
      intro wm hgm
      simp only [allF, List.drop_succ_cons, List.drop_zero]
      go_wp2
      go_ret
      exact ⟨rfl, Hgr.out.trans hgm⟩

end Go.Proofs.YtgknojaaimefkaaDoor
