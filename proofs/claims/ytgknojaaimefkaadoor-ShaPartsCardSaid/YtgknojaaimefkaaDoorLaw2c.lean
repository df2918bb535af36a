/-
  The walk of ShaParts.
-/
import Derived.Test.YtgknojaaimefkaaDoorSha11
import Derived.Test.YtgknojaaimefkaaDoorArrEq
import Derived.Test.YtgknojaaimefkaaDoorOpenRows
import Derived.Deep.Cut
import Derived.BigRegion
import Derived.RegionTactic
import Derived.Outline
namespace Go.Proofs.YtgknojaaimefkaaDoor
open Go Go.RowKit
set_option linter.unusedSimpArgs false


attribute [local irreducible] startV schedF moreW firstW blockF roundsF sumsF outF outW padS sumS shaK ShaOf
theorem Tryd.arr32P : Tryd.prog.underlying 24 = some (.array 32 5) := by kernel_rfl
def preS (ls : List (List UInt8)) (i : Nat) : List UInt8 := (ls.take i).flatten
theorem preS_succ (ls : List (List UInt8)) (i : Nat) (h : i < ls.length) : preS ls (i + 1) = preS ls i ++ ls.getD i [] := by
  unfold preS
  rw [List.take_succ_eq_append_getElem h, List.flatten_append, List.getD_eq_getElem?_getD, List.getElem?_eq_getElem h]
  simp
set_option maxRecDepth 100000 in
set_option maxHeartbeats 4000000 in
theorem walk_ShaParts {tK : TypeId} (A : Option Addr) (l c : Nat) (ls : List (List UInt8)) (w : World) (HK : Hid (Blk w 0 tK (shaK.map b32).toArray)) (hs : RowsB w A l c ls) :
    Calls Tryd.prog 8 #[.slice A l c] w fun e w' => e = .returned (.bool true) ∧ Grows w w' := by
  have hlen := lib_hid hs.1
  have hlc := hs.2.1
  by_cases hbig : 20 < l
  · have h1 : (l : Int) > 20 := by omega
    clear hs HK
    go_enter Tryd.func8, Tryd.ntmps8
    go_wp2
    go_ret
    exact ⟨rfl, Grows.refl w⟩
  · have h1 : ¬ (l : Int) > 20 := by omega
    have HS0 := lib_hid hs
    obtain ⟨ks, Hks, Hkl⟩ : ∃ ks, Hid (ks = shaK) ∧ Hid (ks.length = 64) := ⟨_, lib_hid rfl, lib_hid shaK_len⟩
    rw [← Hks.out] at HK
    have Hw0 : Hid (0 < w.heap.size) := Nat.lt_of_le_of_lt (Nat.zero_le _) HK.out.lt
    have HCa0 : Hid (∀ W, Grows w W → Calls Tryd.prog 12 #[] W fun e w' => e = .returned (.bool true) ∧ Grows W w') := fun W hW => awake2_any W (by have h5 := HK.out.grows hW; rw [Hks.out] at h5; exact h5)
    obtain ⟨z0, Hz0⟩ : ∃ z : Array Value, Hid (((sumS ks []).map b8).toArray = z) := ⟨_, lib_hid rfl⟩
    clear hs Hks
    go_enter Tryd.func8, Tryd.ntmps8
    go_wp2_with fail
    refine (shaNew_of ks w).mono ?_
    rintro e w1 ⟨g, rfl, hg1, hgb, hP1⟩
    have HP1 := lib_hid (hP1 w.heap.size hgb)
    clear hP1
    go_wp2_with fail
    go_loopw [4, 5] (fun v iv wr => ∃ (i n ce : Nat) (C : Option Addr) (rb : Option Nat), i ≤ l ∧ iv = .int .i64 (i : Int) ∧ v = .slice C n ce ∧ n ≤ 200 * i ∧ Grows w wr ∧ Hid (n = (preS ls i).length) ∧ Hid (OwnAt wr w.heap.size C n ce ((preS ls i).map b8)) ∧ Hid (ShaOf ks wr w.heap.size g rb (preS ls i)) ∧ Hid (blkOf C ≠ some g) ∧ Hid (∀ b, blkOf C = some b → rb ≠ some b)) (fun _ iv _ => l - (intOf iv).toNat)
    case atStart => exact ⟨0, 0, 0, none, none, by omega, rfl, rfl, by omega, hg1, lib_hid rfl, OwnAt.nil _ _, HP1, lib_hid (fun h => by cases h), lib_hid (fun b h => by cases h)⟩
    case round =>
      obtain ⟨i, n, ce, C, rb, hi, rfl, rfl, hn, hgr, Hn, HO, HP, Hne, Hrb⟩ := hrel
      by_cases hlt : i < l
      · have hki : (i : Int) < l := by omega
        obtain ⟨row, Hrow⟩ : ∃ x, Hid (ls.getD i [] = x) := ⟨_, lib_hid rfl⟩
        obtain ⟨bA, oA, rfl, hbA, hcA⟩ := HS0.out.2.2.2.2 (by omega)
        obtain ⟨Ai, ci, hc1, hc2⟩ := hcA i hlt
        rw [Hrow.out] at hc1 hc2
        obtain ⟨m, Hm⟩ : ∃ m, Hid (row.length = m) := ⟨_, lib_hid rfl⟩
        rw [Hm.out] at hc1 hc2
        have HSi : Hid (SB w Ai m ci row) := hc2
        have HCi : Hid (∀ W, Grows w W → W.cell? ⟨bA, oA + i, none⟩ = some (.slice Ai m ci)) := fun W hW => (hW.cell (p := ⟨bA, oA + i, none⟩) hbA).trans hc1
        clear hc1 hc2 hcA
        have q1 := HCi.out wr hgr
        by_cases hbg : 200 < m
        · have h100 : (m : Int) > 200 := by omega
          clear HP1
          go_wp2
          go_ret
          exact ⟨rfl, hgr⟩
        · have h100 : ¬ (m : Int) > 200 := by omega
          obtain ⟨nx, Hnx⟩ : ∃ x, Hid (preS ls i ++ row = x) := ⟨_, lib_hid rfl⟩
          have Hsucc : Hid (preS ls (i + 1) = nx) := by unfold Hid; rw [preS_succ ls i (by rw [hlen.out]; exact hlt), Hrow.out, Hnx.out]
          have hle := hgr.le
          have hPlt := HP.out.lt
          have hPrb := HP.out.rest
          have hrowg : Hid (0 < m → ∀ p, Ai = some p → p.block ≠ g) := fun h0 p hp => by
            obtain ⟨b', off', e', hb', _⟩ := HSi.out.2.2.2.2 h0
            rw [hp] at e'; cases e'
            show b' ≠ g
            omega
          clear HP1
          have Hwr := lib_hid (shaWrite_of ks g w.heap.size rb (preS ls i) row Ai m ci wr Hkl.out (HK.out.grows hgr) HP.out (HSi.out.grows hgr) hrowg.out hle Hw0.out (by rw [← Hn.out]; omega) (by omega))
          go_wp2_with fail
          refine Hwr.out.mono ?_
          rintro e w2 ⟨rfl, rb2, hP2, hK2, hloc2⟩
          rw [Hnx.out] at hP2
          have HP2 := lib_hid hP2
          have HO2 : Hid (OwnAt w2 w.heap.size C n ce ((preS ls i).map b8)) := HO.out.keeps hK2 (fun p hp e => by
            have hb : blkOf C = some p.block := by rw [hp]; rfl
            rcases e with e | e
            · exact Hne.out (by rw [hb, e])
            · exact Hrb.out p.block hb e)
          have hb2 : Below w.heap.size wr w2 := hK2.below hle (fun k hk => by
            rcases hk with e | e
            · rw [e]; exact hgb
            · exact (hPrb k e).1)
          have hgr2 : Grows w w2 := Below.trans hgr hb2
          have hrb2 : Hid (∀ b, blkOf C = some b → rb2 ≠ some b) := fun b hb e => by
            rcases hloc2 with h | ⟨k, h, hk⟩
            · exact Hrb.out b hb (by rw [← h]; exact e)
            · rw [h] at e
              have := Option.some.inj e
              obtain ⟨p, hp, hpb⟩ := Option.map_eq_some_iff.1 hb
              have := HO.out.lt p hp
              omega
          have hP2lt := HP2.out.lt
          have hP2rb := HP2.out.rest
          have q2 := HCi.out w2 hgr2
          have hle2 := hgr2.le
          clear hP2 hK2 hloc2 hb2 HO HP Hrb hPlt hPrb q1 Hwr hrowg
          go_upto_region 12 with (at_builtin; refine wpList_append_at rfl _ _ 22 22 rfl w.heap.size 5 (.int .u8 0) 1 Tryd.underlying22 Tryd.infoByte rfl C n ce _ rfl HO2.out (.slice Ai m ci) rfl m _ ((HSi.out.grows hgr2).src Tryd.underlying22 (b8_one _)) (by omega) (by omega) hle2 ?_; intro C3 c3 w3 hO3 hG3 hloc3)
          rw [← List.map_append, Hnx.out] at hO3
          obtain ⟨n3, Hn3, hn3⟩ : ∃ x, Hid (n + m = x) ∧ x ≤ 200 * (i + 1) := ⟨_, lib_hid rfl, by omega⟩
          rw [Hn3.out] at hO3 ⊢
          have Hn3' : Hid (n3 = nx.length) := by unfold Hid; rw [← Hn3.out, ← Hnx.out, List.length_append, Hn.out, Hm.out]
          have HO3 := lib_hid hO3
          have hk3 := keeps_grown hG3
          have HP3 : Hid (ShaOf ks w3 w.heap.size g rb2 nx) := HP2.out.keeps hk3 (fun e => Hne.out e) (fun b hb e => hrb2.out b e hb)
          have hgr3 : Grows w w3 := hgr2.grown hG3 (fun k e => by obtain ⟨p, hp, hpb⟩ := Option.map_eq_some_iff.1 e; have := HO2.out.base_le p hp; omega)
          have Hne3 : Hid (blkOf C3 ≠ some g) := fun e => by
            rcases hloc3 with h | h
            · exact Hne.out (by rw [← h]; exact e)
            · rw [h] at e; have := Option.some.inj e; omega
          have Hrb3 : Hid (∀ b, blkOf C3 = some b → rb2 ≠ some b) := fun b hb e => by
            rcases hloc3 with h | h
            · exact hrb2.out b (by rw [← h]; exact hb) e
            · rw [h] at hb
              have h5 := Option.some.inj hb
              have h6 := (hP2rb b e).2
              omega
          obtain ⟨v, Hv⟩ : ∃ x : Array Value, Hid (((sumS ks nx).map b8).toArray = x) := ⟨_, lib_hid rfl⟩
          have HsS : Hid (∀ W, Grows w3 W → Calls Tryd.prog 23 #[.pointer (some ⟨g, 0, none⟩)] W fun e w' => e = .returned (.agg v) ∧ Grows W w') := fun W hW => by
            rw [← Hv.out]; exact shaSum_of ks g w.heap.size rb2 nx W Hkl.out (HK.out.grows (hgr3.trans hW)) (HP3.out.grows hW) (by rw [← Hn3'.out]; omega)
          have HsP : Hid (∀ W, Grows w3 W → Calls Tryd.prog 10 #[.slice C3 n3 c3] W fun e w' => e = .returned (.agg v) ∧ Grows W w') := fun W hW => by
            rw [← Hv.out]; exact shaSum_any ks C3 n3 c3 nx W Hkl.out (HK.out.grows (hgr3.trans hW)) ((show SB w3 C3 n3 c3 nx from HO3.out.row).grows hW) (by omega)
          have HsL : Hid (∀ W, Grows w3 W → Calls Tryd.prog 24 #[.pointer (some ⟨g, 0, none⟩)] W fun e w' => e = .returned (.int .i64 (n3 : Int)) ∧ W = w') := fun W hW => by
            have h5 := shaLen_of (HP3.out.grows hW)
            rw [← Hn3'.out] at h5
            exact h5
          have He : Hid (∀ W, (Op.equalIn 10000 24 (.agg v) (.agg v)).run Tryd.prog W = .ok true W) := fun W => by
            rw [← Hv.out]
            exact (run_equalIn_bytes W 9998 24 5 32 _ _ (sumS_len _ _) (sumS_len _ _) Tryd.arr32P Tryd.underlying5 Tryd.sizeByte).trans (by rw [beq_self_eq_true])
          clear hO3 hG3 hloc3 hk3 q2 hP2lt hP2rb HP2 HO2 hrb2 hgr2
          go_wp2_with fail
          refine (HsS.out w3 (Grows.refl _)).mono ?_
          rintro e w4 ⟨rfl, hg4⟩
          go_wp2_with fail
          refine (HsP.out w4 hg4).mono ?_
          rintro e w5 ⟨rfl, hg5⟩
          have hgm := hg4.trans hg5
          have he1 := He.out w5
          go_wp2_with fail
          refine (HsL.out w5 hgm).mono ?_
          rintro e w6 ⟨rfl, rfl⟩
          have hgr4 := hgr3.trans hgm
          have HO4 := lib_hid (HO3.out.grows hgm)
          have HP4 := lib_hid (HP3.out.grows hgm)
          clear HsS HsP hgm HO3 HP3 HsL He hg4 hg5 he1
          go_wp2
          go_roundw
          case rel => exact ⟨i + 1, n3, c3, C3, rb2, by omega, by go_num, rfl, hn3, hgr4, by unfold Hid; rw [Hsucc.out]; exact Hn3'.out, by unfold Hid; rw [Hsucc.out]; exact HO4.out, by unfold Hid; rw [Hsucc.out]; exact HP4.out, Hne3, Hrb3⟩
          case measure => simp [intOf]; omega
      · have hki : ¬ (i : Int) < l := by omega
        obtain ⟨v, Hv⟩ : ∃ x : Array Value, Hid (((sumS ks (preS ls i)).map b8).toArray = x) := ⟨_, lib_hid rfl⟩
        clear HP1
        go_wp2_with fail
        refine (writeNil_any _ _).mono ?_
        rintro e w2 ⟨rfl, rfl⟩
        go_upto_region 16 with fail
        obtain ⟨w3, HW3⟩ : ∃ X : World, Hid (X = wr.alloc (.cells #[.int .u8 1] 5)) := ⟨_, lib_hid rfl⟩
        rw [← HW3.out]
        have hg3 : Grows wr w3 := by rw [HW3.out]; exact (Grows.refl _).alloc _
        have hgw3 := hgr.trans hg3
        have HsS : Hid (∀ W, Grows w3 W → Calls Tryd.prog 23 #[.pointer (some ⟨g, 0, none⟩)] W fun e w' => e = .returned (.agg v) ∧ Grows W w') := fun W hW => by
          rw [← Hv.out]; exact shaSum_of ks g w.heap.size rb (preS ls i) W Hkl.out (HK.out.grows (hgw3.trans hW)) (HP.out.grows (hg3.trans hW)) (by rw [← Hn.out]; omega)
        have HsP : Hid (∀ W, Grows w3 W → Calls Tryd.prog 10 #[.slice C n ce] W fun e w' => e = .returned (.agg v) ∧ Grows W w') := fun W hW => by
          rw [← Hv.out]; exact shaSum_any ks C n ce (preS ls i) W Hkl.out (HK.out.grows (hgw3.trans hW)) ((show SB wr C n ce (preS ls i) from HO.out.row).grows (hg3.trans hW)) (by omega)
        have HsN : Hid (∀ W, Grows w3 W → Calls Tryd.prog 23 #[.pointer none] W fun e w' => e = .returned (.agg z0) ∧ Grows W w') := fun W hW => by
          rw [← Hz0.out]; exact shaSumNil_of ks W Hkl.out (HK.out.grows (hgw3.trans hW))
        have HsZ : Hid (∀ W, Grows w3 W → Calls Tryd.prog 10 #[.slice none 0 0] W fun e w' => e = .returned (.agg z0) ∧ Grows W w') := fun W hW => by
          rw [← Hz0.out]; exact shaSum_any ks none 0 0 [] W Hkl.out (HK.out.grows (hgw3.trans hW)) (SB.nil W) (by omega)
        have HsLN : Hid (∀ W, Grows w3 W → Calls Tryd.prog 24 #[.pointer none] W fun e w' => e = .returned (.int .i64 0) ∧ W = w') := fun W _ => lenNil_any W
        have HCa : Hid (∀ W, Grows w3 W → Calls Tryd.prog 12 #[] W fun e w' => e = .returned (.bool true) ∧ Grows W w') := fun W hW => HCa0.out W (hgw3.trans hW)
        have He : Hid (∀ W, (Op.equalIn 10000 24 (.agg v) (.agg v)).run Tryd.prog W = .ok true W) := fun W => by
          rw [← Hv.out]
          exact (run_equalIn_bytes W 9998 24 5 32 _ _ (sumS_len _ _) (sumS_len _ _) Tryd.arr32P Tryd.underlying5 Tryd.sizeByte).trans (by rw [beq_self_eq_true])
        have Hez : Hid (∀ W, (Op.equalIn 10000 24 (.agg z0) (.agg z0)).run Tryd.prog W = .ok true W) := fun W => by
          rw [← Hz0.out]
          exact (run_equalIn_bytes W 9998 24 5 32 _ _ (sumS_len _ _) (sumS_len _ _) Tryd.arr32P Tryd.underlying5 Tryd.sizeByte).trans (by rw [beq_self_eq_true])
        clear HO HP hg3 Hv Hz0 HK HCa0
        go_wp2_with fail
        refine (HsS.out w3 (Grows.refl _)).mono ?_
        rintro e w4 ⟨rfl, hg4⟩
        go_wp2_with fail
        refine (HsP.out w4 hg4).mono ?_
        rintro e w5 ⟨rfl, hg5⟩
        have hg45 := hg4.trans hg5
        have he1 := He.out w5
        go_wp2_with fail
        refine (HsN.out w5 hg45).mono ?_
        rintro e w6 ⟨rfl, hg6⟩
        have hg46 := hg45.trans hg6
        clear he1
        go_wp2_with fail
        refine (HsZ.out w6 hg46).mono ?_
        rintro e w7 ⟨rfl, hg7⟩
        have hg47 := hg46.trans hg7
        have he2 := Hez.out w7
        go_wp2_with fail
        refine (HsLN.out w7 hg47).mono ?_
        rintro e w8 ⟨rfl, rfl⟩
        go_wp2_with fail
        refine (HCa.out w7 hg47).mono ?_
        rintro e w9 ⟨rfl, hg9⟩
        have hgm := hg47.trans hg9
        go_wp2
        go_ret
        exact ⟨rfl, hgw3.trans hgm⟩

end Go.Proofs.YtgknojaaimefkaaDoor
