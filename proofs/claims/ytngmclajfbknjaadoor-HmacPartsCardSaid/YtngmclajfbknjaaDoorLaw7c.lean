/-
  The walk of HmacParts.
-/
import Derived.Test.YtngmclajfbknjaaDoorLaw7b
import Derived.Test.YtngmclajfbknjaaDoorOpenRows
import Derived.Deep.Cut
import Derived.BigRegion
import Derived.RegionTactic
import Derived.Outline
namespace Go.Proofs.YtngmclajfbknjaaDoor
open Go Go.RowKit
set_option linter.unusedSimpArgs false
set_option linter.unusedVariables false


attribute [local irreducible] startV schedF moreW firstW blockF roundsF sumsF outF outW padS sumS shaK ShaOf HC keyB hmF xorK
def preH (ls : List (List UInt8)) (i : Nat) : List UInt8 := (ls.take i).flatten
theorem preH_succ (ls : List (List UInt8)) (i : Nat) (h : i < ls.length) : preH ls (i + 1) = preH ls i ++ ls.getD i [] := by
  unfold preH
  rw [List.take_succ_eq_append_getElem h, List.flatten_append, List.getD_eq_getElem?_getD, List.getElem?_eq_getElem h]
  simp
set_option maxRecDepth 100000 in
set_option maxHeartbeats 4000000 in
theorem walk_HmacParts {tK : TypeId} (KA : Option Addr) (kn kc : Nat) (key : List UInt8) (A : Option Addr) (l c : Nat) (ls : List (List UInt8)) (w : World) (HK : Hid (Blk w 0 tK (shaK.map b32).toArray)) (hk : SB w KA kn kc key) (hs : RowsB w A l c ls) :
    Calls Tryd.prog 4 #[.slice KA kn kc, .slice A l c] w fun e w' => e = .returned (.bool true) ∧ Grows w w' := by
  have hlen := lib_hid hs.1
  have hlc := hs.2.1
  by_cases hbig : 20 < l
  · have h1 : (l : Int) > 20 := by omega
    clear hs hk HK
    go_enter Tryd.func4, Tryd.ntmps4
    go_wp2
    go_ret
    exact ⟨rfl, Grows.refl w⟩
  have h1 : ¬ (l : Int) > 20 := by omega
  by_cases hkb : 300 < kn
  · have h2 : (kn : Int) > 300 := by omega
    clear hs hk HK
    go_enter Tryd.func4, Tryd.ntmps4
    go_wp2
    go_ret
    exact ⟨rfl, Grows.refl w⟩
  have h2 : ¬ (kn : Int) > 300 := by omega
  have HS0 := lib_hid hs
  have HSk := lib_hid hk
  have HCa0 : Hid (∀ W, Grows w W → Calls Tryd.prog 9 #[] W fun e w' => e = .returned (.bool true) ∧ Grows W w') := fun W hW => awake7_any W (HK.out.grows hW)
  obtain ⟨ks, Hks, Hkl⟩ : ∃ ks, Hid (ks = shaK) ∧ Hid (ks.length = 64) := ⟨_, lib_hid rfl, lib_hid shaK_len⟩
  rw [← Hks.out] at HK
  have Hw0 : Hid (0 < w.heap.size) := Nat.lt_of_le_of_lt (Nat.zero_le _) HK.out.lt
  obtain ⟨KB, HKB⟩ : ∃ x, Hid (keyB ks key = x) := ⟨_, lib_hid rfl⟩
  have Hkn := lib_hid (show kn ≤ 300 by omega)
  have HNe : Hid (Calls Tryd.prog 10 #[.slice KA kn kc] w fun e w' => ∃ g gs rb, e = .returned (.pointer (some ⟨g, 0, none⟩)) ∧ Grows w w' ∧ w.heap.size ≤ g ∧ HmOf ks w' w.heap.size g gs rb KB []) := by
    rw [← HKB.out]; exact hnew_any ks key KA kn kc w Hkl.out HK hk (by omega)
  have HCh : Hid (∀ (B : Option Addr) (m d : Nat) (bs : List UInt8) (W : World), Grows w W → SB W B m d bs → m ≤ 10000 → Calls Tryd.prog 7 #[.slice KA kn kc, .slice B m d] W fun e w' => e = .returned (.agg ((hmF ks KB bs).map b8).toArray) ∧ Grows W w') := fun B m d bs W hW h hm => by
    rw [← HKB.out]; exact hmac_any ks key bs KA B kn kc m d W Hkl.out (HK.out.grows hW) (HSk.out.grows hW) h (by have := Hkn.out; omega) (by omega)
  clear hs hk Hks HKB hkb
  go_enter Tryd.func4, Tryd.ntmps4
  go_wp2_with fail
  refine HNe.out.mono ?_
  rintro e w1 ⟨g, gs, rb0, rfl, hg1, hgb, hP1⟩
  have HP1 := lib_hid hP1
  clear hP1 HNe h1 h2
  go_wp2_with fail
  go_loopw [6, 7] (fun v iv wr => ∃ (i n ce : Nat) (C : Option Addr) (rb : Option Nat), i ≤ l ∧ iv = .int .i64 (i : Int) ∧ v = .slice C n ce ∧ n ≤ 100 * i ∧ Grows w wr ∧ Hid (n = (preH ls i).length) ∧ Hid (OwnAt wr w.heap.size C n ce ((preH ls i).map b8)) ∧ Hid (HmOf ks wr w.heap.size g gs rb KB (preH ls i)) ∧ Hid (blkOf C ≠ some g ∧ blkOf C ≠ some gs) ∧ Hid (∀ b, blkOf C = some b → rb ≠ some b)) (fun _ iv _ => l - (intOf iv).toNat)
  case atStart => exact ⟨0, 0, 0, none, rb0, by omega, rfl, rfl, by omega, hg1, lib_hid rfl, OwnAt.nil _ _, HP1, lib_hid ⟨(fun h => by cases h), (fun h => by cases h)⟩, lib_hid (fun b h => by cases h)⟩
  case round =>
    obtain ⟨i, n, ce, C, rb, hi, rfl, rfl, hn, hgr, Hn, HO, HP, Hne, Hrb⟩ := hrel
    clear HP1
    by_cases hlt : i < l
    · have hki : (i : Int) < l := by omega
      obtain ⟨row, Hrow⟩ : ∃ x, Hid (ls.getD i [] = x) := ⟨_, lib_hid rfl⟩
      obtain ⟨bA, oA, rfl, hbA, hcA⟩ := HS0.out.2.2.2.2 (by omega)
      obtain ⟨Ai, ci, hc1, hc2⟩ := hcA i hlt
      rw [Hrow.out] at hc1 hc2
      obtain ⟨m, Hm⟩ : ∃ m, Hid (row.length = m) := ⟨_, lib_hid rfl⟩
      rw [Hm.out] at hc1 hc2
      have HSi : Hid (SB w Ai m ci row) := hc2
      have HCi : Hid (∀ W, Grows w W → W.cell? ⟨bA, oA + i, none⟩ = some (.slice Ai m ci)) := fun W hW => (hW.cell (p := ⟨bA, oA + i, none⟩) hbA).trans hc1
      clear hc1 hc2 hcA
      have q1 := HCi.out wr hgr
      by_cases hbg : 100 < m
      · have h100 : (m : Int) > 100 := by omega
        go_wp2
        go_ret
        exact ⟨rfl, hgr⟩
      · have h100 : ¬ (m : Int) > 100 := by omega
        obtain ⟨nx, Hnx⟩ : ∃ x, Hid (preH ls i ++ row = x) := ⟨_, lib_hid rfl⟩
        have Hsucc : Hid (preH ls (i + 1) = nx) := by unfold Hid; rw [preH_succ ls i (by rw [hlen.out]; exact hlt), Hrow.out, Hnx.out]
        have hle := hgr.le
        have Hlt := lib_hid HP.out.lt
        have hrowg : Hid (0 < m → ∀ p, Ai = some p → p.block ≠ gs) := fun h0 p hp => by
          obtain ⟨b', off', e', hb', _⟩ := HSi.out.2.2.2.2 h0
          rw [hp] at e'; cases e'
          show b' ≠ gs
          have := Hlt.out; omega
        have Hwr := lib_hid (hwrite_any ks g gs w.heap.size rb KB (preH ls i) row Ai m ci wr Hkl.out (HK.out.grows hgr) HP.out (HSi.out.grows hgr) hrowg.out hle Hw0.out (by rw [← Hn.out]; omega) (by omega))
        go_wp2_with fail
        refine Hwr.out.mono ?_
        rintro e w2 ⟨rfl, rb2, hP2, hK2, hloc2⟩
        rw [Hnx.out] at hP2
        have HP2 := lib_hid hP2
        have HO2 : Hid (OwnAt w2 w.heap.size C n ce ((preH ls i).map b8)) := HO.out.keeps hK2 (fun p hp e => by
          have hb : blkOf C = some p.block := by rw [hp]; rfl
          rcases e with e | e
          · exact Hne.out.2 (by rw [hb, e])
          · exact Hrb.out p.block hb e)
        have hb2 : Below w.heap.size wr w2 := hK2.below hle (fun k hk => by
          rcases hk with e | e
          · rw [e]; exact Hlt.out.2.2.1
          · exact (Hlt.out.2.2.2 k e).1)
        have hgr2 : Grows w w2 := Below.trans hgr hb2
        have hrb2 : Hid (∀ b, blkOf C = some b → rb2 ≠ some b) := fun b hb e => by
          rcases hloc2 with h | ⟨k, h, hk⟩
          · exact Hrb.out b hb (by rw [← h]; exact e)
          · rw [h] at e
            have := Option.some.inj e
            obtain ⟨p, hp, hpb⟩ := Option.map_eq_some_iff.1 hb
            have := HO.out.lt p hp
            omega
        have Hlt2 := lib_hid HP2.out.lt
        have q2 := HCi.out w2 hgr2
        have hle2 := hgr2.le
        clear hP2 hK2 hloc2 hb2 HO HP Hrb q1 Hwr hrowg
        go_upto_region 12 with (at_builtin; refine wpList_append_at rfl _ _ 22 22 rfl w.heap.size 5 (.int .u8 0) 1 Tryd.underlying22 Tryd.infoByte rfl C n ce _ rfl HO2.out (.slice Ai m ci) rfl m _ ((HSi.out.grows hgr2).src Tryd.underlying22 (b8_one _)) (by omega) (by omega) hle2 ?_; intro C3 c3 w3 hO3 hG3 hloc3)
        rw [← List.map_append, Hnx.out] at hO3
        obtain ⟨n3, Hn3, hn3⟩ : ∃ x, Hid (n + m = x) ∧ x ≤ 100 * (i + 1) := ⟨_, lib_hid rfl, by omega⟩
        rw [Hn3.out] at hO3 ⊢
        have Hn3' : Hid (n3 = nx.length) := by unfold Hid; rw [← Hn3.out, ← Hnx.out, List.length_append, Hn.out, Hm.out]
        have HO3 := lib_hid hO3
        have hk3 := keeps_grown hG3
        have HP3 : Hid (HmOf ks w3 w.heap.size g gs rb2 KB nx) := HP2.out.keeps hk3 (fun e => Hne.out.1 e) (fun e => Hne.out.2 e) (fun b hb e => hrb2.out b e hb)
        have hgr3 : Grows w w3 := hgr2.grown hG3 (fun k e => by obtain ⟨p, hp, hpb⟩ := Option.map_eq_some_iff.1 e; have := HO2.out.base_le p hp; omega)
        have Hne3 : Hid (blkOf C3 ≠ some g ∧ blkOf C3 ≠ some gs) := by
          rcases hloc3 with h | h
          · rw [h]; exact Hne.out
          · rw [h]; have := Hlt2.out; exact ⟨fun e => by have := Option.some.inj e; omega, fun e => by have := Option.some.inj e; omega⟩
        have Hrb3 : Hid (∀ b, blkOf C3 = some b → rb2 ≠ some b) := fun b hb e => by
          rcases hloc3 with h | h
          · exact hrb2.out b (by rw [← h]; exact hb) e
          · rw [h] at hb
            have h5 := Option.some.inj hb
            have h6 := (Hlt2.out.2.2.2 b e).2
            omega
        obtain ⟨v, Hv⟩ : ∃ x : Array Value, Hid (((hmF ks KB nx).map b8).toArray = x) := ⟨_, lib_hid rfl⟩
        have HsS : Hid (∀ W, Grows w3 W → Calls Tryd.prog 12 #[.pointer (some ⟨g, 0, none⟩)] W fun e w' => e = .returned (.agg v) ∧ Grows W w') := fun W hW => by
          rw [← Hv.out]; exact hsum_any ks g gs w.heap.size rb2 KB nx W Hkl.out (HK.out.grows (hgr3.trans hW)) (HP3.out.grows hW) (by rw [← Hn3'.out]; omega)
        have HsP : Hid (∀ W, Grows w3 W → Calls Tryd.prog 7 #[.slice KA kn kc, .slice C3 n3 c3] W fun e w' => e = .returned (.agg v) ∧ Grows W w') := fun W hW => by
          rw [← Hv.out]; exact HCh.out C3 n3 c3 nx W (hgr3.trans hW) ((show SB w3 C3 n3 c3 nx from HO3.out.row).grows hW) (by omega)
        have He : Hid (∀ W, (Op.equalIn 10000 23 (.agg v) (.agg v)).run Tryd.prog W = .ok true W) := fun W => by
          rw [← Hv.out]; exact eq32 _ (hmF_len _ _ _) W
        clear hO3 hG3 hloc3 hk3 q2 Hlt2 HP2 HO2 hrb2 hgr2
        go_wp2_with fail
        refine (HsS.out w3 (Grows.refl _)).mono ?_
        rintro e w4 ⟨rfl, hg4⟩
        go_wp2_with fail
        refine (HsP.out w4 hg4).mono ?_
        rintro e w5 ⟨rfl, hg5⟩
        have hgm := hg4.trans hg5
        have he1 := He.out w5
        have hgr4 := hgr3.trans hgm
        have HO4 := lib_hid (HO3.out.grows hgm)
        have HP4 := lib_hid (HP3.out.grows hgm)
        clear HsS HsP hgm HO3 HP3 He hg4 hg5
        go_wp2
        go_roundw
        case rel => exact ⟨i + 1, n3, c3, C3, rb2, by omega, by go_num, rfl, hn3, hgr4, by unfold Hid; rw [Hsucc.out]; exact Hn3'.out, by unfold Hid; rw [Hsucc.out]; exact HO4.out, by unfold Hid; rw [Hsucc.out]; exact HP4.out, Hne3, Hrb3⟩
        case measure => simp [intOf]; omega
    · have hki : ¬ (i : Int) < l := by omega
      have Hgw := lib_hid hgr
      have Hrs := lib_hid (hreset_any ks KB _ g w.heap.size wr Hkl.out (HK.out.grows hgr) HP.out.1 HP.out.2.2.1 HP.out.2.1 hgr.le Hw0.out)
      clear HO HP Hne Hrb Hn hn hlt hi hgr
      go_wp2_with fail
      refine Hrs.out.mono ?_
      rintro e2 w2 ⟨rfl, gs2, rb2, hP2, hk2, hgs2, hrb2⟩
      have Hg2 : Hid (Grows w w2) := Keeps.grows' hk2 Hgw.out (fun i hi => by rw [hi]; exact hgb)
      have HP2 := lib_hid hP2
      clear hP2 hk2 hgs2 hrb2 Hrs hki hgb Hgw
      have H7 : Hid (SB (w2.alloc (.cells #[.int .u8 7] 5)) (some ⟨w2.heap.size, 0, none⟩) 1 1 [7]) := one_rowH w2 5 7
      have Hg27 : Hid (Grows w2 (w2.alloc (.cells #[.int .u8 7] 5))) := (Grows.refl _).alloc _
      have Hwr := lib_hid (hwrite_any ks g gs2 w.heap.size rb2 KB [] [7] (some ⟨w2.heap.size, 0, none⟩) 1 1 (w2.alloc (.cells #[.int .u8 7] 5)) Hkl.out (HK.out.grows (Hg2.out.trans Hg27.out)) (HP2.out.grows Hg27.out) H7.out (fun _ p hp => by cases hp; have := HP2.out.lt; show w2.heap.size ≠ gs2; omega) (Hg2.out.trans Hg27.out).le Hw0.out (by simp) (by omega))
      go_wp2_with fail
      refine Hwr.out.mono ?_
      rintro e3 w3 ⟨rfl, rb3, hP3, hk3, _⟩
      rw [List.nil_append] at hP3
      have Hg3 : Hid (Grows w w3) := Keeps.grows' hk3 (Hg2.out.trans Hg27.out) (fun i hi => by
        rcases hi with h | h
        · rw [h]; exact HP2.out.lt.2.2.1
        · exact (HP2.out.lt.2.2.2 i h).1)
      have HP3 := lib_hid hP3
      clear hP3 hk3 Hwr H7 Hg27 HP2 Hg2
      go_wp2_with fail
      refine (hwriteNil_any _ _).mono ?_
      rintro e4 w4 ⟨rfl, rfl⟩
      go_wp2_with fail
      refine (hresetNil_any _).mono ?_
      rintro e5 w5 ⟨rfl, rfl⟩
      go_upto_region 19 with fail
      obtain ⟨w6, HW6⟩ : ∃ X : World, Hid (X = w3.alloc (.cells #[.int .u8 1] 5)) := ⟨_, lib_hid rfl⟩
      have Hg36 : Hid (Grows w3 w6) := by unfold Hid; rw [HW6.out]; exact (Grows.refl _).alloc _
      rw [← HW6.out]
      obtain ⟨v, Hv⟩ : ∃ x : Array Value, Hid (((hmF ks KB [7]).map b8).toArray = x) := ⟨_, lib_hid rfl⟩
      have HsS : Hid (Calls Tryd.prog 12 #[.pointer (some ⟨g, 0, none⟩)] w6 fun e w' => e = .returned (.agg v) ∧ Grows w6 w') := by
        rw [← Hv.out]; exact hsum_any ks g gs2 w.heap.size rb3 KB [7] w6 Hkl.out (HK.out.grows (Hg3.out.trans Hg36.out)) (HP3.out.grows Hg36.out) (by simp)
      have HsP : Hid (∀ W, Grows w6 W → Calls Tryd.prog 7 #[.slice KA kn kc, .slice (some ⟨W.heap.size, 0, none⟩) 1 1] (W.alloc (.cells #[.int .u8 7] 5)) fun e w' => e = .returned (.agg v) ∧ Grows (W.alloc (.cells #[.int .u8 7] 5)) w') := fun W hW => by
        rw [← Hv.out]; exact HCh.out _ 1 1 [7] _ ((Hg3.out.trans (Hg36.out.trans hW)).alloc _) (one_rowH W 5 7) (by omega)
      have He : Hid (∀ W, (Op.equalIn 10000 23 (.agg v) (.agg v)).run Tryd.prog W = .ok true W) := fun W => by
        rw [← Hv.out]; exact eq32 _ (hmF_len _ _ _) W
      obtain ⟨z0, Hz0⟩ : ∃ z : Array Value, Hid (#[.int .u8 0, .int .u8 0, .int .u8 0, .int .u8 0, .int .u8 0, .int .u8 0, .int .u8 0, .int .u8 0, .int .u8 0, .int .u8 0, .int .u8 0, .int .u8 0, .int .u8 0, .int .u8 0, .int .u8 0, .int .u8 0, .int .u8 0, .int .u8 0, .int .u8 0, .int .u8 0, .int .u8 0, .int .u8 0, .int .u8 0, .int .u8 0, .int .u8 0, .int .u8 0, .int .u8 0, .int .u8 0, .int .u8 0, .int .u8 0, .int .u8 0, .int .u8 0] = z) := ⟨_, lib_hid rfl⟩
      have Hez : Hid (∀ W, (Op.equalIn 10000 23 (.agg z0) (.agg z0)).run Tryd.prog W = .ok true W) := fun W => by
        rw [← Hz0.out]; exact eq32 (List.replicate 32 0) (by simp) W
      have Hzn : Hid (∀ W, Calls Tryd.prog 12 #[.pointer none] W fun e w' => e = .returned (.agg z0) ∧ Grows W w') := fun W => by rw [← Hz0.out]; exact hsumNil_any W
      have Hzv : Hid (∀ W, (zeroValue 23).run Tryd.prog W = .ok (.agg z0) W) := fun W => by rw [← Hz0.out]; kernel_rfl
      clear HP3 HW6 Hv Hz0 HK HSk HCh
      go_wp2_with fail
      refine HsS.out.mono ?_
      rintro e7 w7 ⟨rfl, hg7⟩
      go_wp2_with fail
      refine (HsP.out w7 hg7).mono ?_
      rintro e8 w8 ⟨rfl, hg8⟩
      have hg68 : Grows w6 w8 := (hg7.alloc _).trans hg8
      have he1 := He.out w8
      clear hg7 hg8 HsS HsP
      go_wp2_with fail
      refine (Hzn.out w8).mono ?_
      rintro e9 w9 ⟨rfl, hg9⟩
      have hg69 := hg68.trans hg9
      have he2 := Hez.out w9
      have hzv := Hzv.out w9
      clear he1
      go_wp2_with fail
      refine (HCa0.out w9 (Hg3.out.trans (Hg36.out.trans hg69))).mono ?_
      rintro e10 w10 ⟨rfl, hg10⟩
      go_wp2
      go_ret
      exact ⟨rfl, (Hg3.out.trans (Hg36.out.trans hg69)).trans hg10⟩

end Go.Proofs.YtngmclajfbknjaaDoor
