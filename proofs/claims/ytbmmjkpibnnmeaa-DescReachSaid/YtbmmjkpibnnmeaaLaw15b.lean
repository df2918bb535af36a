/-
  The walk of DescReach.
-/
import Derived.Test.YtbmmjkpibnnmeaaDesc6
import Derived.Test.YtbmmjkpibnnmeaaLaw15a
import Derived.Deep.Cut
namespace Go.Proofs.Ytbmmjkpibnnmeaa
open Go Go.RowKit
set_option linter.unusedSimpArgs false


set_option maxRecDepth 100000 in
set_option maxHeartbeats 4000000 in
theorem walk_DescReach (A : Option Addr) (N c : Nat) (a : List (Int × Int)) (B : Option Addr) (K d : Nat) (b : List (Int × Int)) (w : World) (hs1 : SpanR w A N c a) (hs2 : SpanR w B K d b) :
    Calls Try.prog 4 #[.slice A N c, .slice B K d] w fun e w' => e = .returned (.bool true) ∧ Below w.heap.size w w' := by
  have H1 := lib_hid hs1
  have H2 := lib_hid hs2
  have hll1 := lib_hid hs1.len
  have hll2 := lib_hid hs2.len
  obtain ⟨r1, Hr1⟩ : ∃ r, Hid (smallB a = r) := ⟨_, lib_hid rfl⟩
  obtain ⟨r2, Hr2⟩ : ∃ r, Hid (smallB b = r) := ⟨_, lib_hid rfl⟩
  have Hsm1 : Hid (Calls Try.prog 12 #[.slice A N c] w fun e w' => e = .returned (.bool r1) ∧ w = w') := by
    rw [← Hr1.out]; exact small_any a A N c w hs1
  have Hsm2 : Hid (Calls Try.prog 12 #[.slice B K d] w fun e w' => e = .returned (.bool r2) ∧ w = w') := by
    rw [← Hr2.out]; exact small_any b B K d w hs2
  clear hs1 hs2
  cases r1
  · go_enter Try.func4, Try.ntmps4
    go_wp2_with fail
    refine Hsm1.out.mono ?_
    rintro e w1 ⟨rfl, rfl⟩
    go_wp2
    go_ret
    exact ⟨rfl, Grows.refl w⟩
  cases r2
  · go_enter Try.func4, Try.ntmps4
    go_wp2_with fail
    refine Hsm1.out.mono ?_
    rintro e w1 ⟨rfl, rfl⟩
    go_wp2_with fail
    refine Hsm2.out.mono ?_
    rintro e w1 ⟨rfl, rfl⟩
    go_wp2
    go_ret
    exact ⟨rfl, Grows.refl w⟩
  obtain ⟨h12a, hoka⟩ := smallB_le Hr1.out
  obtain ⟨h12b, hokb⟩ := smallB_le Hr2.out
  have Hoka : Hid (∀ q ∈ a, okSp q) := lib_hid hoka
  have Hokb : Hid (∀ q ∈ b, okSp q) := lib_hid hokb
  have hN : N ≤ 12 := by rw [hll1.out] at h12a; exact h12a
  have hK : K ≤ 12 := by rw [hll2.out] at h12b; exact h12b
  have Hspa := lib_hid (fun W (hW : Grows w W) => spans15_any a A N c W (H1.out.grows hW) (by omega))
  have Hspb := lib_hid (fun W (hW : Grows w W) => spans15_any b B K d W (H2.out.grows hW) (by omega))
  have bda := rT_bd Hoka.out
  have bdb := rT_bd Hokb.out
  obtain ⟨ta, la, ha, Hra⟩ : ∃ t l h, Hid (rT a = (t, l, h)) := ⟨_, _, _, lib_hid rfl⟩
  obtain ⟨tb, lb, hb, Hrb⟩ : ∃ t l h, Hid (rT b = (t, l, h)) := ⟨_, _, _, lib_hid rfl⟩
  have HRa : Hid (∀ W A n c, SpanR W A n c a → Calls Try.prog 17 #[.slice A n c] W fun e w' => e = .returned (cx la ha) ∧ Grows W w') := fun W A n c h => by
    have := reachL_any a A n c W Hoka.out h
    rw [Hra.out] at this; exact this
  have HRb : Hid (∀ W A n c, SpanR W A n c b → Calls Try.prog 17 #[.slice A n c] W fun e w' => e = .returned (cx lb hb) ∧ Grows W w') := fun W A n c h => by
    have := reachL_any b A n c W Hokb.out h
    rw [Hrb.out] at this; exact this
  rw [Hra.out] at bda
  rw [Hrb.out] at bdb
  simp only at bda bdb
  have Hbd := lib_hid (And.intro bda bdb)
  obtain ⟨m, Hm⟩ : ∃ m, Hid (meetB a b = m) := ⟨_, lib_hid rfl⟩
  have HMab : Hid (∀ W A B n c k d, SpanR W A n c a → SpanR W B k d b → Calls Try.prog 18 #[.slice A n c, .slice B k d] W fun e w' => e = .returned (.bool m) ∧ Grows W w') := fun W A B n c k d h1 h2 => by
    rw [← Hm.out]; exact meet_any a b A B n c k d W Hoka.out Hokb.out h1 h2
  have HMba : Hid (∀ W A B n c k d, SpanR W A n c b → SpanR W B k d a → Calls Try.prog 18 #[.slice A n c, .slice B k d] W fun e w' => e = .returned (.bool m) ∧ Grows W w') := fun W A B n c k d h1 h2 => by
    rw [← Hm.out, meetB_symm]; exact meet_any b a A B n c k d W Hokb.out Hoka.out h1 h2
  have hG0 : Grows w w := Grows.refl w
  clear h12a h12b hoka hokb bda bdb
  go_enter Try.func4, Try.ntmps4
  go_wp2_with fail
  refine Hsm1.out.mono ?_
  rintro e w1 ⟨rfl, rfl⟩
  go_wp2_with fail
  refine Hsm2.out.mono ?_
  rintro e w1 ⟨rfl, rfl⟩
  clear Hsm1 Hsm2
  go_wp2_with fail
  refine (Hspa.out _ hG0).mono ?_
  rintro e v1 ⟨A1, n1, c1, hn1, rfl, hg1, ho1⟩
  have HS1 := lib_hid (SpanR.own ho1)
  have hG1 := hG0.trans hg1
  clear ho1 hn1
  go_wp2_with fail
  refine (HRa.out _ _ _ _ HS1.out).mono ?_
  rintro e v2 ⟨rfl, hg2⟩
  have hG2 := hG1.trans hg2
  go_wp2_with fail
  refine (Hspb.out _ hG2).mono ?_
  rintro e v3 ⟨A3, n3, c3, hn3, rfl, hg3, ho3⟩
  have HS3 := lib_hid (SpanR.own ho3)
  have hG3 := hG2.trans hg3
  clear ho3 hn3
  go_wp2_with fail
  refine (HRb.out _ _ _ _ HS3.out).mono ?_
  rintro e v4 ⟨rfl, hg4⟩
  have hG4 := hG3.trans hg4
  go_wp2_with fail
  refine (Hspa.out _ hG4).mono ?_
  rintro e v5 ⟨A5, n5, c5, hn5, rfl, hg5, ho5⟩
  have HS5 := lib_hid (SpanR.own ho5)
  have hG5 := hG4.trans hg5
  clear ho5 hn5
  go_wp2_with fail
  refine (Hspb.out _ hG5).mono ?_
  rintro e v6 ⟨A6, n6, c6, hn6, rfl, hg6, ho6⟩
  have HS6 := lib_hid (SpanR.own ho6)
  have hG6 := hG5.trans hg6
  clear ho6 hn6
  have HS5 := lib_hid (HS5.out.grows hg6)
  go_wp2_with fail
  refine (HMab.out _ _ _ _ _ _ _ HS5.out HS6.out).mono ?_
  rintro e v7 ⟨rfl, hg7⟩
  have hG7 := hG6.trans hg7
  clear HS1 HS3 HS5 HS6 hg1 hg2 hg3 hg4 hg5 hg6 hg7 hG0 hG1 hG2 hG3 hG4 hG5 hG6
  cases m
  · skip
    have HP := lib_hid (places_any a A N c v7 (H1.out.grows hG7) hN Hoka.out)
    go_wp2_with fail
    refine HP.out.mono ?_
    rintro e wp ⟨Ap, np, cp, hnp, rfl, hgp, hop⟩
    have HRp := lib_hid (row_own1 hop)
    have hGp := hG7.trans hgp
    have hcap := HRp.out.2.2.1
    unfold maxLen at hcap
    have hnc := HRp.out.2.1
    clear hop HP hgp 
    go_wp2
    go_loopw [8] (fun i wr => ∃ k : Nat, k ≤ np ∧ i = .int .i64 k ∧ Grows wp wr) (fun i _ => np - (intOf i).toNat)
    case atStart => exact ⟨0, Nat.zero_le _, rfl, Grows.refl wp⟩
    case round =>
      obtain ⟨j, hj, rfl, hgr⟩ := hrel
      by_cases hlt : j < np
      · have hji : (j : Int) < np := by omega
        obtain ⟨bp, offp, rfl, hbp, hcp⟩ := HRp.out.2.2.2.2 (by omega)
        obtain ⟨z, hz⟩ : ∃ z, (placesF a)[j]? = some z := ⟨_, List.getElem?_eq_getElem (by rw [← hnp.out]; exact hlt)⟩
        have hpr := place_reach Hoka.out (List.mem_of_getElem? hz)
        rw [Hra.out] at hpr
        obtain ⟨zn, rfl⟩ := Int.eq_ofNat_of_zero_le hpr.1
        simp only [Int.toNat_natCast] at hpr
        have hha := Hbd.out.1.2.1
        have f1 := lss_no zn la (by omega) (by omega) (by omega)
        have f2 := lss_yes zn ha (by omega) (by omega) (by omega)
        have hce := (hgr.cell (p := ⟨bp, offp + j, none⟩) hbp).trans ((hcp j hlt).trans (by rw [List.getElem?_map, hz]; rfl : _ = some (Value.int .i64 (zn : Int))))
        clear hbp hcp hz hpr hha
        go_wp2
        go_roundw
        case rel => exact ⟨j + 1, by omega, by go_num, hgr⟩
        case measure => simp [intOf]; omega
      · have hji : ¬ (j : Int) < np := by omega
        have hG0 := hGp.trans hgr
        have HA := lib_hid (fun W => awake15_any W)
        clear hlt hj
        go_wp2_with fail
        refine (Hspa.out _ hG0).mono ?_
        rintro e v21 ⟨A21, n21, c21, hn21, rfl, hg21, ho21⟩
        have HS21 := lib_hid (SpanR.own ho21)
        have hG21 := hG0.trans hg21
        clear ho21 hn21
        go_wp2_with fail
        refine (Hspb.out _ hG21).mono ?_
        rintro e v22 ⟨A22, n22, c22, hn22, rfl, hg22, ho22⟩
        have HS22 := lib_hid (SpanR.own ho22)
        have hG22 := hG21.trans hg22
        clear ho22 hn22
        have HS21 := lib_hid (HS21.out.grows hg22)
        go_wp2_with fail
        refine (HMab.out _ _ _ _ _ _ _ HS21.out HS22.out).mono ?_
        rintro e v23 ⟨rfl, hg23⟩
        have hG23 := hG22.trans hg23
        go_wp2_with fail
        refine (Hspb.out _ hG23).mono ?_
        rintro e v24 ⟨A24, n24, c24, hn24, rfl, hg24, ho24⟩
        have HS24 := lib_hid (SpanR.own ho24)
        have hG24 := hG23.trans hg24
        clear ho24 hn24
        go_wp2_with fail
        refine (Hspa.out _ hG24).mono ?_
        rintro e v25 ⟨A25, n25, c25, hn25, rfl, hg25, ho25⟩
        have HS25 := lib_hid (SpanR.own ho25)
        have hG25 := hG24.trans hg25
        clear ho25 hn25
        have HS24 := lib_hid (HS24.out.grows hg25)
        go_wp2_with fail
        refine (HMba.out _ _ _ _ _ _ _ HS24.out HS25.out).mono ?_
        rintro e v26 ⟨rfl, hg26⟩
        have hG26 := hG25.trans hg26
        go_wp2_with fail
        refine (HA.out _).mono ?_
        rintro e v27 ⟨rfl, hg27⟩
        have hG27 := hG26.trans hg27
        go_wp2
        go_ret
        exact ⟨rfl, hG27⟩
  · have hmr := meet_reach Hoka.out Hokb.out Hm.out
    rw [Hra.out, Hrb.out] at hmr
    simp only at hmr
    have hha := Hbd.out.1.2.1
    have hhb := Hbd.out.2.2.1
    have f1 := lss_yes la hb (by omega) (by omega) hmr.1
    have f2 := lss_yes lb ha (by omega) (by omega) hmr.2
    clear hmr hha hhb
    have HP := lib_hid (places_any a A N c v7 (H1.out.grows hG7) hN Hoka.out)
    go_wp2_with fail
    refine HP.out.mono ?_
    rintro e wp ⟨Ap, np, cp, hnp, rfl, hgp, hop⟩
    have HRp := lib_hid (row_own1 hop)
    have hGp := hG7.trans hgp
    have hcap := HRp.out.2.2.1
    unfold maxLen at hcap
    have hnc := HRp.out.2.1
    clear hop HP hgp f1 f2
    go_wp2
    go_loopw [8] (fun i wr => ∃ k : Nat, k ≤ np ∧ i = .int .i64 k ∧ Grows wp wr) (fun i _ => np - (intOf i).toNat)
    case atStart => exact ⟨0, Nat.zero_le _, rfl, Grows.refl wp⟩
    case round =>
      obtain ⟨j, hj, rfl, hgr⟩ := hrel
      by_cases hlt : j < np
      · have hji : (j : Int) < np := by omega
        obtain ⟨bp, offp, rfl, hbp, hcp⟩ := HRp.out.2.2.2.2 (by omega)
        obtain ⟨z, hz⟩ : ∃ z, (placesF a)[j]? = some z := ⟨_, List.getElem?_eq_getElem (by rw [← hnp.out]; exact hlt)⟩
        have hpr := place_reach Hoka.out (List.mem_of_getElem? hz)
        rw [Hra.out] at hpr
        obtain ⟨zn, rfl⟩ := Int.eq_ofNat_of_zero_le hpr.1
        simp only [Int.toNat_natCast] at hpr
        have hha := Hbd.out.1.2.1
        have f1 := lss_no zn la (by omega) (by omega) (by omega)
        have f2 := lss_yes zn ha (by omega) (by omega) (by omega)
        have hce := (hgr.cell (p := ⟨bp, offp + j, none⟩) hbp).trans ((hcp j hlt).trans (by rw [List.getElem?_map, hz]; rfl : _ = some (Value.int .i64 (zn : Int))))
        clear hbp hcp hz hpr hha
        go_wp2
        go_roundw
        case rel => exact ⟨j + 1, by omega, by go_num, hgr⟩
        case measure => simp [intOf]; omega
      · have hji : ¬ (j : Int) < np := by omega
        have hG0 := hGp.trans hgr
        have HA := lib_hid (fun W => awake15_any W)
        clear hlt hj
        go_wp2_with fail
        refine (Hspa.out _ hG0).mono ?_
        rintro e v21 ⟨A21, n21, c21, hn21, rfl, hg21, ho21⟩
        have HS21 := lib_hid (SpanR.own ho21)
        have hG21 := hG0.trans hg21
        clear ho21 hn21
        go_wp2_with fail
        refine (Hspb.out _ hG21).mono ?_
        rintro e v22 ⟨A22, n22, c22, hn22, rfl, hg22, ho22⟩
        have HS22 := lib_hid (SpanR.own ho22)
        have hG22 := hG21.trans hg22
        clear ho22 hn22
        have HS21 := lib_hid (HS21.out.grows hg22)
        go_wp2_with fail
        refine (HMab.out _ _ _ _ _ _ _ HS21.out HS22.out).mono ?_
        rintro e v23 ⟨rfl, hg23⟩
        have hG23 := hG22.trans hg23
        go_wp2_with fail
        refine (Hspb.out _ hG23).mono ?_
        rintro e v24 ⟨A24, n24, c24, hn24, rfl, hg24, ho24⟩
        have HS24 := lib_hid (SpanR.own ho24)
        have hG24 := hG23.trans hg24
        clear ho24 hn24
        go_wp2_with fail
        refine (Hspa.out _ hG24).mono ?_
        rintro e v25 ⟨A25, n25, c25, hn25, rfl, hg25, ho25⟩
        have HS25 := lib_hid (SpanR.own ho25)
        have hG25 := hG24.trans hg25
        clear ho25 hn25
        have HS24 := lib_hid (HS24.out.grows hg25)
        go_wp2_with fail
        refine (HMba.out _ _ _ _ _ _ _ HS24.out HS25.out).mono ?_
        rintro e v26 ⟨rfl, hg26⟩
        have hG26 := hG25.trans hg26
        go_wp2_with fail
        refine (HA.out _).mono ?_
        rintro e v27 ⟨rfl, hg27⟩
        have hG27 := hG26.trans hg27
        go_wp2
        go_ret
        exact ⟨rfl, hG27⟩

end Go.Proofs.Ytbmmjkpibnnmeaa
