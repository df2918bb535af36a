/-
  The walk of palfreyref06.Mul.
-/
import Derived.Test.YtlnldflnanllmaaRefMul1
import Derived.Deep.Cut
namespace Go.Proofs.Ytlnldflnanllmaa
open Go Go.RowKit
set_option linter.unusedSimpArgs false


set_option maxRecDepth 100000 in
set_option maxHeartbeats 4000000 in
theorem refMul_any (xs bs : List UInt8) (ha : xs.length = 16) (hb : bs.length = 16) (w : World) :
    Calls Try.prog 11 #[.agg (xs.map b8).toArray, .agg (bs.map b8).toArray] w fun e w' => e = .returned (.agg ((refMulF xs bs).map b8).toArray) ∧ Grows w w' := by
  obtain ⟨W0, HW0, hW0, hg0⟩ : ∃ W0 : World, Hid (W0 = ((w.alloc (.cells (xs.map b8).toArray 22)).alloc (.cells (bs.map b8).toArray 22)).alloc (.cells #[.int .u8 0, .int .u8 0, .int .u8 0, .int .u8 0, .int .u8 0, .int .u8 0, .int .u8 0, .int .u8 0, .int .u8 0, .int .u8 0, .int .u8 0, .int .u8 0, .int .u8 0, .int .u8 0, .int .u8 0, .int .u8 0] 22)) ∧ W0.heap.size = w.heap.size + 3 ∧ Grows w W0 := ⟨_, lib_hid rfl, by simp, (((Grows.refl w).alloc _).alloc _).alloc _⟩
  have HB0 : Hid (Blk W0 w.heap.size 22 (xs.map b8).toArray) := by
    unfold Hid; rw [HW0.out]; have := ((Blk.new (w) 22 (xs.map b8).toArray).alloc (.cells (bs.map b8).toArray 22)).alloc (.cells #[.int .u8 0, .int .u8 0, .int .u8 0, .int .u8 0, .int .u8 0, .int .u8 0, .int .u8 0, .int .u8 0, .int .u8 0, .int .u8 0, .int .u8 0, .int .u8 0, .int .u8 0, .int .u8 0, .int .u8 0, .int .u8 0] 22); simpa using this
  have HB1 : Hid (Blk W0 (w.heap.size + 1) 22 (bs.map b8).toArray) := by
    unfold Hid; rw [HW0.out]; have := (Blk.new (w.alloc (.cells (xs.map b8).toArray 22)) 22 (bs.map b8).toArray).alloc (.cells #[.int .u8 0, .int .u8 0, .int .u8 0, .int .u8 0, .int .u8 0, .int .u8 0, .int .u8 0, .int .u8 0, .int .u8 0, .int .u8 0, .int .u8 0, .int .u8 0, .int .u8 0, .int .u8 0, .int .u8 0, .int .u8 0] 22); simpa using this
  have HB2 : Hid (Blk W0 (w.heap.size + 2) 22 #[.int .u8 0, .int .u8 0, .int .u8 0, .int .u8 0, .int .u8 0, .int .u8 0, .int .u8 0, .int .u8 0, .int .u8 0, .int .u8 0, .int .u8 0, .int .u8 0, .int .u8 0, .int .u8 0, .int .u8 0, .int .u8 0]) := by
    unfold Hid; rw [HW0.out]; have := Blk.new ((w.alloc (.cells (xs.map b8).toArray 22)).alloc (.cells (bs.map b8).toArray 22)) 22 #[.int .u8 0, .int .u8 0, .int .u8 0, .int .u8 0, .int .u8 0, .int .u8 0, .int .u8 0, .int .u8 0, .int .u8 0, .int .u8 0, .int .u8 0, .int .u8 0, .int .u8 0, .int .u8 0, .int .u8 0, .int .u8 0]; simpa using this
  have xl := lib_hid ha
  have bl := lib_hid hb
  have Hata : Hid (∀ i, i < 128 → ∀ W, Calls Try.prog 24 #[.agg (xs.map b8).toArray, .int .i64 ((i : Nat) : Int)] W fun e w' => e = .returned (.int .i64 ((bitN xs i : Nat) : Int)) ∧ Grows W w') := refAt_any xs ha
  have Hatb : Hid (∀ i, i < 128 → ∀ W, Calls Try.prog 24 #[.agg (bs.map b8).toArray, .int .i64 ((i : Nat) : Int)] W fun e w' => e = .returned (.int .i64 ((bitN bs i : Nat) : Int)) ∧ Grows W w') := refAt_any bs hb
  obtain ⟨g5, Hg5⟩ : ∃ x, Hid (W0.heap.size = x) := ⟨_, lib_hid rfl⟩
  obtain ⟨W1, HW1⟩ : ∃ X : World, Hid (X = W0.alloc (.cells (iL (List.replicate 256 0)) 46)) := ⟨_, lib_hid rfl⟩
  have hg1 : Grows W0 W1 := by rw [HW1.out]; exact (Grows.refl _).alloc _
  have S_p : Hid (Blk W1 g5 46 (iL (prodL xs bs 0))) := by unfold Hid; rw [HW1.out, ← Hg5.out]; exact Blk.new _ _ _
  have HW0' := HW0.out
  have HW1' := HW1.out
  clear ha hb hW0 HW1
  go_enter Try.func11, Try.ntmps11
  go_upto_region 1 with fail
  rw [← HW0']
  clear HW0'
  go_upto_region 2 with (refine wpList_alloc_arr rfl 46 rfl _ zero256 ?_)
  rw [← HW1', Hg5.out]
  clear HW1'
  go_wp2_with fail
  go_loopw [6] (fun v wr => ∃ i : Nat, i ≤ 128 ∧ v = .int .i64 (i : Int) ∧ Grows W0 wr ∧ Hid (Blk wr g5 46 (iL (prodL xs bs i)))) (fun v _ => 128 - (intOf v).toNat)
  case atStart => exact ⟨0, by omega, rfl, hg1, S_p⟩
  case round =>
    clear S_p hg1
    obtain ⟨i, hi, rfl, hgr, HP⟩ := hrel
    by_cases hlt : i < 128
    · have hki : (i : Int) < 128 := by omega
      have HA := lib_hid (HB0.out.grows hgr)
      go_wp2_with (refine wpList_load_blk rfl _ _ rfl w.heap.size rfl 22 ((xs).map b8).toArray _ HA.out Try.underlying22 rfl (by rw [Try.size16]; simp [xl.out]) ?_)
      refine (Hata.out i hlt wr).mono ?_
      rintro e w1 ⟨rfl, hg1⟩
      have hgr1 := hgr.trans hg1
      by_cases h0 : bitN xs i = 0
      · rw [h0]
        have HP2 : Hid (Blk w1 g5 46 (iL (prodL xs bs (i + 1)))) := by unfold Hid; rw [prodL, if_pos h0]; exact HP.out.grows hg1
        clear HP HA hgr hg1 h0
        go_wp2
        go_roundw
        case rel => exact ⟨i + 1, by omega, by go_num, hgr1, HP2⟩
        case measure => simp [intOf]; omega
      · have h1 : bitN xs i = 1 := by have := bitN_le xs i; omega
        rw [h1]
        obtain ⟨P, HPP, Pl, PB⟩ : ∃ P, Hid (prodL xs bs i = P) ∧ Hid (P.length = 256) ∧ Hid (∀ j, P.getD j 0 ≤ 128 * i) := ⟨_, lib_hid rfl, prodL_len _ _ _, prodL_le _ _ i hi⟩
        have HP2 : Hid (Blk w1 g5 46 (iL (rowL bs i 0 P))) := by unfold Hid; rw [← HPP.out]; exact HP.out.grows hg1
        have H0 := lib_hid h0
        clear HP HA hgr hg1 h0 h1
        go_wp2_with fail
        go_loopw [7] (fun v wr => ∃ k : Nat, k ≤ 128 ∧ v = .int .i64 (k : Int) ∧ Grows W0 wr ∧ Hid (Blk wr g5 46 (iL (rowL bs i k P)))) (fun v _ => 128 - (intOf v).toNat)
        case atStart => exact ⟨0, by omega, rfl, hgr1, HP2⟩
        case round =>
          clear HP2 hgr1
          obtain ⟨k, hk, rfl, hgr, HR⟩ := hrel
          by_cases hlt2 : k < 128
          · have hkk : (k : Int) < 128 := by omega
            obtain ⟨j, hj, Hj, hjb⟩ : ∃ j : Nat, (i : Int) + (k : Int) = (j : Int) ∧ Hid (j = i + k) ∧ (j : Int) < 256 := ⟨i + k, by omega, lib_hid rfl, by omega⟩
            obtain ⟨x, Hx, hxb⟩ : ∃ x : Nat, Hid ((rowL bs i k P).getD j 0 = x) ∧ (x : Int) ≤ 20000 := ⟨_, lib_hid rfl, by
              have := rowL_le bs i P Pl.out hlt _ PB.out k hk j
              omega⟩
            obtain ⟨y, Hy, hyb⟩ : ∃ y : Nat, Hid (bitN bs k = y) ∧ (y : Int) ≤ 1 := ⟨_, lib_hid rfl, by have := bitN_le bs k; omega⟩
            obtain ⟨z, hz, Hz⟩ : ∃ z : Nat, (x : Int) + (y : Int) = (z : Int) ∧ Hid (z = x + y) := ⟨x + y, by omega, lib_hid rfl⟩
            have hjl : j < (rowL bs i k P).length := by rw [rowL_len, Pl.out]; omega
            have co : Hid (∀ W, Grows wr W → W.cell? ⟨g5, j, none⟩ = some (.int .i64 (x : Int))) := fun W hW => by rw [← Hx.out]; exact cellL (HR.out.grows hW) j hjl
            have Hcall : Hid (∀ W, Calls Try.prog 24 #[.agg (bs.map b8).toArray, .int .i64 (k : Int)] W fun e w' => e = .returned (.int .i64 (y : Int)) ∧ Grows W w') := fun W => by rw [← Hy.out]; exact Hatb.out k hlt2 W
            have HBr := lib_hid (HB1.out.grows hgr)
            clear hjl
            go_upto_region 9 with fail
            apply wp_region_mono 10 ((.is _, []) :: (.is _, []) :: (.is _, []) :: (.is _, []) :: (.is _, []) :: (.is (.agg (bs.map b8).toArray), []) :: (.is _, []) :: (.is (.int .i64 (y : Int)), []) :: (.is _, []) :: (.is _, []) :: []) (by kernel_rfl) (by kernel_rfl)
            iterate 4
              apply Mono.is0
              · kernel_rfl
              · intro W hW
                go_wp2
                refine ⟨rfl, rfl, Grows.refl _, ?_⟩
                unfold Oper.valAt
                go_simp
                rfl
              intro k1 a1 hk1 ha1
              simp only [Nat.reduceAdd] at hk1
              simp only [Act.put, List.setIfInBounds_toArray, List.set_cons_succ, List.set_cons_zero] at ha1
              subst hk1 ha1
            apply Mono.is0
            · kernel_rfl
            · intro W hW
              have cx := co.out W hW
              go_wp2
              refine ⟨rfl, rfl, Grows.refl _, ?_⟩
              unfold Oper.valAt
              go_simp
              rfl
            intro k1 a1 hk1 ha1
            simp only [Nat.reduceAdd] at hk1
            simp only [Act.put, List.setIfInBounds_toArray, List.set_cons_succ, List.set_cons_zero] at ha1
            subst hk1 ha1
            apply Mono.is0
            · kernel_rfl
            · intro W hW 
              go_wp2_with (refine wpList_load_blk (by kernel_rfl) _ _ rfl (w.heap.size + 1) rfl 22 ((bs).map b8).toArray _ (HBr.out.grows hW) Try.underlying22 rfl (by rw [Try.size16]; simp [bl.out]) ?_)
              exact ⟨rfl, rfl, Grows.refl _, rfl⟩
            intro k1 a1 hk1 ha1
            simp only [Nat.reduceAdd] at hk1
            simp only [Act.put, List.setIfInBounds_toArray, List.set_cons_succ, List.set_cons_zero] at ha1
            subst hk1 ha1
            apply Mono.is0
            · kernel_rfl
            · intro W hW
              go_wp2
              refine ⟨rfl, rfl, Grows.refl _, ?_⟩
              unfold Oper.valAt
              go_simp
              rfl
            intro k1 a1 hk1 ha1
            simp only [Nat.reduceAdd] at hk1
            simp only [Act.put, List.setIfInBounds_toArray, List.set_cons_succ, List.set_cons_zero] at ha1
            subst hk1 ha1
            apply Mono.is0
            · kernel_rfl
            · intro W hW 
              go_wp2_with fail
              refine (Hcall.out W).mono ?_
              rintro e w9 ⟨rfl, hg9⟩
              go_wp2
              exact ⟨rfl, rfl, hg9, rfl⟩
            intro k1 a1 hk1 ha1
            simp only [Nat.reduceAdd] at hk1
            simp only [Act.put, List.setIfInBounds_toArray, List.set_cons_succ, List.set_cons_zero] at ha1
            subst hk1 ha1
            iterate 2
              apply Mono.is0
              · kernel_rfl
              · intro W hW
                go_wp2
                refine ⟨rfl, rfl, Grows.refl _, ?_⟩
                unfold Oper.valAt
                go_simp
                rfl
              intro k1 a1 hk1 ha1
              simp only [Nat.reduceAdd] at hk1
              simp only [Act.put, List.setIfInBounds_toArray, List.set_cons_succ, List.set_cons_zero] at ha1
              subst hk1 ha1
            refine Mono.done ?_
            intro wm hgm
            simp only [allF, List.drop_succ_cons, List.drop_zero]
            have cz := co.out wm hgm
            have fz : wm.frozen? ⟨g5, j, none⟩ = false := (HR.out.grows hgm).frozen j
            obtain ⟨w2, Hw2⟩ : ∃ X : World, Hid (X = wm.setCell ⟨g5, j, none⟩ (.int .i64 (z : Int))) := ⟨_, lib_hid rfl⟩
            have hgr3 : Grows W0 w2 := by
              rw [Hw2.out]
              exact (hgr.trans hgm).setCell (p := ⟨g5, j, none⟩) (by show W0.heap.size ≤ g5; rw [← Hg5.out]; exact Nat.le_refl _) _
            have Y : Hid (Blk w2 g5 46 (iL (rowL bs i (k + 1) P))) := by
              unfold Hid; rw [Hw2.out, rowL, addL, ← Hj.out, Hx.out, Hy.out, ← Hz.out]; exact blk_setL (HR.out.grows hgm) j z
            have Hw2' := Hw2.out
            clear HR hgr hgm co HBr
            go_wp2_with fail
            rw [← Hw2']
            clear Hw2'
            go_roundw
            case rel => exact ⟨k + 1, by omega, by go_num, hgr3, Y⟩
            case measure => simp [intOf]; omega
          · have hkk : ¬ (k : Int) < 128 := by omega
            have HP3 : Hid (Blk wr g5 46 (iL (prodL xs bs (i + 1)))) := by
              have e : k = 128 := by omega
              have := HR.out
              rw [e] at this
              unfold Hid; rw [prodL, if_neg H0.out, HPP.out]; exact this
            clear HR
            go_wp2_with fail
            go_roundw
            case rel => exact ⟨i + 1, by omega, by go_num, hgr, HP3⟩
            case measure => simp [intOf]; omega
    · have Hi : Hid (i = 128) := by unfold Hid; omega
      have hki : ¬ (i : Int) < 128 := by omega
      obtain ⟨P, HPP, Pl, PB⟩ : ∃ P, Hid (prodL xs bs 128 = P) ∧ Hid (P.length = 256) ∧ Hid (∀ j, P.getD j 0 ≤ 16384) := ⟨_, lib_hid rfl, prodL_len _ _ _, prodL_le _ _ 128 (by omega)⟩
      have HP2 : Hid (Blk wr g5 46 (iL (downL 0 P))) := by have := HP.out; rw [Hi.out, HPP.out] at this; exact this
      have hgr0 := hgr
      clear HP hgr
      go_wp2_with fail
      clear hki hlt hi
      go_loopw [8] (fun v wr => ∃ t i : Nat, t ≤ 127 ∧ Hid (i + t = 254) ∧ v = .int .i64 (i : Int) ∧ Grows W0 wr ∧ Hid (Blk wr g5 46 (iL (downL t P)))) (fun v _ => (intOf v).toNat)
      case atStart => exact ⟨0, 254, by omega, lib_hid rfl, rfl, hgr0, HP2⟩
      case round =>
        clear HP2 hgr0
        obtain ⟨t, i, ht, Hti, rfl, hgr, HR⟩ := hrel
        have hb1 : i ≤ 254 := by have := Hti.out; omega
        have hb2 : 127 ≤ i := by have := Hti.out; omega
        by_cases hlt : 128 ≤ i
        · have hki : (128 : Int) ≤ (i : Int) := by omega
          have hi255 : (i : Int) < 256 := by omega
          obtain ⟨p, Hp, pl, pB⟩ : ∃ p, Hid (downL t P = p) ∧ Hid (p.length = 256) ∧ Hid (∀ j, p.getD j 0 ≤ 20000) := ⟨_, lib_hid rfl, by unfold Hid; rw [downL_len]; exact Pl.out, fun j => by
            have := downL_le P Pl.out 16384 PB.out t ht j; omega⟩
          have HPp : Hid (Blk wr g5 46 (iL p)) := by have := HR.out; rw [Hp.out] at this; exact this
          obtain ⟨x, Hx, hxb⟩ : ∃ x : Nat, Hid (p.getD i 0 = x) ∧ (x : Int) ≤ 20000 := ⟨_, lib_hid rfl, by have := pB.out i; omega⟩
          have c0 : wr.cell? ⟨g5, i, none⟩ = some (.int .i64 (x : Int)) := by rw [← Hx.out]; exact cellL HPp.out i (by rw [pl.out]; omega)
          obtain ⟨i1, hi1, Hi1⟩ : ∃ j : Nat, (i : Int) - 1 = (j : Int) ∧ Hid (j + 1 = i) := ⟨i - 1, by omega, by unfold Hid; omega⟩
          have Ht := lib_hid ht
          have Hb := lib_hid (And.intro hb1 (And.intro hb2 hlt))
          clear HR ht hb1 hb2
          by_cases ho : x % 2 = 1
          · have hx2 : (x : Int).tmod 2 = 1 := by rw [Int.tmod_eq_emod_of_nonneg (by omega)]; omega
            obtain ⟨j0, hj0, Hj0, hjb0⟩ : ∃ j : Nat, (i : Int) - 128 = (j : Int) ∧ Hid (j = i - 128) ∧ (j : Int) < 256 := ⟨i - 128, by omega, lib_hid rfl, by omega⟩
            obtain ⟨j1, hj1, Hj1, hjb1⟩ : ∃ j : Nat, (i : Int) - 127 = (j : Int) ∧ Hid (j = i - 127) ∧ (j : Int) < 256 := ⟨i - 127, by omega, lib_hid rfl, by omega⟩
            obtain ⟨j2, hj2, Hj2, hjb2⟩ : ∃ j : Nat, (i : Int) - 126 = (j : Int) ∧ Hid (j = i - 126) ∧ (j : Int) < 256 := ⟨i - 126, by omega, lib_hid rfl, by omega⟩
            obtain ⟨j3, hj3, Hj3, hjb3⟩ : ∃ j : Nat, (i : Int) - 121 = (j : Int) ∧ Hid (j = i - 121) ∧ (j : Int) < 256 := ⟨i - 121, by omega, lib_hid rfl, by omega⟩
            have Ho := lib_hid ho
            clear ho hlt
            go_upto_region 14 with fail
            clear c0 hx2
            obtain ⟨y0, Hy0, hyb0⟩ : ∃ y : Nat, Hid (p.getD j0 0 = y) ∧ (y : Int) ≤ 30000 := ⟨_, lib_hid rfl, by have := pB.out j0; omega⟩
            have cc0 : wr.cell? ⟨g5, j0, none⟩ = some (.int .i64 (y0 : Int)) := by rw [← Hy0.out]; exact cellL HPp.out j0 (by rw [pl.out]; omega)
            have ff0 := HPp.out.frozen j0
            obtain ⟨z0, hz0, Hz0⟩ : ∃ z : Nat, (y0 : Int) + 1 = (z : Int) ∧ Hid (z = y0 + 1) := ⟨y0 + 1, by omega, lib_hid rfl⟩
            obtain ⟨V0, HV0⟩ : ∃ X : World, Hid (X = wr.setCell ⟨g5, j0, none⟩ (.int .i64 (z0 : Int))) := ⟨_, lib_hid rfl⟩
            obtain ⟨p0, Hp0, p0l, p0B⟩ : ∃ q, Hid (addL p j0 1 = q) ∧ Hid (q.length = 256) ∧ Hid (∀ j, q.getD j 0 ≤ 20001) := ⟨_, lib_hid rfl, by unfold Hid; rw [addL_len]; exact pl.out, fun j => by
              rw [addL_at _ _ _ _ (by rw [pl.out]; omega)]
              split
              · have := pB.out j0; omega
              · have := pB.out j; omega⟩
            have HPp0 : Hid (Blk V0 g5 46 (iL p0)) := by unfold Hid; rw [HV0.out, ← Hp0.out, addL, Hy0.out, ← Hz0.out]; exact blk_setL HPp.out j0 z0
            have hgV0 : Grows W0 V0 := by
              rw [HV0.out]
              exact hgr.setCell (p := ⟨g5, j0, none⟩) (by show W0.heap.size ≤ g5; rw [← Hg5.out]; exact Nat.le_refl _) _
            have HV0' := HV0.out
            clear HPp
            go_upto_region 15 with fail
            rw [← HV0']
            clear HV0' cc0 ff0 hz0 hyb0
            obtain ⟨y1, Hy1, hyb1⟩ : ∃ y : Nat, Hid (p0.getD j1 0 = y) ∧ (y : Int) ≤ 30000 := ⟨_, lib_hid rfl, by have := p0B.out j1; omega⟩
            have cc1 : V0.cell? ⟨g5, j1, none⟩ = some (.int .i64 (y1 : Int)) := by rw [← Hy1.out]; exact cellL HPp0.out j1 (by rw [p0l.out]; omega)
            have ff1 := HPp0.out.frozen j1
            obtain ⟨z1, hz1, Hz1⟩ : ∃ z : Nat, (y1 : Int) + 1 = (z : Int) ∧ Hid (z = y1 + 1) := ⟨y1 + 1, by omega, lib_hid rfl⟩
            obtain ⟨V1, HV1⟩ : ∃ X : World, Hid (X = V0.setCell ⟨g5, j1, none⟩ (.int .i64 (z1 : Int))) := ⟨_, lib_hid rfl⟩
            obtain ⟨p1, Hp1, p1l, p1B⟩ : ∃ q, Hid (addL p0 j1 1 = q) ∧ Hid (q.length = 256) ∧ Hid (∀ j, q.getD j 0 ≤ 20002) := ⟨_, lib_hid rfl, by unfold Hid; rw [addL_len]; exact p0l.out, fun j => by
              rw [addL_at _ _ _ _ (by rw [p0l.out]; omega)]
              split
              · have := p0B.out j1; omega
              · have := p0B.out j; omega⟩
            have HPp1 : Hid (Blk V1 g5 46 (iL p1)) := by unfold Hid; rw [HV1.out, ← Hp1.out, addL, Hy1.out, ← Hz1.out]; exact blk_setL HPp0.out j1 z1
            have hgV1 : Grows W0 V1 := by
              rw [HV1.out]
              exact hgV0.setCell (p := ⟨g5, j1, none⟩) (by show W0.heap.size ≤ g5; rw [← Hg5.out]; exact Nat.le_refl _) _
            have HV1' := HV1.out
            clear HPp0
            go_upto_region 16 with fail
            rw [← HV1']
            clear HV1' cc1 ff1 hz1 hyb1
            obtain ⟨y2, Hy2, hyb2⟩ : ∃ y : Nat, Hid (p1.getD j2 0 = y) ∧ (y : Int) ≤ 30000 := ⟨_, lib_hid rfl, by have := p1B.out j2; omega⟩
            have cc2 : V1.cell? ⟨g5, j2, none⟩ = some (.int .i64 (y2 : Int)) := by rw [← Hy2.out]; exact cellL HPp1.out j2 (by rw [p1l.out]; omega)
            have ff2 := HPp1.out.frozen j2
            obtain ⟨z2, hz2, Hz2⟩ : ∃ z : Nat, (y2 : Int) + 1 = (z : Int) ∧ Hid (z = y2 + 1) := ⟨y2 + 1, by omega, lib_hid rfl⟩
            obtain ⟨V2, HV2⟩ : ∃ X : World, Hid (X = V1.setCell ⟨g5, j2, none⟩ (.int .i64 (z2 : Int))) := ⟨_, lib_hid rfl⟩
            obtain ⟨p2, Hp2, p2l, p2B⟩ : ∃ q, Hid (addL p1 j2 1 = q) ∧ Hid (q.length = 256) ∧ Hid (∀ j, q.getD j 0 ≤ 20003) := ⟨_, lib_hid rfl, by unfold Hid; rw [addL_len]; exact p1l.out, fun j => by
              rw [addL_at _ _ _ _ (by rw [p1l.out]; omega)]
              split
              · have := p1B.out j2; omega
              · have := p1B.out j; omega⟩
            have HPp2 : Hid (Blk V2 g5 46 (iL p2)) := by unfold Hid; rw [HV2.out, ← Hp2.out, addL, Hy2.out, ← Hz2.out]; exact blk_setL HPp1.out j2 z2
            have hgV2 : Grows W0 V2 := by
              rw [HV2.out]
              exact hgV1.setCell (p := ⟨g5, j2, none⟩) (by show W0.heap.size ≤ g5; rw [← Hg5.out]; exact Nat.le_refl _) _
            have HV2' := HV2.out
            clear HPp1
            go_upto_region 17 with fail
            rw [← HV2']
            clear HV2' cc2 ff2 hz2 hyb2
            obtain ⟨y3, Hy3, hyb3⟩ : ∃ y : Nat, Hid (p2.getD j3 0 = y) ∧ (y : Int) ≤ 30000 := ⟨_, lib_hid rfl, by have := p2B.out j3; omega⟩
            have cc3 : V2.cell? ⟨g5, j3, none⟩ = some (.int .i64 (y3 : Int)) := by rw [← Hy3.out]; exact cellL HPp2.out j3 (by rw [p2l.out]; omega)
            have ff3 := HPp2.out.frozen j3
            obtain ⟨z3, hz3, Hz3⟩ : ∃ z : Nat, (y3 : Int) + 1 = (z : Int) ∧ Hid (z = y3 + 1) := ⟨y3 + 1, by omega, lib_hid rfl⟩
            obtain ⟨V3, HV3⟩ : ∃ X : World, Hid (X = V2.setCell ⟨g5, j3, none⟩ (.int .i64 (z3 : Int))) := ⟨_, lib_hid rfl⟩
            obtain ⟨p3, Hp3, p3l, p3B⟩ : ∃ q, Hid (addL p2 j3 1 = q) ∧ Hid (q.length = 256) ∧ Hid (∀ j, q.getD j 0 ≤ 20004) := ⟨_, lib_hid rfl, by unfold Hid; rw [addL_len]; exact p2l.out, fun j => by
              rw [addL_at _ _ _ _ (by rw [p2l.out]; omega)]
              split
              · have := p2B.out j3; omega
              · have := p2B.out j; omega⟩
            have HPp3 : Hid (Blk V3 g5 46 (iL p3)) := by unfold Hid; rw [HV3.out, ← Hp3.out, addL, Hy3.out, ← Hz3.out]; exact blk_setL HPp2.out j3 z3
            have hgV3 : Grows W0 V3 := by
              rw [HV3.out]
              exact hgV2.setCell (p := ⟨g5, j3, none⟩) (by show W0.heap.size ≤ g5; rw [← Hg5.out]; exact Nat.le_refl _) _
            have HV3' := HV3.out
            clear HPp2
            go_wp2_with fail
            rw [← HV3']
            clear HV3' cc3 ff3 hz3 hyb3
            have HE : Hid (Blk V3 g5 46 (iL (downL (t + 1) P))) := by
              unfold Hid
              rw [downL, Hp.out, show 254 - t = i by have := Hti.out; omega, stepL, if_pos (by rw [Hx.out]; exact Ho.out), ← Hj0.out, ← Hj1.out, ← Hj2.out, ← Hj3.out, Hp0.out, Hp1.out, Hp2.out, Hp3.out]
              exact HPp3.out
            go_roundw
            case rel => exact ⟨t + 1, i1, by have := Hti.out; have := Hb.out; omega, by unfold Hid; have := Hti.out; have := Hi1.out; omega, rfl, hgV3, HE⟩
            case measure => simp [intOf]; have := Hi1.out; omega
          · have hx2 : (x : Int).tmod 2 = 0 := by rw [Int.tmod_eq_emod_of_nonneg (by omega)]; omega
            have HE : Hid (Blk wr g5 46 (iL (downL (t + 1) P))) := by
              unfold Hid
              rw [downL, Hp.out, show 254 - t = i by have := Hti.out; omega, stepL, if_neg (by rw [Hx.out]; exact ho)]
              exact HPp.out
            clear ho HPp hlt
            go_wp2_with fail
            go_roundw
            case rel => exact ⟨t + 1, i1, by have := Hti.out; have := Hb.out; omega, by unfold Hid; have := Hti.out; have := Hi1.out; omega, rfl, hgr, HE⟩
            case measure => simp [intOf]; have := Hi1.out; omega
        · have hki : ¬ (128 : Int) ≤ (i : Int) := by omega
          obtain ⟨D, HD, Dl, DB⟩ : ∃ D, Hid (downL 127 P = D) ∧ Hid (D.length = 256) ∧ Hid (∀ j, D.getD j 0 ≤ 20000) := ⟨_, lib_hid rfl, by unfold Hid; rw [downL_len]; exact Pl.out, fun j => by
            have := downL_le P Pl.out 16384 PB.out 127 (by omega) j; omega⟩
          have HDb : Hid (Blk wr g5 46 (iL D)) := by
            have e : t = 127 := by have := Hti.out; omega
            have := HR.out; rw [e, HD.out] at this; exact this
          clear HR hb1 hb2 ht
          obtain ⟨g9, Hg9⟩ : ∃ x, Hid (wr.heap.size = x) := ⟨_, lib_hid rfl⟩
          obtain ⟨W3, HW3⟩ : ∃ X : World, Hid (X = wr.alloc (.cells #[.int .u8 0, .int .u8 0, .int .u8 0, .int .u8 0, .int .u8 0, .int .u8 0, .int .u8 0, .int .u8 0, .int .u8 0, .int .u8 0, .int .u8 0, .int .u8 0, .int .u8 0, .int .u8 0, .int .u8 0, .int .u8 0] 22)) := ⟨_, lib_hid rfl⟩
          have hg3 : Grows W0 W3 := by rw [HW3.out]; exact hgr.alloc _
          have HD3 : Hid (Blk W3 g5 46 (iL D)) := by unfold Hid; rw [HW3.out]; exact HDb.out.alloc _
          have S_o : Hid (Blk W3 g9 22 ((outL D 0).map b8).toArray) := by unfold Hid; rw [HW3.out, ← Hg9.out, outL, ← zeros16]; exact Blk.new _ _ _
          have hw9 : W0.heap.size ≤ g9 := by rw [← Hg9.out]; exact hgr.le
          have hne : Hid (g5 ≠ g9) := fun e => by
            have := HDb.out.lt
            rw [Hg9.out] at this
            omega
          have HW3' := HW3.out
          clear HDb hgr HW3 hlt
          go_upto_region 19 with fail
          rw [← HW3', Hg9.out]
          clear HW3' hki
          go_wp2_with fail
          go_loopw [10] (fun v wr => ∃ i : Nat, i ≤ 128 ∧ v = .int .i64 (i : Int) ∧ Grows W0 wr ∧ Hid (Blk wr g5 46 (iL D)) ∧ Hid (Blk wr g9 22 ((outL D i).map b8).toArray)) (fun v _ => 128 - (intOf v).toNat)
          case atStart => exact ⟨0, by omega, rfl, hg3, HD3, S_o⟩
          case round =>
            clear S_o HD3 hg3
            obtain ⟨i, hi, rfl, hgr, HDr, HOr⟩ := hrel
            by_cases hlt : i < 128
            · have hki : (i : Int) < 128 := by omega
              obtain ⟨x, Hx, hxb⟩ : ∃ x : Nat, Hid (D.getD i 0 = x) ∧ (x : Int) ≤ 20000 := ⟨_, lib_hid rfl, by have := DB.out i; omega⟩
              have c0 : wr.cell? ⟨g5, i, none⟩ = some (.int .i64 (x : Int)) := by rw [← Hx.out]; exact cellL HDr.out i (by rw [Dl.out]; omega)
              by_cases ho : x % 2 = 1
              · have hx2 : (x : Int).tmod 2 = 1 := by rw [Int.tmod_eq_emod_of_nonneg (by omega)]; omega
                obtain ⟨q, r, s, hq, hr, hs, Hq, Hs, hq16, hr8, hs8⟩ : ∃ q r s : Nat, (i : Int).tdiv 8 = (q : Int) ∧ (i : Int).tmod 8 = (r : Int) ∧ (7 : Int) - (r : Int) = (s : Int) ∧ Hid (i / 8 = q) ∧ Hid (7 - i % 8 = s) ∧ (q : Int) < 16 ∧ (r : Int) < 8 ∧ s < 8 :=
                  ⟨i / 8, i % 8, 7 - i % 8, by rw [Int.tdiv_eq_ediv_of_nonneg (by omega)]; omega, by rw [Int.tmod_eq_emod_of_nonneg (by omega)]; omega, by omega, lib_hid rfl, lib_hid rfl, by omega, by omega, by omega⟩
                obtain ⟨y, Hy⟩ : ∃ y, Hid ((outL D i).getD q 0 = y) := ⟨_, lib_hid rfl⟩
                have hql : q < (outL D i).length := by rw [outL_len]; omega
                have c1 : wr.cell? ⟨g9, q, none⟩ = some (b8 y) := by
                  rw [HOr.out.cell, List.getElem?_toArray, List.getElem?_map, List.getElem?_eq_getElem hql, ← Hy.out, List.getD_eq_getElem?_getD, List.getElem?_eq_getElem hql]; rfl
                have f1 := HOr.out.frozen q
                obtain ⟨m, Hm, hm⟩ : ∃ m : UInt8, Hid ((1 : UInt8) <<< UInt8.ofNat s = m) ∧ IntKind.u8.wrap (2 ^ s) = (m.toNat : Int) := ⟨_, lib_hid rfl, by
                  have := u8_shl 1 s hs8
                  rw [← this, show ((1 : UInt8).toNat : Int) = 1 from rfl, Int.one_mul]⟩
                obtain ⟨z, Hz, hz⟩ : ∃ z : UInt8, Hid (y ||| m = z) ∧ bits .or .u8 (y.toNat : Int) (m.toNat : Int) = (z.toNat : Int) := ⟨_, lib_hid rfl, u8_or y m⟩
                obtain ⟨w2, Hw2⟩ : ∃ X : World, Hid (X = (wr.setCell ⟨g9, q, none⟩ (.int .u8 (z.toNat : Int))).drew) := ⟨_, lib_hid rfl⟩
                have hgr3 : Grows W0 w2 := by rw [Hw2.out]; exact (hgr.setCell (p := ⟨g9, q, none⟩) hw9 _).drew
                have Y5 : Hid (Blk w2 g5 46 (iL D)) := by unfold Hid; rw [Hw2.out]; exact HDr.out.far (p := ⟨g9, q, none⟩) hne.out _
                have Y9 : Hid (Blk w2 g9 22 ((outL D (i + 1)).map b8).toArray) := by
                  unfold Hid
                  rw [Hw2.out, outL, if_pos (by rw [Hx.out]; exact ho), Hq.out, Hs.out, Hy.out, Hm.out, Hz.out]
                  have := HOr.out.set q (b8 z)
                  rw [List.setIfInBounds_toArray, ← List.map_set] at this
                  exact this
                have Hw2' := Hw2.out
                clear HDr HOr hgr hql ho
                go_upto_region 23 with fail
                clear c0 hx2 hxb
                go_region
                rw [← Hw2']
                clear Hw2' c1 f1 hz hm
                go_wp2_with fail
                go_roundw
                case rel => exact ⟨i + 1, by omega, by go_num, hgr3, Y5, Y9⟩
                case measure => simp [intOf]; omega
              · have hx2 : (x : Int).tmod 2 = 0 := by rw [Int.tmod_eq_emod_of_nonneg (by omega)]; omega
                have Y9 : Hid (Blk wr g9 22 ((outL D (i + 1)).map b8).toArray) := by
                  unfold Hid
                  rw [outL, if_neg (by rw [Hx.out]; exact ho)]
                  exact HOr.out
                clear HOr ho
                go_wp2_with fail
                go_roundw
                case rel => exact ⟨i + 1, by omega, by go_num, hgr, HDr, Y9⟩
                case measure => simp [intOf]; omega
            · have hki : ¬ (i : Int) < 128 := by omega
              have Hi : Hid (i = 128) := by unfold Hid; omega
              obtain ⟨res, Hres, hrl, hra⟩ : ∃ r : Array Value, Hid (((outL D 128).map b8).toArray = r) ∧ r.size = 16 ∧ r.all (·.oneCell') = true := ⟨_, lib_hid rfl, by simp [outL_len], cells_all _⟩
              have HO : Hid (Blk wr g9 22 res) := by have := HOr.out; rw [Hi.out, Hres.out] at this; exact this
              have HR4 := lib_hid (HB2.out.grows hgr)
              have hgw := hg0.trans hgr
              have HF : Hid (((refMulF xs bs).map b8).toArray = res) := by unfold Hid refMulF; rw [HPP.out, HD.out]; exact Hres.out
              clear HOr hi hlt
              go_wp2_with (first
                | (refine wpList_load_blk rfl _ _ rfl g9 rfl 22 res _ HO.out Try.underlying22 rfl (by rw [Try.size16, hrl]) ?_)
                | (refine wpList_store_blk rfl _ _ _ rfl (w.heap.size + 2) res rfl rfl 22 _ HR4.out (by rw [Try.size16, hrl]) (by simp [hrl]) hra (w.heap.size + 2) wr (Below.refl _ _) (Nat.le_refl _) ?_; intro w7 HR7 hb7 hgr7))
              refine bodyPost_ret (results_cell_row rfl _ _ (w.heap.size + 2) _ res _ _ rfl HR7 Try.underlying22 rfl (by rw [Try.size16, hrl])) rfl ?_
              exact ⟨by rw [HF.out], Below.trans hgw (hb7.mono (by omega))⟩

end Go.Proofs.Ytlnldflnanllmaa
