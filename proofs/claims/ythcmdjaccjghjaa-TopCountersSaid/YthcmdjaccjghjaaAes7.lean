/-
  aes: made.
-/
import Derived.Test.YthcmdjaccjghjaaAes4
import Derived.Deep.Cut
namespace Go.Proofs.Ythcmdjaccjghjaa
open Go Go.RowKit
set_option linter.unusedSimpArgs false
set_option linter.unusedVariables false


def Z512 : Array Value := ((List.replicate 512 (0 : UInt8)).map b8).toArray
theorem Try.infoTab : (Try.prog.info? 84).map (·.zero) = some (some (.agg Z512)) := by kernel_rfl
theorem zero_tab (W : World) : Sem.run Try.prog (zeroValue 84) W = .ok (.agg Z512) W := by
  obtain ⟨i, hi, hz⟩ := Option.map_eq_some_iff.1 Try.infoTab
  simp [zeroValue, typeInfo, hi, hz]
def qF (q : UInt8) : UInt8 :=
  if 128 ≤ ((q ^^^ (q <<< 1) ^^^ ((q ^^^ (q <<< 1)) <<< 2)) ^^^ ((q ^^^ (q <<< 1) ^^^ ((q ^^^ (q <<< 1)) <<< 2)) <<< 4)).toNat
  then ((q ^^^ (q <<< 1) ^^^ ((q ^^^ (q <<< 1)) <<< 2)) ^^^ ((q ^^^ (q <<< 1) ^^^ ((q ^^^ (q <<< 1)) <<< 2)) <<< 4)) ^^^ 9
  else ((q ^^^ (q <<< 1) ^^^ ((q ^^^ (q <<< 1)) <<< 2)) ^^^ ((q ^^^ (q <<< 1) ^^^ ((q ^^^ (q <<< 1)) <<< 2)) <<< 4))
/-- The tables' making, behind so many rounds. -/
def boxS : Nat → UInt8 × UInt8 × List UInt8
  | 0 => (1, 1, List.replicate 256 0)
  | k + 1 => ((boxS k).1 ^^^ dblF (boxS k).1, qF (boxS k).2.1, (boxS k).2.2.set ((boxS k).1 ^^^ dblF (boxS k).1).toNat (turnedF (qF (boxS k).2.1) 4 ^^^ 99))
def tabF : List UInt8 := (boxS 255).2.2.set 0 99
/-- A block of tables. -/
def TabR (w : World) (g : Nat) : Prop := ∃ bk : List UInt8, bk.length = 256 ∧ Blk w g 84 ((tabF ++ bk).map b8).toArray
set_option maxRecDepth 100000 in
set_option maxHeartbeats 4000000 in
theorem made_any (w : World) :
    Calls Try.prog 18 #[] w fun e w' => e = .returned (.pointer (some ⟨w.heap.size, 0, none⟩)) ∧ Grows w w' ∧ TabR w' w.heap.size := by
  obtain ⟨Z, HZ, hz⟩ : ∃ Z, Hid (Z512 = Z) ∧ ∀ W, Sem.run Try.prog (zeroValue 84) W = .ok (.agg Z) W := ⟨Z512, lib_hid rfl, zero_tab⟩
  have HB0 : Hid (Blk (w.alloc (.cells Z 84)) w.heap.size 84 ((List.replicate 256 (0 : UInt8) ++ List.replicate 256 0).map b8).toArray) := by
    unfold Hid
    have e : ((List.replicate 256 (0 : UInt8) ++ List.replicate 256 0).map b8).toArray = Z := by rw [← HZ.out, Z512, List.replicate_append_replicate]
    rw [e]
    exact Blk.new w _ _
  have hg0 : Grows w (w.alloc (.cells Z 84)) := (Grows.refl w).alloc _
  obtain ⟨g, Hg⟩ : ∃ g, Hid (w.heap.size = g) := ⟨_, lib_hid rfl⟩
  rw [Hg.out] at HB0
  go_enter Try.func18, Try.ntmps18
  go_upto_region 2 with fail
  rw [Hg.out]
  clear hz HZ
  go_wp2
  go_loopw [2, 3, 7] (fun a b i wr => ∃ (k : Nat) (p q : UInt8) (t : List UInt8), k ≤ 255 ∧ i = .int .i64 (k : Int) ∧ a = .int .u8 (p.toNat : Int) ∧ b = .int .u8 (q.toNat : Int) ∧ Hid (boxS k = (p, q, t)) ∧ Hid (t.length = 256) ∧ Grows w wr ∧ Hid (Blk wr g 84 ((t ++ List.replicate 256 0).map b8).toArray)) (fun _ _ i _ => 255 - (intOf i).toNat)
  case atStart => exact ⟨0, 1, 1, List.replicate 256 0, Nat.zero_le _, rfl, rfl, rfl, lib_hid rfl, lib_hid (by simp), hg0, HB0⟩
  case round =>
    obtain ⟨k, p, q, t, hk, rfl, rfl, rfl, Hst, htl, hgr, HB⟩ := hrel
    clear hg0 HB0
    by_cases hlt : k < 255
    · have hki : (k : Int) < 255 := by omega
      obtain ⟨d, Hd⟩ : ∃ x, Hid (dblF p = x) := ⟨_, lib_hid rfl⟩
      obtain ⟨p1, Hp1⟩ : ∃ x, Hid (p ^^^ d = x) := ⟨_, lib_hid rfl⟩
      obtain ⟨a1, Ha1⟩ : ∃ x, Hid (q <<< 1 = x) := ⟨_, lib_hid rfl⟩
      obtain ⟨q1, Hq1⟩ : ∃ x, Hid (q ^^^ a1 = x) := ⟨_, lib_hid rfl⟩
      obtain ⟨a2, Ha2⟩ : ∃ x, Hid (q1 <<< 2 = x) := ⟨_, lib_hid rfl⟩
      obtain ⟨q2, Hq2⟩ : ∃ x, Hid (q1 ^^^ a2 = x) := ⟨_, lib_hid rfl⟩
      obtain ⟨a3, Ha3⟩ : ∃ x, Hid (q2 <<< 4 = x) := ⟨_, lib_hid rfl⟩
      obtain ⟨q3, Hq3⟩ : ∃ x, Hid (q2 ^^^ a3 = x) := ⟨_, lib_hid rfl⟩
      obtain ⟨q4, Hq4⟩ : ∃ x, Hid (q3 ^^^ 9 = x) := ⟨_, lib_hid rfl⟩
      have hx0 : bits .xor .u8 (p.toNat : Int) (d.toNat : Int) = (p1.toNat : Int) := by rw [u8_xor, Hp1.out]
      have hs1 : IntKind.u8.wrap ((q.toNat : Int) * 2) = (a1.toNat : Int) := by
        have := u8_shl q 1 (by omega); rw [show q <<< UInt8.ofNat 1 = q <<< 1 from rfl, Ha1.out] at this; exact this
      have hx1 : bits .xor .u8 (q.toNat : Int) (a1.toNat : Int) = (q1.toNat : Int) := by rw [u8_xor, Hq1.out]
      have hs2 : IntKind.u8.wrap ((q1.toNat : Int) * 4) = (a2.toNat : Int) := by
        have := u8_shl q1 2 (by omega); rw [show q1 <<< UInt8.ofNat 2 = q1 <<< 2 from rfl, Ha2.out] at this; exact this
      have hx2 : bits .xor .u8 (q1.toNat : Int) (a2.toNat : Int) = (q2.toNat : Int) := by rw [u8_xor, Hq2.out]
      have hs3 : IntKind.u8.wrap ((q2.toNat : Int) * 16) = (a3.toNat : Int) := by
        have := u8_shl q2 4 (by omega); rw [show q2 <<< UInt8.ofNat 4 = q2 <<< 4 from rfl, Ha3.out] at this; exact this
      have hx3 : bits .xor .u8 (q2.toNat : Int) (a3.toNat : Int) = (q3.toNat : Int) := by rw [u8_xor, Hq3.out]
      have hx4 : bits .xor .u8 (q3.toNat : Int) 9 = (q4.toNat : Int) := by
        have := u8_xor q3 9; rw [Hq4.out] at this; exact this
      have HD : Hid (∀ W, Calls Try.prog 20 #[.int .u8 (p.toNat : Int)] W fun e w' => e = .returned (.int .u8 (d.toNat : Int)) ∧ W = w') := fun W => by rw [← Hd.out]; exact double_any p W
      have hp256 : p1.toNat < 256 := p1.toNat_lt
      have hp256i : (p1.toNat : Int) < 256 := by omega
      by_cases hc : 128 ≤ q3.toNat
      · have hqi : (128 : Int) ≤ (q3.toNat : Int) := by omega
        obtain ⟨tq, Htq⟩ : ∃ x, Hid (turnedF q4 4 = x) := ⟨_, lib_hid rfl⟩
        obtain ⟨z, Hz⟩ : ∃ x, Hid (tq ^^^ 99 = x) := ⟨_, lib_hid rfl⟩
        have HN : Hid (boxS (k + 1) = (p1, q4, t.set p1.toNat z)) := by
          unfold Hid; rw [boxS]; simp only [Hst.out, Hd.out, Hp1.out]; unfold qF; simp only [Ha1.out, Hq1.out, Ha2.out, Hq2.out, Ha3.out, Hq3.out, Hq4.out]; rw [if_pos hc]; rw [show turnedF q4 4 = tq from Htq.out, Hz.out]
        have HTu : Hid (∀ W, Calls Try.prog 45 #[.int .u8 (q4.toNat : Int)] W fun e w' => e = .returned (.int .u8 (tq.toNat : Int)) ∧ Grows W w') := fun W => by rw [← Htq.out]; exact turned_any q4 W
        have Hx5 : Hid (bits .xor .u8 (tq.toNat : Int) 99 = (z.toNat : Int)) := by
          unfold Hid; have := u8_xor tq 99; rw [Hz.out] at this; exact this
        go_wp2_with fail
        refine (HD.out wr).mono ?_
        rintro e w1 ⟨rfl, rfl⟩
        go_wp2
        apply wp_region_mono 8 ((.is _, []) :: (.is _, []) :: (.is _, []) :: (.is (.int .u8 (tq.toNat : Int)), []) :: (.is _, []) :: (.is _, []) :: (.is _, []) :: (.is _, []) :: []) (by kernel_rfl) (by kernel_rfl)
        iterate 3
          apply Mono.is0
          · kernel_rfl
          · intro W hW
            go_wp2
            refine ⟨rfl, rfl, Grows.refl _, ?_⟩
            unfold Oper.valAt
            go_simp
            rfl
          intro k1 a1 hk1 ha1
          simp only [Nat.reduceAdd] at hk1
          simp only [Act.put, List.setIfInBounds_toArray, List.set_cons_succ, List.set_cons_zero] at ha1
          subst hk1 ha1
        apply Mono.is0
        · kernel_rfl
        · intro W hW 
          go_wp2_with fail
          refine (HTu.out W).mono ?_
          rintro e w1 ⟨rfl, hg1⟩
          go_wp2
          exact ⟨rfl, rfl, hg1, rfl⟩
        intro k1 a1 hk1 ha1
        simp only [Nat.reduceAdd] at hk1
        simp only [Act.put, List.setIfInBounds_toArray, List.set_cons_succ, List.set_cons_zero] at ha1
        subst hk1 ha1
        apply Mono.is0
        · kernel_rfl
        · intro W hW
          have hh := Hx5.out
          go_wp2
          refine ⟨rfl, rfl, Grows.refl _, ?_⟩
          unfold Oper.valAt
          go_simp
          rfl
        intro k1 a1 hk1 ha1
        simp only [Nat.reduceAdd] at hk1
        simp only [Act.put, List.setIfInBounds_toArray, List.set_cons_succ, List.set_cons_zero] at ha1
        subst hk1 ha1
        iterate 3
          apply Mono.is0
          · kernel_rfl
          · intro W hW
            go_wp2
            refine ⟨rfl, rfl, Grows.refl _, ?_⟩
            unfold Oper.valAt
            go_simp
            rfl
          intro k1 a1 hk1 ha1
          simp only [Nat.reduceAdd] at hk1
          simp only [Act.put, List.setIfInBounds_toArray, List.set_cons_succ, List.set_cons_zero] at ha1
          subst hk1 ha1
        refine Mono.done ?_
        intro wm hgm
        simp only [allF, List.drop_succ_cons, List.drop_zero]
        have hbm := HB.out.grows hgm
        have hc2 : wm.cell? ⟨g, p1.toNat, none⟩ = some (.int .u8 (((t ++ List.replicate 256 0).getD p1.toNat 0).toNat : Int)) := by
          rw [hbm.cell, List.getElem?_toArray, List.getElem?_map, List.getElem?_eq_getElem (by rw [List.length_append, htl.out]; omega), List.getD_eq_getElem?_getD, List.getElem?_eq_getElem (by rw [List.length_append, htl.out]; omega)]
          rfl
        have hf2 := hbm.frozen p1.toNat
        have hb3 := hbm.set p1.toNat (b8 z)
        rw [List.setIfInBounds_toArray, ← List.map_set, List.set_append_left _ _ (by rw [htl.out]; omega)] at hb3
        have HB3 := lib_hid hb3
        have hg3 : Grows w (wm.setCell ⟨g, p1.toNat, none⟩ (b8 z)) := (hgr.trans hgm).setCell (p := ⟨g, p1.toNat, none⟩) (by show w.heap.size ≤ g; have := Hg.out; omega) _
        clear hb3 hbm hgm HB hgr hx1 hs1 hx2 hs2 hx3 hs3 hx4 hx0 HTu Hx5
        go_wp2
        go_roundw
        case rel => exact ⟨k + 1, p1, q4, t.set p1.toNat z, by omega, by go_num, rfl, rfl, HN, lib_hid (by rw [List.length_set, htl.out]), hg3, HB3⟩
        case measure => simp [intOf]; omega
      · have hqi : ¬ (128 : Int) ≤ (q3.toNat : Int) := by omega
        obtain ⟨tq, Htq⟩ : ∃ x, Hid (turnedF q3 4 = x) := ⟨_, lib_hid rfl⟩
        obtain ⟨z, Hz⟩ : ∃ x, Hid (tq ^^^ 99 = x) := ⟨_, lib_hid rfl⟩
        have HN : Hid (boxS (k + 1) = (p1, q3, t.set p1.toNat z)) := by
          unfold Hid; rw [boxS]; simp only [Hst.out, Hd.out, Hp1.out]; unfold qF; simp only [Ha1.out, Hq1.out, Ha2.out, Hq2.out, Ha3.out, Hq3.out, Hq4.out]; rw [if_neg hc]; rw [show turnedF q3 4 = tq from Htq.out, Hz.out]
        have HTu : Hid (∀ W, Calls Try.prog 45 #[.int .u8 (q3.toNat : Int)] W fun e w' => e = .returned (.int .u8 (tq.toNat : Int)) ∧ Grows W w') := fun W => by rw [← Htq.out]; exact turned_any q3 W
        have Hx5 : Hid (bits .xor .u8 (tq.toNat : Int) 99 = (z.toNat : Int)) := by
          unfold Hid; have := u8_xor tq 99; rw [Hz.out] at this; exact this
        go_wp2_with fail
        refine (HD.out wr).mono ?_
        rintro e w1 ⟨rfl, rfl⟩
        go_wp2
        apply wp_region_mono 8 ((.is _, []) :: (.is _, []) :: (.is _, []) :: (.is (.int .u8 (tq.toNat : Int)), []) :: (.is _, []) :: (.is _, []) :: (.is _, []) :: (.is _, []) :: []) (by kernel_rfl) (by kernel_rfl)
        iterate 3
          apply Mono.is0
          · kernel_rfl
          · intro W hW
            go_wp2
            refine ⟨rfl, rfl, Grows.refl _, ?_⟩
            unfold Oper.valAt
            go_simp
            rfl
          intro k1 a1 hk1 ha1
          simp only [Nat.reduceAdd] at hk1
          simp only [Act.put, List.setIfInBounds_toArray, List.set_cons_succ, List.set_cons_zero] at ha1
          subst hk1 ha1
        apply Mono.is0
        · kernel_rfl
        · intro W hW 
          go_wp2_with fail
          refine (HTu.out W).mono ?_
          rintro e w1 ⟨rfl, hg1⟩
          go_wp2
          exact ⟨rfl, rfl, hg1, rfl⟩
        intro k1 a1 hk1 ha1
        simp only [Nat.reduceAdd] at hk1
        simp only [Act.put, List.setIfInBounds_toArray, List.set_cons_succ, List.set_cons_zero] at ha1
        subst hk1 ha1
        apply Mono.is0
        · kernel_rfl
        · intro W hW
          have hh := Hx5.out
          go_wp2
          refine ⟨rfl, rfl, Grows.refl _, ?_⟩
          unfold Oper.valAt
          go_simp
          rfl
        intro k1 a1 hk1 ha1
        simp only [Nat.reduceAdd] at hk1
        simp only [Act.put, List.setIfInBounds_toArray, List.set_cons_succ, List.set_cons_zero] at ha1
        subst hk1 ha1
        iterate 3
          apply Mono.is0
          · kernel_rfl
          · intro W hW
            go_wp2
            refine ⟨rfl, rfl, Grows.refl _, ?_⟩
            unfold Oper.valAt
            go_simp
            rfl
          intro k1 a1 hk1 ha1
          simp only [Nat.reduceAdd] at hk1
          simp only [Act.put, List.setIfInBounds_toArray, List.set_cons_succ, List.set_cons_zero] at ha1
          subst hk1 ha1
        refine Mono.done ?_
        intro wm hgm
        simp only [allF, List.drop_succ_cons, List.drop_zero]
        have hbm := HB.out.grows hgm
        have hc2 : wm.cell? ⟨g, p1.toNat, none⟩ = some (.int .u8 (((t ++ List.replicate 256 0).getD p1.toNat 0).toNat : Int)) := by
          rw [hbm.cell, List.getElem?_toArray, List.getElem?_map, List.getElem?_eq_getElem (by rw [List.length_append, htl.out]; omega), List.getD_eq_getElem?_getD, List.getElem?_eq_getElem (by rw [List.length_append, htl.out]; omega)]
          rfl
        have hf2 := hbm.frozen p1.toNat
        have hb3 := hbm.set p1.toNat (b8 z)
        rw [List.setIfInBounds_toArray, ← List.map_set, List.set_append_left _ _ (by rw [htl.out]; omega)] at hb3
        have HB3 := lib_hid hb3
        have hg3 : Grows w (wm.setCell ⟨g, p1.toNat, none⟩ (b8 z)) := (hgr.trans hgm).setCell (p := ⟨g, p1.toNat, none⟩) (by show w.heap.size ≤ g; have := Hg.out; omega) _
        clear hb3 hbm hgm HB hgr hx1 hs1 hx2 hs2 hx3 hs3 hx4 hx0 HTu Hx5
        go_wp2
        go_roundw
        case rel => exact ⟨k + 1, p1, q3, t.set p1.toNat z, by omega, by go_num, rfl, rfl, HN, lib_hid (by rw [List.length_set, htl.out]), hg3, HB3⟩
        case measure => simp [intOf]; omega
    · have hki : ¬ (k : Int) < 255 := by omega
      have hkn : Hid (k = 255) := lib_hid (by omega)
      obtain ⟨T0, hT0⟩ : ∃ T0, Hid (t = T0) := ⟨_, lib_hid rfl⟩
      have HT : Hid (t.set 0 99 = tabF) := by unfold Hid tabF; rw [← hkn.out, Hst.out]
      have hc0 : wr.cell? ⟨g, 0, none⟩ = some (.int .u8 (((t ++ List.replicate 256 0).getD 0 0).toNat : Int)) := by
        rw [HB.out.cell, List.getElem?_toArray, List.getElem?_map, List.getElem?_eq_getElem (by rw [List.length_append, htl.out]; omega), List.getD_eq_getElem?_getD, List.getElem?_eq_getElem (by rw [List.length_append, htl.out]; omega)]
        rfl
      have hf0 := HB.out.frozen 0
      have hb3 := HB.out.set 0 (b8 99)
      rw [List.setIfInBounds_toArray, ← List.map_set, List.set_append_left _ _ (by rw [htl.out]; omega), HT.out] at hb3
      have HB3 : Hid (Blk (wr.setCell ⟨g, 0, none⟩ (.int .u8 99)) g 84 ((tabF ++ List.replicate 256 0).map b8).toArray) := lib_hid hb3
      have hg3 : Grows w (wr.setCell ⟨g, 0, none⟩ (.int .u8 99)) := hgr.setCell (p := ⟨g, 0, none⟩) (by show w.heap.size ≤ g; have := Hg.out; omega) _
      obtain ⟨T, hT⟩ : ∃ T, Hid (tabF = T) := ⟨_, lib_hid rfl⟩
      have hTl : Hid (T.length = 256) := by unfold Hid; rw [← hT.out, ← HT.out, List.length_set, htl.out]
      rw [hT.out] at HB3
      clear hb3 HB hgr hT0 T0
      go_wp2
      clear hc0 hf0
      go_loopw [42] (fun i wr => ∃ (k : Nat) (bk : List UInt8), k ≤ 256 ∧ i = .int .i64 (k : Int) ∧ Hid (bk.length = 256) ∧ Grows w wr ∧ Hid (Blk wr g 84 ((T ++ bk).map b8).toArray)) (fun i _ => 256 - (intOf i).toNat)
      case atStart => exact ⟨0, List.replicate 256 0, Nat.zero_le _, rfl, lib_hid (by simp), hg3, HB3⟩
      case round =>
        obtain ⟨m, bk, hm, rfl, hbl, hgr, HB⟩ := hrel
        by_cases hlt2 : m < 256
        · have hmi : (m : Int) < 256 := by omega
          obtain ⟨y, hy⟩ : ∃ y, Hid (T[m]? = some y) := ⟨_, lib_hid (List.getElem?_eq_getElem (by rw [hTl.out]; exact hlt2))⟩
          have hy256 : y.toNat < 256 := y.toNat_lt
          have hyi : (y.toNat : Int) < 256 := by omega
          have hcm : wr.cell? ⟨g, m, none⟩ = some (.int .u8 (y.toNat : Int)) := by
            rw [HB.out.cell, List.getElem?_toArray, List.getElem?_map, List.getElem?_append_left (by rw [hTl.out]; exact hlt2), hy.out]
            rfl
          have hcy : wr.cell? ⟨g, 256 + y.toNat, none⟩ = some (.int .u8 ((bk.getD y.toNat 0).toNat : Int)) := by
            rw [HB.out.cell, List.getElem?_toArray, List.getElem?_map, List.getElem?_append_right (by rw [hTl.out]; omega), hTl.out, show 256 + y.toNat - 256 = y.toNat by omega, List.getElem?_eq_getElem (by rw [hbl.out]; exact hy256), List.getD_eq_getElem?_getD, List.getElem?_eq_getElem (by rw [hbl.out]; exact hy256)]
            rfl
          obtain ⟨u, hu⟩ : ∃ u : UInt8, IntKind.u8.wrap (m : Int) = (u.toNat : Int) := ⟨UInt8.ofNat m, by rw [u8_wrap, UInt8.toNat_ofNat']; omega⟩
          have hfy := HB.out.frozen (256 + y.toNat)
          have hb3 := HB.out.set (256 + y.toNat) (b8 u)
          rw [List.setIfInBounds_toArray, ← List.map_set, List.set_append_right _ _ (by rw [hTl.out]; omega), hTl.out, show 256 + y.toNat - 256 = y.toNat by omega] at hb3
          have HB4 := lib_hid hb3
          have hg4 : Grows w (wr.setCell ⟨g, 256 + y.toNat, none⟩ (b8 u)) := hgr.setCell (p := ⟨g, 256 + y.toNat, none⟩) (by show w.heap.size ≤ g; have := Hg.out; omega) _
          clear hb3 HB hgr
          go_wp2
          go_region
          have HB5 := lib_hid HB4.out.drew
          have hg5 := hg4.drew
          clear HB4 hg4 hcm hcy hfy hu
          go_wp2
          go_roundw
          case rel => exact ⟨m + 1, bk.set y.toNat u, by omega, by go_num, lib_hid (by rw [List.length_set, hbl.out]), hg5, HB5⟩
          case measure => simp [intOf]; omega
        · have hmi : ¬ (m : Int) < 256 := by omega
          go_wp2
          go_ret
          refine ⟨by rw [Hg.out]; rfl, hgr, ?_⟩
          unfold TabR
          rw [Hg.out, hT.out]
          exact ⟨bk, hbl.out, HB.out⟩
end Go.Proofs.Ythcmdjaccjghjaa
