/-
  The law LanesOnce.
-/
import Derived.Test.YtnlffaglmcddkaaDoorLAwake
import Derived.Test.YtnlffaglmcddkaaDoorLaw13a
import Derived.Deep.Cut
namespace Go.Proofs.YtnlffaglmcddkaaDoor
open Go Go.RowKit
set_option linter.unusedSimpArgs false
set_option linter.unusedVariables false


theorem freeF_congr (B B' : Nat → Nat) : ∀ m, (∀ i, i < m → B i = B' i) → freeF B m = freeF B' m
  | 0, _ => rfl
  | m + 1, h => by rw [freeF, freeF, freeF_congr B B' m (fun i hi => h i (by omega)), h m (by omega)]
theorem endF_congr (B B' : Nat → Nat) (m : Nat) (h : ∀ i, i ≤ m → B i = B' i) : endF B m = endF B' m := by
  unfold endF
  rw [freeF_congr B B' m (fun i hi => h i (by omega)), h m (Nat.le_refl _)]
theorem maxF_congr (B B' : Nat → Nat) : ∀ N, (∀ i, i < N → B i = B' i) → maxF B N = maxF B' N
  | 0, _ => rfl
  | N + 1, h => by rw [maxF, maxF, maxF_congr B B' N (fun i hi => h i (by omega)), endF_congr B B' N (fun i hi => h i (by omega))]
theorem ordF_congr (B B' : Nat → Nat) (N T : Nat) (h : ∀ i, i < N → B i = B' i) : ordF B N T = ordF B' N T := by
  have hI : ∀ t k, ordI B t k N = ordI B' t k N := fun t k => by
    unfold ordI
    apply List.filter_congr
    intro i hi
    rw [endF_congr B B' i (fun j hj => h j (by have := List.mem_range.1 hi; omega))]
  unfold ordF ordK
  simp only [hI]
theorem ord_replicate (q v : Nat) : ordF (blkL (List.replicate q (v : Int))) q (maxF (blkL (List.replicate q (v : Int))) q) = List.range q := by
  have h : ∀ i, i < q → blkL (List.replicate q (v : Int)) i = (fun _ => blkN v) i := fun i hi => by
    unfold blkL
    rw [List.getD_eq_getElem?_getD, List.getElem?_replicate, if_pos hi]
    rfl
  rw [maxF_congr _ _ q h, ordF_congr _ _ q _ h]
  exact ord_same_all _ (blkN v) (blkN_pos v) (fun _ => rfl) q
/-- Which messages have been met among the first j. -/
def metF (ws : List Nat) (n : Nat) : Nat → List Bool
  | 0 => List.replicate n false
  | j + 1 => (metF ws n j).set (ws.getD j 0) true
theorem metF_len (ws : List Nat) (n : Nat) : ∀ j, (metF ws n j).length = n
  | 0 => by simp [metF]
  | j + 1 => by rw [metF, List.length_set, metF_len ws n j]
theorem metF_new (ws : List Nat) (n : Nat) (hn : ws.Nodup) (m : Nat) (hm : m < n) : ∀ j, j ≤ ws.length → (∀ i, i < j → ws.getD i 0 ≠ m) → (metF ws n j)[m]? = some false
  | 0, _, _ => by rw [metF, List.getElem?_replicate, if_pos hm]
  | j + 1, hj, h => by
    rw [metF, List.getElem?_set, if_neg (h j (by omega))]
    exact metF_new ws n hn m hm j (by omega) (fun i hi => h i (by omega))
theorem met_free (ws : List Nat) (n j m : Nat) (hn : ws.Nodup) (hj : ws[j]? = some m) (hm : m < n) : (metF ws n j)[m]? = some false := by
  have hjl := (List.getElem?_eq_some_iff.1 hj).1
  refine metF_new ws n hn m hm j (by omega) (fun i hi e => ?_)
  rw [List.getD_eq_getElem?_getD, List.getElem?_eq_getElem (by omega), Option.getD_some] at e
  have e2 : ws[j] = m := (List.getElem?_eq_some_iff.1 hj).2
  exact List.pairwise_iff_getElem.1 hn i j (by omega) hjl hi (e.trans e2.symm)
abbrev bV (x : Bool) : Value := .bool x
theorem Tryd.infoBool : (Tryd.prog.info? 4).map (fun i => (i.zero, i.size, i.bytes)) = some (some (.bool false), 1, 1) := by kernel_rfl
theorem fill_step (v : Int) (q i : Nat) (h : i < q) : (List.replicate i v ++ List.replicate (q - i) (0 : Int)).set i v = List.replicate (i + 1) v ++ List.replicate (q - (i + 1)) (0 : Int) := by
  rw [List.set_append_right _ _ (by simp), List.length_replicate, Nat.sub_self, show q - i = (q - (i + 1)) + 1 by omega, List.replicate_succ, List.set_cons_zero, List.replicate_succ', List.append_assoc]
  rfl
set_option maxRecDepth 100000 in
set_option maxHeartbeats 4000000 in
theorem walk_LanesOnce {tK : TypeId} (A : Option Addr) (n c : Nat) (l : List Int) (one : UInt16) (many : UInt8) (w : World) (HK : Hid (Blk w 0 tK (shaK.map b32).toArray)) (hl : IR w A n c l ∧ ∀ x ∈ l, -9223372036854775808 ≤ x ∧ x ≤ 9223372036854775807) :
    Calls Tryd.prog 6 #[.slice A n c, .int .u16 (one.toNat : Int), .int .u8 (many.toNat : Int)] w fun e w' => e = .returned (.bool true) ∧ Grows w w' := by
  have HL := lib_hid hl.1
  have Hwf := lib_hid hl.2
  have hll := lib_hid hl.1.len
  have hcap := hl.1.2.2.1
  unfold maxLen at hcap
  have hnc := hl.1.2.1
  obtain ⟨mn, hmn, Hmn⟩ : ∃ mn : Nat, (many.toNat : Int) = (mn : Int) ∧ Hid (mn < 256) := ⟨_, rfl, many.toNat_lt⟩
  obtain ⟨on, hon, Hon⟩ : ∃ on : Nat, (one.toNat : Int) = (on : Int) ∧ Hid (on < 65536) := ⟨_, rfl, one.toNat_lt⟩
  rw [hmn, hon]
  have hmnb : (mn : Int) < 256 := by have := Hmn.out; omega
  have honb : (on : Int) < 65536 := by have := Hon.out; omega
  obtain ⟨q, hq1, hq2, Hq⟩ : ∃ q : Nat, (mn : Int) % 50 = (q : Int) ∧ (mn : Int).tmod 50 = (q : Int) ∧ Hid (q < 50) := ⟨mn % 50, by omega, by rw [Int.tmod_eq_emod_of_nonneg (by omega)]; omega, by unfold Hid; omega⟩
  obtain ⟨v, hv1, hv2, Hv⟩ : ∃ v : Nat, (on : Int) % 5000 = (v : Int) ∧ (on : Int).tmod 5000 = (v : Int) ∧ Hid (v < 5000) := ⟨on % 5000, by omega, by rw [Int.tmod_eq_emod_of_nonneg (by omega)]; omega, by unfold Hid; omega⟩
  clear hl hmn hon
  by_cases hbig : 100 < n
  · have hb : (100 : Int) < n := by omega
    go_enter Tryd.func6, Tryd.ntmps6
    go_wp2
    go_ret
    exact ⟨rfl, Grows.refl _⟩
  · have hb : ¬ (100 : Int) < n := by omega
    have Hb := lib_hid (Nat.not_lt.1 hbig)
    have hnm : (n : Int) ≤ 100 := by omega
    clear hbig
    go_enter Tryd.func6, Tryd.ntmps6
    go_wp2
    clear hb
    go_loop [7] (fun i => ∃ k : Nat, k ≤ n ∧ i = .int .i64 k ∧ Hid (∀ x ∈ l.take k, x ≤ 5000)) (fun i => n - (intOf i).toNat)
    case atStart => exact ⟨0, Nat.zero_le _, rfl, lib_hid (by intro p hp; simp at hp)⟩
    case round =>
      obtain ⟨k, hk, rfl, HKk⟩ := hrel
      by_cases hlt : k < n
      · have hki : (k : Int) < n := by omega
        obtain ⟨b, off, x, rfl, hb, hx, hc⟩ := HL.out.at hlt
        have Hx := lib_hid hx
        clear hx hb
        by_cases h1 : 5000 < x
        · go_wp2
          go_ret
          exact ⟨rfl, Grows.refl _⟩
        · have HK2 : Hid (∀ x ∈ l.take (k + 1), x ≤ 5000) := by
            unfold Hid
            rw [List.take_add_one, Hx.out]
            intro p hp
            simp only [Option.toList_some, List.mem_append, List.mem_singleton] at hp
            rcases hp with hp | rfl
            · exact HKk.out p hp
            · omega
          clear HKk
          go_wp2
          go_round
          case rel => exact ⟨k + 1, by omega, by go_num, HK2⟩
          case measure => simp [intOf]; omega
      · have hki : ¬ (k : Int) < n := by omega
        obtain rfl : k = n := by omega
        have H5 : Hid (∀ x ∈ l, -9223372036854775808 ≤ x ∧ x ≤ 5000) := fun x hx => by
          have h := HKk.out
          rw [List.take_of_length_le (by rw [hll.out]; exact Nat.le_refl _)] at h
          exact ⟨(Hwf.out x hx).1, h x hx⟩
        have HO := lib_hid (order_any l A k c w HL.out Hb.out H5.out)
        obtain ⟨ws, Hws⟩ : ∃ ws : List Nat, Hid (ordF (blkL l) k (maxF (blkL l) k) = ws) := ⟨_, lib_hid rfl⟩
        have Hnd : Hid (ws.Nodup) := by unfold Hid; rw [← Hws.out]; exact ord_nodup _ (blkL_pos l) k
        have Hmem : Hid (∀ m ∈ ws, m < k) := fun m hm => by rw [← Hws.out] at hm; exact (ord_mem _ (blkL_pos l) k m).1 hm
        rw [Hws.out] at HO
        have HAw : Hid (∀ W, Grows w W → Calls Tryd.prog 13 #[] W fun e w' => e = .returned (.bool true) ∧ Grows W w') := fun W hW => awake13_any W (lib_hid (HK.out.grows hW))
        clear HKk hlt H5 Hws
        go_wp2_with fail
        refine HO.out.mono ?_
        rintro e w1 ⟨C, c1, rfl, hg1, hx1⟩
        have HI1 := lib_hid hx1
        have Hg1 := lib_hid hg1
        have hcap1 := hx1.2.2.1
        unfold maxLen at hcap1
        have hnc1 := hx1.2.1
        have hkk := Hb.out
        clear hx1 hg1 HO hki
        go_upto_region 10 with (refine wpList_make_blk rfl _ _ 39 rfl 4 (.bool false) 1 Tryd.underlying39 Tryd.infoBool rfl .i64 .i64 k rfl rfl (by omega) (by omega) ?_; intro w2 hm2 hg2 hz2)
        obtain ⟨gm, Hgm0⟩ : ∃ gm, Hid (w1.heap.size = gm) := ⟨_, lib_hid rfl⟩
        rw [Hgm0.out] at hm2 hz2 ⊢
        have HM0 : Hid (Blk w2 gm 4 ((metF ws k 0).map bV).toArray) := by
          unfold Hid
          have e : ((metF ws k 0).map bV).toArray = Array.replicate k (.bool false) := by simp [metF]
          rw [e]; exact hm2
        have HI2 := lib_hid (HI1.out.grows hg2)
        have Hg2 := lib_hid (Hg1.out.trans hg2)
        have Hlt : Hid (∀ b off, C = some ⟨b, off, none⟩ → 0 < k → b < gm) := fun b off e hp => by
          obtain ⟨b', o', e', hb, _⟩ := HI1.out.2.2.2.2 hp
          rw [e] at e'
          cases e'
          rw [← Hgm0.out]
          exact hb
        have HSz : Hid (w.heap.size ≤ gm) := by unfold Hid; rw [← Hgm0.out]; exact Hg1.out.le
        clear hm2 hg2 hz2 HI1 Hg1
        go_wp2
        go_loopw [10] (fun i wr => ∃ j : Nat, j ≤ k ∧ i = .int .i64 j ∧ Hid (Keeps (fun b => b = gm) w2 wr) ∧ Hid (Blk wr gm 4 ((metF ws k j).map bV).toArray)) (fun i _ => k - (intOf i).toNat)
        case atStart => exact ⟨0, Nat.zero_le _, rfl, lib_hid (Keeps.refl _ _), HM0⟩
        case round =>
          obtain ⟨j, hj, rfl, HKr, HM⟩ := hrel
          by_cases hlt : j < k
          · have hji : (j : Int) < k := by omega
            obtain ⟨b1, o1, x1, rfl, hb1, hx1, hc1⟩ := HI2.out.at hlt
            have hbg := Hlt.out b1 o1 rfl (by omega)
            obtain ⟨m, hm, rfl⟩ : ∃ m : Nat, ws[j]? = some m ∧ x1 = (m : Int) := by
              rw [List.getElem?_map] at hx1
              cases e : ws[j]? with
              | none => rw [e] at hx1; cases hx1
              | some m => rw [e] at hx1; exact ⟨m, rfl, (Option.some.inj hx1).symm⟩
            have hmk := Hmem.out m (List.mem_of_getElem? hm)
            have c1 : wr.cell? ⟨b1, o1 + j, none⟩ = some (.int .i64 (m : Int)) := by
              rw [← hc1]
              simp only [World.cell?, HKr.out.block b1 hb1 (by omega)]
            have hmi : (m : Int) < (k : Int) := by omega
            have hm0 : ¬ (m : Int) < 0 := by omega
            have hmn : ¬ (k : Int) ≤ (m : Int) := by omega
            have cm : wr.cell? ⟨gm, m, none⟩ = some (.bool false) := by
              rw [HM.out.cell, List.getElem?_toArray, List.getElem?_map, met_free ws k j m Hnd.out hm hmk]
              rfl
            have fm := HM.out.frozen m
            have hz := HM.out.lt
            have HM2 : Hid (Blk (wr.setCell ⟨gm, m, none⟩ (.bool true)) gm 4 ((metF ws k (j + 1)).map bV).toArray) := by
              have e : ((metF ws k (j + 1)).map bV).toArray = (((metF ws k j).map bV).toArray).setIfInBounds m (.bool true) := by
                rw [metF, List.setIfInBounds_toArray, List.map_set, List.getD_eq_getElem?_getD, hm]
                rfl
              unfold Hid; rw [e]; exact HM.out.set m _
            have HK2 : Hid (Keeps (fun b => b = gm) w2 (wr.setCell ⟨gm, m, none⟩ (.bool true))) := lib_hid (HKr.out.trans (keeps_set wr ⟨gm, m, none⟩ (.bool true)) (fun _ h _ => h))
            clear hb1 hx1 hc1 hm HKr HM hbg hmk hlt
            go_wp2
            go_roundw
            case rel => exact ⟨j + 1, by omega, by go_num, HK2, HM2⟩
            case measure => simp [intOf]; omega
          · have hji : ¬ (j : Int) < k := by omega
            have hgw : Grows w wr := below_trans Hg2.out (HKr.out.below Hg2.out.le (fun i hi => by have := HSz.out; omega))
            have Hgw := lib_hid hgw
            have hqm := Hq.out
            clear HKr HM HM0 hgw hj hlt HI2 Hg2
            go_upto_region 17 with (refine wpList_make_blk rfl _ _ 27 rfl 3 (.int .i64 0) 8 Tryd.underlying27 Tryd.infoInt rfl .i64 .i64 q rfl rfl (by omega) (by omega) ?_; intro w3 hm3 hg3 hz3)
            clear hji hmnb hq1 hq2
            obtain ⟨gs, Hgs0⟩ : ∃ gs, Hid (wr.heap.size = gs) := ⟨_, lib_hid rfl⟩
            rw [Hgs0.out] at hm3 hz3 ⊢
            have HS0 : Hid (Blk w3 gs 3 ((List.replicate 0 (v : Int) ++ List.replicate (q - 0) (0 : Int)).map iV).toArray) := by
              unfold Hid
              have e : ((List.replicate 0 (v : Int) ++ List.replicate (q - 0) (0 : Int)).map iV).toArray = Array.replicate q (.int .i64 0) := by simp
              rw [e]; exact hm3
            have Hg3 := lib_hid (Hgw.out.trans hg3)
            have HSs : Hid (w.heap.size ≤ gs) := by unfold Hid; rw [← Hgs0.out]; exact Hgw.out.le
            have hqi : (q : Int) < 50 := by omega
            have hvi : (v : Int) < 5000 := by have := Hv.out; omega
            clear hm3 hg3 hz3
            go_wp2
            go_loopw [12] (fun i ws3 => ∃ j : Nat, j ≤ q ∧ i = .int .i64 j ∧ Hid (Keeps (fun b => b = gs) w3 ws3) ∧ Hid (Blk ws3 gs 3 ((List.replicate j (v : Int) ++ List.replicate (q - j) (0 : Int)).map iV).toArray)) (fun i _ => q - (intOf i).toNat)
            case atStart => exact ⟨0, Nat.zero_le _, rfl, lib_hid (Keeps.refl _ _), HS0⟩
            case round =>
              clear HS0
              obtain ⟨j, hj, rfl, HKr, HM⟩ := hrel
              by_cases hlt : j < q
              · have hji : (j : Int) < q := by omega
                obtain ⟨old, cm⟩ : ∃ old, wr.cell? ⟨gs, j, none⟩ = some old := by
                  rw [HM.out.cell]
                  exact ⟨_, Array.getElem?_eq_getElem (by simp; omega)⟩
                have fm := HM.out.frozen j
                have hz := HM.out.lt
                have HM2 : Hid (Blk (wr.setCell ⟨gs, j, none⟩ (.int .i64 (v : Int))) gs 3 ((List.replicate (j + 1) (v : Int) ++ List.replicate (q - (j + 1)) (0 : Int)).map iV).toArray) := by
                  unfold Hid
                  rw [← fill_step (v : Int) q j hlt, List.map_set, ← List.setIfInBounds_toArray]
                  exact HM.out.set j _
                have HK2 : Hid (Keeps (fun b => b = gs) w3 (wr.setCell ⟨gs, j, none⟩ (.int .i64 (v : Int)))) := lib_hid (HKr.out.trans (keeps_set wr ⟨gs, j, none⟩ (.int .i64 (v : Int))) (fun _ h _ => h))
                clear HKr HM hlt
                go_wp2
                go_roundw
                case rel => exact ⟨j + 1, by omega, by go_num, HK2, HM2⟩
                case measure => simp [intOf]; omega
              · have hji : ¬ (j : Int) < q := by omega
                obtain rfl : j = q := by omega
                have hgw : Grows w wr := below_trans Hg3.out (HKr.out.below Hg3.out.le (fun i hi => by have := HSs.out; omega))
                have hIR : IR wr (some ⟨gs, 0, none⟩) j j (List.replicate j (v : Int)) := by
                  have h := HM.out.row (o := 0) (n := j) (c := j) (Nat.le_refl _) (by simp) (by unfold maxLen; omega)
                  unfold IR
                  simpa using h
                have HO2 := lib_hid (order_any (List.replicate j (v : Int)) (some ⟨gs, 0, none⟩) j j wr hIR (by omega) (fun x hx => by rw [(List.mem_replicate.1 hx).2]; have := Hv.out; omega))
                rw [ord_replicate] at HO2
                have Hgw2 := lib_hid hgw
                have hon2 := Hon.out
                clear HKr HM hgw hIR hj hlt hv1 hv2 honb
                go_wp2_with fail
                refine HO2.out.mono ?_
                rintro e w5 ⟨D, c5, rfl, hg5, hx5⟩
                have HI5 := lib_hid hx5
                have Hg5 := lib_hid (Hgw2.out.trans hg5)
                have hcap5 := hx5.2.2.1
                unfold maxLen at hcap5
                have hnc5 := hx5.2.1
                clear hx5 hg5 HO2 hji
                go_wp2
                go_loopw [14] (fun i wr => ∃ p : Nat, p ≤ j ∧ i = .int .i64 p ∧ Grows w5 wr) (fun i _ => j - (intOf i).toNat)
                case atStart => exact ⟨0, Nat.zero_le _, rfl, Grows.refl _⟩
                case round =>
                  obtain ⟨p, hp, rfl, hgr⟩ := hrel
                  by_cases hlt : p < j
                  · have hji : (p : Int) < j := by omega
                    obtain ⟨b1, o1, x1, rfl, hb1, hx1, hc1⟩ := HI5.out.at hlt
                    obtain rfl : x1 = (p : Int) := by
                      rw [List.getElem?_map, List.getElem?_range hlt] at hx1
                      exact (Option.some.inj hx1).symm
                    have c1 := (hgr.cell (p := ⟨b1, o1 + p, none⟩) hb1).trans hc1
                    clear hb1 hx1 hc1
                    go_wp2
                    go_roundw
                    case rel => exact ⟨p + 1, by omega, by go_num, hgr⟩
                    case measure => simp [intOf]; omega
                  · have hji : ¬ (p : Int) < j := by omega
                    have hg6 := Hg5.out.trans hgr
                    clear hlt hp
                    go_wp2_with fail
                    refine (HAw.out _ hg6).mono ?_
                    rintro e w7 ⟨rfl, hg7⟩
                    have hg8 := hg6.trans hg7
                    go_wp2
                    go_ret
                    exact ⟨rfl, hg8⟩
end Go.Proofs.YtnlffaglmcddkaaDoor
