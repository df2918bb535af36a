/-
  The walk of palfreyref06.Sum.
-/
import Derived.Test.YtlnldflnanllmaaRefMul2
import Derived.Test.YtlnldflnanllmaaRefPad
import Derived.Test.YtlnldflnanllmaaGhash4
import Derived.Deep.Cut
namespace Go.Proofs.Ytlnldflnanllmaa
open Go Go.RowKit
set_option linter.unusedSimpArgs false


def blkAt (p : List UInt8) (n : Nat) : List UInt8 := (p.drop (16 * n)).take 16
def refSumL (hs p : List UInt8) : Nat → List UInt8
  | 0 => (List.replicate 16 (0 : UInt8))
  | n + 1 => refMulF (List.zipWith (· ^^^ ·) (refSumL hs p n) (blkAt p n)) hs
theorem refSumL_len (hs p : List UInt8) : ∀ n, (refSumL hs p n).length = 16
  | 0 => by rw [refSumL, List.length_replicate]
  | n + 1 => outL_len _ _
theorem blkAt_len (p : List UInt8) (n : Nat) (h : 16 * n + 16 ≤ p.length) : (blkAt p n).length = 16 := by unfold blkAt; rw [List.length_take, List.length_drop]; omega
def padB (bs : List UInt8) : List UInt8 := bs ++ List.replicate (padN bs.length) 0
theorem padB_len (bs : List UInt8) : (padB bs).length = 16 * ((bs.length + 15) / 16) := by
  unfold padB padN; rw [List.length_append, List.length_replicate]; omega
def refSumF (hs bs : List UInt8) : List UInt8 := refSumL hs (padB bs) ((bs.length + 15) / 16)
set_option maxRecDepth 100000 in
set_option maxHeartbeats 4000000 in
theorem refSum_any (hs bs : List UInt8) (A : Option Addr) (l c : Nat) (hh : hs.length = 16) (w : World) (hb : SB w A l c bs) (hl : l ≤ 1000000) :
    Calls Try.prog 18 #[.agg (hs.map b8).toArray, .slice A l c] w fun e w' => e = .returned (.agg ((refSumF hs bs).map b8).toArray) ∧ Grows w w' := by
  obtain ⟨W0, HW0, hW0, hg0⟩ : ∃ W0 : World, Hid (W0 = (w.alloc (.cells (hs.map b8).toArray 22)).alloc (.cells #[.int .u8 0, .int .u8 0, .int .u8 0, .int .u8 0, .int .u8 0, .int .u8 0, .int .u8 0, .int .u8 0, .int .u8 0, .int .u8 0, .int .u8 0, .int .u8 0, .int .u8 0, .int .u8 0, .int .u8 0, .int .u8 0] 22)) ∧ W0.heap.size = w.heap.size + 2 ∧ Grows w W0 := ⟨_, lib_hid rfl, by simp, ((Grows.refl w).alloc _).alloc _⟩
  have HB0 : Hid (Blk W0 w.heap.size 22 (hs.map b8).toArray) := by
    unfold Hid; rw [HW0.out]; have := (Blk.new (w) 22 (hs.map b8).toArray).alloc (.cells #[.int .u8 0, .int .u8 0, .int .u8 0, .int .u8 0, .int .u8 0, .int .u8 0, .int .u8 0, .int .u8 0, .int .u8 0, .int .u8 0, .int .u8 0, .int .u8 0, .int .u8 0, .int .u8 0, .int .u8 0, .int .u8 0] 22); simpa using this
  have HB1 : Hid (Blk W0 (w.heap.size + 1) 22 #[.int .u8 0, .int .u8 0, .int .u8 0, .int .u8 0, .int .u8 0, .int .u8 0, .int .u8 0, .int .u8 0, .int .u8 0, .int .u8 0, .int .u8 0, .int .u8 0, .int .u8 0, .int .u8 0, .int .u8 0, .int .u8 0]) := by
    unfold Hid; rw [HW0.out]; have := Blk.new (w.alloc (.cells (hs.map b8).toArray 22)) 22 #[.int .u8 0, .int .u8 0, .int .u8 0, .int .u8 0, .int .u8 0, .int .u8 0, .int .u8 0, .int .u8 0, .int .u8 0, .int .u8 0, .int .u8 0, .int .u8 0, .int .u8 0, .int .u8 0, .int .u8 0, .int .u8 0]; simpa using this
  have hsl := lib_hid hh
  have hbl := hb.len
  obtain ⟨p, Hp, pl⟩ : ∃ p, Hid (padB bs = p) ∧ Hid (p.length = 16 * ((l + 15) / 16)) := ⟨_, lib_hid rfl, by unfold Hid; rw [padB_len, hbl]⟩
  obtain ⟨N, HN, hN⟩ : ∃ N, Hid ((l + 15) / 16 = N) ∧ N ≤ 100000 := ⟨_, lib_hid rfl, by omega⟩
  rw [HN.out] at pl
  have HF : Hid (refSumF hs bs = refSumL hs p N) := by unfold Hid refSumF; rw [Hp.out, hbl, HN.out]
  have Hpd : Hid (∀ W, Grows W0 W → Calls Try.prog 19 #[.slice A l c] W (NewB 5 W p)) := fun W hW => by
    rw [← Hp.out]; unfold padB; rw [hbl]; exact refPadded_any bs A l c W (hb.grows (hg0.trans hW)) hl
  have Hmul : Hid (∀ (ys : List UInt8) (W : World), ys.length = 16 → Calls Try.prog 11 #[.agg (ys.map b8).toArray, .agg (hs.map b8).toArray] W fun e w' => e = .returned (.agg ((refMulF ys hs).map b8).toArray) ∧ Grows W w') := fun ys W h => refMul_any ys hs h hsl.out W
  have HW0' := HW0.out
  clear hh hb hbl hW0
  go_enter Try.func18, Try.ntmps18
  go_upto_region 1 with fail
  rw [← HW0']
  clear HW0'
  go_wp2_with fail
  refine (Hpd.out W0 (Grows.refl _)).mono ?_
  rintro e w1 ⟨Ap, np, cp, hnp, rfl, hg1, hop⟩
  have HSP := lib_hid (SB.own hop)
  have Hnp : Hid (np = 16 * N) := by unfold Hid; rw [hnp.out]; exact pl.out
  clear hop hnp
  obtain ⟨g6, Hg6⟩ : ∃ x, Hid (w1.heap.size = x) := ⟨_, lib_hid rfl⟩
  obtain ⟨W2, HW2⟩ : ∃ X : World, Hid (X = w1.alloc (.cells #[.int .u8 0, .int .u8 0, .int .u8 0, .int .u8 0, .int .u8 0, .int .u8 0, .int .u8 0, .int .u8 0, .int .u8 0, .int .u8 0, .int .u8 0, .int .u8 0, .int .u8 0, .int .u8 0, .int .u8 0, .int .u8 0] 22)) := ⟨_, lib_hid rfl⟩
  have hg2 : Grows w1 W2 := by rw [HW2.out]; exact (Grows.refl _).alloc _
  have S_y : Hid (Blk W2 g6 22 ((refSumL hs p 0).map b8).toArray) := by unfold Hid; rw [HW2.out, ← Hg6.out, refSumL, ← zeros16]; exact Blk.new _ _ _
  have HW2' := HW2.out
  clear HW2
  go_upto_region 3 with fail
  rw [← HW2', Hg6.out]
  clear HW2'
  go_wp2_with fail
  go_loopw [7] (fun v wr => ∃ n i : Nat, n ≤ N ∧ Hid (i = 16 * n) ∧ v = .int .i64 (i : Int) ∧ Grows w1 wr ∧ Hid (Blk wr g6 22 ((refSumL hs p n).map b8).toArray)) (fun v _ => 16 * N - (intOf v).toNat)
  case atStart => exact ⟨0, 0, Nat.zero_le _, lib_hid rfl, rfl, hg2, S_y⟩
  case round =>
    clear S_y hg2
    obtain ⟨n, i, hn, Hi, rfl, hgr, HY⟩ := hrel
    have Hn := lib_hid hn
    have hib : i ≤ 1600000 := by have := Hi.out; omega
    have hnb : np ≤ 1600000 := by have := Hnp.out; omega
    by_cases hlt : i < np
    · have hki : (i : Int) < (np : Int) := by omega
      have hn1 : Hid (n + 1 ≤ N) := by unfold Hid; have := Hi.out; have := Hnp.out; omega
      obtain ⟨y, Hy, yl⟩ : ∃ y, Hid (refSumL hs p n = y) ∧ Hid (y.length = 16) := ⟨_, lib_hid rfl, refSumL_len _ _ _⟩
      obtain ⟨q, Hq, ql⟩ : ∃ q, Hid (blkAt p n = q) ∧ Hid (q.length = 16) := ⟨_, lib_hid rfl, blkAt_len _ _ (by rw [pl.out]; have := hn1.out; omega)⟩
      have HY0 : Hid (Blk wr g6 22 ((bothP y q 0).map b8).toArray) := by unfold Hid; rw [bothP_zero, ← Hy.out]; exact HY.out
      have hgr0 := hgr
      clear HY hgr hn
      go_wp2_with fail
      go_loopw [8] (fun v wr => ∃ k : Nat, k ≤ 16 ∧ v = .int .i64 (k : Int) ∧ Grows w1 wr ∧ Hid (Blk wr g6 22 ((bothP y q k).map b8).toArray)) (fun v _ => 16 - (intOf v).toNat)
      case atStart => exact ⟨0, Nat.zero_le _, rfl, hgr0, HY0⟩
      case round =>
        clear HY0 hgr0
        obtain ⟨k, hk, rfl, hgr, HR⟩ := hrel
        by_cases hlt2 : k < 16
        · have hkk : (k : Int) < 16 := by omega
          obtain ⟨b, o, rfl, _, hc⟩ := (HSP.out.grows hgr).at (by omega)
          obtain ⟨j, hj, Hj⟩ : ∃ j : Nat, (i : Int) + (k : Int) = (j : Int) ∧ Hid (j = i + k) := ⟨i + k, by omega, lib_hid rfl⟩
          have hjn : (j : Int) < (np : Int) := by have := Hj.out; have := Hi.out; have := Hnp.out; omega
          obtain ⟨x, Hx, hcx⟩ : ∃ v : UInt8, Hid (p.getD j 0 = v) ∧ wr.cell? ⟨b, o + j, none⟩ = some (.int .u8 (v.toNat : Int)) := ⟨p[j]'(by rw [pl.out, ← Hnp.out]; omega), by unfold Hid; rw [List.getD_eq_getElem?_getD, List.getElem?_eq_getElem]; rfl, hc j (by rw [pl.out, ← Hnp.out]; omega)⟩
          obtain ⟨u, Hu⟩ : ∃ v : UInt8, Hid (y[k]! = v) := ⟨_, lib_hid rfl⟩
          have c1 : wr.cell? ⟨g6, k, none⟩ = some (b8 u) := by
            rw [HR.out.cell, List.getElem?_toArray, List.getElem?_map, bothP_at y q k yl.out ql.out hlt2, ← Hu.out, List.getElem?_eq_getElem (by rw [yl.out]; exact hlt2), getElem!_pos y k (by rw [yl.out]; exact hlt2)]; rfl
          have f1 := HR.out.frozen k
          have hqx : Hid (q[k]! = x) := by
            unfold Hid
            rw [← Hx.out, Hj.out, Hi.out, getElem!_pos q k (by rw [ql.out]; exact hlt2), List.getD_eq_getElem?_getD]
            have e : q[k]? = p[16 * n + k]? := by rw [← Hq.out, blkAt, List.getElem?_take, if_pos hlt2, List.getElem?_drop]
            rw [← e, List.getElem?_eq_getElem (by rw [ql.out]; exact hlt2)]; rfl
          obtain ⟨z, Hz, hz⟩ : ∃ z : UInt8, Hid (u ^^^ x = z) ∧ bits .xor .u8 (u.toNat : Int) (x.toNat : Int) = (z.toNat : Int) := ⟨_, lib_hid rfl, u8_xor u x⟩
          obtain ⟨w2, Hw2⟩ : ∃ X : World, Hid (X = (wr.setCell ⟨g6, k, none⟩ (.int .u8 (z.toNat : Int))).drew) := ⟨_, lib_hid rfl⟩
          have hgr3 : Grows w1 w2 := by rw [Hw2.out]; exact (hgr.setCell (p := ⟨g6, k, none⟩) (by show w1.heap.size ≤ g6; rw [← Hg6.out]; exact Nat.le_refl _) _).drew
          have Y9 : Hid (Blk w2 g6 22 ((bothP y q (k + 1)).map b8).toArray) := by
            unfold Hid
            rw [Hw2.out, ← bothP_step y q k yl.out ql.out hlt2, Hu.out, hqx.out, Hz.out]
            have := HR.out.set k (b8 z)
            rw [List.setIfInBounds_toArray, ← List.map_set] at this
            exact this
          have Hw2' := Hw2.out
          clear HR hgr hc
          go_upto_region 9 with fail
          go_region
          rw [← Hw2']
          clear Hw2' c1 f1 hz hcx
          go_wp2_with fail
          go_roundw
          case rel => exact ⟨k + 1, by omega, by go_num, hgr3, Y9⟩
          case measure => simp [intOf]; omega
        · have hkk : ¬ (k : Int) < 16 := by omega
          obtain ⟨v, Hv, vl⟩ : ∃ v, Hid (List.zipWith (· ^^^ ·) y q = v) ∧ Hid (v.length = 16) := ⟨_, lib_hid rfl, by unfold Hid; simp [yl.out, ql.out]⟩
          have HV : Hid (Blk wr g6 22 (v.map b8).toArray) := by
            have e : k = 16 := by omega
            have := HR.out
            rw [e, bothP_all y q yl.out ql.out, Hv.out] at this; exact this
          have HH := lib_hid (HB0.out.grows (hg1.trans hgr))
          clear HR hlt2 hk
          go_wp2_with (first
            | refine wpList_load_blk rfl _ _ rfl g6 rfl 22 (v.map b8).toArray _ HV.out Try.underlying22 rfl (by rw [Try.size16]; simp [vl.out]) ?_
            | refine wpList_load_blk rfl _ _ rfl w.heap.size rfl 22 (hs.map b8).toArray _ HH.out Try.underlying22 rfl (by rw [Try.size16]; simp [hsl.out]) ?_)
          refine (Hmul.out v wr vl.out).mono ?_
          rintro e w5 ⟨rfl, hg5⟩
          obtain ⟨res, Hres, hrl, hra⟩ : ∃ r : Array Value, Hid (((refMulF v hs).map b8).toArray = r) ∧ r.size = 16 ∧ r.all (·.oneCell') = true := ⟨_, lib_hid rfl, by rw [List.size_toArray, List.length_map]; exact outL_len _ _, cells_all _⟩
          rw [Hres.out]
          have HV5 := lib_hid (HV.out.grows hg5)
          have hle5 : w1.heap.size ≤ g6 := by rw [← Hg6.out]; exact Nat.le_refl _
          have hgr5 := hgr.trans hg5
          clear HV HH
          go_wp2_with (refine wpList_store_blk rfl _ _ _ rfl g6 res rfl rfl 22 _ HV5.out (by rw [Try.size16, hrl]) (by simp [hrl, vl.out]) hra g6 w5 (Below.refl _ _) (Nat.le_refl _) ?_; intro w7 HR7 hb7 hgr7)
          have hgr7' : Grows w1 w7 := Below.trans hgr5 (hb7.mono hle5)
          have HY7 : Hid (Blk w7 g6 22 ((refSumL hs p (n + 1)).map b8).toArray) := by
            unfold Hid; rw [refSumL, Hy.out, Hq.out, Hv.out, Hres.out]; exact HR7
          go_roundw
          case rel => exact ⟨n + 1, i + 16, hn1.out, by unfold Hid; have := Hi.out; omega, by go_num, hgr7', HY7⟩
          case measure => simp [intOf]; have := Hi.out; have := Hnp.out; omega
    · have hki : ¬ (i : Int) < (np : Int) := by omega
      have He : Hid (n = N) := by unfold Hid; have := Hi.out; have := Hnp.out; omega
      obtain ⟨res, Hres, hrl, hra⟩ : ∃ r : Array Value, Hid (((refSumL hs p N).map b8).toArray = r) ∧ r.size = 16 ∧ r.all (·.oneCell') = true := ⟨_, lib_hid rfl, by simp [refSumL_len], cells_all _⟩
      have HO : Hid (Blk wr g6 22 res) := by have := HY.out; rw [He.out, Hres.out] at this; exact this
      have HR4 := lib_hid (HB1.out.grows (hg1.trans hgr))
      have hgw := (hg0.trans hg1).trans hgr
      clear HY
      go_wp2_with (first
        | (refine wpList_load_blk rfl _ _ rfl g6 rfl 22 res _ HO.out Try.underlying22 rfl (by rw [Try.size16, hrl]) ?_)
        | (refine wpList_store_blk rfl _ _ _ rfl (w.heap.size + 1) res rfl rfl 22 _ HR4.out (by rw [Try.size16, hrl]) (by simp [hrl]) hra (w.heap.size + 1) wr (Below.refl _ _) (Nat.le_refl _) ?_; intro w7 HR7 hb7 hgr7))
      refine bodyPost_ret (results_cell_row rfl _ _ (w.heap.size + 1) _ res _ _ rfl HR7 Try.underlying22 rfl (by rw [Try.size16, hrl])) rfl ?_
      exact ⟨by rw [HF.out, Hres.out], Below.trans hgw (hb7.mono (by omega))⟩

end Go.Proofs.Ytlnldflnanllmaa
