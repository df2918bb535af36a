/-
  The walk of palfreyref05.Sum.
-/
import Derived.Test.YtilgkadochhkjaaPolyR3
import Derived.Test.YtilgkadochhkjaaPolyR4
import Derived.Test.YtilgkadochhkjaaRef1
import Derived.Lib.MinMax
import Derived.Deep.Cut
namespace Go.Proofs.Ytilgkadochhkjaa
open Go Go.RowKit
set_option linter.unusedSimpArgs false

theorem accN_lt (R : Nat) (bs : List UInt8) : ∀ k, accN R bs k < 1361129467683753853853498429727072845824
  | 0 => by rw [accN]; omega
  | k + 1 => by
    rw [accN]
    exact Nat.lt_trans (Nat.mod_lt _ (by unfold pP; omega)) (by unfold pP; omega)
def firstL (key : List UInt8) (k : Nat) : List UInt8 := key.take k ++ List.replicate (16 - k) 0
theorem firstL_succ (key : List UInt8) (hl : key.length = 32) (k : Nat) (hk : k < 16) : (firstL key k).set k (key.getD k 0) = firstL key (k + 1) := by
  unfold firstL
  rw [List.set_append_right _ _ (by rw [List.length_take]; omega), List.length_take, Nat.min_eq_left (by omega), Nat.sub_self, show 16 - k = (16 - (k + 1)) + 1 by omega, List.replicate_succ, List.set_cons_zero,
    List.take_succ_eq_append_getElem (by omega), List.append_assoc, List.getD_eq_getElem?_getD, List.getElem?_eq_getElem (by omega)]
  rfl
theorem firstL_len (key : List UInt8) (hl : key.length = 32) (k : Nat) (hk : k ≤ 16) : (firstL key k).length = 16 := by
  unfold firstL; rw [List.length_append, List.length_take, List.length_replicate]; omega
theorem firstL_all (key : List UInt8) : firstL key 16 = key.take 16 := by unfold firstL; simp
theorem Try.size32q : (Try.prog.info? 22).map (·.size) = some 32 := by kernel_rfl

set_option maxRecDepth 100000 in
set_option maxHeartbeats 8000000 in
theorem refSum05_any (key bs : List UInt8) (hk : key.length = 32) (A : Option Addr) (l c : Nat) (w : World) (hs : SB w A l c bs) (hl : l ≤ 1000000) :
    Calls Try.prog 10 #[.agg (key.map b8).toArray, .slice A l c] w (NewB 5 w (refPolyF key bs)) := by
  have hbl := hs.len
  obtain ⟨k1, Hk1, hk1⟩ : ∃ k1, Hid (key.take 16 = k1) ∧ Hid (k1.length = 16) := ⟨_, lib_hid rfl, by unfold Hid; rw [List.length_take, hk]; rfl⟩
  obtain ⟨k2, Hk2, hk2⟩ : ∃ k2, Hid (key.drop 16 = k2) ∧ Hid (k2.length = 16) := ⟨_, lib_hid rfl, by unfold Hid; rw [List.length_drop, hk]⟩
  obtain ⟨cl, Hcl, hcl, HR⟩ : ∃ cl, Hid (clampF k1 = cl) ∧ Hid (cl.length = 16) ∧ Hid (leN cl < 21267647932558653966460912964485513216) := ⟨_, lib_hid rfl, by unfold Hid; rw [clampF_len, hk1.out], by unfold Hid; exact clamp_value k1 hk1.out⟩
  have HCl : Hid (∀ W, Calls Try.prog 12 #[.agg (k1.map b8).toArray] W fun e w' => e = .returned (.agg (cl.map b8).toArray) ∧ Grows W w') := fun W => by rw [← Hcl.out]; exact refClamp_any k1 hk1.out W
  obtain ⟨acc, Hacc⟩ : ∃ a : Nat → Nat, Hid (a = accN (leN cl) bs) := ⟨_, lib_hid rfl⟩
  have Hlt : Hid (∀ k, acc k < 1361129467683753853853498429727072845824) := fun k => by rw [Hacc.out]; exact accN_lt _ _ k
  obtain ⟨H, HH, Hsz, Hal⟩ : ∃ D : Nat → Array Value, Hid (D = fun k => iL (digL 40 (acc k))) ∧ Hid (∀ k, (D k).size = 40) ∧ Hid (∀ k, (D k).all (·.oneCell') = true) :=
    ⟨_, lib_hid rfl, fun k => by simp only [iL_size, digL_len], fun k => iL_all _⟩
  have HCa : Hid (∀ (p : List Nat) (W : World), p.length = 40 → (∀ j, p.getD j 0 ≤ 100000000) → Calls Try.prog 18 #[.agg (iL p)] W fun e w' => e = .returned (.agg (iL (digL 40 (numV p)))) ∧ Grows W w') := fun p W h1 h2 => by
    have := carried_any p h1 h2 W
    rw [carA_all p 40 h1] at this
    exact this
  have HRe : Hid (∀ (v : Nat) (W : World), v < 1361129467683753853853498429727072845824 * 1361129467683753853853498429727072845824 → Calls Try.prog 17 #[.agg (iL (digL 40 v))] W fun e w' => e = .returned (.agg (iL (digL 40 (v % pP)))) ∧ Grows W w') := fun v W h => reduced_any v h W
  obtain ⟨res, Hres⟩ : ∃ r, Hid (refPolyF key bs = r) := ⟨_, lib_hid rfl⟩
  rw [Hres.out]
  have HRes : Hid (outB (acc (nBlk bs.length) % 340282366920938463463374607431768211456 + leN k2) 16 = res) := by
    unfold Hid; rw [← Hres.out, refPolyF, Hk1.out, Hcl.out, Hk2.out, Hacc.out]
  obtain ⟨K, HK⟩ : ∃ K, Hid ((key.map b8).toArray = K) := ⟨_, lib_hid rfl⟩
  rw [HK.out]
  obtain ⟨W0, HW0, hW0, hg0⟩ : ∃ W0 : World, Hid (W0 = w.alloc (.cells K 22)) ∧ W0.heap.size = w.heap.size + 1 ∧ Grows w W0 := ⟨_, lib_hid rfl, by simp, (Grows.refl w).alloc _⟩
  have HB0 : Hid (Blk W0 w.heap.size 22 (key.map b8).toArray) := by
    unfold Hid; rw [HW0.out, HK.out]; exact Blk.new w _ _
  have hs0 := hs.grows hg0
  have HS0 := lib_hid hs0
  obtain ⟨W1, HW1⟩ : ∃ W1 : World, Hid (W1 = W0.alloc (.cells ((List.replicate 16 (0 : UInt8)).map b8).toArray 24)) := ⟨_, lib_hid rfl⟩
  have HF1 : Hid (Blk W1 (w.heap.size + 1) 24 ((firstL key 0).map b8).toArray) := by
    unfold Hid; rw [HW1.out, ← hW0]; exact Blk.new W0 _ _
  have hg1 : Grows W0 W1 := by rw [HW1.out]; exact (Grows.refl _).alloc _
  have kl := lib_hid hk
  have HW0' := HW0.out
  have HW1' := HW1.out
  rw [← zeros16] at HW1'
  have hll := lib_hid hl
  have hW0' := lib_hid hW0
  have Hbl := lib_hid hbl
  have hcm : l ≤ c ∧ c ≤ maxLen := ⟨hs.cap, hs.max⟩
  have hcm1 := hcm.1
  have hcm2 := hcm.2
  unfold maxLen at hcm2
  clear hk hs hs0 hbl HW0 HW1 hcm
  go_enter Try.func10, Try.ntmps10
  go_upto_region 1 with fail
  rw [← HW0']
  clear HW0'
  go_upto_region 2 with fail
  rw [← HW1']
  clear HW1' hW0
  go_wp2_with fail
  go_loopw [6] (fun v wr => ∃ k : Nat, k ≤ 16 ∧ v = .int .i64 (k : Int) ∧ Grows W0 wr ∧ Hid (Blk wr (w.heap.size + 1) 24 ((firstL key k).map b8).toArray)) (fun v _ => 16 - (intOf v).toNat)
  case atStart => exact ⟨0, by omega, rfl, hg1, HF1⟩
  case round =>
    clear HF1 hg1
    obtain ⟨k, hk, rfl, hgr, HF⟩ := hrel
    by_cases hlt : k < 16
    · have hki : (k : Int) < 16 := by omega
      obtain ⟨x, Hx⟩ : ∃ x, Hid (key.getD k 0 = x) := ⟨_, lib_hid rfl⟩
      have c0 : wr.cell? ⟨w.heap.size, k, none⟩ = some (.int .u8 (x.toNat : Int)) := by rw [← Hx.out]; exact cell8 (HB0.out.grows hgr) k (by rw [kl.out]; omega)
      obtain ⟨y, Hy⟩ : ∃ x, Hid ((firstL key k).getD k 0 = x) := ⟨_, lib_hid rfl⟩
      have c1 : wr.cell? ⟨w.heap.size + 1, k, none⟩ = some (.int .u8 (y.toNat : Int)) := by rw [← Hy.out]; exact cell8 HF.out k (by rw [firstL_len key kl.out k hk]; omega)
      have f1 := HF.out.frozen k
      obtain ⟨W2, HW2⟩ : ∃ X : World, Hid (X = wr.setCell ⟨w.heap.size + 1, k, none⟩ (b8 x)) := ⟨_, lib_hid rfl⟩
      have HF2 : Hid (Blk W2 (w.heap.size + 1) 24 ((firstL key (k + 1)).map b8).toArray) := by
        have := blk_set8 HF.out k x
        unfold Hid; rw [HW2.out, ← firstL_succ key kl.out k hlt, Hx.out]
        exact this
      have hg2 : Grows W0 W2 := by rw [HW2.out]; exact hgr.setCell (p := ⟨w.heap.size + 1, k, none⟩) (by show W0.heap.size ≤ w.heap.size + 1; rw [hW0'.out]; exact Nat.le_refl _) _
      have HW2' := HW2.out
      have HLt := lib_hid hlt
      clear HF hgr HW2 hlt
      go_upto_region 4 with fail
      rw [← HW2']
      clear HW2' c0 c1 f1
      go_wp2_with fail
      go_roundw
      case rel => exact ⟨k + 1, HLt.out, by go_num, hg2, HF2⟩
      case measure => simp [intOf]; omega
    · have Hk : Hid (k = 16) := by unfold Hid; omega
      have hki : ¬ (k : Int) < 16 := by omega
      have HF2 : Hid (Blk wr (w.heap.size + 1) 24 (k1.map b8).toArray) := by have := HF.out; rw [Hk.out, firstL_all, Hk1.out] at this; exact this
      clear HF hlt hk
      go_wp2_with (refine wpList_load_blk rfl _ _ rfl (w.heap.size + 1) rfl 24 (k1.map b8).toArray _ HF2.out Try.underlying24 rfl (by rw [Try.size16]; simp [hk1.out]) ?_)
      refine (HCl.out _).mono ?_
      rintro e w3 ⟨rfl, hg3⟩
      have hgr3 := hgr.trans hg3
      clear HF2 hgr hg3 hki
      obtain ⟨g7, Hg7⟩ : ∃ x, Hid (w3.heap.size = x) := ⟨_, lib_hid rfl⟩
      obtain ⟨ca, Hca, hcas, hcaa⟩ : ∃ r : Array Value, Hid ((cl.map b8).toArray = r) ∧ Hid (r.size = 16) ∧ Hid (r.all (·.oneCell') = true) := ⟨_, lib_hid rfl, by unfold Hid; simp [hcl.out], cells_all _⟩
      rw [Hca.out]
      go_upto_region 7 with (refine wpList_store_blk rfl _ _ _ rfl w3.heap.size ca rfl rfl 24 _ (Blk.new w3 _ _) (by rw [Try.size16, hcas.out]) (by simp [hcas.out]) hcaa.out w3.heap.size _ (Below.refl _ _) (Nat.le_refl _) ?_; intro w5 HR6 hb5 hgr5; have HR7 := lib_hid HR6; have hgr7 := lib_hid hgr5; clear HR6 hb5 hgr5)
      have hgr5 : Grows W0 w5 := (hgr3.alloc _).grown hgr7.out (fun k e => by cases e; exact hgr3.le)
      have HKr := lib_hid (HB0.out.grows hgr5)
      have HSr := lib_hid (HS0.out.grows hgr5)
      have HRr : Hid (Blk w5 g7 24 (cl.map b8).toArray) := by unfold Hid; rw [Hca.out, ← Hg7.out]; exact HR7.out
      have h7lt : Hid (g7 < w5.heap.size) := HRr.out.lt
      clear hgr7 HR7 hgr3
      rw [Hg7.out]
      clear Hg7 HCl Hca hcas hcaa
      obtain ⟨g8, Hg8⟩ : ∃ x, Hid (w5.heap.size = x) := ⟨_, lib_hid rfl⟩
      obtain ⟨W6, HW6⟩ : ∃ X : World, Hid (X = w5.alloc (.cells (iL (List.replicate 40 0)) 40)) := ⟨_, lib_hid rfl⟩
      have hg6 : Grows w5 W6 := by rw [HW6.out]; exact (Grows.refl _).alloc _
      have HH6 : Hid (Blk W6 g8 40 (H 0)) := by
        unfold Hid; rw [HW6.out, ← Hg8.out, HH.out]
        simp only
        rw [Hacc.out, accN, digL_zero]
        exact Blk.new w5 _ _
      have HW6' := HW6.out
      clear HW6
      go_upto_region 8 with (refine wpList_alloc_arr rfl 40 rfl _ zero40 ?_)
      rw [← HW6', Hg8.out]
      clear HW6'
      go_wp2_with fail
      go_loopw [9] (fun v wr => ∃ j a : Nat, j ≤ nBlk bs.length ∧ Hid (a = 16 * j) ∧ v = .int .i64 (a : Int) ∧ Grows w5 wr ∧ Hid (Blk wr g8 40 (H j))) (fun v _ => l + 16 - (intOf v).toNat)
      case atStart => exact ⟨0, 0, Nat.zero_le _, lib_hid rfl, rfl, hg6, HH6⟩
      case round =>
        clear HH6 hg6
        obtain ⟨j, a, hj, Ha, rfl, hgr, HN⟩ := hrel
        by_cases hlt : a < l
        · have hki : (a : Int) < (l : Int) := by omega
          obtain ⟨bk, ok, rfl, hbk, hcb⟩ := HSr.out.at (by omega)
          have Hcb := lib_hid hcb
          have Hbk := lib_hid hbk
          obtain ⟨d, hd, Hd⟩ : ∃ d : Nat, (l : Int) - (a : Int) = (d : Int) ∧ Hid (d = l - a) := ⟨l - a, by omega, lib_hid rfl⟩
          obtain ⟨n, hn, Hn, hn16⟩ : ∃ n : Nat, min (16 : Int) (d : Int) = (n : Int) ∧ Hid (n = min 16 d) ∧ (n : Int) ≤ 16 := ⟨min 16 d, by omega, lib_hid rfl, by omega⟩
          obtain ⟨blk, Hblk, Hbn⟩ : ∃ b, Hid ((bs.drop a).take 16 = b) ∧ Hid (b.length = n) := ⟨_, lib_hid rfl, by unfold Hid; rw [List.length_take, List.length_drop, Hbl.out, Hn.out, Hd.out]⟩
          obtain ⟨h0, Hh0, h0l, h0b⟩ : ∃ h, Hid (digL 40 (acc j) = h) ∧ Hid (h.length = 40) ∧ Hid (∀ i, h.getD i 0 ≤ 255) := ⟨_, lib_hid rfl, lib_hid (digL_len _ _), lib_hid (digL_bd _ _)⟩
          have HN0 : Hid (Blk wr g8 40 (iL (addB h0 blk 0))) := by
            unfold Hid; rw [addB, ← Hh0.out]; have := HN.out; rw [HH.out] at this; exact this
          have Haj := lib_hid (And.intro hlt hj)
          have hab : (a : Int) ≤ 1000000 := by have := hll.out; omega
          have hlb : (l : Int) ≤ 1000000 := by have := hll.out; omega
          clear HN hcb hbk hlt hj
          go_wp2_with fail
          obtain ⟨wo, ewo⟩ : ∃ wo : World, wo = wr := ⟨_, rfl⟩
          subst ewo
          have hgo := hgr
          clear hgr hn hd
          go_loopw [11] (fun v wr => ∃ i : Nat, i ≤ n ∧ v = .int .i64 (i : Int) ∧ Grows w5 wr ∧ Hid (Blk wr g8 40 (iL (addB h0 blk i)))) (fun v _ => n - (intOf v).toNat)
          case atStart => exact ⟨0, Nat.zero_le _, rfl, hgo, HN0⟩
          case round =>
            clear HN0 hgo hki
            obtain ⟨i, hi, rfl, hgr, HN⟩ := hrel
            by_cases hlt : i < n
            · have hii : (i : Int) < (n : Int) := by omega
              have hi40 : (i : Int) < 40 := by omega
              obtain ⟨e, he, He, hel⟩ : ∃ e : Nat, (a : Int) + (i : Int) = (e : Int) ∧ Hid (e = a + i) ∧ e < l := ⟨a + i, by omega, lib_hid rfl, by have := Hn.out; have := Hd.out; have := Haj.out.1; omega⟩
              have heli : (e : Int) < (l : Int) := by omega
              obtain ⟨y, Hy⟩ : ∃ y, Hid (blk.getD i 0 = y) := ⟨_, lib_hid rfl⟩
              have cb : wr.cell? ⟨bk, ok + e, none⟩ = some (.int .u8 (y.toNat : Int)) := by
                obtain ⟨b', o', e', _, hc⟩ := (HSr.out.grows hgr).at (by omega)
                cases e'
                have hbe : e < bs.length := by rw [Hbl.out]; exact hel
                rw [hc e hbe, ← Hy.out, ← Hblk.out, List.getD_eq_getElem?_getD, List.getElem?_take, if_pos (by omega), List.getElem?_drop, ← He.out, List.getElem?_eq_getElem hbe]
                rfl
              have hyb := u8_lt y
              have hyb2 : (y.toNat : Int) ≤ 255 := by omega
              obtain ⟨x, Hx, hxb⟩ : ∃ x : Nat, Hid ((addB h0 blk i).getD i 0 = x) ∧ (x : Int) ≤ 255 := ⟨_, lib_hid rfl, by have := (addB_bd h0 h0b.out blk i (by rw [h0l.out]; omega)).2 i (Nat.le_refl _); omega⟩
              have c8 : wr.cell? ⟨g8, i, none⟩ = some (.int .i64 (x : Int)) := by rw [← Hx.out]; exact cellL HN.out i (by rw [addB_len, h0l.out]; omega)
              have f8 := HN.out.frozen i
              obtain ⟨z, hz, Hz, hzb⟩ : ∃ z : Nat, (x : Int) + (y.toNat : Int) = (z : Int) ∧ Hid (z = x + y.toNat) ∧ (z : Int) ≤ 1000 := ⟨x + y.toNat, by omega, lib_hid rfl, by omega⟩
              obtain ⟨W2, HW2⟩ : ∃ X : World, Hid (X = (wr.setCell ⟨g8, i, none⟩ (.int .i64 (z : Int))).drew) := ⟨_, lib_hid rfl⟩
              have HN2 : Hid (Blk W2 g8 40 (iL (addB h0 blk (i + 1)))) := by
                have := blk_setL HN.out i z
                unfold Hid; rw [HW2.out, addB, Hx.out, Hy.out, ← Hz.out]; exact this
              have hg2 : Grows w5 W2 := by rw [HW2.out]; exact (hgr.setCell (p := ⟨g8, i, none⟩) (by show w5.heap.size ≤ g8; rw [Hg8.out]; exact Nat.le_refl _) _).drew
              have HW2' := HW2.out
              have HLt := lib_hid hlt
              clear HN hgr HW2 hlt hyb hel
              go_upto_region 15 with fail
              clear hii
              go_region
              rw [← HW2']
              clear HW2' cb c8 f8 hz he heli
              go_wp2_with fail
              go_roundw
              case rel => exact ⟨i + 1, HLt.out, by go_num, hg2, HN2⟩
              case measure => have := HLt.out; simp [intOf]; omega
            · have Hi : Hid (i = n) := by unfold Hid; omega
              have hii : ¬ (i : Int) < (n : Int) := by omega
              have hn40 : (n : Int) < 40 := by omega
              have HNn : Hid (Blk wr g8 40 (iL (addB h0 blk n))) := by have := HN.out; rw [Hi.out] at this; exact this
              obtain ⟨x, Hx, hxb⟩ : ∃ x : Nat, Hid ((addB h0 blk n).getD n 0 = x) ∧ (x : Int) ≤ 510 := ⟨_, lib_hid rfl, by have := (addB_bd h0 h0b.out blk n (by rw [h0l.out]; omega)).1 n; omega⟩
              have c8 : wr.cell? ⟨g8, n, none⟩ = some (.int .i64 (x : Int)) := by rw [← Hx.out]; exact cellL HNn.out n (by rw [addB_len, h0l.out]; omega)
              have f8 := HNn.out.frozen n
              obtain ⟨z, hz, Hz, hzb⟩ : ∃ z : Nat, (x : Int) + 1 = (z : Int) ∧ Hid (z = x + 1) ∧ (z : Int) ≤ 1000 := ⟨x + 1, by omega, lib_hid rfl, by omega⟩
              obtain ⟨E, HE, El, Eb⟩ : ∃ E, Hid (endB h0 blk n = E) ∧ Hid (E.length = 40) ∧ Hid (∀ j, E.getD j 0 ≤ 511) := ⟨_, lib_hid rfl, by unfold Hid; rw [endB_len, h0l.out], fun j => endB_bd h0 h0b.out blk n (by rw [h0l.out]; omega) j⟩
              obtain ⟨W3, HW3⟩ : ∃ X : World, Hid (X = wr.setCell ⟨g8, n, none⟩ (.int .i64 (z : Int))) := ⟨_, lib_hid rfl⟩
              have HN3 : Hid (Blk W3 g8 40 (iL E)) := by
                have := blk_setL HNn.out n z
                unfold Hid; rw [HW3.out, ← HE.out, endB, Hx.out, ← Hz.out]; exact this
              have hg3 : Grows w5 W3 := by rw [HW3.out]; exact hgr.setCell (p := ⟨g8, n, none⟩) (by show w5.heap.size ≤ g8; rw [Hg8.out]; exact Nat.le_refl _) _
              obtain ⟨g12, Hg12⟩ : ∃ x, Hid (W3.heap.size = x) := ⟨_, lib_hid rfl⟩
              obtain ⟨W4, HW4⟩ : ∃ X : World, Hid (X = W3.alloc (.cells (iL (List.replicate 40 0)) 40)) := ⟨_, lib_hid rfl⟩
              have hg4 : Grows W3 W4 := by rw [HW4.out]; exact (Grows.refl _).alloc _
              have HP4 : Hid (Blk W4 g12 40 (iL (prodP E cl 0))) := by
                unfold Hid; rw [HW4.out, ← Hg12.out, prodP]; exact Blk.new W3 _ _
              have HW3' := HW3.out
              have HW4' := HW4.out
              clear HN HNn HW3 HW4 hlt hgr hi
              go_upto_region 17 with fail
              rw [← HW3']
              clear HW3' c8 f8 hz hii
              go_upto_region 18 with (refine wpList_alloc_arr rfl 40 rfl _ zero40 ?_)
              rw [← HW4', Hg12.out]
              clear HW4'
              go_wp2_with fail
              go_loopw [13] (fun v wr => ∃ i : Nat, i ≤ 20 ∧ v = .int .i64 (i : Int) ∧ Grows W3 wr ∧ Hid (Blk wr g12 40 (iL (prodP E cl i)))) (fun v _ => 20 - (intOf v).toNat)
              case atStart => exact ⟨0, by omega, rfl, hg4, HP4⟩
              case round =>
                clear HP4 hg4
                obtain ⟨i, hi, rfl, hgr, HP⟩ := hrel
                by_cases hlt : i < 20
                · have hii : (i : Int) < 20 := by omega
                  obtain ⟨P, HPP, Pl, Pb⟩ : ∃ P, Hid (prodP E cl i = P) ∧ Hid (P.length = 40) ∧ Hid (∀ j, P.getD j 0 ≤ 2084880 * i) := ⟨_, lib_hid rfl, lib_hid (prodP_len _ _ _), prodP_bd E Eb.out cl i (by omega)⟩
                  have HP0 : Hid (Blk wr g12 40 (iL (rowP E cl i P 0))) := by unfold Hid; rw [rowP, ← HPP.out]; exact HP.out
                  have HLti := lib_hid hlt
                  clear HP hlt hi
                  go_wp2_with fail
                  obtain ⟨wo, ewo⟩ : ∃ wo : World, wo = wr := ⟨_, rfl⟩
                  subst ewo
                  have hgo := hgr
                  clear hgr
                  go_loopw [14] (fun v wr => ∃ k : Nat, k ≤ 16 ∧ v = .int .i64 (k : Int) ∧ Grows W3 wr ∧ Hid (Blk wr g12 40 (iL (rowP E cl i P k)))) (fun v _ => 16 - (intOf v).toNat)
                  case atStart => exact ⟨0, by omega, rfl, hgo, HP0⟩
                  case round =>
                    clear HP0 hgo
                    obtain ⟨k, hk, rfl, hgr, HP⟩ := hrel
                    by_cases hlt : k < 16
                    · have hkk : (k : Int) < 16 := by omega
                      have hi40 : (i : Int) < 40 := by omega
                      obtain ⟨e, he, He, heb⟩ : ∃ e : Nat, (i : Int) + (k : Int) = (e : Int) ∧ Hid (e = i + k) ∧ (e : Int) < 40 := ⟨i + k, by omega, lib_hid rfl, by omega⟩
                      obtain ⟨x, Hx, hxb⟩ : ∃ x : Nat, Hid ((rowP E cl i P k).getD e 0 = x) ∧ (x : Int) ≤ 50000000 := ⟨_, lib_hid rfl, by
                        have := rowP_bd E Eb.out cl i P _ Pb.out k (by rw [Pl.out]; omega) e
                        omega⟩
                      obtain ⟨hv, Hhv, hhvb⟩ : ∃ x : Nat, Hid (E.getD i 0 = x) ∧ (x : Int) ≤ 511 := ⟨_, lib_hid rfl, by have := Eb.out i; omega⟩
                      obtain ⟨rv, Hrv⟩ : ∃ y, Hid (cl.getD k 0 = y) := ⟨_, lib_hid rfl⟩
                      have hrv := u8_lt rv
                      have hrvb : (rv.toNat : Int) ≤ 255 := by omega
                      obtain ⟨m, hm, Hm, hmb⟩ : ∃ m : Nat, (hv : Int) * (rv.toNat : Int) = (m : Int) ∧ Hid (m = hv * rv.toNat) ∧ (m : Int) ≤ 130305 := ⟨hv * rv.toNat, by rw [Int.natCast_mul], lib_hid rfl, by
                        have : hv * rv.toNat ≤ 511 * 255 := Nat.mul_le_mul (by omega) (by omega)
                        omega⟩
                      obtain ⟨s, hs, Hs, hsb⟩ : ∃ s : Nat, (x : Int) + (m : Int) = (s : Int) ∧ Hid (s = x + m) ∧ (s : Int) ≤ 60000000 := ⟨x + m, by omega, lib_hid rfl, by omega⟩
                      have c12 : wr.cell? ⟨g12, e, none⟩ = some (.int .i64 (x : Int)) := by rw [← Hx.out]; exact cellL HP.out e (by rw [rowP_len, Pl.out]; omega)
                      have c8 : wr.cell? ⟨g8, i, none⟩ = some (.int .i64 (hv : Int)) := by rw [← Hhv.out]; exact cellL (HN3.out.grows hgr) i (by rw [El.out]; omega)
                      have c7 : wr.cell? ⟨g7, k, none⟩ = some (.int .u8 (rv.toNat : Int)) := by rw [← Hrv.out]; exact cell8 ((HRr.out.grows hg3).grows hgr) k (by rw [hcl.out]; omega)
                      have f12 := HP.out.frozen e
                      obtain ⟨W9, HW9⟩ : ∃ X : World, Hid (X = (wr.setCell ⟨g12, e, none⟩ (.int .i64 (s : Int))).drew) := ⟨_, lib_hid rfl⟩
                      have HP9 : Hid (Blk W9 g12 40 (iL (rowP E cl i P (k + 1)))) := by
                        have := blk_setL HP.out e s
                        unfold Hid; rw [HW9.out, rowP, ← He.out, Hx.out, Hhv.out, Hrv.out, ← Hm.out, ← Hs.out]; exact this
                      have hg9 : Grows W3 W9 := by rw [HW9.out]; exact (hgr.setCell (p := ⟨g12, e, none⟩) (by show W3.heap.size ≤ g12; rw [Hg12.out]; exact Nat.le_refl _) _).drew
                      have HW9' := HW9.out
                      clear HP hgr HW9 hlt hrv
                      go_upto_region 24 with fail
                      go_region
                      rw [← HW9']
                      clear HW9' c12 c8 c7 f12 he hm hs
                      go_wp2_with fail
                      go_roundw
                      case rel => exact ⟨k + 1, by omega, by go_num, hg9, HP9⟩
                      case measure => simp [intOf]; omega
                    · have hkk : ¬ (k : Int) < 16 := by omega
                      have HP3 : Hid (Blk wr g12 40 (iL (prodP E cl (i + 1)))) := by
                        have e : k = 16 := by omega
                        have := HP.out
                        rw [e] at this
                        unfold Hid; rw [prodP, HPP.out]; exact this
                      clear HP hlt
                      go_wp2_with fail
                      go_roundw
                      case rel => exact ⟨i + 1, HLti.out, by go_num, hgr, HP3⟩
                      case measure => simp [intOf]; omega
                · have hii : ¬ (i : Int) < 20 := by omega
                  have Hi : Hid (i = 20) := by unfold Hid; omega
                  obtain ⟨P, HPP, Pl, Pb⟩ : ∃ P, Hid (prodP E cl 20 = P) ∧ Hid (P.length = 40) ∧ Hid (∀ j, P.getD j 0 ≤ 100000000) := ⟨_, lib_hid rfl, lib_hid (prodP_len _ _ _), fun j => by have := prodP_bd E Eb.out cl 20 (by omega) j; omega⟩
                  have HP2 : Hid (Blk wr g12 40 (iL P)) := by have := HP.out; rw [Hi.out, HPP.out] at this; exact this
                  have Hstep : Hid (numV P < 1361129467683753853853498429727072845824 * 1361129467683753853853498429727072845824 ∧ iL (digL 40 (numV P % pP)) = H (j + 1)) := by
                    have h1 := step_v (acc j) (Hlt.out j) blk cl (by rw [Hbn.out]; omega) hcl.out HR.out
                    rw [Hh0.out, Hbn.out, HE.out, HPP.out] at h1
                    refine ⟨by rw [h1.1]; exact h1.2, ?_⟩
                    rw [h1.1, HH.out]
                    simp only
                    rw [Hacc.out]
                    simp only [accN]
                    rw [← Ha.out, Hblk.out, ← Hacc.out]
                  have HC1 : Hid (∀ W, Calls Try.prog 18 #[.agg (iL P)] W fun e w' => e = .returned (.agg (iL (digL 40 (numV P)))) ∧ Grows W w') := fun W => HCa.out P W Pl.out Pb.out
                  have HC2 : Hid (∀ W, Calls Try.prog 17 #[.agg (iL (digL 40 (numV P)))] W fun e w' => e = .returned (.agg (H (j + 1))) ∧ Grows W w') := fun W => by rw [← Hstep.out.2]; exact HRe.out _ W Hstep.out.1
                  obtain ⟨Q, HQ⟩ : ∃ Q, Hid (iL (digL 40 (numV P)) = Q) := ⟨_, lib_hid rfl⟩
                  rw [HQ.out] at HC1 HC2
                  obtain ⟨V, HV, Vl⟩ : ∃ Q, Hid (iL P = Q) ∧ Hid (Q.size = 40) := ⟨_, lib_hid rfl, by unfold Hid; rw [iL_size, Pl.out]⟩
                  rw [HV.out] at HC1 HP2
                  obtain ⟨N1, HN1, N1l, N1a⟩ : ∃ Q, Hid (H (j + 1) = Q) ∧ Hid (Q.size = 40) ∧ Hid (Q.all (·.oneCell') = true) := ⟨_, lib_hid rfl, Hsz.out _, Hal.out _⟩
                  rw [HN1.out] at HC2
                  have HNr := lib_hid (HN3.out.grows hgr)
                  have hgr5' := hg3.trans hgr
                  obtain ⟨E', HE', E'l⟩ : ∃ Q, Hid (iL E = Q) ∧ Hid (Q.size = 40) := ⟨_, lib_hid rfl, by unfold Hid; rw [iL_size, El.out]⟩
                  rw [HE'.out] at HNr
                  clear HP hgr hlt hi
                  go_wp2_with (refine wpList_load_blk rfl _ _ rfl g12 rfl 40 V _ HP2.out Try.underlying40 rfl (by rw [Try.size40, Vl.out]) ?_)
                  refine (HC1.out _).mono ?_
                  rintro e w7 ⟨rfl, hg7⟩
                  go_wp2_with fail
                  refine (HC2.out _).mono ?_
                  rintro e w8 ⟨rfl, hg8'⟩
                  have hgg := hgr5'.trans (hg7.trans hg8')
                  have HN8 := lib_hid (HNr.out.grows (hg7.trans hg8'))
                  clear HNr hgr5' hg7 hg8' HP2
                  go_wp2_with (refine wpList_store_blk rfl _ _ _ rfl g8 N1 rfl rfl 40 _ HN8.out (by rw [Try.size40, N1l.out]) (by rw [E'l.out, N1l.out]) N1a.out g8 w8 (Below.refl _ _) (Nat.le_refl _) ?_; intro w9 HR6 hb5 hgr9; have HR9 := lib_hid HR6; have hgr9' := lib_hid hgr9; clear HR6 hb5 hgr9)
                  have hgw9 : Grows w5 w9 := hgg.grown hgr9'.out (fun k e => by cases e; show w5.heap.size ≤ g8; rw [Hg8.out]; exact Nat.le_refl _)
                  have HN9 : Hid (Blk w9 g8 40 (H (j + 1))) := by unfold Hid; rw [HN1.out]; exact HR9.out
                  go_roundw
                  case rel => exact ⟨j + 1, a + 16, by have h1 := Haj.out.1; have h2 := Ha.out; have h3 := Hbl.out; unfold nBlk; omega, by have h2 := Ha.out; unfold Hid; omega, by go_num, hgw9, HN9⟩
                  case measure => have h1 := Haj.out.1; simp [intOf]; omega
        · have hki : ¬ (a : Int) < (l : Int) := by omega
          have Hj : Hid (j = nBlk bs.length) := by have h2 := Ha.out; have h3 := Hbl.out; unfold Hid nBlk at *; omega
          obtain ⟨av, Hav, havb⟩ : ∃ a, Hid (acc j = a) ∧ Hid (a < 1361129467683753853853498429727072845824) := ⟨_, lib_hid rfl, lib_hid (Hlt.out j)⟩
          rw [← Hj.out, Hav.out] at HRes
          obtain ⟨h0, Hh0, h0l, h0b⟩ : ∃ h, Hid (digL 40 av = h) ∧ Hid (h.length = 40) ∧ Hid (∀ i, h.getD i 0 ≤ 255) := ⟨_, lib_hid rfl, lib_hid (digL_len _ _), lib_hid (digL_bd _ _)⟩
          have HN0 : Hid (Blk wr g8 40 (iL h0)) := by
            unfold Hid; rw [← Hh0.out, ← Hav.out]; have := HN.out; rw [HH.out] at this; exact this
          have HK0 := lib_hid (HKr.out.grows hgr)
          have hgw : Grows w wr := hg0.trans (hgr5.trans hgr)
          obtain ⟨g15, Hg15⟩ : ∃ x, Hid (wr.heap.size = x) := ⟨_, lib_hid rfl⟩
          obtain ⟨W2, HW2⟩ : ∃ X : World, Hid (X = wr.alloc (.cells (iL (List.replicate 40 0)) 40)) := ⟨_, lib_hid rfl⟩
          have hg2 : Grows wr W2 := by rw [HW2.out]; exact (Grows.refl _).alloc _
          have HS2 : Hid (Blk W2 g15 40 (iL (lastS h0 k2 0))) := by
            unfold Hid; rw [HW2.out, ← Hg15.out, lastS]; exact Blk.new wr _ _
          have HW2' := HW2.out
          clear HN HW2 hlt hj hgr
          obtain ⟨wo, ewo⟩ : ∃ wo : World, wo = wr := ⟨_, rfl⟩
          subst ewo
          go_upto_region 26 with fail
          clear hki
          go_upto_region 27 with (refine wpList_alloc_arr rfl 40 rfl _ zero40 ?_)
          rw [← HW2', Hg15.out]
          clear HW2'
          go_wp2_with fail
          go_loopw [16] (fun v wr => ∃ i : Nat, i ≤ 16 ∧ v = .int .i64 (i : Int) ∧ Grows wo wr ∧ Hid (Blk wr g15 40 (iL (lastS h0 k2 i)))) (fun v _ => 16 - (intOf v).toNat)
          case atStart => exact ⟨0, by omega, rfl, hg2, HS2⟩
          case round =>
            clear HS2 hg2
            obtain ⟨i, hi, rfl, hgr, HS⟩ := hrel
            by_cases hlt : i < 16
            · have hii : (i : Int) < 16 := by omega
              have hi40 : (i : Int) < 40 := by omega
              obtain ⟨e, he, He, heb⟩ : ∃ e : Nat, (16 : Int) + (i : Int) = (e : Int) ∧ Hid (e = 16 + i) ∧ (e : Int) < 32 := ⟨16 + i, by omega, lib_hid rfl, by omega⟩
              obtain ⟨x, Hx, hxb⟩ : ∃ x : Nat, Hid (h0.getD i 0 = x) ∧ (x : Int) ≤ 255 := ⟨_, lib_hid rfl, by have := h0b.out i; omega⟩
              obtain ⟨y, Hy⟩ : ∃ y, Hid (key.getD e 0 = y) := ⟨_, lib_hid rfl⟩
              have Hy2 : Hid (k2.getD i 0 = y) := by
                unfold Hid
                rw [← Hk2.out, ← Hy.out, He.out, List.getD_eq_getElem?_getD, List.getElem?_drop, ← List.getD_eq_getElem?_getD]
              have hyb := u8_lt y
              have hyb2 : (y.toNat : Int) ≤ 255 := by omega
              obtain ⟨z, hz, Hz, hzb⟩ : ∃ z : Nat, (x : Int) + (y.toNat : Int) = (z : Int) ∧ Hid (z = x + y.toNat) ∧ (z : Int) ≤ 1000 := ⟨x + y.toNat, by omega, lib_hid rfl, by omega⟩
              have c8 : wr.cell? ⟨g8, i, none⟩ = some (.int .i64 (x : Int)) := by rw [← Hx.out]; exact cellL (HN0.out.grows hgr) i (by rw [h0l.out]; omega)
              have ck : wr.cell? ⟨w.heap.size, e, none⟩ = some (.int .u8 (y.toNat : Int)) := by rw [← Hy.out]; exact cell8 (HK0.out.grows hgr) e (by rw [kl.out]; omega)
              obtain ⟨y0, cs⟩ : ∃ y0 : Nat, wr.cell? ⟨g15, i, none⟩ = some (.int .i64 (y0 : Int)) := ⟨_, cellL HS.out i (by rw [lastS_len]; omega)⟩
              have fs := HS.out.frozen i
              obtain ⟨W9, HW9⟩ : ∃ X : World, Hid (X = (wr.setCell ⟨g15, i, none⟩ (.int .i64 (z : Int))).drew) := ⟨_, lib_hid rfl⟩
              have HS9 : Hid (Blk W9 g15 40 (iL (lastS h0 k2 (i + 1)))) := by
                have := blk_setL HS.out i z
                unfold Hid; rw [HW9.out, lastS, Hx.out, Hy2.out, ← Hz.out]; exact this
              have hg9 : Grows wo W9 := by rw [HW9.out]; exact (hgr.setCell (p := ⟨g15, i, none⟩) (by show wo.heap.size ≤ g15; rw [Hg15.out]; exact Nat.le_refl _) _).drew
              have HW9' := HW9.out
              clear HS hgr HW9 hlt hyb
              go_upto_region 30 with fail
              go_region
              rw [← HW9']
              clear HW9' c8 ck cs fs he hz
              go_wp2_with fail
              go_roundw
              case rel => exact ⟨i + 1, by omega, by go_num, hg9, HS9⟩
              case measure => simp [intOf]; omega
            · have hii : ¬ (i : Int) < 16 := by omega
              have Hi : Hid (i = 16) := by unfold Hid; omega
              obtain ⟨S, HSS, Sl, Sb⟩ : ∃ S, Hid (lastS h0 k2 16 = S) ∧ Hid (S.length = 40) ∧ Hid (∀ j, S.getD j 0 ≤ 100000000) := ⟨_, lib_hid rfl, lib_hid (lastS_len _ _ _), fun j => by have := lastS_bd h0 h0b.out k2 16 (by omega) j; omega⟩
              have HSr2 : Hid (Blk wr g15 40 (iL S)) := by have := HS.out; rw [Hi.out, HSS.out] at this; exact this
              obtain ⟨wv, Hwv⟩ : ∃ x, Hid (numV S = x) := ⟨_, lib_hid rfl⟩
              have Hwv2 : Hid (outB wv 16 = res) := by
                have h1 := lastS_v h0 h0l.out k2 hk2.out 16 (by omega)
                rw [HSS.out, Hwv.out, ← Hh0.out, take_v 40 av 16 (by omega), List.take_of_length_le (by rw [hk2.out]; omega), show (256 : Nat) ^ 16 = 340282366920938463463374607431768211456 by decide] at h1
                unfold Hid; rw [h1]; exact HRes.out
              have HC1 : Hid (∀ W, Calls Try.prog 18 #[.agg (iL S)] W fun e w' => e = .returned (.agg (iL (digL 40 wv))) ∧ Grows W w') := fun W => by rw [← Hwv.out]; exact HCa.out S W Sl.out Sb.out
              obtain ⟨V, HV, Vl⟩ : ∃ Q, Hid (iL S = Q) ∧ Hid (Q.size = 40) := ⟨_, lib_hid rfl, by unfold Hid; rw [iL_size, Sl.out]⟩
              obtain ⟨N1, HN1, N1l, N1a⟩ : ∃ Q, Hid (iL (digL 40 wv) = Q) ∧ Hid (Q.size = 40) ∧ Hid (Q.all (·.oneCell') = true) := ⟨_, lib_hid rfl, by unfold Hid; rw [iL_size, digL_len], iL_all _⟩
              rw [HV.out, HN1.out] at HC1
              rw [HV.out] at HSr2
              have hgww := hgw.trans hgr
              clear HS hgr hlt hi
              go_wp2_with (refine wpList_load_blk rfl _ _ rfl g15 rfl 40 V _ HSr2.out Try.underlying40 rfl (by rw [Try.size40, Vl.out]) ?_)
              refine (HC1.out _).mono ?_
              rintro e w7 ⟨rfl, hg7⟩
              have HS7 := lib_hid (HSr2.out.grows hg7)
              have hgw7 := hgww.trans hg7
              have hwle : w.heap.size ≤ g15 := by rw [← Hg15.out]; exact hgw.le
              have Hwle := lib_hid hwle
              clear HSr2 hg7 hgww hwle hii
              go_upto_region 32 with (refine wpList_store_blk rfl _ _ _ rfl g15 N1 rfl rfl 40 _ HS7.out (by rw [Try.size40, N1l.out]) (by rw [Vl.out, N1l.out]) N1a.out g15 w7 (Below.refl _ _) (Nat.le_refl _) ?_; intro w9 HR6 hb5 hgr9; have HR9 := lib_hid HR6; have hgr9' := lib_hid hgr9; clear HR6 hb5 hgr9)
              have hgw9 : Grows w w9 := hgw7.grown hgr9'.out (fun k e => by cases e; exact Hwle.out)
              have HS9 : Hid (∀ k, k < 40 → ∀ W, Grows w9 W → W.cell? ⟨g15, k, none⟩ = some (.int .i64 ((wv / 256 ^ k % 256 : Nat) : Int))) := fun k hk W hW => by
                have h1 := HR9.out
                rw [← HN1.out] at h1
                have h2 := cellL (h1.grows hW) k (by rw [digL_len]; exact hk)
                rw [digL_at _ _ _ hk] at h2
                exact h2
              clear HS7 hgw7 hgr9'
              go_wp2_with fail
              go_loopw [17, 18] (fun v iv wr => ∃ (k : Nat) (A' : Option Addr) (c' : Nat), k ≤ 16 ∧ iv = .int .i64 (k : Int) ∧ v = .slice A' k c' ∧ Grows w9 wr ∧ Hid (wr.ownsRow w9.heap.size 5 1 (.slice A' k c') k ((outB wv k).map b8))) (fun _ iv _ => 16 - (intOf iv).toNat)
              case atStart => exact ⟨0, none, 0, by omega, rfl, rfl, Grows.refl _, World.ownsRow_nil _ _ _ _⟩
              case round =>
                obtain ⟨k, A', c', hk, rfl, rfl, hg, HO⟩ := hrel
                by_cases hlt : k < 16
                · have hkk : (k : Int) < 16 := by omega
                  have hk40 : (k : Int) < 40 := by omega
                  obtain ⟨x, Hx, hx⟩ : ∃ x : UInt8, Hid (UInt8.ofNat (wv / 256 ^ k % 256) = x) ∧ ((wv / 256 ^ k % 256 : Nat) : Int) = (x.toNat : Int) := ⟨_, lib_hid rfl, by
                    have := Nat.mod_lt (wv / 256 ^ k) (show 0 < 256 by omega)
                    generalize wv / 256 ^ k % 256 = q at this ⊢
                    rw [UInt8.toNat_ofNat', Nat.mod_eq_of_lt this]⟩
                  have c15 : wr.cell? ⟨g15, k, none⟩ = some (.int .i64 (x.toNat : Int)) := by rw [← hx]; exact HS9.out k (by omega) wr hg
                  have hxb := u8_lt x
                  have hxb2 : (x.toNat : Int) ≤ 255 := by omega
                  have hr := one_row wr 5 (b8 x)
                  have ho := HO.out.alloc (.cells #[b8 x] 5)
                  have hg1 := hg.alloc (.cells #[b8 x] 5)
                  have hge := hg.le
                  have HHH := lib_hid (And.intro hr ho)
                  have Hs : Hid ((outB wv k).map b8 ++ [b8 x] = (outB wv (k + 1)).map b8) := by
                    unfold Hid
                    rw [outB_succ, Hx.out]
                    simp
                  clear hr ho hx
                  go_wp2_with (at_builtin; refine wpList_append rfl _ _ 23 rfl w9.heap.size 5 (.int .u8 0) 1 Try.underlying23 Try.infoByte rfl _ k _ rfl HHH.out.2 _ 1 _ [b8 x] rfl HHH.out.1 (b8_one [x]) (by omega) (by omega) (by simp; omega) ?_; intro A2 c2 w2 ho' hb' _)
                  rw [Hs.out] at ho'
                  have HO' := lib_hid ho'
                  clear ho'
                  have hg' := below_trans hg1 hb'
                  go_roundw
                  case rel => exact ⟨k + 1, A2, c2, by omega, by go_num, rfl, hg', HO'⟩
                  case measure => simp [intOf]; omega
                · have hkk : ¬ (k : Int) < 16 := by omega
                  have e : k = 16 := by omega
                  have Hfin : Hid (outB wv k = res) := by unfold Hid; rw [e]; exact Hwv2.out
                  have Hlen : Hid (k = res.length) := by unfold Hid; rw [← Hwv2.out, outB_len, e]
                  have hgf := hgw9.trans hg
                  have hle := lib_hid hgw9.le
                  clear e hlt hk
                  go_wp2_with fail
                  go_ret
                  exact newB_mk rfl Hlen.out hgf (by have := HO.out; rw [Hfin.out] at this; exact own_base this hle.out)

end Go.Proofs.Ytilgkadochhkjaa
