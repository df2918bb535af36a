/-
  The walk of the document's Count.
-/
import Derived.Test.YtbajolgfejcecaaCount
import Derived.Test.YtbajolgfejcecaaRef1
namespace Go.Proofs.Ytbajolgfejcecaa
open Go Go.RowKit

def refCnt (add : List UInt8) : Nat → List UInt8 → Nat → List UInt8
  | 0, cs, _ => cs
  | k + 1, cs, cy => refCnt add k (cs.set k (UInt8.ofNat ((cs.getD k 0).toNat + (add.getD k 0).toNat + cy))) (((cs.getD k 0).toNat + (add.getD k 0).toNat + cy) / 256)

set_option maxRecDepth 100000 in
set_option maxHeartbeats 1000000 in
theorem refCount_any (bs : List UInt8) (hb : bs.length = 16) (n : UInt64) (w : World) :
    Calls Try.prog 26 #[.agg (bs.map b8).toArray, .int .u64 n.toNat] w fun e w' => e = .returned (.agg ((refCnt (putBigF n 16) 16 bs 0).map b8).toArray) ∧ Grows w w' := by
  have Hlen := lib_hid hb
  clear hb
  obtain ⟨W0, HW0, hW0, hg0⟩ : ∃ W0 : World, Hid (W0 = (w.alloc (.cells (bs.map b8).toArray 37)).alloc (.cells #[.int .u8 0, .int .u8 0, .int .u8 0, .int .u8 0, .int .u8 0, .int .u8 0, .int .u8 0, .int .u8 0, .int .u8 0, .int .u8 0, .int .u8 0, .int .u8 0, .int .u8 0, .int .u8 0, .int .u8 0, .int .u8 0] 37)) ∧ W0.heap.size = w.heap.size + 2 ∧ Grows w W0 := ⟨_, lib_hid rfl, by simp, ((Grows.refl w).alloc _).alloc _⟩
  have HA : Hid (Blk W0 w.heap.size 37 (bs.map b8).toArray) := by unfold Hid; rw [HW0.out]; exact (Blk.new _ _ _).alloc _
  have HR : Hid (Blk W0 (w.heap.size + 1) 37 ((List.replicate 16 (0 : UInt8)).map b8).toArray) := by
    unfold Hid; rw [HW0.out, zeros16]; have := Blk.new (w.alloc (.cells (bs.map b8).toArray 37)) 37 ((List.replicate 16 (0 : UInt8)).map b8).toArray; simpa using this
  go_enter Try.func26, Try.ntmps26
  go_wp2_with fail
  rw [← HW0.out]
  refine (refPutBig_any n 16 W0 (by omega)).mono ?_
  rintro e w1 ⟨A1, n1, c1, hn1, rfl, hg1, ho1⟩
  have Hadd : Hid (putBigF n (Int.toNat 16) = putBigF n 16) := lib_hid rfl
  rw [Hadd.out] at ho1 hn1
  have hal : (putBigF n 16).length = 16 := putBigF_len' _ _
  obtain ⟨add, Hadd'⟩ : ∃ add, Hid (putBigF n 16 = add) := ⟨_, lib_hid rfl⟩
  rw [Hadd'.out] at hal ho1 hn1
  obtain rfl : n1 = 16 := by rw [hn1.out, hal]
  obtain ⟨A2, c2, e2, hr, hbase⟩ := own_form ho1
  cases e2
  obtain ⟨g, off, rfl, hgl, hcell⟩ := hr.2.2.2.2 (by omega)
  have hgb : w.heap.size + 2 ≤ g := by have := hbase _ rfl; simp at this; omega
  have HC : Hid (∀ j, j < 16 → w1.cell? ⟨g, off + j, none⟩ = some (.int .u8 ((add.getD j 0).toNat : Int))) := fun j hj => by
    rw [hcell j hj, List.getElem?_map, List.getElem?_eq_getElem (by omega)]
    simp [b8, List.getD, show j < add.length by omega]
  have HA1 := lib_hid (HA.out.grows hg1)
  have HR1 := lib_hid (HR.out.grows hg1)
  have hgw : Below w.heap.size w w1 := Below.trans hg0 (Below.mono hg1 (by omega))
  clear hcell hbase ho1 hn1 hr HA HR Hadd
  have Hal := lib_hid hal
  clear hal
  go_wp2_with fail
  go_loopw [6, 7, 8] (fun cy i _ wr => ∃ (k : Nat) (cs : List UInt8) (y : Nat), k ≤ 16 ∧ i = .int .i64 ((k : Int) - 1) ∧ cy = .int .i64 (y : Int) ∧ y ≤ 1 ∧ Hid (cs.length = 16) ∧ Hid (refCnt add k cs y = refCnt add 16 bs 0) ∧
      Hid (Blk wr w.heap.size 37 (cs.map b8).toArray) ∧ Hid (Blk wr (w.heap.size + 1) 37 ((List.replicate 16 (0 : UInt8)).map b8).toArray) ∧ Hid (wr.heap[g]? = w1.heap[g]?) ∧ Below w.heap.size w wr)
    (fun _ i _ _ => (intOf i + 1).toNat)
  case atStart => exact ⟨16, bs, 0, by omega, rfl, rfl, by omega, Hlen, lib_hid rfl, HA1, HR1, lib_hid rfl, hgw⟩
  case round =>
    obtain ⟨k, cs, y, hk, rfl, rfl, hy, HL, HV, HA2, HR2, HG, hbw⟩ := hrel
    rcases Nat.eq_zero_or_pos k with hz | hz
    · subst hz
      have h0 : ¬ (0 : Int) ≤ ((0 : Nat) : Int) - 1 := by omega
      obtain ⟨res, hres⟩ : ∃ res, Hid (((cs.map b8).toArray) = res) := ⟨_, lib_hid rfl⟩
      have hcl : res.size = 16 := by rw [← hres.out]; simp [HL.out]
      have hca : res.all (·.oneCell') = true := by rw [← hres.out]; exact cells_all _
      have HA3 := HA2.out
      have HR3 := HR2.out
      rw [hres.out] at HA3
      go_wp2_with (first
        | (refine wpList_load_blk rfl _ _ rfl w.heap.size rfl _ res _ HA3 Try.underlying37 rfl (by rw [Try.size16, hcl]) ?_)
        | (refine wpList_store_blk rfl _ _ _ rfl (w.heap.size + 1) res rfl rfl _ _ HR3 (by rw [Try.size16, hcl]) (by simp [hcl]) hca w.heap.size w hbw (by omega) ?_; intro w5 HR6 hb5 hgr5))
      refine bodyPost_ret (results_cell_row rfl _ _ (w.heap.size + 1) _ res _ _ rfl HR6 Try.underlying37 rfl (by rw [Try.size16, hcl])) rfl ?_
      refine ⟨?_, hb5⟩
      rw [Hadd'.out, ← HV.out, refCnt, hres.out]
    · obtain ⟨j, rfl⟩ : ∃ j, k = j + 1 := ⟨k - 1, by omega⟩
      have e1 : ((j + 1 : Nat) : Int) - 1 = (j : Int) := by omega
      rw [e1]
      have hj : j < 16 := by omega
      have h0 : (0 : Int) ≤ j := by omega
      have h1 : (j : Int) < 16 := by omega
      have hcA : wr.cell? ⟨w.heap.size, j, none⟩ = some (.int .u8 ((cs.getD j 0).toNat : Int)) := by
        rw [Blk.cell HA2.out]; have := HL.out; simp [b8, List.getD, show j < cs.length by omega]
      have hcB : wr.cell? ⟨g, off + j, none⟩ = some (.int .u8 ((add.getD j 0).toNat : Int)) := (World.cell?_of_block (w := w1) HG.out).trans (HC.out j hj)
      obtain ⟨p, Hp⟩ : ∃ p, Hid (cs.getD j 0 = p) := ⟨_, lib_hid rfl⟩
      obtain ⟨q, Hq⟩ : ∃ q, Hid (add.getD j 0 = q) := ⟨_, lib_hid rfl⟩
      rw [Hp.out] at hcA
      rw [Hq.out] at hcB
      have hfz := Blk.frozen HA2.out j
      have hp := u8_lt p
      have hq := u8_lt q
      clear e1
      go_wp2_with fail
      go_quiet (fail)
      go_wp2_with fail
      go_roundw
      case rel =>
        obtain ⟨s, hs⟩ : ∃ s, p.toNat + q.toNat + y = s := ⟨_, rfl⟩
        have e2 : (p.toNat : Int) + q.toNat + y = (s : Int) := by omega
        have e3 : ((s : Int) % 256) = ((UInt8.ofNat s).toNat : Int) := by rw [UInt8.toNat_ofNat']; omega
        rw [e2, e3]
        have hB := (HA2.out.drewN nq).set j (.int .u8 ((UInt8.ofNat s).toNat : Int))
        have hm : ((cs.map b8).toArray).setIfInBounds j (.int .u8 ((UInt8.ofNat s).toNat : Int)) = ((cs.set j (UInt8.ofNat s)).map b8).toArray := by
          rw [List.setIfInBounds_toArray, ← List.map_set (f := b8)]
        rw [hm] at hB
        refine ⟨j, cs.set j (UInt8.ofNat s), s / 256, by omega, rfl, by simp, by omega, by unfold Hid; rw [List.length_set]; exact HL.out, ?_, hB, (HR2.out.drewN nq).far (by simp) _, ?_, ?_⟩
        · have := HV.out
          rw [refCnt, Hp.out, Hq.out, hs] at this
          exact this
        · exact (Below.heap_setCell _ _ _ _ (by simp; omega)).trans HG.out
        · exact (show Below w.heap.size w (wr.drewN nq) from ⟨hbw.os, hbw.tape, hbw.output, hbw.size, hbw.block⟩).setCell (Nat.le_refl _) _
      case measure => simp [intOf]

end Go.Proofs.Ytbajolgfejcecaa
