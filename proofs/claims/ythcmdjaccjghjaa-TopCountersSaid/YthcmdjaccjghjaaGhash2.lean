/-
  The walks of package ghash: the product of two elements.
-/
import Derived.Test.YthcmdjaccjghjaaGhash
namespace Go.Proofs.Ythcmdjaccjghjaa
open Go Go.RowKit

/-- Bit i of an element, the first one first. -/
def bitE (a b : UInt64) (i : Nat) : Bool := if i < 64 then (a >>> UInt64.ofNat (63 - i)) &&& 1 == 1 else (b >>> UInt64.ofNat (127 - i)) &&& 1 == 1
structure St where
  fa : UInt64
  fb : UInt64
  oa : UInt64
  ob : UInt64
def stStep (a b : UInt64) (i : Nat) (s : St) : St :=
  ⟨onA s.fa s.fb, onB s.fa s.fb, if bitE a b i then s.oa ^^^ s.fa else s.oa, if bitE a b i then s.ob ^^^ s.fb else s.ob⟩
def stAt (a b c d : UInt64) : Nat → St
  | 0 => ⟨c, d, 0, 0⟩
  | k + 1 => stStep a b k (stAt a b c d k)
def mulA (a b c d : UInt64) : UInt64 := (stAt a b c d 128).oa
def mulBB (a b c d : UInt64) : UInt64 := (stAt a b c d 128).ob

theorem bit_lo (a b : UInt64) (k : Nat) (h : k < 64) : (bits .and .u64 ((a.toNat : Int) / 2 ^ (63 - (k : Int)).toNat) 1 = 1) ↔ bitE a b k = true := by
  have e : (63 - (k : Int)).toNat = 63 - k := by omega
  unfold bitE
  rw [if_pos h, e, u64_shr a (63 - k) (by omega), and1, beq_iff_eq, ← UInt64.toNat_inj]
  exact Int.natCast_inj
theorem bit_hi (a b : UInt64) (k : Nat) (h : ¬ k < 64) (h2 : k < 128) : (bits .and .u64 ((b.toNat : Int) / 2 ^ (63 - ((k : Int) - 63 - 1)).toNat) 1 = 1) ↔ bitE a b k = true := by
  have e : (63 - ((k : Int) - 63 - 1)).toNat = 127 - k := by omega
  unfold bitE
  rw [if_neg h, e, u64_shr b (127 - k) (by omega), and1, beq_iff_eq, ← UInt64.toNat_inj]
  exact Int.natCast_inj

set_option maxRecDepth 100000 in
set_option maxHeartbeats 1000000 in
theorem times_any (a b c d : UInt64) (w : World) :
    Calls Try.prog 32 #[eV a b, eV c d] w fun e w' => e = .returned (eV (mulA a b c d) (mulBB a b c d)) ∧ Grows w w' := by
  obtain ⟨W0, HW0, hg0, hz0⟩ : ∃ W0 : World, Hid (W0 = (((w.alloc (.cells #[.int .u64 a.toNat, .int .u64 b.toNat] 64)).alloc (.cells #[.int .u64 c.toNat, .int .u64 d.toNat] 64)).alloc (.cells #[.int .u64 0, .int .u64 0] 64)).alloc (.cells #[.int .u64 0, .int .u64 0] 64)) ∧ Grows w W0 ∧ W0.heap.size = w.heap.size + 4 := ⟨_, lib_hid rfl, ((((Grows.refl w).alloc _).alloc _).alloc _).alloc _, by simp⟩
  have HE : Hid (Blk W0 w.heap.size 64 #[.int .u64 a.toNat, .int .u64 b.toNat]) := by
    unfold Hid; rw [HW0.out]; exact (((Blk.new _ _ _).alloc _).alloc _).alloc _
  have HF : Hid (Blk W0 (w.heap.size + 1) 64 #[.int .u64 c.toNat, .int .u64 d.toNat]) := by
    unfold Hid; rw [HW0.out]; exact (blk_mid _ _ _ _ _).alloc _
  have HR : Hid (Blk W0 (w.heap.size + 2) 64 #[.int .u64 0, .int .u64 0]) := by
    unfold Hid; rw [HW0.out]
    have := (Blk.new ((w.alloc (.cells #[.int .u64 a.toNat, .int .u64 b.toNat] 64)).alloc (.cells #[.int .u64 c.toNat, .int .u64 d.toNat] 64)) 64 #[.int .u64 0, .int .u64 0]).alloc (.cells #[.int .u64 0, .int .u64 0] 64)
    simpa using this
  have HO : Hid (Blk W0 (w.heap.size + 3) 64 #[.int .u64 0, .int .u64 0]) := by
    unfold Hid; rw [HW0.out]
    have := Blk.new (((w.alloc (.cells #[.int .u64 a.toNat, .int .u64 b.toNat] 64)).alloc (.cells #[.int .u64 c.toNat, .int .u64 d.toNat] 64)).alloc (.cells #[.int .u64 0, .int .u64 0] 64)) 64 #[.int .u64 0, .int .u64 0]
    simpa using this
  go_enter Try.func32, Try.ntmps32
  go_wp2
  rw [← HW0.out]
  go_loopw [6, 7, 8, 9] (fun _ _ _ i wr => ∃ k : Nat, k ≤ 128 ∧ i = .int .i64 k ∧ Grows w wr ∧ w.heap.size + 4 ≤ wr.heap.size ∧ Hid (Blk wr w.heap.size 64 #[.int .u64 a.toNat, .int .u64 b.toNat]) ∧
      Hid (Blk wr (w.heap.size + 1) 64 #[.int .u64 (stAt a b c d k).fa.toNat, .int .u64 (stAt a b c d k).fb.toNat]) ∧ Hid (Blk wr (w.heap.size + 2) 64 #[.int .u64 0, .int .u64 0]) ∧
      Hid (Blk wr (w.heap.size + 3) 64 #[.int .u64 (stAt a b c d k).oa.toNat, .int .u64 (stAt a b c d k).ob.toNat])) (fun _ _ _ i _ => 128 - (intOf i).toNat)
  case atStart => exact ⟨0, by omega, rfl, hg0, by omega, HE, HF, HR, HO⟩
  case round =>
    obtain ⟨k, hk, rfl, hgr, hz, hE, hF, hR, hO⟩ := hrel
    by_cases hlt : k < 128
    · obtain ⟨fa, fb, oa, ob, Hst⟩ : ∃ fa fb oa ob, Hid (stAt a b c d k = ⟨fa, fb, oa, ob⟩) := ⟨_, _, _, _, lib_hid rfl⟩
      rw [Hst.out] at hF hO
      have cE0 : wr.cell? ⟨w.heap.size, 0, none⟩ = some (.int .u64 a.toNat) := hE.out.cell 0
      have cE1 : wr.cell? ⟨w.heap.size, 1, none⟩ = some (.int .u64 b.toNat) := hE.out.cell 1
      have cF0 : wr.cell? ⟨w.heap.size + 1, 0, none⟩ = some (.int .u64 fa.toNat) := hF.out.cell 0
      have cF1 : wr.cell? ⟨w.heap.size + 1, 1, none⟩ = some (.int .u64 fb.toNat) := hF.out.cell 1
      have cO0 : wr.cell? ⟨w.heap.size + 3, 0, none⟩ = some (.int .u64 oa.toNat) := hO.out.cell 0
      have cO1 : wr.cell? ⟨w.heap.size + 3, 1, none⟩ = some (.int .u64 ob.toNat) := hO.out.cell 1
      have fO0 := hO.out.frozen 0
      have fO1 := hO.out.frozen 1
      have hstep : Hid (stAt a b c d (k + 1) = stStep a b k ⟨fa, fb, oa, ob⟩) := by unfold Hid; rw [stAt, Hst.out]
      by_cases hlo : k < 64
      · by_cases hb : bitE a b k = true
        · have h63 : ¬ (63 : Int) < k := by omega
          have hiff := bit_lo a b k hlo
          rw [show (63 - (k : Int)).toNat = 63 - k by omega] at hiff
          have hbit : bits .and .u64 ((a.toNat : Int) / 2 ^ (63 - k)) 1 = 1 := hiff.2 hb
          have Hs : Hid (stStep a b k ⟨fa, fb, oa, ob⟩ = ⟨onA fa fb, onB fa fb, oa ^^^ fa, ob ^^^ fb⟩) := by unfold Hid stStep; rw [if_pos hb, if_pos hb]
          have Hx : Hid (bits .xor .u64 (oa.toNat : Int) (fa.toNat : Int) = ((oa ^^^ fa).toNat : Int) ∧ bits .xor .u64 (ob.toNat : Int) (fb.toNat : Int) = ((ob ^^^ fb).toNat : Int)) := ⟨u64_xor _ _, u64_xor _ _⟩
          clear hiff hb
          go_wp2_with fail
          rw [Hx.out.1, Hx.out.2]
          refine (on_any fa fb ((wr.setCell ⟨w.heap.size + 3, 0, none⟩ (.int .u64 (oa ^^^ fa).toNat)).setCell ⟨w.heap.size + 3, 1, none⟩ (.int .u64 (ob ^^^ fb).toNat))).mono ?_
          rintro e w2 ⟨rfl, hg2⟩
          have gE : Hid (Blk w2 w.heap.size 64 #[.int .u64 a.toNat, .int .u64 b.toNat]) := ((hE.out.far (p := ⟨w.heap.size + 3, 0, none⟩) (by simp) _).far (p := ⟨w.heap.size + 3, 1, none⟩) (by simp) _).grows hg2
          have gF : Hid (Blk w2 (w.heap.size + 1) 64 #[.int .u64 fa.toNat, .int .u64 fb.toNat]) := ((hF.out.far (p := ⟨w.heap.size + 3, 0, none⟩) (by simp) _).far (p := ⟨w.heap.size + 3, 1, none⟩) (by simp) _).grows hg2
          have gR : Hid (Blk w2 (w.heap.size + 2) 64 #[.int .u64 0, .int .u64 0]) := ((hR.out.far (p := ⟨w.heap.size + 3, 0, none⟩) (by simp) _).far (p := ⟨w.heap.size + 3, 1, none⟩) (by simp) _).grows hg2
          have gO : Hid (Blk w2 (w.heap.size + 3) 64 #[.int .u64 (oa ^^^ fa).toNat, .int .u64 (ob ^^^ fb).toNat]) := ((hO.out.set 0 _).set 1 _).grows hg2
          have gg : Grows w w2 := ((hgr.setCell (p := ⟨w.heap.size + 3, 0, none⟩) (by simp) _).setCell (p := ⟨w.heap.size + 3, 1, none⟩) (by simp) _).trans hg2
          have gz : w.heap.size + 4 ≤ w2.heap.size := by have := hg2.le; (try simp at this); omega
          clear cE0 cE1 cF0 cF1 cO0 cO1 fO0 fO1 hE hF hR hO hg2 hgr hz
          have cF0 : w2.cell? ⟨w.heap.size + 1, 0, none⟩ = some (.int .u64 fa.toNat) := gF.out.cell 0
          have cF1 : w2.cell? ⟨w.heap.size + 1, 1, none⟩ = some (.int .u64 fb.toNat) := gF.out.cell 1
          have fF0 := gF.out.frozen 0
          have fF1 := gF.out.frozen 1
          go_wp2
          go_roundw
          case rel =>
            refine ⟨k + 1, by omega, by go_num, (gg.setCell (p := ⟨w.heap.size + 1, 0, none⟩) (by simp) _).setCell (p := ⟨w.heap.size + 1, 1, none⟩) (by simp) _, by simp [World.setCell]; omega, (gE.out.far (by simp) _).far (by simp) _, ?_, (gR.out.far (by simp) _).far (by simp) _, ?_⟩
            · rw [hstep.out, Hs.out]; exact (gF.out.set 0 _).set 1 _
            · rw [hstep.out, Hs.out]; exact (gO.out.far (by simp) _).far (by simp) _
          case measure => simp [intOf]; omega
        · have h63 : ¬ (63 : Int) < k := by omega
          have hiff := bit_lo a b k hlo
          rw [show (63 - (k : Int)).toNat = 63 - k by omega] at hiff
          have hbit : ¬ bits .and .u64 ((a.toNat : Int) / 2 ^ (63 - k)) 1 = 1 := fun h => hb (hiff.1 h)
          have Hs : Hid (stStep a b k ⟨fa, fb, oa, ob⟩ = ⟨onA fa fb, onB fa fb, oa, ob⟩) := by unfold Hid stStep; rw [if_neg hb, if_neg hb]
          clear hiff hb
          go_wp2_with fail
          refine (on_any fa fb wr).mono ?_
          rintro e w2 ⟨rfl, hg2⟩
          have gE := lib_hid (hE.out.grows hg2)
          have gF := lib_hid (hF.out.grows hg2)
          have gR := lib_hid (hR.out.grows hg2)
          have gO := lib_hid (hO.out.grows hg2)
          have gg : Grows w w2 := hgr.trans hg2
          have gz : w.heap.size + 4 ≤ w2.heap.size := by have := hg2.le; (try simp at this); omega
          clear cE0 cE1 cF0 cF1 cO0 cO1 fO0 fO1 hE hF hR hO hg2 hgr hz
          have cF0 : w2.cell? ⟨w.heap.size + 1, 0, none⟩ = some (.int .u64 fa.toNat) := gF.out.cell 0
          have cF1 : w2.cell? ⟨w.heap.size + 1, 1, none⟩ = some (.int .u64 fb.toNat) := gF.out.cell 1
          have fF0 := gF.out.frozen 0
          have fF1 := gF.out.frozen 1
          go_wp2
          go_roundw
          case rel =>
            refine ⟨k + 1, by omega, by go_num, (gg.setCell (p := ⟨w.heap.size + 1, 0, none⟩) (by simp) _).setCell (p := ⟨w.heap.size + 1, 1, none⟩) (by simp) _, by simp [World.setCell]; omega, (gE.out.far (by simp) _).far (by simp) _, ?_, (gR.out.far (by simp) _).far (by simp) _, ?_⟩
            · rw [hstep.out, Hs.out]; exact (gF.out.set 0 _).set 1 _
            · rw [hstep.out, Hs.out]; exact (gO.out.far (by simp) _).far (by simp) _
          case measure => simp [intOf]; omega
      · by_cases hb : bitE a b k = true
        · have h63 : (63 : Int) < k := by omega
          have hiff := bit_hi a b k hlo hlt
          rw [show (63 - ((k : Int) - 63 - 1)).toNat = 63 - (k - 63 - 1) by omega] at hiff
          have hbit : bits .and .u64 ((b.toNat : Int) / 2 ^ (63 - (k - 63 - 1))) 1 = 1 := hiff.2 hb
          have Hs : Hid (stStep a b k ⟨fa, fb, oa, ob⟩ = ⟨onA fa fb, onB fa fb, oa ^^^ fa, ob ^^^ fb⟩) := by unfold Hid stStep; rw [if_pos hb, if_pos hb]
          have Hx : Hid (bits .xor .u64 (oa.toNat : Int) (fa.toNat : Int) = ((oa ^^^ fa).toNat : Int) ∧ bits .xor .u64 (ob.toNat : Int) (fb.toNat : Int) = ((ob ^^^ fb).toNat : Int)) := ⟨u64_xor _ _, u64_xor _ _⟩
          clear hiff hb
          go_wp2_with fail
          rw [Hx.out.1, Hx.out.2]
          refine (on_any fa fb ((wr.setCell ⟨w.heap.size + 3, 0, none⟩ (.int .u64 (oa ^^^ fa).toNat)).setCell ⟨w.heap.size + 3, 1, none⟩ (.int .u64 (ob ^^^ fb).toNat))).mono ?_
          rintro e w2 ⟨rfl, hg2⟩
          have gE : Hid (Blk w2 w.heap.size 64 #[.int .u64 a.toNat, .int .u64 b.toNat]) := ((hE.out.far (p := ⟨w.heap.size + 3, 0, none⟩) (by simp) _).far (p := ⟨w.heap.size + 3, 1, none⟩) (by simp) _).grows hg2
          have gF : Hid (Blk w2 (w.heap.size + 1) 64 #[.int .u64 fa.toNat, .int .u64 fb.toNat]) := ((hF.out.far (p := ⟨w.heap.size + 3, 0, none⟩) (by simp) _).far (p := ⟨w.heap.size + 3, 1, none⟩) (by simp) _).grows hg2
          have gR : Hid (Blk w2 (w.heap.size + 2) 64 #[.int .u64 0, .int .u64 0]) := ((hR.out.far (p := ⟨w.heap.size + 3, 0, none⟩) (by simp) _).far (p := ⟨w.heap.size + 3, 1, none⟩) (by simp) _).grows hg2
          have gO : Hid (Blk w2 (w.heap.size + 3) 64 #[.int .u64 (oa ^^^ fa).toNat, .int .u64 (ob ^^^ fb).toNat]) := ((hO.out.set 0 _).set 1 _).grows hg2
          have gg : Grows w w2 := ((hgr.setCell (p := ⟨w.heap.size + 3, 0, none⟩) (by simp) _).setCell (p := ⟨w.heap.size + 3, 1, none⟩) (by simp) _).trans hg2
          have gz : w.heap.size + 4 ≤ w2.heap.size := by have := hg2.le; (try simp at this); omega
          clear cE0 cE1 cF0 cF1 cO0 cO1 fO0 fO1 hE hF hR hO hg2 hgr hz
          have cF0 : w2.cell? ⟨w.heap.size + 1, 0, none⟩ = some (.int .u64 fa.toNat) := gF.out.cell 0
          have cF1 : w2.cell? ⟨w.heap.size + 1, 1, none⟩ = some (.int .u64 fb.toNat) := gF.out.cell 1
          have fF0 := gF.out.frozen 0
          have fF1 := gF.out.frozen 1
          go_wp2
          go_roundw
          case rel =>
            refine ⟨k + 1, by omega, by go_num, (gg.setCell (p := ⟨w.heap.size + 1, 0, none⟩) (by simp) _).setCell (p := ⟨w.heap.size + 1, 1, none⟩) (by simp) _, by simp [World.setCell]; omega, (gE.out.far (by simp) _).far (by simp) _, ?_, (gR.out.far (by simp) _).far (by simp) _, ?_⟩
            · rw [hstep.out, Hs.out]; exact (gF.out.set 0 _).set 1 _
            · rw [hstep.out, Hs.out]; exact (gO.out.far (by simp) _).far (by simp) _
          case measure => simp [intOf]; omega
        · have h63 : (63 : Int) < k := by omega
          have hiff := bit_hi a b k hlo hlt
          rw [show (63 - ((k : Int) - 63 - 1)).toNat = 63 - (k - 63 - 1) by omega] at hiff
          have hbit : ¬ bits .and .u64 ((b.toNat : Int) / 2 ^ (63 - (k - 63 - 1))) 1 = 1 := fun h => hb (hiff.1 h)
          have Hs : Hid (stStep a b k ⟨fa, fb, oa, ob⟩ = ⟨onA fa fb, onB fa fb, oa, ob⟩) := by unfold Hid stStep; rw [if_neg hb, if_neg hb]
          clear hiff hb
          go_wp2_with fail
          refine (on_any fa fb wr).mono ?_
          rintro e w2 ⟨rfl, hg2⟩
          have gE := lib_hid (hE.out.grows hg2)
          have gF := lib_hid (hF.out.grows hg2)
          have gR := lib_hid (hR.out.grows hg2)
          have gO := lib_hid (hO.out.grows hg2)
          have gg : Grows w w2 := hgr.trans hg2
          have gz : w.heap.size + 4 ≤ w2.heap.size := by have := hg2.le; (try simp at this); omega
          clear cE0 cE1 cF0 cF1 cO0 cO1 fO0 fO1 hE hF hR hO hg2 hgr hz
          have cF0 : w2.cell? ⟨w.heap.size + 1, 0, none⟩ = some (.int .u64 fa.toNat) := gF.out.cell 0
          have cF1 : w2.cell? ⟨w.heap.size + 1, 1, none⟩ = some (.int .u64 fb.toNat) := gF.out.cell 1
          have fF0 := gF.out.frozen 0
          have fF1 := gF.out.frozen 1
          go_wp2
          go_roundw
          case rel =>
            refine ⟨k + 1, by omega, by go_num, (gg.setCell (p := ⟨w.heap.size + 1, 0, none⟩) (by simp) _).setCell (p := ⟨w.heap.size + 1, 1, none⟩) (by simp) _, by simp [World.setCell]; omega, (gE.out.far (by simp) _).far (by simp) _, ?_, (gR.out.far (by simp) _).far (by simp) _, ?_⟩
            · rw [hstep.out, Hs.out]; exact (gF.out.set 0 _).set 1 _
            · rw [hstep.out, Hs.out]; exact (gO.out.far (by simp) _).far (by simp) _
          case measure => simp [intOf]; omega
    · obtain rfl : k = 128 := by omega
      obtain ⟨fa, fb, oa, ob, Hst⟩ : ∃ fa fb oa ob, Hid (stAt a b c d 128 = ⟨fa, fb, oa, ob⟩) := ⟨_, _, _, _, lib_hid rfl⟩
      rw [Hst.out] at hF hO
      have HM : Hid (mulA a b c d = oa ∧ mulBB a b c d = ob) := by unfold Hid mulA mulBB; rw [Hst.out]; exact ⟨rfl, rfl⟩
      have cO0 : wr.cell? ⟨w.heap.size + 3, 0, none⟩ = some (.int .u64 oa.toNat) := hO.out.cell 0
      have cO1 : wr.cell? ⟨w.heap.size + 3, 1, none⟩ = some (.int .u64 ob.toNat) := hO.out.cell 1
      have cR0 : wr.cell? ⟨w.heap.size + 2, 0, none⟩ = some (.int .u64 0) := hR.out.cell 0
      have cR1 : wr.cell? ⟨w.heap.size + 2, 1, none⟩ = some (.int .u64 0) := hR.out.cell 1
      have fR0 := hR.out.frozen 0
      have fR1 := hR.out.frozen 1
      go_wp2_with fail
      have hR2 : Blk ((wr.setCell ⟨w.heap.size + 2, 0, none⟩ (.int .u64 oa.toNat)).setCell ⟨w.heap.size + 2, 1, none⟩ (.int .u64 ob.toNat)) (w.heap.size + 2) 64 #[.int .u64 oa.toNat, .int .u64 ob.toNat] := (hR.out.set 0 _).set 1 _
      refine bodyPost_ret (results_cell_row rfl _ _ (w.heap.size + 2) _ _ _ _ rfl hR2 Try.underlying64 rfl Try.sizeElem) rfl ?_
      refine ⟨by rw [HM.out.1, HM.out.2], (hgr.setCell (p := ⟨w.heap.size + 2, 0, none⟩) (by simp) _).setCell (p := ⟨w.heap.size + 2, 1, none⟩) (by simp) _⟩

end Go.Proofs.Ythcmdjaccjghjaa
