/-
  The walks of Round and spread.
-/
import Derived.Test.YtnlffaglmcddkaaDoorSha1
import Derived.Test.YtnlffaglmcddkaaDoorBits2
import Derived.Deep.Cut
import Derived.BigRegion
import Derived.RegionTactic
import Derived.Outline
import Derived.Great.BuildSlice
namespace Go.Proofs.YtnlffaglmcddkaaDoor
open Go Go.RowKit
set_option linter.unusedSimpArgs false


set_option maxRecDepth 100000 in
set_option maxHeartbeats 4000000 in
theorem round_any (i : Nat) (w : World) (hi : i < 64) : Calls Tryd.prog 47 #[.int .i64 (i : Int)] w fun e w' => e = .returned (b32 (shaK.getD i 0)) ∧ Grows w w' := by
  obtain ⟨va, Hva, hvl, hvo⟩ : ∃ va : Array Value, Hid (((shaK.map fun x => (x.toNat : Int)).map (Value.int .u32)).toArray = va) ∧ va.size = 64 ∧ va.all (·.oneCell') = true := by
    refine ⟨_, lib_hid rfl, by simp [shaK_len], ?_⟩
    rw [List.map_map]
    exact b32_one shaK
  have Hva2 : Hid ((shaK.map b32).toArray = va) := by unfold Hid; rw [← Hva.out, List.map_map]; rfl
  obtain ⟨x, Hx⟩ : ∃ x, Hid (shaK.getD i 0 = x) := ⟨_, lib_hid rfl⟩
  have Hc : Hid (∀ W : World, Blk W w.heap.size 75 va → W.cell? ⟨w.heap.size, i, none⟩ = some (b32 x)) := fun W h => by
    rw [← Hva2.out] at h
    rw [h.cell, ← Hx.out]
    simp only [List.getElem?_toArray, List.getElem?_map]
    rw [List.getElem?_eq_getElem (by rw [shaK_len]; exact hi), List.getD_eq_getElem?_getD, List.getElem?_eq_getElem (by rw [shaK_len]; exact hi)]
    rfl
  rw [Hx.out]
  have hii : (i : Int) < 64 := by omega
  go_enter Tryd.func47, Tryd.ntmps47
  go_upto_region 2 with (first
    | (refine wpList_buildFlatArr rfl 75 50 64 _ rfl .u32 (shaK.map fun x => (x.toNat : Int)) Tryd.underlying75 (by kernel_rfl) (by kernel_rfl) (by kernel_rfl) ?_; rw [Hva.out])
    | (refine wpList_store_blk rfl _ _ _ rfl w.heap.size va rfl rfl 75 _ (Blk.new _ _ _) (by rw [Tryd.size64, hvl]) (by rw [hvl]; rfl) hvo w.heap.size w ((Grows.refl w).alloc _) (Nat.le_refl _) ?_; intro w3 H3 hb3 hg3))
  have hc := Hc.out w3 H3
  clear H3 hg3 Hva Hva2 hvl hvo Hc
  go_wp2
  go_ret
  exact ⟨rfl, hb3⟩

theorem u32_shr3 (x : UInt32) : (x.toNat : Int) / 8 = ((x >>> 3).toNat : Int) := by
  rw [UInt32.toNat_shiftRight]
  show _ = ((x.toNat >>> 3 : Nat) : Int)
  rw [Nat.shiftRight_eq_div_pow]
  omega
theorem u32_shr10 (x : UInt32) : (x.toNat : Int) / 1024 = ((x >>> 10).toNat : Int) := by
  rw [UInt32.toNat_shiftRight]
  show _ = ((x.toNat >>> 10 : Nat) : Int)
  rw [Nat.shiftRight_eq_div_pow]
  omega
/-- The i-th word of a block of bytes, the highest byte first. -/
def bigAt (bs : List UInt8) (i : Nat) : UInt32 := (bigF ((bs.drop (4 * i)).take 4)).toUInt32
/-- The words so far: 16 out of the bytes, then reckoned. -/
def sig0 (x : UInt32) : UInt32 := rotR x 7 ^^^ rotR x 18 ^^^ (x >>> 3)
def sig1 (x : UInt32) : UInt32 := rotR x 17 ^^^ rotR x 19 ^^^ (x >>> 10)
def nextW (ws : List UInt32) (i : Nat) : UInt32 := ws.getD (i - 16) 0 + sig0 (ws.getD (i - 15) 0) + ws.getD (i - 7) 0 + sig1 (ws.getD (i - 2) 0)
def firstW (bs : List UInt8) : Nat → List UInt32
  | 0 => List.replicate 64 0
  | i + 1 => (firstW bs i).set i (bigAt bs i)
def moreW (bs : List UInt8) : Nat → List UInt32
  | 0 => firstW bs 16
  | j + 1 => (moreW bs j).set (16 + j) (nextW (moreW bs j) (16 + j))
def schedF (bs : List UInt8) : List UInt32 := moreW bs 48
theorem firstW_len (bs : List UInt8) (i : Nat) : (firstW bs i).length = 64 := by
  induction i with
  | zero => simp [firstW]
  | succ i ih => simp [firstW, ih]
theorem moreW_len (bs : List UInt8) (i : Nat) : (moreW bs i).length = 64 := by
  induction i with
  | zero => exact firstW_len bs 16
  | succ i ih => simp [moreW, ih]
theorem schedF_len (bs : List UInt8) : (schedF bs).length = 64 := moreW_len bs 48
theorem blk_set32 {w : World} {g : Nat} {t : TypeId} {ws : List UInt32} (h : Blk w g t (ws.map b32).toArray) (i : Nat) (x : UInt32) : Blk (w.setCell ⟨g, i, none⟩ (b32 x)) g t ((ws.set i x).map b32).toArray := by
  have := h.set i (b32 x)
  rw [List.map_set]
  simpa using this
theorem cell32 {w : World} {g : Nat} {t : TypeId} {ws : List UInt32} (h : Blk w g t (ws.map b32).toArray) (i : Nat) (hi : i < ws.length) : w.cell? ⟨g, i, none⟩ = some (.int .u32 ((ws.getD i 0).toNat : Int)) := by
  rw [h.cell]
  simp only [List.getElem?_toArray, List.getElem?_map]
  rw [List.getElem?_eq_getElem hi, List.getD_eq_getElem?_getD, List.getElem?_eq_getElem hi]
  rfl
theorem cell64 (n : UInt64) : IntKind.u32.wrap (n.toNat : Int) = (n.toUInt32.toNat : Int) := by
  rw [IntKind.wrap_u32, UInt64.toNat_toUInt32]; omega

set_option maxRecDepth 100000 in
set_option maxHeartbeats 4000000 in
theorem spread_any (bs : List UInt8) (w : World) (hb : bs.length = 64) :
    Calls Tryd.prog 42 #[.agg (bs.map b8).toArray] w fun e w' => e = .returned (.agg ((schedF bs).map b32).toArray) ∧ Grows w w' := by
  obtain ⟨W0, HW0, hg0⟩ : ∃ W0 : World, Hid (W0 = ((w.alloc (.cells (bs.map b8).toArray 55)).alloc (.cells ((Value.int .u32 0 :: Value.int .u32 0 :: Value.int .u32 0 :: Value.int .u32 0 :: Value.int .u32 0 :: Value.int .u32 0 :: Value.int .u32 0 :: Value.int .u32 0 :: Value.int .u32 0 :: Value.int .u32 0 :: Value.int .u32 0 :: Value.int .u32 0 :: Value.int .u32 0 :: Value.int .u32 0 :: Value.int .u32 0 :: Value.int .u32 0 :: Value.int .u32 0 :: Value.int .u32 0 :: Value.int .u32 0 :: Value.int .u32 0 :: Value.int .u32 0 :: Value.int .u32 0 :: Value.int .u32 0 :: Value.int .u32 0 :: Value.int .u32 0 :: Value.int .u32 0 :: Value.int .u32 0 :: Value.int .u32 0 :: Value.int .u32 0 :: Value.int .u32 0 :: Value.int .u32 0 :: Value.int .u32 0 :: Value.int .u32 0 :: Value.int .u32 0 :: Value.int .u32 0 :: Value.int .u32 0 :: Value.int .u32 0 :: Value.int .u32 0 :: Value.int .u32 0 :: Value.int .u32 0 :: Value.int .u32 0 :: Value.int .u32 0 :: Value.int .u32 0 :: Value.int .u32 0 :: Value.int .u32 0 :: Value.int .u32 0 :: Value.int .u32 0 :: Value.int .u32 0 :: Value.int .u32 0 :: Value.int .u32 0 :: Value.int .u32 0 :: Value.int .u32 0 :: Value.int .u32 0 :: Value.int .u32 0 :: Value.int .u32 0 :: Value.int .u32 0 :: Value.int .u32 0 :: Value.int .u32 0 :: Value.int .u32 0 :: Value.int .u32 0 :: Value.int .u32 0 :: Value.int .u32 0 :: Value.int .u32 0 :: Value.int .u32 0 :: [] : List Value).toArray) 75)).alloc (.cells ((Value.int .u32 0 :: Value.int .u32 0 :: Value.int .u32 0 :: Value.int .u32 0 :: Value.int .u32 0 :: Value.int .u32 0 :: Value.int .u32 0 :: Value.int .u32 0 :: Value.int .u32 0 :: Value.int .u32 0 :: Value.int .u32 0 :: Value.int .u32 0 :: Value.int .u32 0 :: Value.int .u32 0 :: Value.int .u32 0 :: Value.int .u32 0 :: Value.int .u32 0 :: Value.int .u32 0 :: Value.int .u32 0 :: Value.int .u32 0 :: Value.int .u32 0 :: Value.int .u32 0 :: Value.int .u32 0 :: Value.int .u32 0 :: Value.int .u32 0 :: Value.int .u32 0 :: Value.int .u32 0 :: Value.int .u32 0 :: Value.int .u32 0 :: Value.int .u32 0 :: Value.int .u32 0 :: Value.int .u32 0 :: Value.int .u32 0 :: Value.int .u32 0 :: Value.int .u32 0 :: Value.int .u32 0 :: Value.int .u32 0 :: Value.int .u32 0 :: Value.int .u32 0 :: Value.int .u32 0 :: Value.int .u32 0 :: Value.int .u32 0 :: Value.int .u32 0 :: Value.int .u32 0 :: Value.int .u32 0 :: Value.int .u32 0 :: Value.int .u32 0 :: Value.int .u32 0 :: Value.int .u32 0 :: Value.int .u32 0 :: Value.int .u32 0 :: Value.int .u32 0 :: Value.int .u32 0 :: Value.int .u32 0 :: Value.int .u32 0 :: Value.int .u32 0 :: Value.int .u32 0 :: Value.int .u32 0 :: Value.int .u32 0 :: Value.int .u32 0 :: Value.int .u32 0 :: Value.int .u32 0 :: Value.int .u32 0 :: Value.int .u32 0 :: [] : List Value).toArray) 75)) ∧ Grows w W0 := ⟨_, lib_hid rfl, (((Grows.refl w).alloc _).alloc _).alloc _⟩
  have ez : ((Value.int .u32 0 :: Value.int .u32 0 :: Value.int .u32 0 :: Value.int .u32 0 :: Value.int .u32 0 :: Value.int .u32 0 :: Value.int .u32 0 :: Value.int .u32 0 :: Value.int .u32 0 :: Value.int .u32 0 :: Value.int .u32 0 :: Value.int .u32 0 :: Value.int .u32 0 :: Value.int .u32 0 :: Value.int .u32 0 :: Value.int .u32 0 :: Value.int .u32 0 :: Value.int .u32 0 :: Value.int .u32 0 :: Value.int .u32 0 :: Value.int .u32 0 :: Value.int .u32 0 :: Value.int .u32 0 :: Value.int .u32 0 :: Value.int .u32 0 :: Value.int .u32 0 :: Value.int .u32 0 :: Value.int .u32 0 :: Value.int .u32 0 :: Value.int .u32 0 :: Value.int .u32 0 :: Value.int .u32 0 :: Value.int .u32 0 :: Value.int .u32 0 :: Value.int .u32 0 :: Value.int .u32 0 :: Value.int .u32 0 :: Value.int .u32 0 :: Value.int .u32 0 :: Value.int .u32 0 :: Value.int .u32 0 :: Value.int .u32 0 :: Value.int .u32 0 :: Value.int .u32 0 :: Value.int .u32 0 :: Value.int .u32 0 :: Value.int .u32 0 :: Value.int .u32 0 :: Value.int .u32 0 :: Value.int .u32 0 :: Value.int .u32 0 :: Value.int .u32 0 :: Value.int .u32 0 :: Value.int .u32 0 :: Value.int .u32 0 :: Value.int .u32 0 :: Value.int .u32 0 :: Value.int .u32 0 :: Value.int .u32 0 :: Value.int .u32 0 :: Value.int .u32 0 :: Value.int .u32 0 :: Value.int .u32 0 :: Value.int .u32 0 :: [] : List Value).toArray) = (((List.replicate 64 0 : List UInt32)).map b32).toArray := by kernel_rfl
  have HB0 : Hid (Blk W0 w.heap.size 55 (bs.map b8).toArray) := by
    unfold Hid; rw [HW0.out]; exact ((Blk.new w _ _).alloc _).alloc _
  have HB1 : Hid (Blk W0 (w.heap.size + 1) 75 ((List.replicate 64 (0 : UInt32)).map b32).toArray) := by
    unfold Hid; rw [HW0.out, ez]
    have := (Blk.new (w.alloc (.cells (bs.map b8).toArray 55)) 75 ((List.replicate 64 (0 : UInt32)).map b32).toArray).alloc (.cells ((List.replicate 64 (0 : UInt32)).map b32).toArray 75)
    simpa using this
  have HB2 : Hid (Blk W0 (w.heap.size + 2) 75 ((List.replicate 64 (0 : UInt32)).map b32).toArray) := by
    unfold Hid; rw [HW0.out, ez]
    have := Blk.new ((w.alloc (.cells (bs.map b8).toArray 55)).alloc (.cells ((List.replicate 64 (0 : UInt32)).map b32).toArray 75)) 75 ((List.replicate 64 (0 : UInt32)).map b32).toArray
    simpa using this
  have hz0 : W0.heap.size = w.heap.size + 3 := by rw [HW0.out]; simp
  clear ez
  obtain ⟨g0, Hg0⟩ : ∃ g, Hid (w.heap.size = g) := ⟨_, lib_hid rfl⟩
  obtain ⟨gR, HgR⟩ : ∃ g, Hid (w.heap.size + 1 = g) := ⟨_, lib_hid rfl⟩
  obtain ⟨gW, HgW⟩ : ∃ g, Hid (w.heap.size + 1 + 1 = g) := ⟨_, lib_hid rfl⟩
  have HB1' : Hid (Blk W0 gR 75 ((List.replicate 64 (0 : UInt32)).map b32).toArray) := by rw [← HgR.out]; exact HB1
  have HB2' : Hid (Blk W0 gW 75 ((List.replicate 64 (0 : UInt32)).map b32).toArray) := by rw [← HgW.out]; exact HB2
  have HB0' : Hid (Blk W0 g0 55 (bs.map b8).toArray) := by rw [← Hg0.out]; exact HB0
  have Hne : Hid (g0 ≠ gW ∧ gR ≠ gW ∧ w.heap.size ≤ g0 ∧ w.heap.size ≤ gR ∧ w.heap.size ≤ gW) := by have := Hg0.out; have := HgR.out; have := HgW.out; unfold Hid; omega
  have Hbl := lib_hid hb
  clear HB0 HB1 HB2
  go_enter Tryd.func42, Tryd.ntmps42
  go_upto_region 2 with fail
  rw [← HW0.out, HgW.out, HgR.out, Hg0.out]
  clear HW0 hz0 hb
  go_wp2
  go_loopw [10] (fun v wr => ∃ i : Nat, i ≤ 16 ∧ v = .int .i64 (i : Int) ∧ Hid (Grows w wr) ∧ Hid (Blk wr g0 55 (bs.map b8).toArray) ∧ Hid (Blk wr gR 75 ((List.replicate 64 (0 : UInt32)).map b32).toArray) ∧ Hid (Blk wr gW 75 ((firstW bs i).map b32).toArray)) (fun v _ => 16 - (intOf v).toNat)
  case atStart => exact ⟨0, by omega, rfl, hg0, HB0', HB1', HB2'⟩
  case round =>
    clear HB0' HB1' HB2' hg0
    obtain ⟨i, hi, rfl, Hgr, HB0, HB1, HB2⟩ := hrel
    by_cases hlt : i < 16
    · have hki : (i : Int) < 16 := by omega
      obtain ⟨lo, hlo, Hlo, hlob⟩ : ∃ lo : Nat, 4 * (i : Int) = (lo : Int) ∧ Hid (4 * i = lo) ∧ (lo : Int) ≤ 60 := ⟨4 * i, by omega, lib_hid rfl, by omega⟩
      have hsl := fun W => run_slice_arr (P := Tryd.prog) (t := 55) (e := 5) (n := 64) Tryd.underlying55 Tryd.sizeByte g0 lo (lo + 4) (lo : Int) ((lo : Int) + 4) rfl (by omega) (by omega) (by omega) (by omega) W
      rw [show lo + 4 - lo = 4 by omega] at hsl
      obtain ⟨n, Hn⟩ : ∃ n, Hid (bigF ((bs.drop lo).take 4) = n) := ⟨_, lib_hid rfl⟩
      obtain ⟨x, Hx, hx⟩ : ∃ x : UInt32, Hid (n.toUInt32 = x) ∧ IntKind.u32.wrap (n.toNat : Int) = (x.toNat : Int) := ⟨_, lib_hid rfl, cell64 n⟩
      have HS := lib_hid (HB0.out.part8 lo 4 (64 - lo) (by omega) (by rw [Hbl.out]; omega) (by unfold maxLen; omega))
      have HC : Hid (Calls Tryd.prog 51 #[.slice (some ⟨g0, lo, none⟩) 4 (64 - lo)] wr fun e w' => e = .returned (.int .u64 (n.toNat : Int)) ∧ wr = w') := by
        rw [← Hn.out]; exact big_any _ 4 _ _ wr HS.out
      have cz := cell32 HB2.out i (by rw [firstW_len]; omega)
      have fz := HB2.out.frozen i
      have HB3 := lib_hid (blk_set32 HB2.out i x)
      have Hset : Hid ((firstW bs i).set i x = firstW bs (i + 1)) := by unfold Hid; rw [firstW, bigAt, Hlo.out, Hn.out, Hx.out]
      rw [Hset.out] at HB3
      have HB0s := lib_hid (HB0.out.far (p := ⟨gW, i, none⟩) Hne.out.1 (b32 x))
      have HB1s := lib_hid (HB1.out.far (p := ⟨gW, i, none⟩) Hne.out.2.1 (b32 x))
      have Hgs : Hid (Grows w (wr.setCell ⟨gW, i, none⟩ (b32 x))) := Hgr.out.setCell (p := ⟨gW, i, none⟩) Hne.out.2.2.2.2 _
      have hzw : gW < wr.heap.size := HB2.out.lt
      clear HB0 HB1 HB2 Hgr
      go_wp2_with fail
      refine HC.out.mono ?_
      rintro e w1 ⟨rfl, rfl⟩
      go_wp2
      go_roundw
      case rel => exact ⟨i + 1, by omega, by go_num, Hgs, HB0s, HB1s, HB3⟩
      case measure => simp [intOf]; omega
    · have hki : ¬ (i : Int) < 16 := by omega
      have hi16 : i = 16 := by omega
      have HM0 : Hid (Blk wr gW 75 ((moreW bs 0).map b32).toArray) := by have := HB2.out; rw [hi16] at this; exact this
      clear HB2 HB0 hlt hi16
      go_wp2
      clear hki
      go_loopw [5] (fun v wr => ∃ j i : Nat, j ≤ 48 ∧ Hid (i = 16 + j) ∧ v = .int .i64 (i : Int) ∧ Hid (Grows w wr) ∧ Hid (Blk wr gR 75 ((List.replicate 64 (0 : UInt32)).map b32).toArray) ∧ Hid (Blk wr gW 75 ((moreW bs j).map b32).toArray)) (fun v _ => 64 - (intOf v).toNat)
      case atStart => exact ⟨0, 16, by omega, lib_hid rfl, rfl, Hgr, HB1, HM0⟩
      case round =>
        clear Hgr HB1 HM0
        obtain ⟨j, i, hj, Hij, rfl, Hgr, HB1, HM⟩ := hrel
        by_cases hlt : j < 48
        · have hki : (i : Int) < 64 := by have := Hij.out; omega
          have hki0 : (16 : Int) ≤ i := by have := Hij.out; omega
          have Hkb := lib_hid (And.intro hki hki0)
          obtain ⟨j15, hj15, Hj15, hb15⟩ : ∃ m : Nat, (i : Int) - 15 = (m : Int) ∧ Hid (i - 15 = m) ∧ (m : Int) < 64 := ⟨i - 15, by omega, lib_hid rfl, by omega⟩
          obtain ⟨j2, hj2, Hj2, hb2⟩ : ∃ m : Nat, (i : Int) - 2 = (m : Int) ∧ Hid (i - 2 = m) ∧ (m : Int) < 64 := ⟨i - 2, by omega, lib_hid rfl, by omega⟩
          obtain ⟨j16, hj16, Hj16, hb16⟩ : ∃ m : Nat, (i : Int) - 16 = (m : Int) ∧ Hid (i - 16 = m) ∧ (m : Int) < 64 := ⟨i - 16, by omega, lib_hid rfl, by omega⟩
          obtain ⟨j7, hj7, Hj7, hb7⟩ : ∃ m : Nat, (i : Int) - 7 = (m : Int) ∧ Hid (i - 7 = m) ∧ (m : Int) < 64 := ⟨i - 7, by omega, lib_hid rfl, by omega⟩
          have HWl : Hid ((moreW bs j).length = 64) := moreW_len bs j
          obtain ⟨x15, Hx15⟩ : ∃ x, Hid ((moreW bs j).getD j15 0 = x) := ⟨_, lib_hid rfl⟩
          have HC15 : Hid (∀ W, Grows wr W → W.cell? ⟨gW, j15, none⟩ = some (.int .u32 (x15.toNat : Int))) := fun W hW => by rw [← Hx15.out]; exact cell32 (HM.out.grows hW) j15 (by rw [HWl.out]; omega)
          obtain ⟨x2, Hx2⟩ : ∃ x, Hid ((moreW bs j).getD j2 0 = x) := ⟨_, lib_hid rfl⟩
          have HC2 : Hid (∀ W, Grows wr W → W.cell? ⟨gW, j2, none⟩ = some (.int .u32 (x2.toNat : Int))) := fun W hW => by rw [← Hx2.out]; exact cell32 (HM.out.grows hW) j2 (by rw [HWl.out]; omega)
          obtain ⟨x16, Hx16⟩ : ∃ x, Hid ((moreW bs j).getD j16 0 = x) := ⟨_, lib_hid rfl⟩
          have HC16 : Hid (∀ W, Grows wr W → W.cell? ⟨gW, j16, none⟩ = some (.int .u32 (x16.toNat : Int))) := fun W hW => by rw [← Hx16.out]; exact cell32 (HM.out.grows hW) j16 (by rw [HWl.out]; omega)
          obtain ⟨x7, Hx7⟩ : ∃ x, Hid ((moreW bs j).getD j7 0 = x) := ⟨_, lib_hid rfl⟩
          have HC7 : Hid (∀ W, Grows wr W → W.cell? ⟨gW, j7, none⟩ = some (.int .u32 (x7.toNat : Int))) := fun W hW => by rw [← Hx7.out]; exact cell32 (HM.out.grows hW) j7 (by rw [HWl.out]; omega)
          obtain ⟨r7, Hr7⟩ : ∃ v, Hid (leftF x15 (-7) = v) := ⟨_, lib_hid rfl⟩
          obtain ⟨r18, Hr18⟩ : ∃ v, Hid (leftF x15 (-18) = v) := ⟨_, lib_hid rfl⟩
          obtain ⟨r17, Hr17⟩ : ∃ v, Hid (leftF x2 (-17) = v) := ⟨_, lib_hid rfl⟩
          obtain ⟨r19, Hr19⟩ : ∃ v, Hid (leftF x2 (-19) = v) := ⟨_, lib_hid rfl⟩
          obtain ⟨p1, Hp1, hp1⟩ : ∃ v : UInt32, Hid (r7 ^^^ r18 = v) ∧ bits .xor .u32 (r7.toNat : Int) (r18.toNat : Int) = (v.toNat : Int) := ⟨_, lib_hid rfl, u32_xor _ _⟩
          obtain ⟨p2, Hp2, hp2⟩ : ∃ v : UInt32, Hid (x15 >>> 3 = v) ∧ (x15.toNat : Int) / 8 = (v.toNat : Int) := ⟨_, lib_hid rfl, u32_shr3 _⟩
          obtain ⟨s, Hs, hs⟩ : ∃ v : UInt32, Hid (p1 ^^^ p2 = v) ∧ bits .xor .u32 (p1.toNat : Int) (p2.toNat : Int) = (v.toNat : Int) := ⟨_, lib_hid rfl, u32_xor _ _⟩
          obtain ⟨p3, Hp3, hp3⟩ : ∃ v : UInt32, Hid (r17 ^^^ r19 = v) ∧ bits .xor .u32 (r17.toNat : Int) (r19.toNat : Int) = (v.toNat : Int) := ⟨_, lib_hid rfl, u32_xor _ _⟩
          obtain ⟨p4, Hp4, hp4⟩ : ∃ v : UInt32, Hid (x2 >>> 10 = v) ∧ (x2.toNat : Int) / 1024 = (v.toNat : Int) := ⟨_, lib_hid rfl, u32_shr10 _⟩
          obtain ⟨t, Ht, ht⟩ : ∃ v : UInt32, Hid (p3 ^^^ p4 = v) ∧ bits .xor .u32 (p3.toNat : Int) (p4.toNat : Int) = (v.toNat : Int) := ⟨_, lib_hid rfl, u32_xor _ _⟩
          obtain ⟨e1, He1, he1⟩ : ∃ v : UInt32, Hid (x16 + s = v) ∧ IntKind.u32.wrap ((x16.toNat : Int) + (s.toNat : Int)) = (v.toNat : Int) := ⟨_, lib_hid rfl, u32_wrap_add _ _⟩
          obtain ⟨e2, He2, he2⟩ : ∃ v : UInt32, Hid (e1 + x7 = v) ∧ IntKind.u32.wrap ((e1.toNat : Int) + (x7.toNat : Int)) = (v.toNat : Int) := ⟨_, lib_hid rfl, u32_wrap_add _ _⟩
          obtain ⟨e3, He3, he3⟩ : ∃ v : UInt32, Hid (e2 + t = v) ∧ IntKind.u32.wrap ((e2.toNat : Int) + (t.toNat : Int)) = (v.toNat : Int) := ⟨_, lib_hid rfl, u32_wrap_add _ _⟩
          have Hnext : Hid (nextW (moreW bs j) i = e3) := by
            unfold Hid nextW sig0 sig1
            rw [Hj15.out, Hj2.out, Hj16.out, Hj7.out, Hx15.out, Hx2.out, Hx16.out, Hx7.out]
            show x16 + (leftF x15 (-7) ^^^ leftF x15 (-18) ^^^ (x15 >>> 3)) + x7 + (leftF x2 (-17) ^^^ leftF x2 (-19) ^^^ (x2 >>> 10)) = e3
            rw [Hr7.out, Hr18.out, Hr17.out, Hr19.out, Hp1.out, Hp2.out, Hs.out, Hp3.out, Hp4.out, Ht.out, He1.out, He2.out, He3.out]
          have Hset : Hid ((moreW bs j).set i e3 = moreW bs (j + 1)) := by unfold Hid; rw [moreW, ← Hij.out, Hnext.out]
          have Hh := lib_hid (And.intro he1 (And.intro he2 he3))
          clear hki hki0 he1 he2 he3
          have hki := Hkb.out.1
          go_upto_region 10 with fail
          clear hki
          apply wp_region_mono 10 ((.is _, []) :: (.is _, []) :: (.is _, []) :: (.is _, []) :: (.is _, []) :: (.is _, []) :: (.is _, []) :: (.is _, []) :: (.is _, []) :: (.is _, []) :: []) (by kernel_rfl) (by kernel_rfl)
          iterate 3
            apply Mono.is0
            · kernel_rfl
            · intro W hW
              go_wp2
              refine ⟨rfl, rfl, Grows.refl _, ?_⟩
              unfold Oper.valAt
              go_simp
              rfl
            intro k1 a1 hk1 ha1
            simp only [Nat.reduceAdd] at hk1
            simp only [Act.put, List.setIfInBounds_toArray, List.set_cons_succ, List.set_cons_zero] at ha1
            subst hk1 ha1
          apply Mono.is0
          · kernel_rfl
          · intro W hW
            have q1 := HC15.out W hW
            have q2 := hj15
            go_wp2
            refine ⟨rfl, rfl, Grows.refl _, ?_⟩
            unfold Oper.valAt
            go_simp
            rfl
          intro k1 a1 hk1 ha1
          simp only [Nat.reduceAdd] at hk1
          simp only [Act.put, List.setIfInBounds_toArray, List.set_cons_succ, List.set_cons_zero] at ha1
          subst hk1 ha1
          iterate 3
            apply Mono.is0
            · kernel_rfl
            · intro W hW
              go_wp2
              refine ⟨rfl, rfl, Grows.refl _, ?_⟩
              unfold Oper.valAt
              go_simp
              rfl
            intro k1 a1 hk1 ha1
            simp only [Nat.reduceAdd] at hk1
            simp only [Act.put, List.setIfInBounds_toArray, List.set_cons_succ, List.set_cons_zero] at ha1
            subst hk1 ha1
          apply Mono.is0
          · kernel_rfl
          · intro W hW
            have q1 := HC2.out W hW
            have q2 := hj2
            go_wp2
            refine ⟨rfl, rfl, Grows.refl _, ?_⟩
            unfold Oper.valAt
            go_simp
            rfl
          intro k1 a1 hk1 ha1
          simp only [Nat.reduceAdd] at hk1
          simp only [Act.put, List.setIfInBounds_toArray, List.set_cons_succ, List.set_cons_zero] at ha1
          subst hk1 ha1
          iterate 2
            apply Mono.is0
            · kernel_rfl
            · intro W hW
              go_wp2
              refine ⟨rfl, rfl, Grows.refl _, ?_⟩
              unfold Oper.valAt
              go_simp
              rfl
            intro k1 a1 hk1 ha1
            simp only [Nat.reduceAdd] at hk1
            simp only [Act.put, List.setIfInBounds_toArray, List.set_cons_succ, List.set_cons_zero] at ha1
            subst hk1 ha1
          refine Mono.done ?_
          intro wa hga
          simp only [allF, List.drop_succ_cons, List.drop_nil]
          have HMa : Hid (Blk wa gW 75 ((moreW bs j).map b32).toArray) := HM.out.grows hga
          have HB1a : Hid (Blk wa gR 75 ((List.replicate 64 (0 : UInt32)).map b32).toArray) := HB1.out.grows hga
          have Hgra : Hid (Grows w wa) := Hgr.out.trans hga
          have HC16a : Hid (∀ W, Grows wa W → W.cell? ⟨gW, j16, none⟩ = some (.int .u32 (x16.toNat : Int))) := fun W hW => HC16.out W (hga.trans hW)
          have HC7a : Hid (∀ W, Grows wa W → W.cell? ⟨gW, j7, none⟩ = some (.int .u32 (x7.toNat : Int))) := fun W hW => HC7.out W (hga.trans hW)
          clear HM HB1 Hgr HC16 HC7 HC15 HC2 hga
          go_wp2_with fail
          refine (left_any x15 (-7) _).mono ?_
          rintro e w1 ⟨rfl, rfl⟩
          rw [Hr7.out]
          go_wp2_with fail
          refine (left_any x15 (-18) _).mono ?_
          rintro e w1 ⟨rfl, rfl⟩
          rw [Hr18.out]
          go_wp2_with fail
          refine (left_any x2 (-17) _).mono ?_
          rintro e w1 ⟨rfl, rfl⟩
          rw [Hr17.out]
          go_wp2_with fail
          refine (left_any x2 (-19) _).mono ?_
          rintro e w1 ⟨rfl, rfl⟩
          rw [Hr19.out]
          go_upto_region 13 with fail
          clear hp1 hp2 hs hp3 hp4 ht Hp1 Hp2 Hs Hp3 Hp4 Ht
          have hki := Hkb.out.1
          have He1 := lib_hid Hh.out.1
          have He2 := lib_hid Hh.out.2.1
          have He3 := lib_hid Hh.out.2.2
          apply wp_region_mono 15 ((.is _, []) :: (.is _, []) :: (.is _, []) :: (.is _, []) :: (.is _, []) :: (.is _, []) :: (.is _, []) :: (.is _, []) :: (.is _, []) :: (.is _, []) :: (.is _, []) :: (.is _, []) :: (.is _, []) :: (.is _, []) :: (.is _, []) :: []) (by kernel_rfl) (by kernel_rfl)
          iterate 4
            apply Mono.is0
            · kernel_rfl
            · intro W hW
              go_wp2
              refine ⟨rfl, rfl, Grows.refl _, ?_⟩
              unfold Oper.valAt
              go_simp
              rfl
            intro k1 a1 hk1 ha1
            simp only [Nat.reduceAdd] at hk1
            simp only [Act.put, List.setIfInBounds_toArray, List.set_cons_succ, List.set_cons_zero] at ha1
            subst hk1 ha1
          apply Mono.is0
          · kernel_rfl
          · intro W hW
            have q1 := HC16a.out W hW
            have q2 := hj16
            go_wp2
            refine ⟨rfl, rfl, Grows.refl _, ?_⟩
            unfold Oper.valAt
            go_simp
            rfl
          intro k1 a1 hk1 ha1
          simp only [Nat.reduceAdd] at hk1
          simp only [Act.put, List.setIfInBounds_toArray, List.set_cons_succ, List.set_cons_zero] at ha1
          subst hk1 ha1
          apply Mono.is0
          · kernel_rfl
          · intro W hW
            go_wp2
            refine ⟨rfl, rfl, Grows.refl _, ?_⟩
            unfold Oper.valAt
            go_simp
            rfl
          intro k1 a1 hk1 ha1
          simp only [Nat.reduceAdd] at hk1
          simp only [Act.put, List.setIfInBounds_toArray, List.set_cons_succ, List.set_cons_zero] at ha1
          subst hk1 ha1
          apply Mono.is0
          · kernel_rfl
          · intro W hW
            have e1 := He1.out
            go_wp2
            refine ⟨rfl, rfl, Grows.refl _, ?_⟩
            unfold Oper.valAt
            go_simp
            rfl
          intro k1 a1 hk1 ha1
          simp only [Nat.reduceAdd] at hk1
          simp only [Act.put, List.setIfInBounds_toArray, List.set_cons_succ, List.set_cons_zero] at ha1
          subst hk1 ha1
          iterate 3
            apply Mono.is0
            · kernel_rfl
            · intro W hW
              go_wp2
              refine ⟨rfl, rfl, Grows.refl _, ?_⟩
              unfold Oper.valAt
              go_simp
              rfl
            intro k1 a1 hk1 ha1
            simp only [Nat.reduceAdd] at hk1
            simp only [Act.put, List.setIfInBounds_toArray, List.set_cons_succ, List.set_cons_zero] at ha1
            subst hk1 ha1
          apply Mono.is0
          · kernel_rfl
          · intro W hW
            have q1 := HC7a.out W hW
            have q2 := hj7
            go_wp2
            refine ⟨rfl, rfl, Grows.refl _, ?_⟩
            unfold Oper.valAt
            go_simp
            rfl
          intro k1 a1 hk1 ha1
          simp only [Nat.reduceAdd] at hk1
          simp only [Act.put, List.setIfInBounds_toArray, List.set_cons_succ, List.set_cons_zero] at ha1
          subst hk1 ha1
          apply Mono.is0
          · kernel_rfl
          · intro W hW
            have e2 := He2.out
            go_wp2
            refine ⟨rfl, rfl, Grows.refl _, ?_⟩
            unfold Oper.valAt
            go_simp
            rfl
          intro k1 a1 hk1 ha1
          simp only [Nat.reduceAdd] at hk1
          simp only [Act.put, List.setIfInBounds_toArray, List.set_cons_succ, List.set_cons_zero] at ha1
          subst hk1 ha1
          apply Mono.is0
          · kernel_rfl
          · intro W hW
            go_wp2
            refine ⟨rfl, rfl, Grows.refl _, ?_⟩
            unfold Oper.valAt
            go_simp
            rfl
          intro k1 a1 hk1 ha1
          simp only [Nat.reduceAdd] at hk1
          simp only [Act.put, List.setIfInBounds_toArray, List.set_cons_succ, List.set_cons_zero] at ha1
          subst hk1 ha1
          apply Mono.is0
          · kernel_rfl
          · intro W hW
            have e3 := He3.out
            go_wp2
            refine ⟨rfl, rfl, Grows.refl _, ?_⟩
            unfold Oper.valAt
            go_simp
            rfl
          intro k1 a1 hk1 ha1
          simp only [Nat.reduceAdd] at hk1
          simp only [Act.put, List.setIfInBounds_toArray, List.set_cons_succ, List.set_cons_zero] at ha1
          subst hk1 ha1
          apply Mono.is0
          · kernel_rfl
          · intro W hW
            go_wp2
            refine ⟨rfl, rfl, Grows.refl _, ?_⟩
            unfold Oper.valAt
            go_simp
            rfl
          intro k1 a1 hk1 ha1
          simp only [Nat.reduceAdd] at hk1
          simp only [Act.put, List.setIfInBounds_toArray, List.set_cons_succ, List.set_cons_zero] at ha1
          subst hk1 ha1
          refine Mono.done ?_
          intro wm hgm
          simp only [allF, List.drop_succ_cons, List.drop_zero]
          have HM := HMa.out.grows hgm
          have HB3 := lib_hid (blk_set32 HM i e3)
          rw [Hset.out] at HB3
          have HB1s := lib_hid ((HB1a.out.grows hgm).far (p := ⟨gW, i, none⟩) Hne.out.2.1 (b32 e3))
          have Hgs : Hid (Grows w (wm.setCell ⟨gW, i, none⟩ (b32 e3))) := (Hgra.out.trans hgm).setCell (p := ⟨gW, i, none⟩) Hne.out.2.2.2.2 _
          have cz := cell32 HM i (by rw [HWl.out]; have := Hij.out; omega)
          have fz := HM.frozen i
          have hzm : gW < wm.heap.size := HM.lt
          clear HM hgm HMa HB1a Hgra HC16a HC7a
          go_wp2
          go_roundw
          case rel => exact ⟨j + 1, i + 1, by omega, by have := Hij.out; unfold Hid; omega, by go_num, Hgs, HB1s, HB3⟩
          case measure => have := Hij.out; simp [intOf]; omega
        · have hki : ¬ (i : Int) < 64 := by have := Hij.out; omega
          have hj48 : j = 48 := by omega
          subst hj48
          clear hlt Hij
          have HMs : Hid (Blk wr gW 75 ((schedF bs).map b32).toArray) := HM
          obtain ⟨vs, Hvs, hvl, hvo⟩ : ∃ vs : Array Value, Hid (((schedF bs).map b32).toArray = vs) ∧ vs.size = 64 ∧ vs.all (·.oneCell') = true := ⟨_, lib_hid rfl, by simp [schedF_len], b32_one _⟩
          rw [Hvs.out] at HMs
          clear HM
          go_upto_region 14 with fail
          clear hki
          go_upto_region 15 with (first
            | (refine wpList_load_blk rfl _ _ rfl gW rfl _ vs _ HMs.out rfl rfl (by rw [Tryd.size64, hvl]) ?_)
            | (refine wpList_store_blk rfl _ _ _ rfl gR vs rfl rfl 75 _ HB1.out (by rw [Tryd.size64, hvl]) (by rw [hvl]; simp) hvo w.heap.size w Hgr.out Hne.out.2.2.2.1 ?_; intro w3 H3 hb3 hg3))
          go_wp2
          refine bodyPost_ret (results_cell_row rfl _ _ gR _ _ _ _ rfl H3 Tryd.underlying75 rfl (by rw [Tryd.size64, hvl])) rfl ?_
          rw [← Hvs.out]
          exact ⟨rfl, hb3⟩


end Go.Proofs.YtnlffaglmcddkaaDoor
