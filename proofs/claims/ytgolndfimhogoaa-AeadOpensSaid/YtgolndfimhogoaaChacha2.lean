/-
  The walk of chacha.first.
-/
import Derived.Test.YtgolndfimhogoaaChacha1
import Derived.Test.YtgolndfimhogoaaBits1
import Derived.Test.YtgolndfimhogoaaArr16
import Derived.Deep.Cut
namespace Go.Proofs.Ytgolndfimhogoaa
open Go Go.RowKit
set_option linter.unusedSimpArgs false


def wordAt (bs : List UInt8) (i : Nat) : UInt32 := (littleF ((bs.drop (4 * i)).take 4)).toUInt32
def putW (f : Nat → UInt32) (o : Nat) : Nat → List UInt32 → List UInt32
  | 0, s => s
  | k + 1, s => (putW f o k s).set (o + k) (f k)
theorem putW_len (f : Nat → UInt32) (o k : Nat) (s : List UInt32) : (putW f o k s).length = s.length := by
  induction k with
  | zero => rfl
  | succ k ih => simp [putW, ih]
def firstBase : List UInt32 := 0x61707865 :: 0x3320646e :: 0x79622d32 :: 0x6b206574 :: List.replicate 12 0
def firstK (key : List UInt8) : List UInt32 := putW (wordAt key) 4 8 firstBase
def firstN (key nonce : List UInt8) (n : UInt32) (k : Nat) : List UInt32 := putW (wordAt nonce) 13 k ((firstK key).set 12 n)
def firstF (key nonce : List UInt8) (n : UInt32) : List UInt32 := firstN key nonce n 3
theorem firstK_len (key : List UInt8) : (firstK key).length = 16 := by unfold firstK; rw [putW_len]; rfl
theorem firstN_len (key nonce : List UInt8) (n : UInt32) (k : Nat) : (firstN key nonce n k).length = 16 := by unfold firstN; rw [putW_len]; simp [firstK_len]
theorem firstF_len (key nonce : List UInt8) (n : UInt32) : (firstF key nonce n).length = 16 := firstN_len _ _ _ _
theorem cells32 (s : List UInt32) : ((s.map b32).toArray).all (·.oneCell') = true := by
  rw [Array.all_eq_true_iff_forall_mem]
  intro v hv
  simp at hv
  obtain ⟨x, _, rfl⟩ := hv
  rfl
theorem blk_set32 {w : World} {g : Nat} {t : TypeId} {s : List UInt32} (h : Blk w g t (s.map b32).toArray) (i : Nat) (u : UInt32) : Blk (w.setCell ⟨g, i, none⟩ (b32 u)) g t ((s.set i u).map b32).toArray := by
  have := h.set i (b32 u)
  rw [List.setIfInBounds_toArray, ← List.map_set] at this
  exact this
/-- A part of an array of bytes, as a slice. -/
theorem Blk.part {w : World} {g : Nat} {t : TypeId} {bs : List UInt8} (h : Blk w g t (bs.map b8).toArray) (o n c : Nat) (hn : n ≤ c) (hc : o + n ≤ bs.length) (hm : c ≤ maxLen) : SB w (some ⟨g, o, none⟩) n c ((bs.drop o).take n) := by
  have := h.row (o := o) (n := n) (c := c) hn (by simp; omega) hm
  unfold SB
  rw [List.map_take, List.map_drop]
  exact this
theorem Try.size16w : (Try.prog.info? 61).map (·.size) = some 16 := by kernel_rfl

set_option maxRecDepth 100000 in
set_option maxHeartbeats 4000000 in
theorem first_any (key nonce : List UInt8) (n : UInt32) (hk : key.length = 32) (hn : nonce.length = 12) (w : World) :
    Calls Try.prog 35 #[.agg (key.map b8).toArray, .agg (nonce.map b8).toArray, b32 n] w fun e w' => e = .returned (.agg ((firstF key nonce n).map b32).toArray) ∧ Grows w w' := by
  obtain ⟨W0, HW0, hW0, hg0⟩ : ∃ W0 : World, Hid (W0 = (((w.alloc (.cells (key.map b8).toArray 37)).alloc (.cells (nonce.map b8).toArray 38)).alloc (.cells #[.int .u32 0, .int .u32 0, .int .u32 0, .int .u32 0, .int .u32 0, .int .u32 0, .int .u32 0, .int .u32 0, .int .u32 0, .int .u32 0, .int .u32 0, .int .u32 0, .int .u32 0, .int .u32 0, .int .u32 0, .int .u32 0] 61)).alloc (.cells #[.int .u32 1634760805, .int .u32 857760878, .int .u32 2036477234, .int .u32 1797285236, .int .u32 0, .int .u32 0, .int .u32 0, .int .u32 0, .int .u32 0, .int .u32 0, .int .u32 0, .int .u32 0, .int .u32 0, .int .u32 0, .int .u32 0, .int .u32 0] 61)) ∧ W0.heap.size = w.heap.size + 4 ∧ Grows w W0 := ⟨_, lib_hid rfl, by simp, ((((Grows.refl w).alloc _).alloc _).alloc _).alloc _⟩
  have HB0 : Hid (Blk W0 w.heap.size 37 (key.map b8).toArray) := by
    unfold Hid; rw [HW0.out]; have := (((Blk.new (w) 37 (key.map b8).toArray).alloc (.cells (nonce.map b8).toArray 38)).alloc (.cells #[.int .u32 0, .int .u32 0, .int .u32 0, .int .u32 0, .int .u32 0, .int .u32 0, .int .u32 0, .int .u32 0, .int .u32 0, .int .u32 0, .int .u32 0, .int .u32 0, .int .u32 0, .int .u32 0, .int .u32 0, .int .u32 0] 61)).alloc (.cells #[.int .u32 1634760805, .int .u32 857760878, .int .u32 2036477234, .int .u32 1797285236, .int .u32 0, .int .u32 0, .int .u32 0, .int .u32 0, .int .u32 0, .int .u32 0, .int .u32 0, .int .u32 0, .int .u32 0, .int .u32 0, .int .u32 0, .int .u32 0] 61); simpa using this
  have HB1 : Hid (Blk W0 (w.heap.size + 1) 38 (nonce.map b8).toArray) := by
    unfold Hid; rw [HW0.out]; have := ((Blk.new (w.alloc (.cells (key.map b8).toArray 37)) 38 (nonce.map b8).toArray).alloc (.cells #[.int .u32 0, .int .u32 0, .int .u32 0, .int .u32 0, .int .u32 0, .int .u32 0, .int .u32 0, .int .u32 0, .int .u32 0, .int .u32 0, .int .u32 0, .int .u32 0, .int .u32 0, .int .u32 0, .int .u32 0, .int .u32 0] 61)).alloc (.cells #[.int .u32 1634760805, .int .u32 857760878, .int .u32 2036477234, .int .u32 1797285236, .int .u32 0, .int .u32 0, .int .u32 0, .int .u32 0, .int .u32 0, .int .u32 0, .int .u32 0, .int .u32 0, .int .u32 0, .int .u32 0, .int .u32 0, .int .u32 0] 61); simpa using this
  have HB2 : Hid (Blk W0 (w.heap.size + 2) 61 #[.int .u32 0, .int .u32 0, .int .u32 0, .int .u32 0, .int .u32 0, .int .u32 0, .int .u32 0, .int .u32 0, .int .u32 0, .int .u32 0, .int .u32 0, .int .u32 0, .int .u32 0, .int .u32 0, .int .u32 0, .int .u32 0]) := by
    unfold Hid; rw [HW0.out]; have := (Blk.new ((w.alloc (.cells (key.map b8).toArray 37)).alloc (.cells (nonce.map b8).toArray 38)) 61 #[.int .u32 0, .int .u32 0, .int .u32 0, .int .u32 0, .int .u32 0, .int .u32 0, .int .u32 0, .int .u32 0, .int .u32 0, .int .u32 0, .int .u32 0, .int .u32 0, .int .u32 0, .int .u32 0, .int .u32 0, .int .u32 0]).alloc (.cells #[.int .u32 1634760805, .int .u32 857760878, .int .u32 2036477234, .int .u32 1797285236, .int .u32 0, .int .u32 0, .int .u32 0, .int .u32 0, .int .u32 0, .int .u32 0, .int .u32 0, .int .u32 0, .int .u32 0, .int .u32 0, .int .u32 0, .int .u32 0] 61); simpa using this
  have HB3 : Hid (Blk W0 (w.heap.size + 3) 61 #[.int .u32 1634760805, .int .u32 857760878, .int .u32 2036477234, .int .u32 1797285236, .int .u32 0, .int .u32 0, .int .u32 0, .int .u32 0, .int .u32 0, .int .u32 0, .int .u32 0, .int .u32 0, .int .u32 0, .int .u32 0, .int .u32 0, .int .u32 0]) := by
    unfold Hid; rw [HW0.out]; have := Blk.new (((w.alloc (.cells (key.map b8).toArray 37)).alloc (.cells (nonce.map b8).toArray 38)).alloc (.cells #[.int .u32 0, .int .u32 0, .int .u32 0, .int .u32 0, .int .u32 0, .int .u32 0, .int .u32 0, .int .u32 0, .int .u32 0, .int .u32 0, .int .u32 0, .int .u32 0, .int .u32 0, .int .u32 0, .int .u32 0, .int .u32 0] 61)) 61 #[.int .u32 1634760805, .int .u32 857760878, .int .u32 2036477234, .int .u32 1797285236, .int .u32 0, .int .u32 0, .int .u32 0, .int .u32 0, .int .u32 0, .int .u32 0, .int .u32 0, .int .u32 0, .int .u32 0, .int .u32 0, .int .u32 0, .int .u32 0]; simpa using this
  have keyl := lib_hid hk
  have noncel := lib_hid hn
  clear hk hn
  have HW0' := HW0.out
  go_enter Try.func35, Try.ntmps35
  go_upto_region 2 with fail
  rw [← HW0']
  clear HW0'
  go_wp2_with fail
  go_loopw [8, 11] (fun _ i wr => ∃ k : Nat, k ≤ 8 ∧ i = .int .i64 k ∧ Grows w wr ∧ w.heap.size + 4 ≤ wr.heap.size ∧ Hid (Blk wr w.heap.size 37 (key.map b8).toArray) ∧ Hid (Blk wr (w.heap.size + 1) 38 (nonce.map b8).toArray) ∧
    Hid (Blk wr (w.heap.size + 2) 61 #[.int .u32 0, .int .u32 0, .int .u32 0, .int .u32 0, .int .u32 0, .int .u32 0, .int .u32 0, .int .u32 0, .int .u32 0, .int .u32 0, .int .u32 0, .int .u32 0, .int .u32 0, .int .u32 0, .int .u32 0, .int .u32 0]) ∧ Hid (Blk wr (w.heap.size + 3) 61 ((putW (wordAt key) 4 k firstBase).map b32).toArray)) (fun _ i _ => 8 - (intOf i).toNat)
  case atStart => exact ⟨0, by omega, rfl, hg0, by omega, HB0, HB1, HB2, HB3⟩
  case round =>
    obtain ⟨k, hk, rfl, hgr, hz, hK, hN, hR, hS⟩ := hrel
    by_cases hlt : k < 8
    · have Hsb := lib_hid (hK.out.part (4 * k) 4 (32 - 4 * k) (by omega) (by rw [keyl.out]; omega) (by unfold maxLen; omega))
      have hsl := run_slice_arr (P := Try.prog) Try.underlying37 Try.sizeByte w.heap.size (4 * k) (4 * k + 4) (4 * (k : Int)) (4 * (k : Int) + 4) (by omega) (by omega) (by omega) (by omega) (by omega)
      rw [show 4 * k + 4 - 4 * k = 4 by omega] at hsl
      obtain ⟨lw, Hlw⟩ : ∃ v, Hid (littleF ((key.drop (4 * k)).take 4) = v) := ⟨_, lib_hid rfl⟩
      obtain ⟨wd, Hwd, hwd⟩ : ∃ v : UInt32, Hid (wordAt key k = v) ∧ IntKind.u32.wrap (lw.toNat : Int) = (v.toNat : Int) := ⟨lw.toUInt32, by unfold Hid wordAt; rw [Hlw.out], u32_of_u64 lw⟩
      have Hl := lib_hid (putW_len (wordAt key) 4 k firstBase)
      go_wp2_with fail
      refine (little_any _ _ _ _ wr Hsb.out).mono ?_
      rintro e w2 ⟨rfl, hg2⟩
      rw [Hlw.out]
      have gK := lib_hid (hK.out.grows hg2)
      have gN := lib_hid (hN.out.grows hg2)
      have gR := lib_hid (hR.out.grows hg2)
      have gS := lib_hid (hS.out.grows hg2)
      have hgw := hgr.trans hg2
      have hz2 : w.heap.size + 4 ≤ w2.heap.size := Nat.le_trans hz hg2.le
      obtain ⟨old, hold⟩ : ∃ v, w2.cell? ⟨w.heap.size + 3, 4 + k, none⟩ = some v := by
        rw [gS.out.cell, List.getElem?_toArray, List.getElem?_map]
        have : 4 + k < (putW (wordAt key) 4 k firstBase).length := by rw [Hl.out]; show 4 + k < 16; omega
        rw [List.getElem?_eq_getElem this]
        exact ⟨_, rfl⟩
      have hfr := gS.out.frozen (4 + k)
      have gS2 := blk_set32 gS.out (4 + k) wd
      rw [← Hwd.out] at gS2
      have GS2 : Hid (Blk (w2.setCell ⟨w.heap.size + 3, 4 + k, none⟩ (b32 wd)) (w.heap.size + 3) 61 ((putW (wordAt key) 4 (k + 1) firstBase).map b32).toArray) := by rw [← Hwd.out]; exact gS2
      clear gS2 hsl
      have h16 : (4 + (k : Int)) < 16 := by omega
      go_wp2
      go_roundw
      case rel => exact ⟨k + 1, by omega, by go_num, hgw.setCell (p := ⟨w.heap.size + 3, 4 + k, none⟩) (by simp) _, by simp [World.setCell]; omega, gK.out.far (by simp <;> omega) _, gN.out.far (by simp <;> omega) _, gR.out.far (by simp <;> omega) _, GS2.out⟩
      case measure => simp [intOf]; omega
    · have Hk8 : Hid (k = 8) := by unfold Hid; omega
      have Hl := lib_hid (firstK_len key)
      obtain ⟨sk, Hsk, Hskl⟩ : ∃ s, Hid (firstK key = s) ∧ Hid (s.length = 16) := ⟨_, lib_hid rfl, Hl⟩
      have hS1 : Blk wr (w.heap.size + 3) 61 (sk.map b32).toArray := by rw [← Hsk.out]; have := hS.out; rw [Hk8.out] at this; exact this
      obtain ⟨old, hold⟩ : ∃ v, wr.cell? ⟨w.heap.size + 3, 12, none⟩ = some v := by
        rw [hS1.cell, List.getElem?_toArray, List.getElem?_map, List.getElem?_eq_getElem (by rw [Hskl.out]; omega)]
        exact ⟨_, rfl⟩
      have hfr := hS1.frozen 12
      have hS2 := lib_hid (blk_set32 hS1 12 n)
      obtain ⟨W2, HW2, hW2⟩ : ∃ W2 : World, W2 = wr.setCell ⟨w.heap.size + 3, 12, none⟩ (b32 n) ∧ w.heap.size + 4 ≤ W2.heap.size := ⟨_, rfl, by simp [World.setCell]; omega⟩
      rw [← HW2] at hS2
      have hg2 : Grows w W2 := by rw [HW2]; exact hgr.setCell (p := ⟨w.heap.size + 3, 12, none⟩) (by simp) _
      have gN : Hid (Blk W2 (w.heap.size + 1) 38 (nonce.map b8).toArray) := by unfold Hid; rw [HW2]; exact hN.out.far (by simp <;> omega) _
      have gR : Hid (Blk W2 (w.heap.size + 2) 61 #[.int .u32 0, .int .u32 0, .int .u32 0, .int .u32 0, .int .u32 0, .int .u32 0, .int .u32 0, .int .u32 0, .int .u32 0, .int .u32 0, .int .u32 0, .int .u32 0, .int .u32 0, .int .u32 0, .int .u32 0, .int .u32 0]) := by unfold Hid; rw [HW2]; exact hR.out.far (by simp <;> omega) _
      have HW2' := lib_hid HW2
      clear hS hS1 HW2
      go_upto_region 8 with fail
      rw [← HW2'.out]
      clear hold hfr hK hN hR
      go_wp2_with fail
      go_loopw [9, 28] (fun _ i wr => ∃ k : Nat, k ≤ 3 ∧ i = .int .i64 k ∧ Grows w wr ∧ w.heap.size + 4 ≤ wr.heap.size ∧ Hid (Blk wr (w.heap.size + 1) 38 (nonce.map b8).toArray) ∧
        Hid (Blk wr (w.heap.size + 2) 61 #[.int .u32 0, .int .u32 0, .int .u32 0, .int .u32 0, .int .u32 0, .int .u32 0, .int .u32 0, .int .u32 0, .int .u32 0, .int .u32 0, .int .u32 0, .int .u32 0, .int .u32 0, .int .u32 0, .int .u32 0, .int .u32 0]) ∧ Hid (Blk wr (w.heap.size + 3) 61 ((firstN key nonce n k).map b32).toArray)) (fun _ i _ => 3 - (intOf i).toNat)
      case atStart => exact ⟨0, by omega, rfl, hg2, hW2, gN, gR, by unfold firstN; rw [Hsk.out]; exact hS2⟩
      case round =>
        obtain ⟨k, hk, rfl, hgr, hz, hN, hR, hS⟩ := hrel
        by_cases hlt : k < 3
        · have Hsb := lib_hid (hN.out.part (4 * k) 4 (12 - 4 * k) (by omega) (by rw [noncel.out]; omega) (by unfold maxLen; omega))
          have hsl := run_slice_arr (P := Try.prog) Try.underlying38 Try.sizeByte (w.heap.size + 1) (4 * k) (4 * k + 4) (4 * (k : Int)) (4 * (k : Int) + 4) (by omega) (by omega) (by omega) (by omega) (by omega)
          rw [show 4 * k + 4 - 4 * k = 4 by omega] at hsl
          obtain ⟨lw, Hlw⟩ : ∃ v, Hid (littleF ((nonce.drop (4 * k)).take 4) = v) := ⟨_, lib_hid rfl⟩
          obtain ⟨wd, Hwd, hwd⟩ : ∃ v : UInt32, Hid (wordAt nonce k = v) ∧ IntKind.u32.wrap (lw.toNat : Int) = (v.toNat : Int) := ⟨lw.toUInt32, by unfold Hid wordAt; rw [Hlw.out], u32_of_u64 lw⟩
          have Hl := lib_hid (firstN_len key nonce n k)
          go_wp2_with fail
          refine (little_any _ _ _ _ wr Hsb.out).mono ?_
          rintro e w2 ⟨rfl, hg2⟩
          rw [Hlw.out]
          have gN := lib_hid (hN.out.grows hg2)
          have gR := lib_hid (hR.out.grows hg2)
          have gS := lib_hid (hS.out.grows hg2)
          have hgw := hgr.trans hg2
          have hz2 : w.heap.size + 4 ≤ w2.heap.size := Nat.le_trans hz hg2.le
          obtain ⟨old, hold⟩ : ∃ v, w2.cell? ⟨w.heap.size + 3, 13 + k, none⟩ = some v := by
            rw [gS.out.cell, List.getElem?_toArray, List.getElem?_map, List.getElem?_eq_getElem (by rw [Hl.out]; omega)]
            exact ⟨_, rfl⟩
          have hfr := gS.out.frozen (13 + k)
          have gS2 := blk_set32 gS.out (13 + k) wd
          have GS2 : Hid (Blk (w2.setCell ⟨w.heap.size + 3, 13 + k, none⟩ (b32 wd)) (w.heap.size + 3) 61 ((firstN key nonce n (k + 1)).map b32).toArray) := by
            unfold Hid firstN putW; rw [Hwd.out]; exact gS2
          clear gS2 hsl
          have h16 : (13 + (k : Int)) < 16 := by omega
          go_wp2
          go_roundw
          case rel => exact ⟨k + 1, by omega, by go_num, hgw.setCell (p := ⟨w.heap.size + 3, 13 + k, none⟩) (by simp) _, by simp [World.setCell]; omega, gN.out.far (by simp <;> omega) _, gR.out.far (by simp <;> omega) _, GS2.out⟩
          case measure => simp [intOf]; omega
        · obtain rfl : k = 3 := by omega
          obtain ⟨res, hres⟩ : ∃ res, Hid (((firstF key nonce n).map b32).toArray = res) := ⟨_, lib_hid rfl⟩
          have hS' : Blk wr (w.heap.size + 3) 61 res := by rw [← hres.out]; exact hS.out
          have hcl : res.size = 16 := by rw [← hres.out]; simp [firstF_len]
          have hca : res.all (·.oneCell') = true := by rw [← hres.out]; exact cells32 _
          clear hS
          go_wp2_with (first
            | (refine wpList_load_blk rfl _ _ rfl (w.heap.size + 3) rfl _ res _ hS' Try.underlying61 rfl (by rw [Try.size16w, hcl]) ?_)
            | (refine wpList_store_blk rfl _ _ _ rfl (w.heap.size + 2) res rfl rfl _ _ hR.out (by rw [Try.size16w, hcl]) (by simp [hcl]) hca (w.heap.size + 2) wr (Below.refl _ _) (Nat.le_refl _) ?_; intro w5 HR6 hb5 hgr5))
          refine bodyPost_ret (results_cell_row rfl _ _ (w.heap.size + 2) _ res _ _ rfl HR6 Try.underlying61 rfl (by rw [Try.size16w, hcl])) rfl ?_
          exact ⟨by rw [hres.out], Below.trans hgr (hb5.mono (by omega))⟩

end Go.Proofs.Ytgolndfimhogoaa
