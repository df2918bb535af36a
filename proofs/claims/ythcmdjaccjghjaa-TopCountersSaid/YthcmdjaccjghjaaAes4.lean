/-
  aes: a key object; subs, add, Rounds.
-/
import Derived.Test.YthcmdjaccjghjaaAes3
namespace Go.Proofs.Ythcmdjaccjghjaa
open Go Go.RowKit
set_option linter.unusedSimpArgs false
set_option linter.unusedVariables false


def altRow (n : Nat) (f g : Nat → UInt8) (k : Nat) : Array Value := ((List.range n).map fun j => if j < k then b8 (f j) else b8 (g j)).toArray
theorem altRow_set (n : Nat) (f g : Nat → UInt8) (k : Nat) (hk : k < n) : (altRow n f g k).setIfInBounds k (b8 (f k)) = altRow n f g (k + 1) := by
  unfold altRow
  apply Array.ext'
  simp only [Array.toList_setIfInBounds]
  apply List.ext_getElem
  · simp
  · intro i h1 h2
    simp only [List.length_set, List.length_map, List.length_range] at h1
    simp only [List.getElem_set, List.getElem_map, List.getElem_range]
    by_cases e : k = i
    · subst e; rw [if_pos rfl, if_pos (by omega)]
    · rw [if_neg e]
      by_cases h3 : i < k
      · rw [if_pos h3, if_pos (by omega)]
      · rw [if_neg h3, if_neg (by omega)]
theorem altRow_at (n : Nat) (f g : Nat → UInt8) (k : Nat) (hk : k < n) : (altRow n f g k)[k]? = some (b8 (g k)) := by
  unfold altRow
  rw [List.getElem?_toArray, List.getElem?_map, List.getElem?_range hk]
  simp
theorem altRow_zero (xs : List UInt8) (f : Nat → UInt8) : altRow xs.length f (fun j => xs.getD j 0) 0 = (xs.map b8).toArray := by
  unfold altRow
  congr 1
  apply List.ext_getElem
  · simp
  · intro i h1 h2
    simp only [List.length_map] at h2
    simp only [List.getElem_map, List.getElem_range, Nat.not_lt_zero, if_false, List.getD_eq_getElem?_getD, List.getElem?_eq_getElem h2, Option.getD_some]
theorem altRow_all (n : Nat) (f g : Nat → UInt8) : altRow n f g n = (((List.range n).map f).map b8).toArray := by
  unfold altRow
  congr 1
  rw [List.map_map]
  apply List.map_congr_left
  intro j hj
  rw [if_pos (List.mem_range.1 hj)]
  rfl
/-- A key object that reads as tables and round keys; all its blocks lie below B. -/
def KeyR (w : World) (B g : Nat) (T ws : List UInt8) (nr : Nat) : Prop :=
  ∃ gt gw c, g < B ∧ gt < B ∧ gw < B ∧ B ≤ w.heap.size ∧ Blk w g 49 #[.pointer (some ⟨gt, 0, none⟩), .slice (some ⟨gw, 0, none⟩) (4 * (nr + 1)) c] ∧
    (∀ j, j < 256 → w.cell? ⟨gt, j, none⟩ = some (.int .u8 ((T.getD j 0).toNat : Int))) ∧ (∀ j, j < 16 * (nr + 1) → w.cell? ⟨gw, j, none⟩ = some (.int .u8 ((ws.getD j 0).toNat : Int)))
theorem KeyR.below {w w' : World} {B g : Nat} {T ws : List UInt8} {nr : Nat} (h : KeyR w B g T ws nr) (hb : Below B w w') : KeyR w' B g T ws nr := by
  obtain ⟨gt, gw, c, h1, h2, h3, h4, h5, h6, h7⟩ := h
  exact ⟨gt, gw, c, h1, h2, h3, Nat.le_trans h4 hb.size, h5.below hb h1, fun j hj => (hb.cell (p := ⟨gt, j, none⟩) h2).trans (h6 j hj), fun j hj => (hb.cell (p := ⟨gw, j, none⟩) h3).trans (h7 j hj)⟩
def subF (T xs : List UInt8) : List UInt8 := (List.range xs.length).map fun j => T.getD (xs.getD j 0).toNat 0
theorem subF_len (T xs : List UInt8) : (subF T xs).length = xs.length := by simp [subF]
set_option maxRecDepth 100000 in
set_option maxHeartbeats 4000000 in
theorem subs_any (B g b n c nr : Nat) (T ws xs : List UInt8) (t : TypeId) (W : World) (hK : KeyR W B g T ws nr) (hb : Blk W b t (xs.map b8).toArray) (hB : B ≤ b) (hx : xs.length = n) (hn : n ≤ 16) :
    Calls Try.prog 19 #[.pointer (some ⟨g, 0, none⟩), .slice (some ⟨b, 0, none⟩) n c] W fun e W' => e = .returned (.tuple #[]) ∧ Keeps (fun k => k = b) W W' ∧ Blk W' b t ((subF T xs).map b8).toArray := by
  have HK := lib_hid hK
  have Hb := lib_hid hb
  clear hK hb
  go_enter Try.func19, Try.ntmps19
  go_wp2
  go_loopw [8] (fun i wr => ∃ k : Nat, k ≤ n ∧ i = .int .i64 (k : Int) ∧ Hid (Keeps (fun k => k = b) W wr) ∧ Hid (Blk wr b t (altRow n (fun j => T.getD (xs.getD j 0).toNat 0) (fun j => xs.getD j 0) k))) (fun i _ => n - (intOf i).toNat)
  case atStart => exact ⟨0, Nat.zero_le _, rfl, lib_hid (Keeps.refl _ _), lib_hid (by rw [← hx, altRow_zero]; exact Hb.out)⟩
  case round =>
    obtain ⟨k, hk, rfl, Hk, HB⟩ := hrel
    by_cases hlt : k < n
    · have hki : (k : Int) < (n : Int) := by omega
      obtain ⟨x, Hx⟩ : ∃ x, Hid (xs.getD k 0 = x) := ⟨_, lib_hid rfl⟩
      obtain ⟨y, Hy⟩ : ∃ y, Hid (T.getD x.toNat 0 = y) := ⟨_, lib_hid rfl⟩
      obtain ⟨gt, gw, cw, h1, h2, h3, h4, h5, h6, h7⟩ := HK.out.below (Hk.out.below HK.out.choose_spec.choose_spec.choose_spec.2.2.2.1 (by intro i hi; omega))
      have hc1 : wr.cell? ⟨b, k, none⟩ = some (.int .u8 (x.toNat : Int)) := by
        rw [HB.out.cell, altRow_at _ _ _ _ hlt]; show some (Value.int .u8 ((xs.getD k 0).toNat : Int)) = _; rw [Hx.out]
      have hc2 := h5.cell 0
      have hc3 : wr.cell? ⟨gt, x.toNat, none⟩ = some (.int .u8 (y.toNat : Int)) := by
        rw [h6 x.toNat x.toNat_lt, Hy.out]
      have hf := HB.out.frozen k
      have hb3 := HB.out.set k (b8 y)
      rw [show b8 y = b8 ((fun j => T.getD (xs.getD j 0).toNat 0) k) by show _ = b8 (T.getD (xs.getD k 0).toNat 0); rw [Hx.out, Hy.out], altRow_set _ _ _ _ hlt] at hb3
      have hb4 : Hid (Blk (wr.setCell ⟨b, k, none⟩ (b8 y)) b t (altRow n (fun j => T.getD (xs.getD j 0).toNat 0) (fun j => xs.getD j 0) (k + 1))) := by
        unfold Hid
        rw [show b8 y = b8 ((fun j => T.getD (xs.getD j 0).toNat 0) k) by show _ = b8 (T.getD (xs.getD k 0).toNat 0); rw [Hx.out, Hy.out]]
        exact hb3
      have HK3 : Hid (Keeps (fun k => k = b) W (wr.setCell ⟨b, k, none⟩ (b8 y))) := lib_hid (Hk.out.trans (keeps_set wr ⟨b, k, none⟩ (b8 y)) (fun _ h _ => h))
      have hx255 : (x.toNat : Int) < 256 := by have := x.toNat_lt; omega
      have hbl : b < wr.heap.size := HB.out.lt
      clear hb3 h1 h2 h3 h4 h5 h6 h7 HB
      go_wp2
      go_roundw
      case rel => exact ⟨k + 1, by omega, by go_num, HK3, hb4⟩
      case measure => simp [intOf]; omega
    · have hki : ¬ (k : Int) < (n : Int) := by omega
      have hkn : Hid (k = n) := lib_hid (by omega)
      go_wp2
      go_end0
      refine ⟨rfl, Hk.out, ?_⟩
      have := HB.out
      rw [hkn.out, altRow_all] at this
      unfold subF
      rw [hx]
      exact this

def addF (ws : List UInt8) (r : Nat) (xs : List UInt8) : List UInt8 := (List.range 16).map fun j => xs.getD j 0 ^^^ ws.getD (16 * r + j) 0
theorem addF_len (ws : List UInt8) (r : Nat) (xs : List UInt8) : (addF ws r xs).length = 16 := by simp [addF]
set_option maxRecDepth 100000 in
set_option maxHeartbeats 4000000 in
theorem add_any (B g b rd nr : Nat) (T ws xs : List UInt8) (W : World) (hK : KeyR W B g T ws nr) (hb : Blk W b 23 (xs.map b8).toArray) (hB : B ≤ b) (hx : xs.length = 16) (hr : rd ≤ nr) (hnr : nr ≤ 14) :
    Calls Try.prog 34 #[.pointer (some ⟨g, 0, none⟩), .pointer (some ⟨b, 0, none⟩), .int .i64 (rd : Int)] W fun e W' => e = .returned (.tuple #[]) ∧ Keeps (fun k => k = b) W W' ∧ Blk W' b 23 ((addF ws rd xs).map b8).toArray := by
  have HK := lib_hid hK
  have Hb := lib_hid hb
  clear hK hb
  have hrd : (rd : Int) ≤ 14 := by omega
  go_enter Try.func34, Try.ntmps34
  go_wp2
  go_loopw [7] (fun i wr => ∃ k : Nat, k ≤ 16 ∧ i = .int .i64 (k : Int) ∧ Hid (Keeps (fun k => k = b) W wr) ∧ Hid (Blk wr b 23 (altRow 16 (fun j => xs.getD j 0 ^^^ ws.getD (16 * rd + j) 0) (fun j => xs.getD j 0) k))) (fun i _ => 16 - (intOf i).toNat)
  case atStart => exact ⟨0, Nat.zero_le _, rfl, lib_hid (Keeps.refl _ _), lib_hid (by rw [← hx, altRow_zero]; exact Hb.out)⟩
  case round =>
    obtain ⟨k, hk, rfl, Hk, HB⟩ := hrel
    by_cases hlt : k < 16
    · have hbl : b < wr.heap.size := HB.out.lt
      obtain ⟨gt, gw, cw, h1, h2, h3, h4, h5, h6, h7⟩ := HK.out.below (Hk.out.below HK.out.choose_spec.choose_spec.choose_spec.2.2.2.1 (by intro i hi; omega))
      obtain ⟨x, Hx⟩ : ∃ x, Hid (xs.getD k 0 = x) := ⟨_, lib_hid rfl⟩
      obtain ⟨y, Hy⟩ : ∃ y, Hid (ws.getD (16 * rd + k) 0 = y) := ⟨_, lib_hid rfl⟩
      obtain ⟨z, Hz⟩ : ∃ z, Hid (x ^^^ y = z) := ⟨_, lib_hid rfl⟩
      have hc1 : wr.cell? ⟨b, k, none⟩ = some (.int .u8 (x.toNat : Int)) := by
        rw [HB.out.cell, altRow_at _ _ _ _ hlt]; show some (Value.int .u8 ((xs.getD k 0).toNat : Int)) = _; rw [Hx.out]
      have hc2 := h5.cell 1
      have hc3 : wr.cell? ⟨gw, 16 * rd + k, none⟩ = some (.int .u8 (y.toNat : Int)) := by
        rw [h7 (16 * rd + k) (by omega), Hy.out]
      have hxy : bits .xor .u8 (x.toNat : Int) (y.toNat : Int) = (z.toNat : Int) := by rw [u8_xor, Hz.out]
      have hf := HB.out.frozen k
      have hgf : (fun j => xs.getD j 0 ^^^ ws.getD (16 * rd + j) 0) k = z := by show xs.getD k 0 ^^^ ws.getD (16 * rd + k) 0 = z; rw [Hx.out, Hy.out, Hz.out]
      have hb3 := HB.out.set k (b8 ((fun j => xs.getD j 0 ^^^ ws.getD (16 * rd + j) 0) k))
      rw [altRow_set _ _ _ _ hlt, hgf] at hb3
      have HB3 := lib_hid hb3
      have HK3 : Hid (Keeps (fun k => k = b) W (wr.setCell ⟨b, k, none⟩ (b8 z))) := lib_hid (Hk.out.trans (keeps_set wr ⟨b, k, none⟩ (b8 z)) (fun _ h _ => h))
      clear hb3 hgf h1 h2 h3 h4 h5 h6 h7 HB
      rcases (show k = 0 ∨ k = 1 ∨ k = 2 ∨ k = 3 ∨ k = 4 ∨ k = 5 ∨ k = 6 ∨ k = 7 ∨ k = 8 ∨ k = 9 ∨ k = 10 ∨ k = 11 ∨ k = 12 ∨ k = 13 ∨ k = 14 ∨ k = 15 by omega) with rfl | rfl | rfl | rfl | rfl | rfl | rfl | rfl | rfl | rfl | rfl | rfl | rfl | rfl | rfl | rfl
      · have hlt3 : 4 * (rd : Int) < 4 * ((nr : Int) + 1) := by omega
        have htn : (4 * (rd : Int)).toNat = 4 * rd := by omega
        rw [show 16 * rd + 0 = (4 * rd) * 4 by omega] at hc3
        go_wp2
        go_region
        have HB4 := lib_hid HB3.out.drew
        have HK4 := lib_hid HK3.out.drew
        clear HB3 HK3 hc1 hc2 hc3 hf
        go_wp2
        go_roundw
        case rel => exact ⟨0 + 1, by omega, rfl, HK4, HB4⟩
        case measure => simp [intOf]
      · have hlt3 : 4 * (rd : Int) < 4 * ((nr : Int) + 1) := by omega
        have htn : (4 * (rd : Int)).toNat = 4 * rd := by omega
        rw [show 16 * rd + 1 = (4 * rd) * 4 + 1 by omega] at hc3
        go_wp2
        go_region
        have HB4 := lib_hid HB3.out.drew
        have HK4 := lib_hid HK3.out.drew
        clear HB3 HK3 hc1 hc2 hc3 hf
        go_wp2
        go_roundw
        case rel => exact ⟨1 + 1, by omega, rfl, HK4, HB4⟩
        case measure => simp [intOf]
      · have hlt3 : 4 * (rd : Int) < 4 * ((nr : Int) + 1) := by omega
        have htn : (4 * (rd : Int)).toNat = 4 * rd := by omega
        rw [show 16 * rd + 2 = (4 * rd) * 4 + 2 by omega] at hc3
        go_wp2
        go_region
        have HB4 := lib_hid HB3.out.drew
        have HK4 := lib_hid HK3.out.drew
        clear HB3 HK3 hc1 hc2 hc3 hf
        go_wp2
        go_roundw
        case rel => exact ⟨2 + 1, by omega, rfl, HK4, HB4⟩
        case measure => simp [intOf]
      · have hlt3 : 4 * (rd : Int) < 4 * ((nr : Int) + 1) := by omega
        have htn : (4 * (rd : Int)).toNat = 4 * rd := by omega
        rw [show 16 * rd + 3 = (4 * rd) * 4 + 3 by omega] at hc3
        go_wp2
        go_region
        have HB4 := lib_hid HB3.out.drew
        have HK4 := lib_hid HK3.out.drew
        clear HB3 HK3 hc1 hc2 hc3 hf
        go_wp2
        go_roundw
        case rel => exact ⟨3 + 1, by omega, rfl, HK4, HB4⟩
        case measure => simp [intOf]
      · have hlt3 : 4 * (rd : Int) + 1 < 4 * ((nr : Int) + 1) := by omega
        have htn : (4 * (rd : Int) + 1).toNat = 4 * rd + 1 := by omega
        rw [show 16 * rd + 4 = (4 * rd + 1) * 4 by omega] at hc3
        go_wp2
        go_region
        have HB4 := lib_hid HB3.out.drew
        have HK4 := lib_hid HK3.out.drew
        clear HB3 HK3 hc1 hc2 hc3 hf
        go_wp2
        go_roundw
        case rel => exact ⟨4 + 1, by omega, rfl, HK4, HB4⟩
        case measure => simp [intOf]
      · have hlt3 : 4 * (rd : Int) + 1 < 4 * ((nr : Int) + 1) := by omega
        have htn : (4 * (rd : Int) + 1).toNat = 4 * rd + 1 := by omega
        rw [show 16 * rd + 5 = (4 * rd + 1) * 4 + 1 by omega] at hc3
        go_wp2
        go_region
        have HB4 := lib_hid HB3.out.drew
        have HK4 := lib_hid HK3.out.drew
        clear HB3 HK3 hc1 hc2 hc3 hf
        go_wp2
        go_roundw
        case rel => exact ⟨5 + 1, by omega, rfl, HK4, HB4⟩
        case measure => simp [intOf]
      · have hlt3 : 4 * (rd : Int) + 1 < 4 * ((nr : Int) + 1) := by omega
        have htn : (4 * (rd : Int) + 1).toNat = 4 * rd + 1 := by omega
        rw [show 16 * rd + 6 = (4 * rd + 1) * 4 + 2 by omega] at hc3
        go_wp2
        go_region
        have HB4 := lib_hid HB3.out.drew
        have HK4 := lib_hid HK3.out.drew
        clear HB3 HK3 hc1 hc2 hc3 hf
        go_wp2
        go_roundw
        case rel => exact ⟨6 + 1, by omega, rfl, HK4, HB4⟩
        case measure => simp [intOf]
      · have hlt3 : 4 * (rd : Int) + 1 < 4 * ((nr : Int) + 1) := by omega
        have htn : (4 * (rd : Int) + 1).toNat = 4 * rd + 1 := by omega
        rw [show 16 * rd + 7 = (4 * rd + 1) * 4 + 3 by omega] at hc3
        go_wp2
        go_region
        have HB4 := lib_hid HB3.out.drew
        have HK4 := lib_hid HK3.out.drew
        clear HB3 HK3 hc1 hc2 hc3 hf
        go_wp2
        go_roundw
        case rel => exact ⟨7 + 1, by omega, rfl, HK4, HB4⟩
        case measure => simp [intOf]
      · have hlt3 : 4 * (rd : Int) + 2 < 4 * ((nr : Int) + 1) := by omega
        have htn : (4 * (rd : Int) + 2).toNat = 4 * rd + 2 := by omega
        rw [show 16 * rd + 8 = (4 * rd + 2) * 4 by omega] at hc3
        go_wp2
        go_region
        have HB4 := lib_hid HB3.out.drew
        have HK4 := lib_hid HK3.out.drew
        clear HB3 HK3 hc1 hc2 hc3 hf
        go_wp2
        go_roundw
        case rel => exact ⟨8 + 1, by omega, rfl, HK4, HB4⟩
        case measure => simp [intOf]
      · have hlt3 : 4 * (rd : Int) + 2 < 4 * ((nr : Int) + 1) := by omega
        have htn : (4 * (rd : Int) + 2).toNat = 4 * rd + 2 := by omega
        rw [show 16 * rd + 9 = (4 * rd + 2) * 4 + 1 by omega] at hc3
        go_wp2
        go_region
        have HB4 := lib_hid HB3.out.drew
        have HK4 := lib_hid HK3.out.drew
        clear HB3 HK3 hc1 hc2 hc3 hf
        go_wp2
        go_roundw
        case rel => exact ⟨9 + 1, by omega, rfl, HK4, HB4⟩
        case measure => simp [intOf]
      · have hlt3 : 4 * (rd : Int) + 2 < 4 * ((nr : Int) + 1) := by omega
        have htn : (4 * (rd : Int) + 2).toNat = 4 * rd + 2 := by omega
        rw [show 16 * rd + 10 = (4 * rd + 2) * 4 + 2 by omega] at hc3
        go_wp2
        go_region
        have HB4 := lib_hid HB3.out.drew
        have HK4 := lib_hid HK3.out.drew
        clear HB3 HK3 hc1 hc2 hc3 hf
        go_wp2
        go_roundw
        case rel => exact ⟨10 + 1, by omega, rfl, HK4, HB4⟩
        case measure => simp [intOf]
      · have hlt3 : 4 * (rd : Int) + 2 < 4 * ((nr : Int) + 1) := by omega
        have htn : (4 * (rd : Int) + 2).toNat = 4 * rd + 2 := by omega
        rw [show 16 * rd + 11 = (4 * rd + 2) * 4 + 3 by omega] at hc3
        go_wp2
        go_region
        have HB4 := lib_hid HB3.out.drew
        have HK4 := lib_hid HK3.out.drew
        clear HB3 HK3 hc1 hc2 hc3 hf
        go_wp2
        go_roundw
        case rel => exact ⟨11 + 1, by omega, rfl, HK4, HB4⟩
        case measure => simp [intOf]
      · have hlt3 : 4 * (rd : Int) + 3 < 4 * ((nr : Int) + 1) := by omega
        have htn : (4 * (rd : Int) + 3).toNat = 4 * rd + 3 := by omega
        rw [show 16 * rd + 12 = (4 * rd + 3) * 4 by omega] at hc3
        go_wp2
        go_region
        have HB4 := lib_hid HB3.out.drew
        have HK4 := lib_hid HK3.out.drew
        clear HB3 HK3 hc1 hc2 hc3 hf
        go_wp2
        go_roundw
        case rel => exact ⟨12 + 1, by omega, rfl, HK4, HB4⟩
        case measure => simp [intOf]
      · have hlt3 : 4 * (rd : Int) + 3 < 4 * ((nr : Int) + 1) := by omega
        have htn : (4 * (rd : Int) + 3).toNat = 4 * rd + 3 := by omega
        rw [show 16 * rd + 13 = (4 * rd + 3) * 4 + 1 by omega] at hc3
        go_wp2
        go_region
        have HB4 := lib_hid HB3.out.drew
        have HK4 := lib_hid HK3.out.drew
        clear HB3 HK3 hc1 hc2 hc3 hf
        go_wp2
        go_roundw
        case rel => exact ⟨13 + 1, by omega, rfl, HK4, HB4⟩
        case measure => simp [intOf]
      · have hlt3 : 4 * (rd : Int) + 3 < 4 * ((nr : Int) + 1) := by omega
        have htn : (4 * (rd : Int) + 3).toNat = 4 * rd + 3 := by omega
        rw [show 16 * rd + 14 = (4 * rd + 3) * 4 + 2 by omega] at hc3
        go_wp2
        go_region
        have HB4 := lib_hid HB3.out.drew
        have HK4 := lib_hid HK3.out.drew
        clear HB3 HK3 hc1 hc2 hc3 hf
        go_wp2
        go_roundw
        case rel => exact ⟨14 + 1, by omega, rfl, HK4, HB4⟩
        case measure => simp [intOf]
      · have hlt3 : 4 * (rd : Int) + 3 < 4 * ((nr : Int) + 1) := by omega
        have htn : (4 * (rd : Int) + 3).toNat = 4 * rd + 3 := by omega
        rw [show 16 * rd + 15 = (4 * rd + 3) * 4 + 3 by omega] at hc3
        go_wp2
        go_region
        have HB4 := lib_hid HB3.out.drew
        have HK4 := lib_hid HK3.out.drew
        clear HB3 HK3 hc1 hc2 hc3 hf
        go_wp2
        go_roundw
        case rel => exact ⟨15 + 1, by omega, rfl, HK4, HB4⟩
        case measure => simp [intOf]
    · have hki : ¬ (k : Int) < 16 := by omega
      have hkn : Hid (k = 16) := lib_hid (by omega)
      go_wp2
      go_end0
      refine ⟨rfl, Hk.out, ?_⟩
      have := HB.out
      rw [hkn.out, altRow_all] at this
      exact this
set_option maxRecDepth 100000 in
set_option maxHeartbeats 4000000 in
theorem rounds_any (B g nr : Nat) (T ws : List UInt8) (W : World) (hK : KeyR W B g T ws nr) (hnr : nr ≤ 14) :
    Calls Try.prog 33 #[.pointer (some ⟨g, 0, none⟩)] W fun e W' => e = .returned (.int .i64 (nr : Int)) ∧ W = W' := by
  obtain ⟨gt, gw, cw, h1, h2, h3, h4, h5, h6, h7⟩ := hK
  have hc1 := h5.cell 0
  have hc2 := h5.cell 1
  have hq : (4 * ((nr : Int) + 1)) / 4 = (nr : Int) + 1 := by omega
  have hnri : (nr : Int) ≤ 14 := by omega
  clear h1 h2 h3 h4 h5 h6 h7
  go_enter Try.func33, Try.ntmps33
  go_wp2
  go_ret
  exact ⟨rfl, rfl⟩
end Go.Proofs.Ythcmdjaccjghjaa
