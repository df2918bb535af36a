/-
  palfreytop: a key its bytes, awake; gcm: right.
-/
import Derived.Test.YthcmdjaccjghjaaAes6
namespace Go.Proofs.Ythcmdjaccjghjaa
open Go Go.RowKit
set_option linter.unusedSimpArgs false
set_option linter.unusedVariables false

theorem sb_litT (w : World) (t : TypeId) (bs : List UInt8) (h : bs.length ≤ 1000000) : SB (w.alloc (.cells (bs.map b8).toArray t)) (some ⟨w.heap.size, 0, none⟩) bs.length bs.length bs := by
  have := (Blk.new w t (bs.map b8).toArray).row (o := 0) (n := bs.length) (c := bs.length) (Nat.le_refl _) (by simp) (by unfold maxLen; omega)
  rw [List.drop_zero, List.take_of_length_le (by simp)] at this
  exact this

/-- A key of palfreytop: 32 bytes, whether it is long, an IV. -/
def keyV (K : List UInt8) (L : Bool) (IV : List UInt8) : Array Value := (K.map b8 ++ (.bool L :: IV.map b8)).toArray
set_option maxRecDepth 100000 in
set_option maxHeartbeats 4000000 in
theorem keyBytes_any (K IV : List UInt8) (L : Bool) (hK : K.length = 32) (hI : IV.length = 16) (w : World) :
    Calls Try.prog 7 #[.agg (keyV K L IV)] w fun e w' => e = .returned (.slice (some ⟨w.heap.size, 0, none⟩) (if L then 32 else 16) 32) ∧ Grows w w' ∧ SB w' (some ⟨w.heap.size, 0, none⟩) (if L then 32 else 16) 32 (if L then K else K.take 16) := by
  obtain ⟨cs, Hcs⟩ : ∃ cs, Hid (keyV K L IV = cs) := ⟨_, lib_hid rfl⟩
  have hb : Blk (w.alloc (.cells cs 25)) w.heap.size 25 cs := Blk.new w _ _
  have hg : Grows w (w.alloc (.cells cs 25)) := (Grows.refl w).alloc _
  have hc : (w.alloc (.cells cs 25)).cell? ⟨w.heap.size, 32, none⟩ = some (.bool L) := by
    rw [hb.cell, ← Hcs.out]; unfold keyV
    rw [List.getElem?_toArray, List.getElem?_append_right (by simp [hK]), List.length_map, hK]
    rfl
  have hrow : ∀ m, m ≤ 32 → SB (w.alloc (.cells cs 25)) (some ⟨w.heap.size, 0, none⟩) m 32 (K.take m) := fun m hm => by
    refine ⟨by rw [List.length_map, List.length_take, hK]; omega, hm, by unfold maxLen; omega, fun e => (by cases e), fun _ => ⟨w.heap.size, 0, rfl, hb.lt, fun j hj => ?_⟩⟩
    rw [Nat.zero_add, hb.cell, ← Hcs.out]; unfold keyV
    rw [List.getElem?_toArray, List.getElem?_append_left (by simp [hK]; omega), List.getElem?_map, List.getElem?_map, List.getElem?_take, if_pos hj]
  have Hrow := lib_hid hrow
  have Hg := lib_hid hg
  rw [Hcs.out]
  clear hb hg hrow
  cases L
  · go_enter Try.func7, Try.ntmps7
    go_wp2
    go_ret
    exact ⟨rfl, Hg.out, Hrow.out 16 (by omega)⟩
  · go_enter Try.func7, Try.ntmps7
    go_wp2
    go_ret
    have := Hrow.out 32 (by omega)
    rw [List.take_of_length_le (by omega)] at this
    exact ⟨rfl, Hg.out, this⟩
set_option maxRecDepth 100000 in
set_option maxHeartbeats 4000000 in
theorem awakeTop_any (w : World) : Calls Try.prog 9 #[] w fun e w' => e = .returned (.bool true) ∧ Grows w w' := by
  have HS : Hid (SB (w.alloc (.cells #[.int .u8 1, .int .u8 2] 5)) (some ⟨w.heap.size, 0, none⟩) 2 2 [1, 2]) := by
    have := sb_litT w 5 [1, 2] (by simp)
    exact this
  have hB : ((bigF [1, 2]).toNat : Int) = 258 := by decide
  go_enter Try.func9, Try.ntmps9
  go_wp2_with fail
  refine (big_any _ _ _ _ _ HS.out).mono ?_
  rintro e w1 ⟨rfl, rfl⟩
  rw [hB]
  go_wp2
  go_ret
  exact ⟨rfl, (Grows.refl w).alloc _⟩
set_option maxRecDepth 100000 in
set_option maxHeartbeats 4000000 in
theorem right_any (B g nr : Nat) (T ws : List UInt8) (A : Option Addr) (n c : Nat) (w : World) (hK : KeyR w B g T ws nr) (h1 : 1 ≤ nr) (hnr : nr ≤ 14) (hn : 1 ≤ n) :
    Calls Try.prog 37 #[.pointer (some ⟨g, 0, none⟩), .slice A n c] w fun e w' => e = .returned (.int .i64 0) ∧ w = w' := by
  have hn0 : ¬ (nr : Int) = 0 := by omega
  have hm0 : ¬ (n : Int) = 0 := by omega
  go_enter Try.func37, Try.ntmps37
  go_wp2_with fail
  refine (rounds_any B g nr T ws w hK hnr).mono ?_
  rintro e w1 ⟨rfl, rfl⟩
  go_wp2
  go_ret
  exact ⟨rfl, rfl⟩
end Go.Proofs.Ythcmdjaccjghjaa
