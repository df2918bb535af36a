/-
  A bank of four lanes, in memory: one block of 43 cells.
-/
import Derived.Test.YtnlffaglmcddkaaDoorSha6
import Derived.Test.YtnlffaglmcddkaaDoorLanesLe
import Derived.Deep.Cut
namespace Go.Proofs.YtnlffaglmcddkaaDoor
open Go Go.RowKit
set_option linter.unusedSimpArgs false
set_option linter.unusedVariables false

/-- A lane's cells: which message, its state, how many blocks are left. -/
structure LaneV where
  (n : Int) (h : V8) (l : Int)
instance : Inhabited LaneV := ⟨⟨-1, ⟨0, 0, 0, 0, 0, 0, 0, 0⟩, 0⟩⟩
def laneC (x : LaneV) : List Value := [.int .i64 x.n, b32 x.h.a, b32 x.h.b, b32 x.h.c, b32 x.h.d, b32 x.h.e, b32 x.h.f, b32 x.h.g, b32 x.h.h, .int .i64 x.l]
def lanesC : List LaneV → List Value
  | [] => []
  | x :: L => laneC x ++ lanesC L
def bankC (L : List LaneV) (k N : Int) (f : Value) : Array Value := (lanesC L ++ [.int .i64 k, .int .i64 N, f]).toArray
def zeroLane : LaneV := ⟨0, ⟨0, 0, 0, 0, 0, 0, 0, 0⟩, 0⟩

theorem lanesC_len (L : List LaneV) : (lanesC L).length = L.length * 10 := by
  induction L with
  | nil => rfl
  | cons x L ih => simp [lanesC, laneC, ih]; omega
theorem lanesC_at (L : List LaneV) (i j : Nat) (x : LaneV) (hi : L[i]? = some x) (hj : j < 10) : (lanesC L)[i * 10 + j]? = (laneC x)[j]? := by
  induction L generalizing i with
  | nil => cases hi
  | cons y L ih =>
    cases i with
    | zero =>
      obtain rfl : y = x := Option.some.inj hi
      rw [lanesC, List.getElem?_append_left (by simp [laneC]; omega)]
      simp
    | succ i =>
      rw [lanesC, List.getElem?_append_right (by simp [laneC]; omega), ← ih i hi]
      congr 1
      simp [laneC]
      omega
theorem lanesC_set (L : List LaneV) (i j : Nat) (x y : LaneV) (v : Value) (hi : L[i]? = some x) (hj : j < 10) (hv : (laneC x).set j v = laneC y) : (lanesC L).set (i * 10 + j) v = lanesC (L.set i y) := by
  induction L generalizing i with
  | nil => cases hi
  | cons z L ih =>
    cases i with
    | zero =>
      obtain rfl : z = x := Option.some.inj hi
      rw [lanesC, List.set_append_left _ _ (by simp [laneC]; omega), List.set_cons_zero, lanesC]
      simp [hv]
    | succ i =>
      rw [lanesC, List.set_append_right _ _ (by simp [laneC]; omega), List.set_cons_succ, lanesC, ← ih i hi]
      congr 2
      simp [laneC]
      omega
theorem bankC_at (L : List LaneV) (k N : Int) (f : Value) (i j : Nat) (x : LaneV) (hi : L[i]? = some x) (hj : j < 10) : (bankC L k N f)[i * 10 + j]? = (laneC x)[j]? := by
  have hl := lanesC_len L
  have : i < L.length := (List.getElem?_eq_some_iff.1 hi).1
  rw [bankC, List.getElem?_toArray, List.getElem?_append_left (by omega), lanesC_at L i j x hi hj]
theorem bankC_set (L : List LaneV) (k N : Int) (f : Value) (i j : Nat) (x y : LaneV) (v : Value) (hi : L[i]? = some x) (hj : j < 10) (hv : (laneC x).set j v = laneC y) : (bankC L k N f).setIfInBounds (i * 10 + j) v = bankC (L.set i y) k N f := by
  have hl := lanesC_len L
  have : i < L.length := (List.getElem?_eq_some_iff.1 hi).1
  rw [bankC, List.setIfInBounds_toArray, List.set_append_left _ _ (by omega), lanesC_set L i j x y v hi hj hv]
  rfl
theorem bankC_tail (L : List LaneV) (k N : Int) (f : Value) (hL : L.length = 4) : (bankC L k N f)[40]? = some (.int .i64 k) ∧ (bankC L k N f)[41]? = some (.int .i64 N) ∧ (bankC L k N f)[42]? = some f := by
  have hl := lanesC_len L
  rw [hL] at hl
  refine ⟨?_, ?_, ?_⟩ <;> (rw [bankC, List.getElem?_toArray, List.getElem?_append_right (by omega), hl]; rfl)
theorem bankC_next (L : List LaneV) (k k2 N : Int) (f : Value) (hL : L.length = 4) : (bankC L k N f).setIfInBounds 40 (.int .i64 k2) = bankC L k2 N f := by
  have hl := lanesC_len L
  rw [hL] at hl
  rw [bankC, List.setIfInBounds_toArray, List.set_append_right _ _ (by omega), hl]
  rfl
theorem bankC_size (L : List LaneV) (k N : Int) (f : Value) (hL : L.length = 4) : (bankC L k N f).size = 43 := by
  have hl := lanesC_len L
  rw [hL] at hl
  simp [bankC, hl]

/-- The bank in block g. -/
def BankB (w : World) (g : Nat) (L : List LaneV) (k N : Int) (f : Value) : Prop := L.length = 4 ∧ Blk w g 72 (bankC L k N f)
section
variable {w w' : World} {g : Nat} {L : List LaneV} {k N : Int} {f : Value}
theorem BankB.grows (h : BankB w g L k N f) (hg : Grows w w') : BankB w' g L k N f := ⟨h.1, h.2.grows hg⟩
theorem BankB.keeps {own : Nat → Prop} (h : BankB w g L k N f) (hk : Keeps own w w') (ho : ¬ own g) : BankB w' g L k N f := ⟨h.1, h.2.keeps hk ho⟩
theorem BankB.lane (h : BankB w g L k N f) (i : Nat) (hi : i < 4) : ∃ x, L[i]? = some x := ⟨L[i]'(by have := h.1; omega), List.getElem?_eq_getElem _⟩
theorem BankB.cell (h : BankB w g L k N f) {i : Nat} {x : LaneV} (hi : L[i]? = some x) (j : Nat) (hj : j < 10) : w.cell? ⟨g, i * 10 + j, none⟩ = (laneC x)[j]? := by
  rw [h.2.cell, bankC_at L k N f i j x hi hj]
theorem BankB.celln (h : BankB w g L k N f) {i : Nat} {x : LaneV} (hi : L[i]? = some x) : w.cell? ⟨g, i * 10, none⟩ = some (.int .i64 x.n) := h.cell hi 0 (by omega)
theorem BankB.celll (h : BankB w g L k N f) {i : Nat} {x : LaneV} (hi : L[i]? = some x) : w.cell? ⟨g, i * 10 + 9, none⟩ = some (.int .i64 x.l) := h.cell hi 9 (by omega)
theorem BankB.cellk (h : BankB w g L k N f) : w.cell? ⟨g, 40, none⟩ = some (.int .i64 k) := by rw [h.2.cell, (bankC_tail L k N f h.1).1]
theorem BankB.cellN (h : BankB w g L k N f) : w.cell? ⟨g, 41, none⟩ = some (.int .i64 N) := by rw [h.2.cell, (bankC_tail L k N f h.1).2.1]
theorem BankB.cellf (h : BankB w g L k N f) : w.cell? ⟨g, 42, none⟩ = some f := by rw [h.2.cell, (bankC_tail L k N f h.1).2.2]
theorem BankB.set (h : BankB w g L k N f) {i : Nat} {x y : LaneV} {v : Value} (hi : L[i]? = some x) (j : Nat) (hj : j < 10) (hv : (laneC x).set j v = laneC y) : BankB (w.setCell ⟨g, i * 10 + j, none⟩ v) g (L.set i y) k N f :=
  ⟨by rw [List.length_set]; exact h.1, by rw [← bankC_set L k N f i j x y v hi hj hv]; exact h.2.set _ _⟩
theorem BankB.next (h : BankB w g L k N f) (k2 : Int) : BankB (w.setCell ⟨g, 40, none⟩ (.int .i64 k2)) g L k2 N f :=
  ⟨h.1, by rw [← bankC_next L k k2 N f h.1]; exact h.2.set _ _⟩
theorem BankB.frozen (h : BankB w g L k N f) (j : Nat) : w.frozen? ⟨g, j, none⟩ = false := h.2.frozen j
end
set_option maxRecDepth 100000 in
set_option maxHeartbeats 4000000 in
theorem none_any (N : Int) (F : FuncId) (caps : Array Value) (w : World) : Calls Tryd.prog 19 #[.int .i64 N, .func (.func F) #[] caps] w fun e w' => ∃ g, e = .returned (.pointer (some ⟨g, 0, none⟩)) ∧ w.heap.size ≤ g ∧ g < w'.heap.size ∧ Grows w w' ∧ ∃ L, BankB w' g L 0 N (.func (.func F) #[] caps) ∧ ∀ i x, i < 4 → L[i]? = some x → x.n = -1 := by
  obtain ⟨f, Hf⟩ : ∃ f, Hid (Value.func (.func F) #[] caps = f) := ⟨_, lib_hid rfl⟩
  go_enter Tryd.func19, Tryd.ntmps19
  go_wp2
  go_loopw [11] (fun i wr => ∃ k : Nat, k ≤ 4 ∧ i = .int .i64 k ∧ Hid (Grows w wr) ∧ w.heap.size < wr.heap.size ∧ ∃ L, Hid (BankB wr w.heap.size L 0 N (.func (.func F) #[] caps)) ∧ Hid (∀ i x, i < k → L[i]? = some x → x.n = -1)) (fun i _ => 4 - (intOf i).toNat)
  case atStart => exact ⟨0, by omega, rfl, lib_hid ((Grows.refl w).alloc _), by simp, [zeroLane, zeroLane, zeroLane, zeroLane], lib_hid ⟨rfl, Blk.new _ _ _⟩, lib_hid (fun i x h => absurd h (by omega))⟩
  case round =>
    obtain ⟨k, hk, rfl, hG, hsz, L, hB, hL⟩ := hrel
    by_cases hlt : k < 4
    · have hki : (k : Int) < 4 := by omega
      obtain ⟨x, hx⟩ := hB.out.lane k hlt
      have c0 := hB.out.celln hx
      have f0 := hB.out.frozen (k * 10)
      have HB2 : Hid (BankB (wr.setCell ⟨w.heap.size, k * 10, none⟩ (.int .i64 (-1))) w.heap.size (L.set k ⟨-1, x.h, x.l⟩) 0 N (.func (.func F) #[] caps)) := lib_hid (hB.out.set hx 0 (by omega) rfl)
      have HG2 : Hid (Grows w (wr.setCell ⟨w.heap.size, k * 10, none⟩ (.int .i64 (-1)))) := lib_hid (hG.out.setCell (Nat.le_refl _) _)
      have Hx := lib_hid hx
      clear hx hG hB
      go_wp2
      go_roundw
      case rel =>
        refine ⟨k + 1, by omega, by go_num, HG2, by simpa [World.setCell] using hsz, _, HB2, lib_hid ?_⟩
        intro i y hi hy
        rw [List.getElem?_set] at hy
        split at hy
        · split at hy
          · obtain rfl := Option.some.inj hy; rfl
          · cases hy
        · exact hL.out i y (by omega) hy
      case measure => simp [intOf]; omega
    · obtain rfl : k = 4 := by omega
      have hki : ¬ (4 : Int) < 4 := by omega
      go_wp2
      go_ret
      exact ⟨_, rfl, Nat.le_refl _, hsz, hG.out, L, hB.out, hL.out⟩
end Go.Proofs.YtnlffaglmcddkaaDoor
