/-
  The walks of package bits: bytes that are put.
-/
import Derived.Test.YthcmdjaccjghjaaBits1
import Derived.Deep.LoopGhost
namespace Go.Proofs.Ythcmdjaccjghjaa
open Go Go.RowKit

def putsRow (n : Nat) (g : Nat → UInt8) (k : Nat) : Array Value := ((List.range n).map fun j => if j < k then b8 (g j) else .int .u8 0).toArray
theorem putsRow_zero (n : Nat) (g : Nat → UInt8) : putsRow n g 0 = Array.replicate n (.int .u8 0) := by
  apply Array.toList_inj.1; simp [putsRow]
  rw [List.eq_replicate_iff]; simp
theorem putsRow_set (n : Nat) (g : Nat → UInt8) (k : Nat) (hk : k < n) : (putsRow n g k).setIfInBounds k (b8 (g k)) = putsRow n g (k + 1) := by
  apply Array.ext_getElem?
  intro i
  rw [Array.getElem?_setIfInBounds]
  simp only [putsRow, List.getElem?_toArray, List.getElem?_map, List.size_toArray, List.length_map, List.length_range]
  by_cases hi : k = i
  · subst hi; simp [hk]
  · rw [if_neg hi]
    by_cases hin : i < n
    · rw [List.getElem?_range hin]
      by_cases h : i < k
      · simp [h, show i < k + 1 by omega]
      · simp [h, show ¬ i < k + 1 by omega]
    · rw [List.getElem?_eq_none (by simpa using hin)]; simp
theorem putsRow_cell (n : Nat) (g : Nat → UInt8) (k : Nat) (j : Nat) (hj : j < n) : ∃ v, (putsRow n g k)[j]? = some v := by simp [putsRow, hj]
theorem putsRow_all (n : Nat) (g : Nat → UInt8) : (putsRow n g n).toList = ((List.range n).map g).map b8 := by
  simp only [putsRow, List.map_map]
  apply List.map_congr_left
  intro j hj
  simp [List.mem_range.1 hj]

/-- What the function F with the captured values caps tells at each place. -/
def TellsB (F : FuncId) (caps : Array Value) (n : Nat) (g : Nat → UInt8) (w : World) : Prop :=
  ∀ (i : Nat) (W : World), i < n → Grows w W → Calls Try.prog F (#[.int .i64 i] ++ caps) W fun e W' => e = .returned (.int .u8 (g i).toNat) ∧ Grows W W'

set_option maxHeartbeats 400000 in
theorem puts_pos (n : Nat) (F : FuncId) (caps : Array Value) (g : Nat → UInt8) (w : World) (hn : 0 < n) (hm : n ≤ 1000000)
   (hcf : ∀ (args : Array Value) (W : World), Sem.run Try.prog (callFunc F args) W = .ok (.enter F args) W)
   (hF : TellsB F caps n g w) :
    Calls Try.prog 39 #[.int .i64 n, .func (.func F) #[] caps] w (NewB 5 w ((List.range n).map g)) := by
  have hmx : max (n : Int) 0 = n := by omega
  go_enter Try.func39, Try.ntmps39
  go_wp2_with (at_make; refine wpList_make_blk rfl _ _ 26 rfl 5 (.int .u8 0) 1 Try.underlying26 Try.infoByte rfl .i64 .i64 n rfl rfl (by omega) (by omega) ?_; intro w1 hb1 hg1 hz1)
  go_loopw [12] (fun i wr => ∃ k : Nat, k ≤ n ∧ i = .int .i64 k ∧ Grows w wr ∧ w.heap.size < wr.heap.size ∧ Blk wr w.heap.size 5 (putsRow n g k)) (fun i _ => n - (intOf i).toNat)
  case atStart => exact ⟨0, Nat.zero_le _, rfl, hg1, hz1, by rw [putsRow_zero]; exact hb1⟩
  case round =>
    obtain ⟨k, hk, rfl, hgr, hz, hbr⟩ := hrel
    by_cases hlt : k < n
    · go_wp2_with fail
      refine (hF k wr hlt hgr).mono ?_
      rintro e w2 ⟨rfl, hg2⟩
      have hb2 := hbr.grows hg2
      obtain ⟨v0, hv0⟩ := putsRow_cell n g k k hlt
      have hc2 : w2.cell? ⟨w.heap.size, k, none⟩ = some v0 := by rw [hb2.cell]; exact hv0
      have hf2 := hb2.frozen k
      have hb3 := hb2.set k (b8 (g k))
      rw [putsRow_set n g k hlt] at hb3
      have hz2 := hg2.lt hz
      have hg3 := (hgr.trans hg2).setCell (p := ⟨w.heap.size, k, none⟩) (Nat.le_refl _) (b8 (g k))
      clear hv0
      have HB3 := lib_hid hb3
      clear hb3 hb2 hbr hb1
      go_wp2
      go_roundw
      case rel => exact ⟨k + 1, by omega, by go_num, hg3, by simp [World.setCell]; omega, HB3.out⟩
      case measure => simp [intOf]; omega
    · obtain rfl : k = n := by omega
      go_wp2
      go_ret
      have hown := hbr.own (Nat.le_refl _) (n := k) (by simp [putsRow]) (by unfold maxLen; omega)
      rw [putsRow_all] at hown
      exact newB_mk rfl (by simp) hgr hown

set_option maxHeartbeats 400000 in
theorem puts_neg (n : Int) (F : FuncId) (caps : Array Value) (w : World) (hn : n ≤ 0) :
    Calls Try.prog 39 #[.int .i64 n, .func (.func F) #[] caps] w (NewB 5 w []) := by
  have hmk : ∀ W : World, (Instr.makeSlice 26 (.int .i64 0) (.int .i64 0)).run Try.prog W = .ok (.slice (some ⟨W.heap.size, 0, none⟩) 0 0) (W.alloc (.cells #[] 5)) := fun W => by
    have := run_make_row' (P := Try.prog) 26 5 (.int .u8 0) 1 Try.underlying26 Try.infoByte rfl .i64 .i64 0 (by omega) (by omega) W
    rw [show madeCells #[Value.int .u8 0] 0 = #[] from Array.eq_empty_of_size_eq_zero (size_madeCells _ _)] at this
    exact this
  rcases Int.lt_or_eq_of_le hn with h | rfl
  · have h' : ¬ 0 ≤ n := by omega
    go_enter Try.func39, Try.ntmps39
    go_wp2
    go_loop [12] (fun i => i = .int .i64 0) (fun i => 0)
    case atStart => rfl
    case round =>
      subst hrel
      go_wp2
      go_ret
      have hb := Blk.new w 5 #[]
      exact newB_mk rfl rfl ((Grows.refl w).alloc _) (by simpa using hb.own (Nat.le_refl _) (n := 0) rfl (by unfold maxLen; omega))
  · 
    go_enter Try.func39, Try.ntmps39
    go_wp2
    go_loop [12] (fun i => i = .int .i64 0) (fun i => 0)
    case atStart => rfl
    case round =>
      subst hrel
      go_wp2
      go_ret
      have hb := Blk.new w 5 #[]
      exact newB_mk rfl rfl ((Grows.refl w).alloc _) (by simpa using hb.own (Nat.le_refl _) (n := 0) rfl (by unfold maxLen; omega))

theorem puts_any (n : Int) (F : FuncId) (caps : Array Value) (g : Nat → UInt8) (w : World) (hm : n ≤ 1000000)
   (hcf : ∀ (args : Array Value) (W : World), Sem.run Try.prog (callFunc F args) W = .ok (.enter F args) W)
   (hF : TellsB F caps n.toNat g w) :
    Calls Try.prog 39 #[.int .i64 n, .func (.func F) #[] caps] w (NewB 5 w ((List.range n.toNat).map g)) := by
  rcases Int.lt_or_le 0 n with h | h
  · obtain ⟨k, rfl⟩ := Int.eq_ofNat_of_zero_le (Int.le_of_lt h)
    exact puts_pos k F caps g w (by omega) (by omega) hcf hF
  · have : n.toNat = 0 := by omega
    rw [this]
    exact puts_neg n F caps w h

theorem byteAt_arith (n : UInt64) (i : Nat) (hi : i < 8) : IntKind.u8.wrap (↑n.toNat / 2 ^ (8 * (i : Int)).toNat) = ((byteAt n i).toNat : Int) := by
  have e : (8 * (i : Int)).toNat = 8 * i := by omega
  unfold byteAt
  rw [e, if_neg (by omega), u64_shr n (8 * i) (by omega), u8_of_u64]

set_option maxHeartbeats 400000 in
theorem putLittle1_any (n : UInt64) (i p : Nat) (w : World) (hp : w.cell? ⟨p, 0, none⟩ = some (.int .u64 n.toNat)) :
    Calls Try.prog 58 #[.int .i64 i, .pointer (some ⟨p, 0, none⟩)] w fun e w' => e = .returned (.int .u8 (byteAt n i).toNat) ∧ Grows w w' := by
  by_cases h8 : 8 ≤ i
  · have h : (8 : Int) ≤ i := by omega
    go_enter Try.func58, Try.ntmps58
    go_wp2
    go_ret
    exact ⟨by unfold byteAt; rw [if_pos h8]; rfl, Grows.refl _⟩
  · have h : ¬ (8 : Int) ≤ i := by omega
    go_enter Try.func58, Try.ntmps58
    go_wp2
    go_ret
    exact ⟨congrArg (fun z => Ending.returned (Value.int .u8 z)) (byteAt_arith n i (by omega)), Grows.refl _⟩

set_option maxHeartbeats 400000 in
theorem putLittle_any (n : UInt64) (many : Int) (w : World) (hm : many ≤ 1000000) :
    Calls Try.prog 53 #[.int .u64 n.toNat, .int .i64 many] w (NewB 5 w (putLittleF n many.toNat)) := by
  have HT : Hid (TellsB 58 #[.pointer (some ⟨w.heap.size, 0, none⟩)] many.toNat (byteAt n) (w.alloc (.cells #[.int .u64 n.toNat] 43))) := fun i W _ hg =>
    putLittle1_any n i w.heap.size W ((hg.cell (p := ⟨w.heap.size, 0, none⟩) (by simp)).trans (by simp))
  go_enter Try.func53, Try.ntmps53
  go_wp2_with fail
  refine (puts_any many _ _ (byteAt n) _ hm (fun _ _ => rfl) HT.out).mono ?_
  rintro e w1 ⟨A1, n1, c1, hn1, rfl, hg1, ho1⟩
  go_wp2
  go_ret
  exact newB_mk rfl hn1.out (((Grows.refl w).alloc _).trans hg1) (own_base ho1 (by simp))

set_option maxHeartbeats 400000 in
theorem putBig_any (n : UInt64) (many : Int) (w : World) (hm : many ≤ 1000000) :
    Calls Try.prog 44 #[.int .u64 n.toNat, .int .i64 many] w (NewB 5 w (putBigF n many.toNat)) := by
  go_enter Try.func44, Try.ntmps44
  go_wp2_with fail
  refine (putLittle_any n many w hm).mono ?_
  rintro e w1 ⟨A1, n1, c1, hn1, rfl, hg1, ho1⟩
  go_wp2_with fail
  refine (reverse_any _ _ _ w.heap.size _ _ (by have := hn1.out; simp [putLittleF] at this; omega) ho1).mono ?_
  rintro e w2 ⟨rfl, hb2, ho2⟩
  go_wp2
  go_ret
  exact newB_mk rfl (by rw [hn1.out]; simp [putBigF]) (below_trans hg1 hb2) ho2

end Go.Proofs.Ythcmdjaccjghjaa
