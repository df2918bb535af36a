/-
  The walk of sha.Pad.
-/
import Derived.Test.YtnlffaglmcddkaaDoorSha4
import Derived.Deep.Cut
import Derived.BigRegion
import Derived.RegionTactic
import Derived.Outline
import Derived.Great.BuildSlice
namespace Go.Proofs.YtnlffaglmcddkaaDoor
open Go Go.RowKit
set_option linter.unusedSimpArgs false


/-- What is put behind a message of n bytes. -/
def padZ (n : Nat) : Nat := (119 - n % 64) % 64
def padS (n : Nat) : List UInt8 := 128 :: List.replicate (padZ n) 0 ++ putBigF (8 * UInt64.ofNat n) 8
theorem putBigF8 (x : UInt64) : (putBigF x 8).length = 8 := by simp [putBigF, putLittleF]
theorem padS_len (n : Nat) : (padS n).length = padZ n + 9 := by simp [padS, putBigF8]
set_option maxHeartbeats 1000000 in
theorem padNeg_any (n : Int) (hn : n < 0) (w : World) : Calls Tryd.prog 14 #[.int .i64 n] w fun e w' => e = .returned (.slice none 0 0) ∧ w = w' := by
  go_enter Tryd.func14, Tryd.ntmps14
  go_wp2
  go_ret
  exact ⟨rfl, rfl⟩

set_option maxRecDepth 100000 in
set_option maxHeartbeats 4000000 in
theorem pad_any (n : Nat) (hn : n < 9223372036854775808) (w : World) : Calls Tryd.prog 14 #[.int .i64 (n : Int)] w (NewB 5 w (padS n)) := by
  have hlt : ¬ (n : Int) < 0 := by omega
  obtain ⟨r, hr, Hr, hr64⟩ : ∃ r : Nat, (n : Int).tmod 64 = (r : Int) ∧ Hid (n % 64 = r) ∧ r < 64 := ⟨n % 64, by rw [Int.tmod_eq_emod_of_nonneg (by omega)]; omega, lib_hid rfl, Nat.mod_lt _ (by omega)⟩
  obtain ⟨q, hq, Hq, hq64⟩ : ∃ q : Nat, (119 - (r : Int)).tmod 64 = (q : Int) ∧ Hid ((119 - r) % 64 = q) ∧ Hid (q < 64) := ⟨(119 - r) % 64, by rw [Int.tmod_eq_emod_of_nonneg (by omega)]; omega, lib_hid rfl, lib_hid (Nat.mod_lt _ (by omega))⟩
  obtain ⟨x, Hx, hx⟩ : ∃ x : UInt64, Hid (UInt64.ofNat n = x) ∧ Hid (IntKind.u64.wrap (n : Int) = (x.toNat : Int)) := ⟨_, lib_hid rfl, lib_hid (u64_wrap_nat n)⟩
  obtain ⟨y, Hy, hy⟩ : ∃ y : UInt64, Hid (8 * x = y) ∧ Hid (IntKind.u64.wrap (8 * (x.toNat : Int)) = (y.toNat : Int)) := ⟨_, lib_hid rfl, lib_hid (u64_wrap_mul 8 x)⟩
  have HP : Hid (padS n = (128 :: List.replicate q 0) ++ putBigF y 8) := by unfold Hid padS padZ; rw [Hr.out, Hq.out, Hx.out, Hy.out]
  have hoE := World.ownsRow_lit (base := w.heap.size) (e := 5) (size := 1) w #[.int .u8 128] 1 (Nat.le_refl _) (by unfold maxLen; omega) rfl
  have HE := lib_hid hoE
  have Hsz : Hid (w.heap.size ≤ (w.alloc (.cells #[.int .u8 128] 5)).heap.size) := by unfold Hid; simp
  rw [HP.out]
  have Hn := lib_hid hn
  clear hoE hn HP
  go_enter Tryd.func14, Tryd.ntmps14
  go_upto_region 4 with fail
  clear hlt hr hq hr64
  have q1 := hx.out
  have q2 := hy.out
  go_wp2_with (at_builtin; refine wpList_append_zeros rfl _ _ 28 3 rfl w.heap.size 5 .i64 (.int .u8 0) 1 Tryd.underlying28 Tryd.underlying3 Tryd.infoByte rfl rfl _ 1 _ rfl HE.out q rfl (by have := hq64.out; omega) (by have := hq64.out; omega) (by omega) (by omega) Hsz.out ?_; intro A4 c4 w4 ho4 hb4 hg4)
  have hg1 : Hid (Grows w (w.alloc (.cells #[.int .u8 128] 5))) := (Grows.refl w).alloc _
  have Hg4 : Hid (Grows w w4) := Below.trans hg1.out hb4
  obtain ⟨m, Hm, hm⟩ : ∃ m, Hid (1 + q = m) ∧ Hid (m ≤ 64) := ⟨_, lib_hid rfl, by have := hq64.out; unfold Hid; omega⟩
  obtain ⟨fs, Hfs, hfl⟩ : ∃ fs : List UInt8, Hid (128 :: List.replicate q 0 = fs) ∧ Hid (fs.length = m) := ⟨_, lib_hid rfl, by have := Hm.out; unfold Hid; simp; omega⟩
  have HO4 : Hid (w4.ownsRow w.heap.size 5 1 (.slice A4 m c4) m (fs.map b8)) := by
    have e : [Value.int .u8 128] ++ List.replicate q (Value.int .u8 0) = fs.map b8 := by
      rw [← Hfs.out, List.map_cons, List.map_replicate]; rfl
    rw [e, Hm.out] at ho4
    exact ho4
  rw [Hm.out]
  clear ho4 hb4 hg4 hg1 HE Hsz q1 q2 hx hy
  refine (putBig_any y 8 w4 (by omega)).mono ?_
  rintro e w5 ⟨A5, n5, c5, hn5, rfl, hg5, ho5⟩
  obtain ⟨bs, Hbs, hbl⟩ : ∃ bs, Hid (putBigF y 8 = bs) ∧ Hid (bs.length = 8) := ⟨_, lib_hid rfl, lib_hid (putBigF8 y)⟩
  have Hn5 : Hid (n5 = 8) := by have := hn5.out; rw [show (8 : Int).toNat = 8 from rfl, Hbs.out, hbl.out] at this; exact this
  have HS5 : Hid (SB w5 A5 n5 c5 bs) := by rw [← Hbs.out]; exact SB.own ho5
  have HO5 := lib_hid (own_grows HO4.out hg5)
  have Hg5 : Hid (Grows w w5) := Hg4.out.trans hg5
  clear hn5 ho5 hg5 HO4 Hg4
  go_wp2_with (at_builtin; refine wpList_append rfl _ _ 28 rfl w.heap.size 5 (.int .u8 0) 1 Tryd.underlying28 Tryd.infoByte rfl (.slice A4 m c4) m _ rfl HO5.out A5 n5 c5 (bs.map b8) rfl HS5.out (b8_one bs) (by have := Hn5.out; have := hm.out; omega) (by omega) Hg5.out.le ?_; intro A6 c6 w6 ho6 hb6 hg6)
  go_ret
  have e : 128 :: (List.replicate q 0 ++ putBigF y 8) = fs ++ bs := by rw [← Hfs.out, Hbs.out]; rfl
  rw [e]
  refine newB_mk rfl (by rw [List.length_append, hfl.out, hbl.out, Hn5.out]) (Below.trans Hg5.out hb6) ?_
  rw [List.map_append]
  exact ho6

end Go.Proofs.YtnlffaglmcddkaaDoor
