/-
  The walks of the laws of layer 6: Powers.
-/
import Derived.Test.YtlnldflnanllmaaGhash4
namespace Go.Proofs.Ytlnldflnanllmaa
open Go Go.RowKit


theorem pow_mul (n m : Nat) (hn : n < 128) (hm : m < 128) : Gf.mul (2 ^ (127 - n)) (2 ^ (127 - m)) = Gf.onI (n + m) Gf.one := by
  rw [Gf.mul_pow _ _ (by omega), ← Gf.onI_one m hm, ← Gf.onI_add, show 127 - (127 - n) = n by omega]
theorem pow_low (n m : Nat) (h : n + m ≤ 127) : mulF (powB n) (powB m) = powB (n + m) :=
  NB_inj _ _ (mulF_len _ _) (powB_len _) (by rw [NB_mul _ _ (powB_len _) (powB_len _), NB_pow n (by omega), NB_pow m (by omega), NB_pow (n + m) (by omega), pow_mul n m (by omega) (by omega), Gf.onI_one _ (by omega)])
theorem pow_high (n m : Nat) (hn : n < 128) (hm : m < 128) (h : 127 < n + m) : mulF (mulF (powB n) (powB (127 - n))) (powB (n + m - 127)) = mulF (powB n) (powB m) := by
  rw [pow_low n (127 - n) (by omega)]
  refine NB_inj _ _ (mulF_len _ _) (mulF_len _ _) ?_
  rw [NB_mul _ _ (powB_len _) (powB_len _), NB_mul _ _ (powB_len _) (powB_len _), NB_pow n hn, NB_pow m hm, NB_pow _ (by omega), NB_pow _ (by omega), pow_mul n m hn hm, pow_mul _ _ (by omega) (by omega)]
  rw [show n + (127 - n) + (n + m - 127) = n + m by omega]

set_option maxRecDepth 100000 in
set_option maxHeartbeats 4000000 in
theorem walk_GhashPowers (a b : UInt8) (w : World) :
    Calls Try.prog 6 #[.int .u8 a.toNat, .int .u8 b.toNat] w fun e w' => e = .returned (.bool true) ∧ Below w.heap.size w w' := by
  have ha := u8_lt a
  have hb := u8_lt b
  obtain ⟨n, hn, hn8⟩ : ∃ n : Nat, (wrap64 (a.toNat : Int)).tmod 128 = (n : Int) ∧ n < 128 := ⟨a.toNat % 128, by rw [show wrap64 (a.toNat : Int) = a.toNat by unfold wrap64; omega]; rw [Int.tmod_eq_emod_of_nonneg (by omega)]; omega, Nat.mod_lt _ (by omega)⟩
  obtain ⟨m, hm, hm8⟩ : ∃ m : Nat, (wrap64 (b.toNat : Int)).tmod 128 = (m : Int) ∧ m < 128 := ⟨b.toNat % 128, by rw [show wrap64 (b.toNat : Int) = b.toNat by unfold wrap64; omega]; rw [Int.tmod_eq_emod_of_nonneg (by omega)]; omega, Nat.mod_lt _ (by omega)⟩
  obtain ⟨pn, Hpn, pnl⟩ : ∃ v : List UInt8, Hid (powB n = v) ∧ Hid (v.length = 16) := ⟨_, lib_hid rfl, lib_hid (powB_len _)⟩
  obtain ⟨pm, Hpm, pml⟩ : ∃ v : List UInt8, Hid (powB m = v) ∧ Hid (v.length = 16) := ⟨_, lib_hid rfl, lib_hid (powB_len _)⟩
  obtain ⟨p, Hp, pl⟩ : ∃ v : List UInt8, Hid (mulF pn pm = v) ∧ Hid (v.length = 16) := ⟨_, lib_hid rfl, lib_hid (mulF_len _ _)⟩
  by_cases h : 127 < n + m
  · have hi : (127 : Int) < n + m := by omega
    obtain ⟨n1, hn1, Hn1⟩ : ∃ n1 : Nat, (127 - (n : Int)) = (n1 : Int) ∧ Hid (n1 = 127 - n) := ⟨127 - n, by omega, lib_hid rfl⟩
    obtain ⟨n2, hn2, Hn2⟩ : ∃ n2 : Nat, ((n : Int) + m - 127) = (n2 : Int) ∧ Hid (n2 = n + m - 127) := ⟨n + m - 127, by omega, lib_hid rfl⟩
    have hl1 : n1 < 128 := by rw [Hn1.out]; omega
    have hl2 : n2 < 128 := by rw [Hn2.out]; omega
    obtain ⟨pa, Hpa, pal⟩ : ∃ v : List UInt8, Hid (powB n1 = v) ∧ Hid (v.length = 16) := ⟨_, lib_hid rfl, lib_hid (powB_len _)⟩
    obtain ⟨pb, Hpb, pbl⟩ : ∃ v : List UInt8, Hid (powB n2 = v) ∧ Hid (v.length = 16) := ⟨_, lib_hid rfl, lib_hid (powB_len _)⟩
    obtain ⟨p3, Hp3, p3l⟩ : ∃ v : List UInt8, Hid (mulF pn pa = v) ∧ Hid (v.length = 16) := ⟨_, lib_hid rfl, lib_hid (mulF_len _ _)⟩
    have Hpc : Hid (mulF p3 pb = p) := by
      unfold Hid
      rw [← Hp3.out, ← Hpa.out, ← Hpb.out, ← Hp.out, ← Hpn.out, ← Hpm.out, Hn1.out, Hn2.out]
      exact pow_high n m hn8 hm8 h
    clear ha hb
    go_enter Try.func6, Try.ntmps6
    go_wp2_with fail
    refine (power_any n (by omega) _).mono ?_
    rintro e w1 ⟨rfl, hg1⟩
    rw [Hpn.out]
    go_wp2_with fail
    refine (power_any m (by omega) _).mono ?_
    rintro e w2 ⟨rfl, hg2⟩
    rw [Hpm.out]
    go_wp2_with fail
    refine (mul_any pn pm pnl.out pml.out _).mono ?_
    rintro e w3 ⟨rfl, hg3⟩
    rw [Hp.out]
    go_wp2_with fail
    refine (power_any n (by omega) _).mono ?_
    rintro e w4 ⟨rfl, hg4⟩
    rw [Hpn.out]
    go_wp2_with fail
    refine (power_any n1 hl1 _).mono ?_
    rintro e w5 ⟨rfl, hg5⟩
    rw [Hpa.out]
    go_wp2_with fail
    refine (mul_any pn pa pnl.out pal.out _).mono ?_
    rintro e w6 ⟨rfl, hg6⟩
    rw [Hp3.out]
    go_wp2_with fail
    refine (power_any n2 hl2 _).mono ?_
    rintro e w7 ⟨rfl, hg7⟩
    rw [Hpb.out]
    go_wp2_with fail
    refine (mul_any p3 pb p3l.out pbl.out _).mono ?_
    rintro e w8 ⟨rfl, hg8⟩
    rw [Hpc.out]
    have he : ∀ W, (Op.equalIn 10000 22 (.agg (p.map b8).toArray) (.agg (p.map b8).toArray)).run Try.prog W = .ok true W := fun W => (run_equalIn_bytes W 9998 22 5 16 p p pl.out pl.out Try.arr16 Try.underlying5 Try.sizeByte).trans (by rw [beq_self_eq_true])
    go_wp2_with fail
    refine (awake6_any _).mono ?_
    rintro e w9 ⟨rfl, hg9⟩
    go_wp2
    go_ret
    exact ⟨rfl, (((((((hg1.trans hg2).trans hg3).trans hg4).trans hg5).trans hg6).trans hg7).trans hg8).trans hg9⟩
  · have hi : ¬ (127 : Int) < n + m := by omega
    have Hpc : Hid (powB (n + m) = p) := by
      unfold Hid
      rw [← Hp.out, ← Hpn.out, ← Hpm.out]
      exact (pow_low n m (by omega)).symm
    clear ha hb
    go_enter Try.func6, Try.ntmps6
    go_wp2_with fail
    refine (power_any n (by omega) _).mono ?_
    rintro e w1 ⟨rfl, hg1⟩
    rw [Hpn.out]
    go_wp2_with fail
    refine (power_any m (by omega) _).mono ?_
    rintro e w2 ⟨rfl, hg2⟩
    rw [Hpm.out]
    go_wp2_with fail
    refine (mul_any pn pm pnl.out pml.out _).mono ?_
    rintro e w3 ⟨rfl, hg3⟩
    rw [Hp.out]
    go_wp2_with fail
    refine (power_any (n + m) (by omega) _).mono ?_
    rintro e w4 ⟨rfl, hg4⟩
    rw [Hpc.out]
    have he : ∀ W, (Op.equalIn 10000 22 (.agg (p.map b8).toArray) (.agg (p.map b8).toArray)).run Try.prog W = .ok true W := fun W => (run_equalIn_bytes W 9998 22 5 16 p p pl.out pl.out Try.arr16 Try.underlying5 Try.sizeByte).trans (by rw [beq_self_eq_true])
    go_wp2_with fail
    refine (awake6_any _).mono ?_
    rintro e w5 ⟨rfl, hg5⟩
    go_wp2
    go_ret
    exact ⟨rfl, (((hg1.trans hg2).trans hg3).trans hg4).trans hg5⟩

end Go.Proofs.Ytlnldflnanllmaa
