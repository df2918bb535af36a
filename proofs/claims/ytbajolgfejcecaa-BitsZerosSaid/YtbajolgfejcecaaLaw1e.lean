/-
  The walks of the laws of layer 1: BitsBack.
-/
import Derived.Test.YtbajolgfejcecaaAwake1
import Derived.Test.YtbajolgfejcecaaLe
namespace Go.Proofs.Ytbajolgfejcecaa
open Go Go.RowKit

theorem putLittleF_len (n : UInt64) (k : Nat) : (putLittleF n k).length = k := by simp [putLittleF]
theorem putBigF_len (n : UInt64) (k : Nat) : (putBigF n k).length = k := by simp [putBigF, putLittleF]
theorem leN_eight (n : UInt64) : leN (putLittleF n 8) = n.toNat := by
  rw [leN_putLittle]; have := u64_lt n; exact Nat.mod_eq_of_lt (by omega)
theorem big_putBig (n : UInt64) : bigF (putBigF n 8) = n := by
  rw [bigF_eq, putBigF, List.reverse_reverse, leN_eight]; simp
theorem little_putLittle (n : UInt64) : littleF (putLittleF n 8) = n := by
  rw [littleF_eq, List.take_of_length_le (by rw [putLittleF_len]; omega), leN_eight]; simp
theorem big_putBig4 (n : UInt64) : ((bigF (putBigF n 4)).toNat : Int) = (n.toNat : Int) % 4294967296 := by
  rw [bigF_eq, putBigF, List.reverse_reverse, leN_putLittle, UInt64.toNat_ofNat']; omega
theorem putBigF_at (n : UInt64) (i : Nat) (hi : i < 8) : (putBigF n 8)[i]'(by rw [putBigF_len]; exact hi) = byteAt n (7 - i) := by
  simp [putBigF, putLittleF]
theorem putLittleF_at (n : UInt64) (i : Nat) (hi : i < 8) : (putLittleF n 8)[i]'(by rw [putLittleF_len]; exact hi) = byteAt n i := by
  simp [putLittleF]

set_option maxHeartbeats 1000000 in
theorem walk_BitsBack (n : UInt64) (w : World) :
    Calls Try.prog 7 #[.int .u64 n.toNat] w fun e w' => e = .returned (.bool true) ∧ Below w.heap.size w w' := by
  have cb : ∀ (A : Option Addr) (c : Nat) (W : World), SB W A 8 c (putBigF n 8) → Calls Try.prog 14 #[.slice A 8 c] W fun e w' => e = .returned (.int .u64 n.toNat) ∧ W = w' := fun A c W h => by
    have := big_any A 8 c _ W h
    rw [big_putBig] at this
    exact this
  have cl : ∀ (A : Option Addr) (c : Nat) (W : World), SB W A 8 c (putLittleF n 8) → Calls Try.prog 16 #[.slice A 8 c] W fun e w' => e = .returned (.int .u64 n.toNat) ∧ Grows W w' := fun A c W h => by
    have := little_any A 8 c _ W h
    rw [little_putLittle] at this
    exact this
  have c4 : ∀ (A : Option Addr) (c : Nat) (W : World), SB W A 4 c (putBigF n 4) → Calls Try.prog 14 #[.slice A 4 c] W fun e w' => e = .returned (.int .u64 ((n.toNat : Int) % 4294967296)) ∧ W = w' := fun A c W h => by
    have := big_any A 4 c _ W h
    rw [big_putBig4] at this
    exact this
  have CB := lib_hid cb
  have CL := lib_hid cl
  have C4 := lib_hid c4
  clear cb cl c4
  go_enter Try.func7, Try.ntmps7
  go_wp2_with fail
  refine (putBig_any n 8 w (by omega)).mono ?_
  rintro e w1 ⟨A1, n1, c1, hn1, rfl, hg1, ho1⟩
  obtain rfl : n1 = 8 := by rw [hn1.out]; exact putBigF_len n 8
  have HB := lib_hid (SB.own ho1)
  clear ho1 hn1
  go_wp2_with fail
  refine (putLittle_any n 8 w1 (by omega)).mono ?_
  rintro e w2 ⟨A2, n2, c2, hn2, rfl, hg2, ho2⟩
  obtain rfl : n2 = 8 := by rw [hn2.out]; exact putLittleF_len n 8
  have HL := lib_hid (SB.own ho2)
  clear ho2 hn2
  have hcb := HB.out.cap
  have hmb := HB.out.max
  have hcl := HL.out.cap
  have hml := HL.out.max
  unfold maxLen at hmb hml
  go_wp2
  go_loopw [5] (fun i wr => ∃ k : Nat, k ≤ 8 ∧ i = .int .i64 k ∧ Grows w2 wr) (fun i _ => 8 - (intOf i).toNat)
  case atStart => exact ⟨0, Nat.zero_le _, rfl, Grows.refl _⟩
  case round =>
    obtain ⟨k, hk, rfl, hg⟩ := hrel
    by_cases hlt : k < 8
    · obtain ⟨b1, o1, rfl, _, hc1⟩ := ((HB.out.grows hg2).grows hg).at (by omega)
      obtain ⟨b2, o2, rfl, _, hc2⟩ := (HL.out.grows hg).at (by omega)
      have h1 := hc1 k (by rw [putBigF_len]; exact hlt)
      have h2 := hc2 (7 - k) (by rw [putLittleF_len]; omega)
      change wr.cell? _ = some (.int .u8 (((putBigF n 8)[k]'(by rw [putBigF_len]; exact hlt)).toNat : Int)) at h1
      change wr.cell? _ = some (.int .u8 (((putLittleF n 8)[7 - k]'(by rw [putLittleF_len]; omega)).toNat : Int)) at h2
      rw [putBigF_at n k hlt] at h1
      rw [putLittleF_at n (7 - k) (by omega)] at h2
      generalize byteAt n (7 - k) = x at h1 h2
      have e1 : ((7 : Int) - k).toNat = 7 - k := by omega
      have e2 : (0 : Int) ≤ 7 - k := by omega
      have e3 : (7 : Int) - k < 8 := by omega
      clear hc1 hc2
      go_wp2
      go_quiet (fail)
      go_wp2
      go_roundw
      case rel => exact ⟨k + 1, by omega, by go_num, hg.drewN _⟩
      case measure => simp [intOf]; omega
    · obtain rfl : k = 8 := by omega
      go_wp2_with fail
      refine (CB.out _ _ _ ((HB.out.grows hg2).grows hg)).mono ?_
      rintro e w3 ⟨rfl, rfl⟩
      go_wp2_with fail
      refine (CL.out _ _ _ (HL.out.grows hg)).mono ?_
      rintro e w3 ⟨rfl, hg3⟩
      go_wp2_with fail
      refine (putBig_any n 4 w3 (by omega)).mono ?_
      rintro e w4 ⟨A4, n4, c4, hn4, rfl, hg4, ho4⟩
      obtain rfl : n4 = 4 := by rw [hn4.out]; exact putBigF_len n 4
      clear hn4
      go_wp2_with fail
      refine (C4.out _ _ _ (SB.own ho4)).mono ?_
      rintro e w5 ⟨rfl, rfl⟩
      clear ho4
      go_wp2_with fail
      refine (awake_any _).mono ?_
      rintro e w6 ⟨rfl, hg6⟩
      go_wp2
      go_ret
      exact ⟨rfl, ((((hg1.trans hg2).trans hg).trans hg3).trans hg4).trans hg6⟩

end Go.Proofs.Ytbajolgfejcecaa
