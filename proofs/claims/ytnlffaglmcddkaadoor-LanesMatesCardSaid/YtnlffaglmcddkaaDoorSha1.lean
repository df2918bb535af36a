/-
  The walks of package sha: the first state, turning.
-/
import Derived.Test.YtnlffaglmcddkaaDoorRows
import Derived.Test.YtnlffaglmcddkaaDoorLeft
import Derived.Test.YtnlffaglmcddkaaDoorOwn
import Derived.Test.YtnlffaglmcddkaaDoorOpen2
import Derived.Test.YtnlffaglmcddkaaDoorArr16
import Derived.Test.YtnlffaglmcddkaaDoorArrEqW
import Derived.Test.YtnlffaglmcddkaaDoorRef1
import Derived.Test.YtnlffaglmcddkaaDoorMonoF
import Derived.Deep.Cut
import Derived.BigRegion
import Derived.RegionTactic
import Derived.ChangeAlike
namespace Go.Proofs.YtnlffaglmcddkaaDoor
open Go Go.RowKit
set_option linter.unusedSimpArgs false


abbrev b32 (x : UInt32) : Value := .int .u32 (x.toNat : Int)
theorem b32_one (xs : List UInt32) : ((xs.map b32).toArray).all (·.oneCell') = true := by
  rw [Array.all_eq_true_iff_forall_mem]
  intro v hv
  simp only [List.mem_toArray, List.mem_map] at hv
  obtain ⟨x, _, rfl⟩ := hv
  rfl
/-- The rounds' numbers. -/
def shaK : List UInt32 := ((1116352408 :: 1899447441 :: 3049323471 :: 3921009573 :: 961987163 :: 1508970993 :: 2453635748 :: 2870763221 :: 3624381080 :: 310598401 :: 607225278 :: 1426881987 :: 1925078388 :: 2162078206 :: 2614888103 :: 3248222580 :: 3835390401 :: 4022224774 :: 264347078 :: 604807628 :: 770255983 :: 1249150122 :: 1555081692 :: 1996064986 :: 2554220882 :: 2821834349 :: 2952996808 :: 3210313671 :: 3336571891 :: 3584528711 :: 113926993 :: 338241895 :: 666307205 :: 773529912 :: 1294757372 :: 1396182291 :: 1695183700 :: 1986661051 :: 2177026350 :: 2456956037 :: 2730485921 :: 2820302411 :: 3259730800 :: 3345764771 :: 3516065817 :: 3600352804 :: 4094571909 :: 275423344 :: 430227734 :: 506948616 :: 659060556 :: 883997877 :: 958139571 :: 1322822218 :: 1537002063 :: 1747873779 :: 1955562222 :: 2024104815 :: 2227730452 :: 2361852424 :: 2428436474 :: 2756734187 :: 3204031479 :: 3329325298 :: [] : List UInt32))
theorem shaK_len : shaK.length = 64 := by decide +kernel
def shaH0 : List UInt32 := [1779033703, 3144134277, 1013904242, 2773480762, 1359893119, 2600822924, 528734635, 1541459225]

theorem Tryd.size8 : (Tryd.prog.info? 51).map (·.size) = some 8 := by kernel_rfl
theorem Tryd.size64 : (Tryd.prog.info? 75).map (·.size) = some 64 := by kernel_rfl
set_option maxRecDepth 100000 in
set_option maxHeartbeats 4000000 in
theorem start_any (w : World) : Calls Tryd.prog 50 #[] w fun e w' => e = .returned (.agg (shaH0.map b32).toArray) ∧ Grows w w' := by
  go_enter Tryd.func50, Tryd.ntmps50
  go_wp2
  refine bodyPost_ret (results_cell_row rfl _ _ w.heap.size _ _ _ _ rfl (Blk.new _ _ _) Tryd.underlying51 rfl Tryd.size8) rfl ?_
  exact ⟨rfl, (Grows.refl w).alloc _⟩
set_option maxRecDepth 100000 in
set_option maxHeartbeats 4000000 in
theorem refStart_any (w : World) : Calls Tryd.prog 28 #[] w fun e w' => e = .returned (.agg (shaH0.map b32).toArray) ∧ Grows w w' := by
  go_enter Tryd.func28, Tryd.ntmps28
  go_wp2
  refine bodyPost_ret (results_cell_row rfl _ _ w.heap.size _ _ _ _ rfl (Blk.new _ _ _) Tryd.underlying51 rfl Tryd.size8) rfl ?_
  exact ⟨rfl, (Grows.refl w).alloc _⟩

/-- Turned round to the right. -/
def rotR (x : UInt32) (n : Nat) : UInt32 := leftF x (-(n : Int))
def turnF (x : UInt32) (a b c : Nat) : UInt32 := rotR x a ^^^ rotR x b ^^^ rotR x c
set_option maxRecDepth 100000 in
set_option maxHeartbeats 4000000 in
theorem turned_any (x : UInt32) (a b c : Nat) (w : World) (ha : a < 32) (hb : b < 32) (hc : c < 32) :
    Calls Tryd.prog 43 #[.int .u32 x.toNat, .int .i64 (a : Int), .int .i64 (b : Int), .int .i64 (c : Int)] w fun e w' => e = .returned (.int .u32 (turnF x a b c).toNat) ∧ w = w' := by
  obtain ⟨ra, Hra⟩ : ∃ v, Hid (leftF x (-(a : Int)) = v) := ⟨_, lib_hid rfl⟩
  obtain ⟨rb, Hrb⟩ : ∃ v, Hid (leftF x (-(b : Int)) = v) := ⟨_, lib_hid rfl⟩
  obtain ⟨rc, Hrc⟩ : ∃ v, Hid (leftF x (-(c : Int)) = v) := ⟨_, lib_hid rfl⟩
  obtain ⟨y, Hy, hy⟩ : ∃ v : UInt32, Hid (ra ^^^ rb = v) ∧ bits .xor .u32 (ra.toNat : Int) (rb.toNat : Int) = (v.toNat : Int) := ⟨_, lib_hid rfl, u32_xor _ _⟩
  obtain ⟨z, Hz, hz⟩ : ∃ v : UInt32, Hid (y ^^^ rc = v) ∧ bits .xor .u32 (y.toNat : Int) (rc.toNat : Int) = (v.toNat : Int) := ⟨_, lib_hid rfl, u32_xor _ _⟩
  have HT : Hid (turnF x a b c = z) := by unfold Hid turnF rotR; rw [Hra.out, Hrb.out, Hrc.out, Hy.out, Hz.out]
  have hai : (a : Int) < 32 := by omega
  have hbi : (b : Int) < 32 := by omega
  have hci : (c : Int) < 32 := by omega
  rw [HT.out]
  go_enter Tryd.func43, Tryd.ntmps43
  go_wp2_with fail
  refine (left_any x (-(a : Int)) _).mono ?_
  rintro e w1 ⟨rfl, rfl⟩
  rw [Hra.out]
  go_wp2_with fail
  refine (left_any x (-(b : Int)) _).mono ?_
  rintro e w1 ⟨rfl, rfl⟩
  rw [Hrb.out]
  go_wp2_with fail
  refine (left_any x (-(c : Int)) _).mono ?_
  rintro e w1 ⟨rfl, rfl⟩
  rw [Hrc.out]
  go_wp2
  go_ret
  exact ⟨rfl, rfl⟩

theorem right_arith (x : UInt32) (n : Nat) (h0 : 0 < n) (h : n < 32) : (x.toNat / 2 ^ n + x.toNat * 2 ^ (32 - n) % 4294967296) = (rotR x n).toNat := by
  have e : (-(n : Int)) % 32 = ((32 - n : Nat) : Int) := by omega
  have hl : (rotR x n).toNat = (x.toBitVec <<< (32 - n) ||| x.toBitVec >>> n).toNat := by
    unfold rotR leftF
    rw [e, Int.toNat_natCast, BitVec.rotateLeft, BitVec.rotateLeftAux, Nat.mod_eq_of_lt (by omega), show 32 - (32 - n) = n by omega]
    rfl
  have hx := x.toNat_lt
  rw [hl, BitVec.toNat_or, BitVec.toNat_shiftLeft, BitVec.toNat_ushiftRight, Nat.shiftLeft_eq, Nat.shiftRight_eq_div_pow]
  have hp : (2 : Nat) ^ n * 2 ^ (32 - n) = 4294967296 := by rw [← Nat.pow_add, show n + (32 - n) = 32 by omega]
  have hm : x.toNat * 2 ^ (32 - n) % 4294967296 = (x.toNat % 2 ^ n) * 2 ^ (32 - n) := by
    rw [← hp, Nat.mul_mod_mul_right]
  show x.toNat / 2 ^ n + x.toNat * 2 ^ (32 - n) % 4294967296 = (x.toNat * 2 ^ (32 - n)) % 4294967296 ||| x.toNat / 2 ^ n
  have hlow : x.toNat / 2 ^ n < 2 ^ (32 - n) := by
    rw [Nat.div_lt_iff_lt_mul (Nat.two_pow_pos n), Nat.mul_comm, hp]; exact hx
  rw [hm, Nat.mul_comm (x.toNat % 2 ^ n), ← Nat.two_pow_add_eq_or_of_lt hlow, Nat.add_comm]
set_option maxRecDepth 100000 in
set_option maxHeartbeats 4000000 in
theorem right_any (x : UInt32) (n : Nat) (w : World) (h0 : 0 < n) (h : n < 32) :
    Calls Tryd.prog 46 #[.int .u32 x.toNat, .int .i64 (n : Int)] w fun e w' => e = .returned (.int .u32 (rotR x n).toNat) ∧ Grows w w' := by
  have h1 : (n : Int) < 32 := by omega
  have h2 : 0 < (n : Int) := by omega
  have pw : ∀ k : Nat, k < 32 → ((2 : Int) ^ k) = ((2 ^ k : Nat) : Int) ∧ 2 ^ k < 4294967296 ∧ 0 < 2 ^ k := fun k hk => ⟨by simp, Nat.lt_of_le_of_lt (Nat.pow_le_pow_right (by decide) (show k ≤ 31 by omega)) (by decide), Nat.two_pow_pos k⟩
  obtain ⟨p, Hp, hp, hpw, hp0⟩ : ∃ p : Nat, Hid (2 ^ n = p) ∧ (2 : Int) ^ n % 4294967296 = (p : Int) ∧ IntKind.u32.wrap ((2 : Int) ^ n) = (p : Int) ∧ ¬ (p : Int) = 0 := by
    obtain ⟨e1, e2, e3⟩ := pw n h
    exact ⟨2 ^ n, lib_hid rfl, by rw [e1]; omega, by rw [IntKind.wrap_u32, e1]; omega, by omega⟩
  obtain ⟨m, hm, Hm⟩ : ∃ m : Nat, (32 : Int) - (n : Int) = (m : Int) ∧ Hid (32 - n = m) := ⟨32 - n, by omega, lib_hid rfl⟩
  have hmb : (m : Int) < 32 := by omega
  obtain ⟨p2, Hp2, hp2, hp2w⟩ : ∃ p : Nat, Hid (2 ^ m = p) ∧ (2 : Int) ^ m % 4294967296 = (p : Int) ∧ IntKind.u32.wrap ((2 : Int) ^ m) = (p : Int) := by
    obtain ⟨e1, e2, e3⟩ := pw m (by omega)
    exact ⟨2 ^ m, lib_hid rfl, by rw [e1]; omega, by rw [IntKind.wrap_u32, e1]; omega⟩
  obtain ⟨q, Hq, hq, hqb⟩ : ∃ q : Nat, Hid (x.toNat / p = q) ∧ (x.toNat : Int) / (p : Int) = (q : Int) ∧ (q : Int) < 4294967296 := by
    have := Nat.div_le_self x.toNat p
    have := x.toNat_lt
    exact ⟨_, lib_hid rfl, (Int.natCast_ediv _ _).symm, by omega⟩
  obtain ⟨r, Hr, hr, hrw, hrb⟩ : ∃ r : Nat, Hid (x.toNat * p2 % 4294967296 = r) ∧ (x.toNat : Int) * (p2 : Int) % 4294967296 = (r : Int) ∧ IntKind.u32.wrap ((x.toNat : Int) * (p2 : Int)) = (r : Int) ∧ (r : Int) < 4294967296 := by
    have e : (x.toNat : Int) * (p2 : Int) = ((x.toNat * p2 : Nat) : Int) := by simp
    exact ⟨_, lib_hid rfl, by rw [e]; omega, by rw [IntKind.wrap_u32, e]; omega, by omega⟩
  obtain ⟨y, Hy⟩ : ∃ y, Hid (rotR x n = y) := ⟨_, lib_hid rfl⟩
  have hyy : q + r = y.toNat := by
    have := right_arith x n h0 h
    rw [Hp.out, Hq.out, Hm.out, Hp2.out, Hr.out, Hy.out] at this
    exact this
  have hyi : (q : Int) + (r : Int) = (y.toNat : Int) := by omega
  have hyb : (y.toNat : Int) < 4294967296 := by have := y.toNat_lt; omega
  rw [Hy.out]
  clear hyy pw h0 h
  go_enter Tryd.func46, Tryd.ntmps46
  go_wp2
  apply wp_region_mono 11 ((.is _, []) :: (.is _, []) :: (.is _, []) :: (.is _, []) :: (.is _, []) :: (.is _, []) :: (.is _, []) :: (.is _, []) :: (.is _, []) :: (.is _, []) :: (.is _, []) :: []) (by kernel_rfl) (by kernel_rfl)
  iterate 11
    apply Mono.is0
    · kernel_rfl
    · intro W hW
      go_wp2
      refine ⟨rfl, rfl, Grows.refl _, ?_⟩
      unfold Oper.valAt
      go_simp
      rfl
    intro k1 a1 hk1 ha1
    simp only [Nat.reduceAdd] at hk1
    simp only [Act.put, List.setIfInBounds_toArray, List.set_cons_succ, List.set_cons_zero] at ha1
    subst hk1 ha1
  refine Mono.done ?_
  intro wm hgm
  simp only [allF, List.drop_succ_cons, List.drop_nil]
  go_wp2
  go_ret
  exact ⟨rfl, hgm⟩

end Go.Proofs.YtnlffaglmcddkaaDoor
