/-
  The walks of the references of layer 1: numbers and bytes.
-/
import Derived.Test.YtbmmjkpibnnmeaaLe
namespace Go.Proofs.Ytbmmjkpibnnmeaa
open Go Go.RowKit

/-- One element more: the block that holds it is the source. -/
theorem one_row (w : World) (t : TypeId) (v : Value) : Row (w.alloc (.cells #[v] t)) (some ⟨w.heap.size, 0, none⟩) 1 1 [v] := by
  have := (Blk.new w t #[v]).row (o := 0) (n := 1) (c := 1) (Nat.le_refl _) (by simp) (by unfold maxLen; omega)
  exact this

theorem refStep_arith (X U : UInt64) (c : UInt8) : IntKind.u64.wrap ((X.toNat : Int) + IntKind.u64.wrap ((U.toNat : Int) * IntKind.u64.wrap (c.toNat : Int))) = ((X + U * c.toUInt64).toNat : Int) := by
  rw [u64_of_u8, u64_wrap_mul, u64_wrap_add]
theorem refUnit_arith (U : UInt64) : IntKind.u64.wrap ((U.toNat : Int) * 256) = ((U * 256).toNat : Int) := by
  rw [show (256 : Int) = ((256 : Nat) : Int) from rfl, u64_wrap_mulk]; rfl
theorem refStep_eq (n k : Nat) (c : UInt8) : UInt64.ofNat n + UInt64.ofNat (256 ^ k) * c.toUInt64 = UInt64.ofNat (n + 256 ^ k * c.toNat) := by
  rw [toU64_eq, UInt64.ofNat_add, UInt64.ofNat_mul]
theorem refUnit_eq (k : Nat) : UInt64.ofNat (256 ^ k) * 256 = UInt64.ofNat (256 ^ (k + 1)) := by
  rw [Nat.pow_succ, UInt64.ofNat_mul]; rfl

set_option maxHeartbeats 400000 in
theorem refLittle_any (A : Option Addr) (n c : Nat) (bs : List UInt8) (w : World) (h : SB w A n c bs) :
    Calls Try.prog 51 #[.slice A n c] w fun e w' => e = .returned (.int .u64 (littleF bs).toNat) ∧ w = w' := by
  generalize hR : littleF bs = R
  have HR := lib_hid hR
  clear hR
  have hlen := h.len
  have hcap := h.cap
  have hmax := h.max
  subst hlen
  unfold maxLen at hmax
  go_enter Try.func51, Try.ntmps51
  go_wp2
  go_loop [3, 4, 5] (fun n u i => ∃ (k : Nat) (X U : UInt64), k ≤ bs.length ∧ k ≤ 8 ∧ i = .int .i64 k ∧ n = .int .u64 X.toNat ∧ u = .int .u64 U.toNat ∧ Hid (X = UInt64.ofNat (leN (bs.take k))) ∧ Hid (U = UInt64.ofNat (256 ^ k))) (fun _ _ i => bs.length - (intOf i).toNat)
  case atStart => exact ⟨0, 0, 1, Nat.zero_le _, Nat.zero_le _, rfl, rfl, rfl, rfl, rfl⟩
  case round =>
    obtain ⟨k, X, U, hk, hk8, rfl, rfl, rfl, HX, HU⟩ := hrel
    by_cases hlt : k < bs.length ∧ k < 8
    · obtain ⟨hlt, hlt8⟩ := hlt
      obtain ⟨b, off, rfl, _, hc⟩ := h.at (by omega)
      have hck := hc k hlt
      have Hs := lib_hid (leN_take bs k hlt)
      clear hc h
      go_wp2
      go_round
      case rel => exact ⟨k + 1, X + U * bs[k].toUInt64, U * 256, by omega, by omega, by go_num, by rw [← refStep_arith], by rw [← refUnit_arith], by unfold Hid; rw [HX.out, HU.out, refStep_eq, Hs.out], by unfold Hid; rw [HU.out, refUnit_eq]⟩
      case measure => simp [intOf]; omega
    · have Hk : Hid (bs.take k = bs.take 8) := by
        unfold Hid
        by_cases h8 : k < 8
        · rw [List.take_of_length_le (by omega), List.take_of_length_le (by omega)]
        · rw [show k = 8 by omega]
      clear h
      by_cases h1 : k < bs.length
      · have h2 : ¬ k < 8 := by omega
        have h3 : ¬ (k : Int) < 8 := by omega
        go_wp2
        go_ret
        exact ⟨by rw [← HR.out, littleF_eq, ← Hk.out, ← HX.out]; rfl, rfl⟩
      · go_wp2
        go_ret
        exact ⟨by rw [← HR.out, littleF_eq, ← Hk.out, ← HX.out]; rfl, rfl⟩


theorem refByte_arith (m : Nat) : IntKind.u8.wrap ((m : Int) % 256) = ((UInt8.ofNat m).toNat : Int) := by
  rw [u8_wrap, UInt8.toNat_ofNat']; omega
set_option maxHeartbeats 400000 in
theorem refPutLittle_any (n : UInt64) (many : Int) (w : World) (hm : many ≤ 1000000) :
    Calls Try.prog 53 #[.int .u64 n.toNat, .int .i64 many] w (NewB 5 w (putLittleF n many.toNat)) := by
  have hn := u64_lt n
  go_enter Try.func53, Try.ntmps53
  go_wp2
  go_loopw [0, 5, 6] (fun z v i wr => ∃ (k m : Nat) (A : Option Addr) (c : Nat), (k : Int) ≤ max many 0 ∧ i = .int .i64 k ∧ v = .slice A k c ∧ z = .int .u64 m ∧ m < 18446744073709551616 ∧ Hid (m = n.toNat / 256 ^ k) ∧ Grows w wr ∧ Hid (wr.ownsRow w.heap.size 5 1 (.slice A k c) k ((putLittleF n k).map b8))) (fun _ _ i _ => (many - intOf i).toNat)
  case atStart => exact ⟨0, n.toNat, none, 0, by omega, rfl, rfl, rfl, hn, by unfold Hid; simp, Grows.refl _, World.ownsRow_nil _ _ _ _⟩
  case round =>
    obtain ⟨k, m, A, c, hk, rfl, rfl, rfl, hm64, HM, hg, HO⟩ := hrel
    by_cases hlt : (k : Int) < many
    · obtain ⟨x, Hx, hx⟩ : ∃ x : UInt8, Hid (UInt8.ofNat m = x) ∧ (m : Int) % 256 = (x.toNat : Int) := ⟨_, rfl, by rw [UInt8.toNat_ofNat']; omega⟩
      have hr := one_row wr 5 (b8 x)
      have ho := HO.out.alloc (.cells #[b8 x] 5)
      have hg1 := hg.alloc (.cells #[b8 x] 5)
      have hge := hg.le
      have HH := lib_hid (And.intro hr ho)
      have Hs : Hid ((putLittleF n k).map b8 ++ [b8 x] = (putLittleF n (k + 1)).map b8) := by
        unfold Hid
        rw [← Hx.out, HM.out, ← byteAt_eq]
        simp [putLittleF, List.range_succ]
      obtain ⟨q, Hq, hq, hq64⟩ : ∃ q : Nat, Hid (m / 256 = q) ∧ (m : Int) / 256 = (q : Int) ∧ q < 18446744073709551616 := ⟨m / 256, rfl, by omega, by omega⟩
      have Hm : Hid (q = n.toNat / 256 ^ (k + 1)) := by
        unfold Hid; rw [← Hq.out, HM.out, Nat.pow_succ, Nat.div_div_eq_div_mul]
      have hb1 : k + 1 ≤ 1000000 := by omega
      clear hr ho
      go_wp2_with (at_builtin; refine wpList_append rfl _ _ 44 rfl w.heap.size 5 (.int .u8 0) 1 Try.underlying44 Try.infoByte rfl _ k _ rfl HH.out.2 _ 1 _ [b8 x] rfl HH.out.1 (b8_one [x]) (by omega) (by omega) (by simp; omega) ?_; intro A' c' w' ho' hb' _)
      rw [Hs.out] at ho'
      have HO' := lib_hid ho'
      clear ho'
      have hg' := below_trans hg1 hb'
      go_roundw
      case rel => exact ⟨k + 1, q, A', c', by omega, by go_num, rfl, rfl, hq64, Hm, hg', HO'⟩
      case measure => simp [intOf]; omega
    · go_wp2
      go_ret
      have e : k = many.toNat := by omega
      rw [← e]
      exact newB_mk rfl (by simp [putLittleF]) hg HO.out




end Go.Proofs.Ytbmmjkpibnnmeaa
