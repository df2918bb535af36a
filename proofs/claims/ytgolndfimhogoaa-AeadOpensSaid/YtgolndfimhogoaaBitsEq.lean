/-
  The walk of bits.Equal.
-/
import Derived.Test.YtgolndfimhogoaaBits3
namespace Go.Proofs.Ytgolndfimhogoaa
open Go Go.RowKit

def diffF (a b : List UInt8) : Nat → UInt8 | 0 => 0 | k + 1 => diffF a b k ||| (a.getD k 0 ^^^ b.getD k 0)
theorem or_zero (x y : UInt8) : (x ||| y = 0) ↔ x = 0 ∧ y = 0 := by
  rw [← UInt8.toBitVec_inj, ← UInt8.toBitVec_inj, ← UInt8.toBitVec_inj]
  simp
theorem xor_zero (x y : UInt8) : (x ^^^ y = 0) ↔ x = y := by
  constructor
  · intro h
    have : x ^^^ y ^^^ y = y := by rw [h]; simp
    simpa [UInt8.xor_assoc] using this
  · rintro rfl; simp
theorem diffF_zero (a b : List UInt8) : ∀ k, diffF a b k = 0 ↔ ∀ i, i < k → a.getD i 0 = b.getD i 0
  | 0 => by simp [diffF]
  | k + 1 => by
    simp only [diffF, or_zero, xor_zero, diffF_zero a b k]
    constructor
    · rintro ⟨h1, h2⟩ i hi
      by_cases hik : i = k
      · subst hik; exact h2
      · exact h1 i (by omega)
    · intro h
      exact ⟨fun i hi => h i (by omega), h k (by omega)⟩
theorem diffF_eq (a b : List UInt8) (h : a.length = b.length) : (diffF a b a.length == 0) = (a == b) := by
  rw [Bool.eq_iff_iff, beq_iff_eq, beq_iff_eq, diffF_zero]
  constructor
  · intro hi
    apply List.ext_getElem h
    intro i h1 h2
    have := hi i h1
    simpa [List.getD, h1, h2] using this
  · rintro rfl i _; rfl
theorem equal_arith (x y z : UInt8) : bits BinOp.or IntKind.u8 ↑x.toNat (bits BinOp.xor IntKind.u8 ↑y.toNat ↑z.toNat) = ((x ||| (y ^^^ z)).toNat : Int) := by
  rw [u8_xor, u8_or]

set_option maxHeartbeats 400000 in
theorem equal_any (A B : Option Addr) (n c m d : Nat) (xs ys : List UInt8) (w : World) (ha : SB w A n c xs) (hb : SB w B m d ys) :
    Calls Try.prog 22 #[.slice A n c, .slice B m d] w fun e w' => e = .returned (.bool (xs == ys)) ∧ Grows w w' := by
  have hla := ha.len
  have hlb := hb.len
  by_cases hnm : n = m
  · subst hnm
    have hma := ha.max
    have hca := ha.cap
    have hmb := hb.max
    have hcb := hb.cap
    unfold maxLen at hma hmb
    have hb0 : ((n : Int) != n) = false := by simp
    have HA := lib_hid ha
    have HB := lib_hid hb
    have HL := lib_hid (And.intro hla hlb)
    clear ha hb hla hlb
    go_enter Try.func22, Try.ntmps22
    go_wp2
    go_loopw [5, 14] (fun v i wr => ∃ k : Nat, k ≤ n ∧ i = .int .i64 k ∧ v = .int .u8 (diffF xs ys k).toNat ∧ Grows w wr) (fun _ i _ => n - (intOf i).toNat)
    case atStart => exact ⟨0, Nat.zero_le _, rfl, rfl, Grows.refl _⟩
    case round =>
      obtain ⟨k, hk, rfl, rfl, hg⟩ := hrel
      by_cases hlt : k < n
      · obtain ⟨b1, o1, rfl, _, hc1⟩ := (HA.out.grows hg).at (by omega)
        obtain ⟨b2, o2, rfl, _, hc2⟩ := (HB.out.grows hg).at (by omega)
        have hx : k < xs.length := by have := HL.out.1; omega
        have hy : k < ys.length := by have := HL.out.2; omega
        have h1 := hc1 k hx
        have h2 := hc2 k hy
        have Hs : Hid (diffF xs ys (k + 1) = diffF xs ys k ||| (xs[k] ^^^ ys[k])) := by
          show diffF xs ys k ||| _ = _
          simp [List.getD, hx, hy]
        clear hc1 hc2
        go_wp2
        go_quiet (fail)
        go_wp2
        go_roundw
        case rel => exact ⟨k + 1, by omega, by go_num, by rw [Hs.out, ← equal_arith], hg.drewN _⟩
        case measure => simp [intOf]; omega
      · obtain rfl : k = n := by omega
        go_wp2
        go_ret
        refine ⟨?_, hg⟩
        have h0 := diffF_eq xs ys (by rw [HL.out.1, HL.out.2])
        rw [HL.out.1] at h0
        have e : (((diffF xs ys k).toNat : Int) == 0) = (diffF xs ys k == 0) := u8_beq (diffF xs ys k) 0
        rw [← h0, ← e]
        rfl
  · have hb1 : ((n : Int) != m) = true := by simp; omega
    have e : (xs == ys) = false := by
      rw [beq_eq_false_iff_ne]; intro h; subst h; omega
    rw [e]
    clear ha hb hla hlb
    go_enter Try.func22, Try.ntmps22
    go_wp2
    go_ret
    exact ⟨rfl, Grows.refl _⟩

end Go.Proofs.Ytgolndfimhogoaa
