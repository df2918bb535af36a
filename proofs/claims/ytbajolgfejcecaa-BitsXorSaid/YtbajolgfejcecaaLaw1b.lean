/-
  The walks of the laws of layer 1: BitsXor.
-/
import Derived.Test.YtbajolgfejcecaaAwake1
namespace Go.Proofs.Ytbajolgfejcecaa
open Go Go.RowKit

theorem xorF_get (a b : List UInt8) (i : Nat) (h : i < (xorF a b).length) : (xorF a b)[i] = a[i]'(by rw [xorF_len] at h; omega) ^^^ b[i]'(by rw [xorF_len] at h; omega) := by simp [xorF]
theorem xorF_twice (a b : List UInt8) : xorF a (xorF a b) = b.take (min a.length b.length) := by
  apply List.ext_getElem
  · rw [xorF_len, xorF_len, List.length_take]; omega
  · intro i h1 h2
    rw [xorF_len, xorF_len] at h1
    rw [xorF_get, xorF_get, List.getElem_take, ← UInt8.xor_assoc, UInt8.xor_self, UInt8.zero_xor]
theorem xorF_self (a : List UInt8) : xorF a a = List.replicate a.length 0 := by
  apply List.ext_getElem
  · rw [xorF_len]; simp
  · intro i h1 h2
    rw [xorF_get, UInt8.xor_self]; simp

theorem walk_BitsXor_big (A : Option Addr) (n c : Nat) (B : Option Addr) (m d : Nat) (w : World) (h : 300 < n ∨ 300 < m) :
    Calls Try.prog 4 #[.slice A n c, .slice B m d] w fun e w' => e = .returned (.bool true) ∧ Below w.heap.size w w' := by
  by_cases h1 : 300 < n
  · have h1' : (300 : Int) < n := by omega
    go_enter Try.func4, Try.ntmps4
    go_wp2
    go_ret
    exact ⟨rfl, Below.refl _ _⟩
  · have h1' : ¬ (300 : Int) < n := by omega
    have h2' : (300 : Int) < m := by omega
    go_enter Try.func4, Try.ntmps4
    go_wp2
    go_ret
    exact ⟨rfl, Below.refl _ _⟩

set_option maxHeartbeats 1000000 in
theorem walk_BitsXor (A : Option Addr) (n c : Nat) (xs : List UInt8) (B : Option Addr) (m d : Nat) (ys : List UInt8) (w : World) (ha : SB w A n c xs) (hb : SB w B m d ys) :
    Calls Try.prog 4 #[.slice A n c, .slice B m d] w fun e w' => e = .returned (.bool true) ∧ Below w.heap.size w w' := by
  by_cases hbig : 300 < n ∨ 300 < m
  · exact walk_BitsXor_big A n c B m d w hbig
  have hla := ha.len
  have hlb := hb.len
  have hcb := hb.cap
  have hmb := hb.max
  unfold maxLen at hmb
  have h1 : ¬ (300 : Int) < n := by omega
  have h2 : ¬ (300 : Int) < m := by omega
  have HA := lib_hid ha
  have HB := lib_hid hb
  have HL := lib_hid (And.intro hla hlb)
  clear ha hb hla hlb hbig
  obtain ⟨p, hp, hpn, hpm, hpmin⟩ : ∃ p : Nat, Hid (p = min n m) ∧ p ≤ n ∧ p ≤ m ∧ (p = n ∨ p = m) := ⟨min n m, rfl, by omega, by omega, by omega⟩
  have hsp : ((m : Int) < n ∧ p = m) ∨ (¬ (m : Int) < n ∧ p = n) := by have := hp.out; omega
  clear hpmin
  rcases hsp with ⟨hlt, rfl⟩ | ⟨hlt, rfl⟩
  all_goals
    go_enter Try.func4, Try.ntmps4
    go_wp2_with fail
    refine (xor_any _ _ _ _ _ _ _ _ w HA.out HB.out (by omega)).mono ?_
    rintro e w1 ⟨A1, n1, c1, hn1, rfl, hg1, ho1⟩
    go_wp2_with fail
    refine (xor_any _ _ _ _ _ _ _ _ w1 (HA.out.grows hg1) (SB.own ho1) (by omega)).mono ?_
    rintro e w2 ⟨A2, n2, c2, hn2, rfl, hg2, ho2⟩
    go_wp2_with fail
    refine (xor_any _ _ _ _ _ _ _ _ w2 (HA.out.grows (hg1.trans hg2)) (HA.out.grows (hg1.trans hg2)) (by omega)).mono ?_
    rintro e w3 ⟨A3, n3, c3, hn3, rfl, hg3, ho3⟩
    have hgrow := (hg1.trans hg2).trans hg3
    have s2 := (SB.own ho2).grows hg3
    have s3 := SB.own ho3
    rw [xorF_twice, HL.out.1, HL.out.2, ← hp.out] at s2
    rw [xorF_self, HL.out.1] at s3
    have hl3 := s3.len
    simp only [List.length_replicate] at hl3
    first | (have hne : ((n3 : Int) != (n : Int)) = false := by simp; omega) | (have hne : ((n3 : Int) != (p : Int)) = false := by simp; omega)
    have hlt3 := hl3
    clear hl3
    have hpre := (HB.out.grows hgrow).pre hpm
    clear ho1 ho2 ho3 hn1 hn2 hn3
    have cv1 : ∀ nq, (convert 27 9 (.slice A2 n2 c2)).run Try.prog (w3.drewN nq) = _ := fun nq => run_string_SB (w := w3.drewN nq) Try.underlying27 Try.underlying5 Try.underlying9 s2
    have cv2 := fun nq => run_string_SB (w := w3.drewN nq) (P := Try.prog) Try.underlying27 Try.underlying5 Try.underlying9 hpre
    have S3 := lib_hid s3
    clear s2 s3 hpre
    have HL3 := lib_hid hlt3
    clear hlt3
    have hm3 : n3 ≤ 1000000 := by have := HL3.out; have := HL.out; omega
    go_wp2
    go_quiet (fail)
    go_wp2
    go_loop [8] (fun i => ∃ k : Nat, k ≤ n3 ∧ i = .int .i64 k) (fun i => n3 - (intOf i).toNat)
    case atStart => exact ⟨0, Nat.zero_le _, rfl⟩
    case round =>
      obtain ⟨k, hk, rfl⟩ := hrel
      by_cases hlt : k < n3
      · obtain ⟨b, off, rfl, _, hc⟩ := S3.out.at (by omega)
        have hck := hc k (by have := S3.out.len; omega)
        rw [List.getElem_replicate] at hck
        have hck' : w3.cell? ⟨b, off + k, none⟩ = some (.int .u8 0) := hck
        clear hck hc
        go_wp2
        go_round
        case rel => exact ⟨k + 1, by omega, by go_num⟩
        case measure => simp [intOf]; omega
      · obtain rfl : k = n3 := by omega
        go_wp2_with fail
        refine (awake_any _).mono ?_
        rintro e w4 ⟨rfl, hg4⟩
        go_wp2
        go_ret
        exact ⟨rfl, (hgrow.drewN _).trans hg4⟩

end Go.Proofs.Ytbajolgfejcecaa
