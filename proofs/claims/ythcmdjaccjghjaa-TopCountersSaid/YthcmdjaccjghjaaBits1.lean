/-
  The walks of package bits: numbers and bytes.
-/
import Derived.Test.YthcmdjaccjghjaaRows
import Derived.Test.YthcmdjaccjghjaaOps
import Derived.Lib.SliceRun
import Derived.RegionTactic
import Derived.WalkKit
import Derived.WalkSpells
import Derived.WalkLawsBesides
import Derived.Deep.QuietTactic
import Derived.BigQuiet
namespace Go.Proofs.Ythcmdjaccjghjaa
open Go Go.RowKit

theorem Try.infoByte : (Try.prog.info? 5).map (fun i => (i.zero, i.size, i.bytes)) = some (some (.int .u8 0), 1, 1) := by kernel_rfl

/-! ### What is computed -/
def bigF (bs : List UInt8) : UInt64 := bs.foldl (fun n c => n * 256 ||| c.toUInt64) 0
def littleF (bs : List UInt8) : UInt64 := bigF (bs.take 8).reverse
def byteAt (n : UInt64) (i : Nat) : UInt8 := if 8 ≤ i then 0 else (n >>> UInt64.ofNat (8 * i)).toUInt8
def putLittleF (n : UInt64) (many : Nat) : List UInt8 := (List.range many).map (byteAt n)
def putBigF (n : UInt64) (many : Nat) : List UInt8 := (putLittleF n many).reverse
def xorF (a b : List UInt8) : List UInt8 := List.zipWith (· ^^^ ·) a b


theorem big_snoc (bs : List UInt8) (k : Nat) (h : k < bs.length) : bigF (bs.take (k + 1)) = bigF (bs.take k) * 256 ||| bs[k].toUInt64 := by
  unfold bigF
  rw [List.take_succ_eq_append_getElem h, List.foldl_append]; rfl
theorem big_arith (n : UInt64) (c : UInt8) : bits BinOp.or IntKind.u64 (IntKind.u64.wrap (↑n.toNat * 256)) (IntKind.u64.wrap ↑c.toNat) = ((n * 256 ||| c.toUInt64).toNat : Int) := by
  rw [u64_of_u8, show ((n.toNat : Int) * 256) = (n.toNat : Int) * ((256 : Nat) : Int) from rfl, u64_wrap_mulk, u64_or]
  rfl

set_option maxHeartbeats 400000 in
theorem big_any (A : Option Addr) (n c : Nat) (bs : List UInt8) (w : World) (h : SB w A n c bs) :
    Calls Try.prog 25 #[.slice A n c] w fun e w' => e = .returned (.int .u64 (bigF bs).toNat) ∧ w = w' := by
  have hlen := h.len
  have hcap := h.cap
  have hmax := h.max
  subst hlen
  unfold maxLen at hmax
  go_enter Try.func25, Try.ntmps25
  go_wp2
  go_loop [3, 8] (fun n i => ∃ k : Nat, k ≤ bs.length ∧ i = .int .i64 k ∧ n = .int .u64 (bigF (bs.take k)).toNat) (fun _ i => bs.length - (intOf i).toNat)
  case atStart => exact ⟨0, Nat.zero_le _, rfl, rfl⟩
  case round =>
    obtain ⟨k, hk, rfl, rfl⟩ := hrel
    by_cases hlt : k < bs.length
    · obtain ⟨b, off, rfl, _, hc⟩ := h.at (by omega)
      have hck := hc k hlt
      have hs := lib_hid (big_snoc bs k hlt)
      clear hc h
      go_wp2
      go_round
      case rel => exact ⟨k + 1, by omega, by go_num, by rw [hs.out, ← big_arith]⟩
      case measure => simp [intOf]; omega
    · obtain rfl : k = bs.length := by omega
      go_wp2
      go_ret
      exact ⟨by simp, rfl⟩

theorem b8_one (bs : List UInt8) : ∀ u ∈ bs.map b8, u.oneCell' = true := by
  intro u hu
  obtain ⟨x, _, rfl⟩ := List.mem_map.1 hu
  rfl

/-- xs with its first k and its last k elements turned about. -/
def revP (xs : List UInt8) (k : Nat) : List UInt8 := (List.range xs.length).map fun p => if p < k ∨ xs.length - k ≤ p then xs.getD (xs.length - 1 - p) 0 else xs.getD p 0
theorem revP_len (xs : List UInt8) (k : Nat) : (revP xs k).length = xs.length := by simp [revP]
theorem revP_zero (xs : List UInt8) : revP xs 0 = xs := by
  apply List.ext_getElem
  · simp [revP]
  · intro i h1 h2
    simp only [revP, List.getElem_map, List.getElem_range]
    rw [if_neg (by omega)]
    simp [List.getD, h2]
theorem revP_all (xs : List UInt8) (k : Nat) (h : xs.length ≤ 2 * k + 1) : revP xs k = xs.reverse := by
  apply List.ext_getElem
  · simp [revP]
  · intro i h1 h2
    have hi : i < xs.length := by simpa using h2
    simp only [revP, List.getElem_map, List.getElem_range, List.getElem_reverse]
    split
    · simp [List.getD, show xs.length - 1 - i < xs.length by omega]
    · have e : xs.length - 1 - i = i := by omega
      simp [e, List.getD, hi]
theorem revP_at (xs : List UInt8) (k p : Nat) (hp : p < xs.length) (h1 : k ≤ p) (h2 : p < xs.length - k) : ((revP xs k).map b8)[p]? = some (b8 (xs.getD p 0)) := by
  simp only [revP, List.getElem?_map, List.getElem?_range hp, Option.map_some]
  rw [if_neg (by omega)]
theorem revP_step (xs : List UInt8) (k : Nat) (h : 2 * k + 1 < xs.length) :
    (((revP xs k).map b8).set k (b8 (xs.getD (xs.length - 1 - k) 0))).set (xs.length - 1 - k) (b8 (xs.getD k 0)) = (revP xs (k + 1)).map b8 := by
  apply List.ext_getElem
  · simp [revP]
  · intro i h1 h2
    have hi : i < xs.length := by simpa [revP] using h2
    simp only [List.getElem_set, List.getElem_map, revP, List.getElem_range]
    by_cases e1 : xs.length - 1 - k = i
    · rw [if_pos e1, if_pos (by omega)]
      congr 2; omega
    · rw [if_neg e1]
      by_cases e2 : k = i
      · rw [if_pos e2, if_pos (by omega), e2]
      · rw [if_neg e2]
        by_cases e3 : i < k ∨ xs.length - k ≤ i
        · rw [if_pos e3, if_pos (by omega)]
        · rw [if_neg e3, if_neg (by omega)]

set_option maxHeartbeats 400000 in
theorem reverse_any (A : Option Addr) (n c base : Nat) (bs : List UInt8) (w : World) (hm : n ≤ 1000000)
    (ho : w.ownsRow base 5 1 (.slice A n c) n (bs.map b8)) :
    Calls Try.prog 54 #[.slice A n c] w fun e w' => e = .returned (.tuple #[]) ∧ Below base w w' ∧ w'.ownsRow base 5 1 (.slice A n c) n (bs.reverse.map b8) := by
  have hlen : bs.length = n := by have := ho.1; simpa using this
  subst hlen
  have HO := lib_hid ho
  clear ho
  go_enter Try.func54, Try.ntmps54
  go_wp2
  go_loopw [2, 3] (fun i j wr => ∃ k : Nat, 2 * k ≤ bs.length + 1 ∧ i = .int .i64 k ∧ j = .int .i64 (bs.length - 1 - k) ∧ Below base w wr ∧ Hid (wr.ownsRow base 5 1 (.slice A bs.length c) bs.length ((revP bs k).map b8))) (fun i _ _ => bs.length + 1 - (intOf i).toNat)
  case atStart => exact ⟨0, by omega, rfl, by go_num, Below.refl _ _, by rw [revP_zero]; exact HO⟩
  case round =>
    obtain ⟨k, hk, rfl, rfl, hbel, HR⟩ := hrel
    by_cases hlt : 2 * k + 1 < bs.length
    · obtain ⟨g, hA, hg⟩ : ∃ g, A = some ⟨g, 0, none⟩ ∧ base ≤ g := by
        rcases HR.out.2 with ⟨h1, h2⟩ | ⟨g, cap, cur, hv, hg, _⟩
        · omega
        · injection hv with hv; exact ⟨g, hv, hg⟩
      subst hA
      have c1 : wr.cell? ⟨g, k, none⟩ = some (b8 (bs.getD k 0)) := by
        rw [HR.out.cellAt k (by omega), revP_at bs k k (by omega) (by omega) (by omega)]
      have c2 : wr.cell? ⟨g, bs.length - 1 - k, none⟩ = some (b8 (bs.getD (bs.length - 1 - k) 0)) := by
        rw [HR.out.cellAt _ (by omega), revP_at bs k _ (by omega) (by omega) (by omega)]
      have f1 : wr.frozen? ⟨g, k, none⟩ = false := HR.out.frozenAt k
      have f2 : wr.frozen? ⟨g, bs.length - 1 - k, none⟩ = false := HR.out.frozenAt _
      have e1 : ((bs.length : Int) - 1 - k).toNat = bs.length - 1 - k := by omega
      have e2 : (0 : Int) ≤ (bs.length : Int) - 1 - k := by omega
      have e3 : (k : Int) < (bs.length : Int) - 1 - k := by omega
      go_wp2
      go_region
      all_goals
        go_wp2
        have h1 := HR.out.stored k (b8 (bs.getD (bs.length - 1 - k) 0))
        have h2 := (h1.1.stored (bs.length - 1 - k) (b8 (bs.getD k 0))).1
        rw [revP_step bs k hlt] at h2
        exact ⟨⟨k + 1, by omega, by go_num, by go_num, ((hbel.setCell (p := ⟨g, k, none⟩) hg _).setCell (p := ⟨g, bs.length - 1 - k, none⟩) hg _).drew, h2⟩, by simp [intOf]; omega⟩
    · go_wp2
      go_end0
      refine ⟨rfl, hbel, ?_⟩
      have := HR.out
      rw [revP_all bs k (by omega)] at this
      exact this

end Go.Proofs.Ythcmdjaccjghjaa
