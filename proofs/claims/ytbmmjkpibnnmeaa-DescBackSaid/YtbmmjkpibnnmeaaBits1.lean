/-
  The walks of package bits: numbers and bytes.
-/
import Derived.Test.YtbmmjkpibnnmeaaRows
import Derived.Test.YtbmmjkpibnnmeaaOps
import Derived.Lib.SliceRun
import Derived.RegionTactic
import Derived.WalkKit
import Derived.WalkSpells
import Derived.WalkLawsBesides
import Derived.Deep.QuietTactic
import Derived.BigQuiet
namespace Go.Proofs.Ytbmmjkpibnnmeaa
open Go Go.RowKit

theorem Try.infoByte : (Try.prog.info? 5).map (fun i => (i.zero, i.size, i.bytes)) = some (some (.int .u8 0), 1, 1) := by kernel_rfl

/-! ### What is computed -/
def bigF (bs : List UInt8) : UInt64 := bs.foldl (fun n c => n * 256 ||| c.toUInt64) 0
def littleF (bs : List UInt8) : UInt64 := bigF (bs.take 8).reverse
def byteAt (n : UInt64) (i : Nat) : UInt8 := if 8 ≤ i then 0 else (n >>> UInt64.ofNat (8 * i)).toUInt8
def putLittleF (n : UInt64) (many : Nat) : List UInt8 := (List.range many).map (byteAt n)
def putBigF (n : UInt64) (many : Nat) : List UInt8 := (putLittleF n many).reverse
def xorF (a b : List UInt8) : List UInt8 := List.zipWith (· ^^^ ·) a b


theorem big_snoc (bs : List UInt8) (k : Nat) (h : k < bs.length) : bigF (bs.take (k + 1)) = bigF (bs.take k) * 256 ||| bs[k].toUInt64 := by
  unfold bigF
  rw [List.take_succ_eq_append_getElem h, List.foldl_append]; rfl
theorem big_arith (n : UInt64) (c : UInt8) : bits BinOp.or IntKind.u64 (IntKind.u64.wrap (↑n.toNat * 256)) (IntKind.u64.wrap ↑c.toNat) = ((n * 256 ||| c.toUInt64).toNat : Int) := by
  rw [u64_of_u8, show ((n.toNat : Int) * 256) = (n.toNat : Int) * ((256 : Nat) : Int) from rfl, u64_wrap_mulk, u64_or]
  rfl

set_option maxHeartbeats 400000 in
theorem big_any (A : Option Addr) (n c : Nat) (bs : List UInt8) (w : World) (h : SB w A n c bs) :
    Calls Try.prog 58 #[.slice A n c] w fun e w' => e = .returned (.int .u64 (bigF bs).toNat) ∧ w = w' := by
  have hlen := h.len
  have hcap := h.cap
  have hmax := h.max
  subst hlen
  unfold maxLen at hmax
  go_enter Try.func58, Try.ntmps58
  go_wp2
  go_loop [3, 8] (fun n i => ∃ k : Nat, k ≤ bs.length ∧ i = .int .i64 k ∧ n = .int .u64 (bigF (bs.take k)).toNat) (fun _ i => bs.length - (intOf i).toNat)
  case atStart => exact ⟨0, Nat.zero_le _, rfl, rfl⟩
  case round =>
    obtain ⟨k, hk, rfl, rfl⟩ := hrel
    by_cases hlt : k < bs.length
    · obtain ⟨b, off, rfl, _, hc⟩ := h.at (by omega)
      have hck := hc k hlt
      have hs := lib_hid (big_snoc bs k hlt)
      clear hc h
      go_wp2
      go_round
      case rel => exact ⟨k + 1, by omega, by go_num, by rw [hs.out, ← big_arith]⟩
      case measure => simp [intOf]; omega
    · obtain rfl : k = bs.length := by omega
      go_wp2
      go_ret
      exact ⟨by simp, rfl⟩

theorem b8_one (bs : List UInt8) : ∀ u ∈ bs.map b8, u.oneCell' = true := by
  intro u hu
  obtain ⟨x, _, rfl⟩ := List.mem_map.1 hu
  rfl

set_option maxHeartbeats 400000 in
theorem clone_any (A : Option Addr) (n c : Nat) (bs : List UInt8) (w : World) (h : SB w A n c bs) (hm : n ≤ 1000000) :
    Calls Try.prog 45 #[.slice A n c] w (NewB 5 w bs) := by
  have hlen := h.len
  subst hlen
  have hcap := h.cap
  rcases A with _ | ad
  · have hc0 : c = 0 := h.2.2.2.1 rfl
    have hb : bs = [] := List.eq_nil_of_length_eq_zero (by omega)
    subst hb
    subst hc0
    have hnil := Lib.run_eql_slice_nil (P := Try.prog) w 44 5 none 0 0 0 0 Try.underlying44
    go_enter Try.func45, Try.ntmps45
    go_wp2
    go_ret
    exact newB_mk rfl rfl (Grows.refl _) (World.ownsRow_nil _ _ _ _)
  · have hnil := Lib.run_eql_slice_nil (P := Try.prog) w 44 5 (some ad) bs.length c 0 0 Try.underlying44
    have hr := h.grows ((Grows.refl w).alloc (.cells #[] 5))
    have ho := World.ownsRow_lit (base := w.heap.size) (e := 5) (size := 1) w #[] 0 (Nat.le_refl _) (by unfold maxLen; omega) rfl
    have HH := lib_hid (And.intro hr ho)
    clear hr ho h
    go_enter Try.func45, Try.ntmps45
    go_wp2_with (at_builtin; refine wpList_append rfl _ _ 44 rfl w.heap.size 5 (.int .u8 0) 1 Try.underlying44 Try.infoByte rfl _ 0 [] rfl HH.out.2 _ _ _ (bs.map b8) rfl HH.out.1 (b8_one bs) (by omega) (by omega) (by simp) ?_; intro A' c' w' ho' hb' _)
    go_ret
    simp only [Nat.zero_add, List.nil_append] at ho'
    exact newB_mk (by simp) rfl ⟨hb'.os, hb'.tape, hb'.output, Nat.le_trans (by simp) hb'.size, fun k hk => (hb'.block k hk).trans (Below.heap_alloc _ _ _ hk)⟩ ho'

/-- xs with its first k and its last k elements turned about. -/
def revP (xs : List UInt8) (k : Nat) : List UInt8 := (List.range xs.length).map fun p => if p < k ∨ xs.length - k ≤ p then xs.getD (xs.length - 1 - p) 0 else xs.getD p 0
theorem revP_len (xs : List UInt8) (k : Nat) : (revP xs k).length = xs.length := by simp [revP]
theorem revP_zero (xs : List UInt8) : revP xs 0 = xs := by
  apply List.ext_getElem
  · simp [revP]
  · intro i h1 h2
    simp only [revP, List.getElem_map, List.getElem_range]
    rw [if_neg (by omega)]
    simp [List.getD, h2]
theorem revP_all (xs : List UInt8) (k : Nat) (h : xs.length ≤ 2 * k + 1) : revP xs k = xs.reverse := by
  apply List.ext_getElem
  · simp [revP]
  · intro i h1 h2
    have hi : i < xs.length := by simpa using h2
    simp only [revP, List.getElem_map, List.getElem_range, List.getElem_reverse]
    split
    · simp [List.getD, show xs.length - 1 - i < xs.length by omega]
    · have e : xs.length - 1 - i = i := by omega
      simp [e, List.getD, hi]
theorem revP_at (xs : List UInt8) (k p : Nat) (hp : p < xs.length) (h1 : k ≤ p) (h2 : p < xs.length - k) : ((revP xs k).map b8)[p]? = some (b8 (xs.getD p 0)) := by
  simp only [revP, List.getElem?_map, List.getElem?_range hp, Option.map_some]
  rw [if_neg (by omega)]
theorem revP_step (xs : List UInt8) (k : Nat) (h : 2 * k + 1 < xs.length) :
    (((revP xs k).map b8).set k (b8 (xs.getD (xs.length - 1 - k) 0))).set (xs.length - 1 - k) (b8 (xs.getD k 0)) = (revP xs (k + 1)).map b8 := by
  apply List.ext_getElem
  · simp [revP]
  · intro i h1 h2
    have hi : i < xs.length := by simpa [revP] using h2
    simp only [List.getElem_set, List.getElem_map, revP, List.getElem_range]
    by_cases e1 : xs.length - 1 - k = i
    · rw [if_pos e1, if_pos (by omega)]
      congr 2; omega
    · rw [if_neg e1]
      by_cases e2 : k = i
      · rw [if_pos e2, if_pos (by omega), e2]
      · rw [if_neg e2]
        by_cases e3 : i < k ∨ xs.length - k ≤ i
        · rw [if_pos e3, if_pos (by omega)]
        · rw [if_neg e3, if_neg (by omega)]

set_option maxHeartbeats 400000 in
theorem reverse_any (A : Option Addr) (n c base : Nat) (bs : List UInt8) (w : World) (hm : n ≤ 1000000)
    (ho : w.ownsRow base 5 1 (.slice A n c) n (bs.map b8)) :
    Calls Try.prog 57 #[.slice A n c] w fun e w' => e = .returned (.tuple #[]) ∧ Below base w w' ∧ w'.ownsRow base 5 1 (.slice A n c) n (bs.reverse.map b8) := by
  have hlen : bs.length = n := by have := ho.1; simpa using this
  subst hlen
  have HO := lib_hid ho
  clear ho
  go_enter Try.func57, Try.ntmps57
  go_wp2
  go_loopw [2, 3] (fun i j wr => ∃ k : Nat, 2 * k ≤ bs.length + 1 ∧ i = .int .i64 k ∧ j = .int .i64 (bs.length - 1 - k) ∧ Below base w wr ∧ Hid (wr.ownsRow base 5 1 (.slice A bs.length c) bs.length ((revP bs k).map b8))) (fun i _ _ => bs.length + 1 - (intOf i).toNat)
  case atStart => exact ⟨0, by omega, rfl, by go_num, Below.refl _ _, by rw [revP_zero]; exact HO⟩
  case round =>
    obtain ⟨k, hk, rfl, rfl, hbel, HR⟩ := hrel
    by_cases hlt : 2 * k + 1 < bs.length
    · obtain ⟨g, hA, hg⟩ : ∃ g, A = some ⟨g, 0, none⟩ ∧ base ≤ g := by
        rcases HR.out.2 with ⟨h1, h2⟩ | ⟨g, cap, cur, hv, hg, _⟩
        · omega
        · injection hv with hv; exact ⟨g, hv, hg⟩
      subst hA
      have c1 : wr.cell? ⟨g, k, none⟩ = some (b8 (bs.getD k 0)) := by
        rw [HR.out.cellAt k (by omega), revP_at bs k k (by omega) (by omega) (by omega)]
      have c2 : wr.cell? ⟨g, bs.length - 1 - k, none⟩ = some (b8 (bs.getD (bs.length - 1 - k) 0)) := by
        rw [HR.out.cellAt _ (by omega), revP_at bs k _ (by omega) (by omega) (by omega)]
      have f1 : wr.frozen? ⟨g, k, none⟩ = false := HR.out.frozenAt k
      have f2 : wr.frozen? ⟨g, bs.length - 1 - k, none⟩ = false := HR.out.frozenAt _
      have e1 : ((bs.length : Int) - 1 - k).toNat = bs.length - 1 - k := by omega
      have e2 : (0 : Int) ≤ (bs.length : Int) - 1 - k := by omega
      have e3 : (k : Int) < (bs.length : Int) - 1 - k := by omega
      go_wp2
      go_region
      all_goals
        go_wp2
        have h1 := HR.out.stored k (b8 (bs.getD (bs.length - 1 - k) 0))
        have h2 := (h1.1.stored (bs.length - 1 - k) (b8 (bs.getD k 0))).1
        rw [revP_step bs k hlt] at h2
        exact ⟨⟨k + 1, by omega, by go_num, by go_num, ((hbel.setCell (p := ⟨g, k, none⟩) hg _).setCell (p := ⟨g, bs.length - 1 - k, none⟩) hg _).drew, h2⟩, by simp [intOf]; omega⟩
    · go_wp2
      go_end0
      refine ⟨rfl, hbel, ?_⟩
      have := HR.out
      rw [revP_all bs k (by omega)] at this
      exact this

set_option maxHeartbeats 400000 in
theorem little_any (A : Option Addr) (n c : Nat) (bs : List UInt8) (w : World) (h : SB w A n c bs) :
    Calls Try.prog 50 #[.slice A n c] w fun e w' => e = .returned (.int .u64 (littleF bs).toNat) ∧ Grows w w' := by
  have hlen := h.len
  subst hlen
  have hcap := h.cap
  have hmax := h.max
  unfold maxLen at hmax
  have fin : ∀ m : Nat, m = min bs.length 8 → ∀ w : World, SB w A m c (bs.take m) → Calls Try.prog 45 #[.slice A m c] w (NewB 5 w (bs.take m)) := fun m hm w h => clone_any _ _ _ _ _ h (by omega)
  by_cases h8 : 8 < bs.length
  all_goals
    obtain ⟨m, hm, hml, hm8⟩ : ∃ m : Nat, m = min bs.length 8 ∧ m ≤ bs.length ∧ m ≤ 8 := ⟨min bs.length 8, rfl, by omega, by omega⟩
    have HF := lib_hid (fin m hm w (h.pre hml))
    have h9 : (8 : Int) < bs.length ∨ ¬ (8 : Int) < bs.length := by omega
    have hm' := lib_hid hm
  · obtain rfl : m = 8 := by omega
    replace h9 := h9.resolve_right (by omega)
    clear h fin hm
    go_enter Try.func50, Try.ntmps50
    go_wp2_with fail
    refine HF.out.mono ?_
    rintro e w1 ⟨A1, n1, c1, hn1, rfl, hg1, ho1⟩
    go_wp2_with fail
    refine (reverse_any _ _ _ w.heap.size _ _ (by have := hn1.out; simp at this; omega) ho1).mono ?_
    rintro e w2 ⟨rfl, hb2, ho2⟩
    go_wp2_with fail
    refine (big_any _ _ _ _ _ (SB.own ho2)).mono ?_
    rintro e w3 ⟨rfl, rfl⟩
    go_wp2
    go_ret
    exact ⟨rfl, below_trans hg1 hb2⟩
  · obtain rfl : m = bs.length := by omega
    replace h9 := h9.resolve_left (by omega)
    clear h fin hm
    go_enter Try.func50, Try.ntmps50
    go_wp2_with fail
    refine HF.out.mono ?_
    rintro e w1 ⟨A1, n1, c1, hn1, rfl, hg1, ho1⟩
    go_wp2_with fail
    refine (reverse_any _ _ _ w.heap.size _ _ (by have := hn1.out; simp at this; omega) ho1).mono ?_
    rintro e w2 ⟨rfl, hb2, ho2⟩
    go_wp2_with fail
    refine (big_any _ _ _ _ _ (SB.own ho2)).mono ?_
    rintro e w3 ⟨rfl, rfl⟩
    go_wp2
    go_ret
    exact ⟨by unfold littleF; rw [List.take_of_length_le (by omega : bs.length ≤ 8)]; simp, below_trans hg1 hb2⟩

end Go.Proofs.Ytbmmjkpibnnmeaa
