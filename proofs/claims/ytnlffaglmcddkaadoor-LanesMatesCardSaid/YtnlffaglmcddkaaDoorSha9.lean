/-
  The walk of sha.Sum.
-/
import Derived.Test.YtnlffaglmcddkaaDoorSha8
import Derived.Deep.Cut
import Derived.BigRegion
import Derived.RegionTactic
import Derived.Outline
namespace Go.Proofs.YtnlffaglmcddkaaDoor
open Go Go.RowKit
set_option linter.unusedSimpArgs false


theorem runF_len (ks : List UInt32) (h : V8) (xs : List UInt8) : (runF ks h xs).2.length < 64 := by
  induction hn : xs.length using Nat.strongRecOn generalizing h xs with
  | _ n ih =>
    by_cases hx : 64 ≤ xs.length
    · rw [runF_step ks h xs hx]
      exact ih (xs.drop 64).length (by rw [List.length_drop]; omega) _ _ rfl
    · rw [runF_end ks h xs (by omega)]
      show xs.length < 64
      omega
theorem runF_app (ks : List UInt32) (h : V8) (xs ys : List UInt8) : runF ks (runF ks h xs).1 ((runF ks h xs).2 ++ ys) = runF ks h (xs ++ ys) := by
  induction hn : xs.length using Nat.strongRecOn generalizing h xs with
  | _ n ih =>
    by_cases hx : 64 ≤ xs.length
    · rw [runF_step ks h xs hx, runF_step ks h (xs ++ ys) (by rw [List.length_append]; omega), List.take_append_of_le_length hx, List.drop_append_of_le_length hx]
      exact ih (xs.drop 64).length (by rw [List.length_drop]; omega) _ _ rfl
    · rw [runF_end ks h xs (by omega)]
/-- The sum of a message. -/
def sumS (ks : List UInt32) (bs : List UInt8) : List UInt8 := outF (runF ks startV (bs ++ padS bs.length)).1
theorem sumS_len (ks : List UInt32) (bs : List UInt8) : (sumS ks bs).length = 32 := outF_len _
attribute [local irreducible] startV schedF moreW firstW blockF roundsF sumsF outF outW padS sumS
theorem writeNil_any (B : Value) (w : World) : Calls Tryd.prog 37 #[.pointer none, B] w fun e w' => e = .returned (.tuple #[]) ∧ w = w' := by
  go_enter Tryd.func37, Tryd.ntmps37
  go_wp2_with fail
  refine wp_scope_jumps 0 (fun _ _ => False) (fun _ _ => 0) rfl ?_ (fun _ _ h => h.elim)
  go_wp2_with fail
  (try simp only [Exit.jump])
  refine bodyPost_ret (results_none rfl _ _ _) rfl ?_
  exact ⟨rfl, rfl⟩

set_option maxRecDepth 100000 in
set_option maxHeartbeats 4000000 in
theorem shaSum_any {tK : TypeId} (ks : List UInt32) (A : Option Addr) (n c : Nat) (bs : List UInt8) (w : World) (hkl : ks.length = 64) (HK : Hid (Blk w 0 tK (ks.map b32).toArray)) (hs : SB w A n c bs) (hn : n ≤ 1000000) :
    Calls Tryd.prog 17 #[.slice A n c] w fun e w' => e = .returned (.agg ((sumS ks bs).map b8).toArray) ∧ Grows w w' := by
  obtain ⟨rs, Hrs, hrl, hra⟩ : ∃ rs : Array Value, Hid (((sumS ks bs).map b8).toArray = rs) ∧ rs.size = 32 ∧ rs.all (·.oneCell') = true := ⟨_, lib_hid rfl, by simp [sumS_len], cells_all _⟩
  obtain ⟨W, HW⟩ : ∃ W : World, Hid (W = w.alloc (.cells #[.int .u8 0, .int .u8 0, .int .u8 0, .int .u8 0, .int .u8 0, .int .u8 0, .int .u8 0, .int .u8 0, .int .u8 0, .int .u8 0, .int .u8 0, .int .u8 0, .int .u8 0, .int .u8 0, .int .u8 0, .int .u8 0, .int .u8 0, .int .u8 0, .int .u8 0, .int .u8 0, .int .u8 0, .int .u8 0, .int .u8 0, .int .u8 0, .int .u8 0, .int .u8 0, .int .u8 0, .int .u8 0, .int .u8 0, .int .u8 0, .int .u8 0, .int .u8 0] 32)) := ⟨_, lib_hid rfl⟩
  have hgW : Grows w W := by rw [HW.out]; exact (Grows.refl w).alloc _
  have HgW := lib_hid hgW
  obtain ⟨gz, Hgz⟩ : ∃ x, Hid (w.heap.size = x) := ⟨_, lib_hid rfl⟩
  have HZ : Hid (Blk W gz 32 #[.int .u8 0, .int .u8 0, .int .u8 0, .int .u8 0, .int .u8 0, .int .u8 0, .int .u8 0, .int .u8 0, .int .u8 0, .int .u8 0, .int .u8 0, .int .u8 0, .int .u8 0, .int .u8 0, .int .u8 0, .int .u8 0, .int .u8 0, .int .u8 0, .int .u8 0, .int .u8 0, .int .u8 0, .int .u8 0, .int .u8 0, .int .u8 0, .int .u8 0, .int .u8 0, .int .u8 0, .int .u8 0, .int .u8 0, .int .u8 0, .int .u8 0, .int .u8 0]) := by unfold Hid; rw [HW.out, ← Hgz.out]; exact Blk.new _ _ _
  have HSW : Hid (SB W A n c bs) := hs.grows hgW
  have HKW := lib_hid (HK.out.grows hgW)
  have Hw0 : Hid (0 < W.heap.size) := Nat.lt_of_le_of_lt (Nat.zero_le _) HZ.out.lt
  have hlen := hs.len
  have Hlen := lib_hid hlen
  have Hkl := lib_hid hkl
  have Hn := lib_hid hn
  rw [Hrs.out]
  clear hgW hs HK hlen hkl hn
  go_enter Tryd.func17, Tryd.ntmps17
  go_upto_region 1 with fail
  rw [← HW.out, Hgz.out]
  clear HW
  go_wp2_with fail
  refine (new_any W).mono ?_
  rintro e1 w1 ⟨gt, rfl, hg1, hgt, hB1⟩
  have HB1 := lib_hid hB1
  have Hg1 := lib_hid hg1
  have Hgt := lib_hid hgt
  have hSB : Hid (0 < n → ∀ p, A = some p → p.block ≠ gt) := fun hn0 p hp => by
    obtain ⟨b, off, e, hb, _⟩ := HSW.out.2.2.2.2 hn0
    rw [hp] at e
    cases e
    show b ≠ gt
    omega
  have hP1 : ShSt w1 W.heap.size gt none startV [] 0 := ⟨hgt, none, 0, 0, hB1, OwnAt.nil _ _, rfl, by simp [blkOf]⟩
  have Hwr := lib_hid (write_any ks gt W.heap.size none startV [] bs 0 A n c w1 Hkl.out (HKW.out.grows hg1) hP1 (HSW.out.grows hg1) hSB.out hg1.le Hw0.out ⟨by omega, by omega⟩ (by simp) Hn.out)
  clear hB1 hg1 hgt hP1 hSB
  go_wp2_with fail
  refine Hwr.out.mono ?_
  rintro e2 w2 ⟨rfl, rb2, hP2, hK2, hl2⟩
  have hlen2 := runF_len ks startV ([] ++ bs)
  rw [List.nil_append] at hP2 hlen2
  obtain ⟨⟨H1, R1⟩, HF1⟩ : ∃ x, Hid (runF ks startV bs = x) := ⟨_, lib_hid rfl⟩
  rw [HF1.out] at hP2 hlen2
  have Hlr : Hid (R1.length < 64) := hlen2
  have HT : Hid (outF (runF ks H1 (R1 ++ padS n)).1 = sumS ks bs) := by
    unfold Hid sumS
    have := runF_app ks startV bs (padS n)
    rw [HF1.out] at this
    rw [this, Hlen.out]
  have Hg2 : Hid (Grows W w2) := Keeps.grows' hK2 Hg1.out (fun i hi => by
    rcases hi with h | h
    · rw [h]; exact Hgt.out
    · cases h)
  have hP3 : ShSt w2 W.heap.size gt rb2 H1 R1 (n : Int) := by rw [Int.zero_add] at hP2; exact hP2
  have HSM : Hid (Calls Tryd.prog 38 #[.pointer (some ⟨gt, 0, none⟩)] w2 fun e w' => e = .returned (.agg rs) ∧ Grows w2 w') := by
    have := ssum_any ks gt W.heap.size rb2 H1 R1 n w2 Hkl.out (HKW.out.grows Hg2.out) hP3 (by have := Hn.out; omega) Hlr.out
    rw [HT.out, Hrs.out] at this
    exact this
  have HZ2 : Hid (Blk w2 gz 32 #[.int .u8 0, .int .u8 0, .int .u8 0, .int .u8 0, .int .u8 0, .int .u8 0, .int .u8 0, .int .u8 0, .int .u8 0, .int .u8 0, .int .u8 0, .int .u8 0, .int .u8 0, .int .u8 0, .int .u8 0, .int .u8 0, .int .u8 0, .int .u8 0, .int .u8 0, .int .u8 0, .int .u8 0, .int .u8 0, .int .u8 0, .int .u8 0, .int .u8 0, .int .u8 0, .int .u8 0, .int .u8 0, .int .u8 0, .int .u8 0, .int .u8 0, .int .u8 0]) := HZ.out.grows Hg2.out
  have Hgw2 : Hid (Grows w w2) := HgW.out.trans Hg2.out
  have Hgzl : Hid (w.heap.size ≤ gz) := by rw [← Hgz.out]; exact lib_hid (Nat.le_refl _)
  clear hP2 hP3 hlen2 HF1 Hwr hK2 hl2 HB1 HSW HKW HZ Hg2 HT
  go_wp2_with fail
  refine HSM.out.mono ?_
  rintro e3 w3 ⟨rfl, hg3⟩
  have HZ3 := lib_hid (HZ2.out.grows hg3)
  have Hg3 := lib_hid (Hgw2.out.trans hg3)
  clear hg3 HSM HZ2 Hgw2
  go_wp2_with (refine wpList_store_blk rfl _ _ _ rfl gz rs rfl rfl 32 _ HZ3.out (by rw [Tryd.size32B, hrl]) (by rw [hrl]; rfl) hra w.heap.size w Hg3.out Hgzl.out ?_; intro w8 H8 hb8 hg8)
  refine bodyPost_ret (results_cell_row rfl _ _ gz _ _ _ _ rfl H8 Tryd.underlying32 rfl (by rw [Tryd.size32B, hrl])) rfl ?_
  exact ⟨rfl, hb8⟩

end Go.Proofs.YtnlffaglmcddkaaDoor
