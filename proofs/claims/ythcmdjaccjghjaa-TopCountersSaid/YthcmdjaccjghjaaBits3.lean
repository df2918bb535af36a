/-
  The walks of package bits: the exclusive or, and whether two rows of bytes are the same.
-/
import Derived.Test.YthcmdjaccjghjaaBits2
namespace Go.Proofs.Ythcmdjaccjghjaa
open Go Go.RowKit

set_option maxHeartbeats 400000 in
theorem xor1_any (i : Nat) (p q : Nat) (A B : Option Addr) (n c m d : Nat) (xs ys : List UInt8) (w : World) (hi : i < xs.length) (hi' : i < ys.length)
   (hp : w.cell? ⟨p, 0, none⟩ = some (.slice A n c)) (hq : w.cell? ⟨q, 0, none⟩ = some (.slice B m d)) (ha : SB w A n c xs) (hb : SB w B m d ys) :
    Calls Try.prog 40 #[.int .i64 i, .pointer (some ⟨p, 0, none⟩), .pointer (some ⟨q, 0, none⟩)] w fun e w' => e = .returned (.int .u8 (xs[i] ^^^ ys[i]).toNat) ∧ Grows w w' := by
  have hla := ha.len
  have hlb := hb.len
  have hma := ha.max
  have hmb := hb.max
  have hca := ha.cap
  have hcb := hb.cap
  unfold maxLen at hma hmb
  obtain ⟨b1, o1, rfl, hb1, hc1⟩ := ha.at (by omega)
  obtain ⟨b2, o2, rfl, hb2, hc2⟩ := hb.at (by omega)
  have h1 := hc1 i hi
  have h2 := hc2 i hi'
  subst hla hlb
  go_enter Try.func40, Try.ntmps40
  go_wp2
  go_quiet (fail)
  go_wp2
  go_ret
  exact ⟨congrArg (fun z => Ending.returned (Value.int .u8 z)) (u8_xor _ _), (Grows.refl _).drewN _⟩

theorem xorF_len (a b : List UInt8) : (xorF a b).length = min a.length b.length := by simp [xorF]
theorem xorF_range (a b : List UInt8) : (List.range (min a.length b.length)).map (fun i => a.getD i 0 ^^^ b.getD i 0) = xorF a b := by
  apply List.ext_getElem
  · simp [xorF]
  · intro i h1 h2
    simp only [List.length_map, List.length_range] at h1
    simp only [xorF, List.getElem_map, List.getElem_range, List.getElem_zipWith]
    have ha : i < a.length := by omega
    have hb : i < b.length := by omega
    simp [List.getD, ha, hb]

set_option maxHeartbeats 400000 in
theorem xor_any (A B : Option Addr) (n c m d : Nat) (xs ys : List UInt8) (w : World) (ha : SB w A n c xs) (hb : SB w B m d ys) (hn : n ≤ 1000000 ∨ m ≤ 1000000) :
    Calls Try.prog 15 #[.slice A n c, .slice B m d] w (NewB 5 w (xorF xs ys)) := by
  have hla := ha.len
  have hlb := hb.len
  have HT : Hid (∀ k : Nat, k = min n m → TellsB 40 #[.pointer (some ⟨w.heap.size, 0, none⟩), .pointer (some ⟨w.heap.size + 1, 0, none⟩)] k (fun i => xs.getD i 0 ^^^ ys.getD i 0)
      ((w.alloc (.cells #[.slice A n c] 26)).alloc (.cells #[.slice B m d] 26))) := fun k hk i W hi hg => by
    have g1 := (hg.cell (p := ⟨w.heap.size, 0, none⟩) (by simp; omega)).trans (show _ = some (.slice A n c) by simp)
    have g2 := (hg.cell (p := ⟨w.heap.size + 1, 0, none⟩) (by simp)).trans (show _ = some (.slice B m d) by simp)
    have e1 : xs.getD i 0 = xs[i]'(by omega) := by simp [List.getD, show i < xs.length by omega]
    have e2 : ys.getD i 0 = ys[i]'(by omega) := by simp [List.getD, show i < ys.length by omega]
    dsimp only
    rw [e1, e2]
    exact xor1_any i _ _ A B n c m d xs ys W (by omega) (by omega) g1 g2 (((ha.grows ((Grows.refl w).alloc _)).grows ((Grows.refl _).alloc _)).grows hg) (((hb.grows ((Grows.refl w).alloc _)).grows ((Grows.refl _).alloc _)).grows hg)
  have Hr : Hid ((List.range (min n m)).map (fun i => xs.getD i 0 ^^^ ys.getD i 0) = xorF xs ys) := by
    have := xorF_range xs ys
    rw [hla, hlb] at this
    exact this
  have Hl : Hid ((xorF xs ys).length = min n m) := by
    have := xorF_len xs ys
    rw [hla, hlb] at this
    exact this
  clear ha hb
  replace hla := lib_hid hla
  replace hlb := lib_hid hlb
  rcases Nat.lt_or_ge m n with h | h
  · have h' : (m : Int) < n := by omega
    have e : min n m = m := by omega
    go_enter Try.func15, Try.ntmps15
    go_wp2_with fail
    refine (puts_any m _ _ (fun i => xs.getD i 0 ^^^ ys.getD i 0) _ (by omega) (fun _ _ => rfl) (HT.out m e.symm)).mono ?_
    rintro e' w1 ⟨A1, n1, c1, hn1, rfl, hg1, ho1⟩
    go_wp2
    go_ret
    have hr := Hr.out
    rw [e] at hr
    have hn1' := hn1.out
    rw [Int.toNat_natCast, hr] at ho1 hn1'
    exact newB_mk rfl hn1' (((Grows.refl w).alloc _).alloc _ |>.trans hg1) (own_base ho1 (by simp; omega))
  · have h' : ¬ (m : Int) < n := by omega
    have e : min n m = n := by omega
    go_enter Try.func15, Try.ntmps15
    go_wp2_with fail
    refine (puts_any n _ _ (fun i => xs.getD i 0 ^^^ ys.getD i 0) _ (by omega) (fun _ _ => rfl) (HT.out n e.symm)).mono ?_
    rintro e' w1 ⟨A1, n1, c1, hn1, rfl, hg1, ho1⟩
    go_wp2
    go_ret
    have hr := Hr.out
    rw [e] at hr
    have hn1' := hn1.out
    rw [Int.toNat_natCast, hr] at ho1 hn1'
    exact newB_mk rfl hn1' (((Grows.refl w).alloc _).alloc _ |>.trans hg1) (own_base ho1 (by simp; omega))

end Go.Proofs.Ythcmdjaccjghjaa
