/-
  The walk of palfreyref06.Padded.
-/
import Derived.Test.YtgolndfimhogoaaMem
import Derived.Test.YtgolndfimhogoaaOps
import Derived.Test.YtgolndfimhogoaaLeft
import Derived.Test.YtgolndfimhogoaaOwn
import Derived.Test.YtgolndfimhogoaaBits2
import Derived.Deep.Cut
namespace Go.Proofs.Ytgolndfimhogoaa
open Go Go.RowKit
set_option linter.unusedSimpArgs false


def padN (n : Nat) : Nat := (16 - n % 16) % 16
theorem one_rowP (w : World) (t : TypeId) (u : UInt8) : SB (w.alloc (.cells #[b8 u] t)) (some ⟨w.heap.size, 0, none⟩) 1 1 [u] := by
  have := (Blk.new w t #[b8 u]).row (o := 0) (n := 1) (c := 1) (Nat.le_refl _) (by simp) (by unfold maxLen; omega)
  exact this
def lenV : Value → Nat | .slice _ n _ => n | _ => 0
set_option maxRecDepth 100000 in
set_option maxHeartbeats 4000000 in
theorem refPadded_any (bs : List UInt8) (A : Option Addr) (l c : Nat) (w : World) (hs : SB w A l c bs) (hl : l ≤ 1000000) :
    Calls Try.prog 30 #[.slice A l c] w (NewB 5 w (bs ++ List.replicate (padN l) 0)) := by
  have ho := World.ownsRow_lit (base := w.heap.size) (e := 5) (size := 1) w #[] 0 (Nat.le_refl _) (by unfold maxLen; omega) rfl
  have hr := hs.grows ((Grows.refl w).alloc (.cells #[] 5))
  have HH := lib_hid (And.intro hr ho)
  have hbl := lib_hid hs.len
  have HP : Hid (padN l < 16 ∧ (l + padN l) % 16 = 0 ∧ ∀ k, k ≤ padN l → (l + k) % 16 = 0 → k = padN l) := by unfold Hid padN; refine ⟨by omega, by omega, fun k h1 h2 => by omega⟩
  clear hr ho hs
  go_enter Try.func30, Try.ntmps30
  go_upto_region 2 with (at_builtin; refine wpList_append rfl _ _ 22 rfl w.heap.size 5 (.int .u8 0) 1 Try.underlying22 Try.infoByte rfl _ 0 [] rfl HH.out.2 _ _ _ (bs.map b8) rfl HH.out.1 (b8_one bs) (by omega) (by omega) (by simp) ?_; intro A3 c3 w3 ho3 hb3 hg3)
  simp only [Nat.zero_add, List.nil_append] at ho3
  have hgw : Grows w w3 := Below.trans ((Grows.refl w).alloc (.cells #[] 5)) hb3
  have HO3 : Hid (w3.ownsRow w.heap.size 5 1 (.slice A3 l c3) l ((bs ++ List.replicate 0 0).map b8)) := by unfold Hid; rw [List.replicate_zero, List.append_nil]; exact ho3
  clear HH ho3 hb3 hg3
  try simp only [Nat.zero_add]
  go_loopw [3] (fun v wr => ∃ (k n : Nat) (C : Option Addr) (e : Nat), k ≤ padN l ∧ Hid (n = l + k) ∧ v = .slice C n e ∧ Grows w wr ∧ Hid (wr.ownsRow w.heap.size 5 1 (.slice C n e) n ((bs ++ List.replicate k 0).map b8))) (fun v _ => (l + 16) - lenV v)
  case atStart => exact ⟨0, l, A3, c3, Nat.zero_le _, lib_hid rfl, rfl, hgw, HO3⟩
  case round =>
    clear HO3 hgw
    obtain ⟨k, n, C, e, hk, Hn, rfl, hgr, HO⟩ := hrel
    have hnb : n ≤ 1000016 := by have := HP.out.1; have := Hn.out; omega
    have Hk := lib_hid hk
    obtain ⟨r, hr, Hr, hr16⟩ : ∃ r : Nat, (n : Int).tmod 16 = (r : Int) ∧ Hid (n % 16 = r) ∧ (r : Int) < 16 := ⟨n % 16, by rw [Int.tmod_eq_emod_of_nonneg (by omega)]; omega, lib_hid rfl, by omega⟩
    clear hk
    by_cases h0 : r = 0
    · have Hke : Hid (k = padN l) := HP.out.2.2 k Hk.out (by have := Hr.out; have := Hn.out; omega)
      have h0' : (r : Int) = 0 := by omega
      rw [h0'] at hr
      go_wp2
      go_ret
      have h := HO.out
      rw [Hke.out] at h
      exact newB_mk rfl (by rw [List.length_append, List.length_replicate, hbl.out, Hn.out, Hke.out]) hgr h
    · have h0' : ¬ (r : Int) = 0 := by omega
      have hk1 : k + 1 ≤ padN l := by
        have h1 : k ≠ padN l := fun e => by
          have h2 := HP.out.2.1
          have := Hr.out
          have := Hn.out
          rw [← e] at h2
          omega
        have := Hk.out
        omega
      have HO' := lib_hid (own_grows HO.out ((Grows.refl wr).alloc (.cells #[.int .u8 0] 5)))
      have H1 := lib_hid (one_rowP wr 5 0)
      have hle := hgr.le
      have hmx := own_max HO.out
      clear HO h0
      go_wp2_with (at_builtin; refine wpList_append rfl _ _ 22 rfl w.heap.size 5 (.int .u8 0) 1 Try.underlying22 Try.infoByte rfl _ n _ rfl HO'.out _ _ _ ([(0 : UInt8)].map b8) rfl H1.out (b8_one [0]) (by omega) (by omega) (by simp; omega) ?_; intro A4 c4 w4 ho4 hb4 hg4)
      have hgr4 : Grows w w4 := Below.trans (hgr.alloc (.cells #[.int .u8 0] 5)) hb4
      have HO4 : Hid (w4.ownsRow w.heap.size 5 1 (.slice A4 (n + 1) c4) (n + 1) ((bs ++ List.replicate (k + 1) 0).map b8)) := by
        unfold Hid
        rw [List.replicate_succ', ← List.append_assoc, List.map_append]
        exact ho4
      clear ho4 hb4 hg4
      go_roundw
      case rel => exact ⟨k + 1, n + 1, A4, c4, hk1, by unfold Hid; have := Hn.out; omega, rfl, hgr4, HO4⟩
      case measure => simp [lenV]; have := Hn.out; have := HP.out.1; have := Hk.out; omega

end Go.Proofs.Ytgolndfimhogoaa
