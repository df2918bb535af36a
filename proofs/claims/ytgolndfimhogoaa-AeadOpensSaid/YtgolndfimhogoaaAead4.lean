/-
  The walk of Seal.
-/
import Derived.Test.YtgolndfimhogoaaAead2
namespace Go.Proofs.Ytgolndfimhogoaa
open Go Go.RowKit
set_option linter.unusedSimpArgs false


set_option maxRecDepth 100000 in
set_option maxHeartbeats 4000000 in
theorem seal_any (key nonce xs ys : List UInt8) (D E : Option Addr) (c0 d0 : Nat) (A B : Option Addr) (n c m d : Nat) (w : World) (hk : SB w D 32 c0 key) (hn : SB w E 12 d0 nonce) (ha : SB w A n c xs) (hb : SB w B m d ys) (hln : n ≤ 100000) (hlm : m ≤ 100000) :
    Calls Try.prog 9 #[.slice D 32 c0, .slice E 12 d0, .slice A n c, .slice B m d] w (Res2 w (sealF key nonce xs ys) 0) := by
  obtain ⟨W0, HW0, hW0, hg0⟩ : ∃ W0 : World, Hid (W0 = (w.alloc (.cells #[.slice A n c] 22)).alloc (.cells #[.slice B m d] 22)) ∧ W0.heap.size = w.heap.size + 2 ∧ Grows w W0 := ⟨_, lib_hid rfl, by simp, ((Grows.refl w).alloc _).alloc _⟩
  have hB1 : Blk W0 w.heap.size 22 #[.slice A n c] := by rw [HW0.out]; exact (Blk.new _ _ _).alloc _
  have hB2 : Blk W0 (w.heap.size + 1) 22 #[.slice B m d] := by
    rw [HW0.out]; have := Blk.new (w.alloc (.cells #[.slice A n c] 22)) 22 #[.slice B m d]; simpa using this
  have hkl := hk.len
  have hnl := hn.len
  have Hd := lib_hid (does_any 16 #[.pointer (some ⟨w.heap.size + 1, 0, none⟩), .pointer (some ⟨w.heap.size, 0, none⟩)] (sealF key nonce xs ys) 0 key nonce D E c0 d0 W0 (hk.grows hg0) (hn.grows hg0) (fun _ _ => rfl)
    (lib_hid (fun W hW => seal1_any key nonce xs ys hkl hnl A B n c m d (w.heap.size + 1) w.heap.size W (ha.grows (hg0.trans hW)) (hb.grows (hg0.trans hW)) hln hlm ((hB2.grows hW).cell 0) ((hB1.grows hW).cell 0) (hB2.grows hW).lt (hB1.grows hW).lt)))
  have HW0' := HW0.out
  clear hk hn ha hb hB1 hB2 hkl hnl hW0
  go_enter Try.func9, Try.ntmps9
  go_upto_region 1 with fail
  rw [← HW0']
  clear HW0'
  go_wp2_with fail
  refine Hd.out.mono ?_
  rintro e w1 ⟨A1, n1, c1, hn1, rfl, hg1, ho1⟩
  have HO1 := lib_hid ho1
  clear ho1
  go_wp2
  go_ret2
  exact ⟨A1, n1, c1, hn1, rfl, hg0.trans hg1, own_at_base HO1.out hg0.le⟩


end Go.Proofs.Ytgolndfimhogoaa
