/-
  The walks of chacha.Stream and Crypt.
-/
import Derived.Test.YtgolndfimhogoaaChacha3
import Derived.Test.YtgolndfimhogoaaBits3
import Derived.Deep.Cut
namespace Go.Proofs.Ytgolndfimhogoaa
open Go Go.RowKit
set_option linter.unusedSimpArgs false


def strN (key nonce : List UInt8) (n : UInt32) : Nat → List UInt8
  | 0 => []
  | k + 1 => strN key nonce n k ++ blockC key nonce (n + UInt32.ofNat k)
theorem strN_len (key nonce : List UInt8) (n : UInt32) (k : Nat) : (strN key nonce n k).length = 64 * k := by
  induction k with
  | zero => rfl
  | succ k ih => rw [strN, List.length_append, ih, blockC_len]; omega
def streamF (key nonce : List UInt8) (n : UInt32) (m : Nat) : List UInt8 := (strN key nonce n ((m + 63) / 64)).take m
theorem streamF_len (key nonce : List UInt8) (n : UInt32) (m : Nat) : (streamF key nonce n m).length = m := by unfold streamF; rw [List.length_take, strN_len]; omega
def cryptF (key nonce : List UInt8) (n : UInt32) (bs : List UInt8) : List UInt8 := xorF bs (streamF key nonce n bs.length)
theorem cryptF_len (key nonce : List UInt8) (n : UInt32) (bs : List UInt8) : (cryptF key nonce n bs).length = bs.length := by unfold cryptF; rw [xorF_len, streamF_len]; omega

set_option maxRecDepth 100000 in
set_option maxHeartbeats 4000000 in
theorem stream_pos (key nonce : List UInt8) (n : UInt32) (m : Nat) (hk : key.length = 32) (hn : nonce.length = 12) (hm : m ≤ 100000) (w : World) :
    Calls Try.prog 34 #[.agg (key.map b8).toArray, .agg (nonce.map b8).toArray, b32 n, .int .i64 (m : Int)] w fun e w' => ∃ A c, e = .returned (.slice A m c) ∧ Grows w w' ∧ SB w' A m c (streamF key nonce n m) := by
  obtain ⟨W0, HW0, hW0, hg0⟩ : ∃ W0 : World, Hid (W0 = (w.alloc (.cells (key.map b8).toArray 37)).alloc (.cells (nonce.map b8).toArray 38)) ∧ W0.heap.size = w.heap.size + 2 ∧ Grows w W0 := ⟨_, lib_hid rfl, by simp, ((Grows.refl w).alloc _).alloc _⟩
  have HB0 : Hid (Blk W0 w.heap.size 37 (key.map b8).toArray) := by
    unfold Hid; rw [HW0.out]; have := (Blk.new (w) 37 (key.map b8).toArray).alloc (.cells (nonce.map b8).toArray 38); simpa using this
  have HB1 : Hid (Blk W0 (w.heap.size + 1) 38 (nonce.map b8).toArray) := by
    unfold Hid; rw [HW0.out]; have := Blk.new (w.alloc (.cells (key.map b8).toArray 37)) 38 (nonce.map b8).toArray; simpa using this
  have keyl := lib_hid hk
  have noncel := lib_hid hn
  have hmx : max (m : Int) 0 = (m : Int) := by omega
  have HW0' := HW0.out
  obtain ⟨N, hN, HN, hNl⟩ : ∃ N : Nat, ((m : Int) + 64 - 1).tdiv 64 = (N : Int) ∧ Hid ((m + 63) / 64 = N) ∧ N ≤ 2000 := ⟨(m + 63) / 64, by rw [Int.tdiv_eq_ediv_of_nonneg (by omega)]; omega, lib_hid rfl, by omega⟩
  have Hb : Hid (∀ (x : UInt32) W, Calls Try.prog 24 #[.agg (key.map b8).toArray, .agg (nonce.map b8).toArray, b32 x] W fun e w' => e = .returned (.agg ((blockC key nonce x).map b8).toArray) ∧ Grows W w') := fun x W => blockc_any key nonce x hk hn W
  clear hk hn
  go_enter Try.func34, Try.ntmps34
  go_upto_region 2 with fail
  rw [← HW0']
  clear HW0'
  go_wp2_with fail
  go_loopw [9, 10, 11, 18] (fun o _ _ i wr => ∃ (k : Nat) (A : Option Addr) (c : Nat), k ≤ N ∧ i = .int .i64 k ∧ o = .slice A (64 * k) c ∧ Grows W0 wr ∧ Hid (wr.ownsRow W0.heap.size 5 1 (.slice A (64 * k) c) (64 * k) ((strN key nonce n k).map b8))) (fun _ _ _ i _ => N - (intOf i).toNat)
  case atStart => exact ⟨0, none, 0, by omega, rfl, rfl, Grows.refl _, World.ownsRow_nil _ _ _ _⟩
  case round =>
    obtain ⟨k, A, c, hk, rfl, rfl, hgr, hO⟩ := hrel
    by_cases hlt : k < N
    · obtain ⟨ik, Hik, hik⟩ : ∃ x : UInt32, Hid (UInt32.ofNat k = x) ∧ IntKind.u32.wrap (k : Int) = (x.toNat : Int) := ⟨_, lib_hid rfl, u32_wrap_nat k⟩
      obtain ⟨nk, Hnk, hnk⟩ : ∃ x : UInt32, Hid (n + ik = x) ∧ IntKind.u32.wrap ((n.toNat : Int) + (ik.toNat : Int)) = (x.toNat : Int) := ⟨_, lib_hid rfl, u32_wrap_add _ _⟩
      obtain ⟨blk, Hblk, hbl⟩ : ∃ l, Hid (blockC key nonce nk = l) ∧ l.length = 64 := ⟨_, lib_hid rfl, blockC_len _ _ _⟩
      have Hstep : Hid (strN key nonce n (k + 1) = strN key nonce n k ++ blk) := by unfold Hid; rw [strN, Hik.out, Hnk.out, Hblk.out]
      obtain ⟨res, Hres, hrl, hra⟩ : ∃ r : Array Value, Hid ((blk.map b8).toArray = r) ∧ r.size = 64 ∧ r.all (·.oneCell') = true := ⟨_, lib_hid rfl, by simp [hbl], cells_all _⟩
      have hA := HB0.out.grows hgr
      have hBn := HB1.out.grows hgr
      go_wp2_with (first
        | (refine wpList_load_blk rfl _ _ rfl w.heap.size rfl 37 (key.map b8).toArray _ hA Try.underlying37 rfl (by rw [Try.size32]; simp [keyl.out]) ?_)
        | (refine wpList_load_blk rfl _ _ rfl (w.heap.size + 1) rfl 38 (nonce.map b8).toArray _ hBn Try.underlying38 rfl (by rw [Try.size12]; simp [noncel.out]) ?_))
      refine (Hb.out nk wr).mono ?_
      rintro e w1 ⟨rfl, hg1⟩
      rw [Hblk.out, Hres.out]
      have hO1 := own_grows hO.out hg1
      have hgr1 := hgr.trans hg1
      clear hA hBn hO hgr hg1
      go_upto_region 7 with (refine wpList_store_blk rfl _ _ _ rfl w1.heap.size res rfl rfl 48 _ (Blk.new _ _ _) (by rw [Try.size64, hrl]) (by simp [hrl]) hra w1.heap.size w1 ((Grows.refl w1).alloc _) (Nat.le_refl _) ?_; intro w2 H7 hb2 hg2)
      have hO2 := lib_hid (own_grows hO1 hb2)
      have hgr2 : Grows W0 w2 := hgr1.trans hb2
      have hrow : Row w2 (some ⟨w1.heap.size, 0, none⟩) 64 64 (blk.map b8) := by
        have := H7.row (o := 0) (n := 64) (c := 64) (Nat.le_refl _) (by omega) (by unfold maxLen; omega)
        rw [← Hres.out] at this
        simpa [List.take_of_length_le (show (blk.map b8).length ≤ 64 by simp [hbl])] using this
      have Hrow := lib_hid hrow
      clear hg2 hO1 hgr1 hrow H7
      go_wp2_with (refine wpList_append rfl _ _ 22 rfl W0.heap.size 5 (.int .u8 0) 1 Try.underlying22 Try.infoByte rfl (.slice A (64 * k) c) (64 * k) ((strN key nonce n k).map b8) rfl hO2.out (some ⟨w1.heap.size, 0, none⟩) 64 64 (blk.map b8) rfl Hrow.out (b8_one _) (by omega) (by omega) hgr2.le ?_; intro A3 c3 w3 hO3 hb3 hg3)
      go_roundw
      case rel =>
        refine ⟨k + 1, A3, c3, by omega, by go_num, rfl, below_trans hgr2 ?_, ?_⟩
        · exact hb3.mono (Nat.le_refl _)
        · unfold Hid; rw [Hstep.out, List.map_append]; exact hO3
      case measure => simp [intOf]; omega
    · have HkN : Hid (k = N) := by unfold Hid; omega
      obtain ⟨A', c', e, hr, _⟩ := own_form hO.out
      cases e
      have hs : SB wr A (64 * k) c (strN key nonce n k) := hr
      have hcap := hs.cap
      have hm1 : m ≤ 64 * k := by rw [HkN.out, ← HN.out]; omega
      have hsb : SB wr A m c (streamF key nonce n m) := by
        unfold streamF
        rw [HN.out, ← HkN.out]
        exact hs.pre hm1
      have Hsb := lib_hid hsb
      have hmc : (m : Int) ≤ (c : Int) := by omega
      have hgw := hg0.trans hgr
      clear hs hr hsb hO
      go_wp2
      go_ret
      exact ⟨A, c, rfl, hgw, Hsb.out⟩

set_option maxRecDepth 100000 in
set_option maxHeartbeats 4000000 in
theorem stream_neg (key nonce : List UInt8) (n : UInt32) (many : Int) (hneg : many < 0) (w : World) :
    Calls Try.prog 34 #[.agg (key.map b8).toArray, .agg (nonce.map b8).toArray, b32 n, .int .i64 many] w fun e w' => ∃ A c, e = .returned (.slice A 0 c) ∧ Grows w w' ∧ SB w' A 0 c (streamF key nonce n 0) := by
  have h' : ¬ 0 ≤ many := by omega
  go_enter Try.func34, Try.ntmps34
  go_wp2
  go_loop [9, 10, 11, 18] (fun o _ _ i => i = .int .i64 0 ∧ o = .slice none 0 0) (fun _ _ _ _ => 0)
  case atStart => exact ⟨rfl, rfl⟩
  case round =>
    obtain ⟨rfl, rfl⟩ := hrel
    go_wp2
    go_ret
    exact ⟨none, 0, rfl, ((Grows.refl w).alloc _).alloc _, SB.nil _⟩
theorem stream_any (key nonce : List UInt8) (n : UInt32) (many : Int) (hk : key.length = 32) (hn : nonce.length = 12) (hm : many ≤ 100000) (w : World) :
    Calls Try.prog 34 #[.agg (key.map b8).toArray, .agg (nonce.map b8).toArray, b32 n, .int .i64 many] w fun e w' => ∃ A c, e = .returned (.slice A many.toNat c) ∧ Grows w w' ∧ SB w' A many.toNat c (streamF key nonce n many.toNat) := by
  rcases Int.lt_or_le many 0 with h | h
  · rw [show many.toNat = 0 by omega]
    exact stream_neg key nonce n many h w
  · obtain ⟨m, rfl⟩ := Int.eq_ofNat_of_zero_le h
    exact stream_pos key nonce n m hk hn (by omega) w

set_option maxRecDepth 100000 in
set_option maxHeartbeats 4000000 in
theorem crypt_any (key nonce : List UInt8) (n : UInt32) (A : Option Addr) (l c : Nat) (bs : List UInt8) (hk : key.length = 32) (hn : nonce.length = 12) (w : World) (hs : SB w A l c bs) (hl : l ≤ 100000) :
    Calls Try.prog 23 #[.agg (key.map b8).toArray, .agg (nonce.map b8).toArray, b32 n, .slice A l c] w (NewB 5 w (cryptF key nonce n bs)) := by
  obtain ⟨W0, HW0, hW0, hg0⟩ : ∃ W0 : World, Hid (W0 = (w.alloc (.cells (key.map b8).toArray 37)).alloc (.cells (nonce.map b8).toArray 38)) ∧ W0.heap.size = w.heap.size + 2 ∧ Grows w W0 := ⟨_, lib_hid rfl, by simp, ((Grows.refl w).alloc _).alloc _⟩
  have HB0 : Hid (Blk W0 w.heap.size 37 (key.map b8).toArray) := by
    unfold Hid; rw [HW0.out]; have := (Blk.new (w) 37 (key.map b8).toArray).alloc (.cells (nonce.map b8).toArray 38); simpa using this
  have HB1 : Hid (Blk W0 (w.heap.size + 1) 38 (nonce.map b8).toArray) := by
    unfold Hid; rw [HW0.out]; have := Blk.new (w.alloc (.cells (key.map b8).toArray 37)) 38 (nonce.map b8).toArray; simpa using this
  have keyl := lib_hid hk
  have noncel := lib_hid hn
  have hlen := hs.len
  have Hc : Hid (cryptF key nonce n bs = xorF bs (streamF key nonce n l)) := by unfold Hid cryptF; rw [hlen]
  have Hst : Hid (∀ W, Calls Try.prog 34 #[.agg (key.map b8).toArray, .agg (nonce.map b8).toArray, b32 n, .int .i64 (l : Int)] W fun e w' => ∃ A c, e = .returned (.slice A l c) ∧ Grows W w' ∧ SB w' A l c (streamF key nonce n l)) := fun W => stream_pos key nonce n l hk hn hl W
  have HS0 := lib_hid (hs.grows hg0)
  have HW0' := HW0.out
  clear hk hn hs
  go_enter Try.func23, Try.ntmps23
  go_upto_region 1 with fail
  rw [← HW0']
  clear HW0'
  go_wp2_with (first
    | (refine wpList_load_blk rfl _ _ rfl w.heap.size rfl 37 (key.map b8).toArray _ HB0.out Try.underlying37 rfl (by rw [Try.size32]; simp [keyl.out]) ?_)
    | (refine wpList_load_blk rfl _ _ rfl (w.heap.size + 1) rfl 38 (nonce.map b8).toArray _ HB1.out Try.underlying38 rfl (by rw [Try.size12]; simp [noncel.out]) ?_))
  refine (Hst.out W0).mono ?_
  rintro e w1 ⟨A1, c1, rfl, hg1, hs1⟩
  have HS1 := lib_hid hs1
  have HSb := lib_hid (HS0.out.grows hg1)
  clear hs1
  go_wp2_with fail
  refine (xor_any A A1 l c l c1 _ _ w1 HSb.out HS1.out (Or.inl (by omega))).mono ?_
  rintro e w2 ⟨A2, n2, c2, hn2, rfl, hg2, ho2⟩
  go_wp2
  go_ret
  refine ⟨A2, n2, c2, ?_, rfl, (hg0.trans hg1).trans hg2, ?_⟩
  · unfold Hid; rw [Hc.out]; exact hn2.out
  · rw [Hc.out]; exact own_base ho2 (Nat.le_trans hg0.le hg1.le)

end Go.Proofs.Ytgolndfimhogoaa
