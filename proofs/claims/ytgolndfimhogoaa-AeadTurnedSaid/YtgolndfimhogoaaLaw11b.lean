/-
  The walk of AeadTurned.
-/
import Derived.Test.YtgolndfimhogoaaAead6
import Derived.Test.YtgolndfimhogoaaOpenAead
import Derived.Deep.Cut
namespace Go.Proofs.Ytgolndfimhogoaa
open Go Go.RowKit
set_option linter.unusedSimpArgs false


theorem OwnAt.stored {w : World} {base : Nat} {A : Option Addr} {n c k : Nat} {xs : List Value} (h : OwnAt w base A n c xs) (hk : k < n) : ∃ g off, A = some ⟨g, off, none⟩ ∧ base ≤ g ∧ w.cell? ⟨g, off + k, none⟩ = xs[k]? ∧ w.frozen? ⟨g, off + k, none⟩ = false ∧
    ∀ u, OwnAt (w.setCell ⟨g, off + k, none⟩ u) base A n c (xs.set k u) := by
  obtain ⟨h1, h2, h3, h4⟩ := h
  rcases h4 with ⟨rfl, rfl⟩ | ⟨g, off, t, cur, rfl, hb, hg, hs, htake⟩
  · omega
  · refine ⟨g, off, rfl, hb, ?_, hg.frozen _, fun u => ⟨by simp [h1], h2, h3, .inr ⟨g, off, t, _, rfl, hb, hg.set _ u, by simp; omega, ?_⟩⟩⟩
    · rw [hg.cell, ← htake, List.getElem?_take, if_pos hk, List.getElem?_drop]
      simp
    · rw [← htake, Array.toList_setIfInBounds, List.drop_set, if_neg (by omega), show off + k - off = k by omega, List.take_set]

set_option maxRecDepth 100000 in
set_option maxHeartbeats 4000000 in
theorem walk_AeadTurned (key nonce aad : List UInt8) (D E A : Option Addr) (nk nn na c0 d0 c : Nat) (B : Option Addr) (m d : Nat) (bs : List UInt8) (bit : UInt8) (w : World) (hk : SB w D nk c0 key) (hn : SB w E nn d0 nonce) (ha : SB w A na c aad) (hb : SB w B m d bs) :
    Calls Try.prog 6 #[.agg #[.slice D nk c0, .slice E nn d0, .slice A na c], .slice B m d, .int .u8 bit.toNat] w fun e w' => e = .returned (.bool true) ∧ Below w.heap.size w w' := by
  obtain ⟨W0, HW0, hW0, hg0⟩ : ∃ W0 : World, Hid (W0 = w.alloc (.cells #[.slice D nk c0, .slice E nn d0, .slice A na c] 24)) ∧ W0.heap.size = w.heap.size + 1 ∧ Grows w W0 := ⟨_, lib_hid rfl, by simp, (Grows.refl w).alloc _⟩
  have HB : Hid (Blk W0 w.heap.size 24 #[.slice D nk c0, .slice E nn d0, .slice A na c]) := by unfold Hid; rw [HW0.out]; exact Blk.new _ _ _
  have HC : Hid (∀ W, Grows W0 W → W.cell? ⟨w.heap.size, 0, none⟩ = some (.slice D nk c0) ∧ W.cell? ⟨w.heap.size, 1, none⟩ = some (.slice E nn d0) ∧ W.cell? ⟨w.heap.size, 2, none⟩ = some (.slice A na c)) :=
    fun W hW => ⟨(HB.out.grows hW).cell 0, (HB.out.grows hW).cell 1, (HB.out.grows hW).cell 2⟩
  have HW0' := HW0.out
  have Hsh : Hid (∀ W, Calls Try.prog 8 #[.agg #[.slice D nk c0, .slice E nn d0, .slice A na c]] W fun e w' => e = .returned (.bool (decide (nk ≤ 100 ∧ nn ≤ 100 ∧ na ≤ 200))) ∧ Grows W w') := fun W => short11_any D E A nk nn na c0 d0 c W
  have Hwr : Hid (∀ W, Calls Try.prog 10 #[.agg #[.slice D nk c0, .slice E nn d0, .slice A na c]] W fun e w' => e = .returned (.int .i64 (if nk ≠ 32 then 5 else if nn ≠ 12 then 6 else 0)) ∧ Grows W w') := fun W => wrong11_any D E A nk nn na c0 d0 c W
  by_cases hb2 : (200 : Int) < m
  · clear hk hn ha
    go_enter Try.func6, Try.ntmps6
    go_upto_region 1 with fail
    rw [← HW0']
    clear HW0'
    go_wp2
    go_ret
    exact ⟨rfl, hg0⟩
  have hgd2 : ¬ (200 : Int) < m := by omega
  by_cases hsh : nk ≤ 100 ∧ nn ≤ 100 ∧ na ≤ 200
  · have hd : decide (nk ≤ 100 ∧ nn ≤ 100 ∧ na ≤ 200) = true := decide_eq_true hsh
    rw [hd] at Hsh
    by_cases hw : nk = 32 ∧ nn = 12
    · obtain ⟨rfl, rfl⟩ := hw
      have hna : na ≤ 200 := hsh.2.2
      rw [if_neg (by decide), if_neg (by decide)] at Hwr
      clear hd hsh
      have HK := lib_hid (hk.grows hg0)
      have HN := lib_hid (hn.grows hg0)
      have HA := lib_hid (ha.grows hg0)
      have HS := lib_hid (hb.grows hg0)
      have hbl := hb.len
      obtain ⟨s, Hs, sl⟩ : ∃ x, Hid (sealF key nonce aad bs = x) ∧ Hid (x.length = m + 16) := ⟨_, lib_hid rfl, by unfold Hid; rw [sealF_len, hbl]⟩
      have Hse : Hid (∀ W, Grows W0 W → Calls Try.prog 9 #[.slice D 32 c0, .slice E 12 d0, .slice A na c, .slice B m d] W (Res2 W s 0)) := fun W hW => by
        rw [← Hs.out]; exact seal_any key nonce aad bs D E c0 d0 A B na c m d W (HK.out.grows hW) (HN.out.grows hW) (HA.out.grows hW) (HS.out.grows hW) (by omega) (by omega)
      obtain ⟨n, hn1, hn2⟩ : ∃ n : Nat, (wrap64 (bit.toNat : Int)).tmod 128 = (n : Int) ∧ n < 128 := ⟨bit.toNat % 128, by
        have := u8_lt bit
        rw [show wrap64 (bit.toNat : Int) = bit.toNat by unfold wrap64; omega, Int.tmod_eq_emod_of_nonneg (by omega)]; omega, Nat.mod_lt _ (by omega)⟩
      obtain ⟨q, j, hq, hj, hq2, hj2⟩ : ∃ q j : Nat, (n : Int).tdiv 8 = (q : Int) ∧ (n : Int).tmod 8 = (j : Int) ∧ q < 16 ∧ j < 8 :=
        ⟨n / 8, n % 8, by rw [Int.tdiv_eq_ediv_of_nonneg (by omega)]; omega, by rw [Int.tmod_eq_emod_of_nonneg (by omega)]; omega, by omega, by omega⟩
      obtain ⟨k, hmq, Hk⟩ : ∃ k : Nat, (m : Int) + (q : Int) = (k : Int) ∧ Hid (k = m + q) := ⟨m + q, by omega, lib_hid rfl⟩
      obtain ⟨x, Hx⟩ : ∃ x, Hid (s.getD k 0 = x) := ⟨_, lib_hid rfl⟩
      obtain ⟨y, Hy0, hsh⟩ : ∃ y : UInt8, Hid (y ≠ 0) ∧ IntKind.u8.wrap (2 ^ j) = (y.toNat : Int) := ⟨1 <<< UInt8.ofNat j, lib_hid ((by decide : ∀ j : Fin 8, (1 : UInt8) <<< UInt8.ofNat j.val ≠ 0) ⟨j, hj2⟩), by
        have := u8_shl 1 j hj2
        rw [← this, show ((1 : UInt8).toNat : Int) = 1 from rfl, Int.one_mul]⟩
      obtain ⟨z, Hzz, hxz⟩ : ∃ z : UInt8, Hid (x ^^^ y = z) ∧ bits .xor .u8 (x.toNat : Int) (y.toNat : Int) = (z.toNat : Int) := ⟨_, lib_hid rfl, u8_xor x y⟩
      have Hne : Hid (z ≠ x) := fun h => Hy0.out (by
        rw [← Hzz.out] at h
        have h2 := congrArg (x ^^^ ·) h
        simpa [← UInt8.xor_assoc] using h2)
      obtain ⟨t, Ht, tl⟩ : ∃ v, Hid (s.set k z = v) ∧ Hid (v.length = m + 16) := ⟨_, lib_hid rfl, by unfold Hid; rw [List.length_set]; exact sl.out⟩
      have Hop : Hid (∀ (B' : Option Addr) (m' d' : Nat) W, Grows W0 W → SB W B' m' d' t → Calls Try.prog 13 #[.slice D 32 c0, .slice E 12 d0, .slice A na c, .slice B' m' d'] W (Res2 W [] 7)) := fun B' m' d' W hW h => by
        have h0 := open_any key nonce aad t D E c0 d0 A B' na c m' d' W (HK.out.grows hW) (HN.out.grows hW) (HA.out.grows hW) h (by omega) (by rw [← h.len, tl.out]; omega)
        have h1 := open_set key nonce aad bs q z hq2 (by rw [Hs.out, hbl, ← Hk.out, Hx.out]; exact Hne.out)
        rw [Hs.out, hbl, ← Hk.out, Ht.out] at h1
        rw [h1.1, h1.2] at h0
        exact h0
      have Hsx : Hid (s[k]? = some x) := by
        unfold Hid
        have hkl : k < s.length := by rw [sl.out, Hk.out]; omega
        rw [← Hx.out, List.getElem?_eq_getElem hkl, List.getD_eq_getElem?_getD, List.getElem?_eq_getElem hkl]; rfl
      have Hq2 : Hid (q < 16) := hq2
      clear hk hn ha hb hq2 hbl
      go_enter Try.func6, Try.ntmps6
      go_upto_region 1 with fail
      rw [← HW0']
      clear HW0'
      obtain ⟨t0, t1, t2⟩ := HC.out W0 (Grows.refl _)
      go_wp2_with fail
      refine (Hsh.out W0).mono ?_
      rintro e w1 ⟨rfl, hg1⟩
      obtain ⟨u0, u1, u2⟩ := HC.out w1 hg1
      clear t0 t1 t2
      go_wp2_with fail
      refine (Hwr.out w1).mono ?_
      rintro e w2 ⟨rfl, hg2⟩
      have hg02 := hg1.trans hg2
      clear hg1 hg2 u0 u1 u2
      obtain ⟨q0, q1, q2⟩ := HC.out w2 hg02
      go_wp2_with fail
      refine (Hse.out w2 hg02).mono ?_
      rintro e w3 ⟨A3, n3, c3, hn3, rfl, hg3, ho3⟩
      have HN3 : Hid (n3 = m + 16) := by unfold Hid; rw [hn3.out, sl.out]
      have hk3 : k < n3 := by rw [HN3.out, Hk.out]; have := Hq2.out; omega
      have hg03 := hg02.trans hg3
      have HM3 : Hid ((n3 : Int) = m + 16) := by unfold Hid; rw [HN3.out]; omega
      obtain ⟨g, off, rfl, hgb, hcell, hfr, hst⟩ := ho3.stored hk3
      rw [List.getElem?_map, Hsx.out] at hcell
      have c1 : w3.cell? ⟨g, off + k, none⟩ = some (b8 x) := hcell
      have hst2 := hst (b8 z)
      rw [← List.map_set, Ht.out] at hst2
      have HO5 := lib_hid hst2.row
      have hg5 : Grows w2 (w3.setCell ⟨g, off + k, none⟩ (b8 z)).drew := (Grows.setCell (p := ⟨g, off + k, none⟩) hg3 hgb _).drew
      have hki : (k : Int) < (n3 : Int) := by omega
      have hn3 := HM3.out
      clear ho3 hst hst2 hg3 hcell q0 q1 q2
      go_upto_region 7 with fail
      clear hn3 hn1
      have hq16 := Hq2.out

      go_region
      obtain ⟨W5, HW5⟩ : ∃ W : World, Hid (W = (w3.setCell ⟨g, off + k, none⟩ (b8 z)).drew) := ⟨_, lib_hid rfl⟩
      rw [show (Value.int IntKind.u8 (z.toNat : Int)) = b8 z from rfl, ← HW5.out]
      rw [← HW5.out] at hg5
      have HC5 : Hid (SB W5 (some ⟨g, off, none⟩) n3 c3 t) := by have := HO5.out; rw [HW5.out]; exact this
      have hg05 : Grows W0 W5 := hg02.trans hg5
      obtain ⟨r0, r1, r2⟩ := HC.out W5 hg05
      clear c1 hfr HO5 hg5
      go_wp2_with fail
      refine (Hop.out _ n3 c3 W5 hg05 HC5.out).mono ?_
      rintro e w6 ⟨A6, n6, c6, hn6, rfl, hg6, ho6⟩
      obtain rfl : n6 = 0 := hn6.out
      clear ho6 r0 r1 r2
      go_wp2_with fail
      refine (awake11_any w6).mono ?_
      rintro e w7 ⟨rfl, hg7⟩
      go_wp2
      go_ret
      exact ⟨rfl, (hg0.trans hg05).trans (hg6.trans hg7)⟩
    · obtain ⟨z, hz, hz0⟩ : ∃ z : Int, (if nk ≠ 32 then 5 else if nn ≠ 12 then 6 else 0) = z ∧ (z != 0) = true := by
        by_cases h1 : nk = 32
        · have h2 : nn ≠ 12 := fun h => hw ⟨h1, h⟩
          exact ⟨6, by rw [if_neg (by omega), if_pos h2], by decide⟩
        · exact ⟨5, by rw [if_pos h1], by decide⟩
      rw [hz] at Hwr
      clear hd hz hw hsh hk hn ha
      go_enter Try.func6, Try.ntmps6
      go_upto_region 1 with fail
      rw [← HW0']
      clear HW0'
      obtain ⟨t0, t1, t2⟩ := HC.out W0 (Grows.refl _)
      go_wp2_with fail
      refine (Hsh.out W0).mono ?_
      rintro e w1 ⟨rfl, hg1⟩
      obtain ⟨u0, u1, u2⟩ := HC.out w1 hg1
      clear t0 t1 t2
      go_wp2_with fail
      refine (Hwr.out w1).mono ?_
      rintro e w2 ⟨rfl, hg2⟩
      go_wp2
      go_ret
      exact ⟨rfl, (hg0.trans hg1).trans hg2⟩
  · have hd : decide (nk ≤ 100 ∧ nn ≤ 100 ∧ na ≤ 200) = false := decide_eq_false hsh
    rw [hd] at Hsh
    clear hd hsh hk hn ha
    go_enter Try.func6, Try.ntmps6
    go_upto_region 1 with fail
    rw [← HW0']
    clear HW0'
    obtain ⟨t0, t1, t2⟩ := HC.out W0 (Grows.refl _)
    go_wp2_with fail
    refine (Hsh.out W0).mono ?_
    rintro e w1 ⟨rfl, hg1⟩
    go_wp2
    go_ret
    exact ⟨rfl, hg0.trans hg1⟩

end Go.Proofs.Ytgolndfimhogoaa
