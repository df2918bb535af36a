/-
  The walk of AeadApart.
-/
import Derived.Test.YtgolndfimhogoaaAead6
import Derived.Test.YtgolndfimhogoaaOpenAead
import Derived.Test.YtgolndfimhogoaaLaw4c
import Derived.Deep.Cut
namespace Go.Proofs.Ytgolndfimhogoaa
open Go Go.RowKit
set_option linter.unusedSimpArgs false


theorem cryptF_getD (key nonce : List UInt8) (n : UInt32) (bs : List UInt8) (k : Nat) (h : k < bs.length) : (cryptF key nonce n bs).getD k 0 = bs.getD k 0 ^^^ (streamF key nonce n (k + 1)).getD k 0 := by
  have e : (streamF key nonce n bs.length)[k]? = (streamF key nonce n (k + 1))[k]? := by
    rw [← streamF_take key nonce n (k + 1) bs.length (by omega), List.getElem?_take, if_pos (by omega)]
  unfold cryptF xorF
  rw [List.getD_eq_getElem?_getD, List.getD_eq_getElem?_getD, List.getD_eq_getElem?_getD, List.getElem?_zipWith, e]
  have h2 : k < (streamF key nonce n (k + 1)).length := by rw [streamF_len]; omega
  rw [List.getElem?_eq_getElem h, List.getElem?_eq_getElem h2]
  rfl
theorem xor_mid (a b s : UInt8) : (a ^^^ s) ^^^ (b ^^^ s) = a ^^^ b := by
  rw [UInt8.xor_comm b s, ← UInt8.xor_assoc, UInt8.xor_assoc a s s, UInt8.xor_self, UInt8.xor_zero]
theorem sealF_getD (key nonce aad bs : List UInt8) (k : Nat) (h : k < bs.length) : (sealF key nonce aad bs).getD k 0 = bs.getD k 0 ^^^ (streamF key nonce 1 (k + 1)).getD k 0 := by
  rw [← cryptF_getD key nonce 1 bs k h]
  unfold sealF
  rw [List.getD_eq_getElem?_getD, List.getElem?_append_left (by rw [cryptF_len]; exact h), ← List.getD_eq_getElem?_getD]
theorem seal_apart (key nonce aad aad2 bs bs2 : List UInt8) (k : Nat) (h1 : k < bs.length) (h2 : k < bs2.length) :
    (sealF key nonce aad bs).getD k 0 ^^^ (sealF key nonce aad2 bs2).getD k 0 = bs.getD k 0 ^^^ bs2.getD k 0 := by
  rw [sealF_getD _ _ _ _ _ h1, sealF_getD _ _ _ _ _ h2, xor_mid]

set_option maxRecDepth 100000 in
set_option maxHeartbeats 4000000 in
theorem walk_AeadApart (key nonce aad : List UInt8) (D E A : Option Addr) (nk nn na c0 d0 c : Nat) (B : Option Addr) (m d : Nat) (bs : List UInt8) (B2 : Option Addr) (m2 d2 : Nat) (bs2 : List UInt8) (w : World) (hk : SB w D nk c0 key) (hn : SB w E nn d0 nonce) (ha : SB w A na c aad) (hb : SB w B m d bs) (hb2 : SB w B2 m2 d2 bs2) :
    Calls Try.prog 7 #[.agg #[.slice D nk c0, .slice E nn d0, .slice A na c], .slice B m d, .slice B2 m2 d2] w fun e w' => e = .returned (.bool true) ∧ Below w.heap.size w w' := by
  obtain ⟨W0, HW0, hW0, hg0⟩ : ∃ W0 : World, Hid (W0 = w.alloc (.cells #[.slice D nk c0, .slice E nn d0, .slice A na c] 24)) ∧ W0.heap.size = w.heap.size + 1 ∧ Grows w W0 := ⟨_, lib_hid rfl, by simp, (Grows.refl w).alloc _⟩
  have HB : Hid (Blk W0 w.heap.size 24 #[.slice D nk c0, .slice E nn d0, .slice A na c]) := by unfold Hid; rw [HW0.out]; exact Blk.new _ _ _
  have HC : Hid (∀ W, Grows W0 W → W.cell? ⟨w.heap.size, 0, none⟩ = some (.slice D nk c0) ∧ W.cell? ⟨w.heap.size, 1, none⟩ = some (.slice E nn d0) ∧ W.cell? ⟨w.heap.size, 2, none⟩ = some (.slice A na c)) :=
    fun W hW => ⟨(HB.out.grows hW).cell 0, (HB.out.grows hW).cell 1, (HB.out.grows hW).cell 2⟩
  have HW0' := HW0.out
  have Hsh : Hid (∀ W, Calls Try.prog 8 #[.agg #[.slice D nk c0, .slice E nn d0, .slice A na c]] W fun e w' => e = .returned (.bool (decide (nk ≤ 100 ∧ nn ≤ 100 ∧ na ≤ 200))) ∧ Grows W w') := fun W => short11_any D E A nk nn na c0 d0 c W
  have Hwr : Hid (∀ W, Calls Try.prog 10 #[.agg #[.slice D nk c0, .slice E nn d0, .slice A na c]] W fun e w' => e = .returned (.int .i64 (if nk ≠ 32 then 5 else if nn ≠ 12 then 6 else 0)) ∧ Grows W w') := fun W => wrong11_any D E A nk nn na c0 d0 c W
  by_cases hbig0 : (200 : Int) < m
  · clear hk hn ha
    go_enter Try.func7, Try.ntmps7
    go_upto_region 1 with fail
    rw [← HW0']
    clear HW0'
    go_wp2
    go_ret
    exact ⟨rfl, hg0⟩
  have hgd0 : ¬ (200 : Int) < m := by omega
  by_cases hbig1 : (200 : Int) < m2
  · clear hk hn ha
    go_enter Try.func7, Try.ntmps7
    go_upto_region 1 with fail
    rw [← HW0']
    clear HW0'
    go_wp2
    go_ret
    exact ⟨rfl, hg0⟩
  have hgd1 : ¬ (200 : Int) < m2 := by omega
  by_cases hsh : nk ≤ 100 ∧ nn ≤ 100 ∧ na ≤ 200
  · have hd : decide (nk ≤ 100 ∧ nn ≤ 100 ∧ na ≤ 200) = true := decide_eq_true hsh
    rw [hd] at Hsh
    by_cases hw : nk = 32 ∧ nn = 12
    · obtain ⟨rfl, rfl⟩ := hw
      have hna : na ≤ 200 := hsh.2.2
      rw [if_neg (by decide), if_neg (by decide)] at Hwr
      clear hd hsh
      have HK := lib_hid (hk.grows hg0)
      have HN := lib_hid (hn.grows hg0)
      have HA := lib_hid (ha.grows hg0)
      have HS := lib_hid (hb.grows hg0)
      have HS2 := lib_hid (hb2.grows hg0)
      have hbl := hb.len
      have hbl2 := hb2.len
      obtain ⟨s, Hs, sl⟩ : ∃ x, Hid (sealF key nonce aad bs = x) ∧ Hid (x.length = m + 16) := ⟨_, lib_hid rfl, by unfold Hid; rw [sealF_len, hbl]⟩
      obtain ⟨t, Ht, tl⟩ : ∃ x, Hid (sealF key nonce [] bs2 = x) ∧ Hid (x.length = m2 + 16) := ⟨_, lib_hid rfl, by unfold Hid; rw [sealF_len, hbl2]⟩
      have Hse : Hid (∀ W, Grows W0 W → Calls Try.prog 9 #[.slice D 32 c0, .slice E 12 d0, .slice A na c, .slice B m d] W (Res2 W s 0)) := fun W hW => by
        rw [← Hs.out]; exact seal_any key nonce aad bs D E c0 d0 A B na c m d W (HK.out.grows hW) (HN.out.grows hW) (HA.out.grows hW) (HS.out.grows hW) (by omega) (by omega)
      have Hse2 : Hid (∀ W, Grows W0 W → Calls Try.prog 9 #[.slice D 32 c0, .slice E 12 d0, .slice none 0 0, .slice B2 m2 d2] W (Res2 W t 0)) := fun W hW => by
        rw [← Ht.out]; exact seal_any key nonce [] bs2 D E c0 d0 none B2 0 0 m2 d2 W (HK.out.grows hW) (HN.out.grows hW) (SB.nil _) (HS2.out.grows hW) (by omega) (by omega)
      have Hsl : Hid (bs.length = m) := hbl
      have Hsl2 : Hid (bs2.length = m2) := hbl2
      have Hx : Hid (∀ k, k < m → k < m2 → s.getD k 0 ^^^ t.getD k 0 = bs.getD k 0 ^^^ bs2.getD k 0) := fun k h1 h2 => by
        rw [← Hs.out, ← Ht.out]; exact seal_apart key nonce aad [] bs bs2 k (by rw [hbl]; exact h1) (by rw [hbl2]; exact h2)
      clear hk hn ha hb hb2 hbl hbl2
      go_enter Try.func7, Try.ntmps7
      go_upto_region 1 with fail
      rw [← HW0']
      clear HW0'
      obtain ⟨t0, t1, t2⟩ := HC.out W0 (Grows.refl _)
      go_wp2_with fail
      refine (Hsh.out W0).mono ?_
      rintro e w1 ⟨rfl, hg1⟩
      obtain ⟨u0, u1, u2⟩ := HC.out w1 hg1
      clear t0 t1 t2
      go_wp2_with fail
      refine (Hwr.out w1).mono ?_
      rintro e w2 ⟨rfl, hg2⟩
      have hg02 := hg1.trans hg2
      clear hg1 hg2 u0 u1 u2
      obtain ⟨q0, q1, q2⟩ := HC.out w2 hg02
      go_wp2_with fail
      refine (Hse.out w2 hg02).mono ?_
      rintro e w3 ⟨A3, n3, c3, hn3, rfl, hg3, ho3⟩
      have HO3 : Hid (SB w3 A3 n3 c3 s) := ho3.row
      have hg03 := hg02.trans hg3
      obtain ⟨r0, r1, r2⟩ := HC.out w3 hg03
      have HN3 : Hid ((n3 : Int) = m + 16) := by unfold Hid; rw [hn3.out, sl.out]; omega
      clear ho3 hn3 hg3 q0 q1 q2
      go_wp2_with fail
      refine (Hse2.out w3 hg03).mono ?_
      rintro e w4 ⟨A4, n4, c4, hn4, rfl, hg4, ho4⟩
      have HO4 : Hid (SB w4 A4 n4 c4 t) := ho4.row
      have HO34 := lib_hid (HO3.out.grows hg4)
      have hg04 := hg03.trans hg4
      have HN4 : Hid ((n4 : Int) = m2 + 16) := by unfold Hid; rw [hn4.out, tl.out]; omega
      have HSa := lib_hid (HS.out.grows hg04)
      have HSb := lib_hid (HS2.out.grows hg04)
      clear ho4 hn4 hg4 r0 r1 r2 HO3
      have hn3 := HN3.out
      have hn4 := HN4.out
      have hgw := hg0.trans hg04
      clear hg02 hg03 hg04 hg0
      go_upto_region 7 with fail
      clear hn3 hn4
      go_wp2
      go_loopw [11] (fun i wr => ∃ k : Nat, k ≤ m ∧ k ≤ m2 ∧ i = .int .i64 k ∧ Grows w4 wr) (fun i _ => m - (intOf i).toNat)
      case atStart => exact ⟨0, Nat.zero_le _, Nat.zero_le _, rfl, Grows.refl _⟩
      case round =>
        obtain ⟨k, hk, hk2, rfl, hgr⟩ := hrel
        have hgwr := hgw.trans hgr
        rcases (by omega : (k < m ∧ k < m2) ∨ ¬ k < m ∨ (k < m ∧ ¬ k < m2)) with ⟨hlt, hlt2⟩ | hlt | ⟨hlt, hlt2⟩
        · have hki : (k : Int) < m := by omega
          have hki2 : (k : Int) < m2 := by omega
          have hk3 : (k : Int) < n3 := by have := HN3.out; omega
          have hk4 : (k : Int) < n4 := by have := HN4.out; omega
          obtain ⟨pb, po, rfl, _, ph⟩ := (HO34.out.grows hgr).at (by have := HN3.out; omega)
          obtain ⟨x3, Hx3, pc⟩ : ∃ v : UInt8, Hid (s.getD k 0 = v) ∧ wr.cell? ⟨pb, po + k, none⟩ = some (.int .u8 (v.toNat : Int)) := ⟨s[k]'(by rw [sl.out]; omega), by unfold Hid; rw [List.getD_eq_getElem?_getD, List.getElem?_eq_getElem]; rfl, ph k (by rw [sl.out]; omega)⟩
          clear ph
          obtain ⟨qb, qo, rfl, _, qh⟩ := (HO4.out.grows hgr).at (by have := HN4.out; omega)
          obtain ⟨x4, Hx4, qc⟩ : ∃ v : UInt8, Hid (t.getD k 0 = v) ∧ wr.cell? ⟨qb, qo + k, none⟩ = some (.int .u8 (v.toNat : Int)) := ⟨t[k]'(by rw [tl.out]; omega), by unfold Hid; rw [List.getD_eq_getElem?_getD, List.getElem?_eq_getElem]; rfl, qh k (by rw [tl.out]; omega)⟩
          clear qh
          obtain ⟨rb, ro, rfl, _, rh⟩ := (HSa.out.grows hgr).at (by omega)
          obtain ⟨x1, Hx1, rc⟩ : ∃ v : UInt8, Hid (bs.getD k 0 = v) ∧ wr.cell? ⟨rb, ro + k, none⟩ = some (.int .u8 (v.toNat : Int)) := ⟨bs[k]'(by rw [Hsl.out]; omega), by unfold Hid; rw [List.getD_eq_getElem?_getD, List.getElem?_eq_getElem]; rfl, rh k (by rw [Hsl.out]; omega)⟩
          clear rh
          obtain ⟨ub, uo, rfl, _, uh⟩ := (HSb.out.grows hgr).at (by omega)
          obtain ⟨x2, Hx2, uc⟩ : ∃ v : UInt8, Hid (bs2.getD k 0 = v) ∧ wr.cell? ⟨ub, uo + k, none⟩ = some (.int .u8 (v.toNat : Int)) := ⟨bs2[k]'(by rw [Hsl2.out]; omega), by unfold Hid; rw [List.getD_eq_getElem?_getD, List.getElem?_eq_getElem]; rfl, uh k (by rw [Hsl2.out]; omega)⟩
          clear uh
          have he := Hx.out k hlt hlt2
          rw [Hx1.out, Hx2.out, Hx3.out, Hx4.out] at he
          obtain ⟨z, hz1, hz2⟩ : ∃ z : UInt8, bits .xor .u8 (x3.toNat : Int) (x4.toNat : Int) = (z.toNat : Int) ∧ bits .xor .u8 (x1.toNat : Int) (x2.toNat : Int) = (z.toNat : Int) := ⟨_, u8_xor _ _, by rw [u8_xor, he]⟩
          clear he
          go_wp2
          go_region
          go_wp2
          go_roundw
          case rel => exact ⟨k + 1, by omega, by omega, by go_num, by first | exact hgr | exact hgr.drew | exact hgr.drewN _⟩
          case measure => simp [intOf]; omega
        · have hki : ¬ (k : Int) < m := by omega
          go_wp2_with fail
          refine (awake11_any wr).mono ?_
          rintro e w7 ⟨rfl, hg7⟩
          go_wp2
          go_ret
          exact ⟨rfl, hgwr.trans hg7⟩
        · have hki : (k : Int) < m := by omega
          have hki2 : ¬ (k : Int) < m2 := by omega
          go_wp2_with fail
          refine (awake11_any wr).mono ?_
          rintro e w7 ⟨rfl, hg7⟩
          go_wp2
          go_ret
          exact ⟨rfl, hgwr.trans hg7⟩
    · obtain ⟨z, hz, hz0⟩ : ∃ z : Int, (if nk ≠ 32 then 5 else if nn ≠ 12 then 6 else 0) = z ∧ (z != 0) = true := by
        by_cases h1 : nk = 32
        · have h2 : nn ≠ 12 := fun h => hw ⟨h1, h⟩
          exact ⟨6, by rw [if_neg (by omega), if_pos h2], by decide⟩
        · exact ⟨5, by rw [if_pos h1], by decide⟩
      rw [hz] at Hwr
      clear hd hz hw hsh hk hn ha
      go_enter Try.func7, Try.ntmps7
      go_upto_region 1 with fail
      rw [← HW0']
      clear HW0'
      obtain ⟨t0, t1, t2⟩ := HC.out W0 (Grows.refl _)
      go_wp2_with fail
      refine (Hsh.out W0).mono ?_
      rintro e w1 ⟨rfl, hg1⟩
      obtain ⟨u0, u1, u2⟩ := HC.out w1 hg1
      clear t0 t1 t2
      go_wp2_with fail
      refine (Hwr.out w1).mono ?_
      rintro e w2 ⟨rfl, hg2⟩
      go_wp2
      go_ret
      exact ⟨rfl, (hg0.trans hg1).trans hg2⟩
  · have hd : decide (nk ≤ 100 ∧ nn ≤ 100 ∧ na ≤ 200) = false := decide_eq_false hsh
    rw [hd] at Hsh
    clear hd hsh hk hn ha
    go_enter Try.func7, Try.ntmps7
    go_upto_region 1 with fail
    rw [← HW0']
    clear HW0'
    obtain ⟨t0, t1, t2⟩ := HC.out W0 (Grows.refl _)
    go_wp2_with fail
    refine (Hsh.out W0).mono ?_
    rintro e w1 ⟨rfl, hg1⟩
    go_wp2
    go_ret
    exact ⟨rfl, hg0.trans hg1⟩

end Go.Proofs.Ytgolndfimhogoaa
