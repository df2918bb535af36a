/-
  The walk of AeadBack.
-/
import Derived.Test.YtgolndfimhogoaaAead6
import Derived.Test.YtgolndfimhogoaaOpenAead
import Derived.Deep.Cut
namespace Go.Proofs.Ytgolndfimhogoaa
open Go Go.RowKit
set_option linter.unusedSimpArgs false


set_option maxRecDepth 100000 in
set_option maxHeartbeats 4000000 in
theorem walk_AeadBack (key nonce aad : List UInt8) (D E A : Option Addr) (nk nn na c0 d0 c : Nat) (B : Option Addr) (m d : Nat) (bs : List UInt8) (w : World) (hk : SB w D nk c0 key) (hn : SB w E nn d0 nonce) (ha : SB w A na c aad) (hb : SB w B m d bs) :
    Calls Try.prog 5 #[.agg #[.slice D nk c0, .slice E nn d0, .slice A na c], .slice B m d] w fun e w' => e = .returned (.bool true) ∧ Below w.heap.size w w' := by
  obtain ⟨W0, HW0, hW0, hg0⟩ : ∃ W0 : World, Hid (W0 = w.alloc (.cells #[.slice D nk c0, .slice E nn d0, .slice A na c] 24)) ∧ W0.heap.size = w.heap.size + 1 ∧ Grows w W0 := ⟨_, lib_hid rfl, by simp, (Grows.refl w).alloc _⟩
  have HB : Hid (Blk W0 w.heap.size 24 #[.slice D nk c0, .slice E nn d0, .slice A na c]) := by unfold Hid; rw [HW0.out]; exact Blk.new _ _ _
  have HC : Hid (∀ W, Grows W0 W → W.cell? ⟨w.heap.size, 0, none⟩ = some (.slice D nk c0) ∧ W.cell? ⟨w.heap.size, 1, none⟩ = some (.slice E nn d0) ∧ W.cell? ⟨w.heap.size, 2, none⟩ = some (.slice A na c)) :=
    fun W hW => ⟨(HB.out.grows hW).cell 0, (HB.out.grows hW).cell 1, (HB.out.grows hW).cell 2⟩
  have HW0' := HW0.out
  have Hsh : Hid (∀ W, Calls Try.prog 8 #[.agg #[.slice D nk c0, .slice E nn d0, .slice A na c]] W fun e w' => e = .returned (.bool (decide (nk ≤ 100 ∧ nn ≤ 100 ∧ na ≤ 200))) ∧ Grows W w') := fun W => short11_any D E A nk nn na c0 d0 c W
  have Hwr : Hid (∀ W, Calls Try.prog 10 #[.agg #[.slice D nk c0, .slice E nn d0, .slice A na c]] W fun e w' => e = .returned (.int .i64 (if nk ≠ 32 then 5 else if nn ≠ 12 then 6 else 0)) ∧ Grows W w') := fun W => wrong11_any D E A nk nn na c0 d0 c W
  by_cases hb2 : (200 : Int) < m
  · clear hk hn ha
    go_enter Try.func5, Try.ntmps5
    go_upto_region 1 with fail
    rw [← HW0']
    clear HW0'
    go_wp2
    go_ret
    exact ⟨rfl, hg0⟩
  have hgd2 : ¬ (200 : Int) < m := by omega
  by_cases hsh : nk ≤ 100 ∧ nn ≤ 100 ∧ na ≤ 200
  · have hd : decide (nk ≤ 100 ∧ nn ≤ 100 ∧ na ≤ 200) = true := decide_eq_true hsh
    rw [hd] at Hsh
    by_cases hw : nk = 32 ∧ nn = 12
    · obtain ⟨rfl, rfl⟩ := hw
      have hna : na ≤ 200 := hsh.2.2
      rw [if_neg (by decide), if_neg (by decide)] at Hwr
      clear hd hsh
      have HK := lib_hid (hk.grows hg0)
      have HN := lib_hid (hn.grows hg0)
      have HA := lib_hid (ha.grows hg0)
      have HS := lib_hid (hb.grows hg0)
      have hbl := hb.len
      obtain ⟨s, Hs, sl⟩ : ∃ x, Hid (sealF key nonce aad bs = x) ∧ Hid (x.length = m + 16) := ⟨_, lib_hid rfl, by unfold Hid; rw [sealF_len, hbl]⟩
      have Hse : Hid (∀ W, Grows W0 W → Calls Try.prog 9 #[.slice D 32 c0, .slice E 12 d0, .slice A na c, .slice B m d] W (Res2 W s 0)) := fun W hW => by
        rw [← Hs.out]; exact seal_any key nonce aad bs D E c0 d0 A B na c m d W (HK.out.grows hW) (HN.out.grows hW) (HA.out.grows hW) (HS.out.grows hW) (by omega) (by omega)
      have Hop : Hid (∀ (B' : Option Addr) (m' d' : Nat) W, Grows W0 W → SB W B' m' d' s → Calls Try.prog 13 #[.slice D 32 c0, .slice E 12 d0, .slice A na c, .slice B' m' d'] W (Res2 W bs 0)) := fun B' m' d' W hW h => by
        have := open_any key nonce aad s D E c0 d0 A B' na c m' d' W (HK.out.grows hW) (HN.out.grows hW) (HA.out.grows hW) h (by omega) (by rw [← h.len, sl.out]; omega)
        rw [← Hs.out, (open_sealF _ _ _ _).1, (open_sealF _ _ _ _).2] at this
        exact this
      clear hk hn ha hb
      go_enter Try.func5, Try.ntmps5
      go_upto_region 1 with fail
      rw [← HW0']
      clear HW0'
      obtain ⟨t0, t1, t2⟩ := HC.out W0 (Grows.refl _)
      go_wp2_with fail
      refine (Hsh.out W0).mono ?_
      rintro e w1 ⟨rfl, hg1⟩
      obtain ⟨u0, u1, u2⟩ := HC.out w1 hg1
      clear t0 t1 t2
      go_wp2_with fail
      refine (Hwr.out w1).mono ?_
      rintro e w2 ⟨rfl, hg2⟩
      have hg02 := hg1.trans hg2
      clear hg1 hg2 u0 u1 u2
      obtain ⟨q0, q1, q2⟩ := HC.out w2 hg02
      go_wp2_with fail
      refine (Hse.out w2 hg02).mono ?_
      rintro e w3 ⟨A3, n3, c3, hn3, rfl, hg3, ho3⟩
      have HO3 := lib_hid ho3.row
      have hg03 := hg02.trans hg3
      obtain ⟨r0, r1, r2⟩ := HC.out w3 hg03
      have HN3 : Hid ((n3 : Int) = m + 16) := by unfold Hid; rw [hn3.out, sl.out]; omega
      clear ho3 hn3 hg3 q0 q1 q2
      go_wp2_with fail
      refine (Hop.out A3 n3 c3 w3 hg03 HO3.out).mono ?_
      rintro e w4 ⟨A4, n4, c4, hn4, rfl, hg4, ho4⟩
      have HO4 : Hid (SB w4 A4 n4 c4 bs) := ho4.row
      have hg04 := hg03.trans hg4
      clear ho4 hn4 hg4 r0 r1 r2
      have cv1 := run_string_SB (P := Try.prog) Try.underlying22 Try.underlying5 Try.underlying9 HO4.out
      have cv2 := run_string_SB (P := Try.prog) Try.underlying22 Try.underlying5 Try.underlying9 (HS.out.grows hg04)
      have hn3 := HN3.out
      go_wp2_with fail
      refine (awake11_any w4).mono ?_
      rintro e w5 ⟨rfl, hg5⟩
      go_wp2
      go_ret
      exact ⟨rfl, (hg0.trans hg04).trans hg5⟩
    · obtain ⟨z, hz, hz0⟩ : ∃ z : Int, (if nk ≠ 32 then 5 else if nn ≠ 12 then 6 else 0) = z ∧ (z != 0) = true := by
        by_cases h1 : nk = 32
        · have h2 : nn ≠ 12 := fun h => hw ⟨h1, h⟩
          exact ⟨6, by rw [if_neg (by omega), if_pos h2], by decide⟩
        · exact ⟨5, by rw [if_pos h1], by decide⟩
      rw [hz] at Hwr
      clear hd hz hw hsh hk hn ha
      go_enter Try.func5, Try.ntmps5
      go_upto_region 1 with fail
      rw [← HW0']
      clear HW0'
      obtain ⟨t0, t1, t2⟩ := HC.out W0 (Grows.refl _)
      go_wp2_with fail
      refine (Hsh.out W0).mono ?_
      rintro e w1 ⟨rfl, hg1⟩
      obtain ⟨u0, u1, u2⟩ := HC.out w1 hg1
      clear t0 t1 t2
      go_wp2_with fail
      refine (Hwr.out w1).mono ?_
      rintro e w2 ⟨rfl, hg2⟩
      go_wp2
      go_ret
      exact ⟨rfl, (hg0.trans hg1).trans hg2⟩
  · have hd : decide (nk ≤ 100 ∧ nn ≤ 100 ∧ na ≤ 200) = false := decide_eq_false hsh
    rw [hd] at Hsh
    clear hd hsh hk hn ha
    go_enter Try.func5, Try.ntmps5
    go_upto_region 1 with fail
    rw [← HW0']
    clear HW0'
    obtain ⟨t0, t1, t2⟩ := HC.out W0 (Grows.refl _)
    go_wp2_with fail
    refine (Hsh.out W0).mono ?_
    rintro e w1 ⟨rfl, hg1⟩
    go_wp2
    go_ret
    exact ⟨rfl, hg0.trans hg1⟩

end Go.Proofs.Ytgolndfimhogoaa
