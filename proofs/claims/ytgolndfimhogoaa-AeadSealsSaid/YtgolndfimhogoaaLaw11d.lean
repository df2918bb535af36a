/-
  The walk of AeadSeals.
-/
import Derived.Test.YtgolndfimhogoaaAeadM
import Derived.Test.YtgolndfimhogoaaOpenAead
import Derived.Deep.Cut
namespace Go.Proofs.Ytgolndfimhogoaa
open Go Go.RowKit
set_option linter.unusedSimpArgs false
set_option linter.unusedVariables false

set_option maxRecDepth 100000 in
set_option maxHeartbeats 4000000 in
theorem walk_AeadSeals (key nonce aad : List UInt8) (D E A : Option Addr) (nk nn na c0 d0 c : Nat) (B : Option Addr) (m d : Nat) (bs : List UInt8) (w : World) (hk : SB w D nk c0 key) (hn : SB w E nn d0 nonce) (ha : SB w A na c aad) (hb : SB w B m d bs) :
    Calls Try.prog 3 #[.agg #[.slice D nk c0, .slice E nn d0, .slice A na c], .slice B m d] w fun e w' => e = .returned (.bool true) ∧ Below w.heap.size w w' := by
  obtain ⟨W0, HW0, hW0, hg0⟩ : ∃ W0 : World, Hid (W0 = w.alloc (.cells #[.slice D nk c0, .slice E nn d0, .slice A na c] 24)) ∧ W0.heap.size = w.heap.size + 1 ∧ Grows w W0 := ⟨_, lib_hid rfl, by simp, (Grows.refl w).alloc _⟩
  have HB : Hid (Blk W0 w.heap.size 24 #[.slice D nk c0, .slice E nn d0, .slice A na c]) := by unfold Hid; rw [HW0.out]; exact Blk.new _ _ _
  have HC : Hid (∀ W, Grows W0 W → W.cell? ⟨w.heap.size, 0, none⟩ = some (.slice D nk c0) ∧ W.cell? ⟨w.heap.size, 1, none⟩ = some (.slice E nn d0) ∧ W.cell? ⟨w.heap.size, 2, none⟩ = some (.slice A na c)) :=
    fun W hW => ⟨(HB.out.grows hW).cell 0, (HB.out.grows hW).cell 1, (HB.out.grows hW).cell 2⟩
  have HW0' := HW0.out
  have Hsh : Hid (∀ W, Calls Try.prog 8 #[.agg #[.slice D nk c0, .slice E nn d0, .slice A na c]] W fun e w' => e = .returned (.bool (decide (nk ≤ 100 ∧ nn ≤ 100 ∧ na ≤ 200))) ∧ Grows W w') := fun W => short11_any D E A nk nn na c0 d0 c W
  have Hwr : Hid (∀ W, Calls Try.prog 10 #[.agg #[.slice D nk c0, .slice E nn d0, .slice A na c]] W fun e w' => e = .returned (.int .i64 (if nk ≠ 32 then 5 else if nn ≠ 12 then 6 else 0)) ∧ Grows W w') := fun W => wrong11_any D E A nk nn na c0 d0 c W
  by_cases hbig : (200 : Int) < m
  · clear hk hn ha hb
    go_enter Try.func3, Try.ntmps3
    go_upto_region 1 with fail
    rw [← HW0']
    clear HW0'
    go_wp2
    go_ret
    exact ⟨rfl, hg0⟩
  have hgd : ¬ (200 : Int) < m := by omega
  by_cases hsh : nk ≤ 100 ∧ nn ≤ 100 ∧ na ≤ 200
  case neg =>
    have hd : decide (nk ≤ 100 ∧ nn ≤ 100 ∧ na ≤ 200) = false := decide_eq_false hsh
    rw [hd] at Hsh
    clear hd hsh hk hn ha hb
    go_enter Try.func3, Try.ntmps3
    go_upto_region 1 with fail
    rw [← HW0']
    clear HW0'
    obtain ⟨t0, t1, t2⟩ := HC.out W0 (Grows.refl _)
    go_wp2_with fail
    refine (Hsh.out W0).mono ?_
    rintro e w1 ⟨rfl, hg1⟩
    go_wp2
    go_ret
    exact ⟨rfl, hg0.trans hg1⟩
  have hd : decide (nk ≤ 100 ∧ nn ≤ 100 ∧ na ≤ 200) = true := decide_eq_true hsh
  rw [hd] at Hsh
  have hna : na ≤ 200 := hsh.2.2
  have HS := lib_hid (hb.grows hg0)
  have hbl := hb.len
  have hcm1 := hb.cap
  have hcm2 := hb.max
  unfold maxLen at hcm2
  by_cases hw : nk = 32 ∧ nn = 12
  · obtain ⟨rfl, rfl⟩ := hw
    rw [if_neg (by decide), if_neg (by decide)] at Hwr
    have HK := lib_hid (hk.grows hg0)
    have HN := lib_hid (hn.grows hg0)
    have HA := lib_hid (ha.grows hg0)
    obtain ⟨s, Hs⟩ : ∃ x, Hid (sealF key nonce aad bs = x) := ⟨_, lib_hid rfl⟩
    have Hse : Hid (∀ W, Grows W0 W → Calls Try.prog 9 #[.slice D 32 c0, .slice E 12 d0, .slice A na c, .slice B m d] W (Res2 W s 0)) := fun W hW => by
      rw [← Hs.out]; exact seal_any key nonce aad bs D E c0 d0 A B na c m d W (HK.out.grows hW) (HN.out.grows hW) (HA.out.grows hW) (HS.out.grows hW) (by omega) (by omega)
    have HRs : Hid (∀ W, Grows W0 W → Calls Try.prog 12 #[.slice D 32 c0, .slice E 12 d0, .slice A na c, .slice B m d] W (NewB 5 W s)) := fun W hW => by
      rw [← Hs.out]; exact refSeal_any D E A B c0 d0 na c m d key nonce aad bs W (HK.out.grows hW) (HN.out.grows hW) (HA.out.grows hW) (HS.out.grows hW) (by omega) (by omega)
    clear hk hn ha hb hd hsh hbl
    go_enter Try.func3, Try.ntmps3
    go_upto_region 1 with fail
    rw [← HW0']
    clear HW0'
    obtain ⟨t0, t1, t2⟩ := HC.out W0 (Grows.refl _)
    go_wp2_with fail
    refine (Hsh.out W0).mono ?_
    rintro e w1 ⟨rfl, hg1⟩
    obtain ⟨u0, u1, u2⟩ := HC.out w1 hg1
    clear t0 t1 t2
    go_wp2_with fail
    refine (Hse.out w1 hg1).mono ?_
    rintro e w2 ⟨A2, n2, c2, hn2, rfl, hg2, ho2⟩
    have HX : Hid (SB w2 A2 n2 c2 s) := ho2.row
    have hg02 := hg1.trans hg2
    obtain ⟨v0, v1, v2⟩ := HC.out w2 hg02
    clear ho2 hg1 hg2 u0 u1 u2
    go_wp2_with fail
    refine (Hwr.out w2).mono ?_
    rintro e w3 ⟨rfl, hg3⟩
    have hg03 := hg02.trans hg3
    have HX3 := lib_hid (HX.out.grows hg3)
    clear HX hn2 hg3 v0 v1 v2
    have HX := HX3
    clear HX3
    go_upto_region 7 with fail
    apply wp_region_mono 20 ((.is _, []) :: (.is _, []) :: (.is _, []) :: (.is _, []) :: (.is _, []) :: (.is _, []) :: (.is _, []) :: (.is _, []) :: (.is _, []) :: (.pr (fun v W => ∃ A n c, v = .slice A n c ∧ SB W A n c (s)), []) :: (.is _, [9]) :: (.is _, []) :: (.is _, []) :: (.is _, []) :: (.is _, []) :: (.is _, []) :: (.is _, []) :: (.is (.bool true), []) :: (.is _, []) :: (.is _, []) :: []) (by kernel_rfl) (by kernel_rfl)
    apply Mono.is0
    · kernel_rfl
    · intro W hW
      go_wp2
      refine ⟨rfl, rfl, Grows.refl _, ?_⟩
      unfold Oper.valAt
      go_simp
      rfl
    intro k1 a1 hk1 ha1
    simp only [Nat.reduceAdd] at hk1
    simp only [Act.put, List.setIfInBounds_toArray, List.set_cons_succ, List.set_cons_zero] at ha1
    subst hk1 ha1
    apply Mono.is0
    · kernel_rfl
    · intro W hW
      have cv := run_string_SB (P := Try.prog) Try.underlying22 Try.underlying5 Try.underlying9 (HX.out.grows hW)
      go_wp2
      refine ⟨rfl, rfl, Grows.refl _, ?_⟩
      unfold Oper.valAt
      go_simp
      rfl
    intro k1 a1 hk1 ha1
    simp only [Nat.reduceAdd] at hk1
    simp only [Act.put, List.setIfInBounds_toArray, List.set_cons_succ, List.set_cons_zero] at ha1
    subst hk1 ha1
    apply Mono.is0
    · kernel_rfl
    · intro W hW
      go_wp2
      refine ⟨rfl, rfl, Grows.refl _, ?_⟩
      unfold Oper.valAt
      go_simp
      rfl
    intro k1 a1 hk1 ha1
    simp only [Nat.reduceAdd] at hk1
    simp only [Act.put, List.setIfInBounds_toArray, List.set_cons_succ, List.set_cons_zero] at ha1
    subst hk1 ha1
    apply Mono.is0
    · kernel_rfl
    · intro W hW
      obtain ⟨q0, q1, q2⟩ := HC.out W (hg03.trans hW)
      go_wp2
      refine ⟨rfl, rfl, Grows.refl _, ?_⟩
      unfold Oper.valAt
      go_simp
      rfl
    intro k1 a1 hk1 ha1
    simp only [Nat.reduceAdd] at hk1
    simp only [Act.put, List.setIfInBounds_toArray, List.set_cons_succ, List.set_cons_zero] at ha1
    subst hk1 ha1
    apply Mono.is0
    · kernel_rfl
    · intro W hW
      go_wp2
      refine ⟨rfl, rfl, Grows.refl _, ?_⟩
      unfold Oper.valAt
      go_simp
      rfl
    intro k1 a1 hk1 ha1
    simp only [Nat.reduceAdd] at hk1
    simp only [Act.put, List.setIfInBounds_toArray, List.set_cons_succ, List.set_cons_zero] at ha1
    subst hk1 ha1
    apply Mono.is0
    · kernel_rfl
    · intro W hW
      obtain ⟨q0, q1, q2⟩ := HC.out W (hg03.trans hW)
      go_wp2
      refine ⟨rfl, rfl, Grows.refl _, ?_⟩
      unfold Oper.valAt
      go_simp
      rfl
    intro k1 a1 hk1 ha1
    simp only [Nat.reduceAdd] at hk1
    simp only [Act.put, List.setIfInBounds_toArray, List.set_cons_succ, List.set_cons_zero] at ha1
    subst hk1 ha1
    apply Mono.is0
    · kernel_rfl
    · intro W hW
      go_wp2
      refine ⟨rfl, rfl, Grows.refl _, ?_⟩
      unfold Oper.valAt
      go_simp
      rfl
    intro k1 a1 hk1 ha1
    simp only [Nat.reduceAdd] at hk1
    simp only [Act.put, List.setIfInBounds_toArray, List.set_cons_succ, List.set_cons_zero] at ha1
    subst hk1 ha1
    apply Mono.is0
    · kernel_rfl
    · intro W hW
      obtain ⟨q0, q1, q2⟩ := HC.out W (hg03.trans hW)
      go_wp2
      refine ⟨rfl, rfl, Grows.refl _, ?_⟩
      unfold Oper.valAt
      go_simp
      rfl
    intro k1 a1 hk1 ha1
    simp only [Nat.reduceAdd] at hk1
    simp only [Act.put, List.setIfInBounds_toArray, List.set_cons_succ, List.set_cons_zero] at ha1
    subst hk1 ha1
    apply Mono.is0
    · kernel_rfl
    · intro W hW
      go_wp2
      refine ⟨rfl, rfl, Grows.refl _, ?_⟩
      unfold Oper.valAt
      go_simp
      rfl
    intro k1 a1 hk1 ha1
    simp only [Nat.reduceAdd] at hk1
    simp only [Act.put, List.setIfInBounds_toArray, List.set_cons_succ, List.set_cons_zero] at ha1
    subst hk1 ha1
    apply Mono.pr0
    · kernel_rfl
    · exact fun v W W' hW ⟨A, n, c, h1, h2⟩ => ⟨A, n, c, h1, h2.grows hW⟩
    · intro W hW 
      go_wp2_with fail
      refine (HRs.out W (hg03.trans hW)).mono ?_
      rintro e w1 ⟨A1, n1, c1, hn1, rfl, hg1, ho1⟩
      go_wp2
      exact ⟨rfl, rfl, hg1, A1, n1, c1, rfl, SB.own ho1⟩
    intro v9
    intro k1 a1 hk1 ha1
    simp only [Nat.reduceAdd] at hk1
    simp only [Act.put, List.setIfInBounds_toArray, List.set_cons_succ, List.set_cons_zero] at ha1
    subst hk1 ha1
    apply Mono.is1
    · kernel_rfl
    · intro W hW f0
      obtain ⟨A1, n1, c1, rfl, hs⟩ := f0
      have cv := run_string_SB (P := Try.prog) Try.underlying22 Try.underlying5 Try.underlying9 hs
      go_wp2
      refine ⟨rfl, rfl, Grows.refl _, ?_⟩
      unfold Oper.valAt
      go_simp
      rfl
    intro k1 a1 hk1 ha1
    simp only [Nat.reduceAdd] at hk1
    simp only [Act.put, List.setIfInBounds_toArray, List.set_cons_succ, List.set_cons_zero] at ha1
    subst hk1 ha1
    iterate 6
      apply Mono.is0
      · kernel_rfl
      · intro W hW
        go_wp2
        refine ⟨rfl, rfl, Grows.refl _, ?_⟩
        unfold Oper.valAt
        go_simp
        rfl
      intro k1 a1 hk1 ha1
      simp only [Nat.reduceAdd] at hk1
      simp only [Act.put, List.setIfInBounds_toArray, List.set_cons_succ, List.set_cons_zero] at ha1
      subst hk1 ha1
    apply Mono.is0
    · kernel_rfl
    · intro W hW 
      go_wp2_with fail
      refine (awake11_any W).mono ?_
      rintro e w1 ⟨rfl, hg1⟩
      go_wp2
      exact ⟨rfl, rfl, hg1, rfl⟩
    intro k1 a1 hk1 ha1
    simp only [Nat.reduceAdd] at hk1
    simp only [Act.put, List.setIfInBounds_toArray, List.set_cons_succ, List.set_cons_zero] at ha1
    subst hk1 ha1
    iterate 2
      apply Mono.is0
      · kernel_rfl
      · intro W hW
        go_wp2
        refine ⟨rfl, rfl, Grows.refl _, ?_⟩
        unfold Oper.valAt
        go_simp
        rfl
      intro k1 a1 hk1 ha1
      simp only [Nat.reduceAdd] at hk1
      simp only [Act.put, List.setIfInBounds_toArray, List.set_cons_succ, List.set_cons_zero] at ha1
      subst hk1 ha1
    refine Mono.done ?_
    intro wm hgm
    simp only [allF, List.drop_succ_cons, List.drop_nil]
    intro g9
    go_wp2
    go_ret
    exact ⟨rfl, (hg0.trans hg03).trans hgm⟩
  · have hz : (if nk ≠ 32 then 5 else if nn ≠ 12 then 6 else 0) = (if nk ≠ 32 then (5 : Int) else 6) := by
      by_cases h1 : nk = 32
      · have h2 : nn ≠ 12 := fun h => hw ⟨h1, h⟩
        simp [h1, h2]
      · simp [h1]
    have Hse : Hid (∀ W, Grows W0 W → Calls Try.prog 9 #[.slice D nk c0, .slice E nn d0, .slice A na c, .slice B m d] W (Res2 W [] (if nk ≠ 32 then 5 else 6))) := fun W _ => seal_bad D E A B nk c0 nn d0 na c m d W hw
    rw [hz] at Hwr
    by_cases h1 : nk ≠ 32
    · rw [if_pos h1] at Hwr Hse
      clear hk hn ha hb hd hsh hbl hw hz h1
      go_enter Try.func3, Try.ntmps3
      go_upto_region 1 with fail
      rw [← HW0']
      clear HW0'
      obtain ⟨t0, t1, t2⟩ := HC.out W0 (Grows.refl _)
      go_wp2_with fail
      refine (Hsh.out W0).mono ?_
      rintro e w1 ⟨rfl, hg1⟩
      obtain ⟨u0, u1, u2⟩ := HC.out w1 hg1
      clear t0 t1 t2
      go_wp2_with fail
      refine (Hse.out w1 hg1).mono ?_
      rintro e w2 ⟨A2, n2, c2, hn2, rfl, hg2, ho2⟩
      have HX : Hid (SB w2 A2 n2 c2 []) := ho2.row
      have hg02 := hg1.trans hg2
      obtain ⟨v0, v1, v2⟩ := HC.out w2 hg02
      clear ho2 hg1 hg2 u0 u1 u2
      go_wp2_with fail
      refine (Hwr.out w2).mono ?_
      rintro e w3 ⟨rfl, hg3⟩
      have hg03 := hg02.trans hg3
      obtain rfl : n2 = 0 := hn2.out
      clear hn2 v0 v1 v2
      go_wp2_with fail
      refine (awake11_any w3).mono ?_
      rintro e w4 ⟨rfl, hg4⟩
      go_wp2
      go_ret
      exact ⟨rfl, (hg0.trans hg03).trans hg4⟩
    · rw [if_neg h1] at Hwr Hse
      clear hk hn ha hb hd hsh hbl hw hz h1
      go_enter Try.func3, Try.ntmps3
      go_upto_region 1 with fail
      rw [← HW0']
      clear HW0'
      obtain ⟨t0, t1, t2⟩ := HC.out W0 (Grows.refl _)
      go_wp2_with fail
      refine (Hsh.out W0).mono ?_
      rintro e w1 ⟨rfl, hg1⟩
      obtain ⟨u0, u1, u2⟩ := HC.out w1 hg1
      clear t0 t1 t2
      go_wp2_with fail
      refine (Hse.out w1 hg1).mono ?_
      rintro e w2 ⟨A2, n2, c2, hn2, rfl, hg2, ho2⟩
      have HX : Hid (SB w2 A2 n2 c2 []) := ho2.row
      have hg02 := hg1.trans hg2
      obtain ⟨v0, v1, v2⟩ := HC.out w2 hg02
      clear ho2 hg1 hg2 u0 u1 u2
      go_wp2_with fail
      refine (Hwr.out w2).mono ?_
      rintro e w3 ⟨rfl, hg3⟩
      have hg03 := hg02.trans hg3
      obtain rfl : n2 = 0 := hn2.out
      clear hn2 v0 v1 v2
      go_wp2_with fail
      refine (awake11_any w3).mono ?_
      rintro e w4 ⟨rfl, hg4⟩
      go_wp2
      go_ret
      exact ⟨rfl, (hg0.trans hg03).trans hg4⟩

end Go.Proofs.Ytgolndfimhogoaa
