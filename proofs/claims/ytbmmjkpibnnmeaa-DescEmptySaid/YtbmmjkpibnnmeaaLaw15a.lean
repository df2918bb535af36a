/-
  The walk of DescCuts.
-/
import Derived.Test.YtbmmjkpibnnmeaaDesc2
import Derived.Test.YtbmmjkpibnnmeaaDesc5
import Derived.Test.YtbmmjkpibnnmeaaOpenSpan
import Derived.Deep.Cut
namespace Go.Proofs.Ytbmmjkpibnnmeaa
open Go Go.RowKit
set_option linter.unusedSimpArgs false


theorem row_own1 {base : Nat} {t : TypeId} {w : World} {A : Option Addr} {n c : Nat} {xs : List Value} (h : w.ownsRow base t 1 (.slice A n c) n xs) : Row w A n c xs := by
  obtain ⟨A', c', e, hr, _⟩ := own_form h
  cases e
  exact hr

/-- What is cut off, from the front. -/
def cutF : List (Int × Int) → Int → List (Int × Int)
  | [], _ => []
  | p :: l, n => if 0 < min p.2 n then (p.1, min p.2 n) :: cutF l (n - min p.2 n) else cutF l n
theorem cut_fold : ∀ (l : List (Int × Int)) (o : List (Int × Int)) (n : Int), (l.foldl cutStep (o, n)).1 = o ++ cutF l n
  | [], o, n => by simp [cutF]
  | p :: l, o, n => by
    rw [List.foldl_cons, cutStep, cutF]
    by_cases h : 0 < min p.2 n
    · rw [if_pos h, if_pos h, cut_fold]; simp
    · rw [if_neg h, if_neg h, cut_fold]
theorem cutT_eq (l : List (Int × Int)) (n : Int) : (cutT l n).1 = cutF l n := by unfold cutT; rw [cut_fold]; rfl
theorem cutF_mem : ∀ (l : List (Int × Int)) (n : Int), ∀ q ∈ cutF l n, 0 < q.2 ∧ ∃ p ∈ l, p.1 = q.1 ∧ q.2 ≤ p.2
  | [], n, q, h => by cases h
  | p :: l, n, q, h => by
    rw [cutF] at h
    split at h
    · rename_i h0
      rcases List.mem_cons.1 h with rfl | h
      · exact ⟨h0, p, by simp, rfl, by simp only; omega⟩
      · obtain ⟨h1, p', hp, h2⟩ := cutF_mem l _ q h
        exact ⟨h1, p', by simp [hp], h2⟩
    · obtain ⟨h1, p', hp, h2⟩ := cutF_mem l _ q h
      exact ⟨h1, p', by simp [hp], h2⟩
theorem cutF_len : ∀ (l : List (Int × Int)) (n : Int), (cutF l n).length ≤ l.length
  | [], n => Nat.le_refl _
  | p :: l, n => by
    rw [cutF]
    split
    · have := cutF_len l (n - min p.2 n); simp only [List.length_cons]; omega
    · have := cutF_len l n; simp only [List.length_cons]; omega
theorem placesF_cons (p : Int × Int) (l : List (Int × Int)) : placesF (p :: l) = spots p ++ placesF l := rfl
theorem spots_cut (x y n : Int) (h : 0 < min y n) : spots (x, min y n) = (spots (x, y)).take n.toNat := by
  unfold spots
  rw [← List.map_take, List.take_range]
  congr 2
  simp only
  omega
theorem cutF_places : ∀ (l : List (Int × Int)) (n : Int), placesF (cutF l n) = (placesF l).take n.toNat
  | [], n => by simp [cutF, placesF]
  | p :: l, n => by
    rw [cutF, placesF_cons, List.take_append]
    by_cases h : 0 < min p.2 n
    · rw [if_pos h, placesF_cons, cutF_places l]
      have e1 := spots_cut p.1 p.2 n h
      rw [e1, spots_len]
      congr 2
      omega
    · rw [if_neg h, cutF_places l]
      by_cases h2 : p.2 ≤ 0
      · have : spots p = [] := by unfold spots; rw [show p.2.toNat = 0 by omega]; rfl
        rw [this]; simp
      · rw [show n.toNat = 0 by omega]; simp

set_option maxRecDepth 100000 in
set_option maxHeartbeats 4000000 in
theorem walk_DescCuts (A : Option Addr) (N c : Nat) (l : List (Int × Int)) (n : Int) (w : World) (hs : SpanR w A N c l) (hn : -9223372036854775808 ≤ n ∧ n ≤ 9223372036854775807) :
    Calls Try.prog 3 #[.slice A N c, .int .i64 n] w fun e w' => e = .returned (.bool true) ∧ Below w.heap.size w w' := by
  obtain ⟨hn1, hn2⟩ := hn
  have HS := lib_hid hs
  have hll := lib_hid hs.len
  obtain ⟨r, Hr⟩ : ∃ r, Hid (smallB l = r) := ⟨_, lib_hid rfl⟩
  have Hsm : Hid (Calls Try.prog 12 #[.slice A N c] w fun e w' => e = .returned (.bool r) ∧ w = w') := by
    rw [← Hr.out]; exact small_any l A N c w hs
  clear hs
  cases r
  · go_enter Try.func3, Try.ntmps3
    go_wp2_with fail
    refine Hsm.out.mono ?_
    rintro e w1 ⟨rfl, rfl⟩
    go_wp2
    go_ret
    exact ⟨rfl, Grows.refl w⟩
  obtain ⟨h12, hok⟩ := smallB_le Hr.out
  have Hok := lib_hid hok
  have hN : N ≤ 12 := by rw [hll.out] at h12; exact h12
  obtain ⟨X, HX⟩ : ∃ X, Hid (cutF l n = X) := ⟨_, lib_hid rfl⟩
  have HX2 : Hid ((cutT l n).1 = X) := by unfold Hid; rw [cutT_eq]; exact HX.out
  have HXp : Hid (∀ q ∈ X, 0 < q.2 ∧ (0 ≤ q.1 ∧ q.1 < 2147483648 ∧ 0 ≤ q.2 ∧ q.2 ≤ 400)) := fun q hq => by
    rw [← HX.out] at hq
    obtain ⟨h1, p, hp, h2, h3⟩ := cutF_mem l n q hq
    have := hok p hp
    omega
  have hX12 : X.length ≤ 12 := by rw [← HX.out]; have := cutF_len l n; omega
  have hXl := lib_hid hX12
  have Hsp := lib_hid (spans15_any l A N c w HS.out (by omega))
  clear h12 hok hX12
  go_enter Try.func3, Try.ntmps3
  go_wp2_with fail
  refine Hsm.out.mono ?_
  rintro e w1 ⟨rfl, rfl⟩
  go_wp2_with fail
  refine Hsp.out.mono ?_
  rintro e w1 ⟨A1, n1, c1, hn1', rfl, hg1, ho1⟩
  have Hcut := lib_hid (cut_any l n A1 n1 c1 w1 (SpanR.own ho1) (by have := hn1'.out; have := hll.out; omega) hn1 hn2)
  rw [HX2.out] at Hcut
  clear ho1 hn1'
  go_wp2_with fail
  refine Hcut.out.mono ?_
  rintro e w2 ⟨A2, n2, c2, hn2', rfl, hg2, ho2⟩
  have HSX := lib_hid (SpanR.own ho2)
  have hn12 : n2 ≤ 12 := by have := hn2'.out; have := hXl.out; omega
  have hg02 := hg1.trans hg2
  have hcap := HSX.out.max
  unfold maxLen at hcap
  have hnc := HSX.out.cap
  clear ho2 Hcut hg1 hg2 Hsm Hsp
  go_wp2
  go_loopw [6, 7] (fun v i wr => ∃ (k : Nat) (C : Option Addr) (e : Nat), k ≤ n2 ∧ i = .int .i64 k ∧ v = .slice C k e ∧ Grows w2 wr ∧ Hid (wr.ownsRow w2.heap.size 29 2 (.slice C k e) k (flat (X.take k)))) (fun _ i _ => n2 - (intOf i).toNat)
  case atStart => exact ⟨0, none, 0, Nat.zero_le _, rfl, rfl, Grows.refl w2, lib_hid (by rw [List.take_zero]; exact World.ownsRow_nil _ _ _ _)⟩
  case round =>
    obtain ⟨k, C, e, hk, rfl, rfl, hgr, HO⟩ := hrel
    by_cases hlt : k < n2
    · have hki : (k : Int) < n2 := by omega
      obtain ⟨b, off, x, y, rfl, hb, hxy, hc1, hc2⟩ := HSX.out.at hlt
      have Htk : Hid (X.take (k + 1) = X.take k ++ [(x, y)]) := by unfold Hid; rw [List.take_add_one, hxy]; rfl
      have HC : Hid (∀ W, Grows wr W → W.cell? ⟨b, off + k * 2, none⟩ = some (.int .i64 x) ∧ W.cell? ⟨b, off + k * 2 + 1, none⟩ = some (.int .i64 y)) := fun W hW =>
        ⟨((hgr.trans hW).cell (p := ⟨b, off + k * 2, none⟩) hb).trans hc1, ((hgr.trans hW).cell (p := ⟨b, off + k * 2 + 1, none⟩) hb).trans hc2⟩
      have hy : ¬ y ≤ 0 := by have := (HXp.out _ (List.mem_of_getElem? hxy)).1; simp only at this; omega
      have HSz := lib_hid hgr.le
      obtain ⟨q1, q2⟩ := HC.out wr (Grows.refl _)
      clear hc1 hc2 hxy hb
      have hgr' := lib_hid hgr
      go_upto_region 10 with fail
      clear q1 q2 hy hki
      apply wp_region_mono 13 ((.is _, []) :: (.is _, []) :: (.is _, []) :: (.is _, []) :: (.is _, []) :: (.is _, []) :: (.is _, []) :: (.is _, []) :: (.is _, []) :: (.is _, []) :: (.is _, []) :: (.is _, []) :: (.pr (fun v W => ∃ g, v = .slice (some ⟨g, 0, none⟩) 1 1 ∧ Blk W g 29 #[iV x, iV y]), []) :: []) (by kernel_rfl) (by kernel_rfl)
      iterate 5
        apply Mono.is0
        · kernel_rfl
        · intro W hW
          go_wp2
          refine ⟨rfl, rfl, Grows.refl _, ?_⟩
          unfold Oper.valAt
          go_simp
          rfl
        intro k1 a1 hk1 ha1
        simp only [Nat.reduceAdd] at hk1
        simp only [Act.put, List.setIfInBounds_toArray, List.set_cons_succ, List.set_cons_zero] at ha1
        subst hk1 ha1
      apply Mono.is0
      · kernel_rfl
      · intro W hW
        obtain ⟨q1, q2⟩ := HC.out W hW
        go_wp2
        refine ⟨rfl, rfl, Grows.refl _, ?_⟩
        unfold Oper.valAt
        go_simp
        rfl
      intro k1 a1 hk1 ha1
      simp only [Nat.reduceAdd] at hk1
      simp only [Act.put, List.setIfInBounds_toArray, List.set_cons_succ, List.set_cons_zero] at ha1
      subst hk1 ha1
      iterate 4
        apply Mono.is0
        · kernel_rfl
        · intro W hW
          go_wp2
          refine ⟨rfl, rfl, Grows.refl _, ?_⟩
          unfold Oper.valAt
          go_simp
          rfl
        intro k1 a1 hk1 ha1
        simp only [Nat.reduceAdd] at hk1
        simp only [Act.put, List.setIfInBounds_toArray, List.set_cons_succ, List.set_cons_zero] at ha1
        subst hk1 ha1
      apply Mono.is0
      · kernel_rfl
      · intro W hW
        obtain ⟨q1, q2⟩ := HC.out W hW
        go_wp2
        refine ⟨rfl, rfl, Grows.refl _, ?_⟩
        unfold Oper.valAt
        go_simp
        rfl
      intro k1 a1 hk1 ha1
      simp only [Nat.reduceAdd] at hk1
      simp only [Act.put, List.setIfInBounds_toArray, List.set_cons_succ, List.set_cons_zero] at ha1
      subst hk1 ha1
      apply Mono.is0
      · kernel_rfl
      · intro W hW
        go_wp2
        refine ⟨rfl, rfl, Grows.refl _, ?_⟩
        unfold Oper.valAt
        go_simp
        rfl
      intro k1 a1 hk1 ha1
      simp only [Nat.reduceAdd] at hk1
      simp only [Act.put, List.setIfInBounds_toArray, List.set_cons_succ, List.set_cons_zero] at ha1
      subst hk1 ha1
      apply Mono.pr0
      · kernel_rfl
      · exact fun v W W' hW ⟨g, h1, h2⟩ => ⟨g, h1, h2.grows hW⟩
      · intro W hW 
        go_wp2
        exact ⟨rfl, rfl, (Grows.refl _).alloc _, _, rfl, Blk.new _ _ _⟩
      intro v12
      intro k1 a1 hk1 ha1
      simp only [Nat.reduceAdd] at hk1
      simp only [Act.put, List.setIfInBounds_toArray, List.set_cons_succ, List.set_cons_zero] at ha1
      subst hk1 ha1
      refine Mono.done ?_
      intro wm hgm
      simp only [allF, List.drop_succ_cons, List.drop_zero]
      intro g12
      obtain ⟨g, rfl, hg⟩ := g12
      have HG := lib_hid hg
      have HO1 := lib_hid (own_grows HO.out hgm)
      have hz : w2.heap.size ≤ wm.heap.size := Nat.le_trans HSz.out hgm.le
      clear hg HO
      go_wp2_with (at_builtin; refine wpList_append_pair (by kernel_rfl) _ _ 22 rfl w2.heap.size 29 (.agg #[.int .i64 0, .int .i64 0]) 16 Try.underlying22 Try.info29 rfl _ k e (X.take k) rfl HO1.out g 29 x y rfl HG.out (by omega) (by omega) hz ?_; intro A4 c4 w4 ho4 hb4 hg4)
      have hgr4 : Grows w2 w4 := Below.trans (hgr.trans hgm) hb4
      have HO4 : Hid (w4.ownsRow w2.heap.size 29 2 (.slice A4 (k + 1) c4) (k + 1) (flat (X.take (k + 1)))) := by
        unfold Hid; rw [Htk.out]; exact ho4
      clear ho4 hb4 hg4 HO1
      go_roundw
      case rel => exact ⟨k + 1, A4, c4, by omega, by go_num, rfl, hgr4, HO4⟩
      case measure => simp [intOf]; omega
    · have hki : ¬ (k : Int) < n2 := by omega
      have hkn : k = n2 := by omega
      have h := HO.out
      rw [show X.take k = X by rw [List.take_of_length_le]; have := hn2'.out; omega] at h
      have HP1 := lib_hid (places_any X C k e wr (SpanR.own h) (by omega) (fun q hq => (HXp.out q hq).2))
      have hg0r := hg02.trans hgr
      clear HO h hkn hlt
      go_wp2_with fail
      refine HP1.out.mono ?_
      rintro e3 w3 ⟨A3, n3, c3, hn3, rfl, hg3, ho3⟩
      have hg03 := hg0r.trans hg3
      have HR3 := lib_hid (row_own1 ho3)
      have HP2 := lib_hid (places_any l A N c w3 (HS.out.grows hg03) hN Hok.out)
      clear ho3 HP1
      go_wp2_with fail
      refine HP2.out.mono ?_
      rintro e4 w4 ⟨A4, n4, c4, hn4, rfl, hg4, ho4⟩
      have HR4 := lib_hid (row_own1 ho4)
      have HR3' := lib_hid (HR3.out.grows hg4)
      have hg04 := hg03.trans hg4
      have Hpl : Hid (placesF X = (placesF l).take n.toNat) := by unfold Hid; rw [← HX.out]; exact cutF_places l n
      have hlen : min (max n 0) (n4 : Int) = (n3 : Int) := by
        have h3 := hn3.out
        have h4 := hn4.out
        rw [Hpl.out, List.length_take, ← h4] at h3
        omega
      have hn34 : n3 ≤ n4 := by omega
      have hcap3 := HR3'.out.2.2.1
      have hcap4 := HR4.out.2.2.1
      unfold maxLen at hcap3 hcap4
      have hnc3 := HR3'.out.2.1
      have hnc4 := HR4.out.2.1
      have Hlen := lib_hid hlen
      clear ho4 HP2 HR3 hg3 hg4 hki hk hgr hg0r hg03 hn34
      go_wp2
      clear hlen
      have hn34 : n3 ≤ n4 := by have := Hlen.out; omega
      go_loopw [10] (fun i wr => ∃ k : Nat, k ≤ n3 ∧ i = .int .i64 k ∧ Grows w4 wr) (fun i _ => n3 - (intOf i).toNat)
      case atStart => exact ⟨0, Nat.zero_le _, rfl, Grows.refl w4⟩
      case round =>
        obtain ⟨j, hj, rfl, hgr⟩ := hrel
        by_cases hlt : j < n3
        · have hji : (j : Int) < n3 := by omega
          have hji4 : (j : Int) < n4 := by omega
          obtain ⟨b3, off3, rfl, hb3, hc3⟩ := HR3'.out.2.2.2.2 (by omega)
          obtain ⟨b4, off4, rfl, hb4, hc4⟩ := HR4.out.2.2.2.2 (by omega)
          obtain ⟨z, hz3, hz4⟩ : ∃ z, (placesF X)[j]? = some z ∧ (placesF l)[j]? = some z := by
            have hjX : j < (placesF X).length := by rw [← hn3.out]; exact hlt
            obtain ⟨z, h5⟩ : ∃ z, (placesF X)[j]? = some z := ⟨_, List.getElem?_eq_getElem hjX⟩
            refine ⟨z, h5, ?_⟩
            rw [Hpl.out, List.getElem?_take] at h5
            split at h5
            · exact h5
            · cases h5
          have HC : Hid (∀ W, Grows wr W → W.cell? ⟨b3, off3 + j, none⟩ = some (.int .i64 z) ∧ W.cell? ⟨b4, off4 + j, none⟩ = some (.int .i64 z)) := fun W hW =>
            ⟨((hgr.trans hW).cell (p := ⟨b3, off3 + j, none⟩) hb3).trans ((hc3 j hlt).trans (by rw [List.getElem?_map, hz3]; rfl)), ((hgr.trans hW).cell (p := ⟨b4, off4 + j, none⟩) hb4).trans ((hc4 j (by omega)).trans (by rw [List.getElem?_map, hz4]; rfl))⟩
          clear hb3 hb4 hc3 hc4 hz3 hz4
          go_upto_region 17 with fail
          apply wp_region_mono 9 ((.is _, []) :: (.is _, []) :: (.is _, []) :: (.is _, []) :: (.is _, []) :: (.is _, []) :: (.is _, []) :: (.is _, []) :: (.is (.bool false), []) :: []) (by kernel_rfl) (by kernel_rfl)
          iterate 3
            apply Mono.is0
            · kernel_rfl
            · intro W hW
              go_wp2
              refine ⟨rfl, rfl, Grows.refl _, ?_⟩
              unfold Oper.valAt
              go_simp
              rfl
            intro k1 a1 hk1 ha1
            simp only [Nat.reduceAdd] at hk1
            simp only [Act.put, List.setIfInBounds_toArray, List.set_cons_succ, List.set_cons_zero] at ha1
            subst hk1 ha1
          apply Mono.is0
          · kernel_rfl
          · intro W hW
            obtain ⟨q1, q2⟩ := HC.out W hW
            go_wp2
            refine ⟨rfl, rfl, Grows.refl _, ?_⟩
            unfold Oper.valAt
            go_simp
            rfl
          intro k1 a1 hk1 ha1
          simp only [Nat.reduceAdd] at hk1
          simp only [Act.put, List.setIfInBounds_toArray, List.set_cons_succ, List.set_cons_zero] at ha1
          subst hk1 ha1
          iterate 3
            apply Mono.is0
            · kernel_rfl
            · intro W hW
              go_wp2
              refine ⟨rfl, rfl, Grows.refl _, ?_⟩
              unfold Oper.valAt
              go_simp
              rfl
            intro k1 a1 hk1 ha1
            simp only [Nat.reduceAdd] at hk1
            simp only [Act.put, List.setIfInBounds_toArray, List.set_cons_succ, List.set_cons_zero] at ha1
            subst hk1 ha1
          apply Mono.is0
          · kernel_rfl
          · intro W hW
            obtain ⟨q1, q2⟩ := HC.out W hW
            go_wp2
            refine ⟨rfl, rfl, Grows.refl _, ?_⟩
            unfold Oper.valAt
            go_simp
            rfl
          intro k1 a1 hk1 ha1
          simp only [Nat.reduceAdd] at hk1
          simp only [Act.put, List.setIfInBounds_toArray, List.set_cons_succ, List.set_cons_zero] at ha1
          subst hk1 ha1
          apply Mono.is0
          · kernel_rfl
          · intro W hW 
            go_wp2
            refine ⟨rfl, rfl, Grows.refl _, ?_⟩
            unfold Oper.valAt
            go_simp
          intro k1 a1 hk1 ha1
          simp only [Nat.reduceAdd] at hk1
          simp only [Act.put, List.setIfInBounds_toArray, List.set_cons_succ, List.set_cons_zero] at ha1
          subst hk1 ha1
          refine Mono.done ?_
          intro wm hgm
          simp only [allF, List.drop_succ_cons, List.drop_nil]
          have hg5 := hgr.trans hgm
          clear HC hgr hgm
          go_wp2
          go_roundw
          case rel => exact ⟨j + 1, by omega, by go_num, hg5⟩
          case measure => simp [intOf]; omega
        · have hji : ¬ (j : Int) < n3 := by omega
          have HA := lib_hid (awake15_any wr)
          go_wp2_with fail
          refine HA.out.mono ?_
          rintro e w5 ⟨rfl, hg5⟩
          go_wp2
          go_ret
          exact ⟨rfl, (hg04.trans hgr).trans hg5⟩

end Go.Proofs.Ytbmmjkpibnnmeaa
