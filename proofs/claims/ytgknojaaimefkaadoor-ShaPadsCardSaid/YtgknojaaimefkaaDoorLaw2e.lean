/-
  The walk of ShaPads.
-/
import Derived.Test.YtgknojaaimefkaaDoorLaw2d
import Derived.Deep.Cut
import Derived.BigRegion
import Derived.RegionTactic
import Derived.Outline
namespace Go.Proofs.YtgknojaaimefkaaDoor
open Go Go.RowKit
set_option linter.unusedSimpArgs false


attribute [local irreducible] startV schedF moreW firstW blockF roundsF sumsF outF outW padS sumS shaK wF outB
theorem run_sl_l {P : Program} {t e : TypeId} (ht : P.underlying t = some (.slice e)) (hs : (P.info? e).map (·.size) = some 1) (bk off n c lo : Nat) (l : Int) (hl : l = lo) (h1 : lo ≤ n) (h3 : lo < c) (W : World) :
    Sem.run P (Instr.slice t (.slice (some ⟨bk, off, none⟩) n c) (some (.int .i64 l)) none none) W = .ok (.slice (some ⟨bk, off + lo, none⟩) (n - lo) (c - lo)) W := by
  have e2 : P.elem t = e := by simp [Program.elem, ht]
  obtain ⟨i, hi', hi1⟩ := Option.map_eq_some_iff.1 hs
  have hz : (sizeOf e).run P W = .ok 1 W := by simp [sizeOf, typeInfo, hi', hi1]
  subst hl
  rw [run_slice_l (w := W) t (some ⟨bk, off, none⟩) n c (by rw [e2]; exact ht) .i64 lo (by omega) (by omega), e2, hz]
  simp only [Result.andThen_ok, sliced, Int.toNat_natCast, Nat.mul_one]
  rw [if_neg (by omega)]
  simp [add_zero_spot]
theorem bigF_step (xs : List UInt8) (c : UInt8) : bigF (xs ++ [c]) = 256 * bigF xs + c.toUInt64 := by
  rw [bigF_eq, bigF_eq, List.reverse_append, toU64_eq]
  show UInt64.ofNat (leN (c :: xs.reverse)) = _
  rw [leN, UInt64.ofNat_add, UInt64.ofNat_mul, UInt64.add_comm]
  rfl
theorem bigF_nil : bigF [] = 0 := rfl
theorem big_put8 (n : UInt64) : bigF (putBigF n 8) = n := by
  rw [bigF_eq, putBigF, List.reverse_reverse, leN_putLittle]
  have := u64_lt n
  rw [Nat.mod_eq_of_lt (by omega)]; simp
/-- The bytes of what is put behind. -/
theorem padS_first (n : Nat) : (padS n)[0]? = some 128 := by unfold padS; rfl
theorem padS_nought (n i : Nat) (h0 : 1 ≤ i) (h : i < padZ n + 1) : (padS n)[i]? = some 0 := by
  unfold padS
  obtain ⟨j, rfl⟩ : ∃ j, i = j + 1 := ⟨i - 1, by omega⟩
  rw [List.getElem?_append_left (by simp; omega), List.getElem?_cons_succ, List.getElem?_replicate, if_pos (by omega)]
theorem padS_tail (n j : Nat) : (padS n)[padZ n + 1 + j]? = (putBigF (8 * UInt64.ofNat n) 8)[j]? := by
  unfold padS
  rw [List.getElem?_append_right (by simp)]
  congr 1
  simp
theorem take_snoc {xs : List UInt8} {j : Nat} {x : UInt8} (h : xs[j]? = some x) : xs.take (j + 1) = xs.take j ++ [x] := by
  rw [List.take_add_one, h]; rfl
set_option maxRecDepth 100000 in
set_option maxHeartbeats 4000000 in
theorem walk_ShaPads {tK : TypeId} (nn : UInt16) (far : Int) (w : World) (HK : Hid (Blk w 0 tK (shaK.map b32).toArray)) (hfar : -9223372036854775808 ≤ far ∧ far ≤ 9223372036854775807) :
    Calls Tryd.prog 5 #[.int .u16 (nn.toNat : Int), .int .i64 far] w fun e w' => e = .returned (.bool true) ∧ Grows w w' := by
  have hnl : (nn.toNat : Int) < 65536 := by have := nn.toNat_lt; omega
  obtain ⟨k, hk, hk3⟩ : ∃ k : Nat, (nn.toNat : Int).tmod 3000 = (k : Int) ∧ k < 3000 := ⟨nn.toNat % 3000, by rw [Int.tmod_eq_emod_of_nonneg (by omega)]; omega, Nat.mod_lt _ (by omega)⟩
  obtain ⟨pk, Hpk, pkl⟩ : ∃ x : List UInt8, Hid (padS k = x) ∧ Hid (9 ≤ x.length) := ⟨_, lib_hid rfl, by unfold Hid; rw [padS_len]; omega⟩
  have HPk : Hid (∀ W, Calls Tryd.prog 20 #[.int .i64 (k : Int)] W (NewB 5 W pk)) := fun W => by rw [← Hpk.out]; exact pad_any k (by omega) W
  have HPd : Hid (∀ A c W, SB W A k c (List.replicate k 0) → Calls Tryd.prog 19 #[.slice A k c] W (NewB 5 W (List.replicate k 0 ++ pk))) := fun A c W h => by rw [← Hpk.out]; exact refPadded2_any _ A k c W h (by omega)
  have HCa : Hid (∀ W, Grows w W → Calls Tryd.prog 12 #[] W fun e w' => e = .returned (.bool true) ∧ Grows W w') := fun W hW => awake2_any W (HK.out.grows hW)
  clear HK Hpk
  go_enter Tryd.func5, Tryd.ntmps5
  go_wp2_with (at_make; refine wpList_make_blk rfl _ _ 22 rfl 5 (.int .u8 0) 1 Tryd.underlying22 Tryd.infoByte rfl .i64 .i64 k rfl rfl (by omega) (by omega) ?_; intro w1 hb1 hg1 hz1)
  have hS1 : SB w1 (some ⟨w.heap.size, 0, none⟩) k k (List.replicate k 0) := by
    have h5 : Blk w1 w.heap.size 5 ((List.replicate k (0 : UInt8)).map b8).toArray := by rw [List.map_replicate, ← List.toArray_replicate] at *; exact hb1
    have h6 := h5.part8 0 k k (Nat.le_refl _) (by simp) (by unfold maxLen; omega)
    simpa using h6
  have HP1 := lib_hid (HPd.out _ _ w1 hS1)
  clear hb1 hz1 hS1 HPd
  go_wp2_with fail
  refine HP1.out.mono ?_
  rintro e2 w2 ⟨A5, L, c5, hL, rfl, hg2, ho2⟩
  have HL : Hid (L = k + pk.length) := by unfold Hid; rw [hL.out]; simp
  have HS2 := lib_hid (SB.own ho2)
  have Hg2 := lib_hid (hg1.trans hg2)
  clear ho2 hL hg2 hg1 HP1
  obtain ⟨bk, off, eA, _, _⟩ := HS2.out.2.2.2.2 (by have := HL.out; have := pkl.out; omega)
  subst eA
  have HcL : Hid (L ≤ c5) := HS2.out.2.1
  have hsl := fun W => run_sl_l (P := Tryd.prog) (t := 22) (e := 5) Tryd.underlying22 Tryd.sizeByte bk off L c5 k (k : Int) rfl (by have := HL.out; omega) (by have := HL.out; have := HcL.out; have := pkl.out; omega) W
  have HSk : Hid (∀ W, Grows w2 W → SB W (some ⟨bk, off + k, none⟩) (L - k) (c5 - k) pk) := fun W hW => by
    have h5 := (HS2.out.grows hW).frm (k := k) (by have := HL.out; omega)
    rw [if_neg (by have := HL.out; have := HcL.out; have := pkl.out; omega)] at h5
    have e : (some (⟨bk, off, none⟩ : Addr)).map (·.add k) = some ⟨bk, off + k, none⟩ := by simp [add_zero_spot]
    rw [e] at h5
    have e2 : (List.replicate k (0 : UInt8) ++ pk).drop k = pk := by rw [List.drop_append_of_le_length (by simp), List.drop_of_length_le (by simp), List.nil_append]
    rw [e2] at h5
    exact h5
  go_upto_region 3 with fail
  clear hk hnl
  apply wp_region_mono 8 ((.is _, []) :: (.pr (fun v W => ∃ A n c, v = .slice A n c ∧ SB W A n c pk), []) :: (.is _, [1]) :: (.is _, []) :: (.is _, []) :: (.is (.slice (some ⟨bk, off + k, none⟩) (L - k) (c5 - k)), []) :: (.is _, []) :: (.is _, []) :: []) (by kernel_rfl) (by kernel_rfl)
  apply Mono.is0
  · kernel_rfl
  · intro W hW
    go_wp2
    refine ⟨rfl, rfl, Grows.refl _, ?_⟩
    unfold Oper.valAt
    go_simp
    rfl
  intro k1 a1 hk1 ha1
  simp only [Nat.reduceAdd] at hk1
  simp only [Act.put, List.setIfInBounds_toArray, List.set_cons_succ, List.set_cons_zero] at ha1
  subst hk1 ha1
  apply Mono.pr0
  · kernel_rfl
  · exact fun v W W' hW ⟨A, n, c, h1, h2⟩ => ⟨A, n, c, h1, h2.grows hW⟩
  · intro W hW 
    go_wp2_with fail
    refine (HPk.out W).mono ?_
    rintro e w1 ⟨A1, n1, c1, hn1, rfl, hg1, ho1⟩
    have HS1 := lib_hid (SB.own ho1)
    clear ho1 hn1
    go_wp2
    exact ⟨rfl, rfl, hg1, A1, n1, c1, rfl, HS1.out⟩
  intro v1
  intro k1 a1 hk1 ha1
  simp only [Nat.reduceAdd] at hk1
  simp only [Act.put, List.setIfInBounds_toArray, List.set_cons_succ, List.set_cons_zero] at ha1
  subst hk1 ha1
  apply Mono.is1
  · kernel_rfl
  · intro W hW f0
    obtain ⟨A1, n1, c1, rfl, hs⟩ := f0
    have cv := run_string_SB (P := Tryd.prog) Tryd.underlying22 Tryd.underlying5 Tryd.underlying9 hs
    go_wp2
    refine ⟨rfl, rfl, Grows.refl _, ?_⟩
    unfold Oper.valAt
    go_simp
    rfl
  intro k1 a1 hk1 ha1
  simp only [Nat.reduceAdd] at hk1
  simp only [Act.put, List.setIfInBounds_toArray, List.set_cons_succ, List.set_cons_zero] at ha1
  subst hk1 ha1
  iterate 2
    apply Mono.is0
    · kernel_rfl
    · intro W hW
      go_wp2
      refine ⟨rfl, rfl, Grows.refl _, ?_⟩
      unfold Oper.valAt
      go_simp
      rfl
    intro k1 a1 hk1 ha1
    simp only [Nat.reduceAdd] at hk1
    simp only [Act.put, List.setIfInBounds_toArray, List.set_cons_succ, List.set_cons_zero] at ha1
    subst hk1 ha1
  apply Mono.is0
  · kernel_rfl
  · intro W hW 
    have hs1 := hsl W
    go_wp2
    refine ⟨rfl, rfl, Grows.refl _, ?_⟩
    unfold Oper.valAt
    go_simp
  intro k1 a1 hk1 ha1
  simp only [Nat.reduceAdd] at hk1
  simp only [Act.put, List.setIfInBounds_toArray, List.set_cons_succ, List.set_cons_zero] at ha1
  subst hk1 ha1
  apply Mono.is0
  · kernel_rfl
  · intro W hW
    have cv := run_string_SB (P := Tryd.prog) Tryd.underlying22 Tryd.underlying5 Tryd.underlying9 (HSk.out W hW)
    go_wp2
    refine ⟨rfl, rfl, Grows.refl _, ?_⟩
    unfold Oper.valAt
    go_simp
    rfl
  intro k1 a1 hk1 ha1
  simp only [Nat.reduceAdd] at hk1
  simp only [Act.put, List.setIfInBounds_toArray, List.set_cons_succ, List.set_cons_zero] at ha1
  subst hk1 ha1
  apply Mono.is0
  · kernel_rfl
  · intro W hW
    go_wp2
    refine ⟨rfl, rfl, Grows.refl _, ?_⟩
    unfold Oper.valAt
    go_simp
    rfl
  intro k1 a1 hk1 ha1
  simp only [Nat.reduceAdd] at hk1
  simp only [Act.put, List.setIfInBounds_toArray, List.set_cons_succ, List.set_cons_zero] at ha1
  subst hk1 ha1
  refine Mono.done ?_
  intro wm hgm
  simp only [allF, List.drop_succ_cons, List.drop_nil]
  intro g1
  have Hg3 := lib_hid (Hg2.out.trans hgm)
  clear hgm Hg2 HS2 HSk hsl HPk pkl HL HcL hk3
  by_cases hneg : far < 0
  · have hn1 := padNeg_any far hneg wm
    go_wp2_with fail
    refine hn1.mono ?_
    rintro e4 w4 ⟨rfl, rfl⟩
    clear hn1
    go_wp2_with fail
    refine (HCa.out _ Hg3.out).mono ?_
    rintro e5 w5 ⟨rfl, hg5⟩
    go_wp2
    go_ret
    exact ⟨rfl, Hg3.out.trans hg5⟩
  · obtain ⟨N, rfl⟩ : ∃ N : Nat, far = (N : Int) := ⟨far.toNat, by omega⟩
    have hNb : (N : Int) < 9223372036854775808 := by omega
    obtain ⟨x, Hx, hx⟩ : ∃ x : UInt64, Hid (UInt64.ofNat N = x) ∧ Hid (IntKind.u64.wrap (N : Int) = (x.toNat : Int)) := ⟨_, lib_hid rfl, lib_hid (u64_wrap_nat N)⟩
    obtain ⟨y, Hy, hy⟩ : ∃ y : UInt64, Hid (8 * x = y) ∧ Hid (IntKind.u64.wrap (8 * (x.toNat : Int)) = (y.toNat : Int)) := ⟨_, lib_hid rfl, lib_hid (u64_wrap_mul 8 x)⟩
    have Hxn : Hid (x.toNat = N) := by rw [← Hx.out]; unfold Hid; rw [UInt64.toNat_ofNat', Nat.mod_eq_of_lt (by omega)]
    obtain ⟨z, Hz, hz⟩ : ∃ z, Hid (padZ N = z) ∧ z < 64 := ⟨_, lib_hid rfl, by unfold padZ; omega⟩
    have Hzm : Hid ((N + (z + 9)) % 64 = 0) := by rw [← Hz.out]; unfold Hid padZ; omega
    obtain ⟨ps, Hps⟩ : ∃ x, Hid (padS N = x) := ⟨_, lib_hid rfl⟩
    have Hpl : Hid (ps.length = z + 9) := by rw [← Hps.out, ← Hz.out]; exact padS_len N
    have H0 : Hid (ps[0]? = some 128) := by rw [← Hps.out]; exact padS_first N
    have H1 : Hid (∀ i, 1 ≤ i → i < z + 1 → ps[i]? = some 0) := by rw [← Hps.out, ← Hz.out]; exact padS_nought N
    have H2 : Hid (∀ j, ps[z + 1 + j]? = (putBigF y 8)[j]?) := by rw [← Hps.out, ← Hz.out, ← Hy.out, ← Hx.out]; exact padS_tail N
    have hpd := pad_any N (by omega) wm
    rw [Hps.out] at hpd
    clear hneg hfar Hps Hz Hy Hx
    have hneg : ¬ (N : Int) < 0 := by omega
    go_wp2_with fail
    refine hpd.mono ?_
    rintro e4 w4 ⟨A7, n7, c7, hn7, rfl, hg4, ho4⟩
    have HS4 := lib_hid (SB.own ho4)
    have Hn7 : Hid (n7 = z + 9) := by unfold Hid; rw [hn7.out]; exact Hpl.out
    have Hg4 := lib_hid (Hg3.out.trans hg4)
    clear ho4 hn7 hg4 hpd Hg3
    obtain ⟨b7, o7, eA, hb7, hc7⟩ := HS4.out.2.2.2.2 (by have := Hn7.out; omega)
    subst eA
    have HC7 : Hid (∀ i u, ps[i]? = some u → i < n7 → w4.cell? ⟨b7, o7 + i, none⟩ = some (.int .u8 (u.toNat : Int))) := fun i u hu hi => by
      rw [hc7 i hi, List.getElem?_map, hu]; rfl
    have d0 : w4.cell? ⟨b7, o7, none⟩ = some (.int .u8 128) := by
      have := HC7.out 0 128 H0.out (by have := Hn7.out; omega)
      simpa using this
    have hl1 : (9 : Int) ≤ n7 := by have := Hn7.out; omega
    have hl2 : (n7 : Int) ≤ 72 := by have := Hn7.out; omega
    have hl0 : ¬ (n7 : Int) < 9 := by omega
    have hl3 : ¬ (n7 : Int) > 72 := by omega
    obtain ⟨v, Hv, hv⟩ : ∃ x : UInt64, Hid (UInt64.ofNat n7 = x) ∧ IntKind.u64.wrap (n7 : Int) = (x.toNat : Int) := ⟨_, lib_hid rfl, u64_wrap_nat n7⟩
    obtain ⟨s, Hs, hs⟩ : ∃ y : UInt64, Hid (x + v = y) ∧ IntKind.u64.wrap ((x.toNat : Int) + (v.toNat : Int)) = (y.toNat : Int) := ⟨_, lib_hid rfl, u64_wrap_add x v⟩
    have hm0 : (s.toNat : Int) % 64 = 0 := by
      have h5 : v.toNat = n7 := by rw [← Hv.out, UInt64.toNat_ofNat', Nat.mod_eq_of_lt (by omega)]
      have h6 : s.toNat = x.toNat + v.toNat := by rw [← Hs.out, UInt64.toNat_add, Nat.mod_eq_of_lt (by have := Hxn.out; omega)]
      have := Hxn.out; have := Hzm.out; have := Hn7.out; omega
    clear hc7 hNb
    obtain ⟨s1, Hs1, hs1⟩ : ∃ s : Nat, Hid (s = z + 1) ∧ (n7 : Int) - 8 = (s : Int) := ⟨z + 1, lib_hid rfl, by have := Hn7.out; omega⟩
    have hx1 := hx.out
    go_upto_region 9 with fail
    clear d0 hm0 hl0 hl3 hv hs hx1
    go_loop [8, 9] (fun mv iv => ∃ (j i : Nat) (m : UInt64), j ≤ 8 ∧ Hid (i = z + 1 + j) ∧ iv = .int .i64 (i : Int) ∧ mv = .int .u64 (m.toNat : Int) ∧ Hid (m = bigF ((putBigF y 8).take j))) (fun _ v => n7 - (intOf v).toNat)
    case atStart => exact ⟨0, s1, 0, by omega, Hs1, rfl, rfl, by rw [List.take_zero]; exact lib_hid rfl⟩
    case round =>
      obtain ⟨j, i, m, hj, Hi, rfl, rfl, Hm⟩ := hrel
      by_cases hlt : j < 8
      · have hki : (i : Int) < (n7 : Int) := by have := Hi.out; have := Hn7.out; omega
        obtain ⟨c, hc⟩ : ∃ c, (putBigF y 8)[j]? = some c := ⟨_, List.getElem?_eq_getElem (by rw [putBigF8]; exact hlt)⟩
        have d1 := HC7.out i c (by rw [Hi.out, H2.out]; exact hc) (by omega)
        obtain ⟨q, Hq, hq⟩ : ∃ q : UInt64, Hid (c.toUInt64 = q) ∧ IntKind.u64.wrap (c.toNat : Int) = (q.toNat : Int) := ⟨_, lib_hid rfl, u64_of_u8 _⟩
        obtain ⟨m1, Hm1, hm1⟩ : ∃ q : UInt64, Hid (256 * m = q) ∧ IntKind.u64.wrap (256 * (m.toNat : Int)) = (q.toNat : Int) := ⟨_, lib_hid rfl, u64_wrap_mul 256 m⟩
        obtain ⟨m2, Hm2, hm2⟩ : ∃ u : UInt64, Hid (m1 + q = u) ∧ IntKind.u64.wrap ((m1.toNat : Int) + (q.toNat : Int)) = (u.toNat : Int) := ⟨_, lib_hid rfl, u64_wrap_add _ _⟩
        have Hn : Hid (m2 = bigF ((putBigF y 8).take (j + 1))) := by unfold Hid; rw [take_snoc hc, bigF_step, ← Hm.out, Hq.out, Hm1.out, Hm2.out]
        clear hc
        go_wp2
        go_round
        case rel => exact ⟨j + 1, i + 1, m2, by omega, by have := Hi.out; unfold Hid; omega, by go_num, rfl, Hn⟩
        case measure => simp [intOf]; omega
      · have hki : ¬ (i : Int) < (n7 : Int) := by have := Hi.out; have := Hn7.out; omega
        have hmy : m = y := by rw [Hm.out, List.take_of_length_le (by rw [putBigF8]; omega), big_put8]
        subst hmy
        clear Hm hlt hj
        go_wp2
        clear hki
        go_loop [10] (fun iv => ∃ i : Nat, 1 ≤ i ∧ i ≤ z + 1 ∧ iv = .int .i64 (i : Int)) (fun v => n7 - (intOf v).toNat)
        case atStart => exact ⟨1, by omega, by omega, rfl⟩
        case round =>
          obtain ⟨i2, hi1, hi2, rfl⟩ := hrel
          by_cases hlt : i2 < z + 1
          · have hki : (i2 : Int) < (s1 : Int) := by have := Hs1.out; omega
            have d1 := HC7.out i2 0 (H1.out i2 hi1 hlt) (by have := Hn7.out; omega)
            have d2 : w4.cell? ⟨b7, o7 + i2, none⟩ = some (.int .u8 0) := d1
            clear d1
            go_wp2
            go_round
            case rel => exact ⟨i2 + 1, by omega, by omega, by go_num⟩
            case measure => have := Hn7.out; simp [intOf]; omega
          · have hki : ¬ (i2 : Int) < (s1 : Int) := by have := Hs1.out; omega
            have hx1 := hx.out
            have hy1 := hy.out
            go_wp2_with fail
            refine (HCa.out _ Hg4.out).mono ?_
            rintro e5 w5 ⟨rfl, hg5⟩
            go_wp2
            go_ret
            exact ⟨rfl, Hg4.out.trans hg5⟩

end Go.Proofs.YtgknojaaimefkaaDoor
