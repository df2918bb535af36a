/-
  The law LanesSteps.
-/
import Derived.Test.YtnlffaglmcddkaaDoorLAwake
import Derived.Deep.Cut
import Derived.Lib.MinMax
namespace Go.Proofs.YtnlffaglmcddkaaDoor
open Go Go.RowKit
set_option linter.unusedSimpArgs false
set_option linter.unusedVariables false


def mostF (B : Nat → Nat) : Nat → Nat
  | 0 => 0
  | k + 1 => max (mostF B k) (B k)
theorem mostF_ge (B : Nat → Nat) : ∀ N m, m < N → B m ≤ mostF B N
  | 0, _, h => by omega
  | N + 1, m, h => by
    rw [mostF]
    by_cases e : m = N
    · subst e; omega
    · have := mostF_ge B N m (by omega); omega
theorem mostF_le (B : Nat → Nat) (M : Nat) : ∀ N, (∀ m, m < N → B m ≤ M) → mostF B N ≤ M
  | 0, _ => Nat.zero_le _
  | N + 1, h => by rw [mostF]; have := mostF_le B M N (fun m hm => h m (by omega)); have := h N (by omega); omega
set_option maxRecDepth 100000 in
set_option maxHeartbeats 4000000 in
theorem walk_LanesSteps {tK : TypeId} (A : Option Addr) (n c : Nat) (ls : List (List UInt8)) (w : World) (HK : Hid (Blk w 0 tK (shaK.map b32).toArray)) (hs : RowsB w A n c ls) :
    Calls Tryd.prog 4 #[.slice A n c] w fun e w' => e = .returned (.bool true) ∧ Grows w w' := by
  have HS := lib_hid hs
  have hll := lib_hid hs.1
  have hcap := hs.2.2.1
  unfold maxLen at hcap
  have hnc := hs.2.1
  have HLi := lib_hid (light_any ls A n c w hs)
  clear hs
  by_cases hlight : lightB ls = true
  rotate_left
  · have hno : lightB ls = false := by simpa using hlight
    rw [hno] at HLi
    clear hlight
    go_enter Tryd.func4, Tryd.ntmps4
    go_wp2_with fail
    refine HLi.out.mono ?_
    rintro e w1 ⟨rfl, rfl⟩
    go_wp2
    go_ret
    exact ⟨rfl, Grows.refl _⟩
  obtain ⟨h20, h400⟩ := lightB_yes hlight
  rw [hlight] at HLi
  have Hb : Hid (n ≤ 100) := by unfold Hid; have := hll.out; omega
  have hnm : (n : Int) ≤ 100 := by have := Hb.out; omega
  have H4 := lib_hid h400
  have HSu := lib_hid (sums_any shaK shaK_len ls A n c w HK HS.out Hb.out h400)
  obtain ⟨T, HT⟩ : ∃ T, Hid (maxF (blkL (lensL ls)) n = T) := ⟨_, lib_hid rfl⟩
  have hTb : (T : Int) ≤ 100000 := by
    have := maxF_bound (blkL (lensL ls)) 80 (blkL_le (lensL ls) (lens_le ls h400)) n
    rw [HT.out] at this
    have := Hb.out
    omega
  rw [HT.out] at HSu
  have HAw : Hid (∀ W, Grows w W → Calls Tryd.prog 13 #[] W fun e w' => e = .returned (.bool true) ∧ Grows W w') := fun W hW => awake13_any W (lib_hid (HK.out.grows hW))
  have Hat : Hid (∀ W, Grows w W → ∀ k, k < n → ∃ b off Ai ci, A = some ⟨b, off, none⟩ ∧ W.cell? ⟨b, off + k, none⟩ = some (.slice Ai (ls.getD k []).length ci) ∧ SB W Ai (ls.getD k []).length ci (ls.getD k []) ∧ b < W.heap.size) := fun W hW k hk => by
    obtain ⟨b, off, e, hb, hc⟩ := HS.out.2.2.2.2 (by omega)
    obtain ⟨Ai, ci, h1, h2⟩ := hc k hk
    exact ⟨b, off, Ai, ci, e, (hW.cell (p := ⟨b, off + k, none⟩) hb).trans h1, h2.grows hW, hW.lt hb⟩
  have Hlen4 : Hid (∀ k, k < n → (ls.getD k []).length ≤ 400) := fun k hk => by
    have := hll.out
    rw [List.getD_eq_getElem?_getD, List.getElem?_eq_getElem (by omega)]
    exact H4.out _ (List.getElem_mem _)
  clear hlight h20 h400 HS HK
  go_enter Tryd.func4, Tryd.ntmps4
  go_wp2_with fail
  refine HLi.out.mono ?_
  rintro e w1 ⟨rfl, rfl⟩
  go_wp2_with fail
  refine HSu.out.mono ?_
  rintro e w1 ⟨go, rfl, hg1, _, hbo⟩
  have Hbo := lib_hid hbo
  have Hg1 := lib_hid hg1
  clear hbo hg1 HSu HLi
  obtain ⟨B, HB⟩ : ∃ B, Hid (blkL (lensL ls) = B) := ⟨_, lib_hid rfl⟩
  have HBm : Hid (∀ m, B m ≤ 80) := by unfold Hid; rw [← HB.out]; exact blkL_le (lensL ls) (lens_le ls H4.out)
  rw [HB.out] at HT
  go_wp2
  go_loopw [7, 5, 6] (fun i mo al wr => ∃ (k : Nat), k ≤ n ∧ i = .int .i64 k ∧ Hid (mo = .int .i64 (mostF B k : Int)) ∧ Hid (al = .int .i64 (sumB B k : Int)) ∧ Grows w1 wr) (fun i _ _ _ => n - (intOf i).toNat)
  case atStart => exact ⟨0, Nat.zero_le _, rfl, lib_hid rfl, lib_hid rfl, Grows.refl _⟩
  case round =>
    obtain ⟨k, hk, rfl, Hmo, Hal, hgr⟩ := hrel
    obtain ⟨mo, Hmoe⟩ : ∃ mo, Hid (mostF B k = mo) := ⟨_, lib_hid rfl⟩
    obtain ⟨al, Hale⟩ : ∃ al, Hid (sumB B k = al) := ⟨_, lib_hid rfl⟩
    have h1 := Hmo.out
    have h2 := Hal.out
    rw [Hmoe.out] at h1
    rw [Hale.out] at h2
    subst h1 h2
    have hmob : (mo : Int) ≤ 80 := by have := mostF_le B 80 k (fun m _ => HBm.out m); rw [Hmoe.out] at this; omega
    have halb : (al : Int) ≤ 8000 := by have := sumB_le B 80 HBm.out k; rw [Hale.out] at this; have := Hb.out; omega
    by_cases hlt : k < n
    · have hki : (k : Int) < n := by omega
      have hgw := Hg1.out.trans hgr
      obtain ⟨b, off, Ai, ci, rfl, c1, s1, hbw⟩ := Hat.out wr hgw k hlt
      have hm4 := Hlen4.out k hlt
      obtain ⟨m, Hm⟩ : ∃ m, Hid ((ls.getD k []).length = m) := ⟨_, lib_hid rfl⟩
      rw [Hm.out] at c1 hm4
      obtain ⟨pz, Hpz⟩ : ∃ pz, Hid ((padS m).length = pz) := ⟨_, lib_hid rfl⟩
      have HBk : Hid (B k = blkN m) := by unfold Hid; rw [← HB.out, blkL_lens, Hm.out]
      obtain ⟨q, Hq⟩ : ∃ q, Hid (B k = q) := ⟨_, lib_hid rfl⟩
      have hmz : m + pz = 64 * q := by
        have h3 := HBk.out
        rw [Hq.out] at h3
        have h4 := Hpz.out
        rw [padS_len] at h4
        unfold padZ at h4
        unfold blkN at h3
        omega
      have hqb : q ≤ 80 := by rw [← Hq.out]; exact HBm.out k
      obtain ⟨s, hs1, hs2, hs3, hs4⟩ : ∃ s : Nat, (m : Int) + (pz : Int) = (s : Int) ∧ (s : Int) / 64 = (q : Int) ∧ (s : Int).tdiv 64 = (q : Int) ∧ (s : Int) ≤ 10000 := ⟨m + pz, by omega, by omega, by rw [Int.tdiv_eq_ediv_of_nonneg (by omega)]; omega, by omega⟩
      have HPd : Hid (∀ W, Calls Tryd.prog 14 #[.int .i64 (m : Int)] W (NewB 5 W (padS m))) := fun W => pad_any m (by omega) W
      have Hx2 : Hid (∀ W, Grows wr W → W.cell? ⟨b, off + k, none⟩ = some (.slice Ai m ci)) := fun W hW => (hW.cell (p := ⟨b, off + k, none⟩) hbw).trans c1
      obtain ⟨mo2, hmx, Hmx⟩ : ∃ mo2 : Nat, max (mo : Int) (q : Int) = (mo2 : Int) ∧ Hid (mostF B (k + 1) = mo2) := ⟨max mo q, by omega, by unfold Hid; rw [mostF, Hmoe.out, Hq.out]⟩
      have Hal2 : Hid (sumB B (k + 1) = al + q) := by unfold Hid; rw [sumB, Hale.out, Hq.out]
      have hqi : (q : Int) ≤ 80 := by omega
      have hmi : (m : Int) ≤ 400 := by omega
      have hzi : (pz : Int) ≤ 10000 := by omega
      have Hgr := lib_hid hgr
      clear c1 s1 hbw hgw hgr hlt hmz HBk Hq hm4 Hmoe Hale
      go_upto_region 8 with fail
      apply wp_region_mono 15 ((.is _, []) :: (.is _, []) :: (.is _, []) :: (.is _, []) :: (.is _, []) :: (.is _, []) :: (.is _, []) :: (.is _, []) :: (.is _, []) :: (.is _, []) :: (.pr (fun v W => ∃ A1 c1, v = .slice A1 pz c1), []) :: (.is (.int .i64 (pz : Int)), [10]) :: (.is _, []) :: (.is _, []) :: (.is _, []) :: []) (by kernel_rfl) (by kernel_rfl)
      iterate 3
        apply Mono.is0
        · kernel_rfl
        · intro W hW
          go_wp2
          refine ⟨rfl, rfl, Grows.refl _, ?_⟩
          unfold Oper.valAt
          go_simp
          rfl
        intro k1 a1 hk1 ha1
        simp only [Nat.reduceAdd] at hk1
        simp only [Act.put, List.setIfInBounds_toArray, List.set_cons_succ, List.set_cons_zero] at ha1
        subst hk1 ha1
      apply Mono.is0
      · kernel_rfl
      · intro W hW
        have q := Hx2.out W hW
        go_wp2
        refine ⟨rfl, rfl, Grows.refl _, ?_⟩
        unfold Oper.valAt
        go_simp
        rfl
      intro k1 a1 hk1 ha1
      simp only [Nat.reduceAdd] at hk1
      simp only [Act.put, List.setIfInBounds_toArray, List.set_cons_succ, List.set_cons_zero] at ha1
      subst hk1 ha1
      iterate 4
        apply Mono.is0
        · kernel_rfl
        · intro W hW
          go_wp2
          refine ⟨rfl, rfl, Grows.refl _, ?_⟩
          unfold Oper.valAt
          go_simp
          rfl
        intro k1 a1 hk1 ha1
        simp only [Nat.reduceAdd] at hk1
        simp only [Act.put, List.setIfInBounds_toArray, List.set_cons_succ, List.set_cons_zero] at ha1
        subst hk1 ha1
      apply Mono.is0
      · kernel_rfl
      · intro W hW
        have q := Hx2.out W hW
        go_wp2
        refine ⟨rfl, rfl, Grows.refl _, ?_⟩
        unfold Oper.valAt
        go_simp
        rfl
      intro k1 a1 hk1 ha1
      simp only [Nat.reduceAdd] at hk1
      simp only [Act.put, List.setIfInBounds_toArray, List.set_cons_succ, List.set_cons_zero] at ha1
      subst hk1 ha1
      apply Mono.is0
      · kernel_rfl
      · intro W hW
        go_wp2
        refine ⟨rfl, rfl, Grows.refl _, ?_⟩
        unfold Oper.valAt
        go_simp
        rfl
      intro k1 a1 hk1 ha1
      simp only [Nat.reduceAdd] at hk1
      simp only [Act.put, List.setIfInBounds_toArray, List.set_cons_succ, List.set_cons_zero] at ha1
      subst hk1 ha1
      apply Mono.pr0
      · kernel_rfl
      · exact fun v W W' hW h => h
      · intro W hW 
        go_wp2_with fail
        refine (HPd.out W).mono ?_
        rintro e w1 ⟨A1, n1, c1, hn1, rfl, hg1, ho1⟩
        rw [Hpz.out] at hn1
        have hn2 := hn1.out
        subst hn2
        go_wp2
        exact ⟨rfl, rfl, hg1, A1, c1, rfl⟩
      intro v10
      intro k1 a1 hk1 ha1
      simp only [Nat.reduceAdd] at hk1
      simp only [Act.put, List.setIfInBounds_toArray, List.set_cons_succ, List.set_cons_zero] at ha1
      subst hk1 ha1
      apply Mono.is1
      · kernel_rfl
      · intro W hW f0
        obtain ⟨A1, c1, rfl⟩ := f0
        go_wp2
        refine ⟨rfl, rfl, Grows.refl _, ?_⟩
        unfold Oper.valAt
        go_simp
      intro k1 a1 hk1 ha1
      simp only [Nat.reduceAdd] at hk1
      simp only [Act.put, List.setIfInBounds_toArray, List.set_cons_succ, List.set_cons_zero] at ha1
      subst hk1 ha1
      iterate 3
        apply Mono.is0
        · kernel_rfl
        · intro W hW
          go_wp2
          refine ⟨rfl, rfl, Grows.refl _, ?_⟩
          unfold Oper.valAt
          go_simp
          rfl
        intro k1 a1 hk1 ha1
        simp only [Nat.reduceAdd] at hk1
        simp only [Act.put, List.setIfInBounds_toArray, List.set_cons_succ, List.set_cons_zero] at ha1
        subst hk1 ha1
      refine Mono.done ?_
      intro wm hgm
      simp only [allF, List.drop_succ_cons, List.drop_nil]
      intro g10
      have hgr := Hgr.out.trans hgm
      clear Hx2 HPd hgm
      go_wp2
      go_roundw
      case rel => exact ⟨k + 1, by omega, by go_num, by unfold Hid; rw [Hmx.out], by unfold Hid; rw [Hal2.out]; go_num, hgr⟩
      case measure => simp [intOf]; omega
    · have hki : ¬ (k : Int) < n := by omega
      obtain rfl : k = n := by omega
      have hg4 := Hg1.out.trans hgr
      have hA : (mo : Int) ≤ (T : Int) := by
        have := mostF_le B T k (fun m hm => by have := maxF_ge B k m hm; rw [HT.out] at this; exact this)
        rw [Hmoe.out] at this
        omega
      have hB : (al : Int) ≤ 4 * (T : Int) := by
        have := sum_le B k
        rw [HT.out, Hale.out] at this
        omega
      have hC : 4 * (T : Int) ≤ (al : Int) + 4 * (mo : Int) := by
        have := max_le B k (mostF B k) (fun m hm => mostF_ge B k m hm)
        rw [HT.out, Hale.out, Hmoe.out] at this
        omega
      clear Hmoe Hale HT HB hlt hk
      go_wp2_with fail
      refine (HAw.out wr hg4).mono ?_
      rintro e w5 ⟨rfl, hg5⟩
      have hg6 := hg4.trans hg5
      go_wp2
      go_ret
      exact ⟨rfl, hg6⟩
end Go.Proofs.YtnlffaglmcddkaaDoor
