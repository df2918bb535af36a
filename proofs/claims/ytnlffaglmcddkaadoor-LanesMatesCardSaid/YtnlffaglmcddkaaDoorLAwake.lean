/-
  light and awake of layer 13.
-/
import Derived.Test.YtnlffaglmcddkaaDoorLSums3
import Derived.Test.YtnlffaglmcddkaaDoorArrEq
import Derived.Test.YtnlffaglmcddkaaDoorSha10
import Derived.Deep.Cut
namespace Go.Proofs.YtnlffaglmcddkaaDoor
open Go Go.RowKit
set_option linter.unusedSimpArgs false
set_option linter.unusedVariables false


def lightB (ls : List (List UInt8)) : Bool := decide (ls.length ≤ 20) && ls.all fun b => decide (b.length ≤ 400)
theorem lightB_yes {ls : List (List UInt8)} (h : lightB ls = true) : ls.length ≤ 20 ∧ ∀ b ∈ ls, b.length ≤ 400 := by
  unfold lightB at h
  simp only [Bool.and_eq_true, decide_eq_true_eq, List.all_eq_true] at h
  exact h
theorem lightB_no {ls : List (List UInt8)} {k : Nat} (hk : k < ls.length) (h : 400 < (ls.getD k []).length) : lightB ls = false := by
  unfold lightB
  have : (ls.all fun b => decide (b.length ≤ 400)) = false := by
    rw [List.all_eq_false]
    refine ⟨ls[k], List.getElem_mem _, ?_⟩
    rw [List.getD_eq_getElem?_getD, List.getElem?_eq_getElem hk, Option.getD_some] at h
    simp; omega
  rw [this, Bool.and_false]
set_option maxRecDepth 100000 in
set_option maxHeartbeats 4000000 in
theorem light_any (ls : List (List UInt8)) (A : Option Addr) (n c : Nat) (w : World) (hs : RowsB w A n c ls) :
    Calls Tryd.prog 9 #[.slice A n c] w fun e w' => e = .returned (.bool (lightB ls)) ∧ w = w' := by
  have HS := lib_hid hs
  have hll := lib_hid hs.1
  have hcap := hs.2.2.1
  unfold maxLen at hcap
  have hnc := hs.2.1
  clear hs
  by_cases hbig : 20 < n
  · have hb : (20 : Int) < n := by omega
    have Hno : Hid (lightB ls = false) := by unfold Hid lightB; rw [decide_eq_false (by rw [hll.out]; omega), Bool.false_and]
    go_enter Tryd.func9, Tryd.ntmps9
    go_wp2
    go_ret
    exact ⟨by rw [Hno.out]; rfl, rfl⟩
  · have hb : ¬ (20 : Int) < n := by omega
    have Hb := lib_hid (Nat.not_lt.1 hbig)
    clear hbig
    go_enter Tryd.func9, Tryd.ntmps9
    go_wp2
    clear hb
    go_loop [3] (fun i => ∃ k : Nat, k ≤ n ∧ i = .int .i64 k ∧ Hid (∀ j, j < k → (ls.getD j []).length ≤ 400)) (fun i => n - (intOf i).toNat)
    case atStart => exact ⟨0, Nat.zero_le _, rfl, lib_hid (by intro j hj; omega)⟩
    case round =>
      obtain ⟨k, hk, rfl, HK⟩ := hrel
      by_cases hlt : k < n
      · have hki : (k : Int) < n := by omega
        obtain ⟨b, off, rfl, hb, hc⟩ := HS.out.2.2.2.2 (by omega)
        obtain ⟨Ai, ci, c1, h2⟩ := hc k hlt
        obtain ⟨m, Hm⟩ : ∃ m, Hid ((ls.getD k []).length = m) := ⟨_, lib_hid rfl⟩
        rw [Hm.out] at c1
        clear h2 hc
        by_cases h1 : 400 < m
        · have Hno : Hid (lightB ls = false) := lightB_no (by rw [hll.out]; exact hlt) (by rw [Hm.out]; exact h1)
          have h1i : (400 : Int) < (m : Int) := by omega
          go_wp2
          go_ret
          exact ⟨by rw [Hno.out]; rfl, rfl⟩
        · have HK2 : Hid (∀ j, j < k + 1 → (ls.getD j []).length ≤ 400) := fun j hj => by
            by_cases e : j = k
            · subst e; rw [Hm.out]; omega
            · exact HK.out j (by omega)
          have h1i : ¬ (400 : Int) < (m : Int) := by omega
          clear HK h1
          go_wp2
          go_round
          case rel => exact ⟨k + 1, by omega, by go_num, HK2⟩
          case measure => simp [intOf]; omega
      · have hki : ¬ (k : Int) < n := by omega
        have hkn : k = n := by omega
        have Hyes : Hid (lightB ls = true) := by
          unfold Hid lightB
          rw [decide_eq_true (by rw [hll.out]; exact Hb.out), Bool.true_and, List.all_eq_true]
          intro b hb
          obtain ⟨j, hj⟩ := List.getElem?_of_mem hb
          have := HK.out j (by rw [hkn, ← hll.out]; exact (List.getElem?_eq_some_iff.1 hj).1)
          rw [List.getD_eq_getElem?_getD, hj] at this
          simpa using this
        clear HK hkn
        go_wp2
        go_ret
        exact ⟨by rw [Hyes.out]; rfl, rfl⟩
theorem two_steps : maxF (blkL (lensL [[], [], [], [], [1]])) 5 = 2 := by decide +kernel
def emptyM : List UInt8 := [] ++ padS 0
def oneM : List UInt8 := [1] ++ padS 1
theorem empty1 : (outF (blockF shaK startV emptyM)).take 1 = [227] := by decide +kernel
theorem one1 : (outF (blockF shaK startV oneM)).take 1 = [75] := by decide +kernel
theorem emptyM_len : emptyM.length = 64 := by decide +kernel
theorem oneM_len : oneM.length = 64 := by decide +kernel
theorem sum_1 (m : List UInt8) (k : Nat) (t : List UInt8) (hm : m ++ padS m.length = t) (ht : t.length = 64) (h : (outF (blockF shaK startV t)).take 1 = [UInt8.ofNat k]) : (sumS shaK m).take 1 = [UInt8.ofNat k] := by
  unfold sumS
  have h1 : t.take 64 = t := List.take_of_length_le (by rw [ht]; omega)
  have h2 : t.drop 64 = [] := List.drop_of_length_le (by rw [ht]; omega)
  rw [hm, runF_step shaK startV t (by rw [ht]; omega), h1, h2, runF_end _ _ _ (by simp)]
  exact h
attribute [local irreducible] sumS shaK padS outF blockF startV
theorem sums_apart : sumS shaK [] ≠ sumS shaK [1] := fun e => by
  have a := sum_1 [] 227 emptyM rfl emptyM_len empty1
  have b := sum_1 [1] 75 oneM rfl oneM_len one1
  rw [e, b] at a
  exact absurd a (by decide)
theorem out_load {W : World} {go : Nat} {os : List (List UInt8)} (h : Blk W go 32 ((flatB os).map b8).toArray) (hl : ∀ o ∈ os, o.length = 32) (m : Nat) (o : List UInt8) (hm : os[m]? = some o) : ∀ W', Grows W W' → ∀ j u, (o.map b8)[j]? = some u → W'.cell? ((⟨go, m * 32, none⟩ : Addr).add j) = some u := by
  intro W' hW j u hu
  have ho := hl o (List.mem_of_getElem? hm)
  have hj : j < 32 := by have := (List.getElem?_eq_some_iff.1 hu).1; rw [List.length_map, ho] at this; exact this
  rw [add_zero_spot, (h.grows hW).cell, List.getElem?_toArray, List.getElem?_map]
  have key : ∀ (os : List (List UInt8)) (m : Nat), (∀ o ∈ os, o.length = 32) → os[m]? = some o → (flatB os)[m * 32 + j]? = o[j]? := by
    intro os
    induction os with
    | nil => intro m _ h; cases h
    | cons x l ih =>
      intro m hl hm
      have hx := hl x (List.mem_cons_self ..)
      cases m with
      | zero =>
        obtain rfl := Option.some.inj hm
        rw [flatB, Nat.zero_mul, Nat.zero_add, List.getElem?_append_left (by omega)]
      | succ m =>
        rw [flatB, List.getElem?_append_right (by omega), ← ih m (fun o ho => hl o (List.mem_cons_of_mem _ ho)) hm]
        congr 1
        omega
  rw [key os m hl hm, ← hu, List.getElem?_map]
set_option maxRecDepth 100000 in
set_option maxHeartbeats 4000000 in
theorem awake13_any {tK : TypeId} (w : World) (HK : Hid (Blk w 0 tK (shaK.map b32).toArray)) : Calls Tryd.prog 13 #[] w fun e w' => e = .returned (.bool true) ∧ Grows w w' := by
  obtain ⟨W1, HW1, hW1, hg1⟩ : ∃ W1 : World, Hid (W1 = (w.alloc (.cells #[.int .u8 1] 5)).alloc (.cells #[.slice none 0 0, .slice none 0 0, .slice none 0 0, .slice none 0 0, .slice (some ⟨w.heap.size, 0, none⟩) 1 1] 28)) ∧ W1.heap.size = w.heap.size + 2 ∧ Grows w W1 := ⟨_, lib_hid rfl, by simp, ((Grows.refl w).alloc _).alloc _⟩
  have hB0 : Blk W1 w.heap.size 5 #[b8 1] := by rw [HW1.out]; have := (Blk.new w 5 #[.int .u8 1]).alloc (.cells #[.slice none 0 0, .slice none 0 0, .slice none 0 0, .slice none 0 0, .slice (some ⟨w.heap.size, 0, none⟩) 1 1] 28); exact this
  have hB1 : Blk W1 (w.heap.size + 1) 28 #[.slice none 0 0, .slice none 0 0, .slice none 0 0, .slice none 0 0, .slice (some ⟨w.heap.size, 0, none⟩) 1 1] := by rw [HW1.out]; have := Blk.new (w.alloc (.cells #[.int .u8 1] 5)) 28 #[.slice none 0 0, .slice none 0 0, .slice none 0 0, .slice none 0 0, .slice (some ⟨w.heap.size, 0, none⟩) 1 1]; simpa using this
  have hR : RowsB W1 (some ⟨w.heap.size + 1, 0, none⟩) 5 5 [[], [], [], [], [1]] := by
    refine ⟨rfl, Nat.le_refl _, by decide, fun e => (by cases e), fun _ => ⟨_, _, rfl, hB1.lt, fun i hi => ?_⟩⟩
    rw [hB1.cell]
    rcases (show i = 0 ∨ i = 1 ∨ i = 2 ∨ i = 3 ∨ i = 4 by omega) with rfl | rfl | rfl | rfl | rfl
    · exact ⟨none, 0, rfl, SB.nil _⟩
    · exact ⟨none, 0, rfl, SB.nil _⟩
    · exact ⟨none, 0, rfl, SB.nil _⟩
    · exact ⟨none, 0, rfl, SB.nil _⟩
    · exact ⟨_, 1, rfl, (show Row W1 _ 1 1 [b8 1] from hB0.row (o := 0) (n := 1) (c := 1) (Nat.le_refl _) (by simp) (by decide))⟩
  have HC := lib_hid (sums_any shaK shaK_len [[], [], [], [], [1]] (some ⟨w.heap.size + 1, 0, none⟩) 5 5 W1 (lib_hid (HK.out.grows hg1)) hR (by omega) (by intro b hb; simp at hb; rcases hb with rfl | rfl <;> simp))
  rw [two_steps] at HC
  obtain ⟨os, Hos⟩ : ∃ os, Hid ([[], [], [], [], [1]].map (sumS shaK) = os) := ⟨_, lib_hid rfl⟩
  rw [Hos.out] at HC
  have Hg1 := lib_hid hg1
  clear hB0 hB1 hR hg1 hW1 HK
  go_enter Tryd.func13, Tryd.ntmps13
  go_wp2_with fail
  rw [← HW1.out]
  refine HC.out.mono ?_
  rintro e w2 ⟨go, rfl, hg2, _, hb2⟩
  obtain ⟨L0s, HL0⟩ : ∃ s, Hid (sumS shaK [] = s) := ⟨_, lib_hid rfl⟩
  obtain ⟨L4s, HL4⟩ : ∃ s, Hid (sumS shaK [1] = s) := ⟨_, lib_hid rfl⟩
  have L0l : Hid (L0s.length = 32) := by unfold Hid; rw [← HL0.out]; exact sumS_len _ _
  have L4l : Hid (L4s.length = 32) := by unfold Hid; rw [← HL4.out]; exact sumS_len _ _
  have hos : os = [L0s, L0s, L0s, L0s, L4s] := by rw [← Hos.out, ← HL0.out, ← HL4.out]; rfl
  have hol : ∀ o ∈ os, o.length = 32 := by
    intro o ho
    rw [hos] at ho
    simp only [List.mem_cons, List.not_mem_nil, or_false] at ho
    rcases ho with rfl | rfl | rfl | rfl | rfl
    · exact L0l.out
    · exact L0l.out
    · exact L0l.out
    · exact L0l.out
    · exact L4l.out
  have L0 : Hid (∀ W', Grows w2 W' → ∀ j u, (L0s.map b8)[j]? = some u → W'.cell? ((⟨go, 0, none⟩ : Addr).add j) = some u) := lib_hid (out_load hb2 hol 0 L0s (by rw [hos]; rfl))
  have L3 : Hid (∀ W', Grows w2 W' → ∀ j u, (L0s.map b8)[j]? = some u → W'.cell? ((⟨go, 96, none⟩ : Addr).add j) = some u) := lib_hid (out_load hb2 hol 3 L0s (by rw [hos]; rfl))
  have L4 : Hid (∀ W', Grows w2 W' → ∀ j u, (L4s.map b8)[j]? = some u → W'.cell? ((⟨go, 128, none⟩ : Addr).add j) = some u) := lib_hid (out_load hb2 hol 4 L4s (by rw [hos]; rfl))
  have hne : L0s ≠ L4s := by rw [← HL0.out, ← HL4.out]; exact sums_apart
  obtain ⟨v0, Hv0⟩ : ∃ v0 : Array Value, Hid ((L0s.map b8).toArray = v0) := ⟨_, lib_hid rfl⟩
  obtain ⟨v4, Hv4⟩ : ∃ v4 : Array Value, Hid ((L4s.map b8).toArray = v4) := ⟨_, lib_hid rfl⟩
  have HE1 : Hid (∀ W : World, (Op.equalIn 10000 32 (.agg v0) (.agg v0)).run Tryd.prog W = .ok true W) := fun W => by
    rw [← Hv0.out, run_equalIn_bytes W 9998 32 5 32 L0s L0s L0l.out L0l.out Tryd.underlying32 Tryd.underlying5 Tryd.sizeByte, beq_self_eq_true]
  have HE2 : Hid (∀ W : World, (Op.equalIn 10000 32 (.agg v0) (.agg v4)).run Tryd.prog W = .ok false W) := fun W => by
    rw [← Hv0.out, ← Hv4.out, run_equalIn_bytes W 9998 32 5 32 L0s L4s L0l.out L4l.out Tryd.underlying32 Tryd.underlying5 Tryd.sizeByte, beq_eq_false_iff_ne.2 hne]
  have L3s := L0s
  have Hg2 := lib_hid (Hg1.out.trans hg2)
  clear hos hol hb2 hne hg2 HC HL0 HL4 Hos
  go_upto_region 2 with fail
  apply wp_region_mono 26 ((.is _, []) :: (.is _, []) :: (.is _, []) :: (.is _, []) :: (.is _, []) :: (.is _, []) :: (.is _, []) :: (.is _, []) :: (.is _, []) :: (.is _, []) :: (.is (.agg v0), []) :: (.is _, []) :: (.is _, []) :: (.is (.agg v0), []) :: (.is _, []) :: (.is _, []) :: (.is _, []) :: (.is _, []) :: (.is _, []) :: (.is (.agg v0), []) :: (.is _, []) :: (.is _, []) :: (.is (.agg v4), []) :: (.is _, []) :: (.is _, []) :: (.is _, []) :: []) (by kernel_rfl) (by kernel_rfl)
  iterate 10
    apply Mono.is0
    · kernel_rfl
    · intro W hW
      go_wp2
      refine ⟨rfl, rfl, Grows.refl _, ?_⟩
      unfold Oper.valAt
      go_simp
      rfl
    intro k1 a1 hk1 ha1
    simp only [Nat.reduceAdd] at hk1
    simp only [Act.put, List.setIfInBounds_toArray, List.set_cons_succ, List.set_cons_zero] at ha1
    subst hk1 ha1
  apply Mono.is0
  · kernel_rfl
  · intro W hW 
    go_wp2_with (refine wpList_load_at (by kernel_rfl) _ _ rfl ⟨go, 0, none⟩ rfl (L0s.map b8) _ Tryd.underlying32 rfl (by rw [Tryd.size32O, List.length_map, L0l.out]) ((L0).out W hW) ?_)
    rw [Hv0.out]
    exact ⟨rfl, rfl, Grows.refl _, rfl⟩
  intro k1 a1 hk1 ha1
  simp only [Nat.reduceAdd] at hk1
  simp only [Act.put, List.setIfInBounds_toArray, List.set_cons_succ, List.set_cons_zero] at ha1
  subst hk1 ha1
  iterate 2
    apply Mono.is0
    · kernel_rfl
    · intro W hW
      go_wp2
      refine ⟨rfl, rfl, Grows.refl _, ?_⟩
      unfold Oper.valAt
      go_simp
      rfl
    intro k1 a1 hk1 ha1
    simp only [Nat.reduceAdd] at hk1
    simp only [Act.put, List.setIfInBounds_toArray, List.set_cons_succ, List.set_cons_zero] at ha1
    subst hk1 ha1
  apply Mono.is0
  · kernel_rfl
  · intro W hW 
    go_wp2_with (refine wpList_load_at (by kernel_rfl) _ _ rfl ⟨go, 96, none⟩ rfl (L0s.map b8) _ Tryd.underlying32 rfl (by rw [Tryd.size32O, List.length_map, L0l.out]) ((L3).out W hW) ?_)
    rw [Hv0.out]
    exact ⟨rfl, rfl, Grows.refl _, rfl⟩
  intro k1 a1 hk1 ha1
  simp only [Nat.reduceAdd] at hk1
  simp only [Act.put, List.setIfInBounds_toArray, List.set_cons_succ, List.set_cons_zero] at ha1
  subst hk1 ha1
  apply Mono.is0
  · kernel_rfl
  · intro W hW
    have he := HE1.out W
    go_wp2
    refine ⟨rfl, rfl, Grows.refl _, ?_⟩
    unfold Oper.valAt
    go_simp
    rfl
  intro k1 a1 hk1 ha1
  simp only [Nat.reduceAdd] at hk1
  simp only [Act.put, List.setIfInBounds_toArray, List.set_cons_succ, List.set_cons_zero] at ha1
  subst hk1 ha1
  iterate 4
    apply Mono.is0
    · kernel_rfl
    · intro W hW
      go_wp2
      refine ⟨rfl, rfl, Grows.refl _, ?_⟩
      unfold Oper.valAt
      go_simp
      rfl
    intro k1 a1 hk1 ha1
    simp only [Nat.reduceAdd] at hk1
    simp only [Act.put, List.setIfInBounds_toArray, List.set_cons_succ, List.set_cons_zero] at ha1
    subst hk1 ha1
  apply Mono.is0
  · kernel_rfl
  · intro W hW 
    go_wp2_with (refine wpList_load_at (by kernel_rfl) _ _ rfl ⟨go, 0, none⟩ rfl (L0s.map b8) _ Tryd.underlying32 rfl (by rw [Tryd.size32O, List.length_map, L0l.out]) ((L0).out W hW) ?_)
    rw [Hv0.out]
    exact ⟨rfl, rfl, Grows.refl _, rfl⟩
  intro k1 a1 hk1 ha1
  simp only [Nat.reduceAdd] at hk1
  simp only [Act.put, List.setIfInBounds_toArray, List.set_cons_succ, List.set_cons_zero] at ha1
  subst hk1 ha1
  iterate 2
    apply Mono.is0
    · kernel_rfl
    · intro W hW
      go_wp2
      refine ⟨rfl, rfl, Grows.refl _, ?_⟩
      unfold Oper.valAt
      go_simp
      rfl
    intro k1 a1 hk1 ha1
    simp only [Nat.reduceAdd] at hk1
    simp only [Act.put, List.setIfInBounds_toArray, List.set_cons_succ, List.set_cons_zero] at ha1
    subst hk1 ha1
  apply Mono.is0
  · kernel_rfl
  · intro W hW 
    go_wp2_with (refine wpList_load_at (by kernel_rfl) _ _ rfl ⟨go, 128, none⟩ rfl (L4s.map b8) _ Tryd.underlying32 rfl (by rw [Tryd.size32O, List.length_map, L4l.out]) ((L4).out W hW) ?_)
    rw [Hv4.out]
    exact ⟨rfl, rfl, Grows.refl _, rfl⟩
  intro k1 a1 hk1 ha1
  simp only [Nat.reduceAdd] at hk1
  simp only [Act.put, List.setIfInBounds_toArray, List.set_cons_succ, List.set_cons_zero] at ha1
  subst hk1 ha1
  apply Mono.is0
  · kernel_rfl
  · intro W hW
    have he := HE2.out W
    go_wp2
    refine ⟨rfl, rfl, Grows.refl _, ?_⟩
    unfold Oper.valAt
    go_simp
    rfl
  intro k1 a1 hk1 ha1
  simp only [Nat.reduceAdd] at hk1
  simp only [Act.put, List.setIfInBounds_toArray, List.set_cons_succ, List.set_cons_zero] at ha1
  subst hk1 ha1
  iterate 2
    apply Mono.is0
    · kernel_rfl
    · intro W hW
      go_wp2
      refine ⟨rfl, rfl, Grows.refl _, ?_⟩
      unfold Oper.valAt
      go_simp
      rfl
    intro k1 a1 hk1 ha1
    simp only [Nat.reduceAdd] at hk1
    simp only [Act.put, List.setIfInBounds_toArray, List.set_cons_succ, List.set_cons_zero] at ha1
    subst hk1 ha1
  refine Mono.done ?_
  intro wm hgm
  simp only [allF, List.drop_succ_cons, List.drop_nil]
  have hG := Hg2.out.trans hgm
  clear hgm HE1 HE2 L0 L3 L4
  go_wp2
  go_ret
  exact ⟨rfl, hG⟩
end Go.Proofs.YtnlffaglmcddkaaDoor
