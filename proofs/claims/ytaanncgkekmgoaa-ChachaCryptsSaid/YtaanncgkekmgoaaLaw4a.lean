/-
  The walks of the laws of layer 4: ChachaBack.
-/
import Derived.Test.YtaanncgkekmgoaaChacha4
import Derived.Test.YtaanncgkekmgoaaOpenKey
import Derived.Deep.Cut
namespace Go.Proofs.Ytaanncgkekmgoaa
open Go Go.RowKit
set_option linter.unusedSimpArgs false


theorem xorF_back (a s : List UInt8) (h : s.length = a.length) : xorF (xorF a s) s = a := by
  apply List.ext_getElem
  · simp [xorF, h]
  · intro i h1 h2
    simp [xorF, UInt8.xor_assoc]
theorem crypt_back (key nonce : List UInt8) (n : UInt32) (bs : List UInt8) : cryptF key nonce n (cryptF key nonce n bs) = bs := by
  have hl := cryptF_len key nonce n bs
  unfold cryptF at hl ⊢
  rw [hl]
  exact xorF_back _ _ (streamF_len _ _ _ _)

set_option maxRecDepth 100000 in
set_option maxHeartbeats 4000000 in
theorem walk_ChachaBack (key nonce : List UInt8) (ctr : UInt32) (A : Option Addr) (l c : Nat) (bs : List UInt8) (w : World) (hk : key.length = 32) (hn : nonce.length = 12) (hs : SB w A l c bs) :
    Calls Try.prog 6 #[.agg (key.map b8 ++ (nonce.map b8 ++ [b32 ctr])).toArray, .slice A l c] w fun e w' => e = .returned (.bool true) ∧ Below w.heap.size w w' := by
  obtain ⟨zs, Hz⟩ : ∃ zs : List Value, Hid (zs = key.map b8 ++ (nonce.map b8 ++ [b32 ctr])) := ⟨_, lib_hid rfl⟩
  rw [← Hz.out]
  obtain ⟨W0, HW0, hW0, hg0⟩ : ∃ W0 : World, Hid (W0 = w.alloc (.cells zs.toArray 26)) ∧ W0.heap.size = w.heap.size + 1 ∧ Grows w W0 := ⟨_, lib_hid rfl, by simp, (Grows.refl w).alloc _⟩
  have HZ : Hid (Blk W0 w.heap.size 26 zs.toArray) := by unfold Hid; rw [HW0.out]; exact Blk.new _ _ _
  have HFk : Hid (∀ W, Grows W0 W → Row W (some ⟨w.heap.size, 0, none⟩) 32 32 (key.map b8)) := fun W hW => by
    have := (HZ.out.grows hW).row (o := 0) (n := 32) (c := 32) (by omega) (by rw [Hz.out]; simp [hk, hn]) (by unfold maxLen; omega)
    rw [Hz.out] at this
    simpa [List.take_append, hk] using this
  have HFn : Hid (∀ W, Grows W0 W → Row W (some ⟨w.heap.size, 32, none⟩) 12 12 (nonce.map b8)) := fun W hW => by
    have := (HZ.out.grows hW).row (o := 32) (n := 12) (c := 12) (by omega) (by rw [Hz.out]; simp [hk, hn]) (by unfold maxLen; omega)
    rw [Hz.out] at this
    simpa [List.take_append, List.drop_append, hk, hn] using this
  have HFc : Hid (∀ W, Grows W0 W → W.cell? ⟨w.heap.size, 44, none⟩ = some (b32 ctr)) := fun W hW => by
    rw [(HZ.out.grows hW).cell, Hz.out]
    simp [List.getElem?_append_right, hk, hn]
  have hlen := lib_hid hs.len
  have HS := lib_hid (hs.grows hg0)
  by_cases hbig : 600 < l
  · have h1 : (600 : Int) < l := by omega
    clear hs hk hn
    go_enter Try.func6, Try.ntmps6
    go_wp2
    go_ret
    exact ⟨rfl, (Grows.refl w).alloc _⟩
  · have h1 : ¬ (600 : Int) < l := by omega
    have Hcr : Hid (∀ W, SB W A l c bs → Calls Try.prog 15 #[.agg (key.map b8).toArray, .agg (nonce.map b8).toArray, b32 ctr, .slice A l c] W (NewB 5 W (cryptF key nonce ctr bs))) := fun W h => crypt_any key nonce ctr A l c bs hk hn W h (by omega)
    obtain ⟨cb, Hcb, hcl⟩ : ∃ x, Hid (cryptF key nonce ctr bs = x) ∧ Hid (x.length = l) := ⟨_, lib_hid rfl, by unfold Hid; rw [cryptF_len]; exact hlen.out⟩
    have Hcr2 : Hid (∀ (A' : Option Addr) (l' c' : Nat) W, SB W A' l' c' cb → Calls Try.prog 15 #[.agg (key.map b8).toArray, .agg (nonce.map b8).toArray, b32 ctr, .slice A' l' c'] W (NewB 5 W bs)) := fun A' l' c' W h => by
      have := crypt_any key nonce ctr A' l' c' cb hk hn W h (by rw [← h.len, hcl.out]; omega)
      rw [← Hcb.out, crypt_back] at this
      exact this
    rw [Hcb.out] at Hcr
    have HW0' := HW0.out
    clear hs hk hn
    go_enter Try.func6, Try.ntmps6
    go_upto_region 3 with fail
    rw [← HW0']
    clear HW0'
    have hcc := HFc.out W0 (Grows.refl _)
    go_wp2_with (first
      | (refine wpList_load_part rfl _ _ rfl ⟨w.heap.size, 0, none⟩ rfl 32 32 (key.map b8) _ (HFk.out W0 (Grows.refl _)) Try.underlying22 rfl Try.size32 ?_)
      | (refine wpList_load_part rfl _ _ rfl ⟨w.heap.size, 32, none⟩ rfl 12 12 (nonce.map b8) _ (HFn.out W0 (Grows.refl _)) Try.underlying23 rfl Try.size12 ?_))
    refine (Hcr.out W0 HS.out).mono ?_
    rintro e w1 ⟨A1, n1, c1, hn1, rfl, hg1, ho1⟩
    obtain rfl : n1 = l := by rw [hn1.out]; exact hcl.out
    have HS1 := lib_hid (SB.own ho1)
    have hgw := hg0.trans hg1
    clear ho1 hcc
    go_upto_region 4 with fail
    apply wp_region_mono 23 ((.is _, []) :: (.is _, []) :: (.is _, []) :: (.is _, []) :: (.is _, []) :: (.is _, []) :: (.is _, []) :: (.is (.agg (key.map b8).toArray), []) :: (.is _, []) :: (.is (.agg (nonce.map b8).toArray), []) :: (.is _, []) :: (.is _, []) :: (.is _, []) :: (.pr (fun v W => ∃ A n c, v = .slice A n c ∧ SB W A n c (bs)), []) :: (.is _, [13]) :: (.is _, []) :: (.is _, []) :: (.is _, []) :: (.is _, []) :: (.is _, []) :: (.is (.bool true), []) :: (.is _, []) :: (.is _, []) :: []) (by kernel_rfl) (by kernel_rfl)
    iterate 7
      apply Mono.is0
      · kernel_rfl
      · intro W hW
        go_wp2
        refine ⟨rfl, rfl, Grows.refl _, ?_⟩
        unfold Oper.valAt
        go_simp
        rfl
      intro k1 a1 hk1 ha1
      simp only [Nat.reduceAdd] at hk1
      simp only [Act.put, List.setIfInBounds_toArray, List.set_cons_succ, List.set_cons_zero] at ha1
      subst hk1 ha1
    apply Mono.is0
    · kernel_rfl
    · intro W hW 
      go_wp2_with (refine wpList_load_part (by kernel_rfl) _ _ rfl ⟨w.heap.size, 0, none⟩ rfl 32 32 (key.map b8) _ (HFk.out W (hg1.trans hW)) Try.underlying22 rfl Try.size32 ?_)
      exact ⟨rfl, rfl, Grows.refl _, rfl⟩
    intro k1 a1 hk1 ha1
    simp only [Nat.reduceAdd] at hk1
    simp only [Act.put, List.setIfInBounds_toArray, List.set_cons_succ, List.set_cons_zero] at ha1
    subst hk1 ha1
    apply Mono.is0
    · kernel_rfl
    · intro W hW
      go_wp2
      refine ⟨rfl, rfl, Grows.refl _, ?_⟩
      unfold Oper.valAt
      go_simp
      rfl
    intro k1 a1 hk1 ha1
    simp only [Nat.reduceAdd] at hk1
    simp only [Act.put, List.setIfInBounds_toArray, List.set_cons_succ, List.set_cons_zero] at ha1
    subst hk1 ha1
    apply Mono.is0
    · kernel_rfl
    · intro W hW 
      go_wp2_with (refine wpList_load_part (by kernel_rfl) _ _ rfl ⟨w.heap.size, 32, none⟩ rfl 12 12 (nonce.map b8) _ (HFn.out W (hg1.trans hW)) Try.underlying23 rfl Try.size12 ?_)
      exact ⟨rfl, rfl, Grows.refl _, rfl⟩
    intro k1 a1 hk1 ha1
    simp only [Nat.reduceAdd] at hk1
    simp only [Act.put, List.setIfInBounds_toArray, List.set_cons_succ, List.set_cons_zero] at ha1
    subst hk1 ha1
    apply Mono.is0
    · kernel_rfl
    · intro W hW
      go_wp2
      refine ⟨rfl, rfl, Grows.refl _, ?_⟩
      unfold Oper.valAt
      go_simp
      rfl
    intro k1 a1 hk1 ha1
    simp only [Nat.reduceAdd] at hk1
    simp only [Act.put, List.setIfInBounds_toArray, List.set_cons_succ, List.set_cons_zero] at ha1
    subst hk1 ha1
    apply Mono.is0
    · kernel_rfl
    · intro W hW
      have hcc := HFc.out W (hg1.trans hW)
      go_wp2
      refine ⟨rfl, rfl, Grows.refl _, ?_⟩
      unfold Oper.valAt
      go_simp
      rfl
    intro k1 a1 hk1 ha1
    simp only [Nat.reduceAdd] at hk1
    simp only [Act.put, List.setIfInBounds_toArray, List.set_cons_succ, List.set_cons_zero] at ha1
    subst hk1 ha1
    apply Mono.is0
    · kernel_rfl
    · intro W hW
      go_wp2
      refine ⟨rfl, rfl, Grows.refl _, ?_⟩
      unfold Oper.valAt
      go_simp
      rfl
    intro k1 a1 hk1 ha1
    simp only [Nat.reduceAdd] at hk1
    simp only [Act.put, List.setIfInBounds_toArray, List.set_cons_succ, List.set_cons_zero] at ha1
    subst hk1 ha1
    apply Mono.pr0
    · kernel_rfl
    · exact fun v W W' hW ⟨A, n, c, h1, h2⟩ => ⟨A, n, c, h1, h2.grows hW⟩
    · intro W hW 
      go_wp2_with fail
      refine (Hcr2.out A1 n1 c1 W (HS1.out.grows hW)).mono ?_
      rintro e w1 ⟨A3, n3, c3, hn3, rfl, hg3, ho3⟩
      go_wp2
      exact ⟨rfl, rfl, hg3, A3, n3, c3, rfl, SB.own ho3⟩
    intro v13
    intro k1 a1 hk1 ha1
    simp only [Nat.reduceAdd] at hk1
    simp only [Act.put, List.setIfInBounds_toArray, List.set_cons_succ, List.set_cons_zero] at ha1
    subst hk1 ha1
    apply Mono.is1
    · kernel_rfl
    · intro W hW f0
      obtain ⟨A1, n1, c1, rfl, hs⟩ := f0
      have cv := run_string_SB (P := Try.prog) Try.underlying32 Try.underlying5 Try.underlying9 hs
      go_wp2
      refine ⟨rfl, rfl, Grows.refl _, ?_⟩
      unfold Oper.valAt
      go_simp
      rfl
    intro k1 a1 hk1 ha1
    simp only [Nat.reduceAdd] at hk1
    simp only [Act.put, List.setIfInBounds_toArray, List.set_cons_succ, List.set_cons_zero] at ha1
    subst hk1 ha1
    apply Mono.is0
    · kernel_rfl
    · intro W hW
      go_wp2
      refine ⟨rfl, rfl, Grows.refl _, ?_⟩
      unfold Oper.valAt
      go_simp
      rfl
    intro k1 a1 hk1 ha1
    simp only [Nat.reduceAdd] at hk1
    simp only [Act.put, List.setIfInBounds_toArray, List.set_cons_succ, List.set_cons_zero] at ha1
    subst hk1 ha1
    apply Mono.is0
    · kernel_rfl
    · intro W hW
      have cv := run_string_SB (P := Try.prog) Try.underlying32 Try.underlying5 Try.underlying9 (HS.out.grows (hg1.trans hW))
      go_wp2
      refine ⟨rfl, rfl, Grows.refl _, ?_⟩
      unfold Oper.valAt
      go_simp
      rfl
    intro k1 a1 hk1 ha1
    simp only [Nat.reduceAdd] at hk1
    simp only [Act.put, List.setIfInBounds_toArray, List.set_cons_succ, List.set_cons_zero] at ha1
    subst hk1 ha1
    iterate 3
      apply Mono.is0
      · kernel_rfl
      · intro W hW
        go_wp2
        refine ⟨rfl, rfl, Grows.refl _, ?_⟩
        unfold Oper.valAt
        go_simp
        rfl
      intro k1 a1 hk1 ha1
      simp only [Nat.reduceAdd] at hk1
      simp only [Act.put, List.setIfInBounds_toArray, List.set_cons_succ, List.set_cons_zero] at ha1
      subst hk1 ha1
    apply Mono.is0
    · kernel_rfl
    · intro W hW 
      go_wp2_with fail
      refine (awake4_any W).mono ?_
      rintro e w1 ⟨rfl, hg1⟩
      go_wp2
      exact ⟨rfl, rfl, hg1, rfl⟩
    intro k1 a1 hk1 ha1
    simp only [Nat.reduceAdd] at hk1
    simp only [Act.put, List.setIfInBounds_toArray, List.set_cons_succ, List.set_cons_zero] at ha1
    subst hk1 ha1
    iterate 2
      apply Mono.is0
      · kernel_rfl
      · intro W hW
        go_wp2
        refine ⟨rfl, rfl, Grows.refl _, ?_⟩
        unfold Oper.valAt
        go_simp
        rfl
      intro k1 a1 hk1 ha1
      simp only [Nat.reduceAdd] at hk1
      simp only [Act.put, List.setIfInBounds_toArray, List.set_cons_succ, List.set_cons_zero] at ha1
      subst hk1 ha1
    refine Mono.done ?_
    intro wm hgm
    simp only [allF, List.drop_succ_cons, List.drop_nil]
    intro g13
    go_wp2
    go_ret
    exact ⟨rfl, hgw.trans hgm⟩

end Go.Proofs.Ytaanncgkekmgoaa
