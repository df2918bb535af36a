/-
  The walks of the laws of layer 4: ChachaCuts.
-/
import Derived.Test.YtaanncgkekmgoaaChacha4
import Derived.Test.YtaanncgkekmgoaaOpenKey
import Derived.Deep.Cut
namespace Go.Proofs.Ytaanncgkekmgoaa
open Go Go.RowKit
set_option linter.unusedSimpArgs false


theorem strN_add (key nonce : List UInt8) (n : UInt32) (q j : Nat) : strN key nonce n (q + j) = strN key nonce n q ++ strN key nonce (n + UInt32.ofNat q) j := by
  induction j with
  | zero => simp [strN]
  | succ j ih =>
    rw [← Nat.add_assoc, strN, ih, strN, List.append_assoc]
    congr 3
    rw [UInt32.ofNat_add, UInt32.add_assoc]
theorem streamF_cut (key nonce : List UInt8) (n : UInt32) (q m : Nat) (h : 64 * q ≤ m) : streamF key nonce n m = strN key nonce n q ++ streamF key nonce (n + UInt32.ofNat q) (m - 64 * q) := by
  unfold streamF
  rw [show (m + 63) / 64 = q + (m - 64 * q + 63) / 64 by omega, strN_add, List.take_append, List.take_of_length_le (by rw [strN_len]; exact h), strN_len]
theorem streamF_whole (key nonce : List UInt8) (n : UInt32) (q : Nat) : streamF key nonce n (64 * q) = strN key nonce n q := by
  unfold streamF
  rw [show (64 * q + 63) / 64 = q by omega, List.take_of_length_le (by rw [strN_len]; omega)]
theorem crypt_cut (key nonce : List UInt8) (n : UInt32) (bs : List UInt8) (q : Nat) (h : 64 * q ≤ bs.length) :
    cryptF key nonce n (bs.take (64 * q)) ++ cryptF key nonce (n + UInt32.ofNat q) (bs.drop (64 * q)) = cryptF key nonce n bs := by
  have e : cryptF key nonce n bs = xorF (bs.take (64 * q) ++ bs.drop (64 * q)) (streamF key nonce n bs.length) := by rw [List.take_append_drop]; rfl
  rw [e, streamF_cut key nonce n q _ h]
  unfold cryptF xorF
  rw [List.length_take, Nat.min_eq_left h, streamF_whole, List.length_drop]
  refine (List.zipWith_append (by rw [List.length_take, strN_len]; omega)).symm

theorem SB.from {w : World} {A : Option Addr} {l c k : Nat} {bs : List UInt8} (h : SB w A l c bs) (hk : k ≤ l) : SB w (if c = k then A else A.map (·.add k)) (l - k) (c - k) (bs.drop k) := by
  obtain ⟨h1, h2, h3, h4, h5⟩ := h
  refine ⟨by rw [List.length_map, List.length_drop, ← h1, List.length_map], by omega, by omega, fun e => ?_, fun hpos => ?_⟩
  · by_cases hc : c = k
    · omega
    · rw [if_neg hc] at e
      cases A with
      | none => have := h4 rfl; omega
      | some a => cases e
  · obtain ⟨b, off, rfl, hb, hcell⟩ := h5 (by omega)
    refine ⟨b, off + k, by rw [if_neg (by omega), Option.map_some, add_zero_spot], hb, fun j hj => ?_⟩
    rw [Nat.add_assoc, hcell (k + j) (by omega), List.map_drop, List.getElem?_drop]

set_option maxRecDepth 100000 in
set_option maxHeartbeats 4000000 in
theorem walk_ChachaCuts (key nonce : List UInt8) (ctr : UInt32) (A : Option Addr) (l c : Nat) (bs : List UInt8) (x : UInt8) (w : World) (hk : key.length = 32) (hn : nonce.length = 12) (hs : SB w A l c bs) :
    Calls Try.prog 7 #[.agg (key.map b8 ++ (nonce.map b8 ++ [b32 ctr])).toArray, .slice A l c, .int .u8 x.toNat] w fun e w' => e = .returned (.bool true) ∧ Below w.heap.size w w' := by
  obtain ⟨zs, Hz⟩ : ∃ zs : List Value, Hid (zs = key.map b8 ++ (nonce.map b8 ++ [b32 ctr])) := ⟨_, lib_hid rfl⟩
  rw [← Hz.out]
  obtain ⟨W0, HW0, hW0, hg0⟩ : ∃ W0 : World, Hid (W0 = w.alloc (.cells zs.toArray 26)) ∧ W0.heap.size = w.heap.size + 1 ∧ Grows w W0 := ⟨_, lib_hid rfl, by simp, (Grows.refl w).alloc _⟩
  have HZ : Hid (Blk W0 w.heap.size 26 zs.toArray) := by unfold Hid; rw [HW0.out]; exact Blk.new _ _ _
  have HFk : Hid (∀ W, Grows W0 W → Row W (some ⟨w.heap.size, 0, none⟩) 32 32 (key.map b8)) := fun W hW => by
    have := (HZ.out.grows hW).row (o := 0) (n := 32) (c := 32) (by omega) (by rw [Hz.out]; simp [hk, hn]) (by unfold maxLen; omega)
    rw [Hz.out] at this
    simpa [List.take_append, hk] using this
  have HFn : Hid (∀ W, Grows W0 W → Row W (some ⟨w.heap.size, 32, none⟩) 12 12 (nonce.map b8)) := fun W hW => by
    have := (HZ.out.grows hW).row (o := 32) (n := 12) (c := 12) (by omega) (by rw [Hz.out]; simp [hk, hn]) (by unfold maxLen; omega)
    rw [Hz.out] at this
    simpa [List.take_append, List.drop_append, hk, hn] using this
  have HFc : Hid (∀ W, Grows W0 W → W.cell? ⟨w.heap.size, 44, none⟩ = some (b32 ctr)) := fun W hW => by
    rw [(HZ.out.grows hW).cell, Hz.out]
    simp [List.getElem?_append_right, hk, hn]
  have hlen := lib_hid hs.len
  have HS := lib_hid (hs.grows hg0)
  have hcap := hs.cap
  have hx := u8_lt x
  by_cases hbig : 600 < l
  · have h1 : (600 : Int) < l := by omega
    clear hs hk hn
    go_enter Try.func7, Try.ntmps7
    go_wp2
    go_ret
    exact ⟨rfl, (Grows.refl w).alloc _⟩
  have h1 : ¬ (600 : Int) < l := by omega
  obtain ⟨r, hr, hr10⟩ : ∃ r : Nat, (wrap64 (x.toNat : Int)).tmod 10 = (r : Int) ∧ r < 10 := ⟨x.toNat % 10, by rw [show wrap64 (x.toNat : Int) = x.toNat by unfold wrap64; omega, Int.tmod_eq_emod_of_nonneg (by omega)]; omega, Nat.mod_lt _ (by omega)⟩
  obtain ⟨q, hq, Hq, hq10⟩ : ∃ q : Nat, (l : Int).tdiv 64 = (q : Int) ∧ Hid (l / 64 = q) ∧ q ≤ 10 := ⟨l / 64, by rw [Int.tdiv_eq_ediv_of_nonneg (by omega)]; omega, lib_hid rfl, by omega⟩
  obtain ⟨p1, hp1, Hp1⟩ : ∃ p : Nat, 64 * (r : Int) = (p : Int) ∧ Hid (p = 64 * r) := ⟨64 * r, by omega, lib_hid rfl⟩
  obtain ⟨p2, hp2, Hp2⟩ : ∃ p : Nat, (q : Int) * 64 = (p : Int) ∧ Hid (p = 64 * q) := ⟨64 * q, by omega, lib_hid rfl⟩
  have gen : ∀ k, Hid (∃ q2, k = 64 * q2 ∧ k ≤ l) → ∃ (q2 : Nat) (qk nk : UInt32) (x1 x2 : List UInt8), Hid ((k : Int).tdiv 64 = (q2 : Int)) ∧ Hid (IntKind.u32.wrap (q2 : Int) = (qk.toNat : Int)) ∧ Hid (IntKind.u32.wrap ((ctr.toNat : Int) + (qk.toNat : Int)) = (nk.toNat : Int)) ∧ k ≤ l ∧ q2 ≤ 10 ∧ Hid (x1.length ≤ 600 ∧ x2.length ≤ 600) ∧
      Hid (x1 ++ x2 = cryptF key nonce ctr bs) ∧
      Hid (∀ W, SB W A k c (bs.take k) → Calls Try.prog 15 #[.agg (key.map b8).toArray, .agg (nonce.map b8).toArray, b32 ctr, .slice A k c] W (NewB 5 W x1)) ∧
      Hid (∀ A2 c2 W, SB W A2 (l - k) c2 (bs.drop k) → Calls Try.prog 15 #[.agg (key.map b8).toArray, .agg (nonce.map b8).toArray, b32 nk, .slice A2 (l - k) c2] W (NewB 5 W x2)) := by
    rintro k ⟨q2, rfl, hkl⟩
    refine ⟨q2, UInt32.ofNat q2, ctr + UInt32.ofNat q2, _, _, by unfold Hid; rw [Int.tdiv_eq_ediv_of_nonneg (by omega)]; omega, u32_wrap_nat q2, u32_wrap_add _ _, hkl, by omega, ⟨by rw [cryptF_len, List.length_take]; omega, by rw [cryptF_len, List.length_drop, hlen.out]; omega⟩, ?_, fun W h => crypt_any key nonce ctr A _ c _ hk hn W h (by omega), fun A2 c2 W h => crypt_any key nonce _ A2 _ c2 _ hk hn W h (by omega)⟩
    exact crypt_cut key nonce ctr bs q2 (by rw [hlen.out]; exact hkl)
  have Hcr : Hid (∀ W, SB W A l c bs → Calls Try.prog 15 #[.agg (key.map b8).toArray, .agg (nonce.map b8).toArray, b32 ctr, .slice A l c] W (NewB 5 W (cryptF key nonce ctr bs))) := fun W h => crypt_any key nonce ctr A l c bs hk hn W h (by omega)
  obtain ⟨all, Hall⟩ : ∃ y, Hid (cryptF key nonce ctr bs = y) := ⟨_, lib_hid rfl⟩
  rw [Hall.out] at Hcr gen
  have HW0' := HW0.out
  by_cases hle : p1 ≤ p2
  · obtain ⟨q2, qk, nk, x1, x2, Hq2, Hqk, Hnk, hkl, hq2s, Hxl, Hx, Hc1, Hc2⟩ := gen p1 ⟨r, Hp1.out, by rw [Hp1.out]; have := Hp2.out; have := Hq.out; omega⟩
    have Hxs : Hid ((x1 ++ x2 : List UInt8) = all) := Hx
    have hkc : (p1 : Int) ≤ (c : Int) := by omega
    have hkl' : (p1 : Int) ≤ (l : Int) := by omega
    clear hs hk hn gen hx
    go_enter Try.func7, Try.ntmps7
    go_upto_region 4 with fail
    rw [← HW0']
    clear HW0' hp1 hp2 hr hq hle hr10 hq10 h1
    apply wp_region_mono 10 ((.is _, []) :: (.is (.agg (key.map b8).toArray), []) :: (.is _, []) :: (.is (.agg (nonce.map b8).toArray), []) :: (.is _, []) :: (.is _, []) :: (.is _, []) :: (.is _, []) :: (.is _, []) :: (.pr (fun v W => ∃ A n c, v = .slice A n c ∧ SB W A n c (x1)), []) :: []) (by kernel_rfl) (by kernel_rfl)
    apply Mono.is0
    · kernel_rfl
    · intro W hW
      go_wp2
      refine ⟨rfl, rfl, Grows.refl _, ?_⟩
      unfold Oper.valAt
      go_simp
      rfl
    intro k1 a1 hk1 ha1
    simp only [Nat.reduceAdd] at hk1
    simp only [Act.put, List.setIfInBounds_toArray, List.set_cons_succ, List.set_cons_zero] at ha1
    subst hk1 ha1
    apply Mono.is0
    · kernel_rfl
    · intro W hW 
      go_wp2_with (refine wpList_load_part (by kernel_rfl) _ _ rfl ⟨w.heap.size, 0, none⟩ rfl 32 32 (key.map b8) _ (HFk.out W hW) Try.underlying22 rfl Try.size32 ?_)
      exact ⟨rfl, rfl, Grows.refl _, rfl⟩
    intro k1 a1 hk1 ha1
    simp only [Nat.reduceAdd] at hk1
    simp only [Act.put, List.setIfInBounds_toArray, List.set_cons_succ, List.set_cons_zero] at ha1
    subst hk1 ha1
    apply Mono.is0
    · kernel_rfl
    · intro W hW
      go_wp2
      refine ⟨rfl, rfl, Grows.refl _, ?_⟩
      unfold Oper.valAt
      go_simp
      rfl
    intro k1 a1 hk1 ha1
    simp only [Nat.reduceAdd] at hk1
    simp only [Act.put, List.setIfInBounds_toArray, List.set_cons_succ, List.set_cons_zero] at ha1
    subst hk1 ha1
    apply Mono.is0
    · kernel_rfl
    · intro W hW 
      go_wp2_with (refine wpList_load_part (by kernel_rfl) _ _ rfl ⟨w.heap.size, 32, none⟩ rfl 12 12 (nonce.map b8) _ (HFn.out W hW) Try.underlying23 rfl Try.size12 ?_)
      exact ⟨rfl, rfl, Grows.refl _, rfl⟩
    intro k1 a1 hk1 ha1
    simp only [Nat.reduceAdd] at hk1
    simp only [Act.put, List.setIfInBounds_toArray, List.set_cons_succ, List.set_cons_zero] at ha1
    subst hk1 ha1
    apply Mono.is0
    · kernel_rfl
    · intro W hW
      go_wp2
      refine ⟨rfl, rfl, Grows.refl _, ?_⟩
      unfold Oper.valAt
      go_simp
      rfl
    intro k1 a1 hk1 ha1
    simp only [Nat.reduceAdd] at hk1
    simp only [Act.put, List.setIfInBounds_toArray, List.set_cons_succ, List.set_cons_zero] at ha1
    subst hk1 ha1
    apply Mono.is0
    · kernel_rfl
    · intro W hW
      have hcc := HFc.out W hW
      go_wp2
      refine ⟨rfl, rfl, Grows.refl _, ?_⟩
      unfold Oper.valAt
      go_simp
      rfl
    intro k1 a1 hk1 ha1
    simp only [Nat.reduceAdd] at hk1
    simp only [Act.put, List.setIfInBounds_toArray, List.set_cons_succ, List.set_cons_zero] at ha1
    subst hk1 ha1
    iterate 3
      apply Mono.is0
      · kernel_rfl
      · intro W hW
        go_wp2
        refine ⟨rfl, rfl, Grows.refl _, ?_⟩
        unfold Oper.valAt
        go_simp
        rfl
      intro k1 a1 hk1 ha1
      simp only [Nat.reduceAdd] at hk1
      simp only [Act.put, List.setIfInBounds_toArray, List.set_cons_succ, List.set_cons_zero] at ha1
      subst hk1 ha1
    apply Mono.pr0
    · kernel_rfl
    · exact fun v W W' hW ⟨A, n, c, h1, h2⟩ => ⟨A, n, c, h1, h2.grows hW⟩
    · intro W hW 
      go_wp2_with fail
      refine (Hc1.out W ((HS.out.grows hW).pre hkl)).mono ?_
      rintro e w1 ⟨A1, n1, c1, hn1, rfl, hg1, ho1⟩
      go_wp2
      exact ⟨rfl, rfl, hg1, A1, n1, c1, rfl, SB.own ho1⟩
    intro v9
    intro k1 a1 hk1 ha1
    simp only [Nat.reduceAdd] at hk1
    simp only [Act.put, List.setIfInBounds_toArray, List.set_cons_succ, List.set_cons_zero] at ha1
    subst hk1 ha1
    refine Mono.done ?_
    intro wm hgm
    simp only [allF, List.drop_succ_cons, List.drop_zero]
    intro g9
    obtain ⟨A1, n1, c1, rfl, hs1⟩ := g9
    have HX1 := lib_hid hs1
    go_upto_region 5 with fail
    apply wp_region_mono 14 ((.is _, []) :: (.is (.agg (key.map b8).toArray), []) :: (.is _, []) :: (.is (.agg (nonce.map b8).toArray), []) :: (.is _, []) :: (.is _, []) :: (.is _, []) :: (.is (.int .i64 (q2 : Nat)), []) :: (.is (.int .u32 qk.toNat), []) :: (.is (.int .u32 nk.toNat), []) :: (.is _, []) :: (.is _, []) :: (.pr (fun v W => ∃ A2 c2, v = .slice A2 (l - p1) c2 ∧ SB W A2 (l - p1) c2 (bs.drop p1)), []) :: (.pr (fun v W => ∃ A n c, v = .slice A n c ∧ SB W A n c (x2)), [12]) :: []) (by kernel_rfl) (by kernel_rfl)
    apply Mono.is0
    · kernel_rfl
    · intro W hW
      go_wp2
      refine ⟨rfl, rfl, Grows.refl _, ?_⟩
      unfold Oper.valAt
      go_simp
      rfl
    intro k1 a1 hk1 ha1
    simp only [Nat.reduceAdd] at hk1
    simp only [Act.put, List.setIfInBounds_toArray, List.set_cons_succ, List.set_cons_zero] at ha1
    subst hk1 ha1
    apply Mono.is0
    · kernel_rfl
    · intro W hW 
      go_wp2_with (refine wpList_load_part (by kernel_rfl) _ _ rfl ⟨w.heap.size, 0, none⟩ rfl 32 32 (key.map b8) _ (HFk.out W (hgm.trans hW)) Try.underlying22 rfl Try.size32 ?_)
      exact ⟨rfl, rfl, Grows.refl _, rfl⟩
    intro k1 a1 hk1 ha1
    simp only [Nat.reduceAdd] at hk1
    simp only [Act.put, List.setIfInBounds_toArray, List.set_cons_succ, List.set_cons_zero] at ha1
    subst hk1 ha1
    apply Mono.is0
    · kernel_rfl
    · intro W hW
      go_wp2
      refine ⟨rfl, rfl, Grows.refl _, ?_⟩
      unfold Oper.valAt
      go_simp
      rfl
    intro k1 a1 hk1 ha1
    simp only [Nat.reduceAdd] at hk1
    simp only [Act.put, List.setIfInBounds_toArray, List.set_cons_succ, List.set_cons_zero] at ha1
    subst hk1 ha1
    apply Mono.is0
    · kernel_rfl
    · intro W hW 
      go_wp2_with (refine wpList_load_part (by kernel_rfl) _ _ rfl ⟨w.heap.size, 32, none⟩ rfl 12 12 (nonce.map b8) _ (HFn.out W (hgm.trans hW)) Try.underlying23 rfl Try.size12 ?_)
      exact ⟨rfl, rfl, Grows.refl _, rfl⟩
    intro k1 a1 hk1 ha1
    simp only [Nat.reduceAdd] at hk1
    simp only [Act.put, List.setIfInBounds_toArray, List.set_cons_succ, List.set_cons_zero] at ha1
    subst hk1 ha1
    apply Mono.is0
    · kernel_rfl
    · intro W hW
      go_wp2
      refine ⟨rfl, rfl, Grows.refl _, ?_⟩
      unfold Oper.valAt
      go_simp
      rfl
    intro k1 a1 hk1 ha1
    simp only [Nat.reduceAdd] at hk1
    simp only [Act.put, List.setIfInBounds_toArray, List.set_cons_succ, List.set_cons_zero] at ha1
    subst hk1 ha1
    apply Mono.is0
    · kernel_rfl
    · intro W hW
      have hcc := HFc.out W (hgm.trans hW)
      go_wp2
      refine ⟨rfl, rfl, Grows.refl _, ?_⟩
      unfold Oper.valAt
      go_simp
      rfl
    intro k1 a1 hk1 ha1
    simp only [Nat.reduceAdd] at hk1
    simp only [Act.put, List.setIfInBounds_toArray, List.set_cons_succ, List.set_cons_zero] at ha1
    subst hk1 ha1
    apply Mono.is0
    · kernel_rfl
    · intro W hW
      go_wp2
      refine ⟨rfl, rfl, Grows.refl _, ?_⟩
      unfold Oper.valAt
      go_simp
      rfl
    intro k1 a1 hk1 ha1
    simp only [Nat.reduceAdd] at hk1
    simp only [Act.put, List.setIfInBounds_toArray, List.set_cons_succ, List.set_cons_zero] at ha1
    subst hk1 ha1
    apply Mono.is0
    · kernel_rfl
    · intro W hW 
      have hfact := Hq2.out
      go_wp2
      refine ⟨rfl, rfl, Grows.refl _, ?_⟩
      unfold Oper.valAt
      go_simp
    intro k1 a1 hk1 ha1
    simp only [Nat.reduceAdd] at hk1
    simp only [Act.put, List.setIfInBounds_toArray, List.set_cons_succ, List.set_cons_zero] at ha1
    subst hk1 ha1
    apply Mono.is0
    · kernel_rfl
    · intro W hW 
      have hfact := Hqk.out
      go_wp2
      refine ⟨rfl, rfl, Grows.refl _, ?_⟩
      unfold Oper.valAt
      go_simp
    intro k1 a1 hk1 ha1
    simp only [Nat.reduceAdd] at hk1
    simp only [Act.put, List.setIfInBounds_toArray, List.set_cons_succ, List.set_cons_zero] at ha1
    subst hk1 ha1
    apply Mono.is0
    · kernel_rfl
    · intro W hW 
      have hfact := Hnk.out
      go_wp2
      refine ⟨rfl, rfl, Grows.refl _, ?_⟩
      unfold Oper.valAt
      go_simp
    intro k1 a1 hk1 ha1
    simp only [Nat.reduceAdd] at hk1
    simp only [Act.put, List.setIfInBounds_toArray, List.set_cons_succ, List.set_cons_zero] at ha1
    subst hk1 ha1
    iterate 2
      apply Mono.is0
      · kernel_rfl
      · intro W hW
        go_wp2
        refine ⟨rfl, rfl, Grows.refl _, ?_⟩
        unfold Oper.valAt
        go_simp
        rfl
      intro k1 a1 hk1 ha1
      simp only [Nat.reduceAdd] at hk1
      simp only [Act.put, List.setIfInBounds_toArray, List.set_cons_succ, List.set_cons_zero] at ha1
      subst hk1 ha1
    apply Mono.pr0
    · kernel_rfl
    · exact fun v W W' hW ⟨A, c, h1, h2⟩ => ⟨A, c, h1, h2.grows hW⟩
    · intro W hW 
      have hsW := HS.out.grows (hgm.trans hW)
      go_wp2
      all_goals refine ⟨rfl, rfl, Grows.refl _, _, _, rfl, ?_⟩
      all_goals have hfr := SB.from hsW hkl
      all_goals rcases Nat.lt_or_ge p1 c with hc | hc
      all_goals first | (rw [if_neg (show ¬ c = p1 by omega)] at hfr; exact hfr) | (rw [if_pos (show c = p1 by omega), show c - p1 = 0 by omega] at hfr; exact hfr) | (exfalso; omega)
    intro v12
    intro k1 a1 hk1 ha1
    simp only [Nat.reduceAdd] at hk1
    simp only [Act.put, List.setIfInBounds_toArray, List.set_cons_succ, List.set_cons_zero] at ha1
    subst hk1 ha1
    apply Mono.pr1
    · kernel_rfl
    · exact fun v W W' hW ⟨A, n, c, h1, h2⟩ => ⟨A, n, c, h1, h2.grows hW⟩
    · intro W hW f0
      obtain ⟨A2, c2, rfl, hs2⟩ := f0
      go_wp2_with fail
      refine (Hc2.out A2 c2 W hs2).mono ?_
      rintro e w1 ⟨A1, n1, c1, hn1, rfl, hg1, ho1⟩
      go_wp2
      exact ⟨rfl, rfl, hg1, A1, n1, c1, rfl, SB.own ho1⟩
    intro v13
    intro k1 a1 hk1 ha1
    simp only [Nat.reduceAdd] at hk1
    simp only [Act.put, List.setIfInBounds_toArray, List.set_cons_succ, List.set_cons_zero] at ha1
    subst hk1 ha1
    refine Mono.done ?_
    intro wn hgn
    simp only [allF, List.drop_succ_cons, List.drop_zero]
    intro g13 g12
    obtain ⟨A2, n2, c2, rfl, hs2⟩ := g13
    have HX2 := lib_hid hs2
    clear g12
    go_upto_region 6 with fail
    apply wp_region_mono 19 ((.is _, []) :: (.is _, []) :: (.is _, []) :: (.is _, []) :: (.is (.string ⟨all.toArray⟩), []) :: (.is _, []) :: (.is (.agg (key.map b8).toArray), []) :: (.is _, []) :: (.is (.agg (nonce.map b8).toArray), []) :: (.is _, []) :: (.is _, []) :: (.is _, []) :: (.pr (fun v W => ∃ A n c, v = .slice A n c ∧ SB W A n c (all)), []) :: (.is _, [12]) :: (.is _, []) :: (.is _, []) :: (.is (.bool true), []) :: (.is _, []) :: (.is _, []) :: []) (by kernel_rfl) (by kernel_rfl)
    apply Mono.is0
    · kernel_rfl
    · intro W hW
      go_wp2
      refine ⟨rfl, rfl, Grows.refl _, ?_⟩
      unfold Oper.valAt
      go_simp
      rfl
    intro k1 a1 hk1 ha1
    simp only [Nat.reduceAdd] at hk1
    simp only [Act.put, List.setIfInBounds_toArray, List.set_cons_succ, List.set_cons_zero] at ha1
    subst hk1 ha1
    apply Mono.is0
    · kernel_rfl
    · intro W hW
      have cv := run_string_SB (P := Try.prog) Try.underlying32 Try.underlying5 Try.underlying9 (HX1.out.grows (hgn.trans hW))
      go_wp2
      refine ⟨rfl, rfl, Grows.refl _, ?_⟩
      unfold Oper.valAt
      go_simp
      rfl
    intro k1 a1 hk1 ha1
    simp only [Nat.reduceAdd] at hk1
    simp only [Act.put, List.setIfInBounds_toArray, List.set_cons_succ, List.set_cons_zero] at ha1
    subst hk1 ha1
    apply Mono.is0
    · kernel_rfl
    · intro W hW
      go_wp2
      refine ⟨rfl, rfl, Grows.refl _, ?_⟩
      unfold Oper.valAt
      go_simp
      rfl
    intro k1 a1 hk1 ha1
    simp only [Nat.reduceAdd] at hk1
    simp only [Act.put, List.setIfInBounds_toArray, List.set_cons_succ, List.set_cons_zero] at ha1
    subst hk1 ha1
    apply Mono.is0
    · kernel_rfl
    · intro W hW
      have cv := run_string_SB (P := Try.prog) Try.underlying32 Try.underlying5 Try.underlying9 (HX2.out.grows hW)
      go_wp2
      refine ⟨rfl, rfl, Grows.refl _, ?_⟩
      unfold Oper.valAt
      go_simp
      rfl
    intro k1 a1 hk1 ha1
    simp only [Nat.reduceAdd] at hk1
    simp only [Act.put, List.setIfInBounds_toArray, List.set_cons_succ, List.set_cons_zero] at ha1
    subst hk1 ha1
    apply Mono.is0
    · kernel_rfl
    · intro W hW 
      obtain ⟨hl1, hl2⟩ := Hxl.out
      have hadd := run_string_add_lists (P := Try.prog) (w := W) x1 x2 (by omega) (by omega)
      rw [Hxs.out] at hadd
      go_wp2
      refine ⟨rfl, rfl, Grows.refl _, ?_⟩
      unfold Oper.valAt
      go_simp
      first | done | rw [ByteArray.mk_append_mk, Hxs.out] | rw [Hxs.out] | simp [ByteArray.mk_append_mk, Hxs.out]
    intro k1 a1 hk1 ha1
    simp only [Nat.reduceAdd] at hk1
    simp only [Act.put, List.setIfInBounds_toArray, List.set_cons_succ, List.set_cons_zero] at ha1
    subst hk1 ha1
    apply Mono.is0
    · kernel_rfl
    · intro W hW
      go_wp2
      refine ⟨rfl, rfl, Grows.refl _, ?_⟩
      unfold Oper.valAt
      go_simp
      rfl
    intro k1 a1 hk1 ha1
    simp only [Nat.reduceAdd] at hk1
    simp only [Act.put, List.setIfInBounds_toArray, List.set_cons_succ, List.set_cons_zero] at ha1
    subst hk1 ha1
    apply Mono.is0
    · kernel_rfl
    · intro W hW 
      go_wp2_with (refine wpList_load_part (by kernel_rfl) _ _ rfl ⟨w.heap.size, 0, none⟩ rfl 32 32 (key.map b8) _ (HFk.out W ((hgm.trans hgn).trans hW)) Try.underlying22 rfl Try.size32 ?_)
      exact ⟨rfl, rfl, Grows.refl _, rfl⟩
    intro k1 a1 hk1 ha1
    simp only [Nat.reduceAdd] at hk1
    simp only [Act.put, List.setIfInBounds_toArray, List.set_cons_succ, List.set_cons_zero] at ha1
    subst hk1 ha1
    apply Mono.is0
    · kernel_rfl
    · intro W hW
      go_wp2
      refine ⟨rfl, rfl, Grows.refl _, ?_⟩
      unfold Oper.valAt
      go_simp
      rfl
    intro k1 a1 hk1 ha1
    simp only [Nat.reduceAdd] at hk1
    simp only [Act.put, List.setIfInBounds_toArray, List.set_cons_succ, List.set_cons_zero] at ha1
    subst hk1 ha1
    apply Mono.is0
    · kernel_rfl
    · intro W hW 
      go_wp2_with (refine wpList_load_part (by kernel_rfl) _ _ rfl ⟨w.heap.size, 32, none⟩ rfl 12 12 (nonce.map b8) _ (HFn.out W ((hgm.trans hgn).trans hW)) Try.underlying23 rfl Try.size12 ?_)
      exact ⟨rfl, rfl, Grows.refl _, rfl⟩
    intro k1 a1 hk1 ha1
    simp only [Nat.reduceAdd] at hk1
    simp only [Act.put, List.setIfInBounds_toArray, List.set_cons_succ, List.set_cons_zero] at ha1
    subst hk1 ha1
    apply Mono.is0
    · kernel_rfl
    · intro W hW
      go_wp2
      refine ⟨rfl, rfl, Grows.refl _, ?_⟩
      unfold Oper.valAt
      go_simp
      rfl
    intro k1 a1 hk1 ha1
    simp only [Nat.reduceAdd] at hk1
    simp only [Act.put, List.setIfInBounds_toArray, List.set_cons_succ, List.set_cons_zero] at ha1
    subst hk1 ha1
    apply Mono.is0
    · kernel_rfl
    · intro W hW
      have hcc := HFc.out W ((hgm.trans hgn).trans hW)
      go_wp2
      refine ⟨rfl, rfl, Grows.refl _, ?_⟩
      unfold Oper.valAt
      go_simp
      rfl
    intro k1 a1 hk1 ha1
    simp only [Nat.reduceAdd] at hk1
    simp only [Act.put, List.setIfInBounds_toArray, List.set_cons_succ, List.set_cons_zero] at ha1
    subst hk1 ha1
    apply Mono.is0
    · kernel_rfl
    · intro W hW
      go_wp2
      refine ⟨rfl, rfl, Grows.refl _, ?_⟩
      unfold Oper.valAt
      go_simp
      rfl
    intro k1 a1 hk1 ha1
    simp only [Nat.reduceAdd] at hk1
    simp only [Act.put, List.setIfInBounds_toArray, List.set_cons_succ, List.set_cons_zero] at ha1
    subst hk1 ha1
    apply Mono.pr0
    · kernel_rfl
    · exact fun v W W' hW ⟨A, n, c, h1, h2⟩ => ⟨A, n, c, h1, h2.grows hW⟩
    · intro W hW 
      go_wp2_with fail
      refine (Hcr.out W (HS.out.grows ((hgm.trans hgn).trans hW))).mono ?_
      rintro e w1 ⟨A1, n1, c1, hn1, rfl, hg1, ho1⟩
      go_wp2
      exact ⟨rfl, rfl, hg1, A1, n1, c1, rfl, SB.own ho1⟩
    intro v12
    intro k1 a1 hk1 ha1
    simp only [Nat.reduceAdd] at hk1
    simp only [Act.put, List.setIfInBounds_toArray, List.set_cons_succ, List.set_cons_zero] at ha1
    subst hk1 ha1
    apply Mono.is1
    · kernel_rfl
    · intro W hW f0
      obtain ⟨A1, n1, c1, rfl, hs⟩ := f0
      have cv := run_string_SB (P := Try.prog) Try.underlying32 Try.underlying5 Try.underlying9 hs
      go_wp2
      refine ⟨rfl, rfl, Grows.refl _, ?_⟩
      unfold Oper.valAt
      go_simp
      rfl
    intro k1 a1 hk1 ha1
    simp only [Nat.reduceAdd] at hk1
    simp only [Act.put, List.setIfInBounds_toArray, List.set_cons_succ, List.set_cons_zero] at ha1
    subst hk1 ha1
    iterate 2
      apply Mono.is0
      · kernel_rfl
      · intro W hW
        go_wp2
        refine ⟨rfl, rfl, Grows.refl _, ?_⟩
        unfold Oper.valAt
        go_simp
        rfl
      intro k1 a1 hk1 ha1
      simp only [Nat.reduceAdd] at hk1
      simp only [Act.put, List.setIfInBounds_toArray, List.set_cons_succ, List.set_cons_zero] at ha1
      subst hk1 ha1
    apply Mono.is0
    · kernel_rfl
    · intro W hW 
      go_wp2_with fail
      refine (awake4_any W).mono ?_
      rintro e w1 ⟨rfl, hg1⟩
      go_wp2
      exact ⟨rfl, rfl, hg1, rfl⟩
    intro k1 a1 hk1 ha1
    simp only [Nat.reduceAdd] at hk1
    simp only [Act.put, List.setIfInBounds_toArray, List.set_cons_succ, List.set_cons_zero] at ha1
    subst hk1 ha1
    iterate 2
      apply Mono.is0
      · kernel_rfl
      · intro W hW
        go_wp2
        refine ⟨rfl, rfl, Grows.refl _, ?_⟩
        unfold Oper.valAt
        go_simp
        rfl
      intro k1 a1 hk1 ha1
      simp only [Nat.reduceAdd] at hk1
      simp only [Act.put, List.setIfInBounds_toArray, List.set_cons_succ, List.set_cons_zero] at ha1
      subst hk1 ha1
    refine Mono.done ?_
    intro wo hgo
    simp only [allF, List.drop_succ_cons, List.drop_nil]
    intro g12
    go_wp2
    go_ret
    exact ⟨rfl, ((hg0.trans hgm).trans hgn).trans hgo⟩
  · obtain ⟨q2, qk, nk, x1, x2, Hq2, Hqk, Hnk, hkl, hq2s, Hxl, Hx, Hc1, Hc2⟩ := gen p2 ⟨q, Hp2.out, by rw [Hp2.out]; have := Hq.out; omega⟩
    have Hxs : Hid ((x1 ++ x2 : List UInt8) = all) := Hx
    have hkc : (p2 : Int) ≤ (c : Int) := by omega
    have hkl' : (p2 : Int) ≤ (l : Int) := by omega
    clear hs hk hn gen hx
    go_enter Try.func7, Try.ntmps7
    go_upto_region 4 with fail
    rw [← HW0']
    clear HW0' hp1 hp2 hr hq hle hr10 hq10 h1
    apply wp_region_mono 10 ((.is _, []) :: (.is (.agg (key.map b8).toArray), []) :: (.is _, []) :: (.is (.agg (nonce.map b8).toArray), []) :: (.is _, []) :: (.is _, []) :: (.is _, []) :: (.is _, []) :: (.is _, []) :: (.pr (fun v W => ∃ A n c, v = .slice A n c ∧ SB W A n c (x1)), []) :: []) (by kernel_rfl) (by kernel_rfl)
    apply Mono.is0
    · kernel_rfl
    · intro W hW
      go_wp2
      refine ⟨rfl, rfl, Grows.refl _, ?_⟩
      unfold Oper.valAt
      go_simp
      rfl
    intro k1 a1 hk1 ha1
    simp only [Nat.reduceAdd] at hk1
    simp only [Act.put, List.setIfInBounds_toArray, List.set_cons_succ, List.set_cons_zero] at ha1
    subst hk1 ha1
    apply Mono.is0
    · kernel_rfl
    · intro W hW 
      go_wp2_with (refine wpList_load_part (by kernel_rfl) _ _ rfl ⟨w.heap.size, 0, none⟩ rfl 32 32 (key.map b8) _ (HFk.out W hW) Try.underlying22 rfl Try.size32 ?_)
      exact ⟨rfl, rfl, Grows.refl _, rfl⟩
    intro k1 a1 hk1 ha1
    simp only [Nat.reduceAdd] at hk1
    simp only [Act.put, List.setIfInBounds_toArray, List.set_cons_succ, List.set_cons_zero] at ha1
    subst hk1 ha1
    apply Mono.is0
    · kernel_rfl
    · intro W hW
      go_wp2
      refine ⟨rfl, rfl, Grows.refl _, ?_⟩
      unfold Oper.valAt
      go_simp
      rfl
    intro k1 a1 hk1 ha1
    simp only [Nat.reduceAdd] at hk1
    simp only [Act.put, List.setIfInBounds_toArray, List.set_cons_succ, List.set_cons_zero] at ha1
    subst hk1 ha1
    apply Mono.is0
    · kernel_rfl
    · intro W hW 
      go_wp2_with (refine wpList_load_part (by kernel_rfl) _ _ rfl ⟨w.heap.size, 32, none⟩ rfl 12 12 (nonce.map b8) _ (HFn.out W hW) Try.underlying23 rfl Try.size12 ?_)
      exact ⟨rfl, rfl, Grows.refl _, rfl⟩
    intro k1 a1 hk1 ha1
    simp only [Nat.reduceAdd] at hk1
    simp only [Act.put, List.setIfInBounds_toArray, List.set_cons_succ, List.set_cons_zero] at ha1
    subst hk1 ha1
    apply Mono.is0
    · kernel_rfl
    · intro W hW
      go_wp2
      refine ⟨rfl, rfl, Grows.refl _, ?_⟩
      unfold Oper.valAt
      go_simp
      rfl
    intro k1 a1 hk1 ha1
    simp only [Nat.reduceAdd] at hk1
    simp only [Act.put, List.setIfInBounds_toArray, List.set_cons_succ, List.set_cons_zero] at ha1
    subst hk1 ha1
    apply Mono.is0
    · kernel_rfl
    · intro W hW
      have hcc := HFc.out W hW
      go_wp2
      refine ⟨rfl, rfl, Grows.refl _, ?_⟩
      unfold Oper.valAt
      go_simp
      rfl
    intro k1 a1 hk1 ha1
    simp only [Nat.reduceAdd] at hk1
    simp only [Act.put, List.setIfInBounds_toArray, List.set_cons_succ, List.set_cons_zero] at ha1
    subst hk1 ha1
    iterate 3
      apply Mono.is0
      · kernel_rfl
      · intro W hW
        go_wp2
        refine ⟨rfl, rfl, Grows.refl _, ?_⟩
        unfold Oper.valAt
        go_simp
        rfl
      intro k1 a1 hk1 ha1
      simp only [Nat.reduceAdd] at hk1
      simp only [Act.put, List.setIfInBounds_toArray, List.set_cons_succ, List.set_cons_zero] at ha1
      subst hk1 ha1
    apply Mono.pr0
    · kernel_rfl
    · exact fun v W W' hW ⟨A, n, c, h1, h2⟩ => ⟨A, n, c, h1, h2.grows hW⟩
    · intro W hW 
      go_wp2_with fail
      refine (Hc1.out W ((HS.out.grows hW).pre hkl)).mono ?_
      rintro e w1 ⟨A1, n1, c1, hn1, rfl, hg1, ho1⟩
      go_wp2
      exact ⟨rfl, rfl, hg1, A1, n1, c1, rfl, SB.own ho1⟩
    intro v9
    intro k1 a1 hk1 ha1
    simp only [Nat.reduceAdd] at hk1
    simp only [Act.put, List.setIfInBounds_toArray, List.set_cons_succ, List.set_cons_zero] at ha1
    subst hk1 ha1
    refine Mono.done ?_
    intro wm hgm
    simp only [allF, List.drop_succ_cons, List.drop_zero]
    intro g9
    obtain ⟨A1, n1, c1, rfl, hs1⟩ := g9
    have HX1 := lib_hid hs1
    go_upto_region 5 with fail
    apply wp_region_mono 14 ((.is _, []) :: (.is (.agg (key.map b8).toArray), []) :: (.is _, []) :: (.is (.agg (nonce.map b8).toArray), []) :: (.is _, []) :: (.is _, []) :: (.is _, []) :: (.is (.int .i64 (q2 : Nat)), []) :: (.is (.int .u32 qk.toNat), []) :: (.is (.int .u32 nk.toNat), []) :: (.is _, []) :: (.is _, []) :: (.pr (fun v W => ∃ A2 c2, v = .slice A2 (l - p2) c2 ∧ SB W A2 (l - p2) c2 (bs.drop p2)), []) :: (.pr (fun v W => ∃ A n c, v = .slice A n c ∧ SB W A n c (x2)), [12]) :: []) (by kernel_rfl) (by kernel_rfl)
    apply Mono.is0
    · kernel_rfl
    · intro W hW
      go_wp2
      refine ⟨rfl, rfl, Grows.refl _, ?_⟩
      unfold Oper.valAt
      go_simp
      rfl
    intro k1 a1 hk1 ha1
    simp only [Nat.reduceAdd] at hk1
    simp only [Act.put, List.setIfInBounds_toArray, List.set_cons_succ, List.set_cons_zero] at ha1
    subst hk1 ha1
    apply Mono.is0
    · kernel_rfl
    · intro W hW 
      go_wp2_with (refine wpList_load_part (by kernel_rfl) _ _ rfl ⟨w.heap.size, 0, none⟩ rfl 32 32 (key.map b8) _ (HFk.out W (hgm.trans hW)) Try.underlying22 rfl Try.size32 ?_)
      exact ⟨rfl, rfl, Grows.refl _, rfl⟩
    intro k1 a1 hk1 ha1
    simp only [Nat.reduceAdd] at hk1
    simp only [Act.put, List.setIfInBounds_toArray, List.set_cons_succ, List.set_cons_zero] at ha1
    subst hk1 ha1
    apply Mono.is0
    · kernel_rfl
    · intro W hW
      go_wp2
      refine ⟨rfl, rfl, Grows.refl _, ?_⟩
      unfold Oper.valAt
      go_simp
      rfl
    intro k1 a1 hk1 ha1
    simp only [Nat.reduceAdd] at hk1
    simp only [Act.put, List.setIfInBounds_toArray, List.set_cons_succ, List.set_cons_zero] at ha1
    subst hk1 ha1
    apply Mono.is0
    · kernel_rfl
    · intro W hW 
      go_wp2_with (refine wpList_load_part (by kernel_rfl) _ _ rfl ⟨w.heap.size, 32, none⟩ rfl 12 12 (nonce.map b8) _ (HFn.out W (hgm.trans hW)) Try.underlying23 rfl Try.size12 ?_)
      exact ⟨rfl, rfl, Grows.refl _, rfl⟩
    intro k1 a1 hk1 ha1
    simp only [Nat.reduceAdd] at hk1
    simp only [Act.put, List.setIfInBounds_toArray, List.set_cons_succ, List.set_cons_zero] at ha1
    subst hk1 ha1
    apply Mono.is0
    · kernel_rfl
    · intro W hW
      go_wp2
      refine ⟨rfl, rfl, Grows.refl _, ?_⟩
      unfold Oper.valAt
      go_simp
      rfl
    intro k1 a1 hk1 ha1
    simp only [Nat.reduceAdd] at hk1
    simp only [Act.put, List.setIfInBounds_toArray, List.set_cons_succ, List.set_cons_zero] at ha1
    subst hk1 ha1
    apply Mono.is0
    · kernel_rfl
    · intro W hW
      have hcc := HFc.out W (hgm.trans hW)
      go_wp2
      refine ⟨rfl, rfl, Grows.refl _, ?_⟩
      unfold Oper.valAt
      go_simp
      rfl
    intro k1 a1 hk1 ha1
    simp only [Nat.reduceAdd] at hk1
    simp only [Act.put, List.setIfInBounds_toArray, List.set_cons_succ, List.set_cons_zero] at ha1
    subst hk1 ha1
    apply Mono.is0
    · kernel_rfl
    · intro W hW
      go_wp2
      refine ⟨rfl, rfl, Grows.refl _, ?_⟩
      unfold Oper.valAt
      go_simp
      rfl
    intro k1 a1 hk1 ha1
    simp only [Nat.reduceAdd] at hk1
    simp only [Act.put, List.setIfInBounds_toArray, List.set_cons_succ, List.set_cons_zero] at ha1
    subst hk1 ha1
    apply Mono.is0
    · kernel_rfl
    · intro W hW 
      have hfact := Hq2.out
      go_wp2
      refine ⟨rfl, rfl, Grows.refl _, ?_⟩
      unfold Oper.valAt
      go_simp
    intro k1 a1 hk1 ha1
    simp only [Nat.reduceAdd] at hk1
    simp only [Act.put, List.setIfInBounds_toArray, List.set_cons_succ, List.set_cons_zero] at ha1
    subst hk1 ha1
    apply Mono.is0
    · kernel_rfl
    · intro W hW 
      have hfact := Hqk.out
      go_wp2
      refine ⟨rfl, rfl, Grows.refl _, ?_⟩
      unfold Oper.valAt
      go_simp
    intro k1 a1 hk1 ha1
    simp only [Nat.reduceAdd] at hk1
    simp only [Act.put, List.setIfInBounds_toArray, List.set_cons_succ, List.set_cons_zero] at ha1
    subst hk1 ha1
    apply Mono.is0
    · kernel_rfl
    · intro W hW 
      have hfact := Hnk.out
      go_wp2
      refine ⟨rfl, rfl, Grows.refl _, ?_⟩
      unfold Oper.valAt
      go_simp
    intro k1 a1 hk1 ha1
    simp only [Nat.reduceAdd] at hk1
    simp only [Act.put, List.setIfInBounds_toArray, List.set_cons_succ, List.set_cons_zero] at ha1
    subst hk1 ha1
    iterate 2
      apply Mono.is0
      · kernel_rfl
      · intro W hW
        go_wp2
        refine ⟨rfl, rfl, Grows.refl _, ?_⟩
        unfold Oper.valAt
        go_simp
        rfl
      intro k1 a1 hk1 ha1
      simp only [Nat.reduceAdd] at hk1
      simp only [Act.put, List.setIfInBounds_toArray, List.set_cons_succ, List.set_cons_zero] at ha1
      subst hk1 ha1
    apply Mono.pr0
    · kernel_rfl
    · exact fun v W W' hW ⟨A, c, h1, h2⟩ => ⟨A, c, h1, h2.grows hW⟩
    · intro W hW 
      have hsW := HS.out.grows (hgm.trans hW)
      go_wp2
      all_goals refine ⟨rfl, rfl, Grows.refl _, _, _, rfl, ?_⟩
      all_goals have hfr := SB.from hsW hkl
      all_goals rcases Nat.lt_or_ge p2 c with hc | hc
      all_goals first | (rw [if_neg (show ¬ c = p2 by omega)] at hfr; exact hfr) | (rw [if_pos (show c = p2 by omega), show c - p2 = 0 by omega] at hfr; exact hfr) | (exfalso; omega)
    intro v12
    intro k1 a1 hk1 ha1
    simp only [Nat.reduceAdd] at hk1
    simp only [Act.put, List.setIfInBounds_toArray, List.set_cons_succ, List.set_cons_zero] at ha1
    subst hk1 ha1
    apply Mono.pr1
    · kernel_rfl
    · exact fun v W W' hW ⟨A, n, c, h1, h2⟩ => ⟨A, n, c, h1, h2.grows hW⟩
    · intro W hW f0
      obtain ⟨A2, c2, rfl, hs2⟩ := f0
      go_wp2_with fail
      refine (Hc2.out A2 c2 W hs2).mono ?_
      rintro e w1 ⟨A1, n1, c1, hn1, rfl, hg1, ho1⟩
      go_wp2
      exact ⟨rfl, rfl, hg1, A1, n1, c1, rfl, SB.own ho1⟩
    intro v13
    intro k1 a1 hk1 ha1
    simp only [Nat.reduceAdd] at hk1
    simp only [Act.put, List.setIfInBounds_toArray, List.set_cons_succ, List.set_cons_zero] at ha1
    subst hk1 ha1
    refine Mono.done ?_
    intro wn hgn
    simp only [allF, List.drop_succ_cons, List.drop_zero]
    intro g13 g12
    obtain ⟨A2, n2, c2, rfl, hs2⟩ := g13
    have HX2 := lib_hid hs2
    clear g12
    go_upto_region 6 with fail
    apply wp_region_mono 19 ((.is _, []) :: (.is _, []) :: (.is _, []) :: (.is _, []) :: (.is (.string ⟨all.toArray⟩), []) :: (.is _, []) :: (.is (.agg (key.map b8).toArray), []) :: (.is _, []) :: (.is (.agg (nonce.map b8).toArray), []) :: (.is _, []) :: (.is _, []) :: (.is _, []) :: (.pr (fun v W => ∃ A n c, v = .slice A n c ∧ SB W A n c (all)), []) :: (.is _, [12]) :: (.is _, []) :: (.is _, []) :: (.is (.bool true), []) :: (.is _, []) :: (.is _, []) :: []) (by kernel_rfl) (by kernel_rfl)
    apply Mono.is0
    · kernel_rfl
    · intro W hW
      go_wp2
      refine ⟨rfl, rfl, Grows.refl _, ?_⟩
      unfold Oper.valAt
      go_simp
      rfl
    intro k1 a1 hk1 ha1
    simp only [Nat.reduceAdd] at hk1
    simp only [Act.put, List.setIfInBounds_toArray, List.set_cons_succ, List.set_cons_zero] at ha1
    subst hk1 ha1
    apply Mono.is0
    · kernel_rfl
    · intro W hW
      have cv := run_string_SB (P := Try.prog) Try.underlying32 Try.underlying5 Try.underlying9 (HX1.out.grows (hgn.trans hW))
      go_wp2
      refine ⟨rfl, rfl, Grows.refl _, ?_⟩
      unfold Oper.valAt
      go_simp
      rfl
    intro k1 a1 hk1 ha1
    simp only [Nat.reduceAdd] at hk1
    simp only [Act.put, List.setIfInBounds_toArray, List.set_cons_succ, List.set_cons_zero] at ha1
    subst hk1 ha1
    apply Mono.is0
    · kernel_rfl
    · intro W hW
      go_wp2
      refine ⟨rfl, rfl, Grows.refl _, ?_⟩
      unfold Oper.valAt
      go_simp
      rfl
    intro k1 a1 hk1 ha1
    simp only [Nat.reduceAdd] at hk1
    simp only [Act.put, List.setIfInBounds_toArray, List.set_cons_succ, List.set_cons_zero] at ha1
    subst hk1 ha1
    apply Mono.is0
    · kernel_rfl
    · intro W hW
      have cv := run_string_SB (P := Try.prog) Try.underlying32 Try.underlying5 Try.underlying9 (HX2.out.grows hW)
      go_wp2
      refine ⟨rfl, rfl, Grows.refl _, ?_⟩
      unfold Oper.valAt
      go_simp
      rfl
    intro k1 a1 hk1 ha1
    simp only [Nat.reduceAdd] at hk1
    simp only [Act.put, List.setIfInBounds_toArray, List.set_cons_succ, List.set_cons_zero] at ha1
    subst hk1 ha1
    apply Mono.is0
    · kernel_rfl
    · intro W hW 
      obtain ⟨hl1, hl2⟩ := Hxl.out
      have hadd := run_string_add_lists (P := Try.prog) (w := W) x1 x2 (by omega) (by omega)
      rw [Hxs.out] at hadd
      go_wp2
      refine ⟨rfl, rfl, Grows.refl _, ?_⟩
      unfold Oper.valAt
      go_simp
      first | done | rw [ByteArray.mk_append_mk, Hxs.out] | rw [Hxs.out] | simp [ByteArray.mk_append_mk, Hxs.out]
    intro k1 a1 hk1 ha1
    simp only [Nat.reduceAdd] at hk1
    simp only [Act.put, List.setIfInBounds_toArray, List.set_cons_succ, List.set_cons_zero] at ha1
    subst hk1 ha1
    apply Mono.is0
    · kernel_rfl
    · intro W hW
      go_wp2
      refine ⟨rfl, rfl, Grows.refl _, ?_⟩
      unfold Oper.valAt
      go_simp
      rfl
    intro k1 a1 hk1 ha1
    simp only [Nat.reduceAdd] at hk1
    simp only [Act.put, List.setIfInBounds_toArray, List.set_cons_succ, List.set_cons_zero] at ha1
    subst hk1 ha1
    apply Mono.is0
    · kernel_rfl
    · intro W hW 
      go_wp2_with (refine wpList_load_part (by kernel_rfl) _ _ rfl ⟨w.heap.size, 0, none⟩ rfl 32 32 (key.map b8) _ (HFk.out W ((hgm.trans hgn).trans hW)) Try.underlying22 rfl Try.size32 ?_)
      exact ⟨rfl, rfl, Grows.refl _, rfl⟩
    intro k1 a1 hk1 ha1
    simp only [Nat.reduceAdd] at hk1
    simp only [Act.put, List.setIfInBounds_toArray, List.set_cons_succ, List.set_cons_zero] at ha1
    subst hk1 ha1
    apply Mono.is0
    · kernel_rfl
    · intro W hW
      go_wp2
      refine ⟨rfl, rfl, Grows.refl _, ?_⟩
      unfold Oper.valAt
      go_simp
      rfl
    intro k1 a1 hk1 ha1
    simp only [Nat.reduceAdd] at hk1
    simp only [Act.put, List.setIfInBounds_toArray, List.set_cons_succ, List.set_cons_zero] at ha1
    subst hk1 ha1
    apply Mono.is0
    · kernel_rfl
    · intro W hW 
      go_wp2_with (refine wpList_load_part (by kernel_rfl) _ _ rfl ⟨w.heap.size, 32, none⟩ rfl 12 12 (nonce.map b8) _ (HFn.out W ((hgm.trans hgn).trans hW)) Try.underlying23 rfl Try.size12 ?_)
      exact ⟨rfl, rfl, Grows.refl _, rfl⟩
    intro k1 a1 hk1 ha1
    simp only [Nat.reduceAdd] at hk1
    simp only [Act.put, List.setIfInBounds_toArray, List.set_cons_succ, List.set_cons_zero] at ha1
    subst hk1 ha1
    apply Mono.is0
    · kernel_rfl
    · intro W hW
      go_wp2
      refine ⟨rfl, rfl, Grows.refl _, ?_⟩
      unfold Oper.valAt
      go_simp
      rfl
    intro k1 a1 hk1 ha1
    simp only [Nat.reduceAdd] at hk1
    simp only [Act.put, List.setIfInBounds_toArray, List.set_cons_succ, List.set_cons_zero] at ha1
    subst hk1 ha1
    apply Mono.is0
    · kernel_rfl
    · intro W hW
      have hcc := HFc.out W ((hgm.trans hgn).trans hW)
      go_wp2
      refine ⟨rfl, rfl, Grows.refl _, ?_⟩
      unfold Oper.valAt
      go_simp
      rfl
    intro k1 a1 hk1 ha1
    simp only [Nat.reduceAdd] at hk1
    simp only [Act.put, List.setIfInBounds_toArray, List.set_cons_succ, List.set_cons_zero] at ha1
    subst hk1 ha1
    apply Mono.is0
    · kernel_rfl
    · intro W hW
      go_wp2
      refine ⟨rfl, rfl, Grows.refl _, ?_⟩
      unfold Oper.valAt
      go_simp
      rfl
    intro k1 a1 hk1 ha1
    simp only [Nat.reduceAdd] at hk1
    simp only [Act.put, List.setIfInBounds_toArray, List.set_cons_succ, List.set_cons_zero] at ha1
    subst hk1 ha1
    apply Mono.pr0
    · kernel_rfl
    · exact fun v W W' hW ⟨A, n, c, h1, h2⟩ => ⟨A, n, c, h1, h2.grows hW⟩
    · intro W hW 
      go_wp2_with fail
      refine (Hcr.out W (HS.out.grows ((hgm.trans hgn).trans hW))).mono ?_
      rintro e w1 ⟨A1, n1, c1, hn1, rfl, hg1, ho1⟩
      go_wp2
      exact ⟨rfl, rfl, hg1, A1, n1, c1, rfl, SB.own ho1⟩
    intro v12
    intro k1 a1 hk1 ha1
    simp only [Nat.reduceAdd] at hk1
    simp only [Act.put, List.setIfInBounds_toArray, List.set_cons_succ, List.set_cons_zero] at ha1
    subst hk1 ha1
    apply Mono.is1
    · kernel_rfl
    · intro W hW f0
      obtain ⟨A1, n1, c1, rfl, hs⟩ := f0
      have cv := run_string_SB (P := Try.prog) Try.underlying32 Try.underlying5 Try.underlying9 hs
      go_wp2
      refine ⟨rfl, rfl, Grows.refl _, ?_⟩
      unfold Oper.valAt
      go_simp
      rfl
    intro k1 a1 hk1 ha1
    simp only [Nat.reduceAdd] at hk1
    simp only [Act.put, List.setIfInBounds_toArray, List.set_cons_succ, List.set_cons_zero] at ha1
    subst hk1 ha1
    iterate 2
      apply Mono.is0
      · kernel_rfl
      · intro W hW
        go_wp2
        refine ⟨rfl, rfl, Grows.refl _, ?_⟩
        unfold Oper.valAt
        go_simp
        rfl
      intro k1 a1 hk1 ha1
      simp only [Nat.reduceAdd] at hk1
      simp only [Act.put, List.setIfInBounds_toArray, List.set_cons_succ, List.set_cons_zero] at ha1
      subst hk1 ha1
    apply Mono.is0
    · kernel_rfl
    · intro W hW 
      go_wp2_with fail
      refine (awake4_any W).mono ?_
      rintro e w1 ⟨rfl, hg1⟩
      go_wp2
      exact ⟨rfl, rfl, hg1, rfl⟩
    intro k1 a1 hk1 ha1
    simp only [Nat.reduceAdd] at hk1
    simp only [Act.put, List.setIfInBounds_toArray, List.set_cons_succ, List.set_cons_zero] at ha1
    subst hk1 ha1
    iterate 2
      apply Mono.is0
      · kernel_rfl
      · intro W hW
        go_wp2
        refine ⟨rfl, rfl, Grows.refl _, ?_⟩
        unfold Oper.valAt
        go_simp
        rfl
      intro k1 a1 hk1 ha1
      simp only [Nat.reduceAdd] at hk1
      simp only [Act.put, List.setIfInBounds_toArray, List.set_cons_succ, List.set_cons_zero] at ha1
      subst hk1 ha1
    refine Mono.done ?_
    intro wo hgo
    simp only [allF, List.drop_succ_cons, List.drop_nil]
    intro g12
    go_wp2
    go_ret
    exact ⟨rfl, ((hg0.trans hgm).trans hgn).trans hgo⟩

end Go.Proofs.Ytaanncgkekmgoaa
