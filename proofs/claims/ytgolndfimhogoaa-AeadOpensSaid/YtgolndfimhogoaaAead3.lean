/-
  The walks of package aead: Open's inner function.
-/
import Derived.Test.YtgolndfimhogoaaAead2
namespace Go.Proofs.Ytgolndfimhogoaa
open Go Go.RowKit
set_option linter.unusedSimpArgs false


def openF (key nonce aad bs : List UInt8) : List UInt8 := if bs.length < 16 then [] else if bs.drop (bs.length - 16) = tagF key nonce aad (bs.take (bs.length - 16)) then cryptF key nonce 1 (bs.take (bs.length - 16)) else []
def openE (key nonce aad bs : List UInt8) : Int := if bs.length < 16 then 17 else if bs.drop (bs.length - 16) = tagF key nonce aad (bs.take (bs.length - 16)) then 0 else 7
set_option maxRecDepth 100000 in
set_option maxHeartbeats 4000000 in
theorem open1_any (key nonce xs ys : List UInt8) (hk : key.length = 32) (hn : nonce.length = 12) (A B : Option Addr) (n c m d p1 p2 : Nat) (w : World) (ha : SB w A n c xs) (hb : SB w B m d ys) (hln : n ≤ 100000) (hlm : m ≤ 100000)
    (h1 : w.cell? ⟨p1, 0, none⟩ = some (.slice B m d)) (h2 : w.cell? ⟨p2, 0, none⟩ = some (.slice A n c)) (hp1 : p1 < w.heap.size) (hp2 : p2 < w.heap.size) :
    Calls Try.prog 21 #[.agg (key.map b8 ++ nonce.map b8).toArray, .pointer (some ⟨p1, 0, none⟩), .pointer (some ⟨p2, 0, none⟩)] w (Res2 w (openF key nonce xs ys) (openE key nonce xs ys)) := by
  obtain ⟨zs, Hz⟩ : ∃ zs : List Value, Hid (zs = key.map b8 ++ nonce.map b8) := ⟨_, lib_hid rfl⟩
  rw [← Hz.out]
  obtain ⟨W0, HW0, hg0⟩ : ∃ W0 : World, Hid (W0 = w.alloc (.cells zs.toArray 40)) ∧ Grows w W0 := ⟨_, lib_hid rfl, (Grows.refl w).alloc _⟩
  have HZ : Hid (Blk W0 w.heap.size 40 zs.toArray) := by unfold Hid; rw [HW0.out]; exact Blk.new _ _ _
  have HFk : Hid (∀ W, Grows W0 W → Row W (some ⟨w.heap.size, 0, none⟩) 32 32 (key.map b8)) := fun W hW => by
    have := (HZ.out.grows hW).row (o := 0) (n := 32) (c := 32) (by omega) (by rw [Hz.out]; simp [hk, hn]) (by unfold maxLen; omega)
    rw [Hz.out] at this
    simpa [List.take_append, hk] using this
  have HFn : Hid (∀ W, Grows W0 W → Row W (some ⟨w.heap.size, 32, none⟩) 12 12 (nonce.map b8)) := fun W hW => by
    have := (HZ.out.grows hW).row (o := 32) (n := 12) (c := 12) (by omega) (by rw [Hz.out]; simp [hk, hn]) (by unfold maxLen; omega)
    rw [Hz.out] at this
    simpa [List.take_append, List.drop_append, hk, hn, List.take_of_length_le] using this
  have zl : Hid (zs.length = 44) := by unfold Hid; rw [Hz.out]; simp [hk, hn]
  have Hcr : Hid (∀ (B : Option Addr) (m d : Nat) (bs : List UInt8) W, SB W B m d bs → m ≤ 100000 → Calls Try.prog 17 #[.agg zs.toArray, .slice B m d] W (NewB 5 W (cryptF key nonce 1 bs))) := fun B m d bs W h hm => by
    rw [Hz.out]; exact crypted_any key nonce bs hk hn B m d W h hm
  have Htg : Hid (∀ (A B : Option Addr) (n c m d : Nat) (xs ys : List UInt8) W, SB W A n c xs → SB W B m d ys → n ≤ 100000 → m ≤ 100000 → Calls Try.prog 18 #[.agg zs.toArray, .slice A n c, .slice B m d] W fun e w' => ∃ (g c : Nat), e = .returned (.slice (some ⟨g, 0, none⟩) 16 c) ∧ Grows W w' ∧ SB w' (some ⟨g, 0, none⟩) 16 c (tagF key nonce xs ys)) := fun A B n c m d xs ys W h1 h2 h3 h4 => by
    rw [Hz.out]; exact tag_any key nonce xs ys hk hn A B n c m d W h1 h2 h3 h4
  have HX := lib_hid (ha.grows hg0)
  have HY := lib_hid (hb.grows hg0)
  have hyl := hb.len
  have hcap := hb.cap
  have hmx := hb.max
  unfold maxLen at hmx
  have q1 : W0.cell? ⟨p1, 0, none⟩ = some (.slice B m d) := (hg0.cell (p := ⟨p1, 0, none⟩) hp1).trans h1
  have H1 : Hid (∀ W, Grows W0 W → W.cell? ⟨p1, 0, none⟩ = some (.slice B m d)) := fun W hW => ((hg0.trans hW).cell (p := ⟨p1, 0, none⟩) hp1).trans h1
  have H2 : Hid (∀ W, Grows W0 W → W.cell? ⟨p2, 0, none⟩ = some (.slice A n c)) := fun W hW => ((hg0.trans hW).cell (p := ⟨p2, 0, none⟩) hp2).trans h2
  have HW0' := HW0.out
  by_cases hshort : m < 16
  · have HF : Hid (openF key nonce xs ys = [] ∧ openE key nonce xs ys = 17) := by unfold Hid openF openE; rw [hyl, if_pos hshort, if_pos hshort]; exact ⟨rfl, rfl⟩
    have hs : (m : Int) - 16 < 0 := by omega
    clear ha hb hk hn hyl h1 h2 hp1 hp2
    rw [HF.out.1, HF.out.2]
    go_enter Try.func21, Try.ntmps21
    go_upto_region 1 with fail
    rw [← HW0']
    clear HW0'
    go_wp2
    go_ret2
    exact ⟨none, 0, 0, lib_hid rfl, rfl, hg0, OwnAt.nil _ _⟩
  · obtain ⟨k, hmk⟩ : ∃ k, m = k + 16 := ⟨m - 16, by omega⟩
    obtain ⟨la, Hla, lal⟩ : ∃ x, Hid (ys.drop k = x) ∧ Hid (x.length = 16) := ⟨_, lib_hid rfl, by unfold Hid; rw [List.length_drop]; omega⟩
    obtain ⟨tk, Htk, tkl⟩ : ∃ x, Hid (ys.take k = x) ∧ Hid (x.length = k) := ⟨_, lib_hid rfl, by unfold Hid; rw [List.length_take]; omega⟩
    obtain ⟨tg, Htgv, tgl⟩ : ∃ x, Hid (tagF key nonce xs tk = x) ∧ Hid (x.length = 16) := ⟨_, lib_hid rfl, tagF_len _ _ _ _⟩
    obtain ⟨pt, Hpt, ptl⟩ : ∃ x, Hid (cryptF key nonce 1 tk = x) ∧ Hid (x.length = k) := ⟨_, lib_hid rfl, by unfold Hid; rw [cryptF_len]; exact tkl.out⟩
    have HFE : Hid (openF key nonce xs ys = (if la = tg then pt else []) ∧ openE key nonce xs ys = (if la = tg then 0 else 7)) := by
      unfold Hid openF openE
      rw [hyl, if_neg hshort, if_neg hshort, show m - 16 = k by omega, Hla.out, Htk.out, Htgv.out, Hpt.out]
      exact ⟨rfl, rfl⟩
    obtain ⟨bb, ob, rfl, -, -⟩ := hb.2.2.2.2 (by omega)
    have hdk : ¬ d = k := by omega
    have hs0 : ¬ (m : Int) - 16 < 0 := by omega
    have Hsk : Hid ((m : Int) - 16 = (k : Int)) := by unfold Hid; omega
    have Hmk := lib_hid hmk
    have Hb3 : Hid ((k : Int) ≤ (m : Int) ∧ (m : Int) ≤ (d : Int) ∧ (k : Int) ≤ (d : Int) ∧ ((m : Int) - 16 = (k : Int))) := by unfold Hid; omega
    clear hs0
    have HL : Hid (SB W0 (some ⟨bb, ob + k, none⟩) 16 (d - k) la) := by
      have := HY.out.frm (k := k) (by omega)
      rw [if_neg hdk, Option.map_some, add_zero_spot, Hla.out, show m - k = 16 by omega] at this
      exact this
    have HTk : Hid (SB W0 (some ⟨bb, ob, none⟩) k d tk) := by
      have := HY.out.pre (k := k) (by omega)
      rw [Htk.out] at this
      exact this
    have Heq : Hid (∀ g c W, SB W (some ⟨bb, ob + k, none⟩) 16 (d - k) la → SB W (some ⟨g, 0, none⟩) 16 c tg → Calls Try.prog 22 #[.slice (some ⟨bb, ob + k, none⟩) 16 (d - k), .slice (some ⟨g, 0, none⟩) 16 c] W fun e w' => e = .returned (.bool (la == tg)) ∧ Grows W w') := fun g c W a1 a2 => equal_any _ _ _ _ _ _ la tg W a1 a2
    have Hdk := lib_hid hdk
    clear hdk hmk
    clear ha hb hk hn hyl h1 h2 hp1 hp2
    rw [HFE.out.1, HFE.out.2]
    by_cases hdec : la = tg
    · have hbeq : (la == tg) = true := by rw [hdec, beq_self_eq_true]
      rw [if_pos hdec, if_pos hdec]
      rw [hbeq] at Heq
      clear hbeq hdec HFE
      go_enter Try.func21, Try.ntmps21
      go_upto_region 1 with fail
      rw [← HW0']
      clear HW0'
      go_upto_region 4 with fail
      rw [Hsk.out]
      apply wp_region_mono 12 ((.is _, []) :: (.is _, []) :: (.is (.slice (some ⟨bb, ob + k, none⟩) 16 (d - k)), []) :: (.is (.agg zs.toArray), []) :: (.is _, []) :: (.is _, []) :: (.is _, []) :: (.is _, []) :: (.pr (fun v W => ∃ g c, v = .slice (some ⟨g, 0, none⟩) 16 c ∧ SB W (some ⟨g, 0, none⟩) 16 c tg), []) :: (.is (.bool true), [8]) :: (.is _, []) :: (.is _, []) :: []) (by kernel_rfl) (by kernel_rfl)
      apply Mono.is0
      · kernel_rfl
      · intro W hW
        have hcc := H1.out W hW
        go_wp2
        refine ⟨rfl, rfl, Grows.refl _, ?_⟩
        unfold Oper.valAt
        go_simp
        rfl
      intro k1 a1 hk1 ha1
      simp only [Nat.reduceAdd] at hk1
      simp only [Act.put, List.setIfInBounds_toArray, List.set_cons_succ, List.set_cons_zero] at ha1
      subst hk1 ha1
      apply Mono.is0
      · kernel_rfl
      · intro W hW
        go_wp2
        refine ⟨rfl, rfl, Grows.refl _, ?_⟩
        unfold Oper.valAt
        go_simp
        rfl
      intro k1 a1 hk1 ha1
      simp only [Nat.reduceAdd] at hk1
      simp only [Act.put, List.setIfInBounds_toArray, List.set_cons_succ, List.set_cons_zero] at ha1
      subst hk1 ha1
      apply Mono.is0
      · kernel_rfl
      · intro W hW 
        have hdk := Hdk.out
        have hmk := Hmk.out
        go_wp2
        refine ⟨rfl, rfl, Grows.refl _, ?_⟩
        unfold Oper.valAt
        go_simp
        (try omega)
      intro k1 a1 hk1 ha1
      simp only [Nat.reduceAdd] at hk1
      simp only [Act.put, List.setIfInBounds_toArray, List.set_cons_succ, List.set_cons_zero] at ha1
      subst hk1 ha1
      apply Mono.is0
      · kernel_rfl
      · intro W hW 
        go_wp2_with (refine wpList_load_blk (by kernel_rfl) _ _ rfl w.heap.size rfl 40 zs.toArray _ (HZ.out.grows hW) Try.underlying40 rfl (by rw [Try.size44s]; simp [zl.out]) ?_)
        exact ⟨rfl, rfl, Grows.refl _, rfl⟩
      intro k1 a1 hk1 ha1
      simp only [Nat.reduceAdd] at hk1
      simp only [Act.put, List.setIfInBounds_toArray, List.set_cons_succ, List.set_cons_zero] at ha1
      subst hk1 ha1
      apply Mono.is0
      · kernel_rfl
      · intro W hW
        have hcc := H2.out W hW
        go_wp2
        refine ⟨rfl, rfl, Grows.refl _, ?_⟩
        unfold Oper.valAt
        go_simp
        rfl
      intro k1 a1 hk1 ha1
      simp only [Nat.reduceAdd] at hk1
      simp only [Act.put, List.setIfInBounds_toArray, List.set_cons_succ, List.set_cons_zero] at ha1
      subst hk1 ha1
      apply Mono.is0
      · kernel_rfl
      · intro W hW
        have hcc := H1.out W hW
        go_wp2
        refine ⟨rfl, rfl, Grows.refl _, ?_⟩
        unfold Oper.valAt
        go_simp
        rfl
      intro k1 a1 hk1 ha1
      simp only [Nat.reduceAdd] at hk1
      simp only [Act.put, List.setIfInBounds_toArray, List.set_cons_succ, List.set_cons_zero] at ha1
      subst hk1 ha1
      apply Mono.is0
      · kernel_rfl
      · intro W hW
        go_wp2
        refine ⟨rfl, rfl, Grows.refl _, ?_⟩
        unfold Oper.valAt
        go_simp
        rfl
      intro k1 a1 hk1 ha1
      simp only [Nat.reduceAdd] at hk1
      simp only [Act.put, List.setIfInBounds_toArray, List.set_cons_succ, List.set_cons_zero] at ha1
      subst hk1 ha1
      apply Mono.is0
      · kernel_rfl
      · intro W hW
        have hkm := Hb3.out.1
        go_wp2
        refine ⟨rfl, rfl, Grows.refl _, ?_⟩
        unfold Oper.valAt
        go_simp
        rfl
      intro k1 a1 hk1 ha1
      simp only [Nat.reduceAdd] at hk1
      simp only [Act.put, List.setIfInBounds_toArray, List.set_cons_succ, List.set_cons_zero] at ha1
      subst hk1 ha1
      apply Mono.pr0
      · kernel_rfl
      · exact fun v W W' hW ⟨g, c, h1, h2⟩ => ⟨g, c, h1, h2.grows hW⟩
      · intro W hW 
        go_wp2_with fail
        refine (Htg.out _ _ n c k d xs tk W (HX.out.grows hW) (HTk.out.grows hW) hln (by have := Hb3.out; omega)).mono ?_
        rintro e w1 ⟨g1, c1, rfl, hg1, hs1⟩
        rw [Htgv.out] at hs1
        have HS1 := lib_hid hs1
        clear hs1
        go_wp2
        exact ⟨rfl, rfl, hg1, g1, c1, rfl, HS1.out⟩
      intro v8
      intro k1 a1 hk1 ha1
      simp only [Nat.reduceAdd] at hk1
      simp only [Act.put, List.setIfInBounds_toArray, List.set_cons_succ, List.set_cons_zero] at ha1
      subst hk1 ha1
      apply Mono.is1
      · kernel_rfl
      · intro W hW f0
        obtain ⟨g1, c1, rfl, hs1⟩ := f0
        have HS1 := lib_hid hs1
        clear hs1
        go_wp2_with fail
        refine (Heq.out g1 c1 W (HL.out.grows hW) HS1.out).mono ?_
        rintro e w1 ⟨rfl, hg1⟩
        go_wp2
        exact ⟨rfl, rfl, hg1, rfl⟩
      intro k1 a1 hk1 ha1
      simp only [Nat.reduceAdd] at hk1
      simp only [Act.put, List.setIfInBounds_toArray, List.set_cons_succ, List.set_cons_zero] at ha1
      subst hk1 ha1
      iterate 2
        apply Mono.is0
        · kernel_rfl
        · intro W hW
          go_wp2
          refine ⟨rfl, rfl, Grows.refl _, ?_⟩
          unfold Oper.valAt
          go_simp
          rfl
        intro k1 a1 hk1 ha1
        simp only [Nat.reduceAdd] at hk1
        simp only [Act.put, List.setIfInBounds_toArray, List.set_cons_succ, List.set_cons_zero] at ha1
        subst hk1 ha1
      refine Mono.done ?_
      intro wm hgm
      simp only [allF, List.drop_succ_cons, List.drop_nil]
      intro g8
      have hgr := hgm
      clear g8 q1
      go_upto_region 6 with fail
      apply wp_region_mono 5 ((.is (.agg zs.toArray), []) :: (.is _, []) :: (.is _, []) :: (.is _, []) :: (.pr (fun v W => ∃ A n c, v = .slice A n c ∧ n = k ∧ OwnAt W w.heap.size A n c (pt.map b8)), []) :: []) (by kernel_rfl) (by kernel_rfl)
      apply Mono.is0
      · kernel_rfl
      · intro W hW 
        go_wp2_with (refine wpList_load_blk (by kernel_rfl) _ _ rfl w.heap.size rfl 40 zs.toArray _ (HZ.out.grows (hgr.trans hW)) Try.underlying40 rfl (by rw [Try.size44s]; simp [zl.out]) ?_)
        exact ⟨rfl, rfl, Grows.refl _, rfl⟩
      intro k1 a1 hk1 ha1
      simp only [Nat.reduceAdd] at hk1
      simp only [Act.put, List.setIfInBounds_toArray, List.set_cons_succ, List.set_cons_zero] at ha1
      subst hk1 ha1
      apply Mono.is0
      · kernel_rfl
      · intro W hW
        have hcc := H1.out W (hgr.trans hW)
        go_wp2
        refine ⟨rfl, rfl, Grows.refl _, ?_⟩
        unfold Oper.valAt
        go_simp
        rfl
      intro k1 a1 hk1 ha1
      simp only [Nat.reduceAdd] at hk1
      simp only [Act.put, List.setIfInBounds_toArray, List.set_cons_succ, List.set_cons_zero] at ha1
      subst hk1 ha1
      apply Mono.is0
      · kernel_rfl
      · intro W hW
        go_wp2
        refine ⟨rfl, rfl, Grows.refl _, ?_⟩
        unfold Oper.valAt
        go_simp
        rfl
      intro k1 a1 hk1 ha1
      simp only [Nat.reduceAdd] at hk1
      simp only [Act.put, List.setIfInBounds_toArray, List.set_cons_succ, List.set_cons_zero] at ha1
      subst hk1 ha1
      apply Mono.is0
      · kernel_rfl
      · intro W hW
        have hkm := Hb3.out.1
        go_wp2
        refine ⟨rfl, rfl, Grows.refl _, ?_⟩
        unfold Oper.valAt
        go_simp
        rfl
      intro k1 a1 hk1 ha1
      simp only [Nat.reduceAdd] at hk1
      simp only [Act.put, List.setIfInBounds_toArray, List.set_cons_succ, List.set_cons_zero] at ha1
      subst hk1 ha1
      apply Mono.pr0
      · kernel_rfl
      · exact fun v W W' hW ⟨A, n, c, h1, h2, h3⟩ => ⟨A, n, c, h1, h2, h3.grows hW⟩
      · intro W hW 
        go_wp2_with fail
        refine (Hcr.out _ k d tk W (HTk.out.grows (hgr.trans hW)) (by have := Hb3.out; omega)).mono ?_
        rintro e w1 ⟨A1, n1, c1, hn1, rfl, hg1, ho1⟩
        rw [Hpt.out] at hn1 ho1
        have HO1 := lib_hid (own_at_base (OwnAt.of_own ho1) ((hg0.trans hgr).trans hW).le)
        have HN1 : Hid (n1 = k) := by unfold Hid; rw [hn1.out]; exact ptl.out
        clear ho1 hn1
        go_wp2
        exact ⟨rfl, rfl, hg1, A1, n1, c1, rfl, HN1.out, HO1.out⟩
      intro v4
      intro k1 a1 hk1 ha1
      simp only [Nat.reduceAdd] at hk1
      simp only [Act.put, List.setIfInBounds_toArray, List.set_cons_succ, List.set_cons_zero] at ha1
      subst hk1 ha1
      refine Mono.done ?_
      intro wm2 hgm2
      simp only [allF, List.drop_succ_cons, List.drop_zero]
      intro g4
      obtain ⟨A1, n1, c1, rfl, hn1, ho1⟩ := g4
      have HO1 := lib_hid ho1
      have HN1 := lib_hid hn1
      clear ho1 hn1
      go_wp2
      go_ret2
      exact ⟨A1, n1, c1, by unfold Hid; rw [ptl.out]; exact HN1.out, rfl, (hg0.trans hgr).trans hgm2, HO1.out⟩
    · have hbeq : (la == tg) = false := beq_eq_false_iff_ne.mpr hdec
      rw [if_neg hdec, if_neg hdec]
      rw [hbeq] at Heq
      clear hbeq hdec HFE
      go_enter Try.func21, Try.ntmps21
      go_upto_region 1 with fail
      rw [← HW0']
      clear HW0'
      go_upto_region 4 with fail
      rw [Hsk.out]
      apply wp_region_mono 12 ((.is _, []) :: (.is _, []) :: (.is (.slice (some ⟨bb, ob + k, none⟩) 16 (d - k)), []) :: (.is (.agg zs.toArray), []) :: (.is _, []) :: (.is _, []) :: (.is _, []) :: (.is _, []) :: (.pr (fun v W => ∃ g c, v = .slice (some ⟨g, 0, none⟩) 16 c ∧ SB W (some ⟨g, 0, none⟩) 16 c tg), []) :: (.is (.bool false), [8]) :: (.is _, []) :: (.is _, []) :: []) (by kernel_rfl) (by kernel_rfl)
      apply Mono.is0
      · kernel_rfl
      · intro W hW
        have hcc := H1.out W hW
        go_wp2
        refine ⟨rfl, rfl, Grows.refl _, ?_⟩
        unfold Oper.valAt
        go_simp
        rfl
      intro k1 a1 hk1 ha1
      simp only [Nat.reduceAdd] at hk1
      simp only [Act.put, List.setIfInBounds_toArray, List.set_cons_succ, List.set_cons_zero] at ha1
      subst hk1 ha1
      apply Mono.is0
      · kernel_rfl
      · intro W hW
        go_wp2
        refine ⟨rfl, rfl, Grows.refl _, ?_⟩
        unfold Oper.valAt
        go_simp
        rfl
      intro k1 a1 hk1 ha1
      simp only [Nat.reduceAdd] at hk1
      simp only [Act.put, List.setIfInBounds_toArray, List.set_cons_succ, List.set_cons_zero] at ha1
      subst hk1 ha1
      apply Mono.is0
      · kernel_rfl
      · intro W hW 
        have hdk := Hdk.out
        have hmk := Hmk.out
        go_wp2
        refine ⟨rfl, rfl, Grows.refl _, ?_⟩
        unfold Oper.valAt
        go_simp
        (try omega)
      intro k1 a1 hk1 ha1
      simp only [Nat.reduceAdd] at hk1
      simp only [Act.put, List.setIfInBounds_toArray, List.set_cons_succ, List.set_cons_zero] at ha1
      subst hk1 ha1
      apply Mono.is0
      · kernel_rfl
      · intro W hW 
        go_wp2_with (refine wpList_load_blk (by kernel_rfl) _ _ rfl w.heap.size rfl 40 zs.toArray _ (HZ.out.grows hW) Try.underlying40 rfl (by rw [Try.size44s]; simp [zl.out]) ?_)
        exact ⟨rfl, rfl, Grows.refl _, rfl⟩
      intro k1 a1 hk1 ha1
      simp only [Nat.reduceAdd] at hk1
      simp only [Act.put, List.setIfInBounds_toArray, List.set_cons_succ, List.set_cons_zero] at ha1
      subst hk1 ha1
      apply Mono.is0
      · kernel_rfl
      · intro W hW
        have hcc := H2.out W hW
        go_wp2
        refine ⟨rfl, rfl, Grows.refl _, ?_⟩
        unfold Oper.valAt
        go_simp
        rfl
      intro k1 a1 hk1 ha1
      simp only [Nat.reduceAdd] at hk1
      simp only [Act.put, List.setIfInBounds_toArray, List.set_cons_succ, List.set_cons_zero] at ha1
      subst hk1 ha1
      apply Mono.is0
      · kernel_rfl
      · intro W hW
        have hcc := H1.out W hW
        go_wp2
        refine ⟨rfl, rfl, Grows.refl _, ?_⟩
        unfold Oper.valAt
        go_simp
        rfl
      intro k1 a1 hk1 ha1
      simp only [Nat.reduceAdd] at hk1
      simp only [Act.put, List.setIfInBounds_toArray, List.set_cons_succ, List.set_cons_zero] at ha1
      subst hk1 ha1
      apply Mono.is0
      · kernel_rfl
      · intro W hW
        go_wp2
        refine ⟨rfl, rfl, Grows.refl _, ?_⟩
        unfold Oper.valAt
        go_simp
        rfl
      intro k1 a1 hk1 ha1
      simp only [Nat.reduceAdd] at hk1
      simp only [Act.put, List.setIfInBounds_toArray, List.set_cons_succ, List.set_cons_zero] at ha1
      subst hk1 ha1
      apply Mono.is0
      · kernel_rfl
      · intro W hW
        have hkm := Hb3.out.1
        go_wp2
        refine ⟨rfl, rfl, Grows.refl _, ?_⟩
        unfold Oper.valAt
        go_simp
        rfl
      intro k1 a1 hk1 ha1
      simp only [Nat.reduceAdd] at hk1
      simp only [Act.put, List.setIfInBounds_toArray, List.set_cons_succ, List.set_cons_zero] at ha1
      subst hk1 ha1
      apply Mono.pr0
      · kernel_rfl
      · exact fun v W W' hW ⟨g, c, h1, h2⟩ => ⟨g, c, h1, h2.grows hW⟩
      · intro W hW 
        go_wp2_with fail
        refine (Htg.out _ _ n c k d xs tk W (HX.out.grows hW) (HTk.out.grows hW) hln (by have := Hb3.out; omega)).mono ?_
        rintro e w1 ⟨g1, c1, rfl, hg1, hs1⟩
        rw [Htgv.out] at hs1
        have HS1 := lib_hid hs1
        clear hs1
        go_wp2
        exact ⟨rfl, rfl, hg1, g1, c1, rfl, HS1.out⟩
      intro v8
      intro k1 a1 hk1 ha1
      simp only [Nat.reduceAdd] at hk1
      simp only [Act.put, List.setIfInBounds_toArray, List.set_cons_succ, List.set_cons_zero] at ha1
      subst hk1 ha1
      apply Mono.is1
      · kernel_rfl
      · intro W hW f0
        obtain ⟨g1, c1, rfl, hs1⟩ := f0
        have HS1 := lib_hid hs1
        clear hs1
        go_wp2_with fail
        refine (Heq.out g1 c1 W (HL.out.grows hW) HS1.out).mono ?_
        rintro e w1 ⟨rfl, hg1⟩
        go_wp2
        exact ⟨rfl, rfl, hg1, rfl⟩
      intro k1 a1 hk1 ha1
      simp only [Nat.reduceAdd] at hk1
      simp only [Act.put, List.setIfInBounds_toArray, List.set_cons_succ, List.set_cons_zero] at ha1
      subst hk1 ha1
      iterate 2
        apply Mono.is0
        · kernel_rfl
        · intro W hW
          go_wp2
          refine ⟨rfl, rfl, Grows.refl _, ?_⟩
          unfold Oper.valAt
          go_simp
          rfl
        intro k1 a1 hk1 ha1
        simp only [Nat.reduceAdd] at hk1
        simp only [Act.put, List.setIfInBounds_toArray, List.set_cons_succ, List.set_cons_zero] at ha1
        subst hk1 ha1
      refine Mono.done ?_
      intro wm hgm
      simp only [allF, List.drop_succ_cons, List.drop_nil]
      intro g8
      clear g8 q1
      go_wp2
      go_ret2
      exact ⟨none, 0, 0, lib_hid rfl, rfl, hg0.trans hgm, OwnAt.nil _ _⟩

end Go.Proofs.Ytgolndfimhogoaa
