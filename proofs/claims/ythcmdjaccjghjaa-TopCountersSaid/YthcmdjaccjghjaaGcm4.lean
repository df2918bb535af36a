/-
  gcm.tag.
-/
import Derived.Test.YthcmdjaccjghjaaGcm3
import Derived.Deep.Cut
namespace Go.Proofs.Ythcmdjaccjghjaa
open Go Go.RowKit
set_option linter.unusedSimpArgs false
set_option linter.unusedVariables false


theorem slice_all16 (p : Nat) (W : World) : Sem.run Try.prog (Instr.sliceAt 23 (.pointer (some ⟨p, 0, none⟩)) none none none) W = .ok (.slice (some ⟨p, 0, none⟩) 16 16) W := by
  have hz := Try.sizeByte
  simp [Instr.sliceAt, go_sem, Try.underlying23, hz]
def tagG (E : List UInt8 → List UInt8) (f aad sealed : List UInt8) : List UInt8 := xorF (hashF E (aad.length : Int) (sealed.length : Int) [aad, sealed]) (E f)
theorem hashF_len (E : List UInt8 → List UInt8) (n m : Int) (ls : List (List UInt8)) : (hashF E n m ls).length = 16 := sumF_lenG _ _
set_option maxRecDepth 100000 in
set_option maxHeartbeats 4000000 in
theorem tag_any (B g nr : Nat) (TT ws f : List UInt8) (A : Option Addr) (n c : Nat) (aad : List UInt8) (D : Option Addr) (m d : Nat) (sl : List UInt8) (w : World) (hK : KeyR w B g TT ws nr) (h1 : 1 ≤ nr) (hnr : nr ≤ 14) (hf : f.length = 16) (ha : SB w A n c aad) (hs : SB w D m d sl) (hn : n ≤ 1000) (hm : m ≤ 1000) :
    Calls Try.prog 29 #[.pointer (some ⟨g, 0, none⟩), .agg (f.map b8).toArray, .slice A n c, .slice D m d] w fun e w' => ∃ A' c', e = .returned (.slice A' 16 c') ∧ Grows w w' ∧ SB w' A' 16 c' (tagG (encF TT ws nr) f aad sl) := by
  obtain ⟨E, HE, hE⟩ : ∃ E : List UInt8 → List UInt8, Hid (encF TT ws nr = E) ∧ Hid (∀ xs, (E xs).length = 16) := ⟨_, lib_hid rfl, lib_hid (fun xs => encF_len TT ws nr xs)⟩
  rw [HE.out]
  have hB : B ≤ w.heap.size := by obtain ⟨_, _, _, _, _, _, h, _⟩ := hK; exact h
  have HEn : Hid (∀ (xs : List UInt8) (W : World), xs.length = 16 → Grows w W → Calls Try.prog 13 #[.pointer (some ⟨g, 0, none⟩), .agg (xs.map b8).toArray] W fun e w' => e = .returned (.agg ((E xs).map b8).toArray) ∧ Grows W w') := fun xs W hx hW => by
    have := encrypt_any B g nr TT ws xs W (hK.below (hW.mono hB)) hx h1 hnr
    rw [HE.out] at this
    exact this
  have hal := lib_hid ha.len
  have hsl := lib_hid hs.len
  have HHa : Hid (∀ (R : Option Addr) (W : World), Grows w W → RowsB W R 2 2 [aad, sl] → Calls Try.prog 38 #[.pointer (some ⟨g, 0, none⟩), .int .i64 (n : Int), .int .i64 (m : Int), .slice R 2 2] W fun e w' => e = .returned (.agg ((hashF E (n : Int) (m : Int) [aad, sl]).map b8).toArray) ∧ Grows W w') := fun R W hW hR => by
    have := hash_any B g nr TT ws (n : Int) (m : Int) R 2 2 [aad, sl] W (hK.below (hW.mono hB)) h1 hnr hR (by omega) (fun i hi => by
      have h2 : i = 0 ∨ i = 1 := by omega
      rcases h2 with rfl | rfl
      · show aad.length ≤ 1000; rw [hal.out]; exact hn
      · show sl.length ≤ 1000; rw [hsl.out]; exact hm)
    rw [HE.out] at this
    exact this
  obtain ⟨hh, Hhh, hhl⟩ : ∃ hh : List UInt8, Hid (hashF E (n : Int) (m : Int) [aad, sl] = hh) ∧ Hid (hh.length = 16) := ⟨_, lib_hid rfl, lib_hid (hashF_len _ _ _ _)⟩
  obtain ⟨e1, He1, e1l⟩ : ∃ e1 : List UInt8, Hid (E f = e1) ∧ Hid (e1.length = 16) := ⟨_, lib_hid rfl, lib_hid (hE.out _)⟩
  obtain ⟨tg, Htg, tgl⟩ : ∃ tg : List UInt8, Hid (xorF hh e1 = tg) ∧ Hid (tg.length = 16) := ⟨_, lib_hid rfl, lib_hid (by rw [xorF_len, hhl.out, e1l.out]; rfl)⟩
  have HT : Hid (tagG E f aad sl = tg) := by unfold Hid tagG; rw [hal.out, hsl.out, Hhh.out, He1.out, Htg.out]
  rw [HT.out]
  obtain ⟨fc, Hfc, hfc⟩ : ∃ fc, Hid ((f.map b8).toArray = fc) ∧ fc.size = 16 := ⟨_, lib_hid rfl, by simp [hf]⟩
  obtain ⟨hc, Hhc, hhc⟩ : ∃ hc, Hid ((hh.map b8).toArray = hc) ∧ hc.size = 16 := ⟨_, lib_hid rfl, by simp [hhl.out]⟩
  obtain ⟨ec, Hec, hec⟩ : ∃ ec, Hid ((e1.map b8).toArray = ec) ∧ ec.size = 16 := ⟨_, lib_hid rfl, by simp [e1l.out]⟩
  have HHc : Hid (hc.all (·.oneCell') = true) := by unfold Hid; rw [← Hhc.out]; exact cells_all _
  have HEc : Hid (ec.all (·.oneCell') = true) := by unfold Hid; rw [← Hec.out]; exact cells_all _
  rw [Hfc.out]
  have HSa := lib_hid ha
  have HSs := lib_hid hs
  obtain ⟨p0, Hp0⟩ : ∃ p0, Hid (w.heap.size = p0) := ⟨_, lib_hid rfl⟩
  obtain ⟨W0, HW0⟩ : ∃ W0, Hid (w.alloc (.cells fc 23) = W0) := ⟨_, lib_hid rfl⟩
  have HB0 : Hid (Blk W0 p0 23 fc) := by unfold Hid; rw [← HW0.out, ← Hp0.out]; exact Blk.new w _ _
  have HG0 : Hid (Grows w W0) := by unfold Hid; rw [← HW0.out]; exact (Grows.refl w).alloc _
  clear hK ha hs
  go_enter Try.func29, Try.ntmps29
  go_upto_region 1 with fail
  rw [HW0.out, Hp0.out]
  clear HW0
  go_wp2_with fail
  obtain ⟨W1, HW1⟩ : ∃ W1, Hid (W0.alloc (.cells #[.slice A n c, .slice D m d] 26) = W1) := ⟨_, lib_hid rfl⟩
  obtain ⟨q1, Hq1⟩ : ∃ q1, Hid (W0.heap.size = q1) := ⟨_, lib_hid rfl⟩
  have HG1 : Hid (Grows W0 W1) := by unfold Hid; rw [← HW1.out]; exact (Grows.refl W0).alloc _
  have HRw : Hid (RowsB W1 (some ⟨q1, 0, none⟩) 2 2 [aad, sl]) := by
    unfold Hid; rw [← HW1.out, ← Hq1.out]
    exact rows_two (Blk.new W0 26 _) ((HSa.out.grows HG0.out).grows ((Grows.refl _).alloc _)) ((HSs.out.grows HG0.out).grows ((Grows.refl _).alloc _))
  rw [HW1.out, Hq1.out]
  have HH1 : Hid (Calls Try.prog 38 #[.pointer (some ⟨g, 0, none⟩), .int .i64 (n : Int), .int .i64 (m : Int), .slice (some ⟨q1, 0, none⟩) 2 2] W1 fun e w' => e = .returned (.agg hc) ∧ Grows W1 w') := by
    rw [← Hhc.out, ← Hhh.out]; exact HHa.out _ W1 (HG0.out.trans HG1.out) HRw.out
  refine HH1.out.mono ?_
  rintro e w2 ⟨rfl, hg2⟩
  have HBz : Hid (Blk (w2.alloc (.cells #[.int .u8 0, .int .u8 0, .int .u8 0, .int .u8 0, .int .u8 0, .int .u8 0, .int .u8 0, .int .u8 0, .int .u8 0, .int .u8 0, .int .u8 0, .int .u8 0, .int .u8 0, .int .u8 0, .int .u8 0, .int .u8 0] 23)) w2.heap.size 23 #[.int .u8 0, .int .u8 0, .int .u8 0, .int .u8 0, .int .u8 0, .int .u8 0, .int .u8 0, .int .u8 0, .int .u8 0, .int .u8 0, .int .u8 0, .int .u8 0, .int .u8 0, .int .u8 0, .int .u8 0, .int .u8 0]) := lib_hid (Blk.new w2 _ _)
  have HG2 : Hid (Grows W0 w2) := lib_hid (HG1.out.trans hg2)
  clear hg2 HH1 HRw HW1 HG1 Hq1
  go_upto_region 2 with (refine wpList_store_blk rfl _ _ _ rfl w2.heap.size hc rfl rfl 23 _ HBz.out (by rw [Try.size16, hhc]) (by rw [hhc]; rfl) HHc.out w2.heap.size w2 ((Below.refl _ w2).alloc (Nat.le_refl _) _) (Nat.le_refl _) ?_; intro w3 hB3 hb3 hg3)
  obtain ⟨p9, Hp9⟩ : ∃ p9, Hid (w2.heap.size = p9) := ⟨_, lib_hid rfl⟩
  rw [Hp9.out] at hB3 ⊢
  have HB3 := lib_hid hB3
  have HG3 : Hid (Grows W0 w3) := lib_hid (HG2.out.trans (show Grows w2 w3 from hb3))
  have HB30 := lib_hid (HB0.out.grows HG3.out)
  clear hB3 hb3 hg3 HBz HG2
  have HE3 : Hid (Calls Try.prog 13 #[.pointer (some ⟨g, 0, none⟩), .agg fc] w3 fun e w' => e = .returned (.agg ec) ∧ Grows w3 w') := by
    rw [← Hfc.out, ← Hec.out, ← He1.out]; exact HEn.out f w3 hf (HG0.out.trans HG3.out)
  go_wp2_with (refine wpList_load_blk rfl _ _ rfl p0 rfl 23 fc _ HB30.out Try.underlying23 rfl (by rw [Try.size16, hfc]) ?_)
  refine HE3.out.mono ?_
  rintro e w4 ⟨rfl, hg4⟩
  have HBz : Hid (Blk (w4.alloc (.cells #[.int .u8 0, .int .u8 0, .int .u8 0, .int .u8 0, .int .u8 0, .int .u8 0, .int .u8 0, .int .u8 0, .int .u8 0, .int .u8 0, .int .u8 0, .int .u8 0, .int .u8 0, .int .u8 0, .int .u8 0, .int .u8 0] 23)) w4.heap.size 23 #[.int .u8 0, .int .u8 0, .int .u8 0, .int .u8 0, .int .u8 0, .int .u8 0, .int .u8 0, .int .u8 0, .int .u8 0, .int .u8 0, .int .u8 0, .int .u8 0, .int .u8 0, .int .u8 0, .int .u8 0, .int .u8 0]) := lib_hid (Blk.new w4 _ _)
  have HG4 : Hid (Grows W0 w4) := lib_hid (HG3.out.trans hg4)
  have HB4 := lib_hid (HB3.out.grows hg4)
  clear hg4 HE3 HB3 HB30 HG3
  go_upto_region 3 with (refine wpList_store_blk rfl _ _ _ rfl w4.heap.size ec rfl rfl 23 _ HBz.out (by rw [Try.size16, hec]) (by rw [hec]; rfl) HEc.out w4.heap.size w4 ((Below.refl _ w4).alloc (Nat.le_refl _) _) (Nat.le_refl _) ?_; intro w5 hB5 hb5 hg5)
  obtain ⟨p10, Hp10⟩ : ∃ p10, Hid (w4.heap.size = p10) := ⟨_, lib_hid rfl⟩
  rw [Hp10.out] at hB5 ⊢
  have HG5 : Hid (Grows w w5) := lib_hid (HG0.out.trans (HG4.out.trans (show Grows w4 w5 from hb5)))
  have HS9 : Hid (SB w5 (some ⟨p9, 0, none⟩) 16 16 hh) := by
    have h9 := HB4.out.grows (show Grows w4 w5 from hb5)
    rw [← Hhc.out] at h9
    have := h9.row (o := 0) (n := 16) (c := 16) (by omega) (by simp [hhl.out]) (by unfold maxLen; omega)
    rw [List.drop_zero, List.take_of_length_le (by simp [hhl.out])] at this
    exact lib_hid this
  have HS10 : Hid (SB w5 (some ⟨p10, 0, none⟩) 16 16 e1) := by
    rw [← Hec.out] at hB5
    have := hB5.row (o := 0) (n := 16) (c := 16) (by omega) (by simp [e1l.out]) (by unfold maxLen; omega)
    rw [List.drop_zero, List.take_of_length_le (by simp [e1l.out])] at this
    exact lib_hid this
  have HXo : Hid (∀ W, Grows w5 W → Calls Try.prog 15 #[.slice (some ⟨p9, 0, none⟩) 16 16, .slice (some ⟨p10, 0, none⟩) 16 16] W (NewB 5 W tg)) := fun W hW => by
    rw [← Htg.out]; exact xor_any _ _ 16 16 16 16 hh e1 W (HS9.out.grows hW) (HS10.out.grows hW) (by omega)
  have Hsl1 : Hid (∀ W, Sem.run Try.prog (Instr.sliceAt 23 (.pointer (some ⟨p9, 0, none⟩)) none none none) W = .ok (.slice (some ⟨p9, 0, none⟩) 16 16) W) := fun W => slice_all16 p9 W
  have Hsl2 : Hid (∀ W, Sem.run Try.prog (Instr.sliceAt 23 (.pointer (some ⟨p10, 0, none⟩)) none none none) W = .ok (.slice (some ⟨p10, 0, none⟩) 16 16) W) := fun W => slice_all16 p10 W
  clear hB5 hb5 hg5 HBz HB4 HG4 HEn HHa
  apply wp_region_mono 3 ((.is _, []) :: (.is _, []) :: (.pr (fun v W => ∃ A c, v = .slice A 16 c ∧ SB W A 16 c tg), []) :: []) (by kernel_rfl) (by kernel_rfl)
  apply Mono.is0
  · kernel_rfl
  · intro W hW
    have s1 := Hsl1.out W
    go_wp2
    refine ⟨rfl, rfl, Grows.refl _, ?_⟩
    unfold Oper.valAt
    go_simp
    rfl
  intro k1 a1 hk1 ha1
  simp only [Nat.reduceAdd] at hk1
  simp only [Act.put, List.setIfInBounds_toArray, List.set_cons_succ, List.set_cons_zero] at ha1
  subst hk1 ha1
  apply Mono.is0
  · kernel_rfl
  · intro W hW
    have s2 := Hsl2.out W
    go_wp2
    refine ⟨rfl, rfl, Grows.refl _, ?_⟩
    unfold Oper.valAt
    go_simp
    rfl
  intro k1 a1 hk1 ha1
  simp only [Nat.reduceAdd] at hk1
  simp only [Act.put, List.setIfInBounds_toArray, List.set_cons_succ, List.set_cons_zero] at ha1
  subst hk1 ha1
  apply Mono.pr0
  · kernel_rfl
  · exact fun v W W' hW ⟨A, c, h1, h2⟩ => ⟨A, c, h1, h2.grows hW⟩
  · intro W hW 
    go_wp2_with fail
    refine (HXo.out W hW).mono ?_
    rintro e w1 ⟨A1, n1, c1, hn1, rfl, hg1, ho1⟩
    obtain rfl : n1 = 16 := by rw [hn1.out, tgl.out]
    have HS1 := lib_hid (SB.own ho1)
    clear ho1 hn1
    go_wp2
    exact ⟨rfl, rfl, hg1, A1, c1, rfl, HS1.out⟩
  intro v2
  intro k1 a1 hk1 ha1
  simp only [Nat.reduceAdd] at hk1
  simp only [Act.put, List.setIfInBounds_toArray, List.set_cons_succ, List.set_cons_zero] at ha1
  subst hk1 ha1
  refine Mono.done ?_
  intro wm hgm
  simp only [allF, List.drop_succ_cons, List.drop_zero]
  intro g2
  obtain ⟨A9, c9, rfl, hs9⟩ := g2
  have HR := lib_hid hs9
  clear hs9
  go_wp2
  go_ret
  exact ⟨A9, c9, rfl, HG5.out.trans hgm, HR.out⟩
end Go.Proofs.Ythcmdjaccjghjaa
