/-
  ctr.Crypt by one call; the walk of TopCounters.
-/
import Derived.Test.YthcmdjaccjghjaaGcm5
import Derived.Test.YthcmdjaccjghjaaCtr3
import Derived.Deep.Cut
namespace Go.Proofs.Ythcmdjaccjghjaa
open Go Go.RowKit
set_option linter.unusedSimpArgs false
set_option linter.unusedVariables false


set_option maxRecDepth 100000 in
set_option maxHeartbeats 4000000 in
theorem ctrTop_any (B0 g nr : Nat) (TT ws iv b : List UInt8) (A : Option Addr) (n c : Nat) (w : World) (hK : KeyR w B0 g TT ws nr) (h1 : 1 ≤ nr) (hnr : nr ≤ 14) (hx : iv.length = 16) (hb : SB w A n c b) (hn : n ≤ 1000) :
    Calls Try.prog 16 #[.pointer (some ⟨g, 0, none⟩), .agg (iv.map b8).toArray, .slice A n c] w fun e w' => ∃ A' c', e = .returned (.slice A' n c') ∧ Grows w w' ∧ SB w' A' n c' (ctrF (encF TT ws nr) iv b) := by
  have hBw : B0 ≤ w.heap.size := by obtain ⟨_, _, _, _, _, _, h, _⟩ := hK; exact h
  obtain ⟨cs, Hcs, hcs⟩ : ∃ cs, Hid ((iv.map b8).toArray = cs) ∧ cs.size = 16 := ⟨_, lib_hid rfl, by simp [hx]⟩
  obtain ⟨p0, Hp0⟩ : ∃ p0, Hid (w.heap.size = p0) := ⟨_, lib_hid rfl⟩
  obtain ⟨W0, HW0⟩ : ∃ W0, Hid (w.alloc (.cells cs 23) = W0) := ⟨_, lib_hid rfl⟩
  have HB0 : Hid (Blk W0 p0 23 cs) := by unfold Hid; rw [← HW0.out, ← Hp0.out]; exact Blk.new w _ _
  have HG0 : Hid (Grows w W0) := by unfold Hid; rw [← HW0.out]; exact (Grows.refl w).alloc _
  obtain ⟨res, Hres⟩ : ∃ res, Hid (ctrF (encF TT ws nr) iv b = res) := ⟨_, lib_hid rfl⟩
  have HN : Hid (Calls Try.prog 41 #[.pointer (some ⟨g, 0, none⟩), .agg cs] W0 fun e w' => ∃ s, e = .returned (.pointer (some ⟨s, 0, none⟩)) ∧ W0.heap.size ≤ s ∧ Grows W0 w' ∧ Blk w' s 93 (ctrV g iv (.slice none 0 0) 0)) := by
    rw [← Hcs.out]; exact ctrNew_any g iv W0 hx
  have HC : Hid (∀ (s : Nat) (W : World), Grows W0 W → W0.heap.size ≤ s → Blk W s 93 (ctrV g iv (.slice none 0 0) 0) → Calls Try.prog 42 #[.pointer (some ⟨s, 0, none⟩), .slice A n c] W fun e w' => ∃ A' c', e = .returned (.slice A' n c') ∧ Keeps (fun k => k = s) W w' ∧ SB w' A' n c' res) := fun s W hW hs hB => by
    rw [← Hres.out]
    have hgw := HG0.out.trans hW
    have hle := HG0.out.size
    exact ctrCrypt_any B0 g nr s TT ws iv b A n c W (hK.below (hgw.mono hBw)) (by omega) h1 hnr hx hB (hb.grows hgw)
      (fun p e h0 => by have := hb.lt h0 p.block (by rw [e]; rfl); omega) (fun p e h0 => by have := hb.lt h0 p.block (by rw [e]; rfl); have := hgw.size; omega) hn
  rw [Hcs.out, Hres.out]
  clear hK hb
  go_enter Try.func16, Try.ntmps16
  go_upto_region 1 with fail
  rw [HW0.out, Hp0.out]
  go_wp2_with (refine wpList_load_blk rfl _ _ rfl p0 rfl 23 cs _ HB0.out Try.underlying23 rfl (by rw [Try.size16, hcs]) ?_)
  refine HN.out.mono ?_
  rintro e w1 ⟨s, rfl, hs, hg1, hb1⟩
  have hsz := HG0.out.size
  go_wp2_with fail
  refine (HC.out s w1 hg1 hs hb1).mono ?_
  rintro e w2 ⟨A2, c2, rfl, hk2, hs2⟩
  have HS2 := lib_hid hs2
  have HG2 : Hid (Grows w w2) := lib_hid (Below.trans (HG0.out.trans hg1) (hk2.below (HG0.out.trans hg1).size (fun i hi => by omega)))
  clear hs2 hk2 hb1 hg1
  go_wp2
  go_ret
  exact ⟨A2, c2, rfl, HG2.out, HS2.out⟩
theorem slice_head12 (p o : Nat) (W : World) : Sem.run Try.prog (Instr.sliceAt 23 (.pointer (some ⟨p, o, none⟩)) none (some (.int .i64 12)) none) W = .ok (.slice (some ⟨p, o, none⟩) 12 16) W := by
  have hz := Try.sizeByte
  simp [Instr.sliceAt, go_sem, Try.underlying23, hz]
set_option maxRecDepth 100000 in
set_option maxHeartbeats 4000000 in
theorem walk_TopCounters (K : List UInt8) (L : Bool) (IV : List UInt8) (B : Option Addr) (m d : Nat) (b : List UInt8) (w : World) (hK : K.length = 32) (hI : IV.length = 16) (hb : SB w B m d b) :
    Calls Try.prog 5 #[.agg (keyV K L IV), .slice B m d] w fun e w' => e = .returned (.bool true) ∧ Grows w w' := by
  obtain ⟨cs, Hcs, hcs⟩ : ∃ cs, Hid (keyV K L IV = cs) ∧ Hid (cs.size = 49) := ⟨_, lib_hid rfl, lib_hid (by simp [keyV, hK, hI])⟩
  obtain ⟨kl, hkb, hex⟩ := keyBytes_top K IV L hK hI
  have HKB := lib_hid hkb
  have HEX := lib_hid hex
  have hbl := lib_hid hb.len
  have hdm := hb.max
  have hmd := hb.cap
  have HSb := lib_hid hb
  have hnr := keyN_le L
  rw [Hcs.out]
  rw [Hcs.out] at HKB
  clear hkb hex hb
  by_cases h1 : 100 < m
  · have h1i : (100 : Int) < (m : Int) := by omega
    clear HKB HEX HSb hdm hmd h1
    go_enter Try.func5, Try.ntmps5
    go_wp2
    go_ret
    exact ⟨rfl, (Grows.refl _).alloc _⟩
  have h1i : ¬ (100 : Int) < (m : Int) := by omega
  obtain ⟨p0, Hp0⟩ : ∃ p0, Hid (w.heap.size = p0) := ⟨_, lib_hid rfl⟩
  obtain ⟨W0, HW0⟩ : ∃ W0, Hid (w.alloc (.cells cs 25) = W0) := ⟨_, lib_hid rfl⟩
  have HB0 : Hid (Blk W0 p0 25 cs) := by unfold Hid; rw [← HW0.out, ← Hp0.out]; exact Blk.new w _ _
  have HG0 : Hid (Grows w W0) := by unfold Hid; rw [← HW0.out]; exact (Grows.refl w).alloc _
  go_enter Try.func5, Try.ntmps5
  go_upto_region 3 with fail
  rw [HW0.out, Hp0.out]
  clear h1i HW0
  go_wp2_with (refine wpList_load_blk rfl _ _ rfl p0 rfl 25 cs _ HB0.out Try.underlying25 rfl (by rw [Try.sizeKey, hcs.out]) ?_)
  refine (HKB.out W0).mono ?_
  rintro e w1 ⟨g0, rfl, hg1, hs1⟩
  have HG1 := lib_hid (HG0.out.trans hg1)
  have HB1 := lib_hid (HB0.out.grows hg1)
  have HS1 := lib_hid hs1
  clear hg1 hs1 HB0
  go_wp2_with fail
  refine (HEX.out w1 g0 HS1.out).mono ?_
  rintro e w2 ⟨g, rfl, hg2, hgg, hk2⟩
  obtain ⟨ws, Hws⟩ : ∃ ws, Hid (keyW K L = ws) := ⟨_, lib_hid rfl⟩
  obtain ⟨nr, Hnr, hnr1, hnr2⟩ : ∃ nr, Hid (keyN L = nr) ∧ 1 ≤ nr ∧ nr ≤ 14 := ⟨_, lib_hid rfl, hnr.1, hnr.2⟩
  rw [Hws.out, Hnr.out] at hk2
  have HG2 := lib_hid (HG1.out.trans hg2)
  have HB2 := lib_hid (HB1.out.grows hg2)
  obtain ⟨E, HE, hE⟩ : ∃ E : List UInt8 → List UInt8, Hid (encF tabF ws nr = E) ∧ Hid (∀ xs, (E xs).length = 16) := ⟨_, lib_hid rfl, lib_hid (fun xs => encF_len _ _ _ xs)⟩
  have HEn : Hid (∀ (xs : List UInt8) (W : World), xs.length = 16 → Grows w2 W → Calls Try.prog 13 #[.pointer (some ⟨g, 0, none⟩), .agg (xs.map b8).toArray] W fun e w' => e = .returned (.agg ((E xs).map b8).toArray) ∧ Grows W w') := fun xs W hx hW => by
    have := encrypt_any w2.heap.size g nr tabF ws xs W (hk2.below hW) hx hnr1 hnr2
    rw [HE.out] at this
    exact this
  have HK2 : Hid (∀ W, Grows w2 W → KeyR W w2.heap.size g tabF ws nr) := fun W hW => hk2.below hW
  obtain ⟨iv, Hiv, ivl⟩ : ∃ iv : List UInt8, Hid (IV.take 12 = iv) ∧ Hid (iv.length = 12) := ⟨_, lib_hid rfl, lib_hid (by rw [List.length_take, hI]; rfl)⟩
  have HIV : Hid (∀ W', Grows w2 W' → SB W' (some ⟨p0, 33, none⟩) 12 16 iv) := fun W' hW' => by
    have := sb_head (key_iv hK hI (by rw [Hcs.out]; exact HB2.out.grows hW')) (show 12 ≤ 16 by omega)
    rw [Hiv.out] at this
    exact this
  have Hs33 : Hid (∀ W, Sem.run Try.prog (Instr.sliceAt 23 (.pointer (some ⟨p0, 33, none⟩)) none (some (.int .i64 12)) none) W = .ok (.slice (some ⟨p0, 33, none⟩) 12 16) W) := fun W => slice_head12 p0 33 W
  obtain ⟨f, Hf, fl⟩ : ∃ f : List UInt8, Hid (firstG iv = f) ∧ Hid (f.length = 16) := ⟨_, lib_hid rfl, lib_hid (by unfold firstG; rw [List.length_append, ivl.out]; rfl)⟩
  have HFi : Hid (∀ W, Grows w2 W → Calls Try.prog 14 #[.pointer (some ⟨g, 0, none⟩), .slice (some ⟨p0, 33, none⟩) 12 16] W fun e w' => e = .returned (.agg (f.map b8).toArray) ∧ Grows W w') := fun W hW => by
    rw [← Hf.out]; exact first_any w2.heap.size g nr tabF ws iv _ 16 W (HK2.out W hW) hnr1 hnr2 (HIV.out W hW)
  clear hg2 hgg hk2 HS1 HB1 HEX HKB
  obtain ⟨sl, Hsl, sll⟩ : ∃ sl : List UInt8, Hid (xorF b (strmF E f b.length) = sl) ∧ Hid (sl.length = m) := ⟨_, lib_hid rfl, lib_hid (by rw [xorF_len, strmF_len hE.out, hbl.out, Nat.min_self])⟩
  obtain ⟨tg, Htg⟩ : ∃ tg : List UInt8, Hid (tagG E f [] sl = tg) := ⟨_, lib_hid rfl⟩
  have HXs : Hid (sealG E f [] b = sl ++ tg) := by unfold Hid sealG; rw [Hsl.out, Htg.out]
  obtain ⟨cv2, Hcv2, cv2l⟩ : ∃ cv : List UInt8, Hid (countF f 1 = cv) ∧ Hid (cv.length = 16) := ⟨_, lib_hid rfl, lib_hid (countF_len _ _)⟩
  have HSx : Hid (ctrF E cv2 b = sl) := by
    have := gcm_ctr E iv b ivl.out (by rw [hbl.out]; omega)
    rw [Hf.out, Hsl.out, Hcv2.out] at this
    exact this.symm
  have HCo : Hid (∀ W, Calls Try.prog 17 #[.agg (f.map b8).toArray, .int .u64 1] W fun e w' => e = .returned (.agg (cv2.map b8).toArray) ∧ Grows W w') := fun W => by
    rw [← Hcv2.out]; exact count_any f fl.out 1 W
  have HCp0 : Hid (∀ W, Grows w2 W → Calls Try.prog 16 #[.pointer (some ⟨g, 0, none⟩), .agg (cv2.map b8).toArray, .slice B m d] W fun e w' => ∃ A' c', e = .returned (.slice A' m c') ∧ Grows W w' ∧ SB w' A' m c' sl) := fun W hW => by
    have := ctrTop_any w2.heap.size g nr tabF ws cv2 b B m d W (HK2.out W hW) hnr1 hnr2 cv2l.out (HSb.out.grows (HG2.out.trans hW)) (by omega)
    rw [HE.out, HSx.out] at this
    exact this
  have HSe : Hid (Calls Try.prog 10 #[.pointer (some ⟨g, 0, none⟩), .slice (some ⟨p0, 33, none⟩) 12 16, .slice none 0 0, .slice B m d] w2 (Sealed (m + 16) (sl ++ tg) w2)) := by
    have := gcmSeal_any w2.heap.size g nr tabF ws iv (some ⟨p0, 33, none⟩) 16 none 0 0 [] B m d b w2 (HK2.out w2 (Grows.refl _)) hnr1 hnr2 (HIV.out w2 (Grows.refl _)) (SB.nil _) (HSb.out.grows HG2.out) (by omega) (by omega)
    rw [HE.out, Hf.out, HXs.out] at this
    exact this
  have hs33 := Hs33.out
  go_wp2_with fail
  refine HSe.out.mono ?_
  rintro e w3 ⟨X, cx, rfl, hg3, hs3⟩
  have HX3 := lib_hid hs3
  have HG3 := lib_hid hg3
  obtain ⟨xb, xo, rfl, _, _⟩ := hs3.2.2.2.2 (by omega)
  have hcx := hs3.cap
  have hcxm := hs3.max
  clear hs3 hg3 HSe
  go_upto_region 9 with fail
  go_wp2_with fail
  refine (HFi.out w3 HG3.out).mono ?_
  rintro e w4 ⟨rfl, hg4⟩
  obtain ⟨fc, Hfc, hfc⟩ : ∃ fc, Hid ((f.map b8).toArray = fc) ∧ fc.size = 16 := ⟨_, lib_hid rfl, by simp [fl.out]⟩
  have HFa : Hid (fc.all (·.oneCell') = true) := by unfold Hid; rw [← Hfc.out]; exact cells_all _
  rw [Hfc.out]
  have HBz : Hid (Blk (w4.alloc (.cells #[.int .u8 0, .int .u8 0, .int .u8 0, .int .u8 0, .int .u8 0, .int .u8 0, .int .u8 0, .int .u8 0, .int .u8 0, .int .u8 0, .int .u8 0, .int .u8 0, .int .u8 0, .int .u8 0, .int .u8 0, .int .u8 0] 23)) w4.heap.size 23 #[.int .u8 0, .int .u8 0, .int .u8 0, .int .u8 0, .int .u8 0, .int .u8 0, .int .u8 0, .int .u8 0, .int .u8 0, .int .u8 0, .int .u8 0, .int .u8 0, .int .u8 0, .int .u8 0, .int .u8 0, .int .u8 0]) := lib_hid (Blk.new w4 _ _)
  have HG4 := lib_hid (HG3.out.trans hg4)
  have HX4 := lib_hid (HX3.out.grows hg4)
  clear hg4 HX3 HG3 hs33
  go_upto_region 10 with (refine wpList_store_blk rfl _ _ _ rfl w4.heap.size fc rfl rfl 23 _ HBz.out (by rw [Try.size16, hfc]) (by rw [hfc]; rfl) HFa.out w4.heap.size w4 ((Below.refl _ w4).alloc (Nat.le_refl _) _) (Nat.le_refl _) ?_; intro w5 hB5 hb5 hg5)
  obtain ⟨p9, Hp9⟩ : ∃ p9, Hid (w4.heap.size = p9) := ⟨_, lib_hid rfl⟩
  rw [Hp9.out] at hB5 ⊢
  have HB9 : Hid (Blk w5 p9 23 (f.map b8).toArray) := by rw [Hfc.out]; exact lib_hid hB5
  have HG5 : Hid (Grows w2 w5) := lib_hid (HG4.out.trans (show Grows w4 w5 from hb5))
  have HX5 : Hid (SB w5 (some ⟨xb, xo, none⟩) (m + 16) cx (sl ++ tg)) := lib_hid (HX4.out.grows (show Grows w4 w5 from hb5))
  have HXm : Hid (SB w5 (some ⟨xb, xo, none⟩) m cx sl) := by
    have := sb_head HX5.out (show m ≤ m + 16 by omega)
    rw [List.take_left' sll.out] at this
    exact lib_hid this
  have Hsx : Hid (∀ W, (Instr.slice 26 (.slice (some ⟨xb, xo, none⟩) (m + 16) cx) none (some (.int .i64 (m : Int))) none).run Try.prog W = .ok (.slice (some ⟨xb, xo, none⟩) m cx) W) := fun W => run_sl_hA (P := Try.prog) Try.underlying26 Try.sizeByte (some ⟨xb, xo, none⟩) (m + 16) cx m (m : Int) rfl (by omega) W
  have HCp : Hid (∀ W, Grows w5 W → Calls Try.prog 16 #[.pointer (some ⟨g, 0, none⟩), .agg (cv2.map b8).toArray, .slice B m d] W fun e w' => ∃ A' c', e = .returned (.slice A' m c') ∧ Grows W w' ∧ SB w' A' m c' sl) := fun W hW => HCp0.out W (HG5.out.trans hW)
  have HGf : Hid (Grows w w5) := lib_hid (HG2.out.trans HG5.out)
  clear hB5 hb5 hg5 HBz HG4 HX4 HX5 HFa HFi HEn HK2 HIV Hs33 HSb HCp0 HG5
  apply wp_region_mono 15 ((.is _, []) :: (.is _, []) :: (.is _, []) :: (.is _, []) :: (.is _, []) :: (.is _, []) :: (.is (.agg ((f).map b8).toArray), []) :: (.is (.agg ((cv2).map b8).toArray), []) :: (.is _, []) :: (.pr (fun v W => ∃ A n c, v = .slice A n c ∧ SB W A n c sl), []) :: (.is _, [9]) :: (.is _, []) :: (.is _, []) :: (.is (.bool true), []) :: (.is _, []) :: []) (by kernel_rfl) (by kernel_rfl)
  iterate 3
    apply Mono.is0
    · kernel_rfl
    · intro W hW
      go_wp2
      refine ⟨rfl, rfl, Grows.refl _, ?_⟩
      unfold Oper.valAt
      go_simp
      rfl
    intro k1 a1 hk1 ha1
    simp only [Nat.reduceAdd] at hk1
    simp only [Act.put, List.setIfInBounds_toArray, List.set_cons_succ, List.set_cons_zero] at ha1
    subst hk1 ha1
  apply Mono.is0
  · kernel_rfl
  · intro W hW
    have s1 := Hsx.out W
    go_wp2
    refine ⟨rfl, rfl, Grows.refl _, ?_⟩
    unfold Oper.valAt
    go_simp
    rfl
  intro k1 a1 hk1 ha1
  simp only [Nat.reduceAdd] at hk1
  simp only [Act.put, List.setIfInBounds_toArray, List.set_cons_succ, List.set_cons_zero] at ha1
  subst hk1 ha1
  apply Mono.is0
  · kernel_rfl
  · intro W hW
    have cv := run_string_SB (P := Try.prog) Try.underlying26 Try.underlying5 Try.underlying9 (HXm.out.grows hW)
    go_wp2
    refine ⟨rfl, rfl, Grows.refl _, ?_⟩
    unfold Oper.valAt
    go_simp
    rfl
  intro k1 a1 hk1 ha1
  simp only [Nat.reduceAdd] at hk1
  simp only [Act.put, List.setIfInBounds_toArray, List.set_cons_succ, List.set_cons_zero] at ha1
  subst hk1 ha1
  apply Mono.is0
  · kernel_rfl
  · intro W hW
    go_wp2
    refine ⟨rfl, rfl, Grows.refl _, ?_⟩
    unfold Oper.valAt
    go_simp
    rfl
  intro k1 a1 hk1 ha1
  simp only [Nat.reduceAdd] at hk1
  simp only [Act.put, List.setIfInBounds_toArray, List.set_cons_succ, List.set_cons_zero] at ha1
  subst hk1 ha1
  apply Mono.is0
  · kernel_rfl
  · intro W hW 
    go_wp2_with (refine wpList_load_blk (by kernel_rfl) _ _ rfl (p9) rfl 23 ((f).map b8).toArray _ (HB9.out.grows hW) Try.underlying23 rfl (by rw [Try.size16]; simp [fl.out]) ?_)
    exact ⟨rfl, rfl, Grows.refl _, rfl⟩
  intro k1 a1 hk1 ha1
  simp only [Nat.reduceAdd] at hk1
  simp only [Act.put, List.setIfInBounds_toArray, List.set_cons_succ, List.set_cons_zero] at ha1
  subst hk1 ha1
  apply Mono.is0
  · kernel_rfl
  · intro W hW 
    go_wp2_with fail
    refine (HCo.out W).mono ?_
    rintro e w1 ⟨rfl, hg1⟩
    go_wp2
    exact ⟨rfl, rfl, hg1, rfl⟩
  intro k1 a1 hk1 ha1
  simp only [Nat.reduceAdd] at hk1
  simp only [Act.put, List.setIfInBounds_toArray, List.set_cons_succ, List.set_cons_zero] at ha1
  subst hk1 ha1
  apply Mono.is0
  · kernel_rfl
  · intro W hW
    go_wp2
    refine ⟨rfl, rfl, Grows.refl _, ?_⟩
    unfold Oper.valAt
    go_simp
    rfl
  intro k1 a1 hk1 ha1
  simp only [Nat.reduceAdd] at hk1
  simp only [Act.put, List.setIfInBounds_toArray, List.set_cons_succ, List.set_cons_zero] at ha1
  subst hk1 ha1
  apply Mono.pr0
  · kernel_rfl
  · exact fun v W W' hW ⟨A, n, c, h1, h2⟩ => ⟨A, n, c, h1, h2.grows hW⟩
  · intro W hW 
    go_wp2_with fail
    refine (HCp.out W hW).mono ?_
    rintro e w1 ⟨A1, c1, rfl, hg1, hs1⟩
    have HS1 := lib_hid hs1
    clear hs1
    go_wp2
    exact ⟨rfl, rfl, hg1, A1, _, c1, rfl, HS1.out⟩
  intro v9
  intro k1 a1 hk1 ha1
  simp only [Nat.reduceAdd] at hk1
  simp only [Act.put, List.setIfInBounds_toArray, List.set_cons_succ, List.set_cons_zero] at ha1
  subst hk1 ha1
  apply Mono.is1
  · kernel_rfl
  · intro W hW f0
    obtain ⟨A1, n1, c1, rfl, hs⟩ := f0
    have cv := run_string_SB (P := Try.prog) Try.underlying26 Try.underlying5 Try.underlying9 hs
    go_wp2
    refine ⟨rfl, rfl, Grows.refl _, ?_⟩
    unfold Oper.valAt
    go_simp
    rfl
  intro k1 a1 hk1 ha1
  simp only [Nat.reduceAdd] at hk1
  simp only [Act.put, List.setIfInBounds_toArray, List.set_cons_succ, List.set_cons_zero] at ha1
  subst hk1 ha1
  iterate 2
    apply Mono.is0
    · kernel_rfl
    · intro W hW
      go_wp2
      refine ⟨rfl, rfl, Grows.refl _, ?_⟩
      unfold Oper.valAt
      go_simp
      rfl
    intro k1 a1 hk1 ha1
    simp only [Nat.reduceAdd] at hk1
    simp only [Act.put, List.setIfInBounds_toArray, List.set_cons_succ, List.set_cons_zero] at ha1
    subst hk1 ha1
  apply Mono.is0
  · kernel_rfl
  · intro W hW 
    go_wp2_with fail
    refine (awakeTop_any W).mono ?_
    rintro e w1 ⟨rfl, hg1⟩
    go_wp2
    exact ⟨rfl, rfl, hg1, rfl⟩
  intro k1 a1 hk1 ha1
  simp only [Nat.reduceAdd] at hk1
  simp only [Act.put, List.setIfInBounds_toArray, List.set_cons_succ, List.set_cons_zero] at ha1
  subst hk1 ha1
  apply Mono.is0
  · kernel_rfl
  · intro W hW
    go_wp2
    refine ⟨rfl, rfl, Grows.refl _, ?_⟩
    unfold Oper.valAt
    go_simp
    rfl
  intro k1 a1 hk1 ha1
  simp only [Nat.reduceAdd] at hk1
  simp only [Act.put, List.setIfInBounds_toArray, List.set_cons_succ, List.set_cons_zero] at ha1
  subst hk1 ha1
  refine Mono.done ?_
  intro wm hgm
  simp only [allF, List.drop_succ_cons, List.drop_zero]
  intro g9
  go_wp2
  go_ret
  exact ⟨rfl, HGf.out.trans hgm⟩
end Go.Proofs.Ythcmdjaccjghjaa
