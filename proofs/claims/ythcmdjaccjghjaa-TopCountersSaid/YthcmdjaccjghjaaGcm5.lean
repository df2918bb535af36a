/-
  gcm.Seal at an IV of 12 bytes.
-/
import Derived.Test.YthcmdjaccjghjaaGcm4
import Derived.Deep.Cut
namespace Go.Proofs.Ythcmdjaccjghjaa
open Go Go.RowKit
set_option linter.unusedSimpArgs false
set_option linter.unusedVariables false


def sealG (E : List UInt8 → List UInt8) (f aad b : List UInt8) : List UInt8 := xorF b (strmF E f b.length) ++ tagG E f aad (xorF b (strmF E f b.length))
/-- What a sealing hands back. -/
def Sealed (n : Nat) (xs : List UInt8) (w : World) (e : Ending) (w' : World) : Prop := ∃ A c, e = .returned (.tuple #[.slice A n c, .int .i64 0]) ∧ Grows w w' ∧ SB w' A n c xs
set_option maxRecDepth 100000 in
set_option maxHeartbeats 4000000 in
theorem seal1_any (B0 g nr : Nat) (TT ws f : List UInt8) (pb pk pa : Nat) (A : Option Addr) (n c : Nat) (aad : List UInt8) (B : Option Addr) (m d : Nat) (b : List UInt8) (w : World) (hK : KeyR w B0 g TT ws nr) (h1 : 1 ≤ nr) (hnr : nr ≤ 14) (hf : f.length = 16) (hpb : Blk w pb 26 #[.slice B m d]) (hpk : Blk w pk 27 #[.pointer (some ⟨g, 0, none⟩)]) (hpa : Blk w pa 26 #[.slice A n c]) (ha : SB w A n c aad) (hb : SB w B m d b) (hn : n ≤ 1000) (hm : m ≤ 1000) :
    Calls Try.prog 27 #[.agg (f.map b8).toArray, .pointer (some ⟨pb, 0, none⟩), .pointer (some ⟨pk, 0, none⟩), .pointer (some ⟨pa, 0, none⟩)] w (Sealed (m + 16) (sealG (encF TT ws nr) f aad b) w) := by
  obtain ⟨E, HE, hE⟩ : ∃ E : List UInt8 → List UInt8, Hid (encF TT ws nr = E) ∧ Hid (∀ xs, (E xs).length = 16) := ⟨_, lib_hid rfl, lib_hid (fun xs => encF_len TT ws nr xs)⟩
  rw [HE.out]
  have hB : B0 ≤ w.heap.size := by obtain ⟨_, _, _, _, _, _, h, _⟩ := hK; exact h
  have hbl := lib_hid hb.len
  obtain ⟨st, Hst, stl⟩ : ∃ st : List UInt8, Hid (strmF E f m = st) ∧ Hid (st.length = m) := ⟨_, lib_hid rfl, lib_hid (strmF_len hE.out f m)⟩
  obtain ⟨sl, Hsl, sll⟩ : ∃ sl : List UInt8, Hid (xorF b st = sl) ∧ Hid (sl.length = m) := ⟨_, lib_hid rfl, lib_hid (by rw [xorF_len, hbl.out, stl.out, Nat.min_self])⟩
  obtain ⟨tg, Htg⟩ : ∃ tg, Hid (tagG E f aad sl = tg) := ⟨_, lib_hid rfl⟩
  have HF : Hid (sealG E f aad b = sl ++ tg) := by unfold Hid sealG; rw [hbl.out, Hst.out, Hsl.out, Htg.out]
  rw [HF.out]
  obtain ⟨fc, Hfc, hfc⟩ : ∃ fc, Hid ((f.map b8).toArray = fc) ∧ fc.size = 16 := ⟨_, lib_hid rfl, by simp [hf]⟩
  rw [Hfc.out]
  have fl := lib_hid hf
  obtain ⟨p0, Hp0⟩ : ∃ p0, Hid (w.heap.size = p0) := ⟨_, lib_hid rfl⟩
  obtain ⟨W0, HW0⟩ : ∃ W0, Hid (w.alloc (.cells fc 23) = W0) := ⟨_, lib_hid rfl⟩
  have HFb : Hid (Blk W0 p0 23 (f.map b8).toArray) := by unfold Hid; rw [Hfc.out, ← HW0.out, ← Hp0.out]; exact Blk.new w _ _
  have HG0 : Hid (Grows w W0) := by unfold Hid; rw [← HW0.out]; exact (Grows.refl w).alloc _
  have HSt : Hid (∀ W, Grows W0 W → Calls Try.prog 28 #[.pointer (some ⟨g, 0, none⟩), .agg (f.map b8).toArray, .int .i64 (m : Int)] W fun e w' => ∃ A c, e = .returned (.slice A m c) ∧ Grows W w' ∧ SB w' A m c st) := fun W hW => by
    have := stream_any B0 g nr TT ws f m W (hK.below ((HG0.out.trans hW).mono hB)) h1 hnr hf hm
    rw [HE.out, Hst.out] at this
    exact this
  have HTa : Hid (∀ (D : Option Addr) (e : Nat) (W : World), Grows W0 W → SB W D m e sl → Calls Try.prog 29 #[.pointer (some ⟨g, 0, none⟩), .agg fc, .slice A n c, .slice D m e] W fun e w' => ∃ A' c', e = .returned (.slice A' 16 c') ∧ Grows W w' ∧ SB w' A' 16 c' tg) := fun D e W hW hs => by
    have := tag_any B0 g nr TT ws f A n c aad D m e sl W (hK.below ((HG0.out.trans hW).mono hB)) h1 hnr hf (ha.grows (HG0.out.trans hW)) hs hn hm
    rw [HE.out, Htg.out, Hfc.out] at this
    exact this
  have HCb : Hid (∀ W, Grows W0 W → W.cell? ⟨pb, 0, none⟩ = some (.slice B m d)) := fun W hW => (hpb.grows (HG0.out.trans hW)).cell 0
  have HCk : Hid (∀ W, Grows W0 W → W.cell? ⟨pk, 0, none⟩ = some (.pointer (some ⟨g, 0, none⟩))) := fun W hW => (hpk.grows (HG0.out.trans hW)).cell 0
  have HCa : Hid (∀ W, Grows W0 W → W.cell? ⟨pa, 0, none⟩ = some (.slice A n c)) := fun W hW => (hpa.grows (HG0.out.trans hW)).cell 0
  have HSb : Hid (∀ W, Grows W0 W → SB W B m d b) := fun W hW => hb.grows (HG0.out.trans hW)
  clear hK hpb hpk hpa ha hb
  go_enter Try.func27, Try.ntmps27
  go_upto_region 1 with fail
  rw [HW0.out, Hp0.out]
  clear HW0
  apply wp_region_mono 7 ((.is _, []) :: (.is _, []) :: (.is (.agg ((f).map b8).toArray), []) :: (.is _, []) :: (.is _, []) :: (.pr (fun v W => ∃ A c, v = .slice A m c ∧ SB W A m c st), []) :: (.pr (fun v W => ∃ A c, v = .slice A m c ∧ W.ownsRow W0.heap.size 5 1 (.slice A m c) m (sl.map b8)), [5]) :: []) (by kernel_rfl) (by kernel_rfl)
  apply Mono.is0
  · kernel_rfl
  · intro W hW
    have q1 := HCb.out W hW
    go_wp2
    refine ⟨rfl, rfl, Grows.refl _, ?_⟩
    unfold Oper.valAt
    go_simp
    rfl
  intro k1 a1 hk1 ha1
  simp only [Nat.reduceAdd] at hk1
  simp only [Act.put, List.setIfInBounds_toArray, List.set_cons_succ, List.set_cons_zero] at ha1
  subst hk1 ha1
  apply Mono.is0
  · kernel_rfl
  · intro W hW
    have q2 := HCk.out W hW
    go_wp2
    refine ⟨rfl, rfl, Grows.refl _, ?_⟩
    unfold Oper.valAt
    go_simp
    rfl
  intro k1 a1 hk1 ha1
  simp only [Nat.reduceAdd] at hk1
  simp only [Act.put, List.setIfInBounds_toArray, List.set_cons_succ, List.set_cons_zero] at ha1
  subst hk1 ha1
  apply Mono.is0
  · kernel_rfl
  · intro W hW 
    go_wp2_with (refine wpList_load_blk (by kernel_rfl) _ _ rfl (p0) rfl 23 ((f).map b8).toArray _ (HFb.out.grows hW) Try.underlying23 rfl (by rw [Try.size16]; simp [fl.out]) ?_)
    exact ⟨rfl, rfl, Grows.refl _, rfl⟩
  intro k1 a1 hk1 ha1
  simp only [Nat.reduceAdd] at hk1
  simp only [Act.put, List.setIfInBounds_toArray, List.set_cons_succ, List.set_cons_zero] at ha1
  subst hk1 ha1
  apply Mono.is0
  · kernel_rfl
  · intro W hW
    have q3 := HCb.out W hW
    go_wp2
    refine ⟨rfl, rfl, Grows.refl _, ?_⟩
    unfold Oper.valAt
    go_simp
    rfl
  intro k1 a1 hk1 ha1
  simp only [Nat.reduceAdd] at hk1
  simp only [Act.put, List.setIfInBounds_toArray, List.set_cons_succ, List.set_cons_zero] at ha1
  subst hk1 ha1
  apply Mono.is0
  · kernel_rfl
  · intro W hW
    go_wp2
    refine ⟨rfl, rfl, Grows.refl _, ?_⟩
    unfold Oper.valAt
    go_simp
    rfl
  intro k1 a1 hk1 ha1
  simp only [Nat.reduceAdd] at hk1
  simp only [Act.put, List.setIfInBounds_toArray, List.set_cons_succ, List.set_cons_zero] at ha1
  subst hk1 ha1
  apply Mono.pr0
  · kernel_rfl
  · exact fun v W W' hW ⟨A, c, h1, h2⟩ => ⟨A, c, h1, h2.grows hW⟩
  · intro W hW 
    go_wp2_with fail
    refine (HSt.out W hW).mono ?_
    rintro e w1 ⟨A1, c1, rfl, hg1, hs1⟩
    have HS1 := lib_hid hs1
    clear hs1
    go_wp2
    exact ⟨rfl, rfl, hg1, A1, c1, rfl, HS1.out⟩
  intro v5
  intro k1 a1 hk1 ha1
  simp only [Nat.reduceAdd] at hk1
  simp only [Act.put, List.setIfInBounds_toArray, List.set_cons_succ, List.set_cons_zero] at ha1
  subst hk1 ha1
  apply Mono.pr1
  · kernel_rfl
  · exact fun v W W' hW ⟨A, c, h1, h2⟩ => ⟨A, c, h1, own_grows h2 hW⟩
  · intro W hW f0
    obtain ⟨A5, c5, rfl, s5⟩ := f0
    have S5 := lib_hid s5
    clear s5
    go_wp2_with fail
    refine (xor_any _ _ m d m c5 b st W (HSb.out W hW) S5.out (by omega)).mono ?_
    rintro e w1 ⟨A1, n1, c1, hn1, rfl, hg1, ho1⟩
    obtain rfl : n1 = m := by rw [hn1.out, Hsl.out, sll.out]
    rw [Hsl.out] at ho1
    have HO1 := lib_hid (own_base ho1 hW.size)
    clear ho1 hn1
    go_wp2
    exact ⟨rfl, rfl, hg1, A1, c1, rfl, HO1.out⟩
  intro v6
  intro k1 a1 hk1 ha1
  simp only [Nat.reduceAdd] at hk1
  simp only [Act.put, List.setIfInBounds_toArray, List.set_cons_succ, List.set_cons_zero] at ha1
  subst hk1 ha1
  refine Mono.done ?_
  intro wm hgm
  simp only [allF, List.drop_succ_cons, List.drop_zero]
  intro g6 g5
  obtain ⟨A6, c6, rfl, ho6⟩ := g6
  have HO6 := lib_hid ho6
  have HS6 := lib_hid (SB.own ho6)
  have HGm := lib_hid hgm
  have HFm : Hid (Blk wm p0 23 fc) := by rw [← Hfc.out]; exact lib_hid (HFb.out.grows hgm)
  have q4 := HCk.out wm hgm
  have q5 := HCa.out wm hgm
  clear ho6 hgm g5 HFb
  go_upto_region 2 with fail
  go_wp2_with (refine wpList_load_blk rfl _ _ rfl p0 rfl 23 fc _ HFm.out Try.underlying23 rfl (by rw [Try.size16, hfc]) ?_)
  refine (HTa.out A6 c6 wm HGm.out HS6.out).mono ?_
  rintro e w7 ⟨A7, c7, rfl, hg7, hs7⟩
  have HS7 := lib_hid hs7
  have HO7 := lib_hid (own_grows HO6.out hg7)
  have HG7 := lib_hid (HGm.out.trans hg7)
  have hle7 : W0.heap.size ≤ w7.heap.size := HG7.out.size
  clear hs7 hg7 HO6 HS6 HGm HFm q4 q5
  go_wp2_with (at_builtin; refine wpList_append2 rfl _ _ 26 rfl W0.heap.size 5 (.int .u8 0) 1 Try.underlying26 Try.infoByte rfl A6 c6 m _ rfl HO7.out A7 16 c7 _ rfl HS7.out (b8_one tg) (by omega) (by omega) hle7 ?_; intro A8 c8 w8 ho8 hG8 hl8)
  have HR : Hid (SB w8 A8 (m + 16) c8 (sl ++ tg)) := by
    rw [← List.map_append] at ho8
    exact lib_hid (SB.own ho8)
  have HGf : Hid (Grows w w8) := lib_hid (Below.trans HG0.out ((HG7.out.grown hG8 (fun q hq => (own_lt HO7.out q hq).1)).mono HG0.out.size))
  go_ret2
  exact ⟨A8, c8, rfl, HGf.out, HR.out⟩
set_option maxRecDepth 100000 in
set_option maxHeartbeats 4000000 in
theorem does_any (B0 g nr : Nat) (TT ws iv : List UInt8) (I : Option Addr) (ci : Nat) (caps : Array Value) (ln : Nat) (xs : List UInt8) (w : World) (hK : KeyR w B0 g TT ws nr) (h1 : 1 ≤ nr) (hnr : nr ≤ 14) (hs : SB w I 12 ci iv)
    (hcl : ∀ W, Grows w W → Calls Try.prog 27 (#[.agg ((firstG iv).map b8).toArray] ++ caps) W (Sealed ln xs W)) :
    Calls Try.prog 26 #[.pointer (some ⟨g, 0, none⟩), .slice I 12 ci, .func (.func 27) #[] caps] w (Sealed ln xs w) := by
  have HRi : Hid (Calls Try.prog 37 #[.pointer (some ⟨g, 0, none⟩), .slice I 12 ci] w fun e w' => e = .returned (.int .i64 0) ∧ w = w') := right_any B0 g nr TT ws I 12 ci w hK h1 hnr (by omega)
  obtain ⟨fc, Hfc⟩ : ∃ fc, Hid (((firstG iv).map b8).toArray = fc) := ⟨_, lib_hid rfl⟩
  have HFi : Hid (Calls Try.prog 14 #[.pointer (some ⟨g, 0, none⟩), .slice I 12 ci] w fun e w' => e = .returned (.agg fc) ∧ Grows w w') := by
    rw [← Hfc.out]; exact first_any B0 g nr TT ws iv I ci w hK h1 hnr hs
  rw [Hfc.out] at hcl
  have HCl := lib_hid hcl
  clear hK hs hcl
  go_enter Try.func26, Try.ntmps26
  go_wp2_with fail
  refine HRi.out.mono ?_
  rintro e w1 ⟨rfl, rfl⟩
  go_wp2_with fail
  refine HFi.out.mono ?_
  rintro e w2 ⟨rfl, hg2⟩
  go_wp2_with fail
  refine (HCl.out w2 hg2).mono ?_
  rintro e w3 ⟨A3, c3, rfl, hg3, hs3⟩
  have HS3 := lib_hid hs3
  have HG3 := lib_hid (hg2.trans hg3)
  clear hs3 hg2 hg3
  go_wp2
  go_ret2
  exact ⟨A3, c3, rfl, HG3.out, HS3.out⟩
set_option maxRecDepth 100000 in
set_option maxHeartbeats 4000000 in
theorem gcmSeal_any (B0 g nr : Nat) (TT ws iv : List UInt8) (I : Option Addr) (ci : Nat) (A : Option Addr) (n c : Nat) (aad : List UInt8) (B : Option Addr) (m d : Nat) (b : List UInt8) (w : World) (hK : KeyR w B0 g TT ws nr) (h1 : 1 ≤ nr) (hnr : nr ≤ 14) (hi : SB w I 12 ci iv) (ha : SB w A n c aad) (hb : SB w B m d b) (hn : n ≤ 1000) (hm : m ≤ 1000) :
    Calls Try.prog 10 #[.pointer (some ⟨g, 0, none⟩), .slice I 12 ci, .slice A n c, .slice B m d] w (Sealed (m + 16) (sealG (encF TT ws nr) (firstG iv) aad b) w) := by
  have hBw : B0 ≤ w.heap.size := by obtain ⟨_, _, _, _, _, _, h, _⟩ := hK; exact h
  obtain ⟨W0, HW0, hW0, hg0⟩ : ∃ W0 : World, Hid (W0 = ((w.alloc (.cells #[.pointer (some ⟨g, 0, none⟩)] 27)).alloc (.cells #[.slice A n c] 26)).alloc (.cells #[.slice B m d] 26)) ∧ W0.heap.size = w.heap.size + 3 ∧ Grows w W0 := ⟨_, lib_hid rfl, by simp, (((Grows.refl w).alloc _).alloc _).alloc _⟩
  have HB0 : Hid (Blk W0 w.heap.size 27 #[.pointer (some ⟨g, 0, none⟩)]) := by
    unfold Hid; rw [HW0.out]; have := ((Blk.new (w) 27 #[.pointer (some ⟨g, 0, none⟩)]).alloc (.cells #[.slice A n c] 26)).alloc (.cells #[.slice B m d] 26); simpa using this
  have HB1 : Hid (Blk W0 (w.heap.size + 1) 26 #[.slice A n c]) := by
    unfold Hid; rw [HW0.out]; have := (Blk.new (w.alloc (.cells #[.pointer (some ⟨g, 0, none⟩)] 27)) 26 #[.slice A n c]).alloc (.cells #[.slice B m d] 26); simpa using this
  have HB2 : Hid (Blk W0 (w.heap.size + 2) 26 #[.slice B m d]) := by
    unfold Hid; rw [HW0.out]; have := Blk.new ((w.alloc (.cells #[.pointer (some ⟨g, 0, none⟩)] 27)).alloc (.cells #[.slice A n c] 26)) 26 #[.slice B m d]; simpa using this
  obtain ⟨p0, Hp0⟩ : ∃ p0, Hid (w.heap.size = p0) := ⟨_, lib_hid rfl⟩
  rw [Hp0.out] at HB0 HB1 HB2
  have hil := hi.len
  obtain ⟨xs, Hxs⟩ : ∃ xs, Hid (sealG (encF TT ws nr) (firstG iv) aad b = xs) := ⟨_, lib_hid rfl⟩
  have HD : Hid (Calls Try.prog 26 #[.pointer (some ⟨g, 0, none⟩), .slice I 12 ci, .func (.func 27) #[] #[.pointer (some ⟨p0 + 2, 0, none⟩), .pointer (some ⟨p0, 0, none⟩), .pointer (some ⟨p0 + 1, 0, none⟩)]] W0 (Sealed (m + 16) xs W0)) := by
    rw [← Hxs.out]
    exact does_any B0 g nr TT ws iv I ci _ (m + 16) _ W0 (hK.below (hg0.mono hBw)) h1 hnr (hi.grows hg0) (fun W hW => seal1_any B0 g nr TT ws (firstG iv) (p0 + 2) p0 (p0 + 1) A n c aad B m d b W (hK.below ((hg0.trans hW).mono hBw)) h1 hnr (by unfold firstG; rw [List.length_append, hil]; rfl) (HB2.out.grows hW) (HB0.out.grows hW) (HB1.out.grows hW) (ha.grows (hg0.trans hW)) (hb.grows (hg0.trans hW)) hn hm)
  rw [Hxs.out]
  clear hK hi ha hb
  go_enter Try.func10, Try.ntmps10
  go_upto_region 1 with fail
  rw [← HW0.out, Hp0.out]
  have q1 := HB0.out.cell 0
  go_wp2_with fail
  refine HD.out.mono ?_
  rintro e w3 ⟨A3, c3, rfl, hg3, hs3⟩
  have HS3 := lib_hid hs3
  have HG3 := lib_hid (hg0.trans hg3)
  clear hs3 hg3
  go_wp2
  go_ret2
  exact ⟨A3, c3, rfl, HG3.out, HS3.out⟩
end Go.Proofs.Ythcmdjaccjghjaa
