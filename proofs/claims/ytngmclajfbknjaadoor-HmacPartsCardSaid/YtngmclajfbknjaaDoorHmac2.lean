/-
  pad, Reset, Write, Sum of hmac.
-/
import Derived.Test.YtngmclajfbknjaaDoorHmac1
import Derived.Test.YtngmclajfbknjaaDoorBits3
import Derived.Deep.Cut
import Derived.BigRegion
import Derived.RegionTactic
import Derived.Outline
import Derived.Deep.RegionLaw
namespace Go.Proofs.YtngmclajfbknjaaDoor
open Go Go.RowKit
set_option linter.unusedSimpArgs false
set_option linter.unusedVariables false


attribute [local irreducible] startV schedF moreW firstW blockF roundsF sumsF outF outW padS sumS shaK ShaOf
theorem one_rowH (w : World) (t : TypeId) (u : UInt8) : SB (w.alloc (.cells #[b8 u] t)) (some ⟨w.heap.size, 0, none⟩) 1 1 [u] := by
  have := (Blk.new w t #[b8 u]).row (o := 0) (n := 1) (c := 1) (Nat.le_refl _) (by simp) (by unfold maxLen; omega)
  exact this
def xorK (K : List UInt8) (y : UInt8) : List UInt8 := K.map (· ^^^ y)
theorem xorK_len (K : List UInt8) (y : UInt8) : (xorK K y).length = K.length := by simp [xorK]
theorem xorK_eq (K : List UInt8) (y : UInt8) (n : Nat) (h : K.length = n) : xorF K (List.replicate n y) = xorK K y := by
  subst h
  unfold xorF xorK
  apply List.ext_getElem?
  intro i
  rw [List.getElem?_zipWith, List.getElem?_map, List.getElem?_replicate]
  by_cases hi : i < K.length
  · rw [if_pos hi, List.getElem?_eq_getElem hi]; rfl
  · rw [if_neg hi, List.getElem?_eq_none (by omega)]; rfl
/-- The key as a block. -/
def keyB (ks : List UInt32) (key : List UInt8) : List UInt8 := if 64 < key.length then sumS ks key ++ List.replicate 32 0 else key ++ List.replicate (64 - key.length) 0
theorem keyB_len (ks : List UInt32) (key : List UInt8) : (keyB ks key).length = 64 := by
  unfold keyB
  split
  · rw [List.length_append, sumS_len, List.length_replicate]
  · rw [List.length_append, List.length_replicate]; omega
/-- The cells of a State of hmac. -/
def HC (K : List UInt8) (v : Value) : Array Value := (K.map b8 ++ [v]).toArray
theorem hc_set (K : List UInt8) (hK : K.length = 64) (v u : Value) : (HC K v).setIfInBounds 64 u = HC K u := by
  unfold HC
  rw [List.setIfInBounds_toArray, List.set_append_right _ _ (by simp [hK])]
  simp [hK]
theorem hc_at (K : List UInt8) (hK : K.length = 64) (v : Value) : (HC K v)[64]? = some v := by
  unfold HC
  rw [List.getElem?_toArray, List.getElem?_append_right (by simp [hK])]
  simp [hK]
theorem hc_row {w : World} {g : Nat} {t : TypeId} {K : List UInt8} {v : Value} (hK : K.length = 64) (h : Blk w g t (HC K v)) : SB w (some ⟨g, 0, none⟩) 64 64 K := by
  have h5 := h.row (o := 0) (n := 64) (c := 64) (Nat.le_refl _) (by simp [HC, hK]) (by unfold maxLen; omega)
  unfold SB
  have e : ((HC K v).toList.drop 0).take 64 = K.map b8 := by
    unfold HC
    rw [List.drop_zero, List.take_append_of_le_length (by simp [hK]), List.take_of_length_le (by simp [hK])]
  rw [e] at h5
  exact h5
theorem Tryd.arrH : True := trivial
attribute [local irreducible] HC xorK keyB
set_option maxRecDepth 100000 in
set_option maxHeartbeats 4000000 in
theorem hpad_any (K : List UInt8) (hK : K.length = 64) (y : UInt8) (pv : Value) (g : Nat) (w : World) (hB : Blk w g 42 (HC K pv)) :
    Calls Tryd.prog 18 #[.pointer (some ⟨g, 0, none⟩), .int .u8 (y.toNat : Int)] w (NewB 5 w (xorK K y)) := by
  have HS := lib_hid (hc_row hK hB)
  have HX := lib_hid (xorK_eq K y 64 hK)
  have HXl : Hid ((xorK K y).length = 64) := by unfold Hid; rw [xorK_len]; exact hK
  have hgl := hB.lt
  clear hB
  go_enter Tryd.func18, Tryd.ntmps18
  go_upto_region 1 with fail
  apply wp_region_mono 8 ((.is _, []) :: (.is _, []) :: (.is _, []) :: (.is _, []) :: (.is _, []) :: (.pr (fun v W => ∃ A, v = .slice A 1 1 ∧ SB W A 1 1 [y]), []) :: (.pr (fun v W => ∃ A, v = .slice A 64 64 ∧ SB W A 64 64 (List.replicate 64 y)), [5]) :: (.pr (fun v W => ∃ A n c, v = .slice A n c ∧ n = 64 ∧ W.ownsRow w.heap.size 5 1 (.slice A n c) n ((xorK K y).map b8)), [6]) :: []) (by kernel_rfl) (by kernel_rfl)
  iterate 5
    apply Mono.is0
    · kernel_rfl
    · intro W hW
      go_wp2
      refine ⟨rfl, rfl, Grows.refl _, ?_⟩
      unfold Oper.valAt
      go_simp
      rfl
    intro k1 a1 hk1 ha1
    simp only [Nat.reduceAdd] at hk1
    simp only [Act.put, List.setIfInBounds_toArray, List.set_cons_succ, List.set_cons_zero] at ha1
    subst hk1 ha1
  apply Mono.pr0
  · kernel_rfl
  · exact fun v W W' hW ⟨A, h1, h2⟩ => ⟨A, h1, h2.grows hW⟩
  · intro W hW 
    go_wp2
    refine ⟨rfl, rfl, (Grows.refl _).alloc _, _, ?_, one_rowH W 5 y⟩
    unfold Oper.valAt
    go_simp
  intro v5
  intro k1 a1 hk1 ha1
  simp only [Nat.reduceAdd] at hk1
  simp only [Act.put, List.setIfInBounds_toArray, List.set_cons_succ, List.set_cons_zero] at ha1
  subst hk1 ha1
  apply Mono.pr1
  · kernel_rfl
  · exact fun v W W' hW ⟨A, h1, h2⟩ => ⟨A, h1, h2.grows hW⟩
  · intro W hW f0
    obtain ⟨A1, rfl, hs⟩ := f0
    go_wp2_with fail
    refine (repeat64_any y A1 1 W hs).mono ?_
    rintro e w1 ⟨g1, rfl, hg1, hs1⟩
    have HS1 := lib_hid hs1
    clear hs1 hs
    go_wp2
    exact ⟨rfl, rfl, hg1, _, rfl, HS1.out⟩
  intro v6
  intro k1 a1 hk1 ha1
  simp only [Nat.reduceAdd] at hk1
  simp only [Act.put, List.setIfInBounds_toArray, List.set_cons_succ, List.set_cons_zero] at ha1
  subst hk1 ha1
  apply Mono.pr1
  · kernel_rfl
  · exact fun v W W' hW ⟨A, n, c, h1, h2, h3⟩ => ⟨A, n, c, h1, h2, own_grows h3 hW⟩
  · intro W hW f0
    obtain ⟨A1, rfl, hs⟩ := f0
    go_wp2_with fail
    refine (xor_any (some ⟨g, 0, none⟩) A1 64 64 64 64 K (List.replicate 64 y) W (HS.out.grows hW) hs (by omega)).mono ?_
    rintro e w1 ⟨A2, n2, c2, hn2, rfl, hg1, ho2⟩
    rw [HX.out] at hn2 ho2
    have HO2 := lib_hid (own_base ho2 hW.le)
    have HN2 : Hid (n2 = 64) := by rw [← HXl.out]; exact hn2
    clear ho2 hs hn2
    go_wp2
    exact ⟨rfl, rfl, hg1, A2, n2, c2, rfl, HN2.out, HO2.out⟩
  intro v7
  intro k1 a1 hk1 ha1
  simp only [Nat.reduceAdd] at hk1
  simp only [Act.put, List.setIfInBounds_toArray, List.set_cons_succ, List.set_cons_zero] at ha1
  subst hk1 ha1
  refine Mono.done ?_
  intro wm hgm
  simp only [allF, List.drop_succ_cons, List.drop_zero]
  intro g7 g6 g5
  obtain ⟨A, n, c, rfl, hn, ho⟩ := g7
  clear g5 g6
  go_wp2
  go_ret
  exact newB_mk rfl (by rw [hn, HXl.out]) hgm ho
/-- A State of hmac: block g, the key's block K, the inner State in block gs into which bs were written behind the key. -/
def HmOf (ks : List UInt32) (w : World) (base g gs : Nat) (rb : Option Nat) (K bs : List UInt8) : Prop :=
  K.length = 64 ∧ base ≤ g ∧ Blk w g 42 (HC K (.pointer (some ⟨gs, 0, none⟩))) ∧ ShaOf ks w base gs rb (xorK K 54 ++ bs) ∧ g ≠ gs ∧ rb ≠ some g
section
variable {ks : List UInt32} {w w' : World} {base g gs : Nat} {rb : Option Nat} {K bs : List UInt8}
theorem HmOf.keeps {own : Nat → Prop} (h : HmOf ks w base g gs rb K bs) (k : Keeps own w w') (hg : ¬ own g) (hs : ¬ own gs) (hr : ∀ i, rb = some i → ¬ own i) : HmOf ks w' base g gs rb K bs :=
  ⟨h.1, h.2.1, h.2.2.1.keeps k hg, h.2.2.2.1.keeps k hs hr, h.2.2.2.2⟩
theorem HmOf.grows (h : HmOf ks w base g gs rb K bs) (k : Grows w w') : HmOf ks w' base g gs rb K bs :=
  h.keeps (k.keeps (fun _ => False)) (fun h => h) (fun h => h) (fun _ _ h => h)
theorem HmOf.lt (h : HmOf ks w base g gs rb K bs) : g < w.heap.size ∧ gs < w.heap.size ∧ base ≤ gs ∧ ∀ k, rb = some k → base ≤ k ∧ k < w.heap.size :=
  ⟨h.2.2.1.lt, h.2.2.2.1.lt, h.2.2.2.1.base_le, h.2.2.2.1.rest⟩
end
theorem setP_keeps (w : World) (g i : Nat) (u : Value) : Keeps (fun k => k = g) w (w.setCell ⟨g, i, none⟩ u) := keeps_set w ⟨g, i, none⟩ u
set_option maxRecDepth 100000 in
set_option maxHeartbeats 4000000 in
theorem hreset_any {tK : TypeId} (ks : List UInt32) (K : List UInt8) (pv : Value) (g base : Nat) (w : World) (hkl : ks.length = 64) (HK : Hid (Blk w 0 tK (ks.map b32).toArray))
    (hK : K.length = 64) (hB : Blk w g 42 (HC K pv)) (hbg : base ≤ g) (hbw : base ≤ w.heap.size) (hb0 : 0 < base) :
    Calls Tryd.prog 13 #[.pointer (some ⟨g, 0, none⟩)] w fun e w' => e = .returned (.tuple #[]) ∧ ∃ gs rb, HmOf ks w' base g gs rb K [] ∧ Keeps (fun k => k = g) w w' ∧ w.heap.size ≤ gs ∧ (∀ k, rb = some k → w.heap.size ≤ k) := by
  have hgl := hB.lt
  have HXl : Hid ((xorK K 54).length = 64) := by unfold Hid; rw [xorK_len]; exact hK
  have HKK := lib_hid hK
  have HBw := lib_hid hB
  have HKl := lib_hid hkl
  have Hbb : Hid (base ≤ g ∧ base ≤ w.heap.size ∧ 0 < base ∧ g < w.heap.size) := ⟨hbg, hbw, hb0, hgl⟩
  clear hB hK hkl hbg hbw hb0 hgl
  go_enter Tryd.func13, Tryd.ntmps13
  go_wp2_with fail
  refine (shaNew_of ks w).mono ?_
  rintro e1 w1 ⟨gs, rfl, hg1, hgs, hP⟩
  have HP1 := lib_hid (hP base (by have := Hbb.out; omega))
  have Hgs : Hid (g ≠ gs ∧ gs ≠ g ∧ w.heap.size ≤ gs) := by have := Hbb.out; exact ⟨by omega, by omega, hgs⟩
  have HB1 := lib_hid (HBw.out.grows hg1)
  have Hg1 := lib_hid hg1
  have cz : w1.cell? ⟨g, 64, none⟩ = some pv := by rw [HB1.out.cell]; exact hc_at K HKK.out pv
  have fz := HB1.out.frozen 64
  have hzl := HB1.out.lt
  obtain ⟨w2, HW2⟩ : ∃ x : World, Hid (x = w1.setCell ⟨g, 64, none⟩ (.pointer (some ⟨gs, 0, none⟩))) := ⟨_, lib_hid rfl⟩
  have HB2 : Hid (Blk w2 g 42 (HC K (.pointer (some ⟨gs, 0, none⟩)))) := by
    unfold Hid; rw [HW2.out, ← hc_set K HKK.out pv]; exact HB1.out.set 64 _
  have Hk2 : Hid (Keeps (fun k => k = g) w1 w2) := by unfold Hid; rw [HW2.out]; exact setP_keeps _ _ _ _
  have HP2 : Hid (ShaOf ks w2 base gs none []) := HP1.out.keeps Hk2.out Hgs.out.2.1 (fun i h => by cases h)
  have Hk02 : Hid (Keeps (fun k => k = g) w w2) := (hg1.keeps _).trans Hk2.out (fun i hi _ => hi)
  have HK2 : Hid (Blk w2 0 tK (ks.map b32).toArray) := HK.out.keeps Hk02.out (fun h => by have := Hbb.out; omega)
  clear hg1 hgs hP HP1 HBw HB1 HK
  go_upto_region 2 with fail
  rw [← HW2.out]
  clear HW2 cz fz hzl
  have HP : Hid (∀ W, Grows w2 W → W.cell? ⟨g, 64, none⟩ = some (.pointer (some ⟨gs, 0, none⟩))) := fun W hW => by rw [(HB2.out.grows hW).cell]; exact hc_at K HKK.out _
  have HPad : Hid (∀ W, Grows w2 W → Calls Tryd.prog 18 #[.pointer (some ⟨g, 0, none⟩), .int .u8 54] W (NewB 5 W (xorK K 54))) := fun W hW => hpad_any K HKK.out 54 _ g W (HB2.out.grows hW)
  have hgl2 := HB2.out.lt
  apply wp_region_mono 7 ((.is _, []) :: (.is _, []) :: (.is _, []) :: (.is _, []) :: (.is _, []) :: (.is _, []) :: (.pr (fun v W => ∃ A n c, v = .slice A n c ∧ n = 64 ∧ W.ownsRow w2.heap.size 5 1 (.slice A n c) n ((xorK K 54).map b8)), []) :: []) (by kernel_rfl) (by kernel_rfl)
  iterate 4
    apply Mono.is0
    · kernel_rfl
    · intro W hW
      go_wp2
      refine ⟨rfl, rfl, Grows.refl _, ?_⟩
      unfold Oper.valAt
      go_simp
      rfl
    intro k1 a1 hk1 ha1
    simp only [Nat.reduceAdd] at hk1
    simp only [Act.put, List.setIfInBounds_toArray, List.set_cons_succ, List.set_cons_zero] at ha1
    subst hk1 ha1
  apply Mono.is0
  · kernel_rfl
  · intro W hW
    have q1 := HP.out W hW
    go_wp2
    refine ⟨rfl, rfl, Grows.refl _, ?_⟩
    unfold Oper.valAt
    go_simp
    rfl
  intro k1 a1 hk1 ha1
  simp only [Nat.reduceAdd] at hk1
  simp only [Act.put, List.setIfInBounds_toArray, List.set_cons_succ, List.set_cons_zero] at ha1
  subst hk1 ha1
  apply Mono.is0
  · kernel_rfl
  · intro W hW
    go_wp2
    refine ⟨rfl, rfl, Grows.refl _, ?_⟩
    unfold Oper.valAt
    go_simp
    rfl
  intro k1 a1 hk1 ha1
  simp only [Nat.reduceAdd] at hk1
  simp only [Act.put, List.setIfInBounds_toArray, List.set_cons_succ, List.set_cons_zero] at ha1
  subst hk1 ha1
  apply Mono.pr0
  · kernel_rfl
  · exact fun v W W' hW ⟨A, n, c, h1, h2, h3⟩ => ⟨A, n, c, h1, h2, own_grows h3 hW⟩
  · intro W hW 
    go_wp2_with fail
    refine (HPad.out W hW).mono ?_
    rintro e w3 ⟨A3, n3, c3, hn3, rfl, hg3, ho3⟩
    have HO3 := lib_hid (own_base ho3 hW.le)
    have HN4 : Hid (n3 = 64) := by unfold Hid; rw [hn3.out]; exact HXl.out
    clear ho3 hn3
    go_wp2
    exact ⟨rfl, rfl, hg3, A3, n3, c3, rfl, HN4.out, HO3.out⟩
  intro v6
  intro k1 a1 hk1 ha1
  simp only [Nat.reduceAdd] at hk1
  simp only [Act.put, List.setIfInBounds_toArray, List.set_cons_succ, List.set_cons_zero] at ha1
  subst hk1 ha1
  refine Mono.done ?_
  intro wm hgm
  simp only [allF, List.drop_succ_cons, List.drop_zero]
  intro g6
  obtain ⟨A3, n3, c3, rfl, hn3, ho3⟩ := g6
  have HS3 : Hid (SB wm A3 n3 c3 (xorK K 54)) := SB.own ho3
  have HA3 : Hid (∀ p, A3 = some p → p.block ≠ gs) := fun p hp => by
    have := (own_lt ho3 p.block (by rw [hp]; rfl)).1
    have := HP2.out.lt
    omega
  have Hgm := lib_hid hgm
  have Hwr := lib_hid (shaWrite_of ks gs base none [] (xorK K 54) A3 n3 c3 wm HKl.out (HK2.out.grows hgm) (HP2.out.grows hgm) HS3.out (fun _ => HA3.out) (Nat.le_trans (Nat.le_trans Hbb.out.2.1 Hk02.out.size) hgm.le) Hbb.out.2.2.1 (by simp) (by omega))
  clear ho3 hgm HPad HP
  subst hn3
  go_wp2_with fail
  refine Hwr.out.mono ?_
  rintro e4 w4 ⟨rfl, rb, hP4, hK4, hl4⟩
  rw [List.nil_append] at hP4
  have HB4 := lib_hid ((HB2.out.grows Hgm.out).keeps hK4 (fun h => by
    rcases h with h | h
    · exact Hgs.out.1 h
    · cases h))
  have hrb : ∀ k, rb = some k → w2.heap.size ≤ k := fun k hk => by
    rcases hl4 with h | ⟨k', h, hle⟩
    · rw [h] at hk; cases hk
    · rw [hk] at h; cases h; exact Nat.le_trans Hgm.out.le hle
  have hfin : HmOf ks w4 base g gs rb K [] := ⟨HKK.out, Hbb.out.1, HB4.out, by rw [List.append_nil]; exact hP4, Hgs.out.1, fun h => by have := hrb g h; omega⟩
  have hkf : Keeps (fun k => k = g) w w4 := (Hk02.out.trans (Hgm.out.keeps (fun k => k = g)) (fun i hi _ => hi)).trans hK4 (fun i hi hlt => by
    rcases hi with h | h
    · have := Hgs.out; omega
    · cases h)
  have Hfin := lib_hid (And.intro hfin (And.intro hkf hrb))
  have Hsz := Hk02.out.size
  clear hfin hkf hrb hP4 hK4 hl4 Hwr
  go_wp2
  go_end0
  exact ⟨rfl, gs, rb, Hfin.out.1, Hfin.out.2.1, Hgs.out.2.2, fun k hk => Nat.le_trans Hsz (Hfin.out.2.2 k hk)⟩
theorem hresetNil_any (w : World) : Calls Tryd.prog 13 #[.pointer none] w fun e w' => e = .returned (.tuple #[]) ∧ w = w' := by
  go_enter Tryd.func13, Tryd.ntmps13
  go_wp2
  refine bodyPost_ret (results_none rfl _ _ _) rfl ?_
  exact ⟨rfl, rfl⟩
theorem hwriteNil_any (B : Value) (w : World) : Calls Tryd.prog 11 #[.pointer none, B] w fun e w' => e = .returned (.tuple #[]) ∧ w = w' := by
  go_enter Tryd.func11, Tryd.ntmps11
  go_wp2
  go_end0
  exact ⟨rfl, rfl⟩
set_option maxRecDepth 100000 in
set_option maxHeartbeats 4000000 in
theorem hwrite_any {tK : TypeId} (ks : List UInt32) (g gs base : Nat) (rb : Option Nat) (K bs ys : List UInt8) (B : Option Addr) (m d : Nat) (w : World)
    (hkl : ks.length = 64) (HK : Hid (Blk w 0 tK (ks.map b32).toArray)) (hP : HmOf ks w base g gs rb K bs) (hs : SB w B m d ys) (hBg : 0 < m → ∀ p, B = some p → p.block ≠ gs)
    (hbase : base ≤ w.heap.size) (hb0 : 0 < base) (hN : bs.length ≤ 900000) (hm : m ≤ 900000) :
    Calls Tryd.prog 11 #[.pointer (some ⟨g, 0, none⟩), .slice B m d] w fun e w' => e = .returned (.tuple #[]) ∧ ∃ rb', HmOf ks w' base g gs rb' K (bs ++ ys) ∧ Keeps (fun k => k = gs ∨ rb = some k) w w' ∧ (rb' = rb ∨ ∃ k, rb' = some k ∧ w.heap.size ≤ k) := by
  obtain ⟨hK, hbg, hB, hS, hne, hrg⟩ := hP
  have q1 : w.cell? ⟨g, 64, none⟩ = some (.pointer (some ⟨gs, 0, none⟩)) := by rw [hB.cell]; exact hc_at K hK _
  have Hgl := lib_hid hB.lt
  have hxl : (xorK K 54 ++ bs).length ≤ 1000000 := by rw [List.length_append, xorK_len]; omega
  have Hwr := lib_hid (shaWrite_of ks gs base rb (xorK K 54 ++ bs) ys B m d w hkl HK hS hs hBg hbase hb0 hxl (by omega))
  have HF : Hid (∀ (rb' : Option Nat) (w' : World), ShaOf ks w' base gs rb' ((xorK K 54 ++ bs) ++ ys) → Keeps (fun k => k = gs ∨ rb = some k) w w' → (rb' = rb ∨ ∃ k, rb' = some k ∧ w.heap.size ≤ k) → HmOf ks w' base g gs rb' K (bs ++ ys)) := fun rb' w' h1 h2 h3 => by
    refine ⟨hK, hbg, hB.keeps h2 (fun h => ?_), by rw [← List.append_assoc]; exact h1, hne, fun h => ?_⟩
    · rcases h with h | h
      · exact hne h
      · exact hrg h
    · rcases h3 with h3 | ⟨k, h3, h4⟩
      · exact hrg (h3 ▸ h)
      · rw [h] at h3; cases h3; have := Hgl.out; omega
  have hgl := hB.lt
  clear hB hS hs HK hBg hrg hkl
  go_enter Tryd.func11, Tryd.ntmps11
  go_wp2_with fail
  refine Hwr.out.mono ?_
  rintro e4 w4 ⟨rfl, rb', hP4, hK4, hl4⟩
  have hf := HF.out rb' w4 hP4 hK4 hl4
  have Hf := lib_hid (And.intro hf (And.intro hK4 hl4))
  clear hf hP4 hK4 hl4
  go_wp2
  go_end0
  exact ⟨rfl, rb', Hf.out⟩
/-- The sum, out of the key's block. -/
def hmF (ks : List UInt32) (K bs : List UInt8) : List UInt8 := sumS ks (xorK K 92 ++ sumS ks (xorK K 54 ++ bs))
theorem hmF_len (ks : List UInt32) (K bs : List UInt8) : (hmF ks K bs).length = 32 := sumS_len _ _
set_option maxRecDepth 100000 in
set_option maxHeartbeats 4000000 in
theorem hsum_any {tK : TypeId} (ks : List UInt32) (g gs base : Nat) (rb : Option Nat) (K bs : List UInt8) (w : World)
    (hkl : ks.length = 64) (HK : Hid (Blk w 0 tK (ks.map b32).toArray)) (hP : HmOf ks w base g gs rb K bs) (hN : bs.length ≤ 900000) :
    Calls Tryd.prog 12 #[.pointer (some ⟨g, 0, none⟩)] w fun e w' => e = .returned (.agg ((hmF ks K bs).map b8).toArray) ∧ Grows w w' := by
  obtain ⟨hK, hbg, hB, hS, hne, hrg⟩ := hP
  obtain ⟨W, HW⟩ : ∃ W : World, Hid (W = w.alloc (.cells #[.int .u8 0, .int .u8 0, .int .u8 0, .int .u8 0, .int .u8 0, .int .u8 0, .int .u8 0, .int .u8 0, .int .u8 0, .int .u8 0, .int .u8 0, .int .u8 0, .int .u8 0, .int .u8 0, .int .u8 0, .int .u8 0, .int .u8 0, .int .u8 0, .int .u8 0, .int .u8 0, .int .u8 0, .int .u8 0, .int .u8 0, .int .u8 0, .int .u8 0, .int .u8 0, .int .u8 0, .int .u8 0, .int .u8 0, .int .u8 0, .int .u8 0, .int .u8 0] 23)) := ⟨_, lib_hid rfl⟩
  have hgW : Grows w W := by rw [HW.out]; exact (Grows.refl w).alloc _
  obtain ⟨gz, Hgz⟩ : ∃ x, Hid (w.heap.size = x) := ⟨_, lib_hid rfl⟩
  have HZ : Hid (Blk W gz 23 #[.int .u8 0, .int .u8 0, .int .u8 0, .int .u8 0, .int .u8 0, .int .u8 0, .int .u8 0, .int .u8 0, .int .u8 0, .int .u8 0, .int .u8 0, .int .u8 0, .int .u8 0, .int .u8 0, .int .u8 0, .int .u8 0, .int .u8 0, .int .u8 0, .int .u8 0, .int .u8 0, .int .u8 0, .int .u8 0, .int .u8 0, .int .u8 0, .int .u8 0, .int .u8 0, .int .u8 0, .int .u8 0, .int .u8 0, .int .u8 0, .int .u8 0, .int .u8 0]) := by unfold Hid; rw [HW.out, ← Hgz.out]; exact Blk.new _ _ _
  have HgW := lib_hid hgW
  have HB := lib_hid (hB.grows hgW)
  have HKK := lib_hid hK
  have HXl : Hid ((xorK K 92).length = 64) := by unfold Hid; rw [xorK_len]; exact hK
  have q1 : W.cell? ⟨g, 64, none⟩ = some (.pointer (some ⟨gs, 0, none⟩)) := by rw [HB.out.cell]; exact hc_at K hK _
  have hgl := HB.out.lt
  have hxl : (xorK K 54 ++ bs).length ≤ 1000000 := by rw [List.length_append, xorK_len]; omega
  obtain ⟨is, His, isl⟩ : ∃ x : List UInt8, Hid (sumS ks (xorK K 54 ++ bs) = x) ∧ Hid (x.length = 32) := ⟨_, lib_hid rfl, lib_hid (sumS_len _ _)⟩
  obtain ⟨rs, Hrs, hrl, hra⟩ : ∃ rs : Array Value, Hid (((sumS ks (xorK K 92 ++ is)).map b8).toArray = rs) ∧ Hid (rs.size = 32) ∧ Hid (rs.all (·.oneCell') = true) := ⟨_, lib_hid rfl, by unfold Hid; simp [sumS_len], lib_hid (cells_all _)⟩
  have HT : Hid (((hmF ks K bs).map b8).toArray = rs) := by unfold Hid hmF; rw [His.out, Hrs.out]
  rw [HT.out]
  obtain ⟨ia, Hia, ial, iaa⟩ : ∃ x : Array Value, Hid ((is.map b8).toArray = x) ∧ Hid (x.size = 32) ∧ Hid (x.all (·.oneCell') = true) := ⟨_, lib_hid rfl, by unfold Hid; simp [isl.out], lib_hid (cells_all _)⟩
  have HSm : Hid (Calls Tryd.prog 17 #[.pointer (some ⟨gs, 0, none⟩)] W fun e w' => e = .returned (.agg ia) ∧ Grows W w') := by
    rw [← Hia.out, ← His.out]; exact shaSum_of ks gs base rb _ W hkl (HK.out.grows hgW) (hS.grows hgW) hxl
  have HSs : Hid (∀ (A : Option Addr) (n c : Nat) (W2 : World), Grows w W2 → SB W2 A n c (xorK K 92 ++ is) → n = 96 → Calls Tryd.prog 14 #[.slice A n c] W2 fun e w' => e = .returned (.agg rs) ∧ Grows W2 w') := fun A n c W2 hW h hn => by
    rw [← Hrs.out]; exact shaSum_any ks A n c _ W2 hkl (HK.out.grows hW) h (by omega)
  clear hB hS hgW HK hkl hrg hxl hK His Hrs HT
  go_enter Tryd.func12, Tryd.ntmps12
  go_upto_region 1 with fail
  rw [← HW.out, Hgz.out]
  clear HW
  go_wp2_with fail
  refine HSm.out.mono ?_
  rintro e2 w2 ⟨rfl, hg2⟩
  have HN1 : Hid (Blk (w2.alloc (.cells #[.int .u8 0, .int .u8 0, .int .u8 0, .int .u8 0, .int .u8 0, .int .u8 0, .int .u8 0, .int .u8 0, .int .u8 0, .int .u8 0, .int .u8 0, .int .u8 0, .int .u8 0, .int .u8 0, .int .u8 0, .int .u8 0, .int .u8 0, .int .u8 0, .int .u8 0, .int .u8 0, .int .u8 0, .int .u8 0, .int .u8 0, .int .u8 0, .int .u8 0, .int .u8 0, .int .u8 0, .int .u8 0, .int .u8 0, .int .u8 0, .int .u8 0, .int .u8 0] 23)) w2.heap.size 23 #[.int .u8 0, .int .u8 0, .int .u8 0, .int .u8 0, .int .u8 0, .int .u8 0, .int .u8 0, .int .u8 0, .int .u8 0, .int .u8 0, .int .u8 0, .int .u8 0, .int .u8 0, .int .u8 0, .int .u8 0, .int .u8 0, .int .u8 0, .int .u8 0, .int .u8 0, .int .u8 0, .int .u8 0, .int .u8 0, .int .u8 0, .int .u8 0, .int .u8 0, .int .u8 0, .int .u8 0, .int .u8 0, .int .u8 0, .int .u8 0, .int .u8 0, .int .u8 0]) := Blk.new _ _ _
  have Hg2 := lib_hid hg2
  clear hg2 HSm q1
  go_upto_region 4 with (refine wpList_store_blk rfl _ _ _ rfl w2.heap.size ia rfl rfl 23 _ HN1.out (by rw [Tryd.size32B, ial.out]) (by rw [ial.out]; rfl) iaa.out w2.heap.size w2 ((Grows.refl w2).alloc _) (Nat.le_refl _) ?_; intro w3 H3 hb3 hgr3)
  obtain ⟨g3, Hg3⟩ : ∃ x, Hid (w2.heap.size = x) := ⟨_, lib_hid rfl⟩
  have HI : Hid (Blk w3 g3 23 ia) := by rw [← Hg3.out]; exact H3
  rw [Hg3.out]
  have Hg23 : Hid (Grows W w3) := Hg2.out.trans hb3
  have HB3 := lib_hid (HB.out.grows Hg23.out)
  have HPad : Hid (∀ W, Grows w3 W → Calls Tryd.prog 18 #[.pointer (some ⟨g, 0, none⟩), .int .u8 92] W (NewB 5 W (xorK K 92))) := fun W hW => hpad_any K HKK.out 92 _ g W (HB3.out.grows hW)
  clear H3 hb3 hgr3 HN1 Hg2 HB
  apply wp_region_mono 3 ((.is _, []) :: (.pr (fun v W => ∃ A n c, v = .slice A n c ∧ n = 64 ∧ W.ownsRow w3.heap.size 5 1 (.slice A n c) n ((xorK K 92).map b8)), []) :: (.is _, []) :: []) (by kernel_rfl) (by kernel_rfl)
  apply Mono.is0
  · kernel_rfl
  · intro W hW
    go_wp2
    refine ⟨rfl, rfl, Grows.refl _, ?_⟩
    unfold Oper.valAt
    go_simp
    rfl
  intro k1 a1 hk1 ha1
  simp only [Nat.reduceAdd] at hk1
  simp only [Act.put, List.setIfInBounds_toArray, List.set_cons_succ, List.set_cons_zero] at ha1
  subst hk1 ha1
  apply Mono.pr0
  · kernel_rfl
  · exact fun v W W' hW ⟨A, n, c, h1, h2, h3⟩ => ⟨A, n, c, h1, h2, own_grows h3 hW⟩
  · intro W hW 
    go_wp2_with fail
    refine (HPad.out W hW).mono ?_
    rintro e w4 ⟨A3, n3, c3, hn3, rfl, hg3, ho3⟩
    have HO3 := lib_hid (own_base ho3 hW.le)
    have HN4 : Hid (n3 = 64) := by unfold Hid; rw [hn3.out]; exact HXl.out
    clear ho3 hn3
    go_wp2
    exact ⟨rfl, rfl, hg3, A3, n3, c3, rfl, HN4.out, HO3.out⟩
  intro v1
  intro k1 a1 hk1 ha1
  simp only [Nat.reduceAdd] at hk1
  simp only [Act.put, List.setIfInBounds_toArray, List.set_cons_succ, List.set_cons_zero] at ha1
  subst hk1 ha1
  apply Mono.is0
  · kernel_rfl
  · intro W hW
    go_wp2
    refine ⟨rfl, rfl, Grows.refl _, ?_⟩
    unfold Oper.valAt
    go_simp
    rfl
  intro k1 a1 hk1 ha1
  simp only [Nat.reduceAdd] at hk1
  simp only [Act.put, List.setIfInBounds_toArray, List.set_cons_succ, List.set_cons_zero] at ha1
  subst hk1 ha1
  refine Mono.done ?_
  intro wm hgm
  simp only [allF, List.drop_succ_cons, List.drop_zero]
  intro g1
  obtain ⟨A4, n4, c4, rfl, hn4, ho4⟩ := g1
  have HO4 := lib_hid ho4
  have HSi : Hid (SB wm (some ⟨g3, 0, none⟩) 32 32 is) := by
    have h5 : Blk wm g3 23 (is.map b8).toArray := by rw [Hia.out]; exact HI.out.grows hgm
    have h6 := h5.part8 0 32 32 (by omega) (by rw [isl.out]; omega) (by unfold maxLen; omega)
    rw [List.drop_zero, List.take_of_length_le (by rw [isl.out]; omega)] at h6
    exact h6
  have Hgm : Hid (Grows w wm) := HgW.out.trans (Hg23.out.trans hgm)
  have HZm := lib_hid (HZ.out.grows (Hg23.out.trans hgm))
  have Hlem := lib_hid hgm.le
  have Hw3 : Hid (Grows w w3) := HgW.out.trans Hg23.out
  have HZ3 := lib_hid (HZ.out.grows Hg23.out)
  have hgm3 := hgm
  clear ho4 hgm HPad HI HB3 HZ Hg23
  subst hn4
  go_wp2_with (at_builtin; refine wpList_append rfl _ _ 22 rfl w3.heap.size 5 (.int .u8 0) 1 Tryd.underlying22 Tryd.infoByte rfl _ 64 _ rfl HO4.out (some ⟨g3, 0, none⟩) 32 32 (is.map b8) rfl HSi.out (b8_one _) (by omega) (by omega) Hlem.out ?_; intro A5 c5 w5 ho5 hb5 hg5; have HS5 : Hid (SB w5 A5 96 c5 (xorK K 92 ++ is)) := (by rw [← List.map_append] at ho5; exact SB.own ho5); have Hg35 : Hid (Grows w3 w5) := (show Below w3.heap.size w3 w5 from Below.trans hgm3 hb5); clear ho5 hb5 hg5)
  refine (HSs.out A5 96 c5 w5 (Hw3.out.trans Hg35.out) HS5.out rfl).mono ?_
  rintro e6 w6 ⟨rfl, hg6⟩
  have HZ6 := lib_hid ((HZ3.out.grows Hg35.out).grows hg6)
  have Hg6 : Hid (Grows w w6) := (Hw3.out.trans Hg35.out).trans hg6
  have Hgzl : Hid (w.heap.size ≤ gz) := by rw [← Hgz.out]; exact lib_hid (Nat.le_refl _)
  clear hg6
  go_wp2_with (refine wpList_store_blk rfl _ _ _ rfl gz rs rfl rfl 23 _ HZ6.out (by rw [Tryd.size32B, hrl.out]) (by rw [hrl.out]; rfl) hra.out w.heap.size w Hg6.out Hgzl.out ?_; intro w8 H8 hb8 hg8)
  refine bodyPost_ret (results_cell_row rfl _ _ gz _ _ _ _ rfl H8 Tryd.underlying23 rfl (by rw [Tryd.size32B, hrl.out])) rfl ?_
  exact ⟨rfl, hb8⟩

end Go.Proofs.YtngmclajfbknjaaDoor
