/-
  ctr's Crypt.
-/
import Derived.Test.YthcmdjaccjghjaaCtr2
import Derived.Deep.Cut
import Derived.ScopeJumps
import Derived.WalkMore
namespace Go.Proofs.Ythcmdjaccjghjaa
open Go Go.RowKit
set_option linter.unusedSimpArgs false
set_option linter.unusedVariables false


theorem run_sl_z {P : Program} {t e : TypeId} (ht : P.underlying t = some (.slice e)) (hs : (P.info? e).map (·.size) = some 1) (A : Option Addr) (n c : Nat) (W : World) :
    Sem.run P (Instr.slice t (.slice A n c) (some (.int .i64 0)) none none) W = .ok (.slice A n c) W := by
  have e2 : P.elem t = e := by simp [Program.elem, ht]
  obtain ⟨i, hi', hi1⟩ := Option.map_eq_some_iff.1 hs
  have hz : (sizeOf e).run P W = .ok 1 W := by simp [sizeOf, typeInfo, hi', hi1]
  rw [run_slice_l (w := W) t A n c (by rw [e2]; exact ht) .i64 0 (by omega) (by omega), e2, hz]
  simp only [Result.andThen_ok, sliced, Int.toNat_zero, Nat.sub_zero, Nat.zero_mul]
  cases A with
  | none => split <;> rfl
  | some p => split
              · rfl
              · obtain ⟨b, o, s⟩ := p
                cases s <;> simp [Addr.add]
theorem run_sl_lA {P : Program} {t e : TypeId} (ht : P.underlying t = some (.slice e)) (hs : (P.info? e).map (·.size) = some 1) (A : Option Addr) (n c k : Nat) (l : Int) (hl : l = k) (hk : k ≤ n) (W : World) :
    Sem.run P (Instr.slice t (.slice A n c) (some (.int .i64 l)) none none) W = .ok (.slice (if c = k then A else A.map (·.add k)) (n - k) (c - k)) W := by
  have e2 : P.elem t = e := by simp [Program.elem, ht]
  obtain ⟨i, hi', hi1⟩ := Option.map_eq_some_iff.1 hs
  have hz : (sizeOf e).run P W = .ok 1 W := by simp [sizeOf, typeInfo, hi', hi1]
  subst hl
  rw [run_slice_l (w := W) t A n c (by rw [e2]; exact ht) .i64 k (by omega) (by omega), e2, hz]
  simp only [Result.andThen_ok, sliced, Int.toNat_natCast, Nat.mul_one]
theorem sb_keeps0 {own : Nat → Prop} {w w' : World} {A : Option Addr} {n c : Nat} {bs : List UInt8} (h : SB w A n c bs) (k : Keeps own w w') (ho : ∀ p, A = some p → 0 < n → ¬ own p.block) : SB w' A n c bs := by
  by_cases h0 : 0 < n
  · exact Row.keeps h k (fun p e => ho p e h0)
  · exact ⟨h.1, h.2.1, h.2.2.1, h.2.2.2.1, fun hn => absurd hn h0⟩
theorem xor_short (E : List UInt8 → List UInt8) (b x : List UInt8) (k : Nat) (hx : x.length = k) (hk : k ≤ b.length) : xorF b x = xorF (b.take k) x := by
  unfold xorF
  apply List.ext_getElem
  · simp; omega
  · intro i h1 h2
    simp [List.getElem_zipWith]
theorem xor_block {E : List UInt8 → List UInt8} (hE : ∀ xs, (E xs).length = 16) (iv b : List UInt8) (j : Nat) (h : 16 * j ≤ b.length) : xorF b (ksF E iv (j + 1)) = xorF b (ksF E iv j) ++ xorF (b.drop (16 * j)) (E (cK iv j)) := by
  rw [ksF]
  have hl : (b.take (16 * j)).length = (ksF E iv j).length := by rw [ksF_len hE, List.length_take]; omega
  rw [xor_short E b (ksF E iv j) (16 * j) (ksF_len hE iv j) h]
  conv => lhs; rw [← List.take_append_drop (16 * j) b]
  unfold xorF
  exact List.zipWith_append hl
set_option maxRecDepth 100000 in
set_option maxHeartbeats 4000000 in
theorem ctrCrypt_any (B0 g nr s : Nat) (TT ws iv b : List UInt8) (A : Option Addr) (n c : Nat) (w : World) (hK : KeyR w B0 g TT ws nr) (hBs : B0 ≤ s) (h1 : 1 ≤ nr) (hnr : nr ≤ 14) (hx : iv.length = 16) (hs : Blk w s 93 (ctrV g iv (.slice none 0 0) 0)) (hb : SB w A n c b) (hA : ∀ p, A = some p → 0 < n → ¬ p.block = s) (hAl : ∀ p, A = some p → 0 < n → p.block < w.heap.size) (hn : n ≤ 1000) :
    Calls Try.prog 42 #[.pointer (some ⟨s, 0, none⟩), .slice A n c] w fun e w' => ∃ A' c', e = .returned (.slice A' n c') ∧ Keeps (fun k => k = s) w w' ∧ SB w' A' n c' (ctrF (encF TT ws nr) iv b) := by
  obtain ⟨E, HE, hE⟩ : ∃ E : List UInt8 → List UInt8, Hid (encF TT ws nr = E) ∧ Hid (∀ xs, (E xs).length = 16) := ⟨_, lib_hid rfl, lib_hid (fun xs => encF_len TT ws nr xs)⟩
  rw [HE.out]
  have hBw : B0 ≤ w.heap.size := by obtain ⟨_, _, _, _, _, _, h, _⟩ := hK; exact h
  have HFl : Hid (∀ (nx : List UInt8) (L : Value) (a : Int) (W : World), nx.length = 16 → Keeps (fun k => k = s) w W → Blk W s 93 (ctrV g nx L a) → Calls Try.prog 52 #[.pointer (some ⟨s, 0, none⟩)] W fun e w' => ∃ q, e = .returned (.tuple #[]) ∧ W.heap.size ≤ q ∧ Keeps (fun k => k = s) W w' ∧ Blk w' s 93 (ctrV g (countF nx 1) (.slice (some ⟨q, 0, none⟩) 16 16) a) ∧ Blk w' q 23 ((E nx).map b8).toArray) := fun nx L a W hl hW hB => by
    have := fill_any B0 g nr s TT ws nx L a W (hK.below (hW.below hBw (fun i hi => by omega))) h1 hnr hl hB
    rw [HE.out] at this
    exact this
  have HBs := lib_hid hs
  have HSb := lib_hid hb
  have hbl := lib_hid hb.len
  have hcm := hb.max
  have hnc := hb.cap
  have Hxl := lib_hid hx
  have HAlt : Hid (∀ p, A = some p → 0 < n → p.block < w.heap.size) := lib_hid hAl
  have HSne : Hid (∀ p, A = some p → 0 < n → ¬ p.block = s) := lib_hid hA
  have hsl : s < w.heap.size := hs.lt
  have hc18 := hs.cell 18
  rw [ctrV_c18 _ _ _ _ hx] at hc18
  have hf18 := hs.frozen 18
  have hst := hs.set 18 (.int .i64 (n : Int))
  rw [ctrV_at _ _ _ _ _ hx] at hst
  have HB1 := lib_hid hst
  have HK1 : Hid (Keeps (fun k => k = s) w (w.setCell ⟨s, 18, none⟩ (.int .i64 (n : Int)))) := lib_hid (keeps_set w ⟨s, 18, none⟩ _)
  clear hK hs hb hst hA hAl
  go_enter Try.func42, Try.ntmps42
  go_wp2_with fail
  refine wp_scope_jumps 0 (fun a' W => ∃ (j q : Nat) (Bp : Option Addr) (rm cb : Nat) (O : Option Addr) (co : Nat) (u6 u7 u8 u9 u10 u11 u12 u13 u14 u15 u16 u17 u18 u19 u20 u21 u22 u23 u24 u25 u26 u27 u28 u29 u30 u31 u32 u33 u34 u35 u36 u37 u38 u39 u40 u41 u42 u43 u44 u45 u46 : Value), a' = { tmps := #[.pointer (some ⟨s, 0, none⟩), .slice Bp rm cb, undef, undef, .slice none 0 0, .slice O (16 * j) co, u6, u7, u8, u9, u10, u11, u12, u13, u14, u15, u16, u17, u18, u19, u20, u21, u22, u23, u24, u25, u26, u27, u28, u29, u30, u31, u32, u33, u34, u35, u36, u37, u38, u39, u40, u41, u42, u43, u44, u45, u46], defers := [] } ∧ Hid (16 * j + rm = n) ∧ 1 ≤ rm ∧ Keeps (fun k => k = s) w W ∧ w.heap.size ≤ q ∧ Hid (∀ i, blkOf O = some i → i ≠ q) ∧
      Hid (Blk W s 93 (ctrV g (cK iv (j + 1)) (.slice (some ⟨q, 0, none⟩) 16 16) (n : Int))) ∧ Hid (Blk W q 23 ((E (cK iv j)).map b8).toArray) ∧ Hid (SB W Bp rm cb (b.drop (16 * j))) ∧ Hid (W.ownsRow w.heap.size 5 1 (.slice O (16 * j) co) (16 * j) ((xorF b (ksF E iv j)).map b8)) ∧ Hid (∀ p, Bp = some p → p.block < w.heap.size) ∧ Hid (∀ p, Bp = some p → ¬ p.block = s)) (fun a' _ => lenOf (a'.tmps.getD 1 undef)) rfl ?_ ?_
  · have hwn : IntKind.i64.wrap (n : Int) = (n : Int) := i64_wrap _ (by omega) (by omega)
    go_upto_region 5 with fail
    obtain ⟨W1, HW1⟩ : ∃ W1, Hid (w.setCell ⟨s, 18, none⟩ (.int .i64 (n : Int)) = W1) := ⟨_, lib_hid rfl⟩
    rw [HW1.out] at HB1 HK1 ⊢
    have hc17 := HB1.out.cell 17
    rw [ctrV_c17 _ _ _ _ Hxl.out] at hc17
    have HSb1 := lib_hid (sb_keeps0 HSb.out HK1.out (fun p e h0 hps => HSne.out p e h0 hps))
    clear hc18 hf18 HW1 HBs
    go_step3
    go_wp2_with fail
    refine (xor_any A none n c 0 0 b [] W1 HSb1.out (SB.nil _) (by omega)).mono ?_
    rintro e w2 ⟨A2, n2, c2, hn2, rfl, hg2, ho2⟩
    have hx0 : xorF b [] = [] := by unfold xorF; exact List.zipWith_nil_right
    rw [hx0] at hn2 ho2
    obtain rfl : n2 = 0 := hn2.out
    have HS2 := lib_hid (SB.own ho2)
    have HB2 := lib_hid (HB1.out.grows hg2)
    have HK2 : Hid (Keeps (fun k => k = s) w w2) := lib_hid (HK1.out.trans (hg2.keeps _) (fun _ h _ => h))
    have HSb2 := lib_hid (HSb1.out.grows hg2)
    have hle2 : w.heap.size ≤ w2.heap.size := HK2.out.size
    have HN2 : Hid (w2.ownsRow w.heap.size 5 1 (.slice none 0 0) 0 []) := World.ownsRow_nil _ _ _ _
    clear hg2 ho2 hn2 HB1 HK1 hc17 HSb1 hx0
    go_upto_region 7 with (at_builtin; refine wpList_append2 rfl _ _ 26 rfl w.heap.size 5 (.int .u8 0) 1 Try.underlying26 Try.infoByte rfl none 0 0 [] rfl HN2.out A2 0 c2 [] rfl HS2.out (by intro u hu; cases hu) (by omega) (by omega) hle2 ?_; intro A3 c3 w3 ho3 hG3 hl3)
    have HO3 : Hid (w3.ownsRow w.heap.size 5 1 (.slice A3 0 c3) 0 []) := ho3
    have hg3 : Grows w2 w3 := (Grows.refl w2).grown hG3 (fun q hq => by cases hq)
    have HB3 := lib_hid (HB2.out.grows hg3)
    have HK3 : Hid (Keeps (fun k => k = s) w w3) := lib_hid (HK2.out.trans (hg3.keeps _) (fun _ h _ => h))
    have HSb3 := lib_hid (HSb2.out.grows hg3)
    have HC17 : Hid (∀ W, Grows w3 W → W.cell? ⟨s, 17, none⟩ = some (.slice none 0 0)) := fun W hW => by
      have h := (HB3.out.grows hW).cell 17
      rw [ctrV_c17 _ _ _ _ Hxl.out] at h
      exact h
    have Hs1 : Hid (∀ W, (Instr.slice 26 (.slice A n c) (some (.int .i64 0)) none none).run Try.prog W = .ok (.slice A n c) W) := fun W => run_sl_z Try.underlying26 Try.sizeByte A n c W
    have Hs2 : Hid (∀ W, (Instr.slice 26 (.slice none 0 0) (some (.int .i64 0)) none none).run Try.prog W = .ok (.slice none 0 0) W) := fun W => run_sl_z Try.underlying26 Try.sizeByte none 0 0 W
    clear ho3 hG3 hl3 hg3 HB2 HK2 HSb2 HN2 HS2
    go_wp2
    apply wp_region_mono 15 ((.is _, []) :: (.is _, []) :: (.is _, []) :: (.is _, []) :: (.is _, []) :: (.is _, []) :: (.is _, []) :: (.is _, []) :: (.is _, []) :: (.is _, []) :: (.is _, []) :: (.is _, []) :: (.is _, []) :: (.is _, []) :: (.is _, []) :: []) (by kernel_rfl) (by kernel_rfl)
    iterate 4
      apply Mono.is0
      · kernel_rfl
      · intro W hW
        go_wp2
        refine ⟨rfl, rfl, Grows.refl _, ?_⟩
        unfold Oper.valAt
        go_simp
        rfl
      intro k1 a1 hk1 ha1
      simp only [Nat.reduceAdd] at hk1
      simp only [Act.put, List.setIfInBounds_toArray, List.set_cons_succ, List.set_cons_zero] at ha1
      subst hk1 ha1
    apply Mono.is0
    · kernel_rfl
    · intro W hW
      have s1 := Hs1.out W
      go_wp2
      refine ⟨rfl, rfl, Grows.refl _, ?_⟩
      unfold Oper.valAt
      go_simp
      rfl
    intro k1 a1 hk1 ha1
    simp only [Nat.reduceAdd] at hk1
    simp only [Act.put, List.setIfInBounds_toArray, List.set_cons_succ, List.set_cons_zero] at ha1
    subst hk1 ha1
    iterate 3
      apply Mono.is0
      · kernel_rfl
      · intro W hW
        go_wp2
        refine ⟨rfl, rfl, Grows.refl _, ?_⟩
        unfold Oper.valAt
        go_simp
        rfl
      intro k1 a1 hk1 ha1
      simp only [Nat.reduceAdd] at hk1
      simp only [Act.put, List.setIfInBounds_toArray, List.set_cons_succ, List.set_cons_zero] at ha1
      subst hk1 ha1
    apply Mono.is0
    · kernel_rfl
    · intro W hW
      have c7 := HC17.out W hW
      go_wp2
      refine ⟨rfl, rfl, Grows.refl _, ?_⟩
      unfold Oper.valAt
      go_simp
      rfl
    intro k1 a1 hk1 ha1
    simp only [Nat.reduceAdd] at hk1
    simp only [Act.put, List.setIfInBounds_toArray, List.set_cons_succ, List.set_cons_zero] at ha1
    subst hk1 ha1
    iterate 2
      apply Mono.is0
      · kernel_rfl
      · intro W hW
        go_wp2
        refine ⟨rfl, rfl, Grows.refl _, ?_⟩
        unfold Oper.valAt
        go_simp
        rfl
      intro k1 a1 hk1 ha1
      simp only [Nat.reduceAdd] at hk1
      simp only [Act.put, List.setIfInBounds_toArray, List.set_cons_succ, List.set_cons_zero] at ha1
      subst hk1 ha1
    apply Mono.is0
    · kernel_rfl
    · intro W hW
      have s2 := Hs2.out W
      go_wp2
      refine ⟨rfl, rfl, Grows.refl _, ?_⟩
      unfold Oper.valAt
      go_simp
      rfl
    intro k1 a1 hk1 ha1
    simp only [Nat.reduceAdd] at hk1
    simp only [Act.put, List.setIfInBounds_toArray, List.set_cons_succ, List.set_cons_zero] at ha1
    subst hk1 ha1
    iterate 3
      apply Mono.is0
      · kernel_rfl
      · intro W hW
        go_wp2
        refine ⟨rfl, rfl, Grows.refl _, ?_⟩
        unfold Oper.valAt
        go_simp
        rfl
      intro k1 a1 hk1 ha1
      simp only [Nat.reduceAdd] at hk1
      simp only [Act.put, List.setIfInBounds_toArray, List.set_cons_succ, List.set_cons_zero] at ha1
      subst hk1 ha1
    refine Mono.done ?_
    intro wm hgm
    simp only [allF, List.drop_succ_cons, List.drop_zero]
    have HB4 := lib_hid (HB3.out.grows hgm)
    have HK4 : Hid (Keeps (fun k => k = s) w wm) := lib_hid (HK3.out.trans (hgm.keeps _) (fun _ h _ => h))
    have HO4 := lib_hid (own_grows HO3.out hgm)
    have HSb4 := lib_hid (HSb3.out.grows hgm)
    have hc4 := HB4.out.cell 17
    rw [ctrV_c17 _ _ _ _ Hxl.out] at hc4
    have hf4 := HB4.out.frozen 17
    clear hgm HB3 HK3 HO3 HSb3 HC17 Hs1 Hs2
    have HK5 : Hid (Keeps (fun k => k = s) w (wm.setCell ⟨s, 17, none⟩ (.slice none 0 0))) := lib_hid (HK4.out.trans (keeps_set wm ⟨s, 17, none⟩ _) (fun _ h _ => h))
    have HB5 : Hid (Blk (wm.setCell ⟨s, 17, none⟩ (.slice none 0 0)) s 93 (ctrV g iv (.slice none 0 0) (n : Int))) := by
      have := HB4.out.set 17 (.slice none 0 0)
      rw [ctrV_left _ _ _ _ _ Hxl.out] at this
      exact lib_hid this
    have HO5 : Hid ((wm.setCell ⟨s, 17, none⟩ (.slice none 0 0)).ownsRow w.heap.size 5 1 (.slice A3 0 c3) 0 []) := lib_hid (own_keepsE HO4.out (keeps_set wm ⟨s, 17, none⟩ _) (fun k hk e => by simp only at e; omega))
    have HSb5 : Hid (SB (wm.setCell ⟨s, 17, none⟩ (.slice none 0 0)) A n c b) := lib_hid (sb_keeps0 HSb4.out (keeps_set wm ⟨s, 17, none⟩ _) (fun p e h0 h => HSne.out p e h0 h))
    clear HB4 HK4 HO4 HSb4
    by_cases hn0 : n = 0
    · have h0 : (n : Int) = 0 := by omega
      have hbe : Hid (ctrF E iv b = []) := lib_hid (by
        have : b = [] := List.eq_nil_of_length_eq_zero (by rw [hbl.out]; exact hn0)
        rw [this]; rfl)
      have HR : Hid (SB (wm.setCell ⟨s, 17, none⟩ (.slice none 0 0)) A3 n c3 (ctrF E iv b)) := by
        rw [hbe.out, hn0]; exact lib_hid (SB.own HO5.out)
      have hn0' : Hid (n = 0) := lib_hid hn0
      clear hn0 HFl HB5 HO5 HSb5 hcm hnc hwn
      go_wp2
      (try simp only [Exit.jump])
      refine bodyPost_ret (results_tmp rfl _ _ _) rfl ?_
      exact ⟨A3, c3, by rw [hn0'.out]; rfl, HK5.out, HR.out⟩
    · have h0 : ¬ (n : Int) = 0 := by omega
      go_wp2_with fail
      refine (HFl.out iv _ _ _ Hxl.out HK5.out HB5.out).mono ?_
      rintro e w6 ⟨q, rfl, hq6, hk6, hb6, hz6⟩
      have HK6 := lib_hid (HK5.out.trans hk6 (fun _ h _ => h))
      have HO6 := lib_hid (own_keepsE HO5.out hk6 (fun k hk e => by omega))
      have HSb6 := lib_hid (sb_keeps0 HSb5.out hk6 (fun p e h0 h => HSne.out p e h0 h))
      have HB6 := lib_hid hb6
      have HZ6 := lib_hid hz6
      have hle5 := HK5.out.size
      have HOq : Hid (∀ i, blkOf A3 = some i → i ≠ q) := lib_hid (fun i hi e => by
        have := (own_lt HO5.out i hi).2
        omega)
      clear hk6 hb6 hz6 HB5 HO5 HSb5 HK5 hc4 hf4
      go_wp2_with fail
      go_step3
      refine ⟨rfl, 0, q, A, n, c, A3, c3, _, _, _, _, _, _, _, _, _, _, _, _, _, _, _, _, _, _, _, _, _, _, _, _, _, _, _, _, _, _, _, _, _, _, _, _, _, _, _, _, _, rfl, lib_hid (by omega), by omega, HK6.out, by omega, HOq, HB6, HZ6, ?_, ?_, lib_hid (fun p e => HAlt.out p e (by omega)), lib_hid (fun p e => HSne.out p e (by omega))⟩
      · have : b.drop (16 * 0) = b := rfl
        rw [this]; exact HSb6
      · have : xorF b (ksF E iv 0) = [] := by unfold xorF; exact List.zipWith_nil_right
        rw [this]; exact HO6
  · rintro a' W ⟨j, q, Bp, rm, cb, O, co, u6, u7, u8, u9, u10, u11, u12, u13, u14, u15, u16, u17, u18, u19, u20, u21, u22, u23, u24, u25, u26, u27, u28, u29, u30, u31, u32, u33, u34, u35, u36, u37, u38, u39, u40, u41, u42, u43, u44, u45, u46, rfl, Hjn, hrm, hk, hq, HOq, HB, HQ, HR, HO, HRlt, HRne⟩
    have Hk := lib_hid hk
    obtain ⟨e1, He1, e1l⟩ : ∃ e1 : List UInt8, Hid (E (cK iv j) = e1) ∧ Hid (e1.length = 16) := ⟨_, lib_hid rfl, lib_hid (hE.out _)⟩
    obtain ⟨nx, Hnx, nxl⟩ : ∃ nx : List UInt8, Hid (cK iv (j + 1) = nx) ∧ Hid (nx.length = 16) := ⟨_, lib_hid rfl, lib_hid (cK_len iv Hxl.out _)⟩
    obtain ⟨rem, Hrem, reml⟩ : ∃ rem : List UInt8, Hid (b.drop (16 * j) = rem) ∧ Hid (rem.length = rm) := ⟨_, lib_hid rfl, lib_hid (by rw [List.length_drop, hbl.out]; have := Hjn.out; omega)⟩
    obtain ⟨part, Hpart⟩ : ∃ part, Hid (xorF rem e1 = part) := ⟨_, lib_hid rfl⟩
    have HXb : Hid (xorF b (ksF E iv (j + 1)) = xorF b (ksF E iv j) ++ part) := by
      have := xor_block hE.out iv b j (by rw [hbl.out]; have := Hjn.out; omega)
      rw [Hrem.out, He1.out, Hpart.out] at this
      exact lib_hid this
    rw [He1.out] at HQ
    rw [Hnx.out] at HB
    rw [Hrem.out] at HR
    have hjb : 16 * j ≤ 1000 := by have := Hjn.out; omega
    have hrb : rm ≤ 1000 := by have := Hjn.out; omega
    have hcb := HR.out.cap
    have hcbm := HR.out.max
    have hc17 := HB.out.cell 17
    rw [ctrV_c17 _ _ _ _ nxl.out] at hc17
    have HL : Hid (SB W (some ⟨q, 0, none⟩) 16 16 e1) := by
      have := HQ.out.row (o := 0) (n := 16) (c := 16) (by omega) (by simp [e1l.out]) (by unfold maxLen; omega)
      rw [List.drop_zero, List.take_of_length_le (by simp [e1l.out])] at this
      exact lib_hid this
    clear hk HBs hc18 hf18 HB1 HK1
    go_wp2_with fail
    by_cases hA : rm ≤ 16
    · have hAi : (rm : Int) ≤ 16 := by omega
      refine (xor_any Bp (some ⟨q, 0, none⟩) rm cb 16 16 rem e1 W HR.out HL.out (by omega)).mono ?_
      rintro e w2 ⟨A2, n2, c2, hn2, rfl, hg2, ho2⟩
      obtain rfl : rm = n2 := by rw [hn2.out, xorF_len, reml.out, e1l.out]; omega
      rw [Hpart.out] at ho2
      have HS2 := lib_hid (SB.own ho2)
      have HB2 := lib_hid (HB.out.grows hg2)
      have HO2 := lib_hid (own_grows HO.out hg2)
      have HK2 : Hid (Keeps (fun k => k = s) w w2) := lib_hid (Hk.out.trans (hg2.keeps _) (fun _ h _ => h))
      have HR2 := lib_hid (HR.out.grows hg2)
      have hle2 : w.heap.size ≤ w2.heap.size := HK2.out.size
      clear hg2 ho2 hn2 HB HO Hk HR HL HQ hc17
      go_upto_region 7 with (at_builtin; refine wpList_append2 rfl _ _ 26 rfl w.heap.size 5 (.int .u8 0) 1 Try.underlying26 Try.infoByte rfl O co (16 * j) _ rfl HO2.out A2 rm c2 _ rfl HS2.out (b8_one part) (by omega) (by omega) hle2 ?_; intro A3 c3 w3 ho3 hG3 hl3)
      have HO3 : Hid (w3.ownsRow w.heap.size 5 1 (.slice A3 (16 * j + rm) c3) (16 * j + rm) ((xorF b (ksF E iv (j + 1))).map b8)) := by
        rw [← List.map_append] at ho3
        rw [HXb.out]
        exact lib_hid ho3
      have hge : ∀ i, blkOf O = some i → w.heap.size ≤ i := fun i hi => (own_lt HO2.out i hi).1
      have HB3 := lib_hid (HB2.out.grown hG3 (fun e => by have := hge s e.symm; omega))
      have HK3 : Hid (Keeps (fun k => k = s) w w3) := lib_hid (HK2.out.trans (keeps_grown hG3) (fun i hi hlt => by have := hge i hi; omega))
      have HR3 := lib_hid (HR2.out.keeps (keeps_grown hG3) (fun p e h => by have := HRlt.out p e; have := hge p.block h; omega))
      obtain ⟨Bn, HBn⟩ : ∃ Bn, (if cb = rm then Bp else Bp.map (·.add rm)) = Bn := ⟨_, rfl⟩
      obtain ⟨vl, Hvl⟩ : ∃ vl, Hid (16 - rm = vl) := ⟨_, lib_hid rfl⟩
      obtain ⟨QL, HQL⟩ : ∃ QL, Hid ((if 16 = rm then some ⟨q, 0, none⟩ else (some (⟨q, 0, none⟩ : Addr)).map (·.add rm)) = QL) := ⟨_, lib_hid rfl⟩
      have HRn : Hid (SB w3 Bn (rm - rm) (cb - rm) (rem.drop rm)) := by
        have := SB.fromS HR3.out (k := rm) (by omega)
        rw [HBn] at this
        exact lib_hid this
      have HBnlt : Hid (∀ p, Bn = some p → p.block < w.heap.size ∧ ¬ p.block = s) := lib_hid (fun p e => by
        rw [← HBn] at e
        split at e
        · exact ⟨HRlt.out p e, HRne.out p e⟩
        · obtain ⟨p', e', ep⟩ := Option.map_eq_some_iff.1 e
          have hb1 := HRlt.out p' e'
          have hb2 := HRne.out p' e'
          have hpb : p.block = p'.block := by
            rw [← ep]
            obtain ⟨bb, oo, ss⟩ := p'
            unfold Addr.add
            split <;> (try split) <;> rfl
          rw [hpb]
          exact ⟨hb1, hb2⟩)
      have HC17 : Hid (∀ W, Grows w3 W → W.cell? ⟨s, 17, none⟩ = some (.slice (some ⟨q, 0, none⟩) 16 16)) := fun W hW => by
        have h := (HB3.out.grows hW).cell 17
        rw [ctrV_c17 _ _ _ _ nxl.out] at h
        exact h
      have Hs1 : Hid (∀ W, (Instr.slice 26 (.slice Bp rm cb) (some (.int .i64 (rm : Int))) none none).run Try.prog W = .ok (.slice Bn 0 (cb - rm)) W) := fun W => by
        have := run_sl_lA (P := Try.prog) Try.underlying26 Try.sizeByte Bp rm cb rm (rm : Int) rfl (by omega) W
        rw [HBn, show rm - rm = 0 by omega] at this
        exact this
      have Hs2 : Hid (∀ W, (Instr.slice 26 (.slice (some ⟨q, 0, none⟩) 16 16) (some (.int .i64 (rm : Int))) none none).run Try.prog W = .ok (.slice QL vl vl) W) := fun W => by
        have := run_sl_lA (P := Try.prog) Try.underlying26 Try.sizeByte (some ⟨q, 0, none⟩) 16 16 rm (rm : Int) rfl (by omega) W
        rw [HQL.out, Hvl.out] at this
        exact this
      clear ho3 hG3 hl3 HB2 HK2 HO2 HR2 HS2 HBn hge
      go_wp2
      apply wp_region_mono 15 ((.is _, []) :: (.is _, []) :: (.is _, []) :: (.is _, []) :: (.is _, []) :: (.is _, []) :: (.is _, []) :: (.is _, []) :: (.is _, []) :: (.is _, []) :: (.is _, []) :: (.is _, []) :: (.is _, []) :: (.is _, []) :: (.is _, []) :: []) (by kernel_rfl) (by kernel_rfl)
      iterate 4
        apply Mono.is0
        · kernel_rfl
        · intro W hW
          go_wp2
          refine ⟨rfl, rfl, Grows.refl _, ?_⟩
          unfold Oper.valAt
          go_simp
          rfl
        intro k1 a1 hk1 ha1
        simp only [Nat.reduceAdd] at hk1
        simp only [Act.put, List.setIfInBounds_toArray, List.set_cons_succ, List.set_cons_zero] at ha1
        subst hk1 ha1
      apply Mono.is0
      · kernel_rfl
      · intro W hW
        have s1 := Hs1.out W
        go_wp2
        refine ⟨rfl, rfl, Grows.refl _, ?_⟩
        unfold Oper.valAt
        go_simp
        rfl
      intro k1 a1 hk1 ha1
      simp only [Nat.reduceAdd] at hk1
      simp only [Act.put, List.setIfInBounds_toArray, List.set_cons_succ, List.set_cons_zero] at ha1
      subst hk1 ha1
      iterate 3
        apply Mono.is0
        · kernel_rfl
        · intro W hW
          go_wp2
          refine ⟨rfl, rfl, Grows.refl _, ?_⟩
          unfold Oper.valAt
          go_simp
          rfl
        intro k1 a1 hk1 ha1
        simp only [Nat.reduceAdd] at hk1
        simp only [Act.put, List.setIfInBounds_toArray, List.set_cons_succ, List.set_cons_zero] at ha1
        subst hk1 ha1
      apply Mono.is0
      · kernel_rfl
      · intro W hW
        have c7 := HC17.out W hW
        go_wp2
        refine ⟨rfl, rfl, Grows.refl _, ?_⟩
        unfold Oper.valAt
        go_simp
        rfl
      intro k1 a1 hk1 ha1
      simp only [Nat.reduceAdd] at hk1
      simp only [Act.put, List.setIfInBounds_toArray, List.set_cons_succ, List.set_cons_zero] at ha1
      subst hk1 ha1
      iterate 2
        apply Mono.is0
        · kernel_rfl
        · intro W hW
          go_wp2
          refine ⟨rfl, rfl, Grows.refl _, ?_⟩
          unfold Oper.valAt
          go_simp
          rfl
        intro k1 a1 hk1 ha1
        simp only [Nat.reduceAdd] at hk1
        simp only [Act.put, List.setIfInBounds_toArray, List.set_cons_succ, List.set_cons_zero] at ha1
        subst hk1 ha1
      apply Mono.is0
      · kernel_rfl
      · intro W hW
        have s2 := Hs2.out W
        go_wp2
        refine ⟨rfl, rfl, Grows.refl _, ?_⟩
        unfold Oper.valAt
        go_simp
        rfl
      intro k1 a1 hk1 ha1
      simp only [Nat.reduceAdd] at hk1
      simp only [Act.put, List.setIfInBounds_toArray, List.set_cons_succ, List.set_cons_zero] at ha1
      subst hk1 ha1
      iterate 3
        apply Mono.is0
        · kernel_rfl
        · intro W hW
          go_wp2
          refine ⟨rfl, rfl, Grows.refl _, ?_⟩
          unfold Oper.valAt
          go_simp
          rfl
        intro k1 a1 hk1 ha1
        simp only [Nat.reduceAdd] at hk1
        simp only [Act.put, List.setIfInBounds_toArray, List.set_cons_succ, List.set_cons_zero] at ha1
        subst hk1 ha1
      refine Mono.done ?_
      intro wm hgm
      simp only [allF, List.drop_succ_cons, List.drop_zero]
      have HB4 := lib_hid (HB3.out.grows hgm)
      have HK4 : Hid (Keeps (fun k => k = s) w wm) := lib_hid (HK3.out.trans (hgm.keeps _) (fun _ h _ => h))
      have HO4 := lib_hid (own_grows HO3.out hgm)
      have HR4 := lib_hid (HRn.out.grows hgm)
      have hc4 := HB4.out.cell 17
      rw [ctrV_c17 _ _ _ _ nxl.out] at hc4
      have hf4 := HB4.out.frozen 17
      have HK5 : Hid (Keeps (fun k => k = s) w (wm.setCell ⟨s, 17, none⟩ (.slice QL vl vl))) := lib_hid (HK4.out.trans (keeps_set wm ⟨s, 17, none⟩ _) (fun _ h _ => h))
      have HB5 : Hid (Blk (wm.setCell ⟨s, 17, none⟩ (.slice QL vl vl)) s 93 (ctrV g nx (.slice QL vl vl) (n : Int))) := by
        have := HB4.out.set 17 (.slice QL vl vl)
        rw [ctrV_left _ _ _ _ _ nxl.out] at this
        exact lib_hid this
      have HO5 : Hid ((wm.setCell ⟨s, 17, none⟩ (.slice QL vl vl)).ownsRow w.heap.size 5 1 (.slice A3 (16 * j + rm) c3) (16 * j + rm) ((xorF b (ksF E iv (j + 1))).map b8)) := lib_hid (own_keepsE HO4.out (keeps_set wm ⟨s, 17, none⟩ _) (fun k hk e => by simp only at e; omega))
      have HR5 : Hid (SB (wm.setCell ⟨s, 17, none⟩ (.slice QL vl vl)) Bn (rm - rm) (cb - rm) (rem.drop rm)) := lib_hid (HR4.out.keeps (keeps_set wm ⟨s, 17, none⟩ _) (fun p e h => (HBnlt.out p e).2 h))
      clear hgm HB3 HK3 HO3 HRn HR3 HC17 Hs1 Hs2 HB4 HK4 HO4 HR4
      have HFin : Hid (ctrF E iv b = xorF b (ksF E iv (j + 1))) := lib_hid (by unfold ctrF; rw [hbl.out, show (n + 15) / 16 = j + 1 by have := Hjn.out; omega])
      have hjn2 : Hid (16 * j + rm = n) := Hjn
      have HRes : Hid (SB (wm.setCell ⟨s, 17, none⟩ (.slice QL vl vl)) A3 n c3 (ctrF E iv b)) := by
        have h := SB.own HO5.out
        rw [hjn2.out] at h
        rw [HFin.out]
        exact lib_hid h
      clear HFl HB5 HO5 HR5 hcm hnc
      go_wp2
      (try simp only [Exit.jump])
      refine bodyPost_ret (results_tmp rfl _ _ _) rfl ?_
      exact ⟨A3, c3, by rw [← hjn2.out]; rfl, HK5.out, HRes.out⟩
    · obtain ⟨r2, Hr2, hr2⟩ : ∃ r2, Hid (r2 + 16 = rm) ∧ 1 ≤ r2 := ⟨rm - 16, lib_hid (by omega), by omega⟩
      refine (xor_any Bp (some ⟨q, 0, none⟩) rm cb 16 16 rem e1 W HR.out HL.out (by omega)).mono ?_
      rintro e w2 ⟨A2, n2, c2, hn2, rfl, hg2, ho2⟩
      obtain rfl : 16 = n2 := by rw [hn2.out, xorF_len, reml.out, e1l.out]; omega
      rw [Hpart.out] at ho2
      have HS2 := lib_hid (SB.own ho2)
      have HB2 := lib_hid (HB.out.grows hg2)
      have HO2 := lib_hid (own_grows HO.out hg2)
      have HK2 : Hid (Keeps (fun k => k = s) w w2) := lib_hid (Hk.out.trans (hg2.keeps _) (fun _ h _ => h))
      have HR2 := lib_hid (HR.out.grows hg2)
      have hle2 : w.heap.size ≤ w2.heap.size := HK2.out.size
      clear hg2 ho2 hn2 HB HO Hk HR HL HQ hc17
      go_upto_region 7 with (at_builtin; refine wpList_append2 rfl _ _ 26 rfl w.heap.size 5 (.int .u8 0) 1 Try.underlying26 Try.infoByte rfl O co (16 * j) _ rfl HO2.out A2 16 c2 _ rfl HS2.out (b8_one part) (by omega) (by omega) hle2 ?_; intro A3 c3 w3 ho3 hG3 hl3)
      have HO3 : Hid (w3.ownsRow w.heap.size 5 1 (.slice A3 (16 * j + 16) c3) (16 * j + 16) ((xorF b (ksF E iv (j + 1))).map b8)) := by
        rw [← List.map_append] at ho3
        rw [HXb.out]
        exact lib_hid ho3
      have hge : ∀ i, blkOf O = some i → w.heap.size ≤ i := fun i hi => (own_lt HO2.out i hi).1
      have HB3 := lib_hid (HB2.out.grown hG3 (fun e => by have := hge s e.symm; omega))
      have HK3 : Hid (Keeps (fun k => k = s) w w3) := lib_hid (HK2.out.trans (keeps_grown hG3) (fun i hi hlt => by have := hge i hi; omega))
      have HR3 := lib_hid (HR2.out.keeps (keeps_grown hG3) (fun p e h => by have := HRlt.out p e; have := hge p.block h; omega))
      obtain ⟨Bn, HBn⟩ : ∃ Bn, (if cb = 16 then Bp else Bp.map (·.add 16)) = Bn := ⟨_, rfl⟩
      obtain ⟨QL, HQL⟩ : ∃ QL, Hid ((if 16 = 16 then some ⟨q, 0, none⟩ else (some (⟨q, 0, none⟩ : Addr)).map (·.add 16)) = QL) := ⟨_, lib_hid rfl⟩
      have HRn : Hid (SB w3 Bn (rm - 16) (cb - 16) (rem.drop 16)) := by
        have := SB.fromS HR3.out (k := 16) (by omega)
        rw [HBn] at this
        exact lib_hid this
      have HBnlt : Hid (∀ p, Bn = some p → p.block < w.heap.size ∧ ¬ p.block = s) := lib_hid (fun p e => by
        rw [← HBn] at e
        split at e
        · exact ⟨HRlt.out p e, HRne.out p e⟩
        · obtain ⟨p', e', ep⟩ := Option.map_eq_some_iff.1 e
          have hb1 := HRlt.out p' e'
          have hb2 := HRne.out p' e'
          have hpb : p.block = p'.block := by
            rw [← ep]
            obtain ⟨bb, oo, ss⟩ := p'
            unfold Addr.add
            split <;> (try split) <;> rfl
          rw [hpb]
          exact ⟨hb1, hb2⟩)
      have HC17 : Hid (∀ W, Grows w3 W → W.cell? ⟨s, 17, none⟩ = some (.slice (some ⟨q, 0, none⟩) 16 16)) := fun W hW => by
        have h := (HB3.out.grows hW).cell 17
        rw [ctrV_c17 _ _ _ _ nxl.out] at h
        exact h
      have Hs1 : Hid (∀ W, (Instr.slice 26 (.slice Bp rm cb) (some (.int .i64 16)) none none).run Try.prog W = .ok (.slice Bn r2 (cb - 16)) W) := fun W => by
        have := run_sl_lA (P := Try.prog) Try.underlying26 Try.sizeByte Bp rm cb 16 16 rfl (by omega) W
        rw [HBn, show rm - 16 = r2 by have := Hr2.out; omega] at this
        exact this
      have Hs2 : Hid (∀ W, (Instr.slice 26 (.slice (some ⟨q, 0, none⟩) 16 16) (some (.int .i64 16)) none none).run Try.prog W = .ok (.slice QL 0 0) W) := fun W => by
        have := run_sl_lA (P := Try.prog) Try.underlying26 Try.sizeByte (some ⟨q, 0, none⟩) 16 16 16 16 rfl (by omega) W
        rw [HQL.out] at this
        exact this
      clear ho3 hG3 hl3 HB2 HK2 HO2 HR2 HS2 HBn hge
      go_wp2
      apply wp_region_mono 15 ((.is _, []) :: (.is _, []) :: (.is _, []) :: (.is _, []) :: (.is _, []) :: (.is _, []) :: (.is _, []) :: (.is _, []) :: (.is _, []) :: (.is _, []) :: (.is _, []) :: (.is _, []) :: (.is _, []) :: (.is _, []) :: (.is _, []) :: []) (by kernel_rfl) (by kernel_rfl)
      iterate 4
        apply Mono.is0
        · kernel_rfl
        · intro W hW
          go_wp2
          refine ⟨rfl, rfl, Grows.refl _, ?_⟩
          unfold Oper.valAt
          go_simp
          rfl
        intro k1 a1 hk1 ha1
        simp only [Nat.reduceAdd] at hk1
        simp only [Act.put, List.setIfInBounds_toArray, List.set_cons_succ, List.set_cons_zero] at ha1
        subst hk1 ha1
      apply Mono.is0
      · kernel_rfl
      · intro W hW
        have s1 := Hs1.out W
        go_wp2
        refine ⟨rfl, rfl, Grows.refl _, ?_⟩
        unfold Oper.valAt
        go_simp
        rfl
      intro k1 a1 hk1 ha1
      simp only [Nat.reduceAdd] at hk1
      simp only [Act.put, List.setIfInBounds_toArray, List.set_cons_succ, List.set_cons_zero] at ha1
      subst hk1 ha1
      iterate 3
        apply Mono.is0
        · kernel_rfl
        · intro W hW
          go_wp2
          refine ⟨rfl, rfl, Grows.refl _, ?_⟩
          unfold Oper.valAt
          go_simp
          rfl
        intro k1 a1 hk1 ha1
        simp only [Nat.reduceAdd] at hk1
        simp only [Act.put, List.setIfInBounds_toArray, List.set_cons_succ, List.set_cons_zero] at ha1
        subst hk1 ha1
      apply Mono.is0
      · kernel_rfl
      · intro W hW
        have c7 := HC17.out W hW
        go_wp2
        refine ⟨rfl, rfl, Grows.refl _, ?_⟩
        unfold Oper.valAt
        go_simp
        rfl
      intro k1 a1 hk1 ha1
      simp only [Nat.reduceAdd] at hk1
      simp only [Act.put, List.setIfInBounds_toArray, List.set_cons_succ, List.set_cons_zero] at ha1
      subst hk1 ha1
      iterate 2
        apply Mono.is0
        · kernel_rfl
        · intro W hW
          go_wp2
          refine ⟨rfl, rfl, Grows.refl _, ?_⟩
          unfold Oper.valAt
          go_simp
          rfl
        intro k1 a1 hk1 ha1
        simp only [Nat.reduceAdd] at hk1
        simp only [Act.put, List.setIfInBounds_toArray, List.set_cons_succ, List.set_cons_zero] at ha1
        subst hk1 ha1
      apply Mono.is0
      · kernel_rfl
      · intro W hW
        have s2 := Hs2.out W
        go_wp2
        refine ⟨rfl, rfl, Grows.refl _, ?_⟩
        unfold Oper.valAt
        go_simp
        rfl
      intro k1 a1 hk1 ha1
      simp only [Nat.reduceAdd] at hk1
      simp only [Act.put, List.setIfInBounds_toArray, List.set_cons_succ, List.set_cons_zero] at ha1
      subst hk1 ha1
      iterate 3
        apply Mono.is0
        · kernel_rfl
        · intro W hW
          go_wp2
          refine ⟨rfl, rfl, Grows.refl _, ?_⟩
          unfold Oper.valAt
          go_simp
          rfl
        intro k1 a1 hk1 ha1
        simp only [Nat.reduceAdd] at hk1
        simp only [Act.put, List.setIfInBounds_toArray, List.set_cons_succ, List.set_cons_zero] at ha1
        subst hk1 ha1
      refine Mono.done ?_
      intro wm hgm
      simp only [allF, List.drop_succ_cons, List.drop_zero]
      have HB4 := lib_hid (HB3.out.grows hgm)
      have HK4 : Hid (Keeps (fun k => k = s) w wm) := lib_hid (HK3.out.trans (hgm.keeps _) (fun _ h _ => h))
      have HO4 := lib_hid (own_grows HO3.out hgm)
      have HR4 := lib_hid (HRn.out.grows hgm)
      have hc4 := HB4.out.cell 17
      rw [ctrV_c17 _ _ _ _ nxl.out] at hc4
      have hf4 := HB4.out.frozen 17
      have HK5 : Hid (Keeps (fun k => k = s) w (wm.setCell ⟨s, 17, none⟩ (.slice QL 0 0))) := lib_hid (HK4.out.trans (keeps_set wm ⟨s, 17, none⟩ _) (fun _ h _ => h))
      have HB5 : Hid (Blk (wm.setCell ⟨s, 17, none⟩ (.slice QL 0 0)) s 93 (ctrV g nx (.slice QL 0 0) (n : Int))) := by
        have := HB4.out.set 17 (.slice QL 0 0)
        rw [ctrV_left _ _ _ _ _ nxl.out] at this
        exact lib_hid this
      have HO5 : Hid ((wm.setCell ⟨s, 17, none⟩ (.slice QL 0 0)).ownsRow w.heap.size 5 1 (.slice A3 (16 * j + 16) c3) (16 * j + 16) ((xorF b (ksF E iv (j + 1))).map b8)) := lib_hid (own_keepsE HO4.out (keeps_set wm ⟨s, 17, none⟩ _) (fun k hk e => by simp only at e; omega))
      have HR5 : Hid (SB (wm.setCell ⟨s, 17, none⟩ (.slice QL 0 0)) Bn (rm - 16) (cb - 16) (rem.drop 16)) := lib_hid (HR4.out.keeps (keeps_set wm ⟨s, 17, none⟩ _) (fun p e h => (HBnlt.out p e).2 h))
      clear hgm HB3 HK3 HO3 HRn HR3 HC17 Hs1 Hs2 HB4 HK4 HO4 HR4
      have h0 : ¬ (r2 : Int) = 0 := by omega
      go_wp2_with fail
      refine (HFl.out nx _ _ _ nxl.out HK5.out HB5.out).mono ?_
      rintro e w6 ⟨q6, rfl, hq6, hk6, hb6, hz6⟩
      have HK6 := lib_hid (HK5.out.trans hk6 (fun _ h _ => h))
      have HO6 := lib_hid (own_keepsE HO5.out hk6 (fun k hk e => by omega))
      have HR6 := lib_hid (HR5.out.keeps hk6 (fun p e h => (HBnlt.out p e).2 h))
      have HB6 := lib_hid hb6
      have HZ6 := lib_hid hz6
      have hle5 := HK5.out.size
      have HOq6 : Hid (∀ i, blkOf A3 = some i → i ≠ q6) := lib_hid (fun i hi e => by
        have := (own_lt HO5.out i hi).2
        omega)
      clear hk6 hb6 hz6 HB5 HO5 HR5 HK5 hc4 hf4
      go_wp2_with fail
      go_step3
      refine ⟨rfl, ⟨j + 1, q6, Bn, r2, cb - 16, A3, c3, _, _, _, _, _, _, _, _, _, _, _, _, _, _, _, _, _, _, _, _, _, _, _, _, _, _, _, _, _, _, _, _, _, _, _, _, _, _, _, _, _, rfl, lib_hid (by have := Hjn.out; have := Hr2.out; omega), hr2, HK6.out, by omega, HOq6, ?_, ?_, ?_, HO6, lib_hid (fun p e => (HBnlt.out p e).1), lib_hid (fun p e => (HBnlt.out p e).2)⟩, ?_⟩
      · rw [show cK iv (j + 1 + 1) = countF nx 1 by rw [← Hnx.out]; rfl]; exact HB6
      · rw [Hnx.out]; exact HZ6
      · have h := HR6.out
        rw [show rm - 16 = r2 by have := Hr2.out; omega, ← Hrem.out, List.drop_drop, show 16 * j + 16 = 16 * (j + 1) by omega] at h
        exact lib_hid h
      · simp only [lenOf, Array.getD_eq_getD_getElem?, List.getElem?_toArray, List.getElem?_cons_succ, List.getElem?_cons_zero, Option.getD_some]
        have := Hr2.out
        omega
end Go.Proofs.Ythcmdjaccjghjaa
