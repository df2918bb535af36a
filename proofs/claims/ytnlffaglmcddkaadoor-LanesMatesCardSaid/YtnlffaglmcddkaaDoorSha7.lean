/-
  The walk of sha's Write.
-/
import Derived.Test.YtnlffaglmcddkaaDoorSha6
import Derived.Deep.Cut
import Derived.BigRegion
import Derived.RegionTactic
import Derived.Outline
import Derived.ScopeJumps
import Derived.WalkMore
namespace Go.Proofs.YtnlffaglmcddkaaDoor
open Go Go.RowKit
set_option linter.unusedSimpArgs false


attribute [local irreducible] startV schedF moreW firstW blockF roundsF sumsF
/-- A state and the bytes not yet taken, gone on as far as whole blocks reach. -/
def runF (ks : List UInt32) (h : V8) (xs : List UInt8) : V8 × List UInt8 :=
  if 64 ≤ xs.length then runF ks (blockF ks h (xs.take 64)) (xs.drop 64) else (h, xs)
termination_by xs.length
decreasing_by simp; omega
theorem runF_step (ks : List UInt32) (h : V8) (xs : List UInt8) (hx : 64 ≤ xs.length) : runF ks h xs = runF ks (blockF ks h (xs.take 64)) (xs.drop 64) := by
  rw [runF, if_pos hx]
theorem runF_end (ks : List UInt32) (h : V8) (xs : List UInt8) (hx : xs.length < 64) : runF ks h xs = (h, xs) := by
  rw [runF, if_neg (by omega)]
theorem wpList_load_at {P : Program} {w : World} {ops : Array Oper} {rest : List Oper} {o : Oper} {a : Act} {Q : Exit → Act → World → Prop} (hgd : Region.wanted o (yielded ops a.tmps) = true) (ty : TypeId) (x : Operand) (ho : o.op = .load ty x)
    (ad : Addr) (hx : a.eval x = .pointer (some ad)) (vs : List Value) (d : TypeDesc) (hu : P.underlying ty = some d) (hd : (match d with | .struct _ | .array _ _ => true | _ => false) = true) (hi : (P.info? ty).map (·.size) = some vs.length)
    (hc : ∀ j u, vs[j]? = some u → w.cell? (ad.add j) = some u)
    (h : wpList P ops Q rest (a.put o.dst (.agg vs.toArray)) w) : wpList P ops Q (o :: rest) a w := by
  refine wpList_step fun K hK => ?_
  rw [if_pos hgd]
  obtain ⟨inf, hi', hi1⟩ := Option.map_eq_some_iff.1 hi
  have hz : (sizeOf ty).run P w = .ok vs.length w := by simp [sizeOf, typeInfo, hi', hi1]
  have hl := run_loadCells_list (P := P) (w := w) ad vs hc
  have hagg : (isAgg ty).run P w = .ok true w := by
    unfold isAgg
    rw [Sem.run_bind, run_underlying hu w]
    cases d <;> simp_all
  have hv : (loadVar ty ad).run P w = .ok (.agg vs.toArray) w := by
    simp [loadVar, Sem.run_bind, hagg, hz, hl]
  unfold Oper.wp execOp
  simp only [ho, hx, Instr.loadAt, Instr.sureAddr, Sem.run_bind, Sem.run_pure, Result.andThen_ok, hv]
  exact hK _ _ h
/-- A State in block g, its rest in block rb. -/
def ShSt (w : World) (base g : Nat) (rb : Option Nat) (H : V8) (R : List UInt8) (N : Int) : Prop :=
  base ≤ g ∧ ∃ A n c, Blk w g 82 (SC H (.slice A n c) N) ∧ OwnAt w base A n c (R.map b8) ∧ blkOf A = rb ∧ blkOf A ≠ some g
def set8 (w : World) (g : Nat) (h : V8) : World := ((((((((w).setCell ⟨g, 0, none⟩ (b32 h.a)).setCell ⟨g, 1, none⟩ (b32 h.b)).setCell ⟨g, 2, none⟩ (b32 h.c)).setCell ⟨g, 3, none⟩ (b32 h.d)).setCell ⟨g, 4, none⟩ (b32 h.e)).setCell ⟨g, 5, none⟩ (b32 h.f)).setCell ⟨g, 6, none⟩ (b32 h.g)).setCell ⟨g, 7, none⟩ (b32 h.h)
theorem sc8_arr (h h2 : V8) (sv : Value) (n : Int) : ((((((((SC h sv n).setIfInBounds 0 (b32 h2.a)).setIfInBounds 1 (b32 h2.b)).setIfInBounds 2 (b32 h2.c)).setIfInBounds 3 (b32 h2.d)).setIfInBounds 4 (b32 h2.e)).setIfInBounds 5 (b32 h2.f)).setIfInBounds 6 (b32 h2.g)).setIfInBounds 7 (b32 h2.h) = SC h2 sv n := by simp [SC]
theorem Blk.sc8 {w : World} {g : Nat} {h : V8} {sv : Value} {n : Int} (hB : Blk w g 82 (SC h sv n)) (h2 : V8) : Blk (set8 w g h2) g 82 (SC h2 sv n) := by
  rw [← sc8_arr h h2 sv n]
  exact ((((((((hB).set 0 _).set 1 _).set 2 _).set 3 _).set 4 _).set 5 _).set 6 _).set 7 _
theorem keeps8 (w : World) (g : Nat) (h : V8) : Keeps (fun k => k = g) w (set8 w g h) := (((((((keeps_set w ⟨g, 0, none⟩ _).trans (keeps_set _ ⟨g, 1, none⟩ _) (fun _ hi _ => hi)).trans (keeps_set _ ⟨g, 2, none⟩ _) (fun _ hi _ => hi)).trans (keeps_set _ ⟨g, 3, none⟩ _) (fun _ hi _ => hi)).trans (keeps_set _ ⟨g, 4, none⟩ _) (fun _ hi _ => hi)).trans (keeps_set _ ⟨g, 5, none⟩ _) (fun _ hi _ => hi)).trans (keeps_set _ ⟨g, 6, none⟩ _) (fun _ hi _ => hi)).trans (keeps_set _ ⟨g, 7, none⟩ _) (fun _ hi _ => hi)
def mu (g : Nat) (W : World) : Nat := match W.cell? ⟨g, 8, none⟩ with | some (.slice _ n _) => n | _ => 0

set_option maxRecDepth 100000 in
set_option maxHeartbeats 4000000 in
theorem write_any {tK : TypeId} (ks : List UInt32) (g base : Nat) (rb : Option Nat) (H : V8) (R ys : List UInt8) (N : Int) (B : Option Addr) (m d : Nat) (w : World)
    (hkl : ks.length = 64) (HK : Hid (Blk w 0 tK (ks.map b32).toArray)) (hP : ShSt w base g rb H R N) (hs : SB w B m d ys) (hBg : 0 < m → ∀ p, B = some p → p.block ≠ g)
    (hbase : base ≤ w.heap.size) (hb0 : 0 < base) (hN : 0 ≤ N ∧ N ≤ 1000000000) (hR : R.length < 64) (hm : m ≤ 1000000) :
    Calls Tryd.prog 37 #[.pointer (some ⟨g, 0, none⟩), .slice B m d] w fun e w' => e = .returned (.tuple #[]) ∧ ∃ rb', ShSt w' base g rb' (runF ks H (R ++ ys)).1 (runF ks H (R ++ ys)).2 (N + m) ∧ Keeps (fun k => k = g ∨ rb = some k) w w' ∧ (rb' = rb ∨ ∃ k, rb' = some k ∧ w.heap.size ≤ k) := by
  obtain ⟨hbg, A0, n0, c0, hB0, hO0, hrb, hne0⟩ := hP
  obtain ⟨own, Hown⟩ : ∃ o : Nat → Prop, Hid (o = fun k => k = g ∨ rb = some k) := ⟨_, lib_hid rfl⟩
  have hown1 : Hid (∀ k, k = g → own k) := fun k hk => by rw [Hown.out]; exact Or.inl hk
  obtain ⟨FIN, HFIN⟩ : ∃ x, Hid (x = runF ks H (R ++ ys)) := ⟨_, lib_hid rfl⟩
  have HF0 : Hid (runF ks H (R ++ ys) = FIN) := HFIN.out.symm
  obtain ⟨M, HM⟩ : ∃ M : Int, Hid (N + (m : Int) = M) := ⟨_, lib_hid rfl⟩
  have hn0 : n0 ≤ 64 := by have := hO0.1; rw [List.length_map] at this; omega
  have HKl := lib_hid hkl
  have HK0 : Hid (∀ W, Keeps own w W → Blk W 0 tK (ks.map b32).toArray) := fun W hW => by
    refine HK.out.keeps hW (fun ho => ?_)
    rw [Hown.out] at ho
    rcases ho with h | h
    · omega
    · rw [← hrb] at h
      obtain ⟨p, hp, e⟩ := Option.map_eq_some_iff.1 h
      have := hO0.base_le p hp
      omega
  have HB0 := lib_hid hB0
  have HO0 := lib_hid hO0
  have HSY := lib_hid hs
  have HN := lib_hid hN
  have cR : w.cell? ⟨g, 8, none⟩ = some (.slice A0 n0 c0) := hB0.cell 8
  have cN : w.cell? ⟨g, 9, none⟩ = some (.int .i64 N) := hB0.cell 9
  have fR := hB0.frozen 8
  have fN := hB0.frozen 9
  have Hrb := lib_hid hrb
  obtain ⟨hN0, hN1⟩ := hN
  have Hbs := lib_hid hbase
  have Hb0 := lib_hid hb0
  clear hB0 hO0 hs hrb hkl HK hR hb0
  go_enter Tryd.func37, Tryd.ntmps37
  go_wp2_with fail
  refine wp_scope_jumps 0 (fun a' W => ∃ (h : V8) (A : Option Addr) (n c : Nat) (rem : List UInt8) (u2 u3 u4 u5 u6 u7 u8 u9 u10 u11 u12 u13 u14 u15 u16 u17 u18 u19 u20 u21 u22 u23 u24 u25 u26 u27 u28 u29 u30 u31 u32 u33 u34 u35 u36 u37 u38 u39 u40 u41 u42 u43 u44 u45 u46 u47 u48 u49 u50 u51 : Value), a' = { tmps := #[.pointer (some ⟨g, 0, none⟩), .slice B m d, u2, u3, u4, u5, u6, u7, u8, u9, u10, u11, u12, u13, u14, u15, u16, u17, u18, u19, u20, u21, u22, u23, u24, u25, u26, u27, u28, u29, u30, u31, u32, u33, u34, u35, u36, u37, u38, u39, u40, u41, u42, u43, u44, u45, u46, u47, u48, u49, u50, u51], defers := [] } ∧ Hid (Blk W g 82 (SC h (.slice A n c) M)) ∧ Hid (OwnAt W base A n c (rem.map b8)) ∧
      Hid (runF ks h rem = FIN) ∧ blkOf A ≠ some g ∧ (blkOf A = rb ∨ ∃ k, blkOf A = some k ∧ w.heap.size ≤ k) ∧ Keeps own w W) (fun _ W => mu g W) rfl ?_ ?_
  · go_upto_region 2 with fail
    rw [HM.out]
    obtain ⟨wa, Hwa⟩ : ∃ wa : World, Hid (wa = w.setCell ⟨g, 9, none⟩ (.int .i64 M)) := ⟨_, lib_hid rfl⟩
    have hB1 : Blk wa g 82 (SC H (.slice A0 n0 c0) M) := by rw [Hwa.out]; exact HB0.out.set 9 _
    have hKa : Keeps own w wa := by rw [Hwa.out]; exact (keeps_set w ⟨g, 9, none⟩ _).mono (fun i hi _ => hown1.out i hi)
    have hO1 : OwnAt wa base A0 n0 c0 (R.map b8) := by
      rw [Hwa.out]
      exact HO0.out.keeps (keeps_set _ _ _) (fun p hp e => hne0 (by rw [hp]; exact congrArg some e))
    have hY1 : SB wa B m d ys := by
      rw [Hwa.out]
      by_cases hm0 : 0 < m
      · exact Row.keeps HSY.out (keeps_set w ⟨g, 9, none⟩ _) (fun p hp e => hBg hm0 p hp e)
      · exact ⟨HSY.out.1, HSY.out.2.1, HSY.out.2.2.1, HSY.out.2.2.2.1, fun h => absurd h hm0⟩
    have hba : base ≤ wa.heap.size := Nat.le_trans Hbs.out hKa.size
    have HB1 := lib_hid hB1
    have HO1 := lib_hid hO1
    have HY1 := lib_hid hY1
    have HKa := lib_hid hKa
    have cR1 : wa.cell? ⟨g, 8, none⟩ = some (.slice A0 n0 c0) := hB1.cell 8
    have fR1 := hB1.frozen 8
    rw [← Hwa.out]
    clear hB1 hO1 hY1 hKa cR cN fR fN hN0 hN1 hbase HB0 HO0 HSY
    go_upto_region 3 with (refine wpList_append_at rfl _ _ 28 28 rfl base 5 (.int .u8 0) 1 Tryd.underlying28 Tryd.infoByte rfl A0 n0 c0 _ rfl HO1.out (.slice B m d) rfl m _ (HY1.out.src Tryd.underlying28 (b8_one _)) (by omega) (by omega) hba ?_; intro A c w1 hO2 hG2 hloc1; have hB2 := HB1.out.keeps (keeps_grown hG2) (fun e => hne0 e); have cR2 : w1.cell? ⟨g, 8, none⟩ = some (.slice A0 n0 c0) := hB2.cell 8; have fR2 := hB2.frozen 8)
    obtain ⟨n, Hn⟩ : ∃ x, Hid (n0 + m = x) := ⟨_, lib_hid rfl⟩
    obtain ⟨rem, Hrem⟩ : ∃ x, Hid (R ++ ys = x) := ⟨_, lib_hid rfl⟩
    rw [Hn.out] at hO2 ⊢
    rw [← List.map_append, Hrem.out] at hO2
    obtain ⟨W, HW⟩ : ∃ W : World, Hid (W = w1.setCell ⟨g, 8, none⟩ (.slice A n c)) := ⟨_, lib_hid rfl⟩
    rw [← HW.out]
    have hbA : blkOf A ≠ some g := by
      intro e
      rcases hloc1 with h | h
      · exact hne0 (by rw [← h, e])
      · rw [h] at e
        have := Option.some.inj e
        have := HB1.out.lt
        omega
    have hloc : blkOf A = rb ∨ ∃ k, blkOf A = some k ∧ w.heap.size ≤ k := by
      rcases hloc1 with h | h
      · exact Or.inl (by rw [h, Hrb.out])
      · exact Or.inr ⟨_, h, HKa.out.size⟩
    obtain ⟨h, Hh⟩ : ∃ x, Hid (H = x) := ⟨_, lib_hid rfl⟩
    have HB : Hid (Blk W g 82 (SC h (.slice A n c) M)) := by unfold Hid; rw [HW.out, ← Hh.out]; exact hB2.set 8 _
    have HO : Hid (OwnAt W base A n c (rem.map b8)) := by
      unfold Hid; rw [HW.out]
      exact hO2.keeps (keeps_set _ _ _) (fun p hp e => hbA (by rw [hp]; exact congrArg some e))
    have hK : Keeps own w W := by
      rw [HW.out]
      refine HKa.out.trans (Keeps.trans ((keeps_grown hG2).mono (own' := own) (fun i hi _ => ?_)) (keeps_set _ _ _) (fun i hi _ => hown1.out i hi)) (fun _ hi _ => hi)
      rw [Hown.out]; exact Or.inr (by rw [← Hrb.out]; exact hi)
    have HF : Hid (runF ks h rem = FIN) := by rw [← Hrem.out, ← Hh.out]; exact HF0
    clear hO2 hG2 hloc1 hB2 cR2 fR2 HB1 HO1 HY1 HKa HF0 cR1 fR1 Hwa HW
    go_step3
    have hlen := HO.out.1
    rw [List.length_map] at hlen
    have hncap := HO.out.2.1
    have hcmx := HO.out.2.2.1
    unfold maxLen at hcmx
    have cR : W.cell? ⟨g, 8, none⟩ = some (.slice A n c) := HB.out.cell 8
    have Hlen := lib_hid hlen
    clear hlen
    by_cases hz : n < 64
    · have h0 : (n : Int) < 64 := by omega
      have hh : Hid ((h, rem) = FIN) := by rw [← runF_end ks h rem (by rw [Hlen.out]; exact hz)]; exact HF
      go_wp2_with fail
      (try simp only [Exit.jump])
      refine bodyPost_ret (results_none rfl _ _ _) rfl ?_
      refine ⟨rfl, blkOf A, ⟨hbg, A, n, c, ?_, ?_, rfl, hbA⟩, by rw [← Hown.out]; exact hK, hloc⟩
      · rw [← HFIN.out, ← hh.out, HM.out]; exact HB.out
      · rw [← HFIN.out, ← hh.out]; exact HO.out
    · have h0 : ¬ (n : Int) < 64 := by omega
      have H64 := lib_hid (show (64 : Int) ≤ n by omega)
      have hOf := HO.out.from (k := 64) (by omega)
      obtain ⟨bk, off, eA⟩ : ∃ bk off, A = some ⟨bk, off, none⟩ := by
        rcases HO.out.2.2.2 with ⟨_, e⟩ | ⟨g', off, t, cur, e, _⟩
        · omega
        · exact ⟨g', off, e⟩
      have hA2 := blkOf_from A 64 c
      subst eA
      obtain ⟨tk, Htk, htl⟩ : ∃ t, Hid (rem.take 64 = t) ∧ Hid (t.length = 64) := ⟨_, lib_hid rfl, by unfold Hid; rw [List.length_take, Hlen.out]; omega⟩
      obtain ⟨xc, Hxc⟩ : ∃ x, Hid ((tk.map b8).toArray = x) := ⟨_, lib_hid rfl⟩
      have HT : Hid (∀ W2, Grows W W2 → ∀ j u, (tk.map b8)[j]? = some u → W2.cell? ((⟨bk, off, none⟩ : Addr).add j) = some u) := fun W2 hW j u hu => by
        have hr := (HO.out.grows hW).row
        refine hr.news j u ?_
        rw [← Htk.out, List.map_take, List.getElem?_take] at hu
        split at hu
        · exact hu
        · cases hu
      obtain ⟨a, b, c1, d1, e, f, g1, hh⟩ := h
      obtain ⟨⟨a2, b2, c2, d2, e2, f2, g2, h2⟩, HV2⟩ : ∃ V, Hid (blockF ks ⟨a, b, c1, d1, e, f, g1, hh⟩ tk = V) := ⟨_, lib_hid rfl⟩
      have HC : Hid (∀ W2, Grows W W2 → Calls Tryd.prog 23 #[.agg #[b32 a, b32 b, b32 c1, b32 d1, b32 e, b32 f, b32 g1, b32 hh], .agg xc] W2 fun e w' => e = .returned (.agg #[b32 a2, b32 b2, b32 c2, b32 d2, b32 e2, b32 f2, b32 g2, b32 h2]) ∧ Grows W2 w') := fun W2 hW => by
        have := block_any ks HKl.out ⟨a, b, c1, d1, e, f, g1, hh⟩ tk W2 htl.out (HK0.out W2 (hK.trans (hW.keeps own) (fun _ hi _ => hi)))
        rw [HV2.out, Hxc.out] at this
        exact this
      have HQ : Hid (∀ W2, Grows W W2 → W2.cell? ⟨g, 0, none⟩ = some (b32 a) ∧ W2.cell? ⟨g, 1, none⟩ = some (b32 b) ∧ W2.cell? ⟨g, 2, none⟩ = some (b32 c1) ∧ W2.cell? ⟨g, 3, none⟩ = some (b32 d1) ∧ W2.cell? ⟨g, 4, none⟩ = some (b32 e) ∧ W2.cell? ⟨g, 5, none⟩ = some (b32 f) ∧ W2.cell? ⟨g, 6, none⟩ = some (b32 g1) ∧ W2.cell? ⟨g, 7, none⟩ = some (b32 hh) ∧ W2.cell? ⟨g, 8, none⟩ = some (.slice (some ⟨bk, off, none⟩) n c)) := fun W2 hW => by
        have hB := HB.out.grows hW
        exact ⟨hB.cell 0, hB.cell 1, hB.cell 2, hB.cell 3, hB.cell 4, hB.cell 5, hB.cell 6, hB.cell 7, hB.cell 8⟩
      have HF4 : Hid (runF ks ⟨a2, b2, c2, d2, e2, f2, g2, h2⟩ (rem.drop 64) = FIN) := by
        have := HF.out
        rw [runF_step ks _ rem (by rw [Hlen.out]; omega), Htk.out, HV2.out] at this
        exact this
      have HAr : Hid (∀ W2 : World, (Instr.arrayAt 55 (.slice (some ⟨bk, off, none⟩) n c)).run Tryd.prog W2 = .ok (.pointer (some ⟨bk, off, none⟩)) W2) := fun W2 => by
        have h64 : 64 ≤ n := by omega
        simp [Instr.arrayAt, run_underlying Tryd.underlying55, Nat.not_lt.2 h64]
      have Hcx := lib_hid hcmx
      have Hnc := lib_hid hncap
      have Hz := lib_hid (show 64 ≤ n by omega)
      have HOf := lib_hid hOf
      clear hz hncap hcmx HV2 HF Htk hOf
      go_upto_region 4 with fail
      clear h0
      apply wp_region_mono 14 ((.is _, []) :: (.is _, []) :: (.is _, []) :: (.is _, []) :: (.is _, []) :: (.is _, []) :: (.is _, []) :: (.is _, []) :: (.is _, []) :: (.is _, []) :: (.is (.agg xc), []) :: (.is (.agg #[b32 a2, b32 b2, b32 c2, b32 d2, b32 e2, b32 f2, b32 g2, b32 h2]), []) :: (.is _, []) :: (.is _, []) :: []) (by kernel_rfl) (by kernel_rfl)
      iterate 4
        apply Mono.is0
        · kernel_rfl
        · intro W2 hW
          go_wp2
          refine ⟨rfl, rfl, Grows.refl _, ?_⟩
          unfold Oper.valAt
          go_simp
          rfl
        intro k1 a1 hk1 ha1
        simp only [Nat.reduceAdd] at hk1
        simp only [Act.put, List.setIfInBounds_toArray, List.set_cons_succ, List.set_cons_zero] at ha1
        subst hk1 ha1
      apply Mono.is0
      · kernel_rfl
      · intro W2 hW
        obtain ⟨q0, q1, q2, q3, q4, q5, q6, q7, q8⟩ := HQ.out W2 hW
        go_wp2
        refine ⟨rfl, rfl, Grows.refl _, ?_⟩
        unfold Oper.valAt
        go_simp
        rfl
      intro k1 a1 hk1 ha1
      simp only [Nat.reduceAdd] at hk1
      simp only [Act.put, List.setIfInBounds_toArray, List.set_cons_succ, List.set_cons_zero] at ha1
      subst hk1 ha1
      iterate 3
        apply Mono.is0
        · kernel_rfl
        · intro W2 hW
          go_wp2
          refine ⟨rfl, rfl, Grows.refl _, ?_⟩
          unfold Oper.valAt
          go_simp
          rfl
        intro k1 a1 hk1 ha1
        simp only [Nat.reduceAdd] at hk1
        simp only [Act.put, List.setIfInBounds_toArray, List.set_cons_succ, List.set_cons_zero] at ha1
        subst hk1 ha1
      apply Mono.is0
      · kernel_rfl
      · intro W2 hW
        have q8 := (HQ.out W2 hW).2.2.2.2.2.2.2.2
        go_wp2
        refine ⟨rfl, rfl, Grows.refl _, ?_⟩
        unfold Oper.valAt
        go_simp
        rfl
      intro k1 a1 hk1 ha1
      simp only [Nat.reduceAdd] at hk1
      simp only [Act.put, List.setIfInBounds_toArray, List.set_cons_succ, List.set_cons_zero] at ha1
      subst hk1 ha1
      apply Mono.is0
      · kernel_rfl
      · intro W2 hW
        have har := HAr.out W2
        go_wp2
        refine ⟨rfl, rfl, Grows.refl _, ?_⟩
        unfold Oper.valAt
        go_simp
        rfl
      intro k1 a1 hk1 ha1
      simp only [Nat.reduceAdd] at hk1
      simp only [Act.put, List.setIfInBounds_toArray, List.set_cons_succ, List.set_cons_zero] at ha1
      subst hk1 ha1
      apply Mono.is0
      · kernel_rfl
      · intro W2 hW 
        go_wp2_with (refine wpList_load_at (by kernel_rfl) _ _ rfl ⟨bk, off, none⟩ rfl (tk.map b8) _ Tryd.underlying55 rfl (by rw [Tryd.size64B, List.length_map, htl.out]) (HT.out W2 hW) ?_)
        rw [Hxc.out]
        exact ⟨rfl, rfl, Grows.refl _, rfl⟩
      intro k1 a1 hk1 ha1
      simp only [Nat.reduceAdd] at hk1
      simp only [Act.put, List.setIfInBounds_toArray, List.set_cons_succ, List.set_cons_zero] at ha1
      subst hk1 ha1
      apply Mono.is0
      · kernel_rfl
      · intro W2 hW 
        go_wp2_with fail
        refine (HC.out W2 hW).mono ?_
        rintro e1 w1 ⟨rfl, hg1⟩
        go_wp2
        exact ⟨rfl, rfl, hg1, rfl⟩
      intro k1 a1 hk1 ha1
      simp only [Nat.reduceAdd] at hk1
      simp only [Act.put, List.setIfInBounds_toArray, List.set_cons_succ, List.set_cons_zero] at ha1
      subst hk1 ha1
      iterate 2
        apply Mono.is0
        · kernel_rfl
        · intro W2 hW
          go_wp2
          refine ⟨rfl, rfl, Grows.refl _, ?_⟩
          unfold Oper.valAt
          go_simp
          rfl
        intro k1 a1 hk1 ha1
        simp only [Nat.reduceAdd] at hk1
        simp only [Act.put, List.setIfInBounds_toArray, List.set_cons_succ, List.set_cons_zero] at ha1
        subst hk1 ha1
      refine Mono.done ?_
      intro wm hgm
      simp only [allF, List.drop_succ_cons, List.drop_zero]
      have hBm := HB.out.grows hgm
      have hOm := HO.out.grows hgm
      have hKm : Keeps own w wm := hK.trans (hgm.keeps own) (fun _ hi _ => hi)
      obtain ⟨q0, q1, q2, q3, q4, q5, q6, q7, q8⟩ := HQ.out wm hgm
      have z0 := hBm.frozen 0
      have z1 := hBm.frozen 1
      have z2 := hBm.frozen 2
      have z3 := hBm.frozen 3
      have z4 := hBm.frozen 4
      have z5 := hBm.frozen 5
      have z6 := hBm.frozen 6
      have z7 := hBm.frozen 7
      have hzm := hBm.lt
      have HBm := lib_hid hBm
      have HOm := lib_hid hOm
      have HKm := lib_hid hKm
      have HOf2 := lib_hid (HOf.out.grows hgm)
      clear hBm hOm hKm hgm HB HO hK HQ HC HT HOf cR
      go_upto_region 5 with fail
      obtain ⟨w3, Hw3, Hw8⟩ : ∃ w3 : World, Hid (w3 = ((((((((wm).setCell ⟨g, 0, none⟩ (b32 a2)).setCell ⟨g, 1, none⟩ (b32 b2)).setCell ⟨g, 2, none⟩ (b32 c2)).setCell ⟨g, 3, none⟩ (b32 d2)).setCell ⟨g, 4, none⟩ (b32 e2)).setCell ⟨g, 5, none⟩ (b32 f2)).setCell ⟨g, 6, none⟩ (b32 g2)).setCell ⟨g, 7, none⟩ (b32 h2)) ∧ Hid (w3 = set8 wm g ⟨a2, b2, c2, d2, e2, f2, g2, h2⟩) := ⟨_, lib_hid rfl, lib_hid rfl⟩
      rw [← Hw3.out]
      have HB3 : Hid (Blk w3 g 82 (SC ⟨a2, b2, c2, d2, e2, f2, g2, h2⟩ (.slice (some ⟨bk, off, none⟩) n c) M)) := by unfold Hid; rw [Hw8.out]; exact HBm.out.sc8 _
      have hk8 : Keeps (fun k => k = g) wm w3 := by rw [Hw8.out]; exact keeps8 _ _ _
      have HO3 : Hid (OwnAt w3 base (some ⟨bk, off, none⟩) n c (rem.map b8)) := HOm.out.keeps hk8 (fun p hp e => hbA (by rw [hp]; exact congrArg some e))
      have hK3 : Keeps own w w3 := HKm.out.trans hk8 (fun i hi _ => hown1.out i hi)
      have hOf := HO3.out.from (k := 64) Hz.out
      have cR3 : w3.cell? ⟨g, 8, none⟩ = some (.slice (some ⟨bk, off, none⟩) n c) := HB3.out.cell 8
      have fR3 := HB3.out.frozen 8
      have hncap := Hnc.out
      have hcmx := Hcx.out
      have hz := Hz.out
      simp only [Option.map_some, add_zero_spot] at hOf hA2
      clear q0 q1 q2 q3 q4 q5 q6 q7 q8 z0 z1 z2 z3 z4 z5 z6 z7 hzm HBm HOm HKm HOf2 hk8 Hw3 Hw8
      by_cases hc16 : c = 64
      · rw [if_pos hc16, show c - 64 = 0 by omega] at hOf
        have hbA4 : blkOf (some (⟨bk, off, none⟩ : Addr)) ≠ some g := hbA
        go_wp2_with fail
        have HB4 : Hid (Blk (w3.setCell ⟨g, 8, none⟩ (.slice (some (⟨bk, off, none⟩ : Addr)) (n - 64) 0)) g 82 (SC ⟨a2, b2, c2, d2, e2, f2, g2, h2⟩ (.slice (some (⟨bk, off, none⟩ : Addr)) (n - 64) 0) M)) := HB3.out.set 8 _
        have HO4 : Hid (OwnAt (w3.setCell ⟨g, 8, none⟩ (.slice (some (⟨bk, off, none⟩ : Addr)) (n - 64) 0)) base (some (⟨bk, off, none⟩ : Addr)) (n - 64) 0 ((rem.drop 64).map b8)) := by
          unfold Hid; rw [List.map_drop]
          exact hOf.keeps (keeps_set _ _ _) (fun p hp e => hbA4 (by rw [hp]; exact congrArg some e))
        have hK4 : Keeps own w (w3.setCell ⟨g, 8, none⟩ (.slice (some (⟨bk, off, none⟩ : Addr)) (n - 64) 0)) := hK3.trans (keeps_set _ _ _) (fun i hi _ => hown1.out i hi)
        have hloc4 : blkOf (some (⟨bk, off, none⟩ : Addr)) = rb ∨ ∃ k, blkOf (some (⟨bk, off, none⟩ : Addr)) = some k ∧ w.heap.size ≤ k := hloc
        clear HB3 HO3 hK3 hOf
        go_step3
        refine ⟨rfl, ⟨a2, b2, c2, d2, e2, f2, g2, h2⟩, some ⟨bk, off, none⟩, n - 64, 0, rem.drop 64, _, _, _, _, _, _, _, _, _, _, _, _, _, _, _, _, _, _, _, _, _, _, _, _, _, _, _, _, _, _, _, _, _, _, _, _, _, _, _, _, _, _, _, _, _, _, _, _, _, _, rfl, HB4, HO4, HF4, hbA4, hloc4, hK4⟩
      · rw [if_neg hc16] at hOf
        have hbA4 : blkOf (some (⟨bk, off + 64, none⟩ : Addr)) ≠ some g := hbA
        go_wp2_with fail
        have HB4 : Hid (Blk (w3.setCell ⟨g, 8, none⟩ (.slice (some (⟨bk, off + 64, none⟩ : Addr)) (n - 64) (c - 64))) g 82 (SC ⟨a2, b2, c2, d2, e2, f2, g2, h2⟩ (.slice (some (⟨bk, off + 64, none⟩ : Addr)) (n - 64) (c - 64)) M)) := HB3.out.set 8 _
        have HO4 : Hid (OwnAt (w3.setCell ⟨g, 8, none⟩ (.slice (some (⟨bk, off + 64, none⟩ : Addr)) (n - 64) (c - 64))) base (some (⟨bk, off + 64, none⟩ : Addr)) (n - 64) (c - 64) ((rem.drop 64).map b8)) := by
          unfold Hid; rw [List.map_drop]
          exact hOf.keeps (keeps_set _ _ _) (fun p hp e => hbA4 (by rw [hp]; exact congrArg some e))
        have hK4 : Keeps own w (w3.setCell ⟨g, 8, none⟩ (.slice (some (⟨bk, off + 64, none⟩ : Addr)) (n - 64) (c - 64))) := hK3.trans (keeps_set _ _ _) (fun i hi _ => hown1.out i hi)
        have hloc4 : blkOf (some (⟨bk, off + 64, none⟩ : Addr)) = rb ∨ ∃ k, blkOf (some (⟨bk, off + 64, none⟩ : Addr)) = some k ∧ w.heap.size ≤ k := hloc
        clear HB3 HO3 hK3 hOf
        go_step3
        refine ⟨rfl, ⟨a2, b2, c2, d2, e2, f2, g2, h2⟩, some ⟨bk, off + 64, none⟩, n - 64, c - 64, rem.drop 64, _, _, _, _, _, _, _, _, _, _, _, _, _, _, _, _, _, _, _, _, _, _, _, _, _, _, _, _, _, _, _, _, _, _, _, _, _, _, _, _, _, _, _, _, _, _, _, _, _, _, rfl, HB4, HO4, HF4, hbA4, hloc4, hK4⟩
  · rintro a' W ⟨h, A, n, c, rem, u2, u3, u4, u5, u6, u7, u8, u9, u10, u11, u12, u13, u14, u15, u16, u17, u18, u19, u20, u21, u22, u23, u24, u25, u26, u27, u28, u29, u30, u31, u32, u33, u34, u35, u36, u37, u38, u39, u40, u41, u42, u43, u44, u45, u46, u47, u48, u49, u50, u51, rfl, HB, HO, HF, hbA, hloc, hK⟩
    have Hm : Hid (W.cell? ⟨g, 8, none⟩ = some (.slice A n c)) := HB.out.cell 8
    clear HB0 HO0 HSY cR cN fR fN HF0 hN0 hN1
    have hlen := HO.out.1
    rw [List.length_map] at hlen
    have hncap := HO.out.2.1
    have hcmx := HO.out.2.2.1
    unfold maxLen at hcmx
    have cR : W.cell? ⟨g, 8, none⟩ = some (.slice A n c) := HB.out.cell 8
    have Hlen := lib_hid hlen
    clear hlen
    by_cases hz : n < 64
    · have h0 : (n : Int) < 64 := by omega
      have hh : Hid ((h, rem) = FIN) := by rw [← runF_end ks h rem (by rw [Hlen.out]; exact hz)]; exact HF
      go_wp2_with fail
      (try simp only [Exit.jump])
      refine bodyPost_ret (results_none rfl _ _ _) rfl ?_
      refine ⟨rfl, blkOf A, ⟨hbg, A, n, c, ?_, ?_, rfl, hbA⟩, by rw [← Hown.out]; exact hK, hloc⟩
      · rw [← HFIN.out, ← hh.out, HM.out]; exact HB.out
      · rw [← HFIN.out, ← hh.out]; exact HO.out
    · have h0 : ¬ (n : Int) < 64 := by omega
      have H64 := lib_hid (show (64 : Int) ≤ n by omega)
      have hOf := HO.out.from (k := 64) (by omega)
      obtain ⟨bk, off, eA⟩ : ∃ bk off, A = some ⟨bk, off, none⟩ := by
        rcases HO.out.2.2.2 with ⟨_, e⟩ | ⟨g', off, t, cur, e, _⟩
        · omega
        · exact ⟨g', off, e⟩
      have hA2 := blkOf_from A 64 c
      subst eA
      obtain ⟨tk, Htk, htl⟩ : ∃ t, Hid (rem.take 64 = t) ∧ Hid (t.length = 64) := ⟨_, lib_hid rfl, by unfold Hid; rw [List.length_take, Hlen.out]; omega⟩
      obtain ⟨xc, Hxc⟩ : ∃ x, Hid ((tk.map b8).toArray = x) := ⟨_, lib_hid rfl⟩
      have HT : Hid (∀ W2, Grows W W2 → ∀ j u, (tk.map b8)[j]? = some u → W2.cell? ((⟨bk, off, none⟩ : Addr).add j) = some u) := fun W2 hW j u hu => by
        have hr := (HO.out.grows hW).row
        refine hr.news j u ?_
        rw [← Htk.out, List.map_take, List.getElem?_take] at hu
        split at hu
        · exact hu
        · cases hu
      obtain ⟨a, b, c1, d1, e, f, g1, hh⟩ := h
      obtain ⟨⟨a2, b2, c2, d2, e2, f2, g2, h2⟩, HV2⟩ : ∃ V, Hid (blockF ks ⟨a, b, c1, d1, e, f, g1, hh⟩ tk = V) := ⟨_, lib_hid rfl⟩
      have HC : Hid (∀ W2, Grows W W2 → Calls Tryd.prog 23 #[.agg #[b32 a, b32 b, b32 c1, b32 d1, b32 e, b32 f, b32 g1, b32 hh], .agg xc] W2 fun e w' => e = .returned (.agg #[b32 a2, b32 b2, b32 c2, b32 d2, b32 e2, b32 f2, b32 g2, b32 h2]) ∧ Grows W2 w') := fun W2 hW => by
        have := block_any ks HKl.out ⟨a, b, c1, d1, e, f, g1, hh⟩ tk W2 htl.out (HK0.out W2 (hK.trans (hW.keeps own) (fun _ hi _ => hi)))
        rw [HV2.out, Hxc.out] at this
        exact this
      have HQ : Hid (∀ W2, Grows W W2 → W2.cell? ⟨g, 0, none⟩ = some (b32 a) ∧ W2.cell? ⟨g, 1, none⟩ = some (b32 b) ∧ W2.cell? ⟨g, 2, none⟩ = some (b32 c1) ∧ W2.cell? ⟨g, 3, none⟩ = some (b32 d1) ∧ W2.cell? ⟨g, 4, none⟩ = some (b32 e) ∧ W2.cell? ⟨g, 5, none⟩ = some (b32 f) ∧ W2.cell? ⟨g, 6, none⟩ = some (b32 g1) ∧ W2.cell? ⟨g, 7, none⟩ = some (b32 hh) ∧ W2.cell? ⟨g, 8, none⟩ = some (.slice (some ⟨bk, off, none⟩) n c)) := fun W2 hW => by
        have hB := HB.out.grows hW
        exact ⟨hB.cell 0, hB.cell 1, hB.cell 2, hB.cell 3, hB.cell 4, hB.cell 5, hB.cell 6, hB.cell 7, hB.cell 8⟩
      have HF4 : Hid (runF ks ⟨a2, b2, c2, d2, e2, f2, g2, h2⟩ (rem.drop 64) = FIN) := by
        have := HF.out
        rw [runF_step ks _ rem (by rw [Hlen.out]; omega), Htk.out, HV2.out] at this
        exact this
      have HAr : Hid (∀ W2 : World, (Instr.arrayAt 55 (.slice (some ⟨bk, off, none⟩) n c)).run Tryd.prog W2 = .ok (.pointer (some ⟨bk, off, none⟩)) W2) := fun W2 => by
        have h64 : 64 ≤ n := by omega
        simp [Instr.arrayAt, run_underlying Tryd.underlying55, Nat.not_lt.2 h64]
      have Hcx := lib_hid hcmx
      have Hnc := lib_hid hncap
      have Hz := lib_hid (show 64 ≤ n by omega)
      have HOf := lib_hid hOf
      clear hz hncap hcmx HV2 HF Htk hOf
      go_upto_region 4 with fail
      clear h0
      apply wp_region_mono 14 ((.is _, []) :: (.is _, []) :: (.is _, []) :: (.is _, []) :: (.is _, []) :: (.is _, []) :: (.is _, []) :: (.is _, []) :: (.is _, []) :: (.is _, []) :: (.is (.agg xc), []) :: (.is (.agg #[b32 a2, b32 b2, b32 c2, b32 d2, b32 e2, b32 f2, b32 g2, b32 h2]), []) :: (.is _, []) :: (.is _, []) :: []) (by kernel_rfl) (by kernel_rfl)
      iterate 4
        apply Mono.is0
        · kernel_rfl
        · intro W2 hW
          go_wp2
          refine ⟨rfl, rfl, Grows.refl _, ?_⟩
          unfold Oper.valAt
          go_simp
          rfl
        intro k1 a1 hk1 ha1
        simp only [Nat.reduceAdd] at hk1
        simp only [Act.put, List.setIfInBounds_toArray, List.set_cons_succ, List.set_cons_zero] at ha1
        subst hk1 ha1
      apply Mono.is0
      · kernel_rfl
      · intro W2 hW
        obtain ⟨q0, q1, q2, q3, q4, q5, q6, q7, q8⟩ := HQ.out W2 hW
        go_wp2
        refine ⟨rfl, rfl, Grows.refl _, ?_⟩
        unfold Oper.valAt
        go_simp
        rfl
      intro k1 a1 hk1 ha1
      simp only [Nat.reduceAdd] at hk1
      simp only [Act.put, List.setIfInBounds_toArray, List.set_cons_succ, List.set_cons_zero] at ha1
      subst hk1 ha1
      iterate 3
        apply Mono.is0
        · kernel_rfl
        · intro W2 hW
          go_wp2
          refine ⟨rfl, rfl, Grows.refl _, ?_⟩
          unfold Oper.valAt
          go_simp
          rfl
        intro k1 a1 hk1 ha1
        simp only [Nat.reduceAdd] at hk1
        simp only [Act.put, List.setIfInBounds_toArray, List.set_cons_succ, List.set_cons_zero] at ha1
        subst hk1 ha1
      apply Mono.is0
      · kernel_rfl
      · intro W2 hW
        have q8 := (HQ.out W2 hW).2.2.2.2.2.2.2.2
        go_wp2
        refine ⟨rfl, rfl, Grows.refl _, ?_⟩
        unfold Oper.valAt
        go_simp
        rfl
      intro k1 a1 hk1 ha1
      simp only [Nat.reduceAdd] at hk1
      simp only [Act.put, List.setIfInBounds_toArray, List.set_cons_succ, List.set_cons_zero] at ha1
      subst hk1 ha1
      apply Mono.is0
      · kernel_rfl
      · intro W2 hW
        have har := HAr.out W2
        go_wp2
        refine ⟨rfl, rfl, Grows.refl _, ?_⟩
        unfold Oper.valAt
        go_simp
        rfl
      intro k1 a1 hk1 ha1
      simp only [Nat.reduceAdd] at hk1
      simp only [Act.put, List.setIfInBounds_toArray, List.set_cons_succ, List.set_cons_zero] at ha1
      subst hk1 ha1
      apply Mono.is0
      · kernel_rfl
      · intro W2 hW 
        go_wp2_with (refine wpList_load_at (by kernel_rfl) _ _ rfl ⟨bk, off, none⟩ rfl (tk.map b8) _ Tryd.underlying55 rfl (by rw [Tryd.size64B, List.length_map, htl.out]) (HT.out W2 hW) ?_)
        rw [Hxc.out]
        exact ⟨rfl, rfl, Grows.refl _, rfl⟩
      intro k1 a1 hk1 ha1
      simp only [Nat.reduceAdd] at hk1
      simp only [Act.put, List.setIfInBounds_toArray, List.set_cons_succ, List.set_cons_zero] at ha1
      subst hk1 ha1
      apply Mono.is0
      · kernel_rfl
      · intro W2 hW 
        go_wp2_with fail
        refine (HC.out W2 hW).mono ?_
        rintro e1 w1 ⟨rfl, hg1⟩
        go_wp2
        exact ⟨rfl, rfl, hg1, rfl⟩
      intro k1 a1 hk1 ha1
      simp only [Nat.reduceAdd] at hk1
      simp only [Act.put, List.setIfInBounds_toArray, List.set_cons_succ, List.set_cons_zero] at ha1
      subst hk1 ha1
      iterate 2
        apply Mono.is0
        · kernel_rfl
        · intro W2 hW
          go_wp2
          refine ⟨rfl, rfl, Grows.refl _, ?_⟩
          unfold Oper.valAt
          go_simp
          rfl
        intro k1 a1 hk1 ha1
        simp only [Nat.reduceAdd] at hk1
        simp only [Act.put, List.setIfInBounds_toArray, List.set_cons_succ, List.set_cons_zero] at ha1
        subst hk1 ha1
      refine Mono.done ?_
      intro wm hgm
      simp only [allF, List.drop_succ_cons, List.drop_zero]
      have hBm := HB.out.grows hgm
      have hOm := HO.out.grows hgm
      have hKm : Keeps own w wm := hK.trans (hgm.keeps own) (fun _ hi _ => hi)
      obtain ⟨q0, q1, q2, q3, q4, q5, q6, q7, q8⟩ := HQ.out wm hgm
      have z0 := hBm.frozen 0
      have z1 := hBm.frozen 1
      have z2 := hBm.frozen 2
      have z3 := hBm.frozen 3
      have z4 := hBm.frozen 4
      have z5 := hBm.frozen 5
      have z6 := hBm.frozen 6
      have z7 := hBm.frozen 7
      have hzm := hBm.lt
      have HBm := lib_hid hBm
      have HOm := lib_hid hOm
      have HKm := lib_hid hKm
      have HOf2 := lib_hid (HOf.out.grows hgm)
      clear hBm hOm hKm hgm HB HO hK HQ HC HT HOf cR
      go_upto_region 5 with fail
      obtain ⟨w3, Hw3, Hw8⟩ : ∃ w3 : World, Hid (w3 = ((((((((wm).setCell ⟨g, 0, none⟩ (b32 a2)).setCell ⟨g, 1, none⟩ (b32 b2)).setCell ⟨g, 2, none⟩ (b32 c2)).setCell ⟨g, 3, none⟩ (b32 d2)).setCell ⟨g, 4, none⟩ (b32 e2)).setCell ⟨g, 5, none⟩ (b32 f2)).setCell ⟨g, 6, none⟩ (b32 g2)).setCell ⟨g, 7, none⟩ (b32 h2)) ∧ Hid (w3 = set8 wm g ⟨a2, b2, c2, d2, e2, f2, g2, h2⟩) := ⟨_, lib_hid rfl, lib_hid rfl⟩
      rw [← Hw3.out]
      have HB3 : Hid (Blk w3 g 82 (SC ⟨a2, b2, c2, d2, e2, f2, g2, h2⟩ (.slice (some ⟨bk, off, none⟩) n c) M)) := by unfold Hid; rw [Hw8.out]; exact HBm.out.sc8 _
      have hk8 : Keeps (fun k => k = g) wm w3 := by rw [Hw8.out]; exact keeps8 _ _ _
      have HO3 : Hid (OwnAt w3 base (some ⟨bk, off, none⟩) n c (rem.map b8)) := HOm.out.keeps hk8 (fun p hp e => hbA (by rw [hp]; exact congrArg some e))
      have hK3 : Keeps own w w3 := HKm.out.trans hk8 (fun i hi _ => hown1.out i hi)
      have hOf := HO3.out.from (k := 64) Hz.out
      have cR3 : w3.cell? ⟨g, 8, none⟩ = some (.slice (some ⟨bk, off, none⟩) n c) := HB3.out.cell 8
      have fR3 := HB3.out.frozen 8
      have hncap := Hnc.out
      have hcmx := Hcx.out
      have hz := Hz.out
      simp only [Option.map_some, add_zero_spot] at hOf hA2
      clear q0 q1 q2 q3 q4 q5 q6 q7 q8 z0 z1 z2 z3 z4 z5 z6 z7 hzm HBm HOm HKm HOf2 hk8 Hw3 Hw8
      by_cases hc16 : c = 64
      · rw [if_pos hc16, show c - 64 = 0 by omega] at hOf
        have hbA4 : blkOf (some (⟨bk, off, none⟩ : Addr)) ≠ some g := hbA
        go_wp2_with fail
        have HB4 : Hid (Blk (w3.setCell ⟨g, 8, none⟩ (.slice (some (⟨bk, off, none⟩ : Addr)) (n - 64) 0)) g 82 (SC ⟨a2, b2, c2, d2, e2, f2, g2, h2⟩ (.slice (some (⟨bk, off, none⟩ : Addr)) (n - 64) 0) M)) := HB3.out.set 8 _
        have HO4 : Hid (OwnAt (w3.setCell ⟨g, 8, none⟩ (.slice (some (⟨bk, off, none⟩ : Addr)) (n - 64) 0)) base (some (⟨bk, off, none⟩ : Addr)) (n - 64) 0 ((rem.drop 64).map b8)) := by
          unfold Hid; rw [List.map_drop]
          exact hOf.keeps (keeps_set _ _ _) (fun p hp e => hbA4 (by rw [hp]; exact congrArg some e))
        have hK4 : Keeps own w (w3.setCell ⟨g, 8, none⟩ (.slice (some (⟨bk, off, none⟩ : Addr)) (n - 64) 0)) := hK3.trans (keeps_set _ _ _) (fun i hi _ => hown1.out i hi)
        have hloc4 : blkOf (some (⟨bk, off, none⟩ : Addr)) = rb ∨ ∃ k, blkOf (some (⟨bk, off, none⟩ : Addr)) = some k ∧ w.heap.size ≤ k := hloc
        clear HB3 HO3 hK3 hOf
        have hmu : Hid (mu g (w3.setCell ⟨g, 8, none⟩ (.slice (some ⟨bk, off, none⟩) (n - 64) (0))) < mu g W) := by
          unfold Hid mu
          rw [HB4.out.cell 8, Hm.out]
          show n - 64 < n
          omega
        go_step3
        refine ⟨rfl, ⟨⟨a2, b2, c2, d2, e2, f2, g2, h2⟩, some ⟨bk, off, none⟩, n - 64, 0, rem.drop 64, _, _, _, _, _, _, _, _, _, _, _, _, _, _, _, _, _, _, _, _, _, _, _, _, _, _, _, _, _, _, _, _, _, _, _, _, _, _, _, _, _, _, _, _, _, _, _, _, _, _, rfl, HB4, HO4, HF4, hbA4, hloc4, hK4⟩, hmu.out⟩
      · rw [if_neg hc16] at hOf
        have hbA4 : blkOf (some (⟨bk, off + 64, none⟩ : Addr)) ≠ some g := hbA
        go_wp2_with fail
        have HB4 : Hid (Blk (w3.setCell ⟨g, 8, none⟩ (.slice (some (⟨bk, off + 64, none⟩ : Addr)) (n - 64) (c - 64))) g 82 (SC ⟨a2, b2, c2, d2, e2, f2, g2, h2⟩ (.slice (some (⟨bk, off + 64, none⟩ : Addr)) (n - 64) (c - 64)) M)) := HB3.out.set 8 _
        have HO4 : Hid (OwnAt (w3.setCell ⟨g, 8, none⟩ (.slice (some (⟨bk, off + 64, none⟩ : Addr)) (n - 64) (c - 64))) base (some (⟨bk, off + 64, none⟩ : Addr)) (n - 64) (c - 64) ((rem.drop 64).map b8)) := by
          unfold Hid; rw [List.map_drop]
          exact hOf.keeps (keeps_set _ _ _) (fun p hp e => hbA4 (by rw [hp]; exact congrArg some e))
        have hK4 : Keeps own w (w3.setCell ⟨g, 8, none⟩ (.slice (some (⟨bk, off + 64, none⟩ : Addr)) (n - 64) (c - 64))) := hK3.trans (keeps_set _ _ _) (fun i hi _ => hown1.out i hi)
        have hloc4 : blkOf (some (⟨bk, off + 64, none⟩ : Addr)) = rb ∨ ∃ k, blkOf (some (⟨bk, off + 64, none⟩ : Addr)) = some k ∧ w.heap.size ≤ k := hloc
        clear HB3 HO3 hK3 hOf
        have hmu : Hid (mu g (w3.setCell ⟨g, 8, none⟩ (.slice (some ⟨bk, off + 64, none⟩) (n - 64) (c - 64))) < mu g W) := by
          unfold Hid mu
          rw [HB4.out.cell 8, Hm.out]
          show n - 64 < n
          omega
        go_step3
        refine ⟨rfl, ⟨⟨a2, b2, c2, d2, e2, f2, g2, h2⟩, some ⟨bk, off + 64, none⟩, n - 64, c - 64, rem.drop 64, _, _, _, _, _, _, _, _, _, _, _, _, _, _, _, _, _, _, _, _, _, _, _, _, _, _, _, _, _, _, _, _, _, _, _, _, _, _, _, _, _, _, _, _, _, _, _, _, _, _, rfl, HB4, HO4, HF4, hbA4, hloc4, hK4⟩, hmu.out⟩


end Go.Proofs.YtnlffaglmcddkaaDoor
