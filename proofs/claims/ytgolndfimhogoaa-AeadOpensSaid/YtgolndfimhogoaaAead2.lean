/-
  The walks of package aead: Seal and Open.
-/
import Derived.Test.YtgolndfimhogoaaAead1
import Derived.Deep.Cut
namespace Go.Proofs.Ytgolndfimhogoaa
open Go Go.RowKit
set_option linter.unusedSimpArgs false


/-- Bytes in new memory, and an error's number. -/
def Res2 (w : World) (bs : List UInt8) (err : Int) (e : Ending) (w' : World) : Prop :=
  ∃ A n c, Hid (n = bs.length) ∧ e = .returned (.tuple #[.slice A n c, .int .i64 err]) ∧ Grows w w' ∧ OwnAt w' w.heap.size A n c (bs.map b8)
def sealF (key nonce aad bs : List UInt8) : List UInt8 := cryptF key nonce 1 bs ++ tagF key nonce aad (cryptF key nonce 1 bs)
theorem sealF_len (key nonce aad bs : List UInt8) : (sealF key nonce aad bs).length = bs.length + 16 := by unfold sealF; rw [List.length_append, cryptF_len, tagF_len]
theorem own_at_base {w : World} {A : Option Addr} {n c b b' : Nat} {xs : List Value} (h : OwnAt w b A n c xs) (hb : b' ≤ b) : OwnAt w b' A n c xs := h.rebase (fun p hp => Nat.le_trans hb (h.base_le p hp))

set_option maxRecDepth 100000 in
set_option maxHeartbeats 4000000 in
theorem seal1_any (key nonce xs ys : List UInt8) (hk : key.length = 32) (hn : nonce.length = 12) (A B : Option Addr) (n c m d p1 p2 : Nat) (w : World) (ha : SB w A n c xs) (hb : SB w B m d ys) (hln : n ≤ 100000) (hlm : m ≤ 100000)
    (h1 : w.cell? ⟨p1, 0, none⟩ = some (.slice B m d)) (h2 : w.cell? ⟨p2, 0, none⟩ = some (.slice A n c)) (hp1 : p1 < w.heap.size) (hp2 : p2 < w.heap.size) :
    Calls Try.prog 16 #[.agg (key.map b8 ++ nonce.map b8).toArray, .pointer (some ⟨p1, 0, none⟩), .pointer (some ⟨p2, 0, none⟩)] w (Res2 w (sealF key nonce xs ys) 0) := by
  obtain ⟨zs, Hz⟩ : ∃ zs : List Value, Hid (zs = key.map b8 ++ nonce.map b8) := ⟨_, lib_hid rfl⟩
  rw [← Hz.out]
  obtain ⟨W0, HW0, hg0⟩ : ∃ W0 : World, Hid (W0 = w.alloc (.cells zs.toArray 40)) ∧ Grows w W0 := ⟨_, lib_hid rfl, (Grows.refl w).alloc _⟩
  have HZ : Hid (Blk W0 w.heap.size 40 zs.toArray) := by unfold Hid; rw [HW0.out]; exact Blk.new _ _ _
  have HFk : Hid (∀ W, Grows W0 W → Row W (some ⟨w.heap.size, 0, none⟩) 32 32 (key.map b8)) := fun W hW => by
    have := (HZ.out.grows hW).row (o := 0) (n := 32) (c := 32) (by omega) (by rw [Hz.out]; simp [hk, hn]) (by unfold maxLen; omega)
    rw [Hz.out] at this
    simpa [List.take_append, hk] using this
  have HFn : Hid (∀ W, Grows W0 W → Row W (some ⟨w.heap.size, 32, none⟩) 12 12 (nonce.map b8)) := fun W hW => by
    have := (HZ.out.grows hW).row (o := 32) (n := 12) (c := 12) (by omega) (by rw [Hz.out]; simp [hk, hn]) (by unfold maxLen; omega)
    rw [Hz.out] at this
    simpa [List.take_append, List.drop_append, hk, hn, List.take_of_length_le] using this
  have zl : Hid (zs.length = 44) := by unfold Hid; rw [Hz.out]; simp [hk, hn]
  have Hcr : Hid (∀ (B : Option Addr) (m d : Nat) (bs : List UInt8) W, SB W B m d bs → m ≤ 100000 → Calls Try.prog 17 #[.agg zs.toArray, .slice B m d] W (NewB 5 W (cryptF key nonce 1 bs))) := fun B m d bs W h hm => by
    rw [Hz.out]; exact crypted_any key nonce bs hk hn B m d W h hm
  have Htg : Hid (∀ (A B : Option Addr) (n c m d : Nat) (xs ys : List UInt8) W, SB W A n c xs → SB W B m d ys → n ≤ 100000 → m ≤ 100000 → Calls Try.prog 18 #[.agg zs.toArray, .slice A n c, .slice B m d] W fun e w' => ∃ (g c : Nat), e = .returned (.slice (some ⟨g, 0, none⟩) 16 c) ∧ Grows W w' ∧ SB w' (some ⟨g, 0, none⟩) 16 c (tagF key nonce xs ys)) := fun A B n c m d xs ys W h1 h2 h3 h4 => by
    rw [Hz.out]; exact tag_any key nonce xs ys hk hn A B n c m d W h1 h2 h3 h4
  have HX := lib_hid (ha.grows hg0)
  have HY := lib_hid (hb.grows hg0)
  have hyl := hb.len
  obtain ⟨cb, Hcb, cbl⟩ : ∃ x, Hid (cryptF key nonce 1 ys = x) ∧ Hid (x.length = m) := ⟨_, lib_hid rfl, by unfold Hid; rw [cryptF_len]; exact hyl⟩
  obtain ⟨tg, Htgv, tgl⟩ : ∃ x, Hid (tagF key nonce xs cb = x) ∧ Hid (x.length = 16) := ⟨_, lib_hid rfl, tagF_len _ _ _ _⟩
  have HF : Hid (sealF key nonce xs ys = cb ++ tg) := by unfold Hid sealF; rw [Hcb.out, Htgv.out]
  have q1 : W0.cell? ⟨p1, 0, none⟩ = some (.slice B m d) := (hg0.cell (p := ⟨p1, 0, none⟩) hp1).trans h1
  have H2 : Hid (∀ W, Grows W0 W → W.cell? ⟨p2, 0, none⟩ = some (.slice A n c)) := fun W hW => ((hg0.trans hW).cell (p := ⟨p2, 0, none⟩) hp2).trans h2
  have HW0' := HW0.out
  clear ha hb hk hn hyl h1 h2 hp1 hp2
  go_enter Try.func16, Try.ntmps16
  go_upto_region 1 with fail
  rw [← HW0']
  clear HW0'
  go_wp2_with (refine wpList_load_blk (by kernel_rfl) _ _ rfl w.heap.size rfl 40 zs.toArray _ HZ.out Try.underlying40 rfl (by rw [Try.size44s]; simp [zl.out]) ?_)
  refine (Hcr.out B m d ys W0 HY.out hlm).mono ?_
  rintro e w2 ⟨A2, n2, c2, hn2, rfl, hg2, ho2⟩
  rw [Hcb.out] at hn2 ho2
  obtain rfl : n2 = m := by rw [hn2.out]; exact cbl.out
  have HO2 := lib_hid ho2
  have HS2 := lib_hid (SB.own ho2)
  have q2 := H2.out w2 hg2
  have HZ2 := lib_hid (HZ.out.grows hg2)
  have HX2 := lib_hid (HX.out.grows hg2)
  clear ho2 q1
  go_wp2_with (refine wpList_load_blk (by kernel_rfl) _ _ rfl w.heap.size rfl 40 zs.toArray _ HZ2.out Try.underlying40 rfl (by rw [Try.size44s]; simp [zl.out]) ?_)
  refine (Htg.out A A2 n c n2 c2 xs cb w2 HX2.out HS2.out hln hlm).mono ?_
  rintro e w3 ⟨g3, c3, rfl, hg3, hs3⟩
  rw [Htgv.out] at hs3
  have HS3 := lib_hid hs3
  have HO3 := lib_hid (own_grows HO2.out hg3)
  have hg03 := hg2.trans hg3
  have hle3 := hg03.le
  clear hs3 q2 HO2 HS2 hg3 hg2
  go_wp2_with (at_builtin; refine wpList_append rfl _ _ 22 rfl W0.heap.size 5 (.int .u8 0) 1 Try.underlying22 Try.infoByte rfl (.slice A2 n2 c2) n2 _ rfl HO3.out _ 16 c3 _ rfl HS3.out (b8_one tg) (by omega) (by omega) hle3 ?_; intro A4 c4 w4 ho4 hb4 hg4)
  rw [← List.map_append] at ho4
  go_ret2
  refine ⟨A4, n2 + 16, c4, ?_, rfl, Below.trans (hg0.trans hg03) (hb4.mono hg0.le), ?_⟩
  · unfold Hid; rw [HF.out, List.length_append, cbl.out, tgl.out]
  · rw [HF.out]; exact own_at_base (w := w4) (OwnAt.of_own ho4) hg0.le

theorem wpList_build {P : Program} {w : World} {ops : Array Oper} {rest : List Oper} {o : Oper} {a : Act} {Q : Exit → Act → World → Prop} (hgd : Region.wanted o (yielded ops a.tmps) = true) (t : TypeId) (parts : Array (Nat × Operand)) (ho : o.op = .build t parts)
    (vals : Array (Nat × Value)) (hv : (parts.map fun (i, x) => (i, a.eval x)) = vals) (cells : Array Value) (hb : P.built t vals.toList = some cells) (h : wpList P ops Q rest (a.put o.dst (.agg cells)) w) : wpList P ops Q (o :: rest) a w := by
  refine wpList_step fun K hK => ?_
  rw [if_pos hgd]
  have hrun := run_build w t vals cells hb
  rw [← hv] at hrun
  unfold Oper.wp execOp
  simp only [ho, Sem.run_bind, Sem.run_pure, Result.andThen_ok, hrun]
  exact hK _ _ h
theorem built_suite0 (k0 k1 k2 k3 k4 k5 k6 k7 k8 k9 k10 k11 k12 k13 k14 k15 k16 k17 k18 k19 k20 k21 k22 k23 k24 k25 k26 k27 k28 k29 k30 k31 n0 n1 n2 n3 n4 n5 n6 n7 n8 n9 n10 n11 : UInt8) : Try.prog.built 40 [(0, .agg ([k0, k1, k2, k3, k4, k5, k6, k7, k8, k9, k10, k11, k12, k13, k14, k15, k16, k17, k18, k19, k20, k21, k22, k23, k24, k25, k26, k27, k28, k29, k30, k31].map b8).toArray), (1, .agg ([n0, n1, n2, n3, n4, n5, n6, n7, n8, n9, n10, n11].map b8).toArray)] = some ([k0, k1, k2, k3, k4, k5, k6, k7, k8, k9, k10, k11, k12, k13, k14, k15, k16, k17, k18, k19, k20, k21, k22, k23, k24, k25, k26, k27, k28, k29, k30, k31].map b8 ++ [n0, n1, n2, n3, n4, n5, n6, n7, n8, n9, n10, n11].map b8).toArray := by kernel_rfl
theorem built_suite (key nonce : List UInt8) (hk : key.length = 32) (hn : nonce.length = 12) : Try.prog.built 40 [(0, .agg (key.map b8).toArray), (1, .agg (nonce.map b8).toArray)] = some (key.map b8 ++ nonce.map b8).toArray := by
  match key, hk, nonce, hn with
  | [k0, k1, k2, k3, k4, k5, k6, k7, k8, k9, k10, k11, k12, k13, k14, k15, k16, k17, k18, k19, k20, k21, k22, k23, k24, k25, k26, k27, k28, k29, k30, k31], _, [n0, n1, n2, n3, n4, n5, n6, n7, n8, n9, n10, n11], _ => exact built_suite0 k0 k1 k2 k3 k4 k5 k6 k7 k8 k9 k10 k11 k12 k13 k14 k15 k16 k17 k18 k19 k20 k21 k22 k23 k24 k25 k26 k27 k28 k29 k30 k31 n0 n1 n2 n3 n4 n5 n6 n7 n8 n9 n10 n11
set_option maxRecDepth 100000 in
set_option maxHeartbeats 4000000 in
theorem does_any (F : FuncId) (caps : Array Value) (bs : List UInt8) (err : Int) (key nonce : List UInt8) (A B : Option Addr) (c d : Nat) (w : World) (ha : SB w A 32 c key) (hb : SB w B 12 d nonce)
    (hcf : ∀ (args : Array Value) (W : World), Sem.run Try.prog (callFunc F args) W = .ok (.enter F args) W)
    (hF : Hid (∀ W, Grows w W → Calls Try.prog F (#[.agg (key.map b8 ++ nonce.map b8).toArray] ++ caps) W (Res2 W bs err))) :
    Calls Try.prog 15 #[.slice A 32 c, .slice B 12 d, .func (.func F) #[] caps] w (Res2 w bs err) := by
  obtain ⟨bk, ok, rfl, _, _⟩ := ha.2.2.2.2 (by omega)
  obtain ⟨bn, on, rfl, _, _⟩ := hb.2.2.2.2 (by omega)
  obtain ⟨W0, HW0, hg0⟩ : ∃ W0 : World, Hid (W0 = w.alloc (.cells ((Value.int .u8 0 :: Value.int .u8 0 :: Value.int .u8 0 :: Value.int .u8 0 :: Value.int .u8 0 :: Value.int .u8 0 :: Value.int .u8 0 :: Value.int .u8 0 :: Value.int .u8 0 :: Value.int .u8 0 :: Value.int .u8 0 :: Value.int .u8 0 :: Value.int .u8 0 :: Value.int .u8 0 :: Value.int .u8 0 :: Value.int .u8 0 :: Value.int .u8 0 :: Value.int .u8 0 :: Value.int .u8 0 :: Value.int .u8 0 :: Value.int .u8 0 :: Value.int .u8 0 :: Value.int .u8 0 :: Value.int .u8 0 :: Value.int .u8 0 :: Value.int .u8 0 :: Value.int .u8 0 :: Value.int .u8 0 :: Value.int .u8 0 :: Value.int .u8 0 :: Value.int .u8 0 :: Value.int .u8 0 :: Value.int .u8 0 :: Value.int .u8 0 :: Value.int .u8 0 :: Value.int .u8 0 :: Value.int .u8 0 :: Value.int .u8 0 :: Value.int .u8 0 :: Value.int .u8 0 :: Value.int .u8 0 :: Value.int .u8 0 :: Value.int .u8 0 :: Value.int .u8 0 :: [] : List Value).toArray) 40)) ∧ Grows w W0 := ⟨_, lib_hid rfl, (Grows.refl w).alloc _⟩
  have HKS : Hid (Row W0 (some ⟨bk, ok, none⟩) 32 c (key.map b8)) := ha.grows hg0
  have HNS : Hid (Row W0 (some ⟨bn, on, none⟩) 12 d (nonce.map b8)) := hb.grows hg0
  have hat1 := fun W => run_arrayAt (Pr := Try.prog) Try.underlying37 (some ⟨bk, ok, none⟩) 32 c (by omega) W
  have hat2 := fun W => run_arrayAt (Pr := Try.prog) Try.underlying38 (some ⟨bn, on, none⟩) 12 d (by omega) W
  have hbuild := built_suite key nonce (SB.len ha) (SB.len hb)
  have Hb := lib_hid hbuild
  clear hbuild
  have HW0' := HW0.out
  clear ha hb
  go_enter Try.func15, Try.ntmps15
  go_upto_region 2 with fail
  rw [← HW0']
  clear HW0'
  go_upto_region 6 with fail
  apply wp_region_mono 11 ((.is _, []) :: (.is _, []) :: (.is _, []) :: (.is (.agg (key.map b8).toArray), []) :: (.is _, []) :: (.is _, []) :: (.is (.agg (nonce.map b8).toArray), []) :: (.is (.agg (key.map b8 ++ nonce.map b8).toArray), []) :: (.pr (fun v W => ∃ A n c, v = .tuple #[.slice A n c, .int .i64 err] ∧ n = bs.length ∧ OwnAt W w.heap.size A n c (bs.map b8)), []) :: (.pr (fun v W => ∃ A n c, v = .slice A n c ∧ n = bs.length ∧ OwnAt W w.heap.size A n c (bs.map b8)), [8]) :: (.is (.int .i64 err), [8]) :: []) (by kernel_rfl) (by kernel_rfl)
  iterate 2
    apply Mono.is0
    · kernel_rfl
    · intro W hW
      go_wp2
      refine ⟨rfl, rfl, Grows.refl _, ?_⟩
      unfold Oper.valAt
      go_simp
      rfl
    intro k1 a1 hk1 ha1
    simp only [Nat.reduceAdd] at hk1
    simp only [Act.put, List.setIfInBounds_toArray, List.set_cons_succ, List.set_cons_zero] at ha1
    subst hk1 ha1
  apply Mono.is0
  · kernel_rfl
  · intro W hW
    have hat := hat1 W
    go_wp2
    refine ⟨rfl, rfl, Grows.refl _, ?_⟩
    unfold Oper.valAt
    go_simp
    rfl
  intro k1 a1 hk1 ha1
  simp only [Nat.reduceAdd] at hk1
  simp only [Act.put, List.setIfInBounds_toArray, List.set_cons_succ, List.set_cons_zero] at ha1
  subst hk1 ha1
  apply Mono.is0
  · kernel_rfl
  · intro W hW 
    go_wp2_with (refine wpList_load_part (by kernel_rfl) _ _ rfl ⟨bk, ok, none⟩ rfl 32 c (key.map b8) _ (HKS.out.grows hW) Try.underlying37 rfl Try.size32k ?_)
    exact ⟨rfl, rfl, Grows.refl _, rfl⟩
  intro k1 a1 hk1 ha1
  simp only [Nat.reduceAdd] at hk1
  simp only [Act.put, List.setIfInBounds_toArray, List.set_cons_succ, List.set_cons_zero] at ha1
  subst hk1 ha1
  apply Mono.is0
  · kernel_rfl
  · intro W hW
    go_wp2
    refine ⟨rfl, rfl, Grows.refl _, ?_⟩
    unfold Oper.valAt
    go_simp
    rfl
  intro k1 a1 hk1 ha1
  simp only [Nat.reduceAdd] at hk1
  simp only [Act.put, List.setIfInBounds_toArray, List.set_cons_succ, List.set_cons_zero] at ha1
  subst hk1 ha1
  apply Mono.is0
  · kernel_rfl
  · intro W hW
    have hat := hat2 W
    go_wp2
    refine ⟨rfl, rfl, Grows.refl _, ?_⟩
    unfold Oper.valAt
    go_simp
    rfl
  intro k1 a1 hk1 ha1
  simp only [Nat.reduceAdd] at hk1
  simp only [Act.put, List.setIfInBounds_toArray, List.set_cons_succ, List.set_cons_zero] at ha1
  subst hk1 ha1
  apply Mono.is0
  · kernel_rfl
  · intro W hW 
    go_wp2_with (refine wpList_load_part (by kernel_rfl) _ _ rfl ⟨bn, on, none⟩ rfl 12 d (nonce.map b8) _ (HNS.out.grows hW) Try.underlying38 rfl Try.size12 ?_)
    exact ⟨rfl, rfl, Grows.refl _, rfl⟩
  intro k1 a1 hk1 ha1
  simp only [Nat.reduceAdd] at hk1
  simp only [Act.put, List.setIfInBounds_toArray, List.set_cons_succ, List.set_cons_zero] at ha1
  subst hk1 ha1
  apply Mono.is0
  · kernel_rfl
  · intro W hW 
    refine wpList_build (by kernel_rfl) _ _ rfl #[(0, .agg (key.map b8).toArray), (1, .agg (nonce.map b8).toArray)] (by simp [Act.eval]) _ Hb.out ?_
    go_wp2
    exact ⟨rfl, rfl, Grows.refl _, rfl⟩
  intro k1 a1 hk1 ha1
  simp only [Nat.reduceAdd] at hk1
  simp only [Act.put, List.setIfInBounds_toArray, List.set_cons_succ, List.set_cons_zero] at ha1
  subst hk1 ha1
  apply Mono.pr0
  · kernel_rfl
  · exact fun v W W' hW ⟨A, n, c, h1, h2, h3⟩ => ⟨A, n, c, h1, h2, h3.grows hW⟩
  · intro W hW 
    go_wp2_with fail
    refine (hF.out W (hg0.trans hW)).mono ?_
    rintro e w1 ⟨A1, n1, c1, hn1, rfl, hg1, ho1⟩
    have HO1 := lib_hid (ho1.rebase (fun p hp => Nat.le_trans (hg0.trans hW).le (ho1.base_le p hp)))
    have HN1 := lib_hid hn1.out
    clear ho1 hn1
    go_wp2
    exact ⟨rfl, rfl, hg1, A1, n1, c1, rfl, HN1.out, HO1.out⟩
  intro v8
  intro k1 a1 hk1 ha1
  simp only [Nat.reduceAdd] at hk1
  simp only [Act.put, List.setIfInBounds_toArray, List.set_cons_succ, List.set_cons_zero] at ha1
  subst hk1 ha1
  apply Mono.pr1
  · kernel_rfl
  · exact fun v W W' hW ⟨A, n, c, h1, h2, h3⟩ => ⟨A, n, c, h1, h2, h3.grows hW⟩
  · intro W hW f0
    obtain ⟨A1, n1, c1, rfl, hn1, ho1⟩ := f0
    have HO1 := lib_hid ho1
    have HN1 := lib_hid hn1
    clear ho1 hn1
    go_wp2
    refine ⟨rfl, rfl, Grows.refl _, A1, n1, c1, ?_, HN1.out, HO1.out⟩
    unfold Oper.valAt
    go_simp
  intro v9
  intro k1 a1 hk1 ha1
  simp only [Nat.reduceAdd] at hk1
  simp only [Act.put, List.setIfInBounds_toArray, List.set_cons_succ, List.set_cons_zero] at ha1
  subst hk1 ha1
  apply Mono.is1
  · kernel_rfl
  · intro W hW f0
    obtain ⟨A1, n1, c1, rfl, hn1, ho1⟩ := f0
    clear hn1 ho1
    go_wp2
    refine ⟨rfl, rfl, Grows.refl _, ?_⟩
    unfold Oper.valAt
    go_simp
  intro k1 a1 hk1 ha1
  simp only [Nat.reduceAdd] at hk1
  simp only [Act.put, List.setIfInBounds_toArray, List.set_cons_succ, List.set_cons_zero] at ha1
  subst hk1 ha1
  refine Mono.done ?_
  intro wm hgm
  simp only [allF, List.drop_succ_cons, List.drop_zero]
  intro g9 g8
  obtain ⟨A1, n1, c1, rfl, hn1, ho1⟩ := g9
  have HO1 := lib_hid ho1
  have HN1 := lib_hid hn1
  clear g8 ho1 hn1
  go_wp2
  go_ret2
  exact ⟨A1, n1, c1, HN1.out, rfl, hg0.trans hgm, HO1.out⟩

end Go.Proofs.Ytgolndfimhogoaa
