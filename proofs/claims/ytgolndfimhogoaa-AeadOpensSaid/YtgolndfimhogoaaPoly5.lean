/-
  The walk of a state's sum.
-/
import Derived.Test.YtgolndfimhogoaaPoly4
import Derived.Test.YtgolndfimhogoaaCopyG
import Derived.Test.YtgolndfimhogoaaRef1
import Derived.Deep.Cut
namespace Go.Proofs.Ytgolndfimhogoaa
open Go Go.RowKit
set_option linter.unusedSimpArgs false


def lastF (r : List UInt8) : List UInt8 := r ++ [1] ++ List.replicate (16 - (r.length + 1)) 0
def finH (r0 r1 : UInt64) (h : Lim3) (r : List UInt8) : Lim3 := if r.length = 0 then h else multF r0 r1 (addH h (halfA (lastF r)) (halfB (lastF r)) 0)
def redF (h : Lim3) : UInt64 × UInt64 :=
  let c1 := sbC h.x 18446744073709551611 0
  let b := h.y - 18446744073709551615 - c1
  let c2 := sbC h.y 18446744073709551615 c1
  if sbC h.z 3 c2 = 0 then (h.x - 18446744073709551611, b) else (h.x, h.y)
def putS (p : UInt64 × UInt64) (s0 s1 : UInt64) : List UInt8 := putLittleF (p.1 + s0) 8 ++ putLittleF (p.2 + s1 + adC p.1 s0 0) 8
def psumF (r0 r1 s0 s1 : UInt64) (bs : List UInt8) : List UInt8 := putS (redF (finH r0 r1 (stH r0 r1 bs) (stR bs))) s0 s1
theorem psumF_len (r0 r1 s0 s1 : UInt64) (bs : List UInt8) : (psumF r0 r1 s0 s1 bs).length = 16 := by simp [psumF, putS, putLittleF]
theorem Try.size8st : (Try.prog.info? 71).map (·.size) = some 8 := by kernel_rfl

set_option maxRecDepth 100000 in
set_option maxHeartbeats 4000000 in
theorem psum_any (g base : Nat) (rb : Option Nat) (r0 r1 s0 s1 : UInt64) (bs : List UInt8) (w : World) (hP : PSt w base g rb r0 r1 s0 s1 bs) :
    Calls Try.prog 28 #[.pointer (some ⟨g, 0, none⟩)] w fun e w' => e = .returned (.agg ((psumF r0 r1 s0 s1 bs).map b8).toArray) ∧ Grows w w' := by
  obtain ⟨hbg, A, n, cA, hB0, hO0, hrb, hne0⟩ := hP
  obtain ⟨⟨x0, x1, x2⟩, Hst⟩ : ∃ x, Hid (stH r0 r1 bs = x) := ⟨_, lib_hid rfl⟩
  rw [Hst.out] at hB0
  obtain ⟨rem, Hrem⟩ : ∃ x, Hid (stR bs = x) := ⟨_, lib_hid rfl⟩
  rw [Hrem.out] at hO0
  have hn16 : n < 16 := by have := hO0.1; rw [List.length_map, ← Hrem.out, stR_len] at this; omega
  have Hrl : Hid (rem.length = n) := by have := hO0.1; rw [List.length_map] at this; exact this
  obtain ⟨res0, Hres0, hr0l, hr0a⟩ : ∃ r : Array Value, Hid (PB r0 r1 s0 s1 x0 x1 x2 (.slice A n cA) = r) ∧ r.size = 8 ∧ r.all (·.oneCell') = true := ⟨_, lib_hid rfl, rfl, by simp [PB, Value.oneCell']⟩
  obtain ⟨W0, HW0, hW0, hg0⟩ : ∃ W0 : World, Hid (W0 = (w.alloc (.cells #[.int .u8 0, .int .u8 0, .int .u8 0, .int .u8 0, .int .u8 0, .int .u8 0, .int .u8 0, .int .u8 0, .int .u8 0, .int .u8 0, .int .u8 0, .int .u8 0, .int .u8 0, .int .u8 0, .int .u8 0, .int .u8 0] 56)).alloc (.cells #[.int .u8 0, .int .u8 0, .int .u8 0, .int .u8 0, .int .u8 0, .int .u8 0, .int .u8 0, .int .u8 0, .int .u8 0, .int .u8 0, .int .u8 0, .int .u8 0, .int .u8 0, .int .u8 0, .int .u8 0, .int .u8 0] 56)) ∧ W0.heap.size = w.heap.size + 2 ∧ Grows w W0 := ⟨_, lib_hid rfl, by simp, ((Grows.refl w).alloc _).alloc _⟩
  obtain ⟨g2, Hg2⟩ : ∃ x, Hid (w.heap.size = x) := ⟨_, lib_hid rfl⟩
  obtain ⟨g3, Hg3⟩ : ∃ x, Hid (w.heap.size + 1 = x) := ⟨_, lib_hid rfl⟩
  have hwg2 : w.heap.size ≤ g2 := by rw [Hg2.out]; exact Nat.le_refl _
  have hg23 : g2 < g3 := by rw [← Hg3.out, ← Hg2.out]; omega
  have HZ20 : Hid (Blk W0 g2 56 ((List.replicate 16 (0 : UInt8)).map b8).toArray) := by
    unfold Hid; rw [HW0.out, zeros16, ← Hg2.out]; exact (Blk.new _ _ _).alloc _
  have HZ30 : Hid (Blk W0 g3 56 ((List.replicate 16 (0 : UInt8)).map b8).toArray) := by
    unfold Hid; rw [HW0.out, zeros16, ← Hg3.out]
    have := Blk.new (w.alloc (.cells ((List.replicate 16 (0 : UInt8)).map b8).toArray 56)) 56 ((List.replicate 16 (0 : UInt8)).map b8).toArray
    simpa using this
  have HBg : Hid (Blk W0 g 71 res0) := by unfold Hid; rw [← Hres0.out]; exact hB0.grows hg0
  have HO : Hid (SB w A n cA rem) := hO0.row
  have h03 : g3 < W0.heap.size := HZ30.out.lt
  have HW0' := HW0.out
  clear hB0 hO0 hW0
  go_enter Try.func28, Try.ntmps28
  go_upto_region 4 with fail
  rw [← HW0', Hg3.out, Hg2.out]
  clear HW0'
  obtain ⟨g4, Hg4⟩ : ∃ x, Hid (W0.heap.size = x) := ⟨_, lib_hid rfl⟩
  go_upto_region 5 with (first
    | (refine wpList_load_blk rfl _ _ rfl g rfl 71 res0 _ HBg.out Try.underlying71 rfl (by rw [Try.size8st, hr0l]) ?_)
    | (refine wpList_store_blk rfl _ _ _ rfl W0.heap.size res0 rfl rfl 71 _ (Blk.new _ _ _) (by rw [Try.size8st, hr0l]) (by simp [hr0l]) hr0a W0.heap.size W0 ((Grows.refl W0).alloc _) (Nat.le_refl _) ?_; intro w4 H4 hb4 hgr4))
  rw [Hg4.out] at H4 h03
  rw [Hg4.out]
  have HB40 : Hid (Blk w4 g4 71 (PB r0 r1 s0 s1 x0 x1 x2 (.slice A n cA))) := by unfold Hid; rw [Hres0.out]; exact H4
  have hb4' : Grows W0 w4 := hb4
  have HZ24 := lib_hid (HZ20.out.grows hb4')
  have HZ34 := lib_hid (HZ30.out.grows hb4')
  have hgw4 := hg0.trans hb4'
  have q7 : w4.cell? ⟨g4, 7, none⟩ = some (.slice A n cA) := HB40.out.cell 7
  clear H4 hb4 hgr4 hb4' HZ20 HZ30 HBg hg0 hr0l hr0a
  by_cases hn0 : n = 0
  · have h0n : ¬ (0 : Int) < n := by omega
    have Hfin : Hid (finH r0 r1 (stH r0 r1 bs) (stR bs) = ⟨x0, x1, x2⟩) := by unfold Hid finH; rw [Hst.out, Hrem.out, if_pos (by rw [Hrl.out]; exact hn0)]
    have Hn0 := lib_hid hn0
    clear hn0
    go_upto_region 10 with fail
    obtain ⟨W, HW⟩ : ∃ X : World, Hid (X = w4) := ⟨_, lib_hid rfl⟩
    rw [← HW.out]
    have HB4 : Hid (Blk W g4 71 (PB r0 r1 s0 s1 x0 x1 x2 (.slice A n cA))) := by rw [HW.out]; exact HB40
    have HZ2 : Hid (Blk W g2 56 ((List.replicate 16 (0 : UInt8)).map b8).toArray) := by rw [HW.out]; exact HZ24
    have HZ3 : Hid (Blk W g3 56 ((List.replicate 16 (0 : UInt8)).map b8).toArray) := by rw [HW.out]; exact HZ34
    have hgW : Grows w W := by rw [HW.out]; exact hgw4
    clear q7 HZ24 HZ34 HB40 hgw4
    obtain ⟨a, Ha⟩ : ∃ x, Hid (x0 - 18446744073709551611 = x) := ⟨_, lib_hid rfl⟩
    obtain ⟨c1, Hc1⟩ : ∃ x, Hid (sbC x0 18446744073709551611 0 = x) := ⟨_, lib_hid rfl⟩
    obtain ⟨b, Hb⟩ : ∃ x, Hid (x1 - 18446744073709551615 - c1 = x) := ⟨_, lib_hid rfl⟩
    obtain ⟨c2, Hc2⟩ : ∃ x, Hid (sbC x1 18446744073709551615 c1 = x) := ⟨_, lib_hid rfl⟩
    obtain ⟨c3, Hc3⟩ : ∃ x, Hid (sbC x2 3 c2 = x) := ⟨_, lib_hid rfl⟩
    have Hs1 : Hid (∀ w, Sem.run Try.prog (callFunc 43 #[.int .u64 x0.toNat, .int .u64 18446744073709551611, .int .u64 0]) w = .ok (.value (.tuple #[.int .u64 a.toNat, .int .u64 c1.toNat])) w) := by
      rw [← Ha.out, ← Hc1.out]; exact sub64_run0 x0 18446744073709551611
    have Hs2 : Hid (∀ w, Sem.run Try.prog (callFunc 43 #[.int .u64 x1.toNat, .int .u64 18446744073709551615, .int .u64 c1.toNat]) w = .ok (.value (.tuple #[.int .u64 b.toNat, .int .u64 c2.toNat])) w) := by
      rw [← Hb.out, ← Hc2.out]; exact sub64_run x1 18446744073709551615 _ (by rw [← Hc1.out]; exact sbC_le _ _ _)
    obtain ⟨d3, Hs3⟩ : ∃ d3 : UInt64, Hid (∀ w, Sem.run Try.prog (callFunc 43 #[.int .u64 x2.toNat, .int .u64 3, .int .u64 c2.toNat]) w = .ok (.value (.tuple #[.int .u64 d3.toNat, .int .u64 c3.toNat])) w) := by
      rw [← Hc3.out]; exact ⟨_, sub64_run x2 3 _ (by rw [← Hc2.out]; exact sbC_le _ _ _)⟩
    by_cases hc : c3 = 0
    · have q0 : W.cell? ⟨g4, 4, none⟩ = some (.int .u64 x0.toNat) := HB4.out.cell 4
      have q1 : W.cell? ⟨g4, 5, none⟩ = some (.int .u64 x1.toNat) := HB4.out.cell 5
      have q2 : W.cell? ⟨g4, 6, none⟩ = some (.int .u64 x2.toNat) := HB4.out.cell 6
      have q3 : W.cell? ⟨g4, 2, none⟩ = some (.int .u64 s0.toNat) := HB4.out.cell 2
      have q4 : W.cell? ⟨g4, 3, none⟩ = some (.int .u64 s1.toNat) := HB4.out.cell 3
      have f4 := HB4.out.frozen 4
      have f5 := HB4.out.frozen 5
      have hs1 := Hs1.out
      have hs2 := Hs2.out
      have hs3 := Hs3.out
      have hc3 : (c3.toNat : Int) = 0 := by rw [hc]; rfl
      have Hred : Hid (redF ⟨x0, x1, x2⟩ = (a, b)) := by
        unfold Hid redF
        simp only [Ha.out, Hc1.out, Hb.out, Hc2.out, Hc3.out]
        rw [if_pos hc]
      have Hc := lib_hid hc
      clear hc
      go_wp2_with fail
      obtain ⟨W2, HW2⟩ : ∃ X : World, Hid (X = (W.setCell ⟨g4, 4, none⟩ (.int .u64 a.toNat)).setCell ⟨g4, 5, none⟩ (.int .u64 b.toNat)) := ⟨_, lib_hid rfl⟩
      rw [← HW2.out]
      have HZ2n : Hid (Blk W2 g2 56 ((List.replicate 16 (0 : UInt8)).map b8).toArray) := by unfold Hid; rw [HW2.out]; exact (HZ2.out.far (p := ⟨g4, 4, none⟩) (by show g2 ≠ g4; omega) _).far (p := ⟨g4, 5, none⟩) (by show g2 ≠ g4; omega) _
      have HZ3n : Hid (Blk W2 g3 56 ((List.replicate 16 (0 : UInt8)).map b8).toArray) := by unfold Hid; rw [HW2.out]; exact (HZ3.out.far (p := ⟨g4, 4, none⟩) (by show g3 ≠ g4; omega) _).far (p := ⟨g4, 5, none⟩) (by show g3 ≠ g4; omega) _
      have hgn : Grows w W2 := by rw [HW2.out]; exact (hgW.setCell (p := ⟨g4, 4, none⟩) (by show w.heap.size ≤ g4; omega) _).setCell (p := ⟨g4, 5, none⟩) (by show w.heap.size ≤ g4; omega) _
      obtain ⟨nl, Hnl⟩ : ∃ x, Hid (a + s0 = x) := ⟨_, lib_hid rfl⟩
      obtain ⟨nh, Hnh⟩ : ∃ x, Hid (b + s1 + adC a s0 0 = x) := ⟨_, lib_hid rfl⟩
      clear q0 q1 q2 q3 q4 f4 f5 hs1 hs2 hs3 hc3 HZ2 HZ3 hgW HB4
      refine (plus_any a b s0 s1 W2).mono ?_
      rintro e w3 ⟨rfl, hg3⟩
      rw [Hnl.out, Hnh.out]
      obtain ⟨g9, Hg9⟩ : ∃ x, Hid (w3.heap.size = x) := ⟨_, lib_hid rfl⟩
      go_upto_region 16 with fail
      obtain ⟨W3, HW3⟩ : ∃ X : World, Hid (X = w3.alloc (.cells #[.int .u64 nl.toNat, .int .u64 nh.toNat] 67)) := ⟨_, lib_hid rfl⟩
      rw [← HW3.out, Hg9.out]
      have hg3' : Grows W2 W3 := by rw [HW3.out]; exact hg3.alloc _
      have H9 : Hid (Blk W3 g9 67 #[.int .u64 nl.toNat, .int .u64 nh.toNat]) := by unfold Hid; rw [HW3.out, ← Hg9.out]; exact Blk.new _ _ _
      have HZ2 := lib_hid (HZ2n.out.grows hg3')
      have HZ3 := lib_hid (HZ3n.out.grows hg3')
      have hgW := hgn.trans hg3'
      have h39 : g3 < g9 := by rw [← Hg9.out]; exact Nat.lt_of_lt_of_le HZ3n.out.lt hg3.le
      clear HZ2n HZ3n hgn hg3 hg3'
      apply wp_region_mono 4 ((.is _, []) :: (.is _, []) :: (.is _, []) :: (.pr (fun v W => ∃ b off c, v = .slice (some ⟨b, off, none⟩) 8 c ∧ SB W (some ⟨b, off, none⟩) 8 c (putLittleF nl 8)), []) :: []) (by kernel_rfl) (by kernel_rfl)
      iterate 2
        apply Mono.is0
        · kernel_rfl
        · intro W hW
          go_wp2
          refine ⟨rfl, rfl, Grows.refl _, ?_⟩
          unfold Oper.valAt
          go_simp
          rfl
        intro k1 a1 hk1 ha1
        simp only [Nat.reduceAdd] at hk1
        simp only [Act.put, List.setIfInBounds_toArray, List.set_cons_succ, List.set_cons_zero] at ha1
        subst hk1 ha1
      apply Mono.is0
      · kernel_rfl
      · intro W hW
        have hcc : W.cell? ⟨g9, 0, none⟩ = some (.int .u64 nl.toNat) := (H9.out.grows hW).cell 0
        go_wp2
        refine ⟨rfl, rfl, Grows.refl _, ?_⟩
        unfold Oper.valAt
        go_simp
        rfl
      intro k1 a1 hk1 ha1
      simp only [Nat.reduceAdd] at hk1
      simp only [Act.put, List.setIfInBounds_toArray, List.set_cons_succ, List.set_cons_zero] at ha1
      subst hk1 ha1
      apply Mono.pr0
      · kernel_rfl
      · exact fun v W W' hW ⟨A, n, c, x1, x2⟩ => ⟨A, n, c, x1, x2.grows hW⟩
      · intro W hW 
        go_wp2_with fail
        refine (putLittle_any nl 8 W (by omega)).mono ?_
        rintro e w1 ⟨A1, n1, c1, hn1, rfl, hg1, ho1⟩
        obtain rfl : n1 = 8 := by rw [hn1.out]; simp [putLittleF]
        have hs1 := SB.own ho1
        obtain ⟨b1, o1, rfl, _, _⟩ := hs1.2.2.2.2 (by omega)
        have HS1 := lib_hid hs1
        clear hs1 ho1
        go_wp2
        exact ⟨rfl, rfl, hg1, b1, o1, c1, rfl, HS1.out⟩
      intro v3
      intro k1 a1 hk1 ha1
      simp only [Nat.reduceAdd] at hk1
      simp only [Act.put, List.setIfInBounds_toArray, List.set_cons_succ, List.set_cons_zero] at ha1
      subst hk1 ha1
      refine Mono.done ?_
      intro wm1 hgm1
      simp only [allF, List.drop_succ_cons, List.drop_zero]
      intro gz3
      obtain ⟨b8k, o8, c8, rfl, hs8⟩ := gz3
      have HS8 := lib_hid hs8
      have HZ3m := lib_hid (HZ3.out.grows hgm1)
      have HZ2m := lib_hid (HZ2.out.grows hgm1)
      have H9m := lib_hid (H9.out.grows hgm1)
      have hgWm := hgW.trans hgm1
      clear hs8 hgm1 HZ2 HZ3 H9 hgW
      go_upto_region 17 with (refine wpList_copy_g rfl _ _ 22 22 rfl 5 Try.underlying22 Try.sizeByte g3 0 16 16 rfl ⟨b8k, o8, none⟩ 8 c8 rfl _ 56 HZ3m.out _ HS8.out (by omega) (by simp) ?_; intro w5 hB5 hG5)
      have hk5 := keeps_grown hG5
      have HB5 := lib_hid hB5
      have HZ25 := lib_hid (HZ2m.out.keeps hk5 (fun e => by have := Option.some.inj e; omega))
      have H95 := lib_hid (H9m.out.keeps hk5 (fun e => by have := Option.some.inj e; omega))
      have hgW5 : Grows w w5 := hgWm.grown hG5 (fun k e => by have := Option.some.inj e; omega)
      clear hB5 hG5 hk5 HZ3m HZ2m H9m HS8 hgWm
      apply wp_region_mono 4 ((.is _, []) :: (.is _, []) :: (.is _, []) :: (.pr (fun v W => ∃ b off c, v = .slice (some ⟨b, off, none⟩) 8 c ∧ SB W (some ⟨b, off, none⟩) 8 c (putLittleF nh 8)), []) :: []) (by kernel_rfl) (by kernel_rfl)
      iterate 2
        apply Mono.is0
        · kernel_rfl
        · intro W hW
          go_wp2
          refine ⟨rfl, rfl, Grows.refl _, ?_⟩
          unfold Oper.valAt
          go_simp
          rfl
        intro k1 a1 hk1 ha1
        simp only [Nat.reduceAdd] at hk1
        simp only [Act.put, List.setIfInBounds_toArray, List.set_cons_succ, List.set_cons_zero] at ha1
        subst hk1 ha1
      apply Mono.is0
      · kernel_rfl
      · intro W hW
        have hcc : W.cell? ⟨g9, 1, none⟩ = some (.int .u64 nh.toNat) := (H95.out.grows hW).cell 1
        go_wp2
        refine ⟨rfl, rfl, Grows.refl _, ?_⟩
        unfold Oper.valAt
        go_simp
        rfl
      intro k1 a1 hk1 ha1
      simp only [Nat.reduceAdd] at hk1
      simp only [Act.put, List.setIfInBounds_toArray, List.set_cons_succ, List.set_cons_zero] at ha1
      subst hk1 ha1
      apply Mono.pr0
      · kernel_rfl
      · exact fun v W W' hW ⟨A, n, c, x1, x2⟩ => ⟨A, n, c, x1, x2.grows hW⟩
      · intro W hW 
        go_wp2_with fail
        refine (putLittle_any nh 8 W (by omega)).mono ?_
        rintro e w1 ⟨A1, n1, c1, hn1, rfl, hg1, ho1⟩
        obtain rfl : n1 = 8 := by rw [hn1.out]; simp [putLittleF]
        have hs1 := SB.own ho1
        obtain ⟨b1, o1, rfl, _, _⟩ := hs1.2.2.2.2 (by omega)
        have HS1 := lib_hid hs1
        clear hs1 ho1
        go_wp2
        exact ⟨rfl, rfl, hg1, b1, o1, c1, rfl, HS1.out⟩
      intro v3
      intro k1 a1 hk1 ha1
      simp only [Nat.reduceAdd] at hk1
      simp only [Act.put, List.setIfInBounds_toArray, List.set_cons_succ, List.set_cons_zero] at ha1
      subst hk1 ha1
      refine Mono.done ?_
      intro wm2 hgm2
      simp only [allF, List.drop_succ_cons, List.drop_zero]
      intro gz3
      obtain ⟨b9k, o9, c9, rfl, hs9⟩ := gz3
      have HS9 := lib_hid hs9
      have HB5m := lib_hid (HB5.out.grows hgm2)
      have HZ25m := lib_hid (HZ25.out.grows hgm2)
      have hgWm := hgW5.trans hgm2
      clear hs9 hgm2 HB5 HZ25 H95 hgW5
      go_upto_region 18 with (refine wpList_copy_g rfl _ _ 22 22 rfl 5 Try.underlying22 Try.sizeByte g3 8 8 8 rfl ⟨b9k, o9, none⟩ 8 c9 rfl _ 56 HB5m.out _ HS9.out (by omega) (by simp [splice, putLittleF]) ?_; intro w6 hB6 hG6)
      rw [splice_high _ _ (by simp [putLittleF]) (by simp [putLittleF])] at hB6
      have HZ26 := lib_hid (HZ25m.out.keeps (keeps_grown hG6) (fun e => by have := Option.some.inj e; omega))
      have hgW6 : Grows w w6 := hgWm.grown hG6 (fun k e => by have := Option.some.inj e; omega)
      have HF6 : Hid (psumF r0 r1 s0 s1 bs = putLittleF nl 8 ++ putLittleF nh 8) := by
        unfold Hid psumF
        rw [Hfin.out, Hred.out, ← Hnl.out, ← Hnh.out]
        rfl
      rw [← HF6.out] at hB6
      obtain ⟨res, Hres, hrl, hra⟩ : ∃ r : Array Value, Hid (((psumF r0 r1 s0 s1 bs).map b8).toArray = r) ∧ r.size = 16 ∧ r.all (·.oneCell') = true := ⟨_, lib_hid rfl, by rw [HF6.out]; simp [putLittleF], cells_all _⟩
      rw [Hres.out] at hB6
      have HB6 := lib_hid hB6
      clear hB6 hG6 HB5m HZ25m hgWm HS9
      go_wp2_with (first
        | (refine wpList_load_blk rfl _ _ rfl g3 rfl 56 res _ HB6.out Try.underlying56 rfl (by rw [Try.size16, hrl]) ?_)
        | (refine wpList_store_blk rfl _ _ _ rfl g2 res rfl rfl 56 _ HZ26.out (by rw [Try.size16, hrl]) (by simp [hrl]) hra g2 w6 (Below.refl _ _) (Nat.le_refl _) ?_; intro w7 HR7 hb7 hgr7))
      refine bodyPost_ret (results_cell_row rfl _ _ g2 _ res _ _ rfl HR7 Try.underlying56 rfl (by rw [Try.size16, hrl])) rfl ?_
      exact ⟨by rw [Hres.out], Below.trans hgW6 (hb7.mono (by omega))⟩
    · have q0 : W.cell? ⟨g4, 4, none⟩ = some (.int .u64 x0.toNat) := HB4.out.cell 4
      have q1 : W.cell? ⟨g4, 5, none⟩ = some (.int .u64 x1.toNat) := HB4.out.cell 5
      have q2 : W.cell? ⟨g4, 6, none⟩ = some (.int .u64 x2.toNat) := HB4.out.cell 6
      have q3 : W.cell? ⟨g4, 2, none⟩ = some (.int .u64 s0.toNat) := HB4.out.cell 2
      have q4 : W.cell? ⟨g4, 3, none⟩ = some (.int .u64 s1.toNat) := HB4.out.cell 3
      have f4 := HB4.out.frozen 4
      have f5 := HB4.out.frozen 5
      have hs1 := Hs1.out
      have hs2 := Hs2.out
      have hs3 := Hs3.out
      have hc3 : ¬ (c3.toNat : Int) = 0 := by intro h; exact hc (UInt64.toNat_inj.1 (by have x2 : (0 : UInt64).toNat = 0 := rfl; omega))
      have Hred : Hid (redF ⟨x0, x1, x2⟩ = (x0, x1)) := by
        unfold Hid redF
        simp only [Ha.out, Hc1.out, Hb.out, Hc2.out, Hc3.out]
        rw [if_neg hc]
      have Hc := lib_hid hc
      clear hc
      go_wp2_with fail
      obtain ⟨W2, HW2⟩ : ∃ X : World, Hid (X = W) := ⟨_, lib_hid rfl⟩
      rw [← HW2.out]
      have HZ2n : Hid (Blk W2 g2 56 ((List.replicate 16 (0 : UInt8)).map b8).toArray) := by rw [HW2.out]; exact HZ2
      have HZ3n : Hid (Blk W2 g3 56 ((List.replicate 16 (0 : UInt8)).map b8).toArray) := by rw [HW2.out]; exact HZ3
      have hgn : Grows w W2 := by rw [HW2.out]; exact hgW
      obtain ⟨nl, Hnl⟩ : ∃ x, Hid (x0 + s0 = x) := ⟨_, lib_hid rfl⟩
      obtain ⟨nh, Hnh⟩ : ∃ x, Hid (x1 + s1 + adC x0 s0 0 = x) := ⟨_, lib_hid rfl⟩
      clear q0 q1 q2 q3 q4 f4 f5 hs1 hs2 hs3 hc3 HZ2 HZ3 hgW HB4
      refine (plus_any x0 x1 s0 s1 W2).mono ?_
      rintro e w3 ⟨rfl, hg3⟩
      rw [Hnl.out, Hnh.out]
      obtain ⟨g9, Hg9⟩ : ∃ x, Hid (w3.heap.size = x) := ⟨_, lib_hid rfl⟩
      go_upto_region 16 with fail
      obtain ⟨W3, HW3⟩ : ∃ X : World, Hid (X = w3.alloc (.cells #[.int .u64 nl.toNat, .int .u64 nh.toNat] 67)) := ⟨_, lib_hid rfl⟩
      rw [← HW3.out, Hg9.out]
      have hg3' : Grows W2 W3 := by rw [HW3.out]; exact hg3.alloc _
      have H9 : Hid (Blk W3 g9 67 #[.int .u64 nl.toNat, .int .u64 nh.toNat]) := by unfold Hid; rw [HW3.out, ← Hg9.out]; exact Blk.new _ _ _
      have HZ2 := lib_hid (HZ2n.out.grows hg3')
      have HZ3 := lib_hid (HZ3n.out.grows hg3')
      have hgW := hgn.trans hg3'
      have h39 : g3 < g9 := by rw [← Hg9.out]; exact Nat.lt_of_lt_of_le HZ3n.out.lt hg3.le
      clear HZ2n HZ3n hgn hg3 hg3'
      apply wp_region_mono 4 ((.is _, []) :: (.is _, []) :: (.is _, []) :: (.pr (fun v W => ∃ b off c, v = .slice (some ⟨b, off, none⟩) 8 c ∧ SB W (some ⟨b, off, none⟩) 8 c (putLittleF nl 8)), []) :: []) (by kernel_rfl) (by kernel_rfl)
      iterate 2
        apply Mono.is0
        · kernel_rfl
        · intro W hW
          go_wp2
          refine ⟨rfl, rfl, Grows.refl _, ?_⟩
          unfold Oper.valAt
          go_simp
          rfl
        intro k1 a1 hk1 ha1
        simp only [Nat.reduceAdd] at hk1
        simp only [Act.put, List.setIfInBounds_toArray, List.set_cons_succ, List.set_cons_zero] at ha1
        subst hk1 ha1
      apply Mono.is0
      · kernel_rfl
      · intro W hW
        have hcc : W.cell? ⟨g9, 0, none⟩ = some (.int .u64 nl.toNat) := (H9.out.grows hW).cell 0
        go_wp2
        refine ⟨rfl, rfl, Grows.refl _, ?_⟩
        unfold Oper.valAt
        go_simp
        rfl
      intro k1 a1 hk1 ha1
      simp only [Nat.reduceAdd] at hk1
      simp only [Act.put, List.setIfInBounds_toArray, List.set_cons_succ, List.set_cons_zero] at ha1
      subst hk1 ha1
      apply Mono.pr0
      · kernel_rfl
      · exact fun v W W' hW ⟨A, n, c, x1, x2⟩ => ⟨A, n, c, x1, x2.grows hW⟩
      · intro W hW 
        go_wp2_with fail
        refine (putLittle_any nl 8 W (by omega)).mono ?_
        rintro e w1 ⟨A1, n1, c1, hn1, rfl, hg1, ho1⟩
        obtain rfl : n1 = 8 := by rw [hn1.out]; simp [putLittleF]
        have hs1 := SB.own ho1
        obtain ⟨b1, o1, rfl, _, _⟩ := hs1.2.2.2.2 (by omega)
        have HS1 := lib_hid hs1
        clear hs1 ho1
        go_wp2
        exact ⟨rfl, rfl, hg1, b1, o1, c1, rfl, HS1.out⟩
      intro v3
      intro k1 a1 hk1 ha1
      simp only [Nat.reduceAdd] at hk1
      simp only [Act.put, List.setIfInBounds_toArray, List.set_cons_succ, List.set_cons_zero] at ha1
      subst hk1 ha1
      refine Mono.done ?_
      intro wm1 hgm1
      simp only [allF, List.drop_succ_cons, List.drop_zero]
      intro gz3
      obtain ⟨b8k, o8, c8, rfl, hs8⟩ := gz3
      have HS8 := lib_hid hs8
      have HZ3m := lib_hid (HZ3.out.grows hgm1)
      have HZ2m := lib_hid (HZ2.out.grows hgm1)
      have H9m := lib_hid (H9.out.grows hgm1)
      have hgWm := hgW.trans hgm1
      clear hs8 hgm1 HZ2 HZ3 H9 hgW
      go_upto_region 17 with (refine wpList_copy_g rfl _ _ 22 22 rfl 5 Try.underlying22 Try.sizeByte g3 0 16 16 rfl ⟨b8k, o8, none⟩ 8 c8 rfl _ 56 HZ3m.out _ HS8.out (by omega) (by simp) ?_; intro w5 hB5 hG5)
      have hk5 := keeps_grown hG5
      have HB5 := lib_hid hB5
      have HZ25 := lib_hid (HZ2m.out.keeps hk5 (fun e => by have := Option.some.inj e; omega))
      have H95 := lib_hid (H9m.out.keeps hk5 (fun e => by have := Option.some.inj e; omega))
      have hgW5 : Grows w w5 := hgWm.grown hG5 (fun k e => by have := Option.some.inj e; omega)
      clear hB5 hG5 hk5 HZ3m HZ2m H9m HS8 hgWm
      apply wp_region_mono 4 ((.is _, []) :: (.is _, []) :: (.is _, []) :: (.pr (fun v W => ∃ b off c, v = .slice (some ⟨b, off, none⟩) 8 c ∧ SB W (some ⟨b, off, none⟩) 8 c (putLittleF nh 8)), []) :: []) (by kernel_rfl) (by kernel_rfl)
      iterate 2
        apply Mono.is0
        · kernel_rfl
        · intro W hW
          go_wp2
          refine ⟨rfl, rfl, Grows.refl _, ?_⟩
          unfold Oper.valAt
          go_simp
          rfl
        intro k1 a1 hk1 ha1
        simp only [Nat.reduceAdd] at hk1
        simp only [Act.put, List.setIfInBounds_toArray, List.set_cons_succ, List.set_cons_zero] at ha1
        subst hk1 ha1
      apply Mono.is0
      · kernel_rfl
      · intro W hW
        have hcc : W.cell? ⟨g9, 1, none⟩ = some (.int .u64 nh.toNat) := (H95.out.grows hW).cell 1
        go_wp2
        refine ⟨rfl, rfl, Grows.refl _, ?_⟩
        unfold Oper.valAt
        go_simp
        rfl
      intro k1 a1 hk1 ha1
      simp only [Nat.reduceAdd] at hk1
      simp only [Act.put, List.setIfInBounds_toArray, List.set_cons_succ, List.set_cons_zero] at ha1
      subst hk1 ha1
      apply Mono.pr0
      · kernel_rfl
      · exact fun v W W' hW ⟨A, n, c, x1, x2⟩ => ⟨A, n, c, x1, x2.grows hW⟩
      · intro W hW 
        go_wp2_with fail
        refine (putLittle_any nh 8 W (by omega)).mono ?_
        rintro e w1 ⟨A1, n1, c1, hn1, rfl, hg1, ho1⟩
        obtain rfl : n1 = 8 := by rw [hn1.out]; simp [putLittleF]
        have hs1 := SB.own ho1
        obtain ⟨b1, o1, rfl, _, _⟩ := hs1.2.2.2.2 (by omega)
        have HS1 := lib_hid hs1
        clear hs1 ho1
        go_wp2
        exact ⟨rfl, rfl, hg1, b1, o1, c1, rfl, HS1.out⟩
      intro v3
      intro k1 a1 hk1 ha1
      simp only [Nat.reduceAdd] at hk1
      simp only [Act.put, List.setIfInBounds_toArray, List.set_cons_succ, List.set_cons_zero] at ha1
      subst hk1 ha1
      refine Mono.done ?_
      intro wm2 hgm2
      simp only [allF, List.drop_succ_cons, List.drop_zero]
      intro gz3
      obtain ⟨b9k, o9, c9, rfl, hs9⟩ := gz3
      have HS9 := lib_hid hs9
      have HB5m := lib_hid (HB5.out.grows hgm2)
      have HZ25m := lib_hid (HZ25.out.grows hgm2)
      have hgWm := hgW5.trans hgm2
      clear hs9 hgm2 HB5 HZ25 H95 hgW5
      go_upto_region 18 with (refine wpList_copy_g rfl _ _ 22 22 rfl 5 Try.underlying22 Try.sizeByte g3 8 8 8 rfl ⟨b9k, o9, none⟩ 8 c9 rfl _ 56 HB5m.out _ HS9.out (by omega) (by simp [splice, putLittleF]) ?_; intro w6 hB6 hG6)
      rw [splice_high _ _ (by simp [putLittleF]) (by simp [putLittleF])] at hB6
      have HZ26 := lib_hid (HZ25m.out.keeps (keeps_grown hG6) (fun e => by have := Option.some.inj e; omega))
      have hgW6 : Grows w w6 := hgWm.grown hG6 (fun k e => by have := Option.some.inj e; omega)
      have HF6 : Hid (psumF r0 r1 s0 s1 bs = putLittleF nl 8 ++ putLittleF nh 8) := by
        unfold Hid psumF
        rw [Hfin.out, Hred.out, ← Hnl.out, ← Hnh.out]
        rfl
      rw [← HF6.out] at hB6
      obtain ⟨res, Hres, hrl, hra⟩ : ∃ r : Array Value, Hid (((psumF r0 r1 s0 s1 bs).map b8).toArray = r) ∧ r.size = 16 ∧ r.all (·.oneCell') = true := ⟨_, lib_hid rfl, by rw [HF6.out]; simp [putLittleF], cells_all _⟩
      rw [Hres.out] at hB6
      have HB6 := lib_hid hB6
      clear hB6 hG6 HB5m HZ25m hgWm HS9
      go_wp2_with (first
        | (refine wpList_load_blk rfl _ _ rfl g3 rfl 56 res _ HB6.out Try.underlying56 rfl (by rw [Try.size16, hrl]) ?_)
        | (refine wpList_store_blk rfl _ _ _ rfl g2 res rfl rfl 56 _ HZ26.out (by rw [Try.size16, hrl]) (by simp [hrl]) hra g2 w6 (Below.refl _ _) (Nat.le_refl _) ?_; intro w7 HR7 hb7 hgr7))
      refine bodyPost_ret (results_cell_row rfl _ _ g2 _ res _ _ rfl HR7 Try.underlying56 rfl (by rw [Try.size16, hrl])) rfl ?_
      exact ⟨by rw [Hres.out], Below.trans hgW6 (hb7.mono (by omega))⟩
  · have h0n : (0 : Int) < n := by omega
    have Hn0 := lib_hid hn0
    obtain ⟨last, Hlast, lastl⟩ : ∃ x, Hid (lastF rem = x) ∧ Hid (x.length = 16) := ⟨_, lib_hid rfl, by unfold Hid lastF; rw [List.length_append, List.length_append, List.length_replicate, Hrl.out]; simp; omega⟩
    obtain ⟨e0, He0⟩ : ∃ x, Hid (halfA last = x) := ⟨_, lib_hid rfl⟩
    obtain ⟨e1, He1⟩ : ∃ x, Hid (halfB last = x) := ⟨_, lib_hid rfl⟩
    obtain ⟨⟨i0, i1, i2⟩, Hi⟩ : ∃ x, Hid (addH ⟨x0, x1, x2⟩ e0 e1 0 = x) := ⟨_, lib_hid rfl⟩
    obtain ⟨⟨h0, h1, h2⟩, Hj⟩ : ∃ x, Hid (multF r0 r1 ⟨i0, i1, i2⟩ = x) := ⟨_, lib_hid rfl⟩
    have Hfin : Hid (finH r0 r1 (stH r0 r1 bs) (stR bs) = ⟨h0, h1, h2⟩) := by unfold Hid finH; rw [Hst.out, Hrem.out, if_neg (by rw [Hrl.out]; exact hn0), Hlast.out, He0.out, He1.out, Hi.out, Hj.out]
    have hoE := World.ownsRow_lit (base := w4.heap.size) (e := 5) (size := 1) w4 #[] 0 (Nat.le_refl _) (by unfold maxLen; omega) rfl
    have hrE := (HO.out.grows hgw4).grows ((Grows.refl w4).alloc (.cells #[] 5))
    have HH := lib_hid (And.intro hrE hoE)
    have q7' : (w4.alloc (.cells #[] 5)).cell? ⟨g4, 7, none⟩ = some (.slice A n cA) := by rw [((Grows.refl w4).alloc (.cells #[] 5)).cell (p := ⟨g4, 7, none⟩) HB40.out.lt]; exact q7
    clear hn0 hoE hrE
    obtain ⟨q, Hq, hq, hq15⟩ : ∃ q : Nat, Hid (n + 1 + q = 16) ∧ (16 : Int) - ((n : Int) + 1) = (q : Int) ∧ q ≤ 15 := ⟨15 - n, by unfold Hid; omega, by omega, by omega⟩
    go_upto_region 7 with (first
      | (at_builtin; refine wpList_append rfl _ _ 22 rfl w4.heap.size 5 (.int .u8 0) 1 Try.underlying22 Try.infoByte rfl _ 0 [] rfl HH.out.2 A n cA (rem.map b8) rfl HH.out.1 (b8_one rem) (by omega) (by omega) (by simp) ?_; intro A3 c3 w5 ho3 hb3 hg3; simp only [Nat.zero_add, List.nil_append] at ho3; have hsz5 : w4.heap.size ≤ w5.heap.size := Nat.le_trans ((Grows.refl w4).alloc (.cells #[] 5)).le hb3.size)
      | (at_builtin; refine wpList_append rfl _ _ 22 rfl w4.heap.size 5 (.int .u8 0) 1 Try.underlying22 Try.infoByte rfl (.slice A3 n c3) n _ rfl (own_grows ho3 ((Grows.refl w5).alloc _)) (some ⟨w5.heap.size, 0, none⟩) 1 1 [.int .u8 1] rfl (one_row w5 5 _) (by simp [Value.oneCell']) (by omega) (by omega) (Nat.le_trans hsz5 ((Grows.refl w5).alloc _).le) ?_; intro A4 c4 w6 ho4 hb4 hg4))
    have hgw5 : Grows w4 w5 := Below.trans ((Grows.refl w4).alloc (.cells #[] 5)) hb3
    have hgw6 : Grows w4 w6 := Below.trans (Below.trans hgw5 (((Grows.refl w5).alloc _).below hsz5)) hb4
    have HO4 := lib_hid ho4
    have hsz6 := hgw6.le
    clear ho3 ho4 hb3 hb4 hg3 hg4 hgw5 hsz5 HH q7' q7
    go_upto_region 8 with (at_builtin; refine wpList_append_zeros rfl _ _ 22 3 rfl w4.heap.size 5 .i64 (.int .u8 0) 1 Try.underlying22 Try.underlying3 Try.infoByte rfl rfl (.slice A4 (n + 1) c4) (n + 1) _ rfl HO4.out q rfl (by omega) (by omega) (by omega) (by omega) hsz6 ?_; intro A5 c5 w7 ho5 hb5 hg5)
    obtain ⟨m16, Hm16, hm16⟩ : ∃ m, Hid (n + 1 + q = m) ∧ 16 ≤ m := ⟨_, lib_hid rfl, by have := Hq.out; omega⟩
    rw [Hm16.out] at ho5 ⊢
    have HL : Hid (SB w7 A5 m16 c5 last) := by
      have e : rem.map b8 ++ [Value.int .u8 1] ++ List.replicate q (Value.int .u8 0) = last.map b8 := by
        rw [← Hlast.out]
        unfold lastF
        rw [List.map_append, List.map_append, List.map_replicate, show 16 - (rem.length + 1) = q by rw [Hrl.out]; have := Hq.out; omega]
        rfl
      rw [e] at ho5
      exact SB.own ho5
    have hg47 : Grows w4 w7 := Below.trans hgw6 hb5
    have HB7 := lib_hid (HB40.out.grows hg47)
    have HZ27 := lib_hid (HZ24.out.grows hg47)
    have HZ37 := lib_hid (HZ34.out.grows hg47)
    have hgw7 := hgw4.trans hg47
    clear ho5 hb5 hg5 hg47 hgw6 HO4 HB40 HZ24 HZ34 hgw4 hq
    go_wp2_with fail
    refine (half_any A5 m16 c5 last w7 HL.out hm16).mono ?_
    rintro e w8 ⟨rfl, hg8⟩
    rw [He0.out, He1.out]
    have HB8 := lib_hid (HB7.out.grows hg8)
    have HZ28 := lib_hid (HZ27.out.grows hg8)
    have HZ38 := lib_hid (HZ37.out.grows hg8)
    have hgw8 := hgw7.trans hg8
    clear hg8 HB7 HZ27 HZ37 hgw7 HL
    go_wp2_with fail
    refine (add_any0 g4 r0 r1 s0 s1 x0 x1 x2 (.slice A n cA) e0 e1 w8 HB8.out).mono ?_
    rintro e w9 ⟨rfl, hG9, hB9⟩
    have HB9 : Hid (Blk w9 g4 71 (PB r0 r1 s0 s1 i0 i1 i2 (.slice A n cA))) := by
      have e1 := Hi.out
      unfold addH at e1
      simp only [Lim3.mk.injEq] at e1
      rw [e1.1, e1.2.1, e1.2.2] at hB9
      exact hB9
    have HZ29 := lib_hid (HZ28.out.keeps (keeps_grown hG9) (fun e => by have := Option.some.inj e; omega))
    have HZ39 := lib_hid (HZ38.out.keeps (keeps_grown hG9) (fun e => by have := Option.some.inj e; omega))
    have hgw9 : Grows w w9 := hgw8.grown hG9 (fun k e => by have := Option.some.inj e; omega)
    clear hB9 hG9 HB8 HZ28 HZ38 hgw8
    go_wp2_with fail
    refine (multiply_any g4 r0 r1 s0 s1 i0 i1 i2 (.slice A n cA) w9 HB9.out).mono ?_
    rintro e W ⟨rfl, hG10, hB10⟩
    rw [Hj.out] at hB10
    have HB4 : Hid (Blk W g4 71 (PB r0 r1 s0 s1 h0 h1 h2 (.slice A n cA))) := hB10
    have HZ2 := lib_hid (HZ29.out.keeps (keeps_grown hG10) (fun e => by have := Option.some.inj e; omega))
    have HZ3 := lib_hid (HZ39.out.keeps (keeps_grown hG10) (fun e => by have := Option.some.inj e; omega))
    have hgW : Grows w W := hgw9.grown hG10 (fun k e => by have := Option.some.inj e; omega)
    clear hB10 hG10 HB9 HZ29 HZ39 hgw9
    obtain ⟨a, Ha⟩ : ∃ x, Hid (h0 - 18446744073709551611 = x) := ⟨_, lib_hid rfl⟩
    obtain ⟨c1, Hc1⟩ : ∃ x, Hid (sbC h0 18446744073709551611 0 = x) := ⟨_, lib_hid rfl⟩
    obtain ⟨b, Hb⟩ : ∃ x, Hid (h1 - 18446744073709551615 - c1 = x) := ⟨_, lib_hid rfl⟩
    obtain ⟨c2, Hc2⟩ : ∃ x, Hid (sbC h1 18446744073709551615 c1 = x) := ⟨_, lib_hid rfl⟩
    obtain ⟨c3, Hc3⟩ : ∃ x, Hid (sbC h2 3 c2 = x) := ⟨_, lib_hid rfl⟩
    have Hs1 : Hid (∀ w, Sem.run Try.prog (callFunc 43 #[.int .u64 h0.toNat, .int .u64 18446744073709551611, .int .u64 0]) w = .ok (.value (.tuple #[.int .u64 a.toNat, .int .u64 c1.toNat])) w) := by
      rw [← Ha.out, ← Hc1.out]; exact sub64_run0 h0 18446744073709551611
    have Hs2 : Hid (∀ w, Sem.run Try.prog (callFunc 43 #[.int .u64 h1.toNat, .int .u64 18446744073709551615, .int .u64 c1.toNat]) w = .ok (.value (.tuple #[.int .u64 b.toNat, .int .u64 c2.toNat])) w) := by
      rw [← Hb.out, ← Hc2.out]; exact sub64_run h1 18446744073709551615 _ (by rw [← Hc1.out]; exact sbC_le _ _ _)
    obtain ⟨d3, Hs3⟩ : ∃ d3 : UInt64, Hid (∀ w, Sem.run Try.prog (callFunc 43 #[.int .u64 h2.toNat, .int .u64 3, .int .u64 c2.toNat]) w = .ok (.value (.tuple #[.int .u64 d3.toNat, .int .u64 c3.toNat])) w) := by
      rw [← Hc3.out]; exact ⟨_, sub64_run h2 3 _ (by rw [← Hc2.out]; exact sbC_le _ _ _)⟩
    by_cases hc : c3 = 0
    · have q0 : W.cell? ⟨g4, 4, none⟩ = some (.int .u64 h0.toNat) := HB4.out.cell 4
      have q1 : W.cell? ⟨g4, 5, none⟩ = some (.int .u64 h1.toNat) := HB4.out.cell 5
      have q2 : W.cell? ⟨g4, 6, none⟩ = some (.int .u64 h2.toNat) := HB4.out.cell 6
      have q3 : W.cell? ⟨g4, 2, none⟩ = some (.int .u64 s0.toNat) := HB4.out.cell 2
      have q4 : W.cell? ⟨g4, 3, none⟩ = some (.int .u64 s1.toNat) := HB4.out.cell 3
      have f4 := HB4.out.frozen 4
      have f5 := HB4.out.frozen 5
      have hs1 := Hs1.out
      have hs2 := Hs2.out
      have hs3 := Hs3.out
      have hc3 : (c3.toNat : Int) = 0 := by rw [hc]; rfl
      have Hred : Hid (redF ⟨h0, h1, h2⟩ = (a, b)) := by
        unfold Hid redF
        simp only [Ha.out, Hc1.out, Hb.out, Hc2.out, Hc3.out]
        rw [if_pos hc]
      have Hc := lib_hid hc
      clear hc
      go_wp2_with fail
      obtain ⟨W2, HW2⟩ : ∃ X : World, Hid (X = (W.setCell ⟨g4, 4, none⟩ (.int .u64 a.toNat)).setCell ⟨g4, 5, none⟩ (.int .u64 b.toNat)) := ⟨_, lib_hid rfl⟩
      rw [← HW2.out]
      have HZ2n : Hid (Blk W2 g2 56 ((List.replicate 16 (0 : UInt8)).map b8).toArray) := by unfold Hid; rw [HW2.out]; exact (HZ2.out.far (p := ⟨g4, 4, none⟩) (by show g2 ≠ g4; omega) _).far (p := ⟨g4, 5, none⟩) (by show g2 ≠ g4; omega) _
      have HZ3n : Hid (Blk W2 g3 56 ((List.replicate 16 (0 : UInt8)).map b8).toArray) := by unfold Hid; rw [HW2.out]; exact (HZ3.out.far (p := ⟨g4, 4, none⟩) (by show g3 ≠ g4; omega) _).far (p := ⟨g4, 5, none⟩) (by show g3 ≠ g4; omega) _
      have hgn : Grows w W2 := by rw [HW2.out]; exact (hgW.setCell (p := ⟨g4, 4, none⟩) (by show w.heap.size ≤ g4; omega) _).setCell (p := ⟨g4, 5, none⟩) (by show w.heap.size ≤ g4; omega) _
      obtain ⟨nl, Hnl⟩ : ∃ x, Hid (a + s0 = x) := ⟨_, lib_hid rfl⟩
      obtain ⟨nh, Hnh⟩ : ∃ x, Hid (b + s1 + adC a s0 0 = x) := ⟨_, lib_hid rfl⟩
      clear q0 q1 q2 q3 q4 f4 f5 hs1 hs2 hs3 hc3 HZ2 HZ3 hgW HB4
      refine (plus_any a b s0 s1 W2).mono ?_
      rintro e w3 ⟨rfl, hg3⟩
      rw [Hnl.out, Hnh.out]
      obtain ⟨g9, Hg9⟩ : ∃ x, Hid (w3.heap.size = x) := ⟨_, lib_hid rfl⟩
      go_upto_region 16 with fail
      obtain ⟨W3, HW3⟩ : ∃ X : World, Hid (X = w3.alloc (.cells #[.int .u64 nl.toNat, .int .u64 nh.toNat] 67)) := ⟨_, lib_hid rfl⟩
      rw [← HW3.out, Hg9.out]
      have hg3' : Grows W2 W3 := by rw [HW3.out]; exact hg3.alloc _
      have H9 : Hid (Blk W3 g9 67 #[.int .u64 nl.toNat, .int .u64 nh.toNat]) := by unfold Hid; rw [HW3.out, ← Hg9.out]; exact Blk.new _ _ _
      have HZ2 := lib_hid (HZ2n.out.grows hg3')
      have HZ3 := lib_hid (HZ3n.out.grows hg3')
      have hgW := hgn.trans hg3'
      have h39 : g3 < g9 := by rw [← Hg9.out]; exact Nat.lt_of_lt_of_le HZ3n.out.lt hg3.le
      clear HZ2n HZ3n hgn hg3 hg3'
      apply wp_region_mono 4 ((.is _, []) :: (.is _, []) :: (.is _, []) :: (.pr (fun v W => ∃ b off c, v = .slice (some ⟨b, off, none⟩) 8 c ∧ SB W (some ⟨b, off, none⟩) 8 c (putLittleF nl 8)), []) :: []) (by kernel_rfl) (by kernel_rfl)
      iterate 2
        apply Mono.is0
        · kernel_rfl
        · intro W hW
          go_wp2
          refine ⟨rfl, rfl, Grows.refl _, ?_⟩
          unfold Oper.valAt
          go_simp
          rfl
        intro k1 a1 hk1 ha1
        simp only [Nat.reduceAdd] at hk1
        simp only [Act.put, List.setIfInBounds_toArray, List.set_cons_succ, List.set_cons_zero] at ha1
        subst hk1 ha1
      apply Mono.is0
      · kernel_rfl
      · intro W hW
        have hcc : W.cell? ⟨g9, 0, none⟩ = some (.int .u64 nl.toNat) := (H9.out.grows hW).cell 0
        go_wp2
        refine ⟨rfl, rfl, Grows.refl _, ?_⟩
        unfold Oper.valAt
        go_simp
        rfl
      intro k1 a1 hk1 ha1
      simp only [Nat.reduceAdd] at hk1
      simp only [Act.put, List.setIfInBounds_toArray, List.set_cons_succ, List.set_cons_zero] at ha1
      subst hk1 ha1
      apply Mono.pr0
      · kernel_rfl
      · exact fun v W W' hW ⟨A, n, c, h1, h2⟩ => ⟨A, n, c, h1, h2.grows hW⟩
      · intro W hW 
        go_wp2_with fail
        refine (putLittle_any nl 8 W (by omega)).mono ?_
        rintro e w1 ⟨A1, n1, c1, hn1, rfl, hg1, ho1⟩
        obtain rfl : n1 = 8 := by rw [hn1.out]; simp [putLittleF]
        have hs1 := SB.own ho1
        obtain ⟨b1, o1, rfl, _, _⟩ := hs1.2.2.2.2 (by omega)
        have HS1 := lib_hid hs1
        clear hs1 ho1
        go_wp2
        exact ⟨rfl, rfl, hg1, b1, o1, c1, rfl, HS1.out⟩
      intro v3
      intro k1 a1 hk1 ha1
      simp only [Nat.reduceAdd] at hk1
      simp only [Act.put, List.setIfInBounds_toArray, List.set_cons_succ, List.set_cons_zero] at ha1
      subst hk1 ha1
      refine Mono.done ?_
      intro wm1 hgm1
      simp only [allF, List.drop_succ_cons, List.drop_zero]
      intro gz3
      obtain ⟨b8k, o8, c8, rfl, hs8⟩ := gz3
      have HS8 := lib_hid hs8
      have HZ3m := lib_hid (HZ3.out.grows hgm1)
      have HZ2m := lib_hid (HZ2.out.grows hgm1)
      have H9m := lib_hid (H9.out.grows hgm1)
      have hgWm := hgW.trans hgm1
      clear hs8 hgm1 HZ2 HZ3 H9 hgW
      go_upto_region 17 with (refine wpList_copy_g rfl _ _ 22 22 rfl 5 Try.underlying22 Try.sizeByte g3 0 16 16 rfl ⟨b8k, o8, none⟩ 8 c8 rfl _ 56 HZ3m.out _ HS8.out (by omega) (by simp) ?_; intro w5 hB5 hG5)
      have hk5 := keeps_grown hG5
      have HB5 := lib_hid hB5
      have HZ25 := lib_hid (HZ2m.out.keeps hk5 (fun e => by have := Option.some.inj e; omega))
      have H95 := lib_hid (H9m.out.keeps hk5 (fun e => by have := Option.some.inj e; omega))
      have hgW5 : Grows w w5 := hgWm.grown hG5 (fun k e => by have := Option.some.inj e; omega)
      clear hB5 hG5 hk5 HZ3m HZ2m H9m HS8 hgWm
      apply wp_region_mono 4 ((.is _, []) :: (.is _, []) :: (.is _, []) :: (.pr (fun v W => ∃ b off c, v = .slice (some ⟨b, off, none⟩) 8 c ∧ SB W (some ⟨b, off, none⟩) 8 c (putLittleF nh 8)), []) :: []) (by kernel_rfl) (by kernel_rfl)
      iterate 2
        apply Mono.is0
        · kernel_rfl
        · intro W hW
          go_wp2
          refine ⟨rfl, rfl, Grows.refl _, ?_⟩
          unfold Oper.valAt
          go_simp
          rfl
        intro k1 a1 hk1 ha1
        simp only [Nat.reduceAdd] at hk1
        simp only [Act.put, List.setIfInBounds_toArray, List.set_cons_succ, List.set_cons_zero] at ha1
        subst hk1 ha1
      apply Mono.is0
      · kernel_rfl
      · intro W hW
        have hcc : W.cell? ⟨g9, 1, none⟩ = some (.int .u64 nh.toNat) := (H95.out.grows hW).cell 1
        go_wp2
        refine ⟨rfl, rfl, Grows.refl _, ?_⟩
        unfold Oper.valAt
        go_simp
        rfl
      intro k1 a1 hk1 ha1
      simp only [Nat.reduceAdd] at hk1
      simp only [Act.put, List.setIfInBounds_toArray, List.set_cons_succ, List.set_cons_zero] at ha1
      subst hk1 ha1
      apply Mono.pr0
      · kernel_rfl
      · exact fun v W W' hW ⟨A, n, c, h1, h2⟩ => ⟨A, n, c, h1, h2.grows hW⟩
      · intro W hW 
        go_wp2_with fail
        refine (putLittle_any nh 8 W (by omega)).mono ?_
        rintro e w1 ⟨A1, n1, c1, hn1, rfl, hg1, ho1⟩
        obtain rfl : n1 = 8 := by rw [hn1.out]; simp [putLittleF]
        have hs1 := SB.own ho1
        obtain ⟨b1, o1, rfl, _, _⟩ := hs1.2.2.2.2 (by omega)
        have HS1 := lib_hid hs1
        clear hs1 ho1
        go_wp2
        exact ⟨rfl, rfl, hg1, b1, o1, c1, rfl, HS1.out⟩
      intro v3
      intro k1 a1 hk1 ha1
      simp only [Nat.reduceAdd] at hk1
      simp only [Act.put, List.setIfInBounds_toArray, List.set_cons_succ, List.set_cons_zero] at ha1
      subst hk1 ha1
      refine Mono.done ?_
      intro wm2 hgm2
      simp only [allF, List.drop_succ_cons, List.drop_zero]
      intro gz3
      obtain ⟨b9k, o9, c9, rfl, hs9⟩ := gz3
      have HS9 := lib_hid hs9
      have HB5m := lib_hid (HB5.out.grows hgm2)
      have HZ25m := lib_hid (HZ25.out.grows hgm2)
      have hgWm := hgW5.trans hgm2
      clear hs9 hgm2 HB5 HZ25 H95 hgW5
      go_upto_region 18 with (refine wpList_copy_g rfl _ _ 22 22 rfl 5 Try.underlying22 Try.sizeByte g3 8 8 8 rfl ⟨b9k, o9, none⟩ 8 c9 rfl _ 56 HB5m.out _ HS9.out (by omega) (by simp [splice, putLittleF]) ?_; intro w6 hB6 hG6)
      rw [splice_high _ _ (by simp [putLittleF]) (by simp [putLittleF])] at hB6
      have HZ26 := lib_hid (HZ25m.out.keeps (keeps_grown hG6) (fun e => by have := Option.some.inj e; omega))
      have hgW6 : Grows w w6 := hgWm.grown hG6 (fun k e => by have := Option.some.inj e; omega)
      have HF6 : Hid (psumF r0 r1 s0 s1 bs = putLittleF nl 8 ++ putLittleF nh 8) := by
        unfold Hid psumF
        rw [Hfin.out, Hred.out, ← Hnl.out, ← Hnh.out]
        rfl
      rw [← HF6.out] at hB6
      obtain ⟨res, Hres, hrl, hra⟩ : ∃ r : Array Value, Hid (((psumF r0 r1 s0 s1 bs).map b8).toArray = r) ∧ r.size = 16 ∧ r.all (·.oneCell') = true := ⟨_, lib_hid rfl, by rw [HF6.out]; simp [putLittleF], cells_all _⟩
      rw [Hres.out] at hB6
      have HB6 := lib_hid hB6
      clear hB6 hG6 HB5m HZ25m hgWm HS9
      go_wp2_with (first
        | (refine wpList_load_blk rfl _ _ rfl g3 rfl 56 res _ HB6.out Try.underlying56 rfl (by rw [Try.size16, hrl]) ?_)
        | (refine wpList_store_blk rfl _ _ _ rfl g2 res rfl rfl 56 _ HZ26.out (by rw [Try.size16, hrl]) (by simp [hrl]) hra g2 w6 (Below.refl _ _) (Nat.le_refl _) ?_; intro w7 HR7 hb7 hgr7))
      refine bodyPost_ret (results_cell_row rfl _ _ g2 _ res _ _ rfl HR7 Try.underlying56 rfl (by rw [Try.size16, hrl])) rfl ?_
      exact ⟨by rw [Hres.out], Below.trans hgW6 (hb7.mono (by omega))⟩
    · have q0 : W.cell? ⟨g4, 4, none⟩ = some (.int .u64 h0.toNat) := HB4.out.cell 4
      have q1 : W.cell? ⟨g4, 5, none⟩ = some (.int .u64 h1.toNat) := HB4.out.cell 5
      have q2 : W.cell? ⟨g4, 6, none⟩ = some (.int .u64 h2.toNat) := HB4.out.cell 6
      have q3 : W.cell? ⟨g4, 2, none⟩ = some (.int .u64 s0.toNat) := HB4.out.cell 2
      have q4 : W.cell? ⟨g4, 3, none⟩ = some (.int .u64 s1.toNat) := HB4.out.cell 3
      have f4 := HB4.out.frozen 4
      have f5 := HB4.out.frozen 5
      have hs1 := Hs1.out
      have hs2 := Hs2.out
      have hs3 := Hs3.out
      have hc3 : ¬ (c3.toNat : Int) = 0 := by intro h; exact hc (UInt64.toNat_inj.1 (by have h2 : (0 : UInt64).toNat = 0 := rfl; omega))
      have Hred : Hid (redF ⟨h0, h1, h2⟩ = (h0, h1)) := by
        unfold Hid redF
        simp only [Ha.out, Hc1.out, Hb.out, Hc2.out, Hc3.out]
        rw [if_neg hc]
      have Hc := lib_hid hc
      clear hc
      go_wp2_with fail
      obtain ⟨W2, HW2⟩ : ∃ X : World, Hid (X = W) := ⟨_, lib_hid rfl⟩
      rw [← HW2.out]
      have HZ2n : Hid (Blk W2 g2 56 ((List.replicate 16 (0 : UInt8)).map b8).toArray) := by rw [HW2.out]; exact HZ2
      have HZ3n : Hid (Blk W2 g3 56 ((List.replicate 16 (0 : UInt8)).map b8).toArray) := by rw [HW2.out]; exact HZ3
      have hgn : Grows w W2 := by rw [HW2.out]; exact hgW
      obtain ⟨nl, Hnl⟩ : ∃ x, Hid (h0 + s0 = x) := ⟨_, lib_hid rfl⟩
      obtain ⟨nh, Hnh⟩ : ∃ x, Hid (h1 + s1 + adC h0 s0 0 = x) := ⟨_, lib_hid rfl⟩
      clear q0 q1 q2 q3 q4 f4 f5 hs1 hs2 hs3 hc3 HZ2 HZ3 hgW HB4
      refine (plus_any h0 h1 s0 s1 W2).mono ?_
      rintro e w3 ⟨rfl, hg3⟩
      rw [Hnl.out, Hnh.out]
      obtain ⟨g9, Hg9⟩ : ∃ x, Hid (w3.heap.size = x) := ⟨_, lib_hid rfl⟩
      go_upto_region 16 with fail
      obtain ⟨W3, HW3⟩ : ∃ X : World, Hid (X = w3.alloc (.cells #[.int .u64 nl.toNat, .int .u64 nh.toNat] 67)) := ⟨_, lib_hid rfl⟩
      rw [← HW3.out, Hg9.out]
      have hg3' : Grows W2 W3 := by rw [HW3.out]; exact hg3.alloc _
      have H9 : Hid (Blk W3 g9 67 #[.int .u64 nl.toNat, .int .u64 nh.toNat]) := by unfold Hid; rw [HW3.out, ← Hg9.out]; exact Blk.new _ _ _
      have HZ2 := lib_hid (HZ2n.out.grows hg3')
      have HZ3 := lib_hid (HZ3n.out.grows hg3')
      have hgW := hgn.trans hg3'
      have h39 : g3 < g9 := by rw [← Hg9.out]; exact Nat.lt_of_lt_of_le HZ3n.out.lt hg3.le
      clear HZ2n HZ3n hgn hg3 hg3'
      apply wp_region_mono 4 ((.is _, []) :: (.is _, []) :: (.is _, []) :: (.pr (fun v W => ∃ b off c, v = .slice (some ⟨b, off, none⟩) 8 c ∧ SB W (some ⟨b, off, none⟩) 8 c (putLittleF nl 8)), []) :: []) (by kernel_rfl) (by kernel_rfl)
      iterate 2
        apply Mono.is0
        · kernel_rfl
        · intro W hW
          go_wp2
          refine ⟨rfl, rfl, Grows.refl _, ?_⟩
          unfold Oper.valAt
          go_simp
          rfl
        intro k1 a1 hk1 ha1
        simp only [Nat.reduceAdd] at hk1
        simp only [Act.put, List.setIfInBounds_toArray, List.set_cons_succ, List.set_cons_zero] at ha1
        subst hk1 ha1
      apply Mono.is0
      · kernel_rfl
      · intro W hW
        have hcc : W.cell? ⟨g9, 0, none⟩ = some (.int .u64 nl.toNat) := (H9.out.grows hW).cell 0
        go_wp2
        refine ⟨rfl, rfl, Grows.refl _, ?_⟩
        unfold Oper.valAt
        go_simp
        rfl
      intro k1 a1 hk1 ha1
      simp only [Nat.reduceAdd] at hk1
      simp only [Act.put, List.setIfInBounds_toArray, List.set_cons_succ, List.set_cons_zero] at ha1
      subst hk1 ha1
      apply Mono.pr0
      · kernel_rfl
      · exact fun v W W' hW ⟨A, n, c, h1, h2⟩ => ⟨A, n, c, h1, h2.grows hW⟩
      · intro W hW 
        go_wp2_with fail
        refine (putLittle_any nl 8 W (by omega)).mono ?_
        rintro e w1 ⟨A1, n1, c1, hn1, rfl, hg1, ho1⟩
        obtain rfl : n1 = 8 := by rw [hn1.out]; simp [putLittleF]
        have hs1 := SB.own ho1
        obtain ⟨b1, o1, rfl, _, _⟩ := hs1.2.2.2.2 (by omega)
        have HS1 := lib_hid hs1
        clear hs1 ho1
        go_wp2
        exact ⟨rfl, rfl, hg1, b1, o1, c1, rfl, HS1.out⟩
      intro v3
      intro k1 a1 hk1 ha1
      simp only [Nat.reduceAdd] at hk1
      simp only [Act.put, List.setIfInBounds_toArray, List.set_cons_succ, List.set_cons_zero] at ha1
      subst hk1 ha1
      refine Mono.done ?_
      intro wm1 hgm1
      simp only [allF, List.drop_succ_cons, List.drop_zero]
      intro gz3
      obtain ⟨b8k, o8, c8, rfl, hs8⟩ := gz3
      have HS8 := lib_hid hs8
      have HZ3m := lib_hid (HZ3.out.grows hgm1)
      have HZ2m := lib_hid (HZ2.out.grows hgm1)
      have H9m := lib_hid (H9.out.grows hgm1)
      have hgWm := hgW.trans hgm1
      clear hs8 hgm1 HZ2 HZ3 H9 hgW
      go_upto_region 17 with (refine wpList_copy_g rfl _ _ 22 22 rfl 5 Try.underlying22 Try.sizeByte g3 0 16 16 rfl ⟨b8k, o8, none⟩ 8 c8 rfl _ 56 HZ3m.out _ HS8.out (by omega) (by simp) ?_; intro w5 hB5 hG5)
      have hk5 := keeps_grown hG5
      have HB5 := lib_hid hB5
      have HZ25 := lib_hid (HZ2m.out.keeps hk5 (fun e => by have := Option.some.inj e; omega))
      have H95 := lib_hid (H9m.out.keeps hk5 (fun e => by have := Option.some.inj e; omega))
      have hgW5 : Grows w w5 := hgWm.grown hG5 (fun k e => by have := Option.some.inj e; omega)
      clear hB5 hG5 hk5 HZ3m HZ2m H9m HS8 hgWm
      apply wp_region_mono 4 ((.is _, []) :: (.is _, []) :: (.is _, []) :: (.pr (fun v W => ∃ b off c, v = .slice (some ⟨b, off, none⟩) 8 c ∧ SB W (some ⟨b, off, none⟩) 8 c (putLittleF nh 8)), []) :: []) (by kernel_rfl) (by kernel_rfl)
      iterate 2
        apply Mono.is0
        · kernel_rfl
        · intro W hW
          go_wp2
          refine ⟨rfl, rfl, Grows.refl _, ?_⟩
          unfold Oper.valAt
          go_simp
          rfl
        intro k1 a1 hk1 ha1
        simp only [Nat.reduceAdd] at hk1
        simp only [Act.put, List.setIfInBounds_toArray, List.set_cons_succ, List.set_cons_zero] at ha1
        subst hk1 ha1
      apply Mono.is0
      · kernel_rfl
      · intro W hW
        have hcc : W.cell? ⟨g9, 1, none⟩ = some (.int .u64 nh.toNat) := (H95.out.grows hW).cell 1
        go_wp2
        refine ⟨rfl, rfl, Grows.refl _, ?_⟩
        unfold Oper.valAt
        go_simp
        rfl
      intro k1 a1 hk1 ha1
      simp only [Nat.reduceAdd] at hk1
      simp only [Act.put, List.setIfInBounds_toArray, List.set_cons_succ, List.set_cons_zero] at ha1
      subst hk1 ha1
      apply Mono.pr0
      · kernel_rfl
      · exact fun v W W' hW ⟨A, n, c, h1, h2⟩ => ⟨A, n, c, h1, h2.grows hW⟩
      · intro W hW 
        go_wp2_with fail
        refine (putLittle_any nh 8 W (by omega)).mono ?_
        rintro e w1 ⟨A1, n1, c1, hn1, rfl, hg1, ho1⟩
        obtain rfl : n1 = 8 := by rw [hn1.out]; simp [putLittleF]
        have hs1 := SB.own ho1
        obtain ⟨b1, o1, rfl, _, _⟩ := hs1.2.2.2.2 (by omega)
        have HS1 := lib_hid hs1
        clear hs1 ho1
        go_wp2
        exact ⟨rfl, rfl, hg1, b1, o1, c1, rfl, HS1.out⟩
      intro v3
      intro k1 a1 hk1 ha1
      simp only [Nat.reduceAdd] at hk1
      simp only [Act.put, List.setIfInBounds_toArray, List.set_cons_succ, List.set_cons_zero] at ha1
      subst hk1 ha1
      refine Mono.done ?_
      intro wm2 hgm2
      simp only [allF, List.drop_succ_cons, List.drop_zero]
      intro gz3
      obtain ⟨b9k, o9, c9, rfl, hs9⟩ := gz3
      have HS9 := lib_hid hs9
      have HB5m := lib_hid (HB5.out.grows hgm2)
      have HZ25m := lib_hid (HZ25.out.grows hgm2)
      have hgWm := hgW5.trans hgm2
      clear hs9 hgm2 HB5 HZ25 H95 hgW5
      go_upto_region 18 with (refine wpList_copy_g rfl _ _ 22 22 rfl 5 Try.underlying22 Try.sizeByte g3 8 8 8 rfl ⟨b9k, o9, none⟩ 8 c9 rfl _ 56 HB5m.out _ HS9.out (by omega) (by simp [splice, putLittleF]) ?_; intro w6 hB6 hG6)
      rw [splice_high _ _ (by simp [putLittleF]) (by simp [putLittleF])] at hB6
      have HZ26 := lib_hid (HZ25m.out.keeps (keeps_grown hG6) (fun e => by have := Option.some.inj e; omega))
      have hgW6 : Grows w w6 := hgWm.grown hG6 (fun k e => by have := Option.some.inj e; omega)
      have HF6 : Hid (psumF r0 r1 s0 s1 bs = putLittleF nl 8 ++ putLittleF nh 8) := by
        unfold Hid psumF
        rw [Hfin.out, Hred.out, ← Hnl.out, ← Hnh.out]
        rfl
      rw [← HF6.out] at hB6
      obtain ⟨res, Hres, hrl, hra⟩ : ∃ r : Array Value, Hid (((psumF r0 r1 s0 s1 bs).map b8).toArray = r) ∧ r.size = 16 ∧ r.all (·.oneCell') = true := ⟨_, lib_hid rfl, by rw [HF6.out]; simp [putLittleF], cells_all _⟩
      rw [Hres.out] at hB6
      have HB6 := lib_hid hB6
      clear hB6 hG6 HB5m HZ25m hgWm HS9
      go_wp2_with (first
        | (refine wpList_load_blk rfl _ _ rfl g3 rfl 56 res _ HB6.out Try.underlying56 rfl (by rw [Try.size16, hrl]) ?_)
        | (refine wpList_store_blk rfl _ _ _ rfl g2 res rfl rfl 56 _ HZ26.out (by rw [Try.size16, hrl]) (by simp [hrl]) hra g2 w6 (Below.refl _ _) (Nat.le_refl _) ?_; intro w7 HR7 hb7 hgr7))
      refine bodyPost_ret (results_cell_row rfl _ _ g2 _ res _ _ rfl HR7 Try.underlying56 rfl (by rw [Try.size16, hrl])) rfl ?_
      exact ⟨by rw [Hres.out], Below.trans hgW6 (hb7.mono (by omega))⟩

end Go.Proofs.Ytgolndfimhogoaa
