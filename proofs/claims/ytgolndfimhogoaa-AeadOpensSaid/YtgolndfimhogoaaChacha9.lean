/-
  The walk of the reference's quarter round.
-/
import Derived.Test.YtgolndfimhogoaaChacha3
import Derived.Test.YtgolndfimhogoaaRef1
namespace Go.Proofs.Ytgolndfimhogoaa
open Go Go.RowKit
set_option linter.unusedSimpArgs false


def addS (s : List UInt32) (u v : Nat) : List UInt32 := s.set u (s.getD u 0 + s.getD v 0)
def xorS (s : List UInt32) (u v : Nat) (r : Int) : List UInt32 := s.set u (leftF (s.getD u 0 ^^^ s.getD v 0) r)
theorem addS_len (s : List UInt32) (u v : Nat) : (addS s u v).length = s.length := by simp [addS]
theorem xorS_len (s : List UInt32) (u v : Nat) (r : Int) : (xorS s u v r).length = s.length := by simp [xorS]
def quarterS (s : List UInt32) (a b c d : Nat) : List UInt32 :=
  xorS (addS (xorS (addS (xorS (addS (xorS (addS s a b) d a 16) c d) b c 12) a b) d a 8) c d) b c 7
theorem gb_grows {w w1 w2 : World} {g : Nat} (h : w.grownBy w1 (some g)) (k : Grows w1 w2) : w.grownBy w2 (some g) :=
  ⟨k.os.trans h.os, k.tape.trans h.tape, k.output.trans h.output, Nat.le_trans h.size k.size, fun i hi hne => (k.block i (Nat.lt_of_lt_of_le hi h.size)).trans (h.block i hi hne)⟩
theorem gb_set {w w1 : World} {g : Nat} (h : w.grownBy w1 (some g)) (i : Nat) (u : Value) : w.grownBy (w1.setCell ⟨g, i, none⟩ u) (some g) := by
  have k := Below.setCell (Below.refl 0 w1) (p := ⟨g, i, none⟩) (Nat.zero_le _) u
  exact ⟨k.os.trans h.os, k.tape.trans h.tape, k.output.trans h.output, Nat.le_trans h.size k.size, fun j hj hne => (Below.heap_setCell w1 ⟨g, i, none⟩ u j (fun e => hne (by rw [e]))).trans (h.block j hj hne)⟩

set_option maxRecDepth 100000 in
set_option maxHeartbeats 4000000 in
theorem refq_any (g : Nat) (s0 : List UInt32) (a b c d : Nat) (w : World) (hl : s0.length = 16) (ha : a < 16) (hb : b < 16) (hc : c < 16) (hd : d < 16) (hB0 : Blk w g 61 (s0.map b32).toArray) :
    Calls Try.prog 46 #[.pointer (some ⟨g, 0, none⟩), .int .i64 (a : Int), .int .i64 (b : Int), .int .i64 (c : Int), .int .i64 (d : Int)] w fun e w' => e = .returned (.tuple #[]) ∧ w.grownBy w' (some g) ∧ Blk w' g 61 ((quarterS s0 a b c d).map b32).toArray := by
  have sl := lib_hid hl
  have HB := lib_hid hB0
  have hG : w.grownBy w (some g) := ⟨rfl, rfl, rfl, Nat.le_refl _, fun _ _ _ => rfl⟩
  have hia : (a : Int) < 16 := by omega
  have hib : (b : Int) < 16 := by omega
  have hic : (c : Int) < 16 := by omega
  have hid : (d : Int) < 16 := by omega
  clear hl hB0
  go_enter Try.func46, Try.ntmps46
  go_wp2_with fail
  obtain ⟨x, Hx⟩ : ∃ x, Hid (s0.getD a 0 = x) := ⟨_, lib_hid rfl⟩
  obtain ⟨y, Hy⟩ : ∃ y, Hid (s0.getD b 0 = y) := ⟨_, lib_hid rfl⟩
  obtain ⟨z, Hz, hz⟩ : ∃ z : UInt32, Hid (x + y = z) ∧ IntKind.u32.wrap ((x.toNat : Int) + (y.toNat : Int)) = (z.toNat : Int) := ⟨_, lib_hid rfl, u32_wrap_add _ _⟩
  obtain ⟨s1, Hs1, sl2⟩ : ∃ s, Hid (addS s0 a b = s) ∧ Hid (s.length = 16) := ⟨_, lib_hid rfl, by unfold Hid; (first | rw [addS_len] | rw [xorS_len]); exact sl.out⟩
  have Hst : Hid (addS s0 a b = s0.set a z) := by unfold Hid addS; rw [Hx.out, Hy.out, Hz.out]
  apply wp_region_mono 13 ((.is _, []) :: (.is _, []) :: (.is _, []) :: (.is _, []) :: (.is _, []) :: (.is _, []) :: (.is _, []) :: (.is _, []) :: (.is _, []) :: (.is _, []) :: (.is _, []) :: (.is _, []) :: (.is _, []) :: []) (by kernel_rfl) (by kernel_rfl)
  iterate 4
    apply Mono.is0
    · kernel_rfl
    · intro W hW
      go_wp2
      refine ⟨rfl, rfl, Grows.refl _, ?_⟩
      unfold Oper.valAt
      go_simp
      rfl
    intro k1 a1 hk1 ha1
    simp only [Nat.reduceAdd] at hk1
    simp only [Act.put, List.setIfInBounds_toArray, List.set_cons_succ, List.set_cons_zero] at ha1
    subst hk1 ha1
  apply Mono.is0
  · kernel_rfl
  · intro W hW
    have hcc : W.cell? ⟨g, a, none⟩ = some (b32 x) := by rw [← Hx.out]; exact cell32 (HB.out.grows hW) _ (by rw [sl.out]; omega)
    go_wp2
    refine ⟨rfl, rfl, Grows.refl _, ?_⟩
    unfold Oper.valAt
    go_simp
    rfl
  intro k1 a1 hk1 ha1
  simp only [Nat.reduceAdd] at hk1
  simp only [Act.put, List.setIfInBounds_toArray, List.set_cons_succ, List.set_cons_zero] at ha1
  subst hk1 ha1
  iterate 4
    apply Mono.is0
    · kernel_rfl
    · intro W hW
      go_wp2
      refine ⟨rfl, rfl, Grows.refl _, ?_⟩
      unfold Oper.valAt
      go_simp
      rfl
    intro k1 a1 hk1 ha1
    simp only [Nat.reduceAdd] at hk1
    simp only [Act.put, List.setIfInBounds_toArray, List.set_cons_succ, List.set_cons_zero] at ha1
    subst hk1 ha1
  apply Mono.is0
  · kernel_rfl
  · intro W hW
    have hcc : W.cell? ⟨g, b, none⟩ = some (b32 y) := by rw [← Hy.out]; exact cell32 (HB.out.grows hW) _ (by rw [sl.out]; omega)
    go_wp2
    refine ⟨rfl, rfl, Grows.refl _, ?_⟩
    unfold Oper.valAt
    go_simp
    rfl
  intro k1 a1 hk1 ha1
  simp only [Nat.reduceAdd] at hk1
  simp only [Act.put, List.setIfInBounds_toArray, List.set_cons_succ, List.set_cons_zero] at ha1
  subst hk1 ha1
  iterate 3
    apply Mono.is0
    · kernel_rfl
    · intro W hW
      go_wp2
      refine ⟨rfl, rfl, Grows.refl _, ?_⟩
      unfold Oper.valAt
      go_simp
      rfl
    intro k1 a1 hk1 ha1
    simp only [Nat.reduceAdd] at hk1
    simp only [Act.put, List.setIfInBounds_toArray, List.set_cons_succ, List.set_cons_zero] at ha1
    subst hk1 ha1
  refine Mono.done ?_
  intro wm hgm
  simp only [allF, List.drop_succ_cons, List.drop_zero]
  have hBm := HB.out.grows hgm
  have hc0 : wm.cell? ⟨g, a, none⟩ = some (b32 x) := by rw [← Hx.out]; exact cell32 hBm _ (by rw [sl.out]; omega)
  have hf0 := hBm.frozen a
  have hB2 := blk_set32 hBm a z
  rw [← Hst.out, Hs1.out] at hB2
  have hG2 : w.grownBy (wm.setCell ⟨g, a, none⟩ (b32 z)) (some g) := gb_set (gb_grows hG hgm) _ _
  clear HB hG hBm hgm sl
  go_wp2_with fail
  obtain ⟨w1, Hw1⟩ : ∃ W : World, Hid (W = wm.setCell ⟨g, a, none⟩ (b32 z)) := ⟨_, lib_hid rfl⟩
  rw [show (Value.int IntKind.u32 (z.toNat : Int)) = b32 z from rfl, ← Hw1.out]
  rw [← Hw1.out] at hB2 hG2
  have HB := lib_hid hB2
  have hG := hG2
  have sl := sl2
  clear hc0 hf0 hB2 hG2 sl2 Hst Hx Hy Hz hz
  obtain ⟨x, Hx⟩ : ∃ x, Hid (s1.getD d 0 = x) := ⟨_, lib_hid rfl⟩
  obtain ⟨y, Hy⟩ : ∃ y, Hid (s1.getD a 0 = y) := ⟨_, lib_hid rfl⟩
  obtain ⟨t, Ht, ht⟩ : ∃ t : UInt32, Hid (x ^^^ y = t) ∧ bits .xor .u32 (x.toNat : Int) (y.toNat : Int) = (t.toNat : Int) := ⟨_, lib_hid rfl, u32_xor _ _⟩
  obtain ⟨z, Hz⟩ : ∃ z : UInt32, Hid (leftF t 16 = z) := ⟨_, lib_hid rfl⟩
  obtain ⟨s2, Hs2, sl2⟩ : ∃ s, Hid (xorS s1 d a 16 = s) ∧ Hid (s.length = 16) := ⟨_, lib_hid rfl, by unfold Hid; (first | rw [addS_len] | rw [xorS_len]); exact sl.out⟩
  have Hst : Hid (xorS s1 d a 16 = s1.set d z) := by unfold Hid xorS; rw [Hx.out, Hy.out, Ht.out, Hz.out]
  apply wp_region_mono 16 ((.is _, []) :: (.is _, []) :: (.is _, []) :: (.is _, []) :: (.is _, []) :: (.is _, []) :: (.is _, []) :: (.is _, []) :: (.is _, []) :: (.is _, []) :: (.is _, []) :: (.is _, []) :: (.is _, []) :: (.is (.int .u32 z.toNat), []) :: (.is _, []) :: (.is _, []) :: []) (by kernel_rfl) (by kernel_rfl)
  iterate 6
    apply Mono.is0
    · kernel_rfl
    · intro W hW
      go_wp2
      refine ⟨rfl, rfl, Grows.refl _, ?_⟩
      unfold Oper.valAt
      go_simp
      rfl
    intro k1 a1 hk1 ha1
    simp only [Nat.reduceAdd] at hk1
    simp only [Act.put, List.setIfInBounds_toArray, List.set_cons_succ, List.set_cons_zero] at ha1
    subst hk1 ha1
  apply Mono.is0
  · kernel_rfl
  · intro W hW
    have hcc : W.cell? ⟨g, d, none⟩ = some (b32 x) := by rw [← Hx.out]; exact cell32 (HB.out.grows hW) _ (by rw [sl.out]; omega)
    go_wp2
    refine ⟨rfl, rfl, Grows.refl _, ?_⟩
    unfold Oper.valAt
    go_simp
    rfl
  intro k1 a1 hk1 ha1
  simp only [Nat.reduceAdd] at hk1
  simp only [Act.put, List.setIfInBounds_toArray, List.set_cons_succ, List.set_cons_zero] at ha1
  subst hk1 ha1
  iterate 4
    apply Mono.is0
    · kernel_rfl
    · intro W hW
      go_wp2
      refine ⟨rfl, rfl, Grows.refl _, ?_⟩
      unfold Oper.valAt
      go_simp
      rfl
    intro k1 a1 hk1 ha1
    simp only [Nat.reduceAdd] at hk1
    simp only [Act.put, List.setIfInBounds_toArray, List.set_cons_succ, List.set_cons_zero] at ha1
    subst hk1 ha1
  apply Mono.is0
  · kernel_rfl
  · intro W hW
    have hcc : W.cell? ⟨g, a, none⟩ = some (b32 y) := by rw [← Hy.out]; exact cell32 (HB.out.grows hW) _ (by rw [sl.out]; omega)
    go_wp2
    refine ⟨rfl, rfl, Grows.refl _, ?_⟩
    unfold Oper.valAt
    go_simp
    rfl
  intro k1 a1 hk1 ha1
  simp only [Nat.reduceAdd] at hk1
  simp only [Act.put, List.setIfInBounds_toArray, List.set_cons_succ, List.set_cons_zero] at ha1
  subst hk1 ha1
  apply Mono.is0
  · kernel_rfl
  · intro W hW
    go_wp2
    refine ⟨rfl, rfl, Grows.refl _, ?_⟩
    unfold Oper.valAt
    go_simp
    rfl
  intro k1 a1 hk1 ha1
  simp only [Nat.reduceAdd] at hk1
  simp only [Act.put, List.setIfInBounds_toArray, List.set_cons_succ, List.set_cons_zero] at ha1
  subst hk1 ha1
  apply Mono.is0
  · kernel_rfl
  · intro W hW 
    go_wp2_with fail
    refine (refLeft_any t 16 W).mono ?_
    rintro e w1 ⟨rfl, rfl⟩
    rw [Hz.out]
    go_wp2
    exact ⟨rfl, rfl, Grows.refl _, rfl⟩
  intro k1 a1 hk1 ha1
  simp only [Nat.reduceAdd] at hk1
  simp only [Act.put, List.setIfInBounds_toArray, List.set_cons_succ, List.set_cons_zero] at ha1
  subst hk1 ha1
  iterate 2
    apply Mono.is0
    · kernel_rfl
    · intro W hW
      go_wp2
      refine ⟨rfl, rfl, Grows.refl _, ?_⟩
      unfold Oper.valAt
      go_simp
      rfl
    intro k1 a1 hk1 ha1
    simp only [Nat.reduceAdd] at hk1
    simp only [Act.put, List.setIfInBounds_toArray, List.set_cons_succ, List.set_cons_zero] at ha1
    subst hk1 ha1
  refine Mono.done ?_
  intro wm hgm
  simp only [allF, List.drop_succ_cons, List.drop_zero]
  have hBm := HB.out.grows hgm
  have hc0 : wm.cell? ⟨g, d, none⟩ = some (b32 x) := by rw [← Hx.out]; exact cell32 hBm _ (by rw [sl.out]; omega)
  have hf0 := hBm.frozen d
  have hB2 := blk_set32 hBm d z
  rw [← Hst.out, Hs2.out] at hB2
  have hG2 : w.grownBy (wm.setCell ⟨g, d, none⟩ (b32 z)) (some g) := gb_set (gb_grows hG hgm) _ _
  clear HB hG hBm hgm sl
  go_wp2_with fail
  obtain ⟨w2, Hw2⟩ : ∃ W : World, Hid (W = wm.setCell ⟨g, d, none⟩ (b32 z)) := ⟨_, lib_hid rfl⟩
  rw [show (Value.int IntKind.u32 (z.toNat : Int)) = b32 z from rfl, ← Hw2.out]
  rw [← Hw2.out] at hB2 hG2
  have HB := lib_hid hB2
  have hG := hG2
  have sl := sl2
  clear hc0 hf0 hB2 hG2 sl2 Hst Hx Hy Hz Ht ht
  obtain ⟨x, Hx⟩ : ∃ x, Hid (s2.getD c 0 = x) := ⟨_, lib_hid rfl⟩
  obtain ⟨y, Hy⟩ : ∃ y, Hid (s2.getD d 0 = y) := ⟨_, lib_hid rfl⟩
  obtain ⟨z, Hz, hz⟩ : ∃ z : UInt32, Hid (x + y = z) ∧ IntKind.u32.wrap ((x.toNat : Int) + (y.toNat : Int)) = (z.toNat : Int) := ⟨_, lib_hid rfl, u32_wrap_add _ _⟩
  obtain ⟨s3, Hs3, sl2⟩ : ∃ s, Hid (addS s2 c d = s) ∧ Hid (s.length = 16) := ⟨_, lib_hid rfl, by unfold Hid; (first | rw [addS_len] | rw [xorS_len]); exact sl.out⟩
  have Hst : Hid (addS s2 c d = s2.set c z) := by unfold Hid addS; rw [Hx.out, Hy.out, Hz.out]
  apply wp_region_mono 13 ((.is _, []) :: (.is _, []) :: (.is _, []) :: (.is _, []) :: (.is _, []) :: (.is _, []) :: (.is _, []) :: (.is _, []) :: (.is _, []) :: (.is _, []) :: (.is _, []) :: (.is _, []) :: (.is _, []) :: []) (by kernel_rfl) (by kernel_rfl)
  iterate 4
    apply Mono.is0
    · kernel_rfl
    · intro W hW
      go_wp2
      refine ⟨rfl, rfl, Grows.refl _, ?_⟩
      unfold Oper.valAt
      go_simp
      rfl
    intro k1 a1 hk1 ha1
    simp only [Nat.reduceAdd] at hk1
    simp only [Act.put, List.setIfInBounds_toArray, List.set_cons_succ, List.set_cons_zero] at ha1
    subst hk1 ha1
  apply Mono.is0
  · kernel_rfl
  · intro W hW
    have hcc : W.cell? ⟨g, c, none⟩ = some (b32 x) := by rw [← Hx.out]; exact cell32 (HB.out.grows hW) _ (by rw [sl.out]; omega)
    go_wp2
    refine ⟨rfl, rfl, Grows.refl _, ?_⟩
    unfold Oper.valAt
    go_simp
    rfl
  intro k1 a1 hk1 ha1
  simp only [Nat.reduceAdd] at hk1
  simp only [Act.put, List.setIfInBounds_toArray, List.set_cons_succ, List.set_cons_zero] at ha1
  subst hk1 ha1
  iterate 4
    apply Mono.is0
    · kernel_rfl
    · intro W hW
      go_wp2
      refine ⟨rfl, rfl, Grows.refl _, ?_⟩
      unfold Oper.valAt
      go_simp
      rfl
    intro k1 a1 hk1 ha1
    simp only [Nat.reduceAdd] at hk1
    simp only [Act.put, List.setIfInBounds_toArray, List.set_cons_succ, List.set_cons_zero] at ha1
    subst hk1 ha1
  apply Mono.is0
  · kernel_rfl
  · intro W hW
    have hcc : W.cell? ⟨g, d, none⟩ = some (b32 y) := by rw [← Hy.out]; exact cell32 (HB.out.grows hW) _ (by rw [sl.out]; omega)
    go_wp2
    refine ⟨rfl, rfl, Grows.refl _, ?_⟩
    unfold Oper.valAt
    go_simp
    rfl
  intro k1 a1 hk1 ha1
  simp only [Nat.reduceAdd] at hk1
  simp only [Act.put, List.setIfInBounds_toArray, List.set_cons_succ, List.set_cons_zero] at ha1
  subst hk1 ha1
  iterate 3
    apply Mono.is0
    · kernel_rfl
    · intro W hW
      go_wp2
      refine ⟨rfl, rfl, Grows.refl _, ?_⟩
      unfold Oper.valAt
      go_simp
      rfl
    intro k1 a1 hk1 ha1
    simp only [Nat.reduceAdd] at hk1
    simp only [Act.put, List.setIfInBounds_toArray, List.set_cons_succ, List.set_cons_zero] at ha1
    subst hk1 ha1
  refine Mono.done ?_
  intro wm hgm
  simp only [allF, List.drop_succ_cons, List.drop_zero]
  have hBm := HB.out.grows hgm
  have hc0 : wm.cell? ⟨g, c, none⟩ = some (b32 x) := by rw [← Hx.out]; exact cell32 hBm _ (by rw [sl.out]; omega)
  have hf0 := hBm.frozen c
  have hB2 := blk_set32 hBm c z
  rw [← Hst.out, Hs3.out] at hB2
  have hG2 : w.grownBy (wm.setCell ⟨g, c, none⟩ (b32 z)) (some g) := gb_set (gb_grows hG hgm) _ _
  clear HB hG hBm hgm sl
  go_wp2_with fail
  obtain ⟨w3, Hw3⟩ : ∃ W : World, Hid (W = wm.setCell ⟨g, c, none⟩ (b32 z)) := ⟨_, lib_hid rfl⟩
  rw [show (Value.int IntKind.u32 (z.toNat : Int)) = b32 z from rfl, ← Hw3.out]
  rw [← Hw3.out] at hB2 hG2
  have HB := lib_hid hB2
  have hG := hG2
  have sl := sl2
  clear hc0 hf0 hB2 hG2 sl2 Hst Hx Hy Hz hz
  obtain ⟨x, Hx⟩ : ∃ x, Hid (s3.getD b 0 = x) := ⟨_, lib_hid rfl⟩
  obtain ⟨y, Hy⟩ : ∃ y, Hid (s3.getD c 0 = y) := ⟨_, lib_hid rfl⟩
  obtain ⟨t, Ht, ht⟩ : ∃ t : UInt32, Hid (x ^^^ y = t) ∧ bits .xor .u32 (x.toNat : Int) (y.toNat : Int) = (t.toNat : Int) := ⟨_, lib_hid rfl, u32_xor _ _⟩
  obtain ⟨z, Hz⟩ : ∃ z : UInt32, Hid (leftF t 12 = z) := ⟨_, lib_hid rfl⟩
  obtain ⟨s4, Hs4, sl2⟩ : ∃ s, Hid (xorS s3 b c 12 = s) ∧ Hid (s.length = 16) := ⟨_, lib_hid rfl, by unfold Hid; (first | rw [addS_len] | rw [xorS_len]); exact sl.out⟩
  have Hst : Hid (xorS s3 b c 12 = s3.set b z) := by unfold Hid xorS; rw [Hx.out, Hy.out, Ht.out, Hz.out]
  apply wp_region_mono 16 ((.is _, []) :: (.is _, []) :: (.is _, []) :: (.is _, []) :: (.is _, []) :: (.is _, []) :: (.is _, []) :: (.is _, []) :: (.is _, []) :: (.is _, []) :: (.is _, []) :: (.is _, []) :: (.is _, []) :: (.is (.int .u32 z.toNat), []) :: (.is _, []) :: (.is _, []) :: []) (by kernel_rfl) (by kernel_rfl)
  iterate 6
    apply Mono.is0
    · kernel_rfl
    · intro W hW
      go_wp2
      refine ⟨rfl, rfl, Grows.refl _, ?_⟩
      unfold Oper.valAt
      go_simp
      rfl
    intro k1 a1 hk1 ha1
    simp only [Nat.reduceAdd] at hk1
    simp only [Act.put, List.setIfInBounds_toArray, List.set_cons_succ, List.set_cons_zero] at ha1
    subst hk1 ha1
  apply Mono.is0
  · kernel_rfl
  · intro W hW
    have hcc : W.cell? ⟨g, b, none⟩ = some (b32 x) := by rw [← Hx.out]; exact cell32 (HB.out.grows hW) _ (by rw [sl.out]; omega)
    go_wp2
    refine ⟨rfl, rfl, Grows.refl _, ?_⟩
    unfold Oper.valAt
    go_simp
    rfl
  intro k1 a1 hk1 ha1
  simp only [Nat.reduceAdd] at hk1
  simp only [Act.put, List.setIfInBounds_toArray, List.set_cons_succ, List.set_cons_zero] at ha1
  subst hk1 ha1
  iterate 4
    apply Mono.is0
    · kernel_rfl
    · intro W hW
      go_wp2
      refine ⟨rfl, rfl, Grows.refl _, ?_⟩
      unfold Oper.valAt
      go_simp
      rfl
    intro k1 a1 hk1 ha1
    simp only [Nat.reduceAdd] at hk1
    simp only [Act.put, List.setIfInBounds_toArray, List.set_cons_succ, List.set_cons_zero] at ha1
    subst hk1 ha1
  apply Mono.is0
  · kernel_rfl
  · intro W hW
    have hcc : W.cell? ⟨g, c, none⟩ = some (b32 y) := by rw [← Hy.out]; exact cell32 (HB.out.grows hW) _ (by rw [sl.out]; omega)
    go_wp2
    refine ⟨rfl, rfl, Grows.refl _, ?_⟩
    unfold Oper.valAt
    go_simp
    rfl
  intro k1 a1 hk1 ha1
  simp only [Nat.reduceAdd] at hk1
  simp only [Act.put, List.setIfInBounds_toArray, List.set_cons_succ, List.set_cons_zero] at ha1
  subst hk1 ha1
  apply Mono.is0
  · kernel_rfl
  · intro W hW
    go_wp2
    refine ⟨rfl, rfl, Grows.refl _, ?_⟩
    unfold Oper.valAt
    go_simp
    rfl
  intro k1 a1 hk1 ha1
  simp only [Nat.reduceAdd] at hk1
  simp only [Act.put, List.setIfInBounds_toArray, List.set_cons_succ, List.set_cons_zero] at ha1
  subst hk1 ha1
  apply Mono.is0
  · kernel_rfl
  · intro W hW 
    go_wp2_with fail
    refine (refLeft_any t 12 W).mono ?_
    rintro e w1 ⟨rfl, rfl⟩
    rw [Hz.out]
    go_wp2
    exact ⟨rfl, rfl, Grows.refl _, rfl⟩
  intro k1 a1 hk1 ha1
  simp only [Nat.reduceAdd] at hk1
  simp only [Act.put, List.setIfInBounds_toArray, List.set_cons_succ, List.set_cons_zero] at ha1
  subst hk1 ha1
  iterate 2
    apply Mono.is0
    · kernel_rfl
    · intro W hW
      go_wp2
      refine ⟨rfl, rfl, Grows.refl _, ?_⟩
      unfold Oper.valAt
      go_simp
      rfl
    intro k1 a1 hk1 ha1
    simp only [Nat.reduceAdd] at hk1
    simp only [Act.put, List.setIfInBounds_toArray, List.set_cons_succ, List.set_cons_zero] at ha1
    subst hk1 ha1
  refine Mono.done ?_
  intro wm hgm
  simp only [allF, List.drop_succ_cons, List.drop_zero]
  have hBm := HB.out.grows hgm
  have hc0 : wm.cell? ⟨g, b, none⟩ = some (b32 x) := by rw [← Hx.out]; exact cell32 hBm _ (by rw [sl.out]; omega)
  have hf0 := hBm.frozen b
  have hB2 := blk_set32 hBm b z
  rw [← Hst.out, Hs4.out] at hB2
  have hG2 : w.grownBy (wm.setCell ⟨g, b, none⟩ (b32 z)) (some g) := gb_set (gb_grows hG hgm) _ _
  clear HB hG hBm hgm sl
  go_wp2_with fail
  obtain ⟨w4, Hw4⟩ : ∃ W : World, Hid (W = wm.setCell ⟨g, b, none⟩ (b32 z)) := ⟨_, lib_hid rfl⟩
  rw [show (Value.int IntKind.u32 (z.toNat : Int)) = b32 z from rfl, ← Hw4.out]
  rw [← Hw4.out] at hB2 hG2
  have HB := lib_hid hB2
  have hG := hG2
  have sl := sl2
  clear hc0 hf0 hB2 hG2 sl2 Hst Hx Hy Hz Ht ht
  obtain ⟨x, Hx⟩ : ∃ x, Hid (s4.getD a 0 = x) := ⟨_, lib_hid rfl⟩
  obtain ⟨y, Hy⟩ : ∃ y, Hid (s4.getD b 0 = y) := ⟨_, lib_hid rfl⟩
  obtain ⟨z, Hz, hz⟩ : ∃ z : UInt32, Hid (x + y = z) ∧ IntKind.u32.wrap ((x.toNat : Int) + (y.toNat : Int)) = (z.toNat : Int) := ⟨_, lib_hid rfl, u32_wrap_add _ _⟩
  obtain ⟨s5, Hs5, sl2⟩ : ∃ s, Hid (addS s4 a b = s) ∧ Hid (s.length = 16) := ⟨_, lib_hid rfl, by unfold Hid; (first | rw [addS_len] | rw [xorS_len]); exact sl.out⟩
  have Hst : Hid (addS s4 a b = s4.set a z) := by unfold Hid addS; rw [Hx.out, Hy.out, Hz.out]
  apply wp_region_mono 13 ((.is _, []) :: (.is _, []) :: (.is _, []) :: (.is _, []) :: (.is _, []) :: (.is _, []) :: (.is _, []) :: (.is _, []) :: (.is _, []) :: (.is _, []) :: (.is _, []) :: (.is _, []) :: (.is _, []) :: []) (by kernel_rfl) (by kernel_rfl)
  iterate 4
    apply Mono.is0
    · kernel_rfl
    · intro W hW
      go_wp2
      refine ⟨rfl, rfl, Grows.refl _, ?_⟩
      unfold Oper.valAt
      go_simp
      rfl
    intro k1 a1 hk1 ha1
    simp only [Nat.reduceAdd] at hk1
    simp only [Act.put, List.setIfInBounds_toArray, List.set_cons_succ, List.set_cons_zero] at ha1
    subst hk1 ha1
  apply Mono.is0
  · kernel_rfl
  · intro W hW
    have hcc : W.cell? ⟨g, a, none⟩ = some (b32 x) := by rw [← Hx.out]; exact cell32 (HB.out.grows hW) _ (by rw [sl.out]; omega)
    go_wp2
    refine ⟨rfl, rfl, Grows.refl _, ?_⟩
    unfold Oper.valAt
    go_simp
    rfl
  intro k1 a1 hk1 ha1
  simp only [Nat.reduceAdd] at hk1
  simp only [Act.put, List.setIfInBounds_toArray, List.set_cons_succ, List.set_cons_zero] at ha1
  subst hk1 ha1
  iterate 4
    apply Mono.is0
    · kernel_rfl
    · intro W hW
      go_wp2
      refine ⟨rfl, rfl, Grows.refl _, ?_⟩
      unfold Oper.valAt
      go_simp
      rfl
    intro k1 a1 hk1 ha1
    simp only [Nat.reduceAdd] at hk1
    simp only [Act.put, List.setIfInBounds_toArray, List.set_cons_succ, List.set_cons_zero] at ha1
    subst hk1 ha1
  apply Mono.is0
  · kernel_rfl
  · intro W hW
    have hcc : W.cell? ⟨g, b, none⟩ = some (b32 y) := by rw [← Hy.out]; exact cell32 (HB.out.grows hW) _ (by rw [sl.out]; omega)
    go_wp2
    refine ⟨rfl, rfl, Grows.refl _, ?_⟩
    unfold Oper.valAt
    go_simp
    rfl
  intro k1 a1 hk1 ha1
  simp only [Nat.reduceAdd] at hk1
  simp only [Act.put, List.setIfInBounds_toArray, List.set_cons_succ, List.set_cons_zero] at ha1
  subst hk1 ha1
  iterate 3
    apply Mono.is0
    · kernel_rfl
    · intro W hW
      go_wp2
      refine ⟨rfl, rfl, Grows.refl _, ?_⟩
      unfold Oper.valAt
      go_simp
      rfl
    intro k1 a1 hk1 ha1
    simp only [Nat.reduceAdd] at hk1
    simp only [Act.put, List.setIfInBounds_toArray, List.set_cons_succ, List.set_cons_zero] at ha1
    subst hk1 ha1
  refine Mono.done ?_
  intro wm hgm
  simp only [allF, List.drop_succ_cons, List.drop_zero]
  have hBm := HB.out.grows hgm
  have hc0 : wm.cell? ⟨g, a, none⟩ = some (b32 x) := by rw [← Hx.out]; exact cell32 hBm _ (by rw [sl.out]; omega)
  have hf0 := hBm.frozen a
  have hB2 := blk_set32 hBm a z
  rw [← Hst.out, Hs5.out] at hB2
  have hG2 : w.grownBy (wm.setCell ⟨g, a, none⟩ (b32 z)) (some g) := gb_set (gb_grows hG hgm) _ _
  clear HB hG hBm hgm sl
  go_wp2_with fail
  obtain ⟨w5, Hw5⟩ : ∃ W : World, Hid (W = wm.setCell ⟨g, a, none⟩ (b32 z)) := ⟨_, lib_hid rfl⟩
  rw [show (Value.int IntKind.u32 (z.toNat : Int)) = b32 z from rfl, ← Hw5.out]
  rw [← Hw5.out] at hB2 hG2
  have HB := lib_hid hB2
  have hG := hG2
  have sl := sl2
  clear hc0 hf0 hB2 hG2 sl2 Hst Hx Hy Hz hz
  obtain ⟨x, Hx⟩ : ∃ x, Hid (s5.getD d 0 = x) := ⟨_, lib_hid rfl⟩
  obtain ⟨y, Hy⟩ : ∃ y, Hid (s5.getD a 0 = y) := ⟨_, lib_hid rfl⟩
  obtain ⟨t, Ht, ht⟩ : ∃ t : UInt32, Hid (x ^^^ y = t) ∧ bits .xor .u32 (x.toNat : Int) (y.toNat : Int) = (t.toNat : Int) := ⟨_, lib_hid rfl, u32_xor _ _⟩
  obtain ⟨z, Hz⟩ : ∃ z : UInt32, Hid (leftF t 8 = z) := ⟨_, lib_hid rfl⟩
  obtain ⟨s6, Hs6, sl2⟩ : ∃ s, Hid (xorS s5 d a 8 = s) ∧ Hid (s.length = 16) := ⟨_, lib_hid rfl, by unfold Hid; (first | rw [addS_len] | rw [xorS_len]); exact sl.out⟩
  have Hst : Hid (xorS s5 d a 8 = s5.set d z) := by unfold Hid xorS; rw [Hx.out, Hy.out, Ht.out, Hz.out]
  apply wp_region_mono 16 ((.is _, []) :: (.is _, []) :: (.is _, []) :: (.is _, []) :: (.is _, []) :: (.is _, []) :: (.is _, []) :: (.is _, []) :: (.is _, []) :: (.is _, []) :: (.is _, []) :: (.is _, []) :: (.is _, []) :: (.is (.int .u32 z.toNat), []) :: (.is _, []) :: (.is _, []) :: []) (by kernel_rfl) (by kernel_rfl)
  iterate 6
    apply Mono.is0
    · kernel_rfl
    · intro W hW
      go_wp2
      refine ⟨rfl, rfl, Grows.refl _, ?_⟩
      unfold Oper.valAt
      go_simp
      rfl
    intro k1 a1 hk1 ha1
    simp only [Nat.reduceAdd] at hk1
    simp only [Act.put, List.setIfInBounds_toArray, List.set_cons_succ, List.set_cons_zero] at ha1
    subst hk1 ha1
  apply Mono.is0
  · kernel_rfl
  · intro W hW
    have hcc : W.cell? ⟨g, d, none⟩ = some (b32 x) := by rw [← Hx.out]; exact cell32 (HB.out.grows hW) _ (by rw [sl.out]; omega)
    go_wp2
    refine ⟨rfl, rfl, Grows.refl _, ?_⟩
    unfold Oper.valAt
    go_simp
    rfl
  intro k1 a1 hk1 ha1
  simp only [Nat.reduceAdd] at hk1
  simp only [Act.put, List.setIfInBounds_toArray, List.set_cons_succ, List.set_cons_zero] at ha1
  subst hk1 ha1
  iterate 4
    apply Mono.is0
    · kernel_rfl
    · intro W hW
      go_wp2
      refine ⟨rfl, rfl, Grows.refl _, ?_⟩
      unfold Oper.valAt
      go_simp
      rfl
    intro k1 a1 hk1 ha1
    simp only [Nat.reduceAdd] at hk1
    simp only [Act.put, List.setIfInBounds_toArray, List.set_cons_succ, List.set_cons_zero] at ha1
    subst hk1 ha1
  apply Mono.is0
  · kernel_rfl
  · intro W hW
    have hcc : W.cell? ⟨g, a, none⟩ = some (b32 y) := by rw [← Hy.out]; exact cell32 (HB.out.grows hW) _ (by rw [sl.out]; omega)
    go_wp2
    refine ⟨rfl, rfl, Grows.refl _, ?_⟩
    unfold Oper.valAt
    go_simp
    rfl
  intro k1 a1 hk1 ha1
  simp only [Nat.reduceAdd] at hk1
  simp only [Act.put, List.setIfInBounds_toArray, List.set_cons_succ, List.set_cons_zero] at ha1
  subst hk1 ha1
  apply Mono.is0
  · kernel_rfl
  · intro W hW
    go_wp2
    refine ⟨rfl, rfl, Grows.refl _, ?_⟩
    unfold Oper.valAt
    go_simp
    rfl
  intro k1 a1 hk1 ha1
  simp only [Nat.reduceAdd] at hk1
  simp only [Act.put, List.setIfInBounds_toArray, List.set_cons_succ, List.set_cons_zero] at ha1
  subst hk1 ha1
  apply Mono.is0
  · kernel_rfl
  · intro W hW 
    go_wp2_with fail
    refine (refLeft_any t 8 W).mono ?_
    rintro e w1 ⟨rfl, rfl⟩
    rw [Hz.out]
    go_wp2
    exact ⟨rfl, rfl, Grows.refl _, rfl⟩
  intro k1 a1 hk1 ha1
  simp only [Nat.reduceAdd] at hk1
  simp only [Act.put, List.setIfInBounds_toArray, List.set_cons_succ, List.set_cons_zero] at ha1
  subst hk1 ha1
  iterate 2
    apply Mono.is0
    · kernel_rfl
    · intro W hW
      go_wp2
      refine ⟨rfl, rfl, Grows.refl _, ?_⟩
      unfold Oper.valAt
      go_simp
      rfl
    intro k1 a1 hk1 ha1
    simp only [Nat.reduceAdd] at hk1
    simp only [Act.put, List.setIfInBounds_toArray, List.set_cons_succ, List.set_cons_zero] at ha1
    subst hk1 ha1
  refine Mono.done ?_
  intro wm hgm
  simp only [allF, List.drop_succ_cons, List.drop_zero]
  have hBm := HB.out.grows hgm
  have hc0 : wm.cell? ⟨g, d, none⟩ = some (b32 x) := by rw [← Hx.out]; exact cell32 hBm _ (by rw [sl.out]; omega)
  have hf0 := hBm.frozen d
  have hB2 := blk_set32 hBm d z
  rw [← Hst.out, Hs6.out] at hB2
  have hG2 : w.grownBy (wm.setCell ⟨g, d, none⟩ (b32 z)) (some g) := gb_set (gb_grows hG hgm) _ _
  clear HB hG hBm hgm sl
  go_wp2_with fail
  obtain ⟨w6, Hw6⟩ : ∃ W : World, Hid (W = wm.setCell ⟨g, d, none⟩ (b32 z)) := ⟨_, lib_hid rfl⟩
  rw [show (Value.int IntKind.u32 (z.toNat : Int)) = b32 z from rfl, ← Hw6.out]
  rw [← Hw6.out] at hB2 hG2
  have HB := lib_hid hB2
  have hG := hG2
  have sl := sl2
  clear hc0 hf0 hB2 hG2 sl2 Hst Hx Hy Hz Ht ht
  obtain ⟨x, Hx⟩ : ∃ x, Hid (s6.getD c 0 = x) := ⟨_, lib_hid rfl⟩
  obtain ⟨y, Hy⟩ : ∃ y, Hid (s6.getD d 0 = y) := ⟨_, lib_hid rfl⟩
  obtain ⟨z, Hz, hz⟩ : ∃ z : UInt32, Hid (x + y = z) ∧ IntKind.u32.wrap ((x.toNat : Int) + (y.toNat : Int)) = (z.toNat : Int) := ⟨_, lib_hid rfl, u32_wrap_add _ _⟩
  obtain ⟨s7, Hs7, sl2⟩ : ∃ s, Hid (addS s6 c d = s) ∧ Hid (s.length = 16) := ⟨_, lib_hid rfl, by unfold Hid; (first | rw [addS_len] | rw [xorS_len]); exact sl.out⟩
  have Hst : Hid (addS s6 c d = s6.set c z) := by unfold Hid addS; rw [Hx.out, Hy.out, Hz.out]
  apply wp_region_mono 13 ((.is _, []) :: (.is _, []) :: (.is _, []) :: (.is _, []) :: (.is _, []) :: (.is _, []) :: (.is _, []) :: (.is _, []) :: (.is _, []) :: (.is _, []) :: (.is _, []) :: (.is _, []) :: (.is _, []) :: []) (by kernel_rfl) (by kernel_rfl)
  iterate 4
    apply Mono.is0
    · kernel_rfl
    · intro W hW
      go_wp2
      refine ⟨rfl, rfl, Grows.refl _, ?_⟩
      unfold Oper.valAt
      go_simp
      rfl
    intro k1 a1 hk1 ha1
    simp only [Nat.reduceAdd] at hk1
    simp only [Act.put, List.setIfInBounds_toArray, List.set_cons_succ, List.set_cons_zero] at ha1
    subst hk1 ha1
  apply Mono.is0
  · kernel_rfl
  · intro W hW
    have hcc : W.cell? ⟨g, c, none⟩ = some (b32 x) := by rw [← Hx.out]; exact cell32 (HB.out.grows hW) _ (by rw [sl.out]; omega)
    go_wp2
    refine ⟨rfl, rfl, Grows.refl _, ?_⟩
    unfold Oper.valAt
    go_simp
    rfl
  intro k1 a1 hk1 ha1
  simp only [Nat.reduceAdd] at hk1
  simp only [Act.put, List.setIfInBounds_toArray, List.set_cons_succ, List.set_cons_zero] at ha1
  subst hk1 ha1
  iterate 4
    apply Mono.is0
    · kernel_rfl
    · intro W hW
      go_wp2
      refine ⟨rfl, rfl, Grows.refl _, ?_⟩
      unfold Oper.valAt
      go_simp
      rfl
    intro k1 a1 hk1 ha1
    simp only [Nat.reduceAdd] at hk1
    simp only [Act.put, List.setIfInBounds_toArray, List.set_cons_succ, List.set_cons_zero] at ha1
    subst hk1 ha1
  apply Mono.is0
  · kernel_rfl
  · intro W hW
    have hcc : W.cell? ⟨g, d, none⟩ = some (b32 y) := by rw [← Hy.out]; exact cell32 (HB.out.grows hW) _ (by rw [sl.out]; omega)
    go_wp2
    refine ⟨rfl, rfl, Grows.refl _, ?_⟩
    unfold Oper.valAt
    go_simp
    rfl
  intro k1 a1 hk1 ha1
  simp only [Nat.reduceAdd] at hk1
  simp only [Act.put, List.setIfInBounds_toArray, List.set_cons_succ, List.set_cons_zero] at ha1
  subst hk1 ha1
  iterate 3
    apply Mono.is0
    · kernel_rfl
    · intro W hW
      go_wp2
      refine ⟨rfl, rfl, Grows.refl _, ?_⟩
      unfold Oper.valAt
      go_simp
      rfl
    intro k1 a1 hk1 ha1
    simp only [Nat.reduceAdd] at hk1
    simp only [Act.put, List.setIfInBounds_toArray, List.set_cons_succ, List.set_cons_zero] at ha1
    subst hk1 ha1
  refine Mono.done ?_
  intro wm hgm
  simp only [allF, List.drop_succ_cons, List.drop_zero]
  have hBm := HB.out.grows hgm
  have hc0 : wm.cell? ⟨g, c, none⟩ = some (b32 x) := by rw [← Hx.out]; exact cell32 hBm _ (by rw [sl.out]; omega)
  have hf0 := hBm.frozen c
  have hB2 := blk_set32 hBm c z
  rw [← Hst.out, Hs7.out] at hB2
  have hG2 : w.grownBy (wm.setCell ⟨g, c, none⟩ (b32 z)) (some g) := gb_set (gb_grows hG hgm) _ _
  clear HB hG hBm hgm sl
  go_wp2_with fail
  obtain ⟨w7, Hw7⟩ : ∃ W : World, Hid (W = wm.setCell ⟨g, c, none⟩ (b32 z)) := ⟨_, lib_hid rfl⟩
  rw [show (Value.int IntKind.u32 (z.toNat : Int)) = b32 z from rfl, ← Hw7.out]
  rw [← Hw7.out] at hB2 hG2
  have HB := lib_hid hB2
  have hG := hG2
  have sl := sl2
  clear hc0 hf0 hB2 hG2 sl2 Hst Hx Hy Hz hz
  obtain ⟨x, Hx⟩ : ∃ x, Hid (s7.getD b 0 = x) := ⟨_, lib_hid rfl⟩
  obtain ⟨y, Hy⟩ : ∃ y, Hid (s7.getD c 0 = y) := ⟨_, lib_hid rfl⟩
  obtain ⟨t, Ht, ht⟩ : ∃ t : UInt32, Hid (x ^^^ y = t) ∧ bits .xor .u32 (x.toNat : Int) (y.toNat : Int) = (t.toNat : Int) := ⟨_, lib_hid rfl, u32_xor _ _⟩
  obtain ⟨z, Hz⟩ : ∃ z : UInt32, Hid (leftF t 7 = z) := ⟨_, lib_hid rfl⟩
  obtain ⟨s8, Hs8, sl2⟩ : ∃ s, Hid (xorS s7 b c 7 = s) ∧ Hid (s.length = 16) := ⟨_, lib_hid rfl, by unfold Hid; (first | rw [addS_len] | rw [xorS_len]); exact sl.out⟩
  have Hst : Hid (xorS s7 b c 7 = s7.set b z) := by unfold Hid xorS; rw [Hx.out, Hy.out, Ht.out, Hz.out]
  apply wp_region_mono 16 ((.is _, []) :: (.is _, []) :: (.is _, []) :: (.is _, []) :: (.is _, []) :: (.is _, []) :: (.is _, []) :: (.is _, []) :: (.is _, []) :: (.is _, []) :: (.is _, []) :: (.is _, []) :: (.is _, []) :: (.is (.int .u32 z.toNat), []) :: (.is _, []) :: (.is _, []) :: []) (by kernel_rfl) (by kernel_rfl)
  iterate 6
    apply Mono.is0
    · kernel_rfl
    · intro W hW
      go_wp2
      refine ⟨rfl, rfl, Grows.refl _, ?_⟩
      unfold Oper.valAt
      go_simp
      rfl
    intro k1 a1 hk1 ha1
    simp only [Nat.reduceAdd] at hk1
    simp only [Act.put, List.setIfInBounds_toArray, List.set_cons_succ, List.set_cons_zero] at ha1
    subst hk1 ha1
  apply Mono.is0
  · kernel_rfl
  · intro W hW
    have hcc : W.cell? ⟨g, b, none⟩ = some (b32 x) := by rw [← Hx.out]; exact cell32 (HB.out.grows hW) _ (by rw [sl.out]; omega)
    go_wp2
    refine ⟨rfl, rfl, Grows.refl _, ?_⟩
    unfold Oper.valAt
    go_simp
    rfl
  intro k1 a1 hk1 ha1
  simp only [Nat.reduceAdd] at hk1
  simp only [Act.put, List.setIfInBounds_toArray, List.set_cons_succ, List.set_cons_zero] at ha1
  subst hk1 ha1
  iterate 4
    apply Mono.is0
    · kernel_rfl
    · intro W hW
      go_wp2
      refine ⟨rfl, rfl, Grows.refl _, ?_⟩
      unfold Oper.valAt
      go_simp
      rfl
    intro k1 a1 hk1 ha1
    simp only [Nat.reduceAdd] at hk1
    simp only [Act.put, List.setIfInBounds_toArray, List.set_cons_succ, List.set_cons_zero] at ha1
    subst hk1 ha1
  apply Mono.is0
  · kernel_rfl
  · intro W hW
    have hcc : W.cell? ⟨g, c, none⟩ = some (b32 y) := by rw [← Hy.out]; exact cell32 (HB.out.grows hW) _ (by rw [sl.out]; omega)
    go_wp2
    refine ⟨rfl, rfl, Grows.refl _, ?_⟩
    unfold Oper.valAt
    go_simp
    rfl
  intro k1 a1 hk1 ha1
  simp only [Nat.reduceAdd] at hk1
  simp only [Act.put, List.setIfInBounds_toArray, List.set_cons_succ, List.set_cons_zero] at ha1
  subst hk1 ha1
  apply Mono.is0
  · kernel_rfl
  · intro W hW
    go_wp2
    refine ⟨rfl, rfl, Grows.refl _, ?_⟩
    unfold Oper.valAt
    go_simp
    rfl
  intro k1 a1 hk1 ha1
  simp only [Nat.reduceAdd] at hk1
  simp only [Act.put, List.setIfInBounds_toArray, List.set_cons_succ, List.set_cons_zero] at ha1
  subst hk1 ha1
  apply Mono.is0
  · kernel_rfl
  · intro W hW 
    go_wp2_with fail
    refine (refLeft_any t 7 W).mono ?_
    rintro e w1 ⟨rfl, rfl⟩
    rw [Hz.out]
    go_wp2
    exact ⟨rfl, rfl, Grows.refl _, rfl⟩
  intro k1 a1 hk1 ha1
  simp only [Nat.reduceAdd] at hk1
  simp only [Act.put, List.setIfInBounds_toArray, List.set_cons_succ, List.set_cons_zero] at ha1
  subst hk1 ha1
  iterate 2
    apply Mono.is0
    · kernel_rfl
    · intro W hW
      go_wp2
      refine ⟨rfl, rfl, Grows.refl _, ?_⟩
      unfold Oper.valAt
      go_simp
      rfl
    intro k1 a1 hk1 ha1
    simp only [Nat.reduceAdd] at hk1
    simp only [Act.put, List.setIfInBounds_toArray, List.set_cons_succ, List.set_cons_zero] at ha1
    subst hk1 ha1
  refine Mono.done ?_
  intro wm hgm
  simp only [allF, List.drop_succ_cons, List.drop_zero]
  have hBm := HB.out.grows hgm
  have hc0 : wm.cell? ⟨g, b, none⟩ = some (b32 x) := by rw [← Hx.out]; exact cell32 hBm _ (by rw [sl.out]; omega)
  have hf0 := hBm.frozen b
  have hB2 := blk_set32 hBm b z
  rw [← Hst.out, Hs8.out] at hB2
  have hG2 : w.grownBy (wm.setCell ⟨g, b, none⟩ (b32 z)) (some g) := gb_set (gb_grows hG hgm) _ _
  clear HB hG hBm hgm sl
  go_wp2_with fail
  obtain ⟨w8, Hw8⟩ : ∃ W : World, Hid (W = wm.setCell ⟨g, b, none⟩ (b32 z)) := ⟨_, lib_hid rfl⟩
  rw [show (Value.int IntKind.u32 (z.toNat : Int)) = b32 z from rfl, ← Hw8.out]
  rw [← Hw8.out] at hB2 hG2
  have HB := lib_hid hB2
  have hG := hG2
  have sl := sl2
  clear hc0 hf0 hB2 hG2 sl2 Hst Hx Hy Hz Ht ht
  go_end0
  refine ⟨rfl, hG, ?_⟩
  have := HB.out
  rw [← Hs8.out, ← Hs7.out, ← Hs6.out, ← Hs5.out, ← Hs4.out, ← Hs3.out, ← Hs2.out, ← Hs1.out] at this
  exact this

end Go.Proofs.Ytgolndfimhogoaa
