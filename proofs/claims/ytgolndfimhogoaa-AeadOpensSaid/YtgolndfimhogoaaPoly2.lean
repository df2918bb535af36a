/-
  The walk of poly.multiply.
-/
import Derived.Test.YtgolndfimhogoaaPoly1
import Derived.Deep.Cut
import Derived.BigRegion
import Derived.RegionTactic
import Derived.ChangeAlike
namespace Go.Proofs.Ytgolndfimhogoaa
open Go Go.RowKit
set_option linter.unusedSimpArgs false


structure Limbs where
  (x0 x1 x2 x3 : UInt64)
def mulT (r0 r1 h0 h1 h2 : UInt64) : Limbs :=
  let b0 := h1 * r0 + h0 * r1
  let b1 := mulH h1 r0 + mulH h0 r1 + adC (h1 * r0) (h0 * r1) 0
  let c0 := h2 * r0 + h1 * r1
  let c1 := mulH h2 r0 + mulH h1 r1 + adC (h2 * r0) (h1 * r1) 0
  let k1 := adC b0 (mulH h0 r0) 0
  let k2 := adC c0 b1 k1
  ⟨h0 * r0, b0 + mulH h0 r0, c0 + b1 + k1, h2 * r1 + c1 + k2⟩
structure Lim3 where
  (x y z : UInt64)
def addH (h : Lim3) (l hh hi : UInt64) : Lim3 := ⟨ad0 h.x l, ad1 h.x h.y l hh, ad2 h.x h.y h.z l hh hi⟩
def multF (r0 r1 : UInt64) (h : Lim3) : Lim3 :=
  let t := mulT r0 r1 h.x h.y h.z
  addH (addH ⟨t.x0, t.x1, t.x2 &&& 3⟩ (t.x2 &&& ~~~ 3) t.x3 0) (((t.x2 &&& ~~~ 3) >>> 2) ||| (t.x3 <<< 62)) (t.x3 >>> 2) 0
theorem add_any0 (g : Nat) (r0 r1 s0 s1 h0 h1 h2 : UInt64) (v : Value) (l hh : UInt64) (w : World) (hB0 : Blk w g 71 (PB r0 r1 s0 s1 h0 h1 h2 v)) :
    Calls Try.prog 39 #[.pointer (some ⟨g, 0, none⟩), pV l hh, .int .u64 0] w fun e w' => e = .returned (.tuple #[]) ∧ w.grownBy w' (some g) ∧ Blk w' g 71 (PB r0 r1 s0 s1 (ad0 h0 l) (ad1 h0 h1 l hh) (ad2 h0 h1 h2 l hh 0) v) :=
  add_any g r0 r1 s0 s1 h0 h1 h2 v l hh 0 w hB0
theorem shr2q (a : UInt64) : (a.toNat : Int) / (4 : Int) = ((a >>> 2).toNat : Int) := by
  have := u64_shr a 2 (by omega)
  simpa using this
theorem shl62q (a : UInt64) : IntKind.u64.wrap ((a.toNat : Int) * 4611686018427387904) = ((a <<< 62).toNat : Int) := by
  have := u64_shl a 62 (by omega)
  simpa using this
theorem Try.size3q : (Try.prog.info? 69).map (·.size) = some 3 := by kernel_rfl
theorem Try.size4q : (Try.prog.info? 88).map (·.size) = some 4 := by kernel_rfl

set_option maxRecDepth 100000 in
set_option maxHeartbeats 4000000 in
theorem multiply_any (g : Nat) (r0 r1 s0 s1 h0 h1 h2 : UInt64) (v : Value) (w : World) (hB0 : Blk w g 71 (PB r0 r1 s0 s1 h0 h1 h2 v)) :
    Calls Try.prog 40 #[.pointer (some ⟨g, 0, none⟩)] w fun e w' => e = .returned (.tuple #[]) ∧ w.grownBy w' (some g) ∧ Blk w' g 71 (PB r0 r1 s0 s1 (multF r0 r1 ⟨h0, h1, h2⟩).x (multF r0 r1 ⟨h0, h1, h2⟩).y (multF r0 r1 ⟨h0, h1, h2⟩).z v) := by
  have hlt := hB0.lt
  have hB1 := hB0
  have e0 : w.cell? ⟨g, 0, none⟩ = some (.int .u64 r0.toNat) := hB1.cell 0
  have e1 : w.cell? ⟨g, 1, none⟩ = some (.int .u64 r1.toNat) := hB1.cell 1
  have e4 : w.cell? ⟨g, 4, none⟩ = some (.int .u64 h0.toNat) := hB1.cell 4
  have e5 : w.cell? ⟨g, 5, none⟩ = some (.int .u64 h1.toNat) := hB1.cell 5
  have e6 : w.cell? ⟨g, 6, none⟩ = some (.int .u64 h2.toNat) := hB1.cell 6
  have HB0 := lib_hid hB0
  obtain ⟨a0, Ha0⟩ : ∃ x, Hid (h0 * r0 = x) := ⟨_, lib_hid rfl⟩
  obtain ⟨a1, Ha1⟩ : ∃ x, Hid (mulH h0 r0 = x) := ⟨_, lib_hid rfl⟩
  obtain ⟨x0, Hx0⟩ : ∃ x, Hid (h1 * r0 = x) := ⟨_, lib_hid rfl⟩
  obtain ⟨x1, Hx1⟩ : ∃ x, Hid (mulH h1 r0 = x) := ⟨_, lib_hid rfl⟩
  obtain ⟨y0, Hy0⟩ : ∃ x, Hid (h0 * r1 = x) := ⟨_, lib_hid rfl⟩
  obtain ⟨y1, Hy1⟩ : ∃ x, Hid (mulH h0 r1 = x) := ⟨_, lib_hid rfl⟩
  obtain ⟨b0, Hb0⟩ : ∃ x, Hid (x0 + y0 = x) := ⟨_, lib_hid rfl⟩
  obtain ⟨b1, Hb1⟩ : ∃ x, Hid (x1 + y1 + adC x0 y0 0 = x) := ⟨_, lib_hid rfl⟩
  obtain ⟨z0, Hz0⟩ : ∃ x, Hid (h2 * r0 = x) := ⟨_, lib_hid rfl⟩
  obtain ⟨z1, Hz1⟩ : ∃ x, Hid (mulH h2 r0 = x) := ⟨_, lib_hid rfl⟩
  obtain ⟨u0, Hu0⟩ : ∃ x, Hid (h1 * r1 = x) := ⟨_, lib_hid rfl⟩
  obtain ⟨u1, Hu1⟩ : ∃ x, Hid (mulH h1 r1 = x) := ⟨_, lib_hid rfl⟩
  obtain ⟨c0, Hc0⟩ : ∃ x, Hid (z0 + u0 = x) := ⟨_, lib_hid rfl⟩
  obtain ⟨c1, Hc1⟩ : ∃ x, Hid (z1 + u1 + adC z0 u0 0 = x) := ⟨_, lib_hid rfl⟩
  obtain ⟨d0, Hd0⟩ : ∃ x, Hid (h2 * r1 = x) := ⟨_, lib_hid rfl⟩
  obtain ⟨d1, Hd1⟩ : ∃ x, Hid (mulH h2 r1 = x) := ⟨_, lib_hid rfl⟩
  obtain ⟨t1, Ht1⟩ : ∃ x, Hid (b0 + a1 = x) := ⟨_, lib_hid rfl⟩
  obtain ⟨k1, Hk1⟩ : ∃ x, Hid (adC b0 a1 0 = x) := ⟨_, lib_hid rfl⟩
  obtain ⟨t2, Ht2⟩ : ∃ x, Hid (c0 + b1 + k1 = x) := ⟨_, lib_hid rfl⟩
  obtain ⟨k2, Hk2⟩ : ∃ x, Hid (adC c0 b1 k1 = x) := ⟨_, lib_hid rfl⟩
  obtain ⟨t3, Ht3⟩ : ∃ x, Hid (d0 + c1 + k2 = x) := ⟨_, lib_hid rfl⟩
  obtain ⟨p2, Hp2⟩ : ∃ x, Hid (t2 &&& 3 = x) := ⟨_, lib_hid rfl⟩
  obtain ⟨m2, Hm2⟩ : ∃ x, Hid (t2 &&& 3 = x) := ⟨_, lib_hid rfl⟩
  obtain ⟨n2, Hn2⟩ : ∃ x, Hid (t2 &&& ~~~ 3 = x) := ⟨_, lib_hid rfl⟩
  have Hm : Hid (bits .and .u64 (t2.toNat : Int) 3 = (m2.toNat : Int)) := by rw [← Hm2.out]; exact u64_and t2 3
  have Hn : Hid (bits .andNot .u64 (t2.toNat : Int) 3 = (n2.toNat : Int)) := by rw [← Hn2.out]; exact u64_andNot t2 3
  obtain ⟨q1, Hq1⟩ : ∃ x, Hid (n2 >>> 2 = x) := ⟨_, lib_hid rfl⟩
  obtain ⟨q2, Hq2⟩ : ∃ x, Hid (t3 <<< 62 = x) := ⟨_, lib_hid rfl⟩
  obtain ⟨o1, Ho1⟩ : ∃ x, Hid (q1 ||| q2 = x) := ⟨_, lib_hid rfl⟩
  obtain ⟨p1, Hp1⟩ : ∃ x, Hid (t3 >>> 2 = x) := ⟨_, lib_hid rfl⟩
  have Hz1' : Hid ((n2.toNat : Int) / 4 = (q1.toNat : Int)) := by unfold Hid; rw [← Hq1.out]; exact shr2q _
  have Hz2' : Hid (IntKind.u64.wrap ((t3.toNat : Int) * 4611686018427387904) = (q2.toNat : Int)) := by unfold Hid; rw [← Hq2.out]; exact shl62q _
  have Hz3' : Hid (bits .or .u64 (q1.toNat : Int) (q2.toNat : Int) = (o1.toNat : Int)) := by unfold Hid; rw [← Ho1.out]; exact u64_or _ _
  have Hz4' : Hid ((t3.toNat : Int) / 4 = (p1.toNat : Int)) := by unfold Hid; rw [← Hp1.out]; exact shr2q _
  obtain ⟨i0, Hi0⟩ : ∃ x, Hid (ad0 a0 n2 = x) := ⟨_, lib_hid rfl⟩
  obtain ⟨i1, Hi1⟩ : ∃ x, Hid (ad1 a0 t1 n2 t3 = x) := ⟨_, lib_hid rfl⟩
  obtain ⟨i2, Hi2⟩ : ∃ x, Hid (ad2 a0 t1 m2 n2 t3 0 = x) := ⟨_, lib_hid rfl⟩
  have Hfin : Hid (multF r0 r1 ⟨h0, h1, h2⟩ = ⟨ad0 i0 o1, ad1 i0 i1 o1 p1, ad2 i0 i1 i2 o1 p1 0⟩) := by
    unfold Hid multF mulT addH
    simp only [Ha0.out, Ha1.out, Hx0.out, Hx1.out, Hy0.out, Hy1.out, Hb0.out, Hb1.out, Hz0.out, Hz1.out, Hu0.out, Hu1.out, Hc0.out, Hc1.out, Hd0.out, Hd1.out, Ht1.out, Hk1.out, Ht2.out, Hk2.out, Ht3.out, Hm2.out, Hn2.out, Hq1.out, Hq2.out, Ho1.out, Hp1.out, Hi0.out, Hi1.out, Hi2.out]
  have Hadd1 : Hid (∀ w, Sem.run Try.prog (callFunc 53 #[.int .u64 b0.toNat, .int .u64 a1.toNat, .int .u64 0]) w = .ok (.value (.tuple #[.int .u64 t1.toNat, .int .u64 k1.toNat])) w) := by
    rw [← Ht1.out, ← Hk1.out]; exact add64_run0 _ _
  have Hadd2 : Hid (∀ w, Sem.run Try.prog (callFunc 53 #[.int .u64 c0.toNat, .int .u64 b1.toNat, .int .u64 k1.toNat]) w = .ok (.value (.tuple #[.int .u64 t2.toNat, .int .u64 k2.toNat])) w) := by
    rw [← Ht2.out, ← Hk2.out]; exact add64_run _ _ _ (by rw [← Hk1.out]; exact adC_le _ _ _ (by decide))
  obtain ⟨k3, Hadd3⟩ : ∃ k3 : UInt64, Hid (∀ w, Sem.run Try.prog (callFunc 53 #[.int .u64 d0.toNat, .int .u64 c1.toNat, .int .u64 k2.toNat]) w = .ok (.value (.tuple #[.int .u64 t3.toNat, .int .u64 k3.toNat])) w) := by
    rw [← Ht3.out]; exact ⟨_, add64_run _ _ _ (by rw [← Hk2.out]; exact adC_le _ _ _ (by rw [← Hk1.out]; exact adC_le _ _ _ (by decide)))⟩
  clear hB0 hB1
  go_enter Try.func40, Try.ntmps40
  go_wp2
  go_region
  all_goals go_upto_region 1 with fail
  all_goals clear e0 e1 e4 e5 e6
  · obtain ⟨W1, HW1⟩ : ∃ W : World, Hid (W = ((w.alloc (.cells #[.int .u64 h0.toNat, .int .u64 h1.toNat, .int .u64 h2.toNat] 69)).alloc (.cells #[.int .u64 r0.toNat, .int .u64 r1.toNat] 67)).drew) := ⟨_, lib_hid rfl⟩
    obtain ⟨gr, Hgr⟩ : ∃ x, Hid (w.heap.size + 1 = x) := ⟨_, lib_hid rfl⟩
    obtain ⟨gh, Hgh⟩ : ∃ x, Hid (w.heap.size = x) := ⟨_, lib_hid rfl⟩
    rw [← HW1.out, Hgr.out, Hgh.out]
    have HH : Hid (Blk W1 gh 69 #[.int .u64 h0.toNat, .int .u64 h1.toNat, .int .u64 h2.toNat]) := by unfold Hid; rw [HW1.out, ← Hgh.out]; exact (Blk.new _ _ _).alloc _
    have HR : Hid (Blk W1 gr 67 #[.int .u64 r0.toNat, .int .u64 r1.toNat]) := by
      unfold Hid; rw [HW1.out, ← Hgr.out]; have := Blk.new (w.alloc (.cells #[.int .u64 h0.toNat, .int .u64 h1.toNat, .int .u64 h2.toNat] 69)) 67 #[.int .u64 r0.toNat, .int .u64 r1.toNat]; simpa using this.drew
    have hgw : Grows w W1 := by rw [HW1.out]; exact (((Grows.refl w).alloc _).alloc _).drew
    have HB := lib_hid (HB0.out.grows hgw)
    have q0 : W1.cell? ⟨gh, 0, none⟩ = some (.int .u64 h0.toNat) := HH.out.cell 0
    have q1 : W1.cell? ⟨gr, 0, none⟩ = some (.int .u64 r0.toNat) := HR.out.cell 0
    go_wp2_with fail
    refine (times_any h0 r0 W1).mono ?_
    rintro e w2 ⟨rfl, hg2⟩
    rw [Ha0.out, Ha1.out]
    clear q0 q1
    go_upto_region 2 with fail
    obtain ⟨g4, Hg4⟩ : ∃ x, Hid (w2.heap.size = x) := ⟨_, lib_hid rfl⟩
    obtain ⟨W2, HW2⟩ : ∃ W : World, Hid (W = w2.alloc (.cells #[.int .u64 a0.toNat, .int .u64 a1.toNat] 67)) := ⟨_, lib_hid rfl⟩
    rw [← HW2.out, Hg4.out]
    have H4 : Hid (Blk W2 g4 67 #[.int .u64 a0.toNat, .int .u64 a1.toNat]) := by unfold Hid; rw [HW2.out, ← Hg4.out]; exact Blk.new _ _ _
    have hgx : Grows W1 W2 := by rw [HW2.out]; exact hg2.alloc _
    have hgwn := hgw.trans hgx
    clear hgw
    have hgw := hgwn
    have HHn := lib_hid (HH.out.grows hgx)
    have HRn := lib_hid (HR.out.grows hgx)
    have HBn := lib_hid (HB.out.grows hgx)
    clear HH HR HB hgwn hgx hg2
    have HH := HHn
    have HR := HRn
    have HB := HBn
    clear HHn HRn HBn
    apply wp_region_mono 12 ((.is _, []) :: (.is _, []) :: (.is _, []) :: (.is _, []) :: (.is (pV x0 x1), []) :: (.is _, []) :: (.is _, []) :: (.is _, []) :: (.is _, []) :: (.is (pV y0 y1), []) :: (.is (pV b0 b1), []) :: (.pr (fun v W => ∃ b, v = .pointer (some ⟨b, 0, none⟩) ∧ W2.heap.size ≤ b ∧ Blk W b 67 #[.int .u64 0, .int .u64 0]), []) :: []) (by kernel_rfl) (by kernel_rfl)
    apply Mono.is0
    · kernel_rfl
    · intro W hW
      go_wp2
      refine ⟨rfl, rfl, Grows.refl _, ?_⟩
      unfold Oper.valAt
      go_simp
      rfl
    intro k1 a1 hk1 ha1
    simp only [Nat.reduceAdd] at hk1
    simp only [Act.put, List.setIfInBounds_toArray, List.set_cons_succ, List.set_cons_zero] at ha1
    subst hk1 ha1
    apply Mono.is0
    · kernel_rfl
    · intro W hW
      have hcc : W.cell? ⟨gh, 1, none⟩ = some (.int .u64 h1.toNat) := (HH.out.grows hW).cell 1
      go_wp2
      refine ⟨rfl, rfl, Grows.refl _, ?_⟩
      unfold Oper.valAt
      go_simp
      rfl
    intro k1 a1 hk1 ha1
    simp only [Nat.reduceAdd] at hk1
    simp only [Act.put, List.setIfInBounds_toArray, List.set_cons_succ, List.set_cons_zero] at ha1
    subst hk1 ha1
    apply Mono.is0
    · kernel_rfl
    · intro W hW
      go_wp2
      refine ⟨rfl, rfl, Grows.refl _, ?_⟩
      unfold Oper.valAt
      go_simp
      rfl
    intro k1 a1 hk1 ha1
    simp only [Nat.reduceAdd] at hk1
    simp only [Act.put, List.setIfInBounds_toArray, List.set_cons_succ, List.set_cons_zero] at ha1
    subst hk1 ha1
    apply Mono.is0
    · kernel_rfl
    · intro W hW
      have hcc : W.cell? ⟨gr, 0, none⟩ = some (.int .u64 r0.toNat) := (HR.out.grows hW).cell 0
      go_wp2
      refine ⟨rfl, rfl, Grows.refl _, ?_⟩
      unfold Oper.valAt
      go_simp
      rfl
    intro k1 a1 hk1 ha1
    simp only [Nat.reduceAdd] at hk1
    simp only [Act.put, List.setIfInBounds_toArray, List.set_cons_succ, List.set_cons_zero] at ha1
    subst hk1 ha1
    apply Mono.is0
    · kernel_rfl
    · intro W hW 
      go_wp2_with fail
      refine (times_any h1 r0 W).mono ?_
      rintro e w1 ⟨rfl, hg1⟩
      rw [Hx0.out, Hx1.out]
      go_wp2
      exact ⟨rfl, rfl, hg1, rfl⟩
    intro k1 a1 hk1 ha1
    simp only [Nat.reduceAdd] at hk1
    simp only [Act.put, List.setIfInBounds_toArray, List.set_cons_succ, List.set_cons_zero] at ha1
    subst hk1 ha1
    apply Mono.is0
    · kernel_rfl
    · intro W hW
      go_wp2
      refine ⟨rfl, rfl, Grows.refl _, ?_⟩
      unfold Oper.valAt
      go_simp
      rfl
    intro k1 a1 hk1 ha1
    simp only [Nat.reduceAdd] at hk1
    simp only [Act.put, List.setIfInBounds_toArray, List.set_cons_succ, List.set_cons_zero] at ha1
    subst hk1 ha1
    apply Mono.is0
    · kernel_rfl
    · intro W hW
      have hcc : W.cell? ⟨gh, 0, none⟩ = some (.int .u64 h0.toNat) := (HH.out.grows hW).cell 0
      go_wp2
      refine ⟨rfl, rfl, Grows.refl _, ?_⟩
      unfold Oper.valAt
      go_simp
      rfl
    intro k1 a1 hk1 ha1
    simp only [Nat.reduceAdd] at hk1
    simp only [Act.put, List.setIfInBounds_toArray, List.set_cons_succ, List.set_cons_zero] at ha1
    subst hk1 ha1
    apply Mono.is0
    · kernel_rfl
    · intro W hW
      go_wp2
      refine ⟨rfl, rfl, Grows.refl _, ?_⟩
      unfold Oper.valAt
      go_simp
      rfl
    intro k1 a1 hk1 ha1
    simp only [Nat.reduceAdd] at hk1
    simp only [Act.put, List.setIfInBounds_toArray, List.set_cons_succ, List.set_cons_zero] at ha1
    subst hk1 ha1
    apply Mono.is0
    · kernel_rfl
    · intro W hW
      have hcc : W.cell? ⟨gr, 1, none⟩ = some (.int .u64 r1.toNat) := (HR.out.grows hW).cell 1
      go_wp2
      refine ⟨rfl, rfl, Grows.refl _, ?_⟩
      unfold Oper.valAt
      go_simp
      rfl
    intro k1 a1 hk1 ha1
    simp only [Nat.reduceAdd] at hk1
    simp only [Act.put, List.setIfInBounds_toArray, List.set_cons_succ, List.set_cons_zero] at ha1
    subst hk1 ha1
    apply Mono.is0
    · kernel_rfl
    · intro W hW 
      go_wp2_with fail
      refine (times_any h0 r1 W).mono ?_
      rintro e w1 ⟨rfl, hg1⟩
      rw [Hy0.out, Hy1.out]
      go_wp2
      exact ⟨rfl, rfl, hg1, rfl⟩
    intro k1 a1 hk1 ha1
    simp only [Nat.reduceAdd] at hk1
    simp only [Act.put, List.setIfInBounds_toArray, List.set_cons_succ, List.set_cons_zero] at ha1
    subst hk1 ha1
    apply Mono.is0
    · kernel_rfl
    · intro W hW 
      go_wp2_with fail
      refine (plus_any x0 x1 y0 y1 W).mono ?_
      rintro e w1 ⟨rfl, hg1⟩
      rw [Hb0.out, Hb1.out]
      go_wp2
      exact ⟨rfl, rfl, hg1, rfl⟩
    intro k1 a1 hk1 ha1
    simp only [Nat.reduceAdd] at hk1
    simp only [Act.put, List.setIfInBounds_toArray, List.set_cons_succ, List.set_cons_zero] at ha1
    subst hk1 ha1
    apply Mono.pr0
    · kernel_rfl
    · exact fun v W W' hW ⟨b, h1, h2, h3⟩ => ⟨b, h1, h2, h3.grows hW⟩
    · intro W hW 
      have hle := hW.le
      go_wp2
      exact ⟨rfl, rfl, (Grows.refl _).alloc _, _, rfl, hle, Blk.new _ _ _⟩
    intro v11
    intro k1 a1 hk1 ha1
    simp only [Nat.reduceAdd] at hk1
    simp only [Act.put, List.setIfInBounds_toArray, List.set_cons_succ, List.set_cons_zero] at ha1
    subst hk1 ha1
    refine Mono.done ?_
    intro wm2 hgm2
    simp only [allF, List.drop_succ_cons, List.drop_zero]
    intro g11
    obtain ⟨g5, rfl, hle, hb⟩ := g11
    have q0 : wm2.cell? ⟨g5, 0, none⟩ = some (.int .u64 0) := hb.cell 0
    have q1 : wm2.cell? ⟨g5, 1, none⟩ = some (.int .u64 0) := hb.cell 1
    have q2 := hb.frozen 0
    have q3 := hb.frozen 1
    go_upto_region 3 with fail
    obtain ⟨W3, HW3⟩ : ∃ W : World, Hid (W = (wm2.setCell ⟨g5, 0, none⟩ (.int .u64 b0.toNat)).setCell ⟨g5, 1, none⟩ (.int .u64 b1.toNat)) := ⟨_, lib_hid rfl⟩
    rw [← HW3.out]
    have hgx : Grows W2 W3 := by rw [HW3.out]; exact (hgm2.setCell (p := ⟨g5, 0, none⟩) hle _).setCell (p := ⟨g5, 1, none⟩) hle _
    have Hg5 : Hid (Blk W3 g5 67 #[.int .u64 b0.toNat, .int .u64 b1.toNat]) := by unfold Hid; rw [HW3.out]; exact (hb.set 0 _).set 1 _
    have hgwn := hgw.trans hgx
    clear hgw
    have hgw := hgwn
    clear hgwn q0 q1 q2 q3 hb hle hgm2
    have HHn := lib_hid (HH.out.grows hgx)
    clear HH
    have HH := HHn
    clear HHn
    have HRn := lib_hid (HR.out.grows hgx)
    clear HR
    have HR := HRn
    clear HRn
    have HBn := lib_hid (HB.out.grows hgx)
    clear HB
    have HB := HBn
    clear HBn
    have H4n := lib_hid (H4.out.grows hgx)
    clear H4
    have H4 := H4n
    clear H4n
    clear hgx
    apply wp_region_mono 12 ((.is _, []) :: (.is _, []) :: (.is _, []) :: (.is _, []) :: (.is (pV z0 z1), []) :: (.is _, []) :: (.is _, []) :: (.is _, []) :: (.is _, []) :: (.is (pV u0 u1), []) :: (.is (pV c0 c1), []) :: (.pr (fun v W => ∃ b, v = .pointer (some ⟨b, 0, none⟩) ∧ W3.heap.size ≤ b ∧ Blk W b 67 #[.int .u64 0, .int .u64 0]), []) :: []) (by kernel_rfl) (by kernel_rfl)
    apply Mono.is0
    · kernel_rfl
    · intro W hW
      go_wp2
      refine ⟨rfl, rfl, Grows.refl _, ?_⟩
      unfold Oper.valAt
      go_simp
      rfl
    intro k1 a1 hk1 ha1
    simp only [Nat.reduceAdd] at hk1
    simp only [Act.put, List.setIfInBounds_toArray, List.set_cons_succ, List.set_cons_zero] at ha1
    subst hk1 ha1
    apply Mono.is0
    · kernel_rfl
    · intro W hW
      have hcc : W.cell? ⟨gh, 2, none⟩ = some (.int .u64 h2.toNat) := (HH.out.grows hW).cell 2
      go_wp2
      refine ⟨rfl, rfl, Grows.refl _, ?_⟩
      unfold Oper.valAt
      go_simp
      rfl
    intro k1 a1 hk1 ha1
    simp only [Nat.reduceAdd] at hk1
    simp only [Act.put, List.setIfInBounds_toArray, List.set_cons_succ, List.set_cons_zero] at ha1
    subst hk1 ha1
    apply Mono.is0
    · kernel_rfl
    · intro W hW
      go_wp2
      refine ⟨rfl, rfl, Grows.refl _, ?_⟩
      unfold Oper.valAt
      go_simp
      rfl
    intro k1 a1 hk1 ha1
    simp only [Nat.reduceAdd] at hk1
    simp only [Act.put, List.setIfInBounds_toArray, List.set_cons_succ, List.set_cons_zero] at ha1
    subst hk1 ha1
    apply Mono.is0
    · kernel_rfl
    · intro W hW
      have hcc : W.cell? ⟨gr, 0, none⟩ = some (.int .u64 r0.toNat) := (HR.out.grows hW).cell 0
      go_wp2
      refine ⟨rfl, rfl, Grows.refl _, ?_⟩
      unfold Oper.valAt
      go_simp
      rfl
    intro k1 a1 hk1 ha1
    simp only [Nat.reduceAdd] at hk1
    simp only [Act.put, List.setIfInBounds_toArray, List.set_cons_succ, List.set_cons_zero] at ha1
    subst hk1 ha1
    apply Mono.is0
    · kernel_rfl
    · intro W hW 
      go_wp2_with fail
      refine (times_any h2 r0 W).mono ?_
      rintro e w1 ⟨rfl, hg1⟩
      rw [Hz0.out, Hz1.out]
      go_wp2
      exact ⟨rfl, rfl, hg1, rfl⟩
    intro k1 a1 hk1 ha1
    simp only [Nat.reduceAdd] at hk1
    simp only [Act.put, List.setIfInBounds_toArray, List.set_cons_succ, List.set_cons_zero] at ha1
    subst hk1 ha1
    apply Mono.is0
    · kernel_rfl
    · intro W hW
      go_wp2
      refine ⟨rfl, rfl, Grows.refl _, ?_⟩
      unfold Oper.valAt
      go_simp
      rfl
    intro k1 a1 hk1 ha1
    simp only [Nat.reduceAdd] at hk1
    simp only [Act.put, List.setIfInBounds_toArray, List.set_cons_succ, List.set_cons_zero] at ha1
    subst hk1 ha1
    apply Mono.is0
    · kernel_rfl
    · intro W hW
      have hcc : W.cell? ⟨gh, 1, none⟩ = some (.int .u64 h1.toNat) := (HH.out.grows hW).cell 1
      go_wp2
      refine ⟨rfl, rfl, Grows.refl _, ?_⟩
      unfold Oper.valAt
      go_simp
      rfl
    intro k1 a1 hk1 ha1
    simp only [Nat.reduceAdd] at hk1
    simp only [Act.put, List.setIfInBounds_toArray, List.set_cons_succ, List.set_cons_zero] at ha1
    subst hk1 ha1
    apply Mono.is0
    · kernel_rfl
    · intro W hW
      go_wp2
      refine ⟨rfl, rfl, Grows.refl _, ?_⟩
      unfold Oper.valAt
      go_simp
      rfl
    intro k1 a1 hk1 ha1
    simp only [Nat.reduceAdd] at hk1
    simp only [Act.put, List.setIfInBounds_toArray, List.set_cons_succ, List.set_cons_zero] at ha1
    subst hk1 ha1
    apply Mono.is0
    · kernel_rfl
    · intro W hW
      have hcc : W.cell? ⟨gr, 1, none⟩ = some (.int .u64 r1.toNat) := (HR.out.grows hW).cell 1
      go_wp2
      refine ⟨rfl, rfl, Grows.refl _, ?_⟩
      unfold Oper.valAt
      go_simp
      rfl
    intro k1 a1 hk1 ha1
    simp only [Nat.reduceAdd] at hk1
    simp only [Act.put, List.setIfInBounds_toArray, List.set_cons_succ, List.set_cons_zero] at ha1
    subst hk1 ha1
    apply Mono.is0
    · kernel_rfl
    · intro W hW 
      go_wp2_with fail
      refine (times_any h1 r1 W).mono ?_
      rintro e w1 ⟨rfl, hg1⟩
      rw [Hu0.out, Hu1.out]
      go_wp2
      exact ⟨rfl, rfl, hg1, rfl⟩
    intro k1 a1 hk1 ha1
    simp only [Nat.reduceAdd] at hk1
    simp only [Act.put, List.setIfInBounds_toArray, List.set_cons_succ, List.set_cons_zero] at ha1
    subst hk1 ha1
    apply Mono.is0
    · kernel_rfl
    · intro W hW 
      go_wp2_with fail
      refine (plus_any z0 z1 u0 u1 W).mono ?_
      rintro e w1 ⟨rfl, hg1⟩
      rw [Hc0.out, Hc1.out]
      go_wp2
      exact ⟨rfl, rfl, hg1, rfl⟩
    intro k1 a1 hk1 ha1
    simp only [Nat.reduceAdd] at hk1
    simp only [Act.put, List.setIfInBounds_toArray, List.set_cons_succ, List.set_cons_zero] at ha1
    subst hk1 ha1
    apply Mono.pr0
    · kernel_rfl
    · exact fun v W W' hW ⟨b, h1, h2, h3⟩ => ⟨b, h1, h2, h3.grows hW⟩
    · intro W hW 
      have hle := hW.le
      go_wp2
      exact ⟨rfl, rfl, (Grows.refl _).alloc _, _, rfl, hle, Blk.new _ _ _⟩
    intro v11
    intro k1 a1 hk1 ha1
    simp only [Nat.reduceAdd] at hk1
    simp only [Act.put, List.setIfInBounds_toArray, List.set_cons_succ, List.set_cons_zero] at ha1
    subst hk1 ha1
    refine Mono.done ?_
    intro wm3 hgm3
    simp only [allF, List.drop_succ_cons, List.drop_zero]
    intro g11
    obtain ⟨g6, rfl, hle, hb⟩ := g11
    have q0 : wm3.cell? ⟨g6, 0, none⟩ = some (.int .u64 0) := hb.cell 0
    have q1 : wm3.cell? ⟨g6, 1, none⟩ = some (.int .u64 0) := hb.cell 1
    have q2 := hb.frozen 0
    have q3 := hb.frozen 1
    go_upto_region 4 with fail
    obtain ⟨W4, HW4⟩ : ∃ W : World, Hid (W = (wm3.setCell ⟨g6, 0, none⟩ (.int .u64 c0.toNat)).setCell ⟨g6, 1, none⟩ (.int .u64 c1.toNat)) := ⟨_, lib_hid rfl⟩
    rw [← HW4.out]
    have hgx : Grows W3 W4 := by rw [HW4.out]; exact (hgm3.setCell (p := ⟨g6, 0, none⟩) hle _).setCell (p := ⟨g6, 1, none⟩) hle _
    have Hg6 : Hid (Blk W4 g6 67 #[.int .u64 c0.toNat, .int .u64 c1.toNat]) := by unfold Hid; rw [HW4.out]; exact (hb.set 0 _).set 1 _
    have hgwn := hgw.trans hgx
    clear hgw
    have hgw := hgwn
    clear hgwn q0 q1 q2 q3 hb hle hgm3
    have HHn := lib_hid (HH.out.grows hgx)
    clear HH
    have HH := HHn
    clear HHn
    have HRn := lib_hid (HR.out.grows hgx)
    clear HR
    have HR := HRn
    clear HRn
    have HBn := lib_hid (HB.out.grows hgx)
    clear HB
    have HB := HBn
    clear HBn
    have H4n := lib_hid (H4.out.grows hgx)
    clear H4
    have H4 := H4n
    clear H4n
    have Hg5n := lib_hid (Hg5.out.grows hgx)
    clear Hg5
    have Hg5 := Hg5n
    clear Hg5n
    clear hgx
    have q0 : W4.cell? ⟨gh, 2, none⟩ = some (.int .u64 h2.toNat) := HH.out.cell 2
    have q1 : W4.cell? ⟨gr, 1, none⟩ = some (.int .u64 r1.toNat) := HR.out.cell 1
    go_wp2_with fail
    refine (times_any h2 r1 W4).mono ?_
    rintro e w5 ⟨rfl, hg5⟩
    rw [Hd0.out, Hd1.out]
    clear q0 q1
    have A4 := H4.out.grows hg5
    have A5 := Hg5.out.grows hg5
    have A6 := Hg6.out.grows hg5
    have AB := HB.out.grows hg5
    have q40 : w5.cell? ⟨g4, 0, none⟩ = some (.int .u64 a0.toNat) := A4.cell 0
    have q41 : w5.cell? ⟨g4, 1, none⟩ = some (.int .u64 a1.toNat) := A4.cell 1
    have q50 : w5.cell? ⟨g5, 0, none⟩ = some (.int .u64 b0.toNat) := A5.cell 0
    have q51 : w5.cell? ⟨g5, 1, none⟩ = some (.int .u64 b1.toNat) := A5.cell 1
    have q60 : w5.cell? ⟨g6, 0, none⟩ = some (.int .u64 c0.toNat) := A6.cell 0
    have q61 : w5.cell? ⟨g6, 1, none⟩ = some (.int .u64 c1.toNat) := A6.cell 1
    have q4 : w5.cell? ⟨g, 4, none⟩ = some (.int .u64 h0.toNat) := AB.cell 4
    have q5 : w5.cell? ⟨g, 5, none⟩ = some (.int .u64 h1.toNat) := AB.cell 5
    have q6 : w5.cell? ⟨g, 6, none⟩ = some (.int .u64 h2.toNat) := AB.cell 6
    have f4 := AB.frozen 4
    have f5 := AB.frozen 5
    have f6 := AB.frozen 6
    have l4 := A4.lt
    have l5 := A5.lt
    have l6 := A6.lt
    have lB := AB.lt
    have HB5 := lib_hid AB
    have hgw5 := hgw.trans hg5
    have hadd1 := Hadd1.out
    have hadd2 := Hadd2.out
    have hadd3 := Hadd3.out
    have hm := Hm.out
    have hn := Hn.out
    clear A4 A5 A6 AB HH HR HB H4 Hg5 Hg6 hgw hg5
    go_wp2_with fail
    obtain ⟨W6, HW6⟩ : ∃ W : World, Hid (W = ((((((w5.setCell ⟨g, 4, none⟩ (.int .u64 a0.toNat)).setCell ⟨g, 5, none⟩ (.int .u64 t1.toNat)).setCell ⟨g, 6, none⟩ (.int .u64 m2.toNat)).alloc (.cells #[.int .u64 d0.toNat, .int .u64 d1.toNat] 67)).alloc (.cells #[.int .u64 a0.toNat, .int .u64 t1.toNat, .int .u64 t2.toNat, .int .u64 t3.toNat] 88)).alloc (.cells #[.int .u64 n2.toNat, .int .u64 t3.toNat] 67))) := ⟨_, lib_hid rfl⟩
    rw [← HW6.out]
    obtain ⟨g10, Hg10⟩ : ∃ x, Hid (w5.heap.size + 1 + 1 = x) := ⟨_, lib_hid rfl⟩
    rw [Hg10.out]
    have HB6 : Hid (Blk W6 g 71 (PB r0 r1 s0 s1 a0 t1 m2 v)) := by
      unfold Hid; rw [HW6.out]; exact ((((((HB5.out.set 4 _).set 5 _).set 6 _).alloc _).alloc _).alloc _)
    have HA6 : Hid (Blk W6 g10 67 #[.int .u64 n2.toNat, .int .u64 t3.toNat]) := by
      unfold Hid; rw [HW6.out, ← Hg10.out]
      have := Blk.new (((((w5.setCell ⟨g, 4, none⟩ (.int .u64 a0.toNat)).setCell ⟨g, 5, none⟩ (.int .u64 t1.toNat)).setCell ⟨g, 6, none⟩ (.int .u64 m2.toNat)).alloc (.cells #[.int .u64 d0.toNat, .int .u64 d1.toNat] 67)).alloc (.cells #[.int .u64 a0.toNat, .int .u64 t1.toNat, .int .u64 t2.toNat, .int .u64 t3.toNat] 88)) 67 #[.int .u64 n2.toNat, .int .u64 t3.toNat]
      simpa using this
    have hG6 : w.grownBy W6 (some g) := by
      rw [HW6.out]
      exact gbo_grows (gbo_set (gbo_set (gbo_set (gbo_grows ⟨rfl, rfl, rfl, Nat.le_refl _, fun _ _ _ => rfl⟩ hgw5) _ _) _ _) _ _) ((((Grows.refl _).alloc _).alloc _).alloc _)
    have hne : Hid (g10 ≠ g) := by unfold Hid; rw [← Hg10.out]; omega
    clear hgw5 q40 q41 q50 q51 q60 q61 q4 q5 q6 f4 f5 f6 l4 l5 l6 lB hadd1 hadd2 hadd3 hm hn
    refine (add_any0 g r0 r1 s0 s1 a0 t1 m2 v n2 t3 W6 HB6.out).mono ?_
    rintro e w7 ⟨rfl, hG7, hB7⟩
    rw [Hi0.out, Hi1.out, Hi2.out] at hB7
    have hA7 := HA6.out.grown hG7 (fun e => hne.out (Option.some.inj e))
    have c0 : w7.cell? ⟨g10, 0, none⟩ = some (.int .u64 n2.toNat) := hA7.cell 0
    have c1 : w7.cell? ⟨g10, 1, none⟩ = some (.int .u64 t3.toNat) := hA7.cell 1
    have HB7 := lib_hid hB7
    have z1 := Hz1'.out
    have z2 := Hz2'.out
    have z3 := Hz3'.out
    have z4 := Hz4'.out
    clear hA7 hB7
    go_wp2_with fail
    refine (add_any0 g r0 r1 s0 s1 i0 i1 i2 v o1 p1 w7 HB7.out).mono ?_
    rintro e w8 ⟨rfl, hG8, hB8⟩
    have HB8 := lib_hid hB8
    clear hB8
    go_wp2
    go_end0
    refine ⟨rfl, gbo_trans (gbo_trans hG6 hG7) hG8, ?_⟩
    rw [Hfin.out]
    exact HB8.out
  · obtain ⟨W1, HW1⟩ : ∃ W : World, Hid (W = ((w.alloc (.cells #[.int .u64 r0.toNat, .int .u64 r1.toNat] 67)).alloc (.cells #[.int .u64 h0.toNat, .int .u64 h1.toNat, .int .u64 h2.toNat] 69)).drew) := ⟨_, lib_hid rfl⟩
    obtain ⟨gh, Hgh⟩ : ∃ x, Hid (w.heap.size + 1 = x) := ⟨_, lib_hid rfl⟩
    obtain ⟨gr, Hgr⟩ : ∃ x, Hid (w.heap.size = x) := ⟨_, lib_hid rfl⟩
    rw [← HW1.out, Hgh.out, Hgr.out]
    have HR : Hid (Blk W1 gr 67 #[.int .u64 r0.toNat, .int .u64 r1.toNat]) := by unfold Hid; rw [HW1.out, ← Hgr.out]; exact (Blk.new _ _ _).alloc _
    have HH : Hid (Blk W1 gh 69 #[.int .u64 h0.toNat, .int .u64 h1.toNat, .int .u64 h2.toNat]) := by
      unfold Hid; rw [HW1.out, ← Hgh.out]; have := Blk.new (w.alloc (.cells #[.int .u64 r0.toNat, .int .u64 r1.toNat] 67)) 69 #[.int .u64 h0.toNat, .int .u64 h1.toNat, .int .u64 h2.toNat]; simpa using this.drew
    have hgw : Grows w W1 := by rw [HW1.out]; exact (((Grows.refl w).alloc _).alloc _).drew
    have HB := lib_hid (HB0.out.grows hgw)
    have q0 : W1.cell? ⟨gh, 0, none⟩ = some (.int .u64 h0.toNat) := HH.out.cell 0
    have q1 : W1.cell? ⟨gr, 0, none⟩ = some (.int .u64 r0.toNat) := HR.out.cell 0
    go_wp2_with fail
    refine (times_any h0 r0 W1).mono ?_
    rintro e w2 ⟨rfl, hg2⟩
    rw [Ha0.out, Ha1.out]
    clear q0 q1
    go_upto_region 2 with fail
    obtain ⟨g4, Hg4⟩ : ∃ x, Hid (w2.heap.size = x) := ⟨_, lib_hid rfl⟩
    obtain ⟨W2, HW2⟩ : ∃ W : World, Hid (W = w2.alloc (.cells #[.int .u64 a0.toNat, .int .u64 a1.toNat] 67)) := ⟨_, lib_hid rfl⟩
    rw [← HW2.out, Hg4.out]
    have H4 : Hid (Blk W2 g4 67 #[.int .u64 a0.toNat, .int .u64 a1.toNat]) := by unfold Hid; rw [HW2.out, ← Hg4.out]; exact Blk.new _ _ _
    have hgx : Grows W1 W2 := by rw [HW2.out]; exact hg2.alloc _
    have hgwn := hgw.trans hgx
    clear hgw
    have hgw := hgwn
    have HHn := lib_hid (HH.out.grows hgx)
    have HRn := lib_hid (HR.out.grows hgx)
    have HBn := lib_hid (HB.out.grows hgx)
    clear HH HR HB hgwn hgx hg2
    have HH := HHn
    have HR := HRn
    have HB := HBn
    clear HHn HRn HBn
    apply wp_region_mono 12 ((.is _, []) :: (.is _, []) :: (.is _, []) :: (.is _, []) :: (.is (pV x0 x1), []) :: (.is _, []) :: (.is _, []) :: (.is _, []) :: (.is _, []) :: (.is (pV y0 y1), []) :: (.is (pV b0 b1), []) :: (.pr (fun v W => ∃ b, v = .pointer (some ⟨b, 0, none⟩) ∧ W2.heap.size ≤ b ∧ Blk W b 67 #[.int .u64 0, .int .u64 0]), []) :: []) (by kernel_rfl) (by kernel_rfl)
    apply Mono.is0
    · kernel_rfl
    · intro W hW
      go_wp2
      refine ⟨rfl, rfl, Grows.refl _, ?_⟩
      unfold Oper.valAt
      go_simp
      rfl
    intro k1 a1 hk1 ha1
    simp only [Nat.reduceAdd] at hk1
    simp only [Act.put, List.setIfInBounds_toArray, List.set_cons_succ, List.set_cons_zero] at ha1
    subst hk1 ha1
    apply Mono.is0
    · kernel_rfl
    · intro W hW
      have hcc : W.cell? ⟨gh, 1, none⟩ = some (.int .u64 h1.toNat) := (HH.out.grows hW).cell 1
      go_wp2
      refine ⟨rfl, rfl, Grows.refl _, ?_⟩
      unfold Oper.valAt
      go_simp
      rfl
    intro k1 a1 hk1 ha1
    simp only [Nat.reduceAdd] at hk1
    simp only [Act.put, List.setIfInBounds_toArray, List.set_cons_succ, List.set_cons_zero] at ha1
    subst hk1 ha1
    apply Mono.is0
    · kernel_rfl
    · intro W hW
      go_wp2
      refine ⟨rfl, rfl, Grows.refl _, ?_⟩
      unfold Oper.valAt
      go_simp
      rfl
    intro k1 a1 hk1 ha1
    simp only [Nat.reduceAdd] at hk1
    simp only [Act.put, List.setIfInBounds_toArray, List.set_cons_succ, List.set_cons_zero] at ha1
    subst hk1 ha1
    apply Mono.is0
    · kernel_rfl
    · intro W hW
      have hcc : W.cell? ⟨gr, 0, none⟩ = some (.int .u64 r0.toNat) := (HR.out.grows hW).cell 0
      go_wp2
      refine ⟨rfl, rfl, Grows.refl _, ?_⟩
      unfold Oper.valAt
      go_simp
      rfl
    intro k1 a1 hk1 ha1
    simp only [Nat.reduceAdd] at hk1
    simp only [Act.put, List.setIfInBounds_toArray, List.set_cons_succ, List.set_cons_zero] at ha1
    subst hk1 ha1
    apply Mono.is0
    · kernel_rfl
    · intro W hW 
      go_wp2_with fail
      refine (times_any h1 r0 W).mono ?_
      rintro e w1 ⟨rfl, hg1⟩
      rw [Hx0.out, Hx1.out]
      go_wp2
      exact ⟨rfl, rfl, hg1, rfl⟩
    intro k1 a1 hk1 ha1
    simp only [Nat.reduceAdd] at hk1
    simp only [Act.put, List.setIfInBounds_toArray, List.set_cons_succ, List.set_cons_zero] at ha1
    subst hk1 ha1
    apply Mono.is0
    · kernel_rfl
    · intro W hW
      go_wp2
      refine ⟨rfl, rfl, Grows.refl _, ?_⟩
      unfold Oper.valAt
      go_simp
      rfl
    intro k1 a1 hk1 ha1
    simp only [Nat.reduceAdd] at hk1
    simp only [Act.put, List.setIfInBounds_toArray, List.set_cons_succ, List.set_cons_zero] at ha1
    subst hk1 ha1
    apply Mono.is0
    · kernel_rfl
    · intro W hW
      have hcc : W.cell? ⟨gh, 0, none⟩ = some (.int .u64 h0.toNat) := (HH.out.grows hW).cell 0
      go_wp2
      refine ⟨rfl, rfl, Grows.refl _, ?_⟩
      unfold Oper.valAt
      go_simp
      rfl
    intro k1 a1 hk1 ha1
    simp only [Nat.reduceAdd] at hk1
    simp only [Act.put, List.setIfInBounds_toArray, List.set_cons_succ, List.set_cons_zero] at ha1
    subst hk1 ha1
    apply Mono.is0
    · kernel_rfl
    · intro W hW
      go_wp2
      refine ⟨rfl, rfl, Grows.refl _, ?_⟩
      unfold Oper.valAt
      go_simp
      rfl
    intro k1 a1 hk1 ha1
    simp only [Nat.reduceAdd] at hk1
    simp only [Act.put, List.setIfInBounds_toArray, List.set_cons_succ, List.set_cons_zero] at ha1
    subst hk1 ha1
    apply Mono.is0
    · kernel_rfl
    · intro W hW
      have hcc : W.cell? ⟨gr, 1, none⟩ = some (.int .u64 r1.toNat) := (HR.out.grows hW).cell 1
      go_wp2
      refine ⟨rfl, rfl, Grows.refl _, ?_⟩
      unfold Oper.valAt
      go_simp
      rfl
    intro k1 a1 hk1 ha1
    simp only [Nat.reduceAdd] at hk1
    simp only [Act.put, List.setIfInBounds_toArray, List.set_cons_succ, List.set_cons_zero] at ha1
    subst hk1 ha1
    apply Mono.is0
    · kernel_rfl
    · intro W hW 
      go_wp2_with fail
      refine (times_any h0 r1 W).mono ?_
      rintro e w1 ⟨rfl, hg1⟩
      rw [Hy0.out, Hy1.out]
      go_wp2
      exact ⟨rfl, rfl, hg1, rfl⟩
    intro k1 a1 hk1 ha1
    simp only [Nat.reduceAdd] at hk1
    simp only [Act.put, List.setIfInBounds_toArray, List.set_cons_succ, List.set_cons_zero] at ha1
    subst hk1 ha1
    apply Mono.is0
    · kernel_rfl
    · intro W hW 
      go_wp2_with fail
      refine (plus_any x0 x1 y0 y1 W).mono ?_
      rintro e w1 ⟨rfl, hg1⟩
      rw [Hb0.out, Hb1.out]
      go_wp2
      exact ⟨rfl, rfl, hg1, rfl⟩
    intro k1 a1 hk1 ha1
    simp only [Nat.reduceAdd] at hk1
    simp only [Act.put, List.setIfInBounds_toArray, List.set_cons_succ, List.set_cons_zero] at ha1
    subst hk1 ha1
    apply Mono.pr0
    · kernel_rfl
    · exact fun v W W' hW ⟨b, h1, h2, h3⟩ => ⟨b, h1, h2, h3.grows hW⟩
    · intro W hW 
      have hle := hW.le
      go_wp2
      exact ⟨rfl, rfl, (Grows.refl _).alloc _, _, rfl, hle, Blk.new _ _ _⟩
    intro v11
    intro k1 a1 hk1 ha1
    simp only [Nat.reduceAdd] at hk1
    simp only [Act.put, List.setIfInBounds_toArray, List.set_cons_succ, List.set_cons_zero] at ha1
    subst hk1 ha1
    refine Mono.done ?_
    intro wm2 hgm2
    simp only [allF, List.drop_succ_cons, List.drop_zero]
    intro g11
    obtain ⟨g5, rfl, hle, hb⟩ := g11
    have q0 : wm2.cell? ⟨g5, 0, none⟩ = some (.int .u64 0) := hb.cell 0
    have q1 : wm2.cell? ⟨g5, 1, none⟩ = some (.int .u64 0) := hb.cell 1
    have q2 := hb.frozen 0
    have q3 := hb.frozen 1
    go_upto_region 3 with fail
    obtain ⟨W3, HW3⟩ : ∃ W : World, Hid (W = (wm2.setCell ⟨g5, 0, none⟩ (.int .u64 b0.toNat)).setCell ⟨g5, 1, none⟩ (.int .u64 b1.toNat)) := ⟨_, lib_hid rfl⟩
    rw [← HW3.out]
    have hgx : Grows W2 W3 := by rw [HW3.out]; exact (hgm2.setCell (p := ⟨g5, 0, none⟩) hle _).setCell (p := ⟨g5, 1, none⟩) hle _
    have Hg5 : Hid (Blk W3 g5 67 #[.int .u64 b0.toNat, .int .u64 b1.toNat]) := by unfold Hid; rw [HW3.out]; exact (hb.set 0 _).set 1 _
    have hgwn := hgw.trans hgx
    clear hgw
    have hgw := hgwn
    clear hgwn q0 q1 q2 q3 hb hle hgm2
    have HHn := lib_hid (HH.out.grows hgx)
    clear HH
    have HH := HHn
    clear HHn
    have HRn := lib_hid (HR.out.grows hgx)
    clear HR
    have HR := HRn
    clear HRn
    have HBn := lib_hid (HB.out.grows hgx)
    clear HB
    have HB := HBn
    clear HBn
    have H4n := lib_hid (H4.out.grows hgx)
    clear H4
    have H4 := H4n
    clear H4n
    clear hgx
    apply wp_region_mono 12 ((.is _, []) :: (.is _, []) :: (.is _, []) :: (.is _, []) :: (.is (pV z0 z1), []) :: (.is _, []) :: (.is _, []) :: (.is _, []) :: (.is _, []) :: (.is (pV u0 u1), []) :: (.is (pV c0 c1), []) :: (.pr (fun v W => ∃ b, v = .pointer (some ⟨b, 0, none⟩) ∧ W3.heap.size ≤ b ∧ Blk W b 67 #[.int .u64 0, .int .u64 0]), []) :: []) (by kernel_rfl) (by kernel_rfl)
    apply Mono.is0
    · kernel_rfl
    · intro W hW
      go_wp2
      refine ⟨rfl, rfl, Grows.refl _, ?_⟩
      unfold Oper.valAt
      go_simp
      rfl
    intro k1 a1 hk1 ha1
    simp only [Nat.reduceAdd] at hk1
    simp only [Act.put, List.setIfInBounds_toArray, List.set_cons_succ, List.set_cons_zero] at ha1
    subst hk1 ha1
    apply Mono.is0
    · kernel_rfl
    · intro W hW
      have hcc : W.cell? ⟨gh, 2, none⟩ = some (.int .u64 h2.toNat) := (HH.out.grows hW).cell 2
      go_wp2
      refine ⟨rfl, rfl, Grows.refl _, ?_⟩
      unfold Oper.valAt
      go_simp
      rfl
    intro k1 a1 hk1 ha1
    simp only [Nat.reduceAdd] at hk1
    simp only [Act.put, List.setIfInBounds_toArray, List.set_cons_succ, List.set_cons_zero] at ha1
    subst hk1 ha1
    apply Mono.is0
    · kernel_rfl
    · intro W hW
      go_wp2
      refine ⟨rfl, rfl, Grows.refl _, ?_⟩
      unfold Oper.valAt
      go_simp
      rfl
    intro k1 a1 hk1 ha1
    simp only [Nat.reduceAdd] at hk1
    simp only [Act.put, List.setIfInBounds_toArray, List.set_cons_succ, List.set_cons_zero] at ha1
    subst hk1 ha1
    apply Mono.is0
    · kernel_rfl
    · intro W hW
      have hcc : W.cell? ⟨gr, 0, none⟩ = some (.int .u64 r0.toNat) := (HR.out.grows hW).cell 0
      go_wp2
      refine ⟨rfl, rfl, Grows.refl _, ?_⟩
      unfold Oper.valAt
      go_simp
      rfl
    intro k1 a1 hk1 ha1
    simp only [Nat.reduceAdd] at hk1
    simp only [Act.put, List.setIfInBounds_toArray, List.set_cons_succ, List.set_cons_zero] at ha1
    subst hk1 ha1
    apply Mono.is0
    · kernel_rfl
    · intro W hW 
      go_wp2_with fail
      refine (times_any h2 r0 W).mono ?_
      rintro e w1 ⟨rfl, hg1⟩
      rw [Hz0.out, Hz1.out]
      go_wp2
      exact ⟨rfl, rfl, hg1, rfl⟩
    intro k1 a1 hk1 ha1
    simp only [Nat.reduceAdd] at hk1
    simp only [Act.put, List.setIfInBounds_toArray, List.set_cons_succ, List.set_cons_zero] at ha1
    subst hk1 ha1
    apply Mono.is0
    · kernel_rfl
    · intro W hW
      go_wp2
      refine ⟨rfl, rfl, Grows.refl _, ?_⟩
      unfold Oper.valAt
      go_simp
      rfl
    intro k1 a1 hk1 ha1
    simp only [Nat.reduceAdd] at hk1
    simp only [Act.put, List.setIfInBounds_toArray, List.set_cons_succ, List.set_cons_zero] at ha1
    subst hk1 ha1
    apply Mono.is0
    · kernel_rfl
    · intro W hW
      have hcc : W.cell? ⟨gh, 1, none⟩ = some (.int .u64 h1.toNat) := (HH.out.grows hW).cell 1
      go_wp2
      refine ⟨rfl, rfl, Grows.refl _, ?_⟩
      unfold Oper.valAt
      go_simp
      rfl
    intro k1 a1 hk1 ha1
    simp only [Nat.reduceAdd] at hk1
    simp only [Act.put, List.setIfInBounds_toArray, List.set_cons_succ, List.set_cons_zero] at ha1
    subst hk1 ha1
    apply Mono.is0
    · kernel_rfl
    · intro W hW
      go_wp2
      refine ⟨rfl, rfl, Grows.refl _, ?_⟩
      unfold Oper.valAt
      go_simp
      rfl
    intro k1 a1 hk1 ha1
    simp only [Nat.reduceAdd] at hk1
    simp only [Act.put, List.setIfInBounds_toArray, List.set_cons_succ, List.set_cons_zero] at ha1
    subst hk1 ha1
    apply Mono.is0
    · kernel_rfl
    · intro W hW
      have hcc : W.cell? ⟨gr, 1, none⟩ = some (.int .u64 r1.toNat) := (HR.out.grows hW).cell 1
      go_wp2
      refine ⟨rfl, rfl, Grows.refl _, ?_⟩
      unfold Oper.valAt
      go_simp
      rfl
    intro k1 a1 hk1 ha1
    simp only [Nat.reduceAdd] at hk1
    simp only [Act.put, List.setIfInBounds_toArray, List.set_cons_succ, List.set_cons_zero] at ha1
    subst hk1 ha1
    apply Mono.is0
    · kernel_rfl
    · intro W hW 
      go_wp2_with fail
      refine (times_any h1 r1 W).mono ?_
      rintro e w1 ⟨rfl, hg1⟩
      rw [Hu0.out, Hu1.out]
      go_wp2
      exact ⟨rfl, rfl, hg1, rfl⟩
    intro k1 a1 hk1 ha1
    simp only [Nat.reduceAdd] at hk1
    simp only [Act.put, List.setIfInBounds_toArray, List.set_cons_succ, List.set_cons_zero] at ha1
    subst hk1 ha1
    apply Mono.is0
    · kernel_rfl
    · intro W hW 
      go_wp2_with fail
      refine (plus_any z0 z1 u0 u1 W).mono ?_
      rintro e w1 ⟨rfl, hg1⟩
      rw [Hc0.out, Hc1.out]
      go_wp2
      exact ⟨rfl, rfl, hg1, rfl⟩
    intro k1 a1 hk1 ha1
    simp only [Nat.reduceAdd] at hk1
    simp only [Act.put, List.setIfInBounds_toArray, List.set_cons_succ, List.set_cons_zero] at ha1
    subst hk1 ha1
    apply Mono.pr0
    · kernel_rfl
    · exact fun v W W' hW ⟨b, h1, h2, h3⟩ => ⟨b, h1, h2, h3.grows hW⟩
    · intro W hW 
      have hle := hW.le
      go_wp2
      exact ⟨rfl, rfl, (Grows.refl _).alloc _, _, rfl, hle, Blk.new _ _ _⟩
    intro v11
    intro k1 a1 hk1 ha1
    simp only [Nat.reduceAdd] at hk1
    simp only [Act.put, List.setIfInBounds_toArray, List.set_cons_succ, List.set_cons_zero] at ha1
    subst hk1 ha1
    refine Mono.done ?_
    intro wm3 hgm3
    simp only [allF, List.drop_succ_cons, List.drop_zero]
    intro g11
    obtain ⟨g6, rfl, hle, hb⟩ := g11
    have q0 : wm3.cell? ⟨g6, 0, none⟩ = some (.int .u64 0) := hb.cell 0
    have q1 : wm3.cell? ⟨g6, 1, none⟩ = some (.int .u64 0) := hb.cell 1
    have q2 := hb.frozen 0
    have q3 := hb.frozen 1
    go_upto_region 4 with fail
    obtain ⟨W4, HW4⟩ : ∃ W : World, Hid (W = (wm3.setCell ⟨g6, 0, none⟩ (.int .u64 c0.toNat)).setCell ⟨g6, 1, none⟩ (.int .u64 c1.toNat)) := ⟨_, lib_hid rfl⟩
    rw [← HW4.out]
    have hgx : Grows W3 W4 := by rw [HW4.out]; exact (hgm3.setCell (p := ⟨g6, 0, none⟩) hle _).setCell (p := ⟨g6, 1, none⟩) hle _
    have Hg6 : Hid (Blk W4 g6 67 #[.int .u64 c0.toNat, .int .u64 c1.toNat]) := by unfold Hid; rw [HW4.out]; exact (hb.set 0 _).set 1 _
    have hgwn := hgw.trans hgx
    clear hgw
    have hgw := hgwn
    clear hgwn q0 q1 q2 q3 hb hle hgm3
    have HHn := lib_hid (HH.out.grows hgx)
    clear HH
    have HH := HHn
    clear HHn
    have HRn := lib_hid (HR.out.grows hgx)
    clear HR
    have HR := HRn
    clear HRn
    have HBn := lib_hid (HB.out.grows hgx)
    clear HB
    have HB := HBn
    clear HBn
    have H4n := lib_hid (H4.out.grows hgx)
    clear H4
    have H4 := H4n
    clear H4n
    have Hg5n := lib_hid (Hg5.out.grows hgx)
    clear Hg5
    have Hg5 := Hg5n
    clear Hg5n
    clear hgx
    have q0 : W4.cell? ⟨gh, 2, none⟩ = some (.int .u64 h2.toNat) := HH.out.cell 2
    have q1 : W4.cell? ⟨gr, 1, none⟩ = some (.int .u64 r1.toNat) := HR.out.cell 1
    go_wp2_with fail
    refine (times_any h2 r1 W4).mono ?_
    rintro e w5 ⟨rfl, hg5⟩
    rw [Hd0.out, Hd1.out]
    clear q0 q1
    have A4 := H4.out.grows hg5
    have A5 := Hg5.out.grows hg5
    have A6 := Hg6.out.grows hg5
    have AB := HB.out.grows hg5
    have q40 : w5.cell? ⟨g4, 0, none⟩ = some (.int .u64 a0.toNat) := A4.cell 0
    have q41 : w5.cell? ⟨g4, 1, none⟩ = some (.int .u64 a1.toNat) := A4.cell 1
    have q50 : w5.cell? ⟨g5, 0, none⟩ = some (.int .u64 b0.toNat) := A5.cell 0
    have q51 : w5.cell? ⟨g5, 1, none⟩ = some (.int .u64 b1.toNat) := A5.cell 1
    have q60 : w5.cell? ⟨g6, 0, none⟩ = some (.int .u64 c0.toNat) := A6.cell 0
    have q61 : w5.cell? ⟨g6, 1, none⟩ = some (.int .u64 c1.toNat) := A6.cell 1
    have q4 : w5.cell? ⟨g, 4, none⟩ = some (.int .u64 h0.toNat) := AB.cell 4
    have q5 : w5.cell? ⟨g, 5, none⟩ = some (.int .u64 h1.toNat) := AB.cell 5
    have q6 : w5.cell? ⟨g, 6, none⟩ = some (.int .u64 h2.toNat) := AB.cell 6
    have f4 := AB.frozen 4
    have f5 := AB.frozen 5
    have f6 := AB.frozen 6
    have l4 := A4.lt
    have l5 := A5.lt
    have l6 := A6.lt
    have lB := AB.lt
    have HB5 := lib_hid AB
    have hgw5 := hgw.trans hg5
    have hadd1 := Hadd1.out
    have hadd2 := Hadd2.out
    have hadd3 := Hadd3.out
    have hm := Hm.out
    have hn := Hn.out
    clear A4 A5 A6 AB HH HR HB H4 Hg5 Hg6 hgw hg5
    go_wp2_with fail
    obtain ⟨W6, HW6⟩ : ∃ W : World, Hid (W = ((((((w5.setCell ⟨g, 4, none⟩ (.int .u64 a0.toNat)).setCell ⟨g, 5, none⟩ (.int .u64 t1.toNat)).setCell ⟨g, 6, none⟩ (.int .u64 m2.toNat)).alloc (.cells #[.int .u64 d0.toNat, .int .u64 d1.toNat] 67)).alloc (.cells #[.int .u64 a0.toNat, .int .u64 t1.toNat, .int .u64 t2.toNat, .int .u64 t3.toNat] 88)).alloc (.cells #[.int .u64 n2.toNat, .int .u64 t3.toNat] 67))) := ⟨_, lib_hid rfl⟩
    rw [← HW6.out]
    obtain ⟨g10, Hg10⟩ : ∃ x, Hid (w5.heap.size + 1 + 1 = x) := ⟨_, lib_hid rfl⟩
    rw [Hg10.out]
    have HB6 : Hid (Blk W6 g 71 (PB r0 r1 s0 s1 a0 t1 m2 v)) := by
      unfold Hid; rw [HW6.out]; exact ((((((HB5.out.set 4 _).set 5 _).set 6 _).alloc _).alloc _).alloc _)
    have HA6 : Hid (Blk W6 g10 67 #[.int .u64 n2.toNat, .int .u64 t3.toNat]) := by
      unfold Hid; rw [HW6.out, ← Hg10.out]
      have := Blk.new (((((w5.setCell ⟨g, 4, none⟩ (.int .u64 a0.toNat)).setCell ⟨g, 5, none⟩ (.int .u64 t1.toNat)).setCell ⟨g, 6, none⟩ (.int .u64 m2.toNat)).alloc (.cells #[.int .u64 d0.toNat, .int .u64 d1.toNat] 67)).alloc (.cells #[.int .u64 a0.toNat, .int .u64 t1.toNat, .int .u64 t2.toNat, .int .u64 t3.toNat] 88)) 67 #[.int .u64 n2.toNat, .int .u64 t3.toNat]
      simpa using this
    have hG6 : w.grownBy W6 (some g) := by
      rw [HW6.out]
      exact gbo_grows (gbo_set (gbo_set (gbo_set (gbo_grows ⟨rfl, rfl, rfl, Nat.le_refl _, fun _ _ _ => rfl⟩ hgw5) _ _) _ _) _ _) ((((Grows.refl _).alloc _).alloc _).alloc _)
    have hne : Hid (g10 ≠ g) := by unfold Hid; rw [← Hg10.out]; omega
    clear hgw5 q40 q41 q50 q51 q60 q61 q4 q5 q6 f4 f5 f6 l4 l5 l6 lB hadd1 hadd2 hadd3 hm hn
    refine (add_any0 g r0 r1 s0 s1 a0 t1 m2 v n2 t3 W6 HB6.out).mono ?_
    rintro e w7 ⟨rfl, hG7, hB7⟩
    rw [Hi0.out, Hi1.out, Hi2.out] at hB7
    have hA7 := HA6.out.grown hG7 (fun e => hne.out (Option.some.inj e))
    have c0 : w7.cell? ⟨g10, 0, none⟩ = some (.int .u64 n2.toNat) := hA7.cell 0
    have c1 : w7.cell? ⟨g10, 1, none⟩ = some (.int .u64 t3.toNat) := hA7.cell 1
    have HB7 := lib_hid hB7
    have z1 := Hz1'.out
    have z2 := Hz2'.out
    have z3 := Hz3'.out
    have z4 := Hz4'.out
    clear hA7 hB7
    go_wp2_with fail
    refine (add_any0 g r0 r1 s0 s1 i0 i1 i2 v o1 p1 w7 HB7.out).mono ?_
    rintro e w8 ⟨rfl, hG8, hB8⟩
    have HB8 := lib_hid hB8
    clear hB8
    go_wp2
    go_end0
    refine ⟨rfl, gbo_trans (gbo_trans hG6 hG7) hG8, ?_⟩
    rw [Hfin.out]
    exact HB8.out

end Go.Proofs.Ytgolndfimhogoaa
