/-
  The walks of the laws of layer 6: Ring, Apart, Powers.
-/
import Derived.Test.YtlnldflnanllmaaGhash4
import Derived.Deep.Cut
namespace Go.Proofs.Ytlnldflnanllmaa
open Go Go.RowKit


theorem eq_iff_b (xs ys ps qs : List UInt8) (h : ps = qs ↔ xs = ys) : (ps == qs) = (xs == ys) := by
  rw [Bool.eq_iff_iff, beq_iff_eq, beq_iff_eq]; exact h

set_option maxRecDepth 100000 in
set_option maxHeartbeats 4000000 in
theorem walk_GhashRing (xs ys zs : List UInt8) (w : World) (hx : xs.length = 16) (hy : ys.length = 16) (hz : zs.length = 16) :
    Calls Try.prog 4 #[.agg (xs.map b8).toArray, .agg (ys.map b8).toArray, .agg (zs.map b8).toArray] w fun e w' => e = .returned (.bool true) ∧ Below w.heap.size w w' := by
  obtain ⟨m1, Hm1, m1l⟩ : ∃ v : List UInt8, Hid (mulF xs ys = v) ∧ Hid (v.length = 16) := ⟨_, lib_hid rfl, lib_hid (mulF_len _ _)⟩
  obtain ⟨m2, Hm2, m2l⟩ : ∃ v : List UInt8, Hid (mulF m1 zs = v) ∧ Hid (v.length = 16) := ⟨_, lib_hid rfl, lib_hid (mulF_len _ _)⟩
  obtain ⟨m3, Hm3, m3l⟩ : ∃ v : List UInt8, Hid (mulF ys zs = v) ∧ Hid (v.length = 16) := ⟨_, lib_hid rfl, lib_hid (mulF_len _ _)⟩
  obtain ⟨bo, Hbo, bol⟩ : ∃ v : List UInt8, Hid (List.zipWith (· ^^^ ·) ys zs = v) ∧ Hid (v.length = 16) := ⟨_, lib_hid rfl, lib_hid (zip_len _ _ hy hz)⟩
  obtain ⟨q, Hq, ql⟩ : ∃ v : List UInt8, Hid (mulF xs bo = v) ∧ Hid (v.length = 16) := ⟨_, lib_hid rfl, lib_hid (mulF_len _ _)⟩
  obtain ⟨r, Hr, rl⟩ : ∃ v : List UInt8, Hid (mulF xs zs = v) ∧ Hid (v.length = 16) := ⟨_, lib_hid rfl, lib_hid (mulF_len _ _)⟩
  obtain ⟨ob, Hob, obl⟩ : ∃ v : List UInt8, Hid (oneB = v) ∧ Hid (v.length = 16) := ⟨_, lib_hid rfl, lib_hid (rfl)⟩
  obtain ⟨zb, Hzb, zbl⟩ : ∃ v : List UInt8, Hid (zeroB = v) ∧ Hid (v.length = 16) := ⟨_, lib_hid rfl, lib_hid (rfl)⟩
  have Hm1c : Hid (mulF ys xs = m1) := by unfold Hid; rw [mulF_comm ys xs hy hx]; exact Hm1.out
  have Hm2c : Hid (mulF xs m3 = m2) := by unfold Hid; rw [← Hm3.out, ← mulF_assoc xs ys zs hx hy hz, Hm1.out]; exact Hm2.out
  have Hqc : Hid (List.zipWith (· ^^^ ·) m1 r = q) := by unfold Hid; rw [← Hq.out, ← Hbo.out, mulF_xor xs ys zs hx hy hz, Hm1.out, Hr.out]
  have Ho : Hid (mulF xs ob = xs) := by unfold Hid; rw [← Hob.out]; exact mulF_one xs hx
  have Hz : Hid (mulF xs zb = zb) := by unfold Hid; rw [← Hzb.out]; exact mulF_zero xs hx
  have Hzc : Hid ((#[.int .u8 0, .int .u8 0, .int .u8 0, .int .u8 0, .int .u8 0, .int .u8 0, .int .u8 0, .int .u8 0, .int .u8 0, .int .u8 0, .int .u8 0, .int .u8 0, .int .u8 0, .int .u8 0, .int .u8 0, .int .u8 0] : Array Value) = (zb.map b8).toArray) := by unfold Hid; rw [← Hzb.out]; exact zeros16
  have Hoc : Hid ((#[.int .u8 128, .int .u8 0, .int .u8 0, .int .u8 0, .int .u8 0, .int .u8 0, .int .u8 0, .int .u8 0, .int .u8 0, .int .u8 0, .int .u8 0, .int .u8 0, .int .u8 0, .int .u8 0, .int .u8 0, .int .u8 0] : Array Value) = (ob.map b8).toArray) := by unfold Hid; rw [← Hob.out]; rfl
  have xsl := lib_hid hx
  have ysl := lib_hid hy
  have zsl := lib_hid hz
  clear hx hy hz
  obtain ⟨W0, HW0, hW0, hg0⟩ : ∃ W0 : World, Hid (W0 = (((w.alloc (.cells (xs.map b8).toArray 22)).alloc (.cells (ys.map b8).toArray 22)).alloc (.cells (zs.map b8).toArray 22)).alloc (.cells (ob.map b8).toArray 22)) ∧ W0.heap.size = w.heap.size + 4 ∧ Grows w W0 := ⟨_, lib_hid rfl, by simp, ((((Grows.refl w).alloc _).alloc _).alloc _).alloc _⟩
  have HC0 : Hid (Blk W0 w.heap.size 22 (xs.map b8).toArray) := by
    unfold Hid; rw [HW0.out]; have := (((Blk.new (w) 22 (xs.map b8).toArray).alloc (.cells (ys.map b8).toArray 22)).alloc (.cells (zs.map b8).toArray 22)).alloc (.cells (ob.map b8).toArray 22); simpa using this
  have HC1 : Hid (Blk W0 (w.heap.size + 1) 22 (ys.map b8).toArray) := by
    unfold Hid; rw [HW0.out]; have := ((Blk.new (w.alloc (.cells (xs.map b8).toArray 22)) 22 (ys.map b8).toArray).alloc (.cells (zs.map b8).toArray 22)).alloc (.cells (ob.map b8).toArray 22); simpa using this
  have HC2 : Hid (Blk W0 (w.heap.size + 2) 22 (zs.map b8).toArray) := by
    unfold Hid; rw [HW0.out]; have := (Blk.new ((w.alloc (.cells (xs.map b8).toArray 22)).alloc (.cells (ys.map b8).toArray 22)) 22 (zs.map b8).toArray).alloc (.cells (ob.map b8).toArray 22); simpa using this
  have HC3 : Hid (Blk W0 (w.heap.size + 3) 22 (ob.map b8).toArray) := by
    unfold Hid; rw [HW0.out]; have := Blk.new (((w.alloc (.cells (xs.map b8).toArray 22)).alloc (.cells (ys.map b8).toArray 22)).alloc (.cells (zs.map b8).toArray 22)) 22 (ob.map b8).toArray; simpa using this
  have HW0' := HW0.out
  go_enter Try.func4, Try.ntmps4
  go_upto_region 2 with fail
  rw [Hoc.out, ← HW0']
  clear HW0'
  apply wp_region_mono 20 ((.is (.agg ((xs).map b8).toArray), []) :: (.is (.agg ((ys).map b8).toArray), []) :: (.is (.agg ((m1).map b8).toArray), []) :: (.is (.agg ((ys).map b8).toArray), []) :: (.is (.agg ((xs).map b8).toArray), []) :: (.is (.agg ((m1).map b8).toArray), []) :: (.is (.bool false), []) :: (.is _, []) :: (.is (.agg ((xs).map b8).toArray), []) :: (.is (.agg ((ys).map b8).toArray), []) :: (.is (.agg ((m1).map b8).toArray), []) :: (.is (.agg ((zs).map b8).toArray), []) :: (.is (.agg ((m2).map b8).toArray), []) :: (.is (.agg ((xs).map b8).toArray), []) :: (.is (.agg ((ys).map b8).toArray), []) :: (.is (.agg ((zs).map b8).toArray), []) :: (.is (.agg ((m3).map b8).toArray), []) :: (.is (.agg ((m2).map b8).toArray), []) :: (.is (.bool false), []) :: (.is _, []) :: []) (by kernel_rfl) (by kernel_rfl)
  apply Mono.is0
  · kernel_rfl
  · intro W hW 
    go_wp2_with (refine wpList_load_blk (by kernel_rfl) _ _ rfl (w.heap.size) rfl 22 ((xs).map b8).toArray _ (HC0.out.grows hW) Try.underlying22 rfl (by rw [Try.size16]; simp [xsl.out]) ?_)
    exact ⟨rfl, rfl, Grows.refl _, rfl⟩
  intro k1 a1 hk1 ha1
  simp only [Nat.reduceAdd] at hk1
  simp only [Act.put, List.setIfInBounds_toArray, List.set_cons_succ, List.set_cons_zero] at ha1
  subst hk1 ha1
  apply Mono.is0
  · kernel_rfl
  · intro W hW 
    go_wp2_with (refine wpList_load_blk (by kernel_rfl) _ _ rfl (w.heap.size + 1) rfl 22 ((ys).map b8).toArray _ (HC1.out.grows hW) Try.underlying22 rfl (by rw [Try.size16]; simp [ysl.out]) ?_)
    exact ⟨rfl, rfl, Grows.refl _, rfl⟩
  intro k1 a1 hk1 ha1
  simp only [Nat.reduceAdd] at hk1
  simp only [Act.put, List.setIfInBounds_toArray, List.set_cons_succ, List.set_cons_zero] at ha1
  subst hk1 ha1
  apply Mono.is0
  · kernel_rfl
  · intro W hW 
    go_wp2_with fail
    refine (mul_any xs ys xsl.out ysl.out W).mono ?_
    rintro e w1 ⟨rfl, hg1⟩
    rw [Hm1.out]
    go_wp2
    exact ⟨rfl, rfl, hg1, rfl⟩
  intro k1 a1 hk1 ha1
  simp only [Nat.reduceAdd] at hk1
  simp only [Act.put, List.setIfInBounds_toArray, List.set_cons_succ, List.set_cons_zero] at ha1
  subst hk1 ha1
  apply Mono.is0
  · kernel_rfl
  · intro W hW 
    go_wp2_with (refine wpList_load_blk (by kernel_rfl) _ _ rfl (w.heap.size + 1) rfl 22 ((ys).map b8).toArray _ (HC1.out.grows hW) Try.underlying22 rfl (by rw [Try.size16]; simp [ysl.out]) ?_)
    exact ⟨rfl, rfl, Grows.refl _, rfl⟩
  intro k1 a1 hk1 ha1
  simp only [Nat.reduceAdd] at hk1
  simp only [Act.put, List.setIfInBounds_toArray, List.set_cons_succ, List.set_cons_zero] at ha1
  subst hk1 ha1
  apply Mono.is0
  · kernel_rfl
  · intro W hW 
    go_wp2_with (refine wpList_load_blk (by kernel_rfl) _ _ rfl (w.heap.size) rfl 22 ((xs).map b8).toArray _ (HC0.out.grows hW) Try.underlying22 rfl (by rw [Try.size16]; simp [xsl.out]) ?_)
    exact ⟨rfl, rfl, Grows.refl _, rfl⟩
  intro k1 a1 hk1 ha1
  simp only [Nat.reduceAdd] at hk1
  simp only [Act.put, List.setIfInBounds_toArray, List.set_cons_succ, List.set_cons_zero] at ha1
  subst hk1 ha1
  apply Mono.is0
  · kernel_rfl
  · intro W hW 
    go_wp2_with fail
    refine (mul_any ys xs ysl.out xsl.out W).mono ?_
    rintro e w1 ⟨rfl, hg1⟩
    rw [Hm1c.out]
    go_wp2
    exact ⟨rfl, rfl, hg1, rfl⟩
  intro k1 a1 hk1 ha1
  simp only [Nat.reduceAdd] at hk1
  simp only [Act.put, List.setIfInBounds_toArray, List.set_cons_succ, List.set_cons_zero] at ha1
  subst hk1 ha1
  apply Mono.is0
  · kernel_rfl
  · intro W hW 
    have he : (Op.equalIn 10000 22 (.agg ((m1).map b8).toArray) (.agg ((m1).map b8).toArray)).run Try.prog W = .ok true W := (run_equalIn_bytes W 9998 22 5 16 (m1) (m1) m1l.out m1l.out Try.arr16 Try.underlying5 Try.sizeByte).trans (by rw [beq_self_eq_true])
    go_wp2
    refine ⟨rfl, rfl, Grows.refl _, ?_⟩
    unfold Oper.valAt
    go_simp
  intro k1 a1 hk1 ha1
  simp only [Nat.reduceAdd] at hk1
  simp only [Act.put, List.setIfInBounds_toArray, List.set_cons_succ, List.set_cons_zero] at ha1
  subst hk1 ha1
  apply Mono.is0
  · kernel_rfl
  · intro W hW
    go_wp2
    refine ⟨rfl, rfl, Grows.refl _, ?_⟩
    unfold Oper.valAt
    go_simp
    rfl
  intro k1 a1 hk1 ha1
  simp only [Nat.reduceAdd] at hk1
  simp only [Act.put, List.setIfInBounds_toArray, List.set_cons_succ, List.set_cons_zero] at ha1
  subst hk1 ha1
  apply Mono.is0
  · kernel_rfl
  · intro W hW 
    go_wp2_with (refine wpList_load_blk (by kernel_rfl) _ _ rfl (w.heap.size) rfl 22 ((xs).map b8).toArray _ (HC0.out.grows hW) Try.underlying22 rfl (by rw [Try.size16]; simp [xsl.out]) ?_)
    exact ⟨rfl, rfl, Grows.refl _, rfl⟩
  intro k1 a1 hk1 ha1
  simp only [Nat.reduceAdd] at hk1
  simp only [Act.put, List.setIfInBounds_toArray, List.set_cons_succ, List.set_cons_zero] at ha1
  subst hk1 ha1
  apply Mono.is0
  · kernel_rfl
  · intro W hW 
    go_wp2_with (refine wpList_load_blk (by kernel_rfl) _ _ rfl (w.heap.size + 1) rfl 22 ((ys).map b8).toArray _ (HC1.out.grows hW) Try.underlying22 rfl (by rw [Try.size16]; simp [ysl.out]) ?_)
    exact ⟨rfl, rfl, Grows.refl _, rfl⟩
  intro k1 a1 hk1 ha1
  simp only [Nat.reduceAdd] at hk1
  simp only [Act.put, List.setIfInBounds_toArray, List.set_cons_succ, List.set_cons_zero] at ha1
  subst hk1 ha1
  apply Mono.is0
  · kernel_rfl
  · intro W hW 
    go_wp2_with fail
    refine (mul_any xs ys xsl.out ysl.out W).mono ?_
    rintro e w1 ⟨rfl, hg1⟩
    rw [Hm1.out]
    go_wp2
    exact ⟨rfl, rfl, hg1, rfl⟩
  intro k1 a1 hk1 ha1
  simp only [Nat.reduceAdd] at hk1
  simp only [Act.put, List.setIfInBounds_toArray, List.set_cons_succ, List.set_cons_zero] at ha1
  subst hk1 ha1
  apply Mono.is0
  · kernel_rfl
  · intro W hW 
    go_wp2_with (refine wpList_load_blk (by kernel_rfl) _ _ rfl (w.heap.size + 2) rfl 22 ((zs).map b8).toArray _ (HC2.out.grows hW) Try.underlying22 rfl (by rw [Try.size16]; simp [zsl.out]) ?_)
    exact ⟨rfl, rfl, Grows.refl _, rfl⟩
  intro k1 a1 hk1 ha1
  simp only [Nat.reduceAdd] at hk1
  simp only [Act.put, List.setIfInBounds_toArray, List.set_cons_succ, List.set_cons_zero] at ha1
  subst hk1 ha1
  apply Mono.is0
  · kernel_rfl
  · intro W hW 
    go_wp2_with fail
    refine (mul_any m1 zs m1l.out zsl.out W).mono ?_
    rintro e w1 ⟨rfl, hg1⟩
    rw [Hm2.out]
    go_wp2
    exact ⟨rfl, rfl, hg1, rfl⟩
  intro k1 a1 hk1 ha1
  simp only [Nat.reduceAdd] at hk1
  simp only [Act.put, List.setIfInBounds_toArray, List.set_cons_succ, List.set_cons_zero] at ha1
  subst hk1 ha1
  apply Mono.is0
  · kernel_rfl
  · intro W hW 
    go_wp2_with (refine wpList_load_blk (by kernel_rfl) _ _ rfl (w.heap.size) rfl 22 ((xs).map b8).toArray _ (HC0.out.grows hW) Try.underlying22 rfl (by rw [Try.size16]; simp [xsl.out]) ?_)
    exact ⟨rfl, rfl, Grows.refl _, rfl⟩
  intro k1 a1 hk1 ha1
  simp only [Nat.reduceAdd] at hk1
  simp only [Act.put, List.setIfInBounds_toArray, List.set_cons_succ, List.set_cons_zero] at ha1
  subst hk1 ha1
  apply Mono.is0
  · kernel_rfl
  · intro W hW 
    go_wp2_with (refine wpList_load_blk (by kernel_rfl) _ _ rfl (w.heap.size + 1) rfl 22 ((ys).map b8).toArray _ (HC1.out.grows hW) Try.underlying22 rfl (by rw [Try.size16]; simp [ysl.out]) ?_)
    exact ⟨rfl, rfl, Grows.refl _, rfl⟩
  intro k1 a1 hk1 ha1
  simp only [Nat.reduceAdd] at hk1
  simp only [Act.put, List.setIfInBounds_toArray, List.set_cons_succ, List.set_cons_zero] at ha1
  subst hk1 ha1
  apply Mono.is0
  · kernel_rfl
  · intro W hW 
    go_wp2_with (refine wpList_load_blk (by kernel_rfl) _ _ rfl (w.heap.size + 2) rfl 22 ((zs).map b8).toArray _ (HC2.out.grows hW) Try.underlying22 rfl (by rw [Try.size16]; simp [zsl.out]) ?_)
    exact ⟨rfl, rfl, Grows.refl _, rfl⟩
  intro k1 a1 hk1 ha1
  simp only [Nat.reduceAdd] at hk1
  simp only [Act.put, List.setIfInBounds_toArray, List.set_cons_succ, List.set_cons_zero] at ha1
  subst hk1 ha1
  apply Mono.is0
  · kernel_rfl
  · intro W hW 
    go_wp2_with fail
    refine (mul_any ys zs ysl.out zsl.out W).mono ?_
    rintro e w1 ⟨rfl, hg1⟩
    rw [Hm3.out]
    go_wp2
    exact ⟨rfl, rfl, hg1, rfl⟩
  intro k1 a1 hk1 ha1
  simp only [Nat.reduceAdd] at hk1
  simp only [Act.put, List.setIfInBounds_toArray, List.set_cons_succ, List.set_cons_zero] at ha1
  subst hk1 ha1
  apply Mono.is0
  · kernel_rfl
  · intro W hW 
    go_wp2_with fail
    refine (mul_any xs m3 xsl.out m3l.out W).mono ?_
    rintro e w1 ⟨rfl, hg1⟩
    rw [Hm2c.out]
    go_wp2
    exact ⟨rfl, rfl, hg1, rfl⟩
  intro k1 a1 hk1 ha1
  simp only [Nat.reduceAdd] at hk1
  simp only [Act.put, List.setIfInBounds_toArray, List.set_cons_succ, List.set_cons_zero] at ha1
  subst hk1 ha1
  apply Mono.is0
  · kernel_rfl
  · intro W hW 
    have he : (Op.equalIn 10000 22 (.agg ((m2).map b8).toArray) (.agg ((m2).map b8).toArray)).run Try.prog W = .ok true W := (run_equalIn_bytes W 9998 22 5 16 (m2) (m2) m2l.out m2l.out Try.arr16 Try.underlying5 Try.sizeByte).trans (by rw [beq_self_eq_true])
    go_wp2
    refine ⟨rfl, rfl, Grows.refl _, ?_⟩
    unfold Oper.valAt
    go_simp
  intro k1 a1 hk1 ha1
  simp only [Nat.reduceAdd] at hk1
  simp only [Act.put, List.setIfInBounds_toArray, List.set_cons_succ, List.set_cons_zero] at ha1
  subst hk1 ha1
  apply Mono.is0
  · kernel_rfl
  · intro W hW
    go_wp2
    refine ⟨rfl, rfl, Grows.refl _, ?_⟩
    unfold Oper.valAt
    go_simp
    rfl
  intro k1 a1 hk1 ha1
  simp only [Nat.reduceAdd] at hk1
  simp only [Act.put, List.setIfInBounds_toArray, List.set_cons_succ, List.set_cons_zero] at ha1
  subst hk1 ha1
  refine Mono.done ?_
  intro wm hgm
  simp only [allF, List.drop_succ_cons, List.drop_nil]
  go_upto_region 4 with fail
  apply wp_region_mono 31 ((.is (.agg ((xs).map b8).toArray), []) :: (.is (.agg ((ys).map b8).toArray), []) :: (.is (.agg ((zs).map b8).toArray), []) :: (.is (.agg ((bo).map b8).toArray), []) :: (.is (.agg ((q).map b8).toArray), []) :: (.is (.agg ((xs).map b8).toArray), []) :: (.is (.agg ((ys).map b8).toArray), []) :: (.is (.agg ((m1).map b8).toArray), []) :: (.is (.agg ((xs).map b8).toArray), []) :: (.is (.agg ((zs).map b8).toArray), []) :: (.is (.agg ((r).map b8).toArray), []) :: (.is (.agg ((q).map b8).toArray), []) :: (.is (.bool true), []) :: (.is _, []) :: (.is (.agg ((xs).map b8).toArray), []) :: (.is (.agg ((ob).map b8).toArray), []) :: (.is (.agg ((xs).map b8).toArray), []) :: (.is (.agg ((xs).map b8).toArray), []) :: (.is (.bool true), []) :: (.is _, []) :: (.is _, []) :: (.is (.agg ((xs).map b8).toArray), []) :: (.is (.agg (zb.map b8).toArray), []) :: (.is (.agg ((zb).map b8).toArray), []) :: (.is (.agg (zb.map b8).toArray), []) :: (.is (.bool true), []) :: (.is _, []) :: (.is _, []) :: (.is (.bool true), []) :: (.is _, []) :: (.is _, []) :: []) (by kernel_rfl) (by kernel_rfl)
  apply Mono.is0
  · kernel_rfl
  · intro W hW 
    go_wp2_with (refine wpList_load_blk (by kernel_rfl) _ _ rfl (w.heap.size) rfl 22 ((xs).map b8).toArray _ (HC0.out.grows (hgm.trans hW)) Try.underlying22 rfl (by rw [Try.size16]; simp [xsl.out]) ?_)
    exact ⟨rfl, rfl, Grows.refl _, rfl⟩
  intro k1 a1 hk1 ha1
  simp only [Nat.reduceAdd] at hk1
  simp only [Act.put, List.setIfInBounds_toArray, List.set_cons_succ, List.set_cons_zero] at ha1
  subst hk1 ha1
  apply Mono.is0
  · kernel_rfl
  · intro W hW 
    go_wp2_with (refine wpList_load_blk (by kernel_rfl) _ _ rfl (w.heap.size + 1) rfl 22 ((ys).map b8).toArray _ (HC1.out.grows (hgm.trans hW)) Try.underlying22 rfl (by rw [Try.size16]; simp [ysl.out]) ?_)
    exact ⟨rfl, rfl, Grows.refl _, rfl⟩
  intro k1 a1 hk1 ha1
  simp only [Nat.reduceAdd] at hk1
  simp only [Act.put, List.setIfInBounds_toArray, List.set_cons_succ, List.set_cons_zero] at ha1
  subst hk1 ha1
  apply Mono.is0
  · kernel_rfl
  · intro W hW 
    go_wp2_with (refine wpList_load_blk (by kernel_rfl) _ _ rfl (w.heap.size + 2) rfl 22 ((zs).map b8).toArray _ (HC2.out.grows (hgm.trans hW)) Try.underlying22 rfl (by rw [Try.size16]; simp [zsl.out]) ?_)
    exact ⟨rfl, rfl, Grows.refl _, rfl⟩
  intro k1 a1 hk1 ha1
  simp only [Nat.reduceAdd] at hk1
  simp only [Act.put, List.setIfInBounds_toArray, List.set_cons_succ, List.set_cons_zero] at ha1
  subst hk1 ha1
  apply Mono.is0
  · kernel_rfl
  · intro W hW 
    go_wp2_with fail
    refine (both_any ys zs ysl.out zsl.out W).mono ?_
    rintro e w1 ⟨rfl, hg1⟩
    rw [Hbo.out]
    go_wp2
    exact ⟨rfl, rfl, hg1, rfl⟩
  intro k1 a1 hk1 ha1
  simp only [Nat.reduceAdd] at hk1
  simp only [Act.put, List.setIfInBounds_toArray, List.set_cons_succ, List.set_cons_zero] at ha1
  subst hk1 ha1
  apply Mono.is0
  · kernel_rfl
  · intro W hW 
    go_wp2_with fail
    refine (mul_any xs bo xsl.out bol.out W).mono ?_
    rintro e w1 ⟨rfl, hg1⟩
    rw [Hq.out]
    go_wp2
    exact ⟨rfl, rfl, hg1, rfl⟩
  intro k1 a1 hk1 ha1
  simp only [Nat.reduceAdd] at hk1
  simp only [Act.put, List.setIfInBounds_toArray, List.set_cons_succ, List.set_cons_zero] at ha1
  subst hk1 ha1
  apply Mono.is0
  · kernel_rfl
  · intro W hW 
    go_wp2_with (refine wpList_load_blk (by kernel_rfl) _ _ rfl (w.heap.size) rfl 22 ((xs).map b8).toArray _ (HC0.out.grows (hgm.trans hW)) Try.underlying22 rfl (by rw [Try.size16]; simp [xsl.out]) ?_)
    exact ⟨rfl, rfl, Grows.refl _, rfl⟩
  intro k1 a1 hk1 ha1
  simp only [Nat.reduceAdd] at hk1
  simp only [Act.put, List.setIfInBounds_toArray, List.set_cons_succ, List.set_cons_zero] at ha1
  subst hk1 ha1
  apply Mono.is0
  · kernel_rfl
  · intro W hW 
    go_wp2_with (refine wpList_load_blk (by kernel_rfl) _ _ rfl (w.heap.size + 1) rfl 22 ((ys).map b8).toArray _ (HC1.out.grows (hgm.trans hW)) Try.underlying22 rfl (by rw [Try.size16]; simp [ysl.out]) ?_)
    exact ⟨rfl, rfl, Grows.refl _, rfl⟩
  intro k1 a1 hk1 ha1
  simp only [Nat.reduceAdd] at hk1
  simp only [Act.put, List.setIfInBounds_toArray, List.set_cons_succ, List.set_cons_zero] at ha1
  subst hk1 ha1
  apply Mono.is0
  · kernel_rfl
  · intro W hW 
    go_wp2_with fail
    refine (mul_any xs ys xsl.out ysl.out W).mono ?_
    rintro e w1 ⟨rfl, hg1⟩
    rw [Hm1.out]
    go_wp2
    exact ⟨rfl, rfl, hg1, rfl⟩
  intro k1 a1 hk1 ha1
  simp only [Nat.reduceAdd] at hk1
  simp only [Act.put, List.setIfInBounds_toArray, List.set_cons_succ, List.set_cons_zero] at ha1
  subst hk1 ha1
  apply Mono.is0
  · kernel_rfl
  · intro W hW 
    go_wp2_with (refine wpList_load_blk (by kernel_rfl) _ _ rfl (w.heap.size) rfl 22 ((xs).map b8).toArray _ (HC0.out.grows (hgm.trans hW)) Try.underlying22 rfl (by rw [Try.size16]; simp [xsl.out]) ?_)
    exact ⟨rfl, rfl, Grows.refl _, rfl⟩
  intro k1 a1 hk1 ha1
  simp only [Nat.reduceAdd] at hk1
  simp only [Act.put, List.setIfInBounds_toArray, List.set_cons_succ, List.set_cons_zero] at ha1
  subst hk1 ha1
  apply Mono.is0
  · kernel_rfl
  · intro W hW 
    go_wp2_with (refine wpList_load_blk (by kernel_rfl) _ _ rfl (w.heap.size + 2) rfl 22 ((zs).map b8).toArray _ (HC2.out.grows (hgm.trans hW)) Try.underlying22 rfl (by rw [Try.size16]; simp [zsl.out]) ?_)
    exact ⟨rfl, rfl, Grows.refl _, rfl⟩
  intro k1 a1 hk1 ha1
  simp only [Nat.reduceAdd] at hk1
  simp only [Act.put, List.setIfInBounds_toArray, List.set_cons_succ, List.set_cons_zero] at ha1
  subst hk1 ha1
  apply Mono.is0
  · kernel_rfl
  · intro W hW 
    go_wp2_with fail
    refine (mul_any xs zs xsl.out zsl.out W).mono ?_
    rintro e w1 ⟨rfl, hg1⟩
    rw [Hr.out]
    go_wp2
    exact ⟨rfl, rfl, hg1, rfl⟩
  intro k1 a1 hk1 ha1
  simp only [Nat.reduceAdd] at hk1
  simp only [Act.put, List.setIfInBounds_toArray, List.set_cons_succ, List.set_cons_zero] at ha1
  subst hk1 ha1
  apply Mono.is0
  · kernel_rfl
  · intro W hW 
    go_wp2_with fail
    refine (both_any m1 r m1l.out rl.out W).mono ?_
    rintro e w1 ⟨rfl, hg1⟩
    rw [Hqc.out]
    go_wp2
    exact ⟨rfl, rfl, hg1, rfl⟩
  intro k1 a1 hk1 ha1
  simp only [Nat.reduceAdd] at hk1
  simp only [Act.put, List.setIfInBounds_toArray, List.set_cons_succ, List.set_cons_zero] at ha1
  subst hk1 ha1
  apply Mono.is0
  · kernel_rfl
  · intro W hW 
    have he : (Op.equalIn 10000 22 (.agg ((q).map b8).toArray) (.agg ((q).map b8).toArray)).run Try.prog W = .ok true W := (run_equalIn_bytes W 9998 22 5 16 (q) (q) ql.out ql.out Try.arr16 Try.underlying5 Try.sizeByte).trans (by rw [beq_self_eq_true])
    go_wp2
    refine ⟨rfl, rfl, Grows.refl _, ?_⟩
    unfold Oper.valAt
    go_simp
  intro k1 a1 hk1 ha1
  simp only [Nat.reduceAdd] at hk1
  simp only [Act.put, List.setIfInBounds_toArray, List.set_cons_succ, List.set_cons_zero] at ha1
  subst hk1 ha1
  apply Mono.is0
  · kernel_rfl
  · intro W hW
    go_wp2
    refine ⟨rfl, rfl, Grows.refl _, ?_⟩
    unfold Oper.valAt
    go_simp
    rfl
  intro k1 a1 hk1 ha1
  simp only [Nat.reduceAdd] at hk1
  simp only [Act.put, List.setIfInBounds_toArray, List.set_cons_succ, List.set_cons_zero] at ha1
  subst hk1 ha1
  apply Mono.is0
  · kernel_rfl
  · intro W hW 
    go_wp2_with (refine wpList_load_blk (by kernel_rfl) _ _ rfl (w.heap.size) rfl 22 ((xs).map b8).toArray _ (HC0.out.grows (hgm.trans hW)) Try.underlying22 rfl (by rw [Try.size16]; simp [xsl.out]) ?_)
    exact ⟨rfl, rfl, Grows.refl _, rfl⟩
  intro k1 a1 hk1 ha1
  simp only [Nat.reduceAdd] at hk1
  simp only [Act.put, List.setIfInBounds_toArray, List.set_cons_succ, List.set_cons_zero] at ha1
  subst hk1 ha1
  apply Mono.is0
  · kernel_rfl
  · intro W hW 
    go_wp2_with (refine wpList_load_blk (by kernel_rfl) _ _ rfl (w.heap.size + 3) rfl 22 ((ob).map b8).toArray _ (HC3.out.grows (hgm.trans hW)) Try.underlying22 rfl (by rw [Try.size16]; simp [obl.out]) ?_)
    exact ⟨rfl, rfl, Grows.refl _, rfl⟩
  intro k1 a1 hk1 ha1
  simp only [Nat.reduceAdd] at hk1
  simp only [Act.put, List.setIfInBounds_toArray, List.set_cons_succ, List.set_cons_zero] at ha1
  subst hk1 ha1
  apply Mono.is0
  · kernel_rfl
  · intro W hW 
    go_wp2_with fail
    refine (mul_any xs ob xsl.out obl.out W).mono ?_
    rintro e w1 ⟨rfl, hg1⟩
    rw [Ho.out]
    go_wp2
    exact ⟨rfl, rfl, hg1, rfl⟩
  intro k1 a1 hk1 ha1
  simp only [Nat.reduceAdd] at hk1
  simp only [Act.put, List.setIfInBounds_toArray, List.set_cons_succ, List.set_cons_zero] at ha1
  subst hk1 ha1
  apply Mono.is0
  · kernel_rfl
  · intro W hW 
    go_wp2_with (refine wpList_load_blk (by kernel_rfl) _ _ rfl (w.heap.size) rfl 22 ((xs).map b8).toArray _ (HC0.out.grows (hgm.trans hW)) Try.underlying22 rfl (by rw [Try.size16]; simp [xsl.out]) ?_)
    exact ⟨rfl, rfl, Grows.refl _, rfl⟩
  intro k1 a1 hk1 ha1
  simp only [Nat.reduceAdd] at hk1
  simp only [Act.put, List.setIfInBounds_toArray, List.set_cons_succ, List.set_cons_zero] at ha1
  subst hk1 ha1
  apply Mono.is0
  · kernel_rfl
  · intro W hW 
    have he : (Op.equalIn 10000 22 (.agg ((xs).map b8).toArray) (.agg ((xs).map b8).toArray)).run Try.prog W = .ok true W := (run_equalIn_bytes W 9998 22 5 16 (xs) (xs) xsl.out xsl.out Try.arr16 Try.underlying5 Try.sizeByte).trans (by rw [beq_self_eq_true])
    go_wp2
    refine ⟨rfl, rfl, Grows.refl _, ?_⟩
    unfold Oper.valAt
    go_simp
  intro k1 a1 hk1 ha1
  simp only [Nat.reduceAdd] at hk1
  simp only [Act.put, List.setIfInBounds_toArray, List.set_cons_succ, List.set_cons_zero] at ha1
  subst hk1 ha1
  iterate 2
    apply Mono.is0
    · kernel_rfl
    · intro W hW
      go_wp2
      refine ⟨rfl, rfl, Grows.refl _, ?_⟩
      unfold Oper.valAt
      go_simp
      rfl
    intro k1 a1 hk1 ha1
    simp only [Nat.reduceAdd] at hk1
    simp only [Act.put, List.setIfInBounds_toArray, List.set_cons_succ, List.set_cons_zero] at ha1
    subst hk1 ha1
  apply Mono.is0
  · kernel_rfl
  · intro W hW 
    go_wp2_with (refine wpList_load_blk (by kernel_rfl) _ _ rfl (w.heap.size) rfl 22 ((xs).map b8).toArray _ (HC0.out.grows (hgm.trans hW)) Try.underlying22 rfl (by rw [Try.size16]; simp [xsl.out]) ?_)
    exact ⟨rfl, rfl, Grows.refl _, rfl⟩
  intro k1 a1 hk1 ha1
  simp only [Nat.reduceAdd] at hk1
  simp only [Act.put, List.setIfInBounds_toArray, List.set_cons_succ, List.set_cons_zero] at ha1
  subst hk1 ha1
  apply Mono.is0
  · kernel_rfl
  · intro W hW 
    go_wp2
    refine ⟨rfl, rfl, Grows.refl _, ?_⟩
    unfold Oper.valAt
    go_simp
    rw [← Hzb.out]
    rfl
  intro k1 a1 hk1 ha1
  simp only [Nat.reduceAdd] at hk1
  simp only [Act.put, List.setIfInBounds_toArray, List.set_cons_succ, List.set_cons_zero] at ha1
  subst hk1 ha1
  apply Mono.is0
  · kernel_rfl
  · intro W hW 
    go_wp2_with fail
    refine (mul_any xs zb xsl.out zbl.out W).mono ?_
    rintro e w1 ⟨rfl, hg1⟩
    rw [Hz.out]
    go_wp2
    exact ⟨rfl, rfl, hg1, rfl⟩
  intro k1 a1 hk1 ha1
  simp only [Nat.reduceAdd] at hk1
  simp only [Act.put, List.setIfInBounds_toArray, List.set_cons_succ, List.set_cons_zero] at ha1
  subst hk1 ha1
  apply Mono.is0
  · kernel_rfl
  · intro W hW 
    go_wp2
    refine ⟨rfl, rfl, Grows.refl _, ?_⟩
    unfold Oper.valAt
    go_simp
    rw [← Hzb.out]
    rfl
  intro k1 a1 hk1 ha1
  simp only [Nat.reduceAdd] at hk1
  simp only [Act.put, List.setIfInBounds_toArray, List.set_cons_succ, List.set_cons_zero] at ha1
  subst hk1 ha1
  apply Mono.is0
  · kernel_rfl
  · intro W hW 
    have he : (Op.equalIn 10000 22 (.agg ((zb).map b8).toArray) (.agg ((zb).map b8).toArray)).run Try.prog W = .ok true W := (run_equalIn_bytes W 9998 22 5 16 (zb) (zb) zbl.out zbl.out Try.arr16 Try.underlying5 Try.sizeByte).trans (by rw [beq_self_eq_true])
    go_wp2
    refine ⟨rfl, rfl, Grows.refl _, ?_⟩
    unfold Oper.valAt
    go_simp
  intro k1 a1 hk1 ha1
  simp only [Nat.reduceAdd] at hk1
  simp only [Act.put, List.setIfInBounds_toArray, List.set_cons_succ, List.set_cons_zero] at ha1
  subst hk1 ha1
  iterate 2
    apply Mono.is0
    · kernel_rfl
    · intro W hW
      go_wp2
      refine ⟨rfl, rfl, Grows.refl _, ?_⟩
      unfold Oper.valAt
      go_simp
      rfl
    intro k1 a1 hk1 ha1
    simp only [Nat.reduceAdd] at hk1
    simp only [Act.put, List.setIfInBounds_toArray, List.set_cons_succ, List.set_cons_zero] at ha1
    subst hk1 ha1
  apply Mono.is0
  · kernel_rfl
  · intro W hW 
    go_wp2_with fail
    refine (awake6_any W).mono ?_
    rintro e w1 ⟨rfl, hg1⟩
    go_wp2
    exact ⟨rfl, rfl, hg1, rfl⟩
  intro k1 a1 hk1 ha1
  simp only [Nat.reduceAdd] at hk1
  simp only [Act.put, List.setIfInBounds_toArray, List.set_cons_succ, List.set_cons_zero] at ha1
  subst hk1 ha1
  iterate 2
    apply Mono.is0
    · kernel_rfl
    · intro W hW
      go_wp2
      refine ⟨rfl, rfl, Grows.refl _, ?_⟩
      unfold Oper.valAt
      go_simp
      rfl
    intro k1 a1 hk1 ha1
    simp only [Nat.reduceAdd] at hk1
    simp only [Act.put, List.setIfInBounds_toArray, List.set_cons_succ, List.set_cons_zero] at ha1
    subst hk1 ha1
  refine Mono.done ?_
  intro wn hgn
  simp only [allF, List.drop_succ_cons, List.drop_nil]
  go_wp2
  go_ret
  exact ⟨rfl, (hg0.trans hgm).trans hgn⟩

set_option maxRecDepth 100000 in
set_option maxHeartbeats 4000000 in
theorem walk_GhashApart (xs ys zs : List UInt8) (w : World) (hx : xs.length = 16) (hy : ys.length = 16) (hz : zs.length = 16) :
    Calls Try.prog 5 #[.agg (xs.map b8).toArray, .agg (ys.map b8).toArray, .agg (zs.map b8).toArray] w fun e w' => e = .returned (.bool true) ∧ Below w.heap.size w w' := by
  obtain ⟨zb, Hzb, zbl⟩ : ∃ v : List UInt8, Hid (zeroB = v) ∧ Hid (v.length = 16) := ⟨_, lib_hid rfl, lib_hid (rfl)⟩
  have Hzc : Hid ((#[.int .u8 0, .int .u8 0, .int .u8 0, .int .u8 0, .int .u8 0, .int .u8 0, .int .u8 0, .int .u8 0, .int .u8 0, .int .u8 0, .int .u8 0, .int .u8 0, .int .u8 0, .int .u8 0, .int .u8 0, .int .u8 0] : Array Value) = (zb.map b8).toArray) := by unfold Hid; rw [← Hzb.out]; exact zeros16
  have xsl := lib_hid hx
  have ysl := lib_hid hy
  have zsl := lib_hid hz
  obtain ⟨W0, HW0, hW0, hg0⟩ : ∃ W0 : World, Hid (W0 = ((w.alloc (.cells (xs.map b8).toArray 22)).alloc (.cells (ys.map b8).toArray 22)).alloc (.cells (zs.map b8).toArray 22)) ∧ W0.heap.size = w.heap.size + 3 ∧ Grows w W0 := ⟨_, lib_hid rfl, by simp, (((Grows.refl w).alloc _).alloc _).alloc _⟩
  have HB0 : Hid (Blk W0 w.heap.size 22 (xs.map b8).toArray) := by
    unfold Hid; rw [HW0.out]; have := ((Blk.new (w) 22 (xs.map b8).toArray).alloc (.cells (ys.map b8).toArray 22)).alloc (.cells (zs.map b8).toArray 22); simpa using this
  have HB1 : Hid (Blk W0 (w.heap.size + 1) 22 (ys.map b8).toArray) := by
    unfold Hid; rw [HW0.out]; have := (Blk.new (w.alloc (.cells (xs.map b8).toArray 22)) 22 (ys.map b8).toArray).alloc (.cells (zs.map b8).toArray 22); simpa using this
  have HB2 : Hid (Blk W0 (w.heap.size + 2) 22 (zs.map b8).toArray) := by
    unfold Hid; rw [HW0.out]; have := Blk.new ((w.alloc (.cells (xs.map b8).toArray 22)).alloc (.cells (ys.map b8).toArray 22)) 22 (zs.map b8).toArray; simpa using this
  have HW0' := HW0.out
  obtain ⟨b0, Hb0⟩ : ∃ b0 : Bool, Hid ((zs == zb) = b0) := ⟨_, lib_hid rfl⟩
  have he : ∀ W, (Op.equalIn 10000 22 (.agg (zs.map b8).toArray) (.agg (zb.map b8).toArray)).run Try.prog W = .ok b0 W := fun W => (run_equalIn_bytes W 9998 22 5 16 zs zb zsl.out zbl.out Try.arr16 Try.underlying5 Try.sizeByte).trans (by rw [Hb0.out])
  have hzc := Hzc.out
  cases b0 with
  | true =>
    clear hx hy hz
    go_enter Try.func5, Try.ntmps5
    go_upto_region 1 with fail
    rw [← HW0']
    clear HW0'
    go_wp2_with (first
        | (refine wpList_load_blk rfl _ _ rfl (w.heap.size + 2) rfl _ (zs.map b8).toArray _ HB2.out Try.underlying22 rfl (by rw [Try.size16]; simp [zsl.out]) ?_))
    go_ret
    exact ⟨rfl, hg0⟩
  | false =>
    have hne : zs ≠ zeroB := fun h => by have := Hb0.out; rw [h, Hzb.out, beq_self_eq_true] at this; cases this
    obtain ⟨p, Hp, pl⟩ : ∃ v : List UInt8, Hid (mulF xs zs = v) ∧ Hid (v.length = 16) := ⟨_, lib_hid rfl, lib_hid (mulF_len _ _)⟩
    obtain ⟨p2, Hp2, p2l⟩ : ∃ v : List UInt8, Hid (mulF ys zs = v) ∧ Hid (v.length = 16) := ⟨_, lib_hid rfl, lib_hid (mulF_len _ _)⟩
    obtain ⟨bq, Hbq⟩ : ∃ v, Hid ((xs == ys) = v) := ⟨_, lib_hid rfl⟩
    have Hxy := Hbq
    have Hbq : Hid ((p == p2) = bq) := by unfold Hid; rw [← Hxy.out, ← Hp.out, ← Hp2.out]; exact eq_iff_b _ _ _ _ (mulF_apart xs ys zs hx hy hz hne)
    clear hx hy hz
    go_enter Try.func5, Try.ntmps5
    go_upto_region 1 with fail
    rw [← HW0']
    clear HW0'
    go_wp2_with (first
        | (refine wpList_load_blk rfl _ _ rfl (w.heap.size + 2) rfl _ (zs.map b8).toArray _ HB2.out Try.underlying22 rfl (by rw [Try.size16]; simp [zsl.out]) ?_))
    clear he hzc
    apply wp_region_mono 15 ((.is (.agg ((xs).map b8).toArray), []) :: (.is (.agg ((zs).map b8).toArray), []) :: (.is (.agg ((p).map b8).toArray), []) :: (.is (.agg ((ys).map b8).toArray), []) :: (.is (.agg ((zs).map b8).toArray), []) :: (.is (.agg ((p2).map b8).toArray), []) :: (.is (.bool bq), []) :: (.is (.agg ((xs).map b8).toArray), []) :: (.is (.agg ((ys).map b8).toArray), []) :: (.is (.bool bq), []) :: (.is (.bool true), []) :: (.is _, []) :: (.is (.bool true), []) :: (.is _, []) :: (.is _, []) :: []) (by kernel_rfl) (by kernel_rfl)
    apply Mono.is0
    · kernel_rfl
    · intro W hW 
      go_wp2_with (refine wpList_load_blk (by kernel_rfl) _ _ rfl (w.heap.size) rfl 22 ((xs).map b8).toArray _ (HB0.out.grows hW) Try.underlying22 rfl (by rw [Try.size16]; simp [xsl.out]) ?_)
      exact ⟨rfl, rfl, Grows.refl _, rfl⟩
    intro k1 a1 hk1 ha1
    simp only [Nat.reduceAdd] at hk1
    simp only [Act.put, List.setIfInBounds_toArray, List.set_cons_succ, List.set_cons_zero] at ha1
    subst hk1 ha1
    apply Mono.is0
    · kernel_rfl
    · intro W hW 
      go_wp2_with (refine wpList_load_blk (by kernel_rfl) _ _ rfl (w.heap.size + 2) rfl 22 ((zs).map b8).toArray _ (HB2.out.grows hW) Try.underlying22 rfl (by rw [Try.size16]; simp [zsl.out]) ?_)
      exact ⟨rfl, rfl, Grows.refl _, rfl⟩
    intro k1 a1 hk1 ha1
    simp only [Nat.reduceAdd] at hk1
    simp only [Act.put, List.setIfInBounds_toArray, List.set_cons_succ, List.set_cons_zero] at ha1
    subst hk1 ha1
    apply Mono.is0
    · kernel_rfl
    · intro W hW 
      go_wp2_with fail
      refine (mul_any xs zs xsl.out zsl.out W).mono ?_
      rintro e w1 ⟨rfl, hg1⟩
      rw [Hp.out]
      go_wp2
      exact ⟨rfl, rfl, hg1, rfl⟩
    intro k1 a1 hk1 ha1
    simp only [Nat.reduceAdd] at hk1
    simp only [Act.put, List.setIfInBounds_toArray, List.set_cons_succ, List.set_cons_zero] at ha1
    subst hk1 ha1
    apply Mono.is0
    · kernel_rfl
    · intro W hW 
      go_wp2_with (refine wpList_load_blk (by kernel_rfl) _ _ rfl (w.heap.size + 1) rfl 22 ((ys).map b8).toArray _ (HB1.out.grows hW) Try.underlying22 rfl (by rw [Try.size16]; simp [ysl.out]) ?_)
      exact ⟨rfl, rfl, Grows.refl _, rfl⟩
    intro k1 a1 hk1 ha1
    simp only [Nat.reduceAdd] at hk1
    simp only [Act.put, List.setIfInBounds_toArray, List.set_cons_succ, List.set_cons_zero] at ha1
    subst hk1 ha1
    apply Mono.is0
    · kernel_rfl
    · intro W hW 
      go_wp2_with (refine wpList_load_blk (by kernel_rfl) _ _ rfl (w.heap.size + 2) rfl 22 ((zs).map b8).toArray _ (HB2.out.grows hW) Try.underlying22 rfl (by rw [Try.size16]; simp [zsl.out]) ?_)
      exact ⟨rfl, rfl, Grows.refl _, rfl⟩
    intro k1 a1 hk1 ha1
    simp only [Nat.reduceAdd] at hk1
    simp only [Act.put, List.setIfInBounds_toArray, List.set_cons_succ, List.set_cons_zero] at ha1
    subst hk1 ha1
    apply Mono.is0
    · kernel_rfl
    · intro W hW 
      go_wp2_with fail
      refine (mul_any ys zs ysl.out zsl.out W).mono ?_
      rintro e w1 ⟨rfl, hg1⟩
      rw [Hp2.out]
      go_wp2
      exact ⟨rfl, rfl, hg1, rfl⟩
    intro k1 a1 hk1 ha1
    simp only [Nat.reduceAdd] at hk1
    simp only [Act.put, List.setIfInBounds_toArray, List.set_cons_succ, List.set_cons_zero] at ha1
    subst hk1 ha1
    apply Mono.is0
    · kernel_rfl
    · intro W hW 
      have he : (Op.equalIn 10000 22 (.agg ((p).map b8).toArray) (.agg ((p2).map b8).toArray)).run Try.prog W = .ok bq W := (run_equalIn_bytes W 9998 22 5 16 (p) (p2) pl.out p2l.out Try.arr16 Try.underlying5 Try.sizeByte).trans (by rw [Hbq.out])
      go_wp2
      refine ⟨rfl, rfl, Grows.refl _, ?_⟩
      unfold Oper.valAt
      go_simp
    intro k1 a1 hk1 ha1
    simp only [Nat.reduceAdd] at hk1
    simp only [Act.put, List.setIfInBounds_toArray, List.set_cons_succ, List.set_cons_zero] at ha1
    subst hk1 ha1
    apply Mono.is0
    · kernel_rfl
    · intro W hW 
      go_wp2_with (refine wpList_load_blk (by kernel_rfl) _ _ rfl (w.heap.size) rfl 22 ((xs).map b8).toArray _ (HB0.out.grows hW) Try.underlying22 rfl (by rw [Try.size16]; simp [xsl.out]) ?_)
      exact ⟨rfl, rfl, Grows.refl _, rfl⟩
    intro k1 a1 hk1 ha1
    simp only [Nat.reduceAdd] at hk1
    simp only [Act.put, List.setIfInBounds_toArray, List.set_cons_succ, List.set_cons_zero] at ha1
    subst hk1 ha1
    apply Mono.is0
    · kernel_rfl
    · intro W hW 
      go_wp2_with (refine wpList_load_blk (by kernel_rfl) _ _ rfl (w.heap.size + 1) rfl 22 ((ys).map b8).toArray _ (HB1.out.grows hW) Try.underlying22 rfl (by rw [Try.size16]; simp [ysl.out]) ?_)
      exact ⟨rfl, rfl, Grows.refl _, rfl⟩
    intro k1 a1 hk1 ha1
    simp only [Nat.reduceAdd] at hk1
    simp only [Act.put, List.setIfInBounds_toArray, List.set_cons_succ, List.set_cons_zero] at ha1
    subst hk1 ha1
    apply Mono.is0
    · kernel_rfl
    · intro W hW 
      have he : (Op.equalIn 10000 22 (.agg ((xs).map b8).toArray) (.agg ((ys).map b8).toArray)).run Try.prog W = .ok bq W := (run_equalIn_bytes W 9998 22 5 16 (xs) (ys) xsl.out ysl.out Try.arr16 Try.underlying5 Try.sizeByte).trans (by rw [Hxy.out])
      go_wp2
      refine ⟨rfl, rfl, Grows.refl _, ?_⟩
      unfold Oper.valAt
      go_simp
    intro k1 a1 hk1 ha1
    simp only [Nat.reduceAdd] at hk1
    simp only [Act.put, List.setIfInBounds_toArray, List.set_cons_succ, List.set_cons_zero] at ha1
    subst hk1 ha1
    apply Mono.is0
    · kernel_rfl
    · intro W hW 
      go_wp2
      refine ⟨rfl, rfl, Grows.refl _, ?_⟩
      unfold Oper.valAt
      go_simp
    intro k1 a1 hk1 ha1
    simp only [Nat.reduceAdd] at hk1
    simp only [Act.put, List.setIfInBounds_toArray, List.set_cons_succ, List.set_cons_zero] at ha1
    subst hk1 ha1
    apply Mono.is0
    · kernel_rfl
    · intro W hW
      go_wp2
      refine ⟨rfl, rfl, Grows.refl _, ?_⟩
      unfold Oper.valAt
      go_simp
      rfl
    intro k1 a1 hk1 ha1
    simp only [Nat.reduceAdd] at hk1
    simp only [Act.put, List.setIfInBounds_toArray, List.set_cons_succ, List.set_cons_zero] at ha1
    subst hk1 ha1
    apply Mono.is0
    · kernel_rfl
    · intro W hW 
      go_wp2_with fail
      refine (awake6_any W).mono ?_
      rintro e w1 ⟨rfl, hg1⟩
      go_wp2
      exact ⟨rfl, rfl, hg1, rfl⟩
    intro k1 a1 hk1 ha1
    simp only [Nat.reduceAdd] at hk1
    simp only [Act.put, List.setIfInBounds_toArray, List.set_cons_succ, List.set_cons_zero] at ha1
    subst hk1 ha1
    iterate 2
      apply Mono.is0
      · kernel_rfl
      · intro W hW
        go_wp2
        refine ⟨rfl, rfl, Grows.refl _, ?_⟩
        unfold Oper.valAt
        go_simp
        rfl
      intro k1 a1 hk1 ha1
      simp only [Nat.reduceAdd] at hk1
      simp only [Act.put, List.setIfInBounds_toArray, List.set_cons_succ, List.set_cons_zero] at ha1
      subst hk1 ha1
    refine Mono.done ?_
    intro wm hgm
    simp only [allF, List.drop_succ_cons, List.drop_nil]
    go_wp2
    go_ret
    exact ⟨rfl, hg0.trans hgm⟩

end Go.Proofs.Ytlnldflnanllmaa
