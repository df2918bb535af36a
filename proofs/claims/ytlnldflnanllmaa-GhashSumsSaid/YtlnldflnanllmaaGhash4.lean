/-
  The walks of ghash.Pad and of the helpers of layer 6's laws.
-/
import Derived.Test.YtlnldflnanllmaaGhashLe
import Derived.Deep.Cut
namespace Go.Proofs.Ytlnldflnanllmaa
open Go Go.RowKit
set_option linter.unusedSimpArgs false


def padF (n : Nat) : Nat := (16 - n % 16) % 16
set_option maxHeartbeats 1000000 in
theorem pad_any (n : Nat) (h0 : 1 ≤ n) (h1 : n ≤ 4611686018427387904) (w : World) :
    Calls Try.prog 16 #[.int .i64 (n : Int)] w fun e w' => e = .returned (.int .i64 (padF n : Nat)) ∧ w = w' := by
  have hlt : ¬ (n : Int) < 1 := by omega
  obtain ⟨r, hr, Hr, hr16⟩ : ∃ r : Nat, (n : Int).tmod 16 = (r : Int) ∧ Hid (n % 16 = r) ∧ r < 16 := ⟨n % 16, by rw [Int.tmod_eq_emod_of_nonneg (by omega)]; omega, lib_hid rfl, Nat.mod_lt _ (by omega)⟩
  obtain ⟨q, hq, Hq⟩ : ∃ q : Nat, (16 - (r : Int)).tmod 16 = (q : Int) ∧ Hid ((16 - r) % 16 = q) := ⟨(16 - r) % 16, by rw [Int.tmod_eq_emod_of_nonneg (by omega)]; omega, lib_hid rfl⟩
  go_enter Try.func16, Try.ntmps16
  go_wp2
  go_ret
  exact ⟨by unfold padF; rw [Hr.out, Hq.out]; rfl, rfl⟩

/-- Both, after k rounds. -/
def bothP (xs ys : List UInt8) (k : Nat) : List UInt8 := (List.zipWith (· ^^^ ·) (xs.take k) (ys.take k)) ++ xs.drop k
theorem bothP_len (xs ys : List UInt8) (k : Nat) (hx : xs.length = 16) (hy : ys.length = 16) (hk : k ≤ 16) : (bothP xs ys k).length = 16 := by simp [bothP, hx, hy]; omega
theorem bothP_at (xs ys : List UInt8) (k : Nat) (hx : xs.length = 16) (hy : ys.length = 16) (hk : k < 16) : (bothP xs ys k)[k]? = xs[k]? := by
  unfold bothP
  rw [List.getElem?_append_right (by simp [hx, hy]; omega)]
  simp [hx, hy, show min k 16 = k by omega]
theorem bothP_step (xs ys : List UInt8) (k : Nat) (hx : xs.length = 16) (hy : ys.length = 16) (hk : k < 16) : (bothP xs ys k).set k (xs[k]! ^^^ ys[k]!) = bothP xs ys (k + 1) := by
  apply List.ext_getElem?
  intro i
  have e1 : xs[k]! = xs[k]'(by omega) := by simp [show k < xs.length by omega]
  have e2 : ys[k]! = ys[k]'(by omega) := by simp [show k < ys.length by omega]
  rw [e1, e2, List.getElem?_set]
  unfold bothP
  by_cases hi : k = i
  · subst hi
    rw [if_pos rfl, if_pos (by simp [hx, hy]; omega), List.getElem?_append_left (by simp [hx, hy]; omega)]
    simp [List.getElem?_zipWith, List.getElem?_take, show k < xs.length by omega, show k < ys.length by omega]
  · rw [if_neg hi]
    by_cases hl : i < k
    · rw [List.getElem?_append_left (by simp [hx, hy]; omega), List.getElem?_append_left (by simp [hx, hy]; omega)]
      simp [List.getElem?_zipWith, List.getElem?_take, hl, show i < k + 1 by omega]
    · rw [List.getElem?_append_right (by simp [hx, hy]; omega), List.getElem?_append_right (by simp [hx, hy]; omega)]
      simp [hx, hy, show min k 16 = k by omega, show min (k + 1) 16 = k + 1 by omega]
      congr 1; omega
theorem bothP_zero (xs ys : List UInt8) : bothP xs ys 0 = xs := by simp [bothP]
theorem bothP_all (xs ys : List UInt8) (hx : xs.length = 16) (hy : ys.length = 16) : bothP xs ys 16 = List.zipWith (· ^^^ ·) xs ys := by
  unfold bothP
  rw [List.take_of_length_le (by omega), List.take_of_length_le (by omega), List.drop_of_length_le (by omega), List.append_nil]

set_option maxRecDepth 100000 in
set_option maxHeartbeats 4000000 in
theorem both_any (xs ys : List UInt8) (hx : xs.length = 16) (hy : ys.length = 16) (w : World) :
    Calls Try.prog 13 #[.agg (xs.map b8).toArray, .agg (ys.map b8).toArray] w fun e w' => e = .returned (.agg ((List.zipWith (· ^^^ ·) xs ys).map b8).toArray) ∧ Grows w w' := by
  obtain ⟨W0, HW0, hW0, hg0⟩ : ∃ W0 : World, Hid (W0 = ((w.alloc (.cells (xs.map b8).toArray 22)).alloc (.cells (ys.map b8).toArray 22)).alloc (.cells #[.int .u8 0, .int .u8 0, .int .u8 0, .int .u8 0, .int .u8 0, .int .u8 0, .int .u8 0, .int .u8 0, .int .u8 0, .int .u8 0, .int .u8 0, .int .u8 0, .int .u8 0, .int .u8 0, .int .u8 0, .int .u8 0] 22)) ∧ W0.heap.size = w.heap.size + 3 ∧ Grows w W0 := ⟨_, lib_hid rfl, by simp, (((Grows.refl w).alloc _).alloc _).alloc _⟩
  have HB0 : Hid (Blk W0 w.heap.size 22 (xs.map b8).toArray) := by
    unfold Hid; rw [HW0.out]; have := ((Blk.new (w) 22 (xs.map b8).toArray).alloc (.cells (ys.map b8).toArray 22)).alloc (.cells #[.int .u8 0, .int .u8 0, .int .u8 0, .int .u8 0, .int .u8 0, .int .u8 0, .int .u8 0, .int .u8 0, .int .u8 0, .int .u8 0, .int .u8 0, .int .u8 0, .int .u8 0, .int .u8 0, .int .u8 0, .int .u8 0] 22); simpa using this
  have HB1 : Hid (Blk W0 (w.heap.size + 1) 22 (ys.map b8).toArray) := by
    unfold Hid; rw [HW0.out]; have := (Blk.new (w.alloc (.cells (xs.map b8).toArray 22)) 22 (ys.map b8).toArray).alloc (.cells #[.int .u8 0, .int .u8 0, .int .u8 0, .int .u8 0, .int .u8 0, .int .u8 0, .int .u8 0, .int .u8 0, .int .u8 0, .int .u8 0, .int .u8 0, .int .u8 0, .int .u8 0, .int .u8 0, .int .u8 0, .int .u8 0] 22); simpa using this
  have HB2 : Hid (Blk W0 (w.heap.size + 2) 22 #[.int .u8 0, .int .u8 0, .int .u8 0, .int .u8 0, .int .u8 0, .int .u8 0, .int .u8 0, .int .u8 0, .int .u8 0, .int .u8 0, .int .u8 0, .int .u8 0, .int .u8 0, .int .u8 0, .int .u8 0, .int .u8 0]) := by
    unfold Hid; rw [HW0.out]; have := Blk.new ((w.alloc (.cells (xs.map b8).toArray 22)).alloc (.cells (ys.map b8).toArray 22)) 22 #[.int .u8 0, .int .u8 0, .int .u8 0, .int .u8 0, .int .u8 0, .int .u8 0, .int .u8 0, .int .u8 0, .int .u8 0, .int .u8 0, .int .u8 0, .int .u8 0, .int .u8 0, .int .u8 0, .int .u8 0, .int .u8 0]; simpa using this
  have xsl := lib_hid hx
  have ysl := lib_hid hy
  clear hx hy
  go_enter Try.func13, Try.ntmps13
  go_wp2_with fail
  rw [← HW0.out]
  go_loopw [5] (fun i wr => ∃ k : Nat, k ≤ 16 ∧ i = .int .i64 k ∧ Grows w wr ∧ w.heap.size + 3 ≤ wr.heap.size ∧ Hid (Blk wr w.heap.size 22 ((bothP xs ys k).map b8).toArray) ∧ Hid (Blk wr (w.heap.size + 1) 22 (ys.map b8).toArray) ∧ Hid (Blk wr (w.heap.size + 2) 22 #[.int .u8 0, .int .u8 0, .int .u8 0, .int .u8 0, .int .u8 0, .int .u8 0, .int .u8 0, .int .u8 0, .int .u8 0, .int .u8 0, .int .u8 0, .int .u8 0, .int .u8 0, .int .u8 0, .int .u8 0, .int .u8 0])) (fun i _ => 16 - (intOf i).toNat)
  case atStart => exact ⟨0, by omega, rfl, hg0, by omega, by rw [bothP_zero]; exact HB0, HB1, HB2⟩
  case round =>
    obtain ⟨k, hk, rfl, hgr, hz, hA, hB, hR⟩ := hrel
    by_cases hlt : k < 16
    · have Hstep := lib_hid (bothP_step xs ys k xsl.out ysl.out hlt)
      have Hl := lib_hid (bothP_len xs ys k xsl.out ysl.out hk)
      have Hat := lib_hid (bothP_at xs ys k xsl.out ysl.out hlt)
      obtain ⟨x, Hx⟩ : ∃ x, Hid (xs[k]! = x) := ⟨_, lib_hid rfl⟩
      obtain ⟨y, Hy⟩ : ∃ y, Hid (ys[k]! = y) := ⟨_, lib_hid rfl⟩
      have cA : Hid (∀ W, Grows wr W → W.cell? ⟨w.heap.size, k, none⟩ = some (b8 x)) := fun W hW => by
        rw [(hA.out.grows hW).cell, List.getElem?_toArray, List.getElem?_map, Hat.out, ← Hx.out]
        simp [xsl.out, hlt]
      have cB : Hid (∀ W, Grows wr W → W.cell? ⟨w.heap.size + 1, k, none⟩ = some (b8 y)) := fun W hW => by
        rw [(hB.out.grows hW).cell, List.getElem?_toArray, List.getElem?_map, ← Hy.out]
        simp [ysl.out, hlt]
      rw [Hx.out, Hy.out] at Hstep
      obtain ⟨z, Hz⟩ : ∃ z, Hid (x ^^^ y = z) := ⟨_, lib_hid rfl⟩
      rw [Hz.out] at Hstep
      have Hxy : Hid (bits .xor .u8 (x.toNat : Int) (y.toNat : Int) = (z.toNat : Int)) := by unfold Hid; rw [u8_xor, Hz.out]
      go_wp2_with fail
      apply wp_region_mono 9 ((.is _, []) :: (.is _, []) :: (.is _, []) :: (.is _, []) :: (.is _, []) :: (.is _, []) :: (.is _, []) :: (.is (.int .u8 z.toNat), []) :: (.is _, []) :: []) (by kernel_rfl) (by kernel_rfl)
      iterate 3
        apply Mono.is0
        · kernel_rfl
        · intro W hW
          go_wp2
          refine ⟨rfl, rfl, Grows.refl _, ?_⟩
          unfold Oper.valAt
          go_simp
          rfl
        intro k1 a1 hk1 ha1
        simp only [Nat.reduceAdd] at hk1
        simp only [Act.put, List.setIfInBounds_toArray, List.set_cons_succ, List.set_cons_zero] at ha1
        subst hk1 ha1
      apply Mono.is0
      · kernel_rfl
      · intro W hW
        have hcc : W.cell? ⟨w.heap.size, k, none⟩ = some (b8 x) := (cA.out W hW)
        go_wp2
        refine ⟨rfl, rfl, Grows.refl _, ?_⟩
        unfold Oper.valAt
        go_simp
        rfl
      intro k1 a1 hk1 ha1
      simp only [Nat.reduceAdd] at hk1
      simp only [Act.put, List.setIfInBounds_toArray, List.set_cons_succ, List.set_cons_zero] at ha1
      subst hk1 ha1
      iterate 2
        apply Mono.is0
        · kernel_rfl
        · intro W hW
          go_wp2
          refine ⟨rfl, rfl, Grows.refl _, ?_⟩
          unfold Oper.valAt
          go_simp
          rfl
        intro k1 a1 hk1 ha1
        simp only [Nat.reduceAdd] at hk1
        simp only [Act.put, List.setIfInBounds_toArray, List.set_cons_succ, List.set_cons_zero] at ha1
        subst hk1 ha1
      apply Mono.is0
      · kernel_rfl
      · intro W hW
        have hcc : W.cell? ⟨w.heap.size + 1, k, none⟩ = some (b8 y) := (cB.out W hW)
        go_wp2
        refine ⟨rfl, rfl, Grows.refl _, ?_⟩
        unfold Oper.valAt
        go_simp
        rfl
      intro k1 a1 hk1 ha1
      simp only [Nat.reduceAdd] at hk1
      simp only [Act.put, List.setIfInBounds_toArray, List.set_cons_succ, List.set_cons_zero] at ha1
      subst hk1 ha1
      apply Mono.is0
      · kernel_rfl
      · intro W hW 
        go_wp2
        refine ⟨rfl, rfl, Grows.refl _, ?_⟩
        unfold Oper.valAt
        go_simp
        rw [Hxy.out]
      intro k1 a1 hk1 ha1
      simp only [Nat.reduceAdd] at hk1
      simp only [Act.put, List.setIfInBounds_toArray, List.set_cons_succ, List.set_cons_zero] at ha1
      subst hk1 ha1
      apply Mono.is0
      · kernel_rfl
      · intro W hW
        go_wp2
        refine ⟨rfl, rfl, Grows.refl _, ?_⟩
        unfold Oper.valAt
        go_simp
        rfl
      intro k1 a1 hk1 ha1
      simp only [Nat.reduceAdd] at hk1
      simp only [Act.put, List.setIfInBounds_toArray, List.set_cons_succ, List.set_cons_zero] at ha1
      subst hk1 ha1
      refine Mono.done ?_
      intro wm hgm
      simp only [allF, List.drop_succ_cons, List.drop_zero]
      have hA2 := hA.out.grows hgm
      have hc2 : wm.cell? ⟨w.heap.size, k, none⟩ = some (b8 x) := cA.out wm hgm
      have hf2 := hA2.frozen k
      have hB2 := lib_hid (hB.out.grows hgm)
      have hR2 := lib_hid (hR.out.grows hgm)
      have hA3 := hA2.set k (b8 z)
      rw [List.setIfInBounds_toArray, ← List.map_set, Hstep.out] at hA3
      have HA3 := lib_hid hA3
      have hgw := hgr.trans hgm
      have hz2 : w.heap.size + 3 ≤ wm.heap.size := Nat.le_trans hz hgm.le
      clear hA3 hA2
      go_wp2
      go_roundw
      case rel => exact ⟨k + 1, by omega, by go_num, hgw.setCell (p := ⟨w.heap.size, k, none⟩) (by simp) _, by simp [World.setCell]; omega, HA3.out, hB2.out.far (by simp) _, hR2.out.far (by simp) _⟩
      case measure => simp [intOf]; omega
    · obtain rfl : k = 16 := by omega
      rw [bothP_all xs ys xsl.out ysl.out] at hA
      obtain ⟨res, hres⟩ : ∃ res, Hid (((List.zipWith (· ^^^ ·) xs ys).map b8).toArray = res) := ⟨_, lib_hid rfl⟩
      rw [hres.out] at hA
      have hcl : res.size = 16 := by rw [← hres.out]; simp [xsl.out, ysl.out]
      have hca : res.all (·.oneCell') = true := by rw [← hres.out]; exact cells_all _
      go_wp2_with (first
        | (refine wpList_load_blk rfl _ _ rfl w.heap.size rfl _ res _ hA.out Try.underlying22 rfl (by rw [Try.size16, hcl]) ?_)
        | (refine wpList_store_blk rfl _ _ _ rfl (w.heap.size + 2) res rfl rfl _ _ hR.out (by rw [Try.size16, hcl]) (by simp [hcl]) hca (w.heap.size + 2) wr (Below.refl _ _) (Nat.le_refl _) ?_; intro w5 HR6 hb5 hgr5))
      refine bodyPost_ret (results_cell_row rfl _ _ (w.heap.size + 2) _ res _ _ rfl HR6 Try.underlying22 rfl (by rw [Try.size16, hcl])) rfl ?_
      exact ⟨by rw [hres.out], Below.trans hgr (hb5.mono (by omega))⟩

def powB (n : Nat) : List UInt8 := (List.replicate 16 (0 : UInt8)).set (n / 8) (128 >>> UInt8.ofNat (n % 8))
theorem powB_len (n : Nat) : (powB n).length = 16 := by simp [powB]
theorem NB_pow : ∀ n, n < 128 → NB (powB n) = 2 ^ (127 - n) := by decide +kernel
set_option maxRecDepth 100000 in
set_option maxHeartbeats 4000000 in
theorem power_any (n : Nat) (hn : n < 128) (w : World) :
    Calls Try.prog 14 #[.int .i64 (n : Int)] w fun e w' => e = .returned (.agg ((powB n).map b8).toArray) ∧ Grows w w' := by
  obtain ⟨q, hq, Hq, hq16⟩ : ∃ q : Nat, (n : Int).tdiv 8 = (q : Int) ∧ Hid (n / 8 = q) ∧ q < 16 := ⟨n / 8, by rw [Int.tdiv_eq_ediv_of_nonneg (by omega)]; omega, lib_hid rfl, by omega⟩
  obtain ⟨r, hr, Hr, hr8⟩ : ∃ r : Nat, (n : Int).tmod 8 = (r : Int) ∧ Hid (n % 8 = r) ∧ r < 8 := ⟨n % 8, by rw [Int.tmod_eq_emod_of_nonneg (by omega)]; omega, lib_hid rfl, by omega⟩
  obtain ⟨W0, HW0, hW0, hg0⟩ : ∃ W0 : World, Hid (W0 = (w.alloc (.cells #[.int .u8 0, .int .u8 0, .int .u8 0, .int .u8 0, .int .u8 0, .int .u8 0, .int .u8 0, .int .u8 0, .int .u8 0, .int .u8 0, .int .u8 0, .int .u8 0, .int .u8 0, .int .u8 0, .int .u8 0, .int .u8 0] 22)).alloc (.cells #[.int .u8 0, .int .u8 0, .int .u8 0, .int .u8 0, .int .u8 0, .int .u8 0, .int .u8 0, .int .u8 0, .int .u8 0, .int .u8 0, .int .u8 0, .int .u8 0, .int .u8 0, .int .u8 0, .int .u8 0, .int .u8 0] 22)) ∧ W0.heap.size = w.heap.size + 2 ∧ Grows w W0 := ⟨_, lib_hid rfl, by simp, ((Grows.refl w).alloc _).alloc _⟩
  have HB0 : Hid (Blk W0 w.heap.size 22 #[.int .u8 0, .int .u8 0, .int .u8 0, .int .u8 0, .int .u8 0, .int .u8 0, .int .u8 0, .int .u8 0, .int .u8 0, .int .u8 0, .int .u8 0, .int .u8 0, .int .u8 0, .int .u8 0, .int .u8 0, .int .u8 0]) := by
    unfold Hid; rw [HW0.out]; have := (Blk.new (w) 22 #[.int .u8 0, .int .u8 0, .int .u8 0, .int .u8 0, .int .u8 0, .int .u8 0, .int .u8 0, .int .u8 0, .int .u8 0, .int .u8 0, .int .u8 0, .int .u8 0, .int .u8 0, .int .u8 0, .int .u8 0, .int .u8 0]).alloc (.cells #[.int .u8 0, .int .u8 0, .int .u8 0, .int .u8 0, .int .u8 0, .int .u8 0, .int .u8 0, .int .u8 0, .int .u8 0, .int .u8 0, .int .u8 0, .int .u8 0, .int .u8 0, .int .u8 0, .int .u8 0, .int .u8 0] 22); simpa using this
  have HB1 : Hid (Blk W0 (w.heap.size + 1) 22 #[.int .u8 0, .int .u8 0, .int .u8 0, .int .u8 0, .int .u8 0, .int .u8 0, .int .u8 0, .int .u8 0, .int .u8 0, .int .u8 0, .int .u8 0, .int .u8 0, .int .u8 0, .int .u8 0, .int .u8 0, .int .u8 0]) := by
    unfold Hid; rw [HW0.out]; have := Blk.new (w.alloc (.cells #[.int .u8 0, .int .u8 0, .int .u8 0, .int .u8 0, .int .u8 0, .int .u8 0, .int .u8 0, .int .u8 0, .int .u8 0, .int .u8 0, .int .u8 0, .int .u8 0, .int .u8 0, .int .u8 0, .int .u8 0, .int .u8 0] 22)) 22 #[.int .u8 0, .int .u8 0, .int .u8 0, .int .u8 0, .int .u8 0, .int .u8 0, .int .u8 0, .int .u8 0, .int .u8 0, .int .u8 0, .int .u8 0, .int .u8 0, .int .u8 0, .int .u8 0, .int .u8 0, .int .u8 0]; simpa using this
  obtain ⟨z, Hz⟩ : ∃ z : UInt8, Hid ((128 : UInt8) >>> UInt8.ofNat r = z) := ⟨_, lib_hid rfl⟩
  have hsh : (128 : Int) / 2 ^ r = (z.toNat : Int) := by rw [← Hz.out]; exact u8_shr 128 r hr8
  have HP : Hid (powB n = (List.replicate 16 (0 : UInt8)).set q z) := by unfold Hid powB; rw [Hq.out, Hr.out, Hz.out]
  have hB1 : Blk W0 (w.heap.size + 1) 22 ((List.replicate 16 (0 : UInt8)).map b8).toArray := by rw [← zeros16]; exact HB1.out
  have hB0 := lib_hid HB0.out
  have c1 : W0.cell? ⟨w.heap.size + 1, q, none⟩ = some (.int .u8 0) := by
    rw [hB1.cell, List.getElem?_toArray, List.getElem?_map, List.getElem?_replicate, if_pos hq16]; rfl
  have f1 := hB1.frozen q
  have hB2 := hB1.set q (b8 z)
  rw [List.setIfInBounds_toArray, ← List.map_set, ← HP.out] at hB2
  have HB2 := lib_hid hB2
  have hg2 : Grows w (W0.setCell ⟨w.heap.size + 1, q, none⟩ (b8 z)) := hg0.setCell (p := ⟨w.heap.size + 1, q, none⟩) (by simp) _
  have HR := lib_hid (HB0.out.far (p := ⟨w.heap.size + 1, q, none⟩) (by simp) (b8 z))
  obtain ⟨res, hres⟩ : ∃ res, Hid (((powB n).map b8).toArray = res) := ⟨_, lib_hid rfl⟩
  have hcl : res.size = 16 := by rw [← hres.out]; simp [powB_len]
  have hca : res.all (·.oneCell') = true := by rw [← hres.out]; exact cells_all _
  rw [hres.out] at HB2
  have HW0' := HW0.out
  clear hn hB1 hB2 HB1
  go_enter Try.func14, Try.ntmps14
  go_upto_region 2 with fail
  rw [← HW0']
  clear HW0'
  go_wp2_with (first
        | (refine wpList_load_blk rfl _ _ rfl (w.heap.size + 1) rfl _ res _ HB2.out Try.underlying22 rfl (by rw [Try.size16, hcl]) ?_)
        | (refine wpList_store_blk rfl _ _ _ rfl w.heap.size res rfl rfl _ _ HR.out (by rw [Try.size16, hcl]) (by simp [hcl]) hca w.heap.size _ hg2 (Nat.le_refl _) ?_; intro w5 HR6 hb5 hgr5))
  refine bodyPost_ret (results_cell_row rfl _ _ w.heap.size _ res _ _ rfl HR6 Try.underlying22 rfl (by rw [Try.size16, hcl])) rfl ?_
  exact ⟨by rw [hres.out], hb5⟩

set_option maxRecDepth 100000 in
set_option maxHeartbeats 4000000 in
theorem awake6_any (w : World) : Calls Try.prog 12 #[] w fun e w' => e = .returned (.bool true) ∧ Grows w w' := by
  obtain ⟨xb, Hxb, xbl⟩ : ∃ xb : List UInt8, Hid (xb = 1 :: 2 :: 3 :: List.replicate 13 0) ∧ Hid (xb.length = 16) := ⟨_, lib_hid rfl, lib_hid rfl⟩
  have Hc : Hid ((#[.int .u8 1, .int .u8 2, .int .u8 3, .int .u8 0, .int .u8 0, .int .u8 0, .int .u8 0, .int .u8 0, .int .u8 0, .int .u8 0, .int .u8 0, .int .u8 0, .int .u8 0, .int .u8 0, .int .u8 0, .int .u8 0] : Array Value) = (xb.map b8).toArray) := by unfold Hid; rw [Hxb.out]; rfl
  have Hm : Hid (mulF xb oneB = xb) := mulF_one xb xbl.out
  obtain ⟨W0, HW0, hW0, hg0⟩ : ∃ W0 : World, Hid (W0 = w.alloc (.cells (xb.map b8).toArray 22)) ∧ W0.heap.size = w.heap.size + 1 ∧ Grows w W0 := ⟨_, lib_hid rfl, by simp, (Grows.refl w).alloc _⟩
  have HB0 : Hid (Blk W0 w.heap.size 22 (xb.map b8).toArray) := by
    unfold Hid; rw [HW0.out]; have := Blk.new (w) 22 (xb.map b8).toArray; simpa using this
  go_enter Try.func12, Try.ntmps12
  go_wp2_with fail
  rw [Hc.out, ← HW0.out]
  apply wp_region_mono 10 ((.is (.agg ((xb).map b8).toArray), []) :: (.is (.agg (oneB.map b8).toArray), []) :: (.is (.agg ((xb).map b8).toArray), []) :: (.is (.agg ((xb).map b8).toArray), []) :: (.is (.bool true), []) :: (.is _, []) :: (.is (.int .i64 15), []) :: (.is _, []) :: (.is _, []) :: (.is _, []) :: []) (by kernel_rfl) (by kernel_rfl)
  apply Mono.is0
  · kernel_rfl
  · intro W hW 
    go_wp2_with (refine wpList_load_blk (by kernel_rfl) _ _ rfl (w.heap.size) rfl 22 ((xb).map b8).toArray _ (HB0.out.grows hW) Try.underlying22 rfl (by rw [Try.size16]; simp [xbl.out]) ?_)
    exact ⟨rfl, rfl, Grows.refl _, rfl⟩
  intro k1 a1 hk1 ha1
  simp only [Nat.reduceAdd] at hk1
  simp only [Act.put, List.setIfInBounds_toArray, List.set_cons_succ, List.set_cons_zero] at ha1
  subst hk1 ha1
  apply Mono.is0
  · kernel_rfl
  · intro W hW 
    go_wp2
    refine ⟨rfl, rfl, Grows.refl _, ?_⟩
    unfold Oper.valAt
    go_simp
    rfl
  intro k1 a1 hk1 ha1
  simp only [Nat.reduceAdd] at hk1
  simp only [Act.put, List.setIfInBounds_toArray, List.set_cons_succ, List.set_cons_zero] at ha1
  subst hk1 ha1
  apply Mono.is0
  · kernel_rfl
  · intro W hW 
    go_wp2_with fail
    refine (mul_any xb oneB xbl.out rfl W).mono ?_
    rintro e w1 ⟨rfl, hg1⟩
    rw [Hm.out]
    go_wp2
    exact ⟨rfl, rfl, hg1, rfl⟩
  intro k1 a1 hk1 ha1
  simp only [Nat.reduceAdd] at hk1
  simp only [Act.put, List.setIfInBounds_toArray, List.set_cons_succ, List.set_cons_zero] at ha1
  subst hk1 ha1
  apply Mono.is0
  · kernel_rfl
  · intro W hW 
    go_wp2_with (refine wpList_load_blk (by kernel_rfl) _ _ rfl (w.heap.size) rfl 22 ((xb).map b8).toArray _ (HB0.out.grows hW) Try.underlying22 rfl (by rw [Try.size16]; simp [xbl.out]) ?_)
    exact ⟨rfl, rfl, Grows.refl _, rfl⟩
  intro k1 a1 hk1 ha1
  simp only [Nat.reduceAdd] at hk1
  simp only [Act.put, List.setIfInBounds_toArray, List.set_cons_succ, List.set_cons_zero] at ha1
  subst hk1 ha1
  apply Mono.is0
  · kernel_rfl
  · intro W hW 
    have he : (Op.equalIn 10000 22 (.agg ((xb).map b8).toArray) (.agg ((xb).map b8).toArray)).run Try.prog W = .ok true W := (run_equalIn_bytes W 9998 22 5 16 (xb) (xb) xbl.out xbl.out Try.arr16 Try.underlying5 Try.sizeByte).trans (by rw [beq_self_eq_true])
    go_wp2
    refine ⟨rfl, rfl, Grows.refl _, ?_⟩
    unfold Oper.valAt
    go_simp
  intro k1 a1 hk1 ha1
  simp only [Nat.reduceAdd] at hk1
  simp only [Act.put, List.setIfInBounds_toArray, List.set_cons_succ, List.set_cons_zero] at ha1
  subst hk1 ha1
  apply Mono.is0
  · kernel_rfl
  · intro W hW
    go_wp2
    refine ⟨rfl, rfl, Grows.refl _, ?_⟩
    unfold Oper.valAt
    go_simp
    rfl
  intro k1 a1 hk1 ha1
  simp only [Nat.reduceAdd] at hk1
  simp only [Act.put, List.setIfInBounds_toArray, List.set_cons_succ, List.set_cons_zero] at ha1
  subst hk1 ha1
  apply Mono.is0
  · kernel_rfl
  · intro W hW 
    go_wp2_with fail
    refine (pad_any 17 (by omega) (by omega) W).mono ?_
    rintro e w1 ⟨rfl, rfl⟩
    go_wp2
    exact ⟨rfl, rfl, Grows.refl _, rfl⟩
  intro k1 a1 hk1 ha1
  simp only [Nat.reduceAdd] at hk1
  simp only [Act.put, List.setIfInBounds_toArray, List.set_cons_succ, List.set_cons_zero] at ha1
  subst hk1 ha1
  iterate 3
    apply Mono.is0
    · kernel_rfl
    · intro W hW
      go_wp2
      refine ⟨rfl, rfl, Grows.refl _, ?_⟩
      unfold Oper.valAt
      go_simp
      rfl
    intro k1 a1 hk1 ha1
    simp only [Nat.reduceAdd] at hk1
    simp only [Act.put, List.setIfInBounds_toArray, List.set_cons_succ, List.set_cons_zero] at ha1
    subst hk1 ha1
  refine Mono.done ?_
  intro wm hgm
  simp only [allF, List.drop_succ_cons, List.drop_nil]
  go_wp2
  go_ret
  exact ⟨rfl, hg0.trans hgm⟩

end Go.Proofs.Ytlnldflnanllmaa
