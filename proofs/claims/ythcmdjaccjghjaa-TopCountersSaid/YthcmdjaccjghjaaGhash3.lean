/-
  The walks of package ghash: blocks as elements, elements as blocks, the product of blocks.
-/
import Derived.Test.YthcmdjaccjghjaaGhash2
namespace Go.Proofs.Ythcmdjaccjghjaa
open Go Go.RowKit

def hiF (bs : List UInt8) : UInt64 := bigF (bs.take 8)
def loF (bs : List UInt8) : UInt64 := bigF (bs.drop 8)
def blockF (a b : UInt64) : List UInt8 := putBigF a 8 ++ putBigF b 8
def mulF (xs ys : List UInt8) : List UInt8 := blockF (mulA (hiF xs) (loF xs) (hiF ys) (loF ys)) (mulBB (hiF xs) (loF xs) (hiF ys) (loF ys))
theorem blockF_len (a b : UInt64) : (blockF a b).length = 16 := by simp [blockF, putBigF_len']
theorem mulF_len (xs ys : List UInt8) : (mulF xs ys).length = 16 := blockF_len _ _

set_option maxRecDepth 100000 in
set_option maxHeartbeats 1000000 in
theorem of_any (bs : List UInt8) (hb : bs.length = 16) (w : World) :
    Calls Try.prog 31 #[.agg (bs.map b8).toArray] w fun e w' => e = .returned (eV (hiF bs) (loF bs)) ∧ Grows w w' := by
  obtain ⟨ea, Hea⟩ : ∃ ea, Hid (bigF (bs.take 8) = ea) := ⟨_, lib_hid rfl⟩
  obtain ⟨eb, Heb⟩ : ∃ eb, Hid (bigF (bs.drop 8) = eb) := ⟨_, lib_hid rfl⟩
  obtain ⟨W0, HW0, hW0, hg0⟩ : ∃ W0 : World, Hid (W0 = (w.alloc (.cells (bs.map b8).toArray 23)).alloc (.cells #[.int .u64 0, .int .u64 0] 64)) ∧ W0.heap.size = w.heap.size + 2 ∧ Grows w W0 := ⟨_, lib_hid rfl, by simp, ((Grows.refl w).alloc _).alloc _⟩
  have HA : Hid (Blk W0 w.heap.size 23 (bs.map b8).toArray) := by unfold Hid; rw [HW0.out]; exact (Blk.new _ _ _).alloc _
  have HR : Hid (Blk W0 (w.heap.size + 1) 64 #[.int .u64 0, .int .u64 0]) := by
    unfold Hid; rw [HW0.out]; have := Blk.new (w.alloc (.cells (bs.map b8).toArray 23)) 64 #[.int .u64 0, .int .u64 0]; simpa using this
  have HS8 : Hid (SB W0 (some ⟨w.heap.size, 8, none⟩) 8 8 (bs.drop 8)) := by
    have := HA.out.row (o := 8) (n := 8) (c := 8) (Nat.le_refl _) (by simp [hb]) (by unfold maxLen; omega)
    rw [List.take_of_length_le (by simp [hb])] at this
    unfold Hid SB
    rw [List.map_drop]
    exact this
  have HS0 : Hid (SB W0 (some ⟨w.heap.size, 0, none⟩) 8 16 (bs.take 8)) := by
    have := HA.out.row (o := 0) (n := 8) (c := 16) (by omega) (by simp [hb]) (by unfold maxLen; omega)
    unfold Hid SB
    simpa [List.map_take] using this
  have HL := lib_hid hb
  clear hb
  go_enter Try.func31, Try.ntmps31
  go_wp2_with fail
  rw [← HW0.out]
  apply wp_region_mono 5 ((.is _, []) :: (.is (.int .u64 ea.toNat), []) :: (.is _, []) :: (.is (.int .u64 eb.toNat), []) :: (.is _, []) :: []) (by kernel_rfl) (by kernel_rfl)
  apply Mono.is0
  · kernel_rfl
  · intro W hW
    go_wp2
    refine ⟨rfl, rfl, Grows.refl _, ?_⟩
    unfold Oper.valAt
    go_simp
    rfl
  intro k1 a1 hk1 ha1
  simp only [Nat.reduceAdd] at hk1
  simp only [Act.put, List.setIfInBounds_toArray, List.set_cons_succ, List.set_cons_zero] at ha1
  subst hk1 ha1
  apply Mono.is0
  · kernel_rfl
  · intro W hW 
    go_wp2_with fail
    refine (big_any _ 8 16 _ W (HS0.out.grows hW)).mono ?_
    rintro e w1 ⟨rfl, rfl⟩
    go_wp2
    refine ⟨rfl, rfl, Grows.refl _, ?_⟩
    unfold Oper.valAt
    go_simp
    first | rw [Hea.out] | rw [Heb.out]
  intro k1 a1 hk1 ha1
  simp only [Nat.reduceAdd] at hk1
  simp only [Act.put, List.setIfInBounds_toArray, List.set_cons_succ, List.set_cons_zero] at ha1
  subst hk1 ha1
  apply Mono.is0
  · kernel_rfl
  · intro W hW
    go_wp2
    refine ⟨rfl, rfl, Grows.refl _, ?_⟩
    unfold Oper.valAt
    go_simp
    rfl
  intro k1 a1 hk1 ha1
  simp only [Nat.reduceAdd] at hk1
  simp only [Act.put, List.setIfInBounds_toArray, List.set_cons_succ, List.set_cons_zero] at ha1
  subst hk1 ha1
  apply Mono.is0
  · kernel_rfl
  · intro W hW 
    go_wp2_with fail
    refine (big_any _ 8 8 _ W (HS8.out.grows hW)).mono ?_
    rintro e w1 ⟨rfl, rfl⟩
    go_wp2
    refine ⟨rfl, rfl, Grows.refl _, ?_⟩
    unfold Oper.valAt
    go_simp
    first | rw [Hea.out] | rw [Heb.out]
  intro k1 a1 hk1 ha1
  simp only [Nat.reduceAdd] at hk1
  simp only [Act.put, List.setIfInBounds_toArray, List.set_cons_succ, List.set_cons_zero] at ha1
  subst hk1 ha1
  apply Mono.is0
  · kernel_rfl
  · intro W hW
    go_wp2
    refine ⟨rfl, rfl, Grows.refl _, ?_⟩
    unfold Oper.valAt
    go_simp
    rfl
  intro k1 a1 hk1 ha1
  simp only [Nat.reduceAdd] at hk1
  simp only [Act.put, List.setIfInBounds_toArray, List.set_cons_succ, List.set_cons_zero] at ha1
  subst hk1 ha1
  refine Mono.done ?_
  intro wm hgm
  simp only [allF, List.drop_succ_cons, List.drop_zero]
  have hR := lib_hid (HR.out.grows hgm)
  have cR0 : wm.cell? ⟨w.heap.size + 1, 0, none⟩ = some (.int .u64 0) := hR.out.cell 0
  have cR1 : wm.cell? ⟨w.heap.size + 1, 1, none⟩ = some (.int .u64 0) := hR.out.cell 1
  have fR0 := hR.out.frozen 0
  have fR1 := hR.out.frozen 1
  have hgw := hg0.trans hgm
  go_wp2_with fail
  have hR2 : Blk ((wm.setCell ⟨w.heap.size + 1, 0, none⟩ (.int .u64 ea.toNat)).setCell ⟨w.heap.size + 1, 1, none⟩ (.int .u64 eb.toNat)) (w.heap.size + 1) 64 #[.int .u64 ea.toNat, .int .u64 eb.toNat] := (hR.out.set 0 _).set 1 _
  refine bodyPost_ret (results_cell_row rfl _ _ (w.heap.size + 1) _ _ _ _ rfl hR2 Try.underlying64 rfl Try.sizeElem) rfl ?_
  exact ⟨by unfold hiF loF; rw [Hea.out, Heb.out], (hgw.setCell (p := ⟨w.heap.size + 1, 0, none⟩) (by simp) _).setCell (p := ⟨w.heap.size + 1, 1, none⟩) (by simp) _⟩

set_option maxRecDepth 100000 in
set_option maxHeartbeats 1000000 in
theorem block_any (a b : UInt64) (w : World) :
    Calls Try.prog 30 #[eV a b] w fun e w' => e = .returned (.agg ((blockF a b).map b8).toArray) ∧ Grows w w' := by
  obtain ⟨W0, HW0, hW0, hg0⟩ : ∃ W0 : World, Hid (W0 = ((w.alloc (.cells #[.int .u64 a.toNat, .int .u64 b.toNat] 64)).alloc (.cells #[.int .u8 0, .int .u8 0, .int .u8 0, .int .u8 0, .int .u8 0, .int .u8 0, .int .u8 0, .int .u8 0, .int .u8 0, .int .u8 0, .int .u8 0, .int .u8 0, .int .u8 0, .int .u8 0, .int .u8 0, .int .u8 0] 23)).alloc (.cells #[.int .u8 0, .int .u8 0, .int .u8 0, .int .u8 0, .int .u8 0, .int .u8 0, .int .u8 0, .int .u8 0, .int .u8 0, .int .u8 0, .int .u8 0, .int .u8 0, .int .u8 0, .int .u8 0, .int .u8 0, .int .u8 0] 23)) ∧ W0.heap.size = w.heap.size + 3 ∧ Grows w W0 := ⟨_, lib_hid rfl, by simp, (((Grows.refl w).alloc _).alloc _).alloc _⟩
  have HE : Hid (Blk W0 w.heap.size 64 #[.int .u64 a.toNat, .int .u64 b.toNat]) := by unfold Hid; rw [HW0.out]; exact ((Blk.new _ _ _).alloc _).alloc _
  have HR : Hid (Blk W0 (w.heap.size + 1) 23 ((List.replicate 16 (0 : UInt8)).map b8).toArray) := by
    unfold Hid; rw [HW0.out, zeros16]; exact blk_mid _ _ _ _ _
  have HO : Hid (Blk W0 (w.heap.size + 2) 23 ((List.replicate 16 (0 : UInt8)).map b8).toArray) := by
    unfold Hid; rw [HW0.out, zeros16]
    have := Blk.new ((w.alloc (.cells #[.int .u64 a.toNat, .int .u64 b.toNat] 64)).alloc (.cells ((List.replicate 16 (0 : UInt8)).map b8).toArray 23)) 23 ((List.replicate 16 (0 : UInt8)).map b8).toArray
    simpa using this
  have HF0 : Hid (∀ W, Grows W0 W → W.cell? ⟨w.heap.size, 0, none⟩ = some (.int .u64 a.toNat)) := fun W hW => (HE.out.grows hW).cell 0
  go_enter Try.func30, Try.ntmps30
  go_wp2_with fail
  rw [← HW0.out]
  apply wp_region_mono 4 ((.is _, []) :: (.is _, []) :: (.is _, []) :: (.pr (fun v W => ∃ A n c, v = .slice A n c ∧ SB W A n c (putBigF a 8)), []) :: []) (by kernel_rfl) (by kernel_rfl)
  iterate 2
    apply Mono.is0
    · kernel_rfl
    · intro W hW
      go_wp2
      refine ⟨rfl, rfl, Grows.refl _, ?_⟩
      unfold Oper.valAt
      go_simp
      rfl
    intro k1 a1 hk1 ha1
    simp only [Nat.reduceAdd] at hk1
    simp only [Act.put, List.setIfInBounds_toArray, List.set_cons_succ, List.set_cons_zero] at ha1
    subst hk1 ha1
  apply Mono.is0
  · kernel_rfl
  · intro W hW
    have hcc := HF0.out W hW
    go_wp2
    refine ⟨rfl, rfl, Grows.refl _, ?_⟩
    unfold Oper.valAt
    go_simp
    rfl
  intro k1 a1 hk1 ha1
  simp only [Nat.reduceAdd] at hk1
  simp only [Act.put, List.setIfInBounds_toArray, List.set_cons_succ, List.set_cons_zero] at ha1
  subst hk1 ha1
  apply Mono.pr0
  · kernel_rfl
  · exact fun v W W' hW ⟨A, n, c, h1, h2⟩ => ⟨A, n, c, h1, h2.grows hW⟩
  · intro W hW 
    go_wp2_with fail
    refine (putBig_any a 8 W (by omega)).mono ?_
    rintro e w1 ⟨A1, n1, c1, hn1, rfl, hg1, ho1⟩
    go_wp2
    exact ⟨rfl, rfl, hg1, A1, n1, c1, rfl, SB.own ho1⟩
  intro v3
  intro k1 a1 hk1 ha1
  simp only [Nat.reduceAdd] at hk1
  simp only [Act.put, List.setIfInBounds_toArray, List.set_cons_succ, List.set_cons_zero] at ha1
  subst hk1 ha1
  refine Mono.done ?_
  intro wm hgm
  simp only [allF, List.drop_succ_cons, List.drop_zero]
  intro g3
  obtain ⟨A2, n2, c2, rfl, hs2⟩ := g3
  obtain rfl : n2 = 8 := by have := hs2.len; rw [putBigF_len'] at this; omega
  have HS2 := lib_hid hs2
  have HO2 := lib_hid (HO.out.grows hgm)
  have HR2 := lib_hid (HR.out.grows hgm)
  have HE2 := lib_hid (HE.out.grows hgm)
  have hb2 : Below (w.heap.size + 2) wm wm := Below.refl _ _
  have hwW := hg0
  clear hs2 HF0 HE HR HO
  go_wp2_with (refine wpList_copy_blk rfl _ _ 26 26 rfl 5 Try.underlying26 Try.sizeByte (w.heap.size + 2) 0 16 16 rfl A2 8 c2 rfl _ 23 HO2.out _ HS2.out (by omega) (by simp) (b8_one _) (w.heap.size + 2) wm hb2 (Nat.le_refl _) ?_; intro w3 HB3 hb3)
  obtain ⟨mid, hmid, hml⟩ : ∃ mid, Hid (mid = splice (List.replicate 16 (0 : UInt8)) 0 (putBigF a 8)) ∧ mid.length = 16 := ⟨_, lib_hid rfl, by simp [splice, putBigF_len']⟩
  have HB3' : Hid (Blk w3 (w.heap.size + 2) 23 (mid.map b8).toArray) := by unfold Hid; rw [hmid.out, ← splice_map]; exact HB3
  clear HB3
  have HR3 := lib_hid (Blk.below HR2.out hb3 (by omega))
  have HE3 := lib_hid (Blk.below HE2.out hb3 (by omega))
  simp only [Act.put, List.setIfInBounds_toArray, List.set_cons_succ, List.set_cons_zero]
  apply wp_region_mono 4 ((.is _, []) :: (.is _, []) :: (.is _, []) :: (.pr (fun v W => ∃ A n c, v = .slice A n c ∧ SB W A n c (putBigF b 8)), []) :: []) (by kernel_rfl) (by kernel_rfl)
  iterate 2
    apply Mono.is0
    · kernel_rfl
    · intro W hW
      go_wp2
      refine ⟨rfl, rfl, Grows.refl _, ?_⟩
      unfold Oper.valAt
      go_simp
      rfl
    intro k1 a1 hk1 ha1
    simp only [Nat.reduceAdd] at hk1
    simp only [Act.put, List.setIfInBounds_toArray, List.set_cons_succ, List.set_cons_zero] at ha1
    subst hk1 ha1
  apply Mono.is0
  · kernel_rfl
  · intro W hW
    have hcc : W.cell? ⟨w.heap.size, 1, none⟩ = some (.int .u64 b.toNat) := (HE3.out.grows hW).cell 1
    go_wp2
    refine ⟨rfl, rfl, Grows.refl _, ?_⟩
    unfold Oper.valAt
    go_simp
    rfl
  intro k1 a1 hk1 ha1
  simp only [Nat.reduceAdd] at hk1
  simp only [Act.put, List.setIfInBounds_toArray, List.set_cons_succ, List.set_cons_zero] at ha1
  subst hk1 ha1
  apply Mono.pr0
  · kernel_rfl
  · exact fun v W W' hW ⟨A, n, c, h1, h2⟩ => ⟨A, n, c, h1, h2.grows hW⟩
  · intro W hW 
    go_wp2_with fail
    refine (putBig_any b 8 W (by omega)).mono ?_
    rintro e w1 ⟨A1, n1, c1, hn1, rfl, hg1, ho1⟩
    go_wp2
    exact ⟨rfl, rfl, hg1, A1, n1, c1, rfl, SB.own ho1⟩
  intro v3
  intro k1 a1 hk1 ha1
  simp only [Nat.reduceAdd] at hk1
  simp only [Act.put, List.setIfInBounds_toArray, List.set_cons_succ, List.set_cons_zero] at ha1
  subst hk1 ha1
  refine Mono.done ?_
  intro wn hgn
  simp only [allF, List.drop_succ_cons, List.drop_zero]
  intro g3
  obtain ⟨A3, n3, c3, rfl, hs3⟩ := g3
  obtain rfl : n3 = 8 := by have := hs3.len; rw [putBigF_len'] at this; omega
  have HS3 := lib_hid hs3
  have HO3 := lib_hid (HB3'.out.grows hgn)
  have HR4 := lib_hid (HR3.out.grows hgn)
  have hb4 : Below (w.heap.size + 2) wn wn := Below.refl _ _
  clear hs3
  have HF : Hid (splice (mid.map b8) 8 ((putBigF b 8).map b8) = (blockF a b).map b8) := by
    unfold Hid blockF; rw [splice_map, hmid.out, splice_high _ _ (putBigF_len' _ _) (putBigF_len' _ _)]
  have hcl : ((blockF a b).map b8).toArray.size = 16 := by simp [blockF_len]
  obtain ⟨res, hres⟩ : ∃ res, Hid (((blockF a b).map b8).toArray = res) := ⟨_, lib_hid rfl⟩
  rw [hres.out] at hcl
  have hca : res.all (·.oneCell') = true := by rw [← hres.out]; exact cells_all _
  go_wp2_with (first
    | (refine wpList_copy_blk rfl _ _ 26 26 rfl 5 Try.underlying26 Try.sizeByte (w.heap.size + 2) 8 8 8 rfl A3 8 c3 rfl _ 23 HO3.out _ HS3.out (by omega) (by simp [hml]) (b8_one _) (w.heap.size + 2) wn hb4 (Nat.le_refl _) ?_; intro w4 HB4 hb4; rw [HF.out, hres.out] at HB4; have HR5 := Blk.below HR4.out hb4 (by omega))
    | (refine wpList_load_blk rfl _ _ rfl (w.heap.size + 2) rfl _ res _ HB4 Try.underlying23 rfl (by rw [Try.size16, hcl]) ?_)
    | (refine wpList_store_blk rfl _ _ _ rfl (w.heap.size + 1) res rfl rfl _ _ HR5 (by rw [Try.size16, hcl]) (by simp [hcl]) hca (w.heap.size + 1) wn (hb4.mono (by omega)) (Nat.le_refl _) ?_; intro w5 HR6 hb5 hgr5))
  refine bodyPost_ret (results_cell_row rfl _ _ (w.heap.size + 1) _ res _ _ rfl HR6 Try.underlying23 rfl (by rw [Try.size16, hcl])) rfl ?_
  refine ⟨by rw [hres.out], ?_⟩
  unfold Grows
  have q1 : W0.heap.size ≤ wm.heap.size := hgm.size
  have q2 : wm.heap.size ≤ w3.heap.size := hb3.size
  have q3 : Below w.heap.size W0 wm := Below.mono hgm (by omega)
  have q4 : Below w.heap.size wm w3 := Below.mono hb3 (by omega)
  have q5 : Below w.heap.size w3 wn := Below.mono hgn (by omega)
  have q6 : Below w.heap.size wn w5 := Below.mono hb5 (by omega)
  exact Below.trans hwW (q3.trans (q4.trans (q5.trans q6)))

end Go.Proofs.Ythcmdjaccjghjaa
