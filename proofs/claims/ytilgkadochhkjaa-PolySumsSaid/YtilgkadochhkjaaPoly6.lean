/-
  The walk of poly.Sum; what the chapter's example of layer 5 says.
-/
import Derived.Test.YtilgkadochhkjaaPoly5
import Derived.Test.YtilgkadochhkjaaMonoF
import Derived.Deep.Cut
namespace Go.Proofs.Ytilgkadochhkjaa
open Go Go.RowKit
set_option linter.unusedSimpArgs false


def polyF (key bs : List UInt8) : List UInt8 := psumF (kr0 key) (kr1 key) (ks0 key) (ks1 key) bs
theorem polyF_len (key bs : List UInt8) : (polyF key bs).length = 16 := psumF_len _ _ _ _ _
set_option maxRecDepth 100000 in
set_option maxHeartbeats 4000000 in
theorem poly_any (key bs : List UInt8) (hk : key.length = 32) (A : Option Addr) (l c : Nat) (w : World) (hs : SB w A l c bs) (hl : l ≤ 1000000) :
    Calls Try.prog 9 #[.agg (key.map b8).toArray, .slice A l c] w fun e w' => e = .returned (.agg ((polyF key bs).map b8).toArray) ∧ Grows w w' := by
  obtain ⟨W0, HW0, hW0, hg0⟩ : ∃ W0 : World, Hid (W0 = (w.alloc (.cells (key.map b8).toArray 22)).alloc (.cells #[.int .u8 0, .int .u8 0, .int .u8 0, .int .u8 0, .int .u8 0, .int .u8 0, .int .u8 0, .int .u8 0, .int .u8 0, .int .u8 0, .int .u8 0, .int .u8 0, .int .u8 0, .int .u8 0, .int .u8 0, .int .u8 0] 24)) ∧ W0.heap.size = w.heap.size + 2 ∧ Grows w W0 := ⟨_, lib_hid rfl, by simp, ((Grows.refl w).alloc _).alloc _⟩
  have HB0 : Hid (Blk W0 w.heap.size 22 (key.map b8).toArray) := by
    unfold Hid; rw [HW0.out]; have := (Blk.new (w) 22 (key.map b8).toArray).alloc (.cells #[.int .u8 0, .int .u8 0, .int .u8 0, .int .u8 0, .int .u8 0, .int .u8 0, .int .u8 0, .int .u8 0, .int .u8 0, .int .u8 0, .int .u8 0, .int .u8 0, .int .u8 0, .int .u8 0, .int .u8 0, .int .u8 0] 24); simpa using this
  have HB1 : Hid (Blk W0 (w.heap.size + 1) 24 #[.int .u8 0, .int .u8 0, .int .u8 0, .int .u8 0, .int .u8 0, .int .u8 0, .int .u8 0, .int .u8 0, .int .u8 0, .int .u8 0, .int .u8 0, .int .u8 0, .int .u8 0, .int .u8 0, .int .u8 0, .int .u8 0]) := by
    unfold Hid; rw [HW0.out]; have := Blk.new (w.alloc (.cells (key.map b8).toArray 22)) 24 #[.int .u8 0, .int .u8 0, .int .u8 0, .int .u8 0, .int .u8 0, .int .u8 0, .int .u8 0, .int .u8 0, .int .u8 0, .int .u8 0, .int .u8 0, .int .u8 0, .int .u8 0, .int .u8 0, .int .u8 0, .int .u8 0]; simpa using this
  have kl := lib_hid hk
  have HS := lib_hid (hs.grows hg0)
  obtain ⟨res, Hres, hrl, hra⟩ : ∃ r : Array Value, Hid (((polyF key bs).map b8).toArray = r) ∧ r.size = 16 ∧ r.all (·.oneCell') = true := ⟨_, lib_hid rfl, by simp [polyF_len], cells_all _⟩
  have Hnew : Hid (∀ W, Calls Try.prog 14 #[.agg (key.map b8).toArray] W fun e w' => ∃ g, e = .returned (.pointer (some ⟨g, 0, none⟩)) ∧ Grows W w' ∧ PSt w' W.heap.size g none (kr0 key) (kr1 key) (ks0 key) (ks1 key) []) := pnew_any key hk
  have HW0' := HW0.out
  clear hk hs
  go_enter Try.func9, Try.ntmps9
  go_upto_region 1 with fail
  rw [← HW0']
  clear HW0'
  go_wp2_with (refine wpList_load_blk rfl _ _ rfl w.heap.size rfl 22 (key.map b8).toArray _ HB0.out Try.underlying22 rfl (by rw [Try.size32k]; simp [kl.out]) ?_)
  refine (Hnew.out W0).mono ?_
  rintro e w1 ⟨g, rfl, hg1, hP1⟩
  have HP1 := lib_hid hP1
  have HS1 := lib_hid (HS.out.grows hg1)
  have HB1' := lib_hid (HB1.out.grows hg1)
  have hgw1 := hg0.trans hg1
  have hle1 := hg1.le
  have hgb : W0.heap.size ≤ g := hP1.1
  clear hP1
  go_wp2_with fail
  refine (pwrite_any g W0.heap.size none _ _ _ _ [] bs A l c w1 HP1.out HS1.out hl hle1).mono ?_
  rintro e w2 ⟨rfl, rb, hP2, hK2, _⟩
  rw [List.nil_append] at hP2
  have HP2 := lib_hid hP2
  have hb2 : Below W0.heap.size w1 w2 := hK2.below hle1 (fun i hi => by rcases hi with h | h; (· rw [h]; exact hgb); (· cases h))
  have HR2 := lib_hid (HB1'.out.below hb2 (by omega))
  have hgw2 : Grows w w2 := Below.trans hgw1 (hb2.mono (by omega))
  clear hP2 hK2 hb2
  go_wp2_with fail
  refine (psum_any g W0.heap.size rb _ _ _ _ bs w2 HP2.out).mono ?_
  rintro e w3 ⟨rfl, hg3⟩
  rw [show psumF (kr0 key) (kr1 key) (ks0 key) (ks1 key) bs = polyF key bs from rfl, Hres.out]
  have HR3 := lib_hid (HR2.out.grows hg3)
  go_wp2_with (refine wpList_store_blk rfl _ _ _ rfl (w.heap.size + 1) res rfl rfl 24 _ HR3.out (by rw [Try.size16, hrl]) (by simp [hrl]) hra (w.heap.size + 1) w3 (Below.refl _ _) (Nat.le_refl _) ?_; intro w7 HR7 hb7 hgr7)
  refine bodyPost_ret (results_cell_row rfl _ _ (w.heap.size + 1) _ res _ _ rfl HR7 Try.underlying24 rfl (by rw [Try.size16, hrl])) rfl ?_
  exact ⟨by rw [Hres.out], Below.trans (hgw2.trans hg3) (hb7.mono (by omega))⟩

def awkKey : List UInt8 := 2 :: (List.replicate 15 0 ++ 7 :: List.replicate 15 0)
theorem awk_a : polyF awkKey [] = 7 :: List.replicate 15 0 := by decide +kernel
theorem awk_b : polyF awkKey [3] = 13 :: 2 :: List.replicate 14 0 := by decide +kernel
theorem awk_lk : (#[.int .u8 2, .int .u8 0, .int .u8 0, .int .u8 0, .int .u8 0, .int .u8 0, .int .u8 0, .int .u8 0, .int .u8 0, .int .u8 0, .int .u8 0, .int .u8 0, .int .u8 0, .int .u8 0, .int .u8 0, .int .u8 0, .int .u8 7, .int .u8 0, .int .u8 0, .int .u8 0, .int .u8 0, .int .u8 0, .int .u8 0, .int .u8 0, .int .u8 0, .int .u8 0, .int .u8 0, .int .u8 0, .int .u8 0, .int .u8 0, .int .u8 0, .int .u8 0] : Array Value) = (awkKey.map b8).toArray := rfl
theorem awk_la : (#[.int .u8 7, .int .u8 0, .int .u8 0, .int .u8 0, .int .u8 0, .int .u8 0, .int .u8 0, .int .u8 0, .int .u8 0, .int .u8 0, .int .u8 0, .int .u8 0, .int .u8 0, .int .u8 0, .int .u8 0, .int .u8 0] : Array Value) = ((7 :: List.replicate 15 (0 : UInt8)).map b8).toArray := rfl
theorem awk_lb : (#[.int .u8 13, .int .u8 2, .int .u8 0, .int .u8 0, .int .u8 0, .int .u8 0, .int .u8 0, .int .u8 0, .int .u8 0, .int .u8 0, .int .u8 0, .int .u8 0, .int .u8 0, .int .u8 0, .int .u8 0, .int .u8 0] : Array Value) = ((13 :: 2 :: List.replicate 14 (0 : UInt8)).map b8).toArray := rfl
set_option maxRecDepth 100000 in
set_option maxHeartbeats 4000000 in
theorem awake5_any (w : World) : Calls Try.prog 13 #[] w fun e w' => e = .returned (.bool true) ∧ Grows w w' := by
  obtain ⟨key, Hkey, kl⟩ : ∃ k : List UInt8, Hid (awkKey = k) ∧ Hid (k.length = 32) := ⟨_, lib_hid rfl, lib_hid (by decide)⟩
  obtain ⟨ra, Hra, ral⟩ : ∃ k : List UInt8, Hid (7 :: List.replicate 15 0 = k) ∧ Hid (k.length = 16) := ⟨_, lib_hid rfl, lib_hid (by decide)⟩
  obtain ⟨rb, Hrb, rbl⟩ : ∃ k : List UInt8, Hid (13 :: 2 :: List.replicate 14 0 = k) ∧ Hid (k.length = 16) := ⟨_, lib_hid rfl, lib_hid (by decide)⟩
  have Hsa : Hid (∀ W, Calls Try.prog 9 #[.agg (key.map b8).toArray, .slice none 0 0] W fun e w' => e = .returned (.agg (ra.map b8).toArray) ∧ Grows W w') := fun W => by
    have := poly_any key [] kl.out none 0 0 W (SB.nil W) (by omega)
    rw [← Hkey.out, awk_a, Hra.out, Hkey.out] at this; exact this
  have Hsb : Hid (∀ b W, SB W (some ⟨b, 0, none⟩) 1 1 [3] → Calls Try.prog 9 #[.agg (key.map b8).toArray, .slice (some ⟨b, 0, none⟩) 1 1] W fun e w' => e = .returned (.agg (rb.map b8).toArray) ∧ Grows W w') := fun b W h => by
    have := poly_any key [3] kl.out _ 1 1 W h (by omega)
    rw [← Hkey.out, awk_b, Hrb.out, Hkey.out] at this; exact this
  go_enter Try.func13, Try.ntmps13
  go_upto_region 3 with fail
  obtain ⟨w1, HW1⟩ : ∃ X : World, Hid (X = w.alloc (.cells #[.int .u8 2, .int .u8 0, .int .u8 0, .int .u8 0, .int .u8 0, .int .u8 0, .int .u8 0, .int .u8 0, .int .u8 0, .int .u8 0, .int .u8 0, .int .u8 0, .int .u8 0, .int .u8 0, .int .u8 0, .int .u8 0, .int .u8 7, .int .u8 0, .int .u8 0, .int .u8 0, .int .u8 0, .int .u8 0, .int .u8 0, .int .u8 0, .int .u8 0, .int .u8 0, .int .u8 0, .int .u8 0, .int .u8 0, .int .u8 0, .int .u8 0, .int .u8 0] 22)) := ⟨_, lib_hid rfl⟩
  rw [← HW1.out]
  have HK : Hid (Blk w1 w.heap.size 22 (key.map b8).toArray) := by unfold Hid; rw [HW1.out, awk_lk, Hkey.out]; exact Blk.new _ _ _
  have hgw1 : Grows w w1 := by rw [HW1.out]; exact (Grows.refl w).alloc _
  have hea : ∀ W, (Op.equalIn 10000 24 (.agg (ra.map b8).toArray) (.agg #[.int .u8 7, .int .u8 0, .int .u8 0, .int .u8 0, .int .u8 0, .int .u8 0, .int .u8 0, .int .u8 0, .int .u8 0, .int .u8 0, .int .u8 0, .int .u8 0, .int .u8 0, .int .u8 0, .int .u8 0, .int .u8 0])).run Try.prog W = .ok true W := fun W => by
    rw [awk_la, Hra.out]
    exact (run_equalIn_bytes W 9998 24 5 16 ra ra ral.out ral.out Try.arr16 Try.underlying5 Try.sizeByte).trans (by rw [beq_self_eq_true])
  have heb : ∀ W, (Op.equalIn 10000 24 (.agg (rb.map b8).toArray) (.agg #[.int .u8 13, .int .u8 2, .int .u8 0, .int .u8 0, .int .u8 0, .int .u8 0, .int .u8 0, .int .u8 0, .int .u8 0, .int .u8 0, .int .u8 0, .int .u8 0, .int .u8 0, .int .u8 0, .int .u8 0, .int .u8 0])).run Try.prog W = .ok true W := fun W => by
    rw [awk_lb, Hrb.out]
    exact (run_equalIn_bytes W 9998 24 5 16 rb rb rbl.out rbl.out Try.arr16 Try.underlying5 Try.sizeByte).trans (by rw [beq_self_eq_true])
  obtain ⟨va, Hva, hval, hvaa⟩ : ∃ r : Array Value, Hid ((ra.map b8).toArray = r) ∧ r.size = 16 ∧ r.all (·.oneCell') = true := ⟨_, lib_hid rfl, by simp [ral.out], cells_all _⟩
  obtain ⟨vb, Hvb, hvbl, hvba⟩ : ∃ r : Array Value, Hid ((rb.map b8).toArray = r) ∧ r.size = 16 ∧ r.all (·.oneCell') = true := ⟨_, lib_hid rfl, by simp [rbl.out], cells_all _⟩
  apply wp_region_monoF [5, 6] Grows grows_rel (fun _ _ h => Grows.le h) 7 ((.is (.agg ((key).map b8).toArray), []) :: (.is (.agg (ra.map b8).toArray), []) :: (.is (.agg ((key).map b8).toArray), []) :: (.pr (fun v W => ∃ b, v = .slice (some ⟨b, 0, none⟩) 1 1 ∧ SB W (some ⟨b, 0, none⟩) 1 1 [3]), []) :: (.is (.agg (rb.map b8).toArray), [3]) :: (.pr (fun v W => ∃ b, v = .pointer (some ⟨b, 0, none⟩) ∧ w1.heap.size ≤ b ∧ Blk W b 24 #[.int .u8 0, .int .u8 0, .int .u8 0, .int .u8 0, .int .u8 0, .int .u8 0, .int .u8 0, .int .u8 0, .int .u8 0, .int .u8 0, .int .u8 0, .int .u8 0, .int .u8 0, .int .u8 0, .int .u8 0, .int .u8 0]), []) :: (.pr (fun v W => ∃ b, v = .pointer (some ⟨b, 0, none⟩) ∧ w1.heap.size ≤ b ∧ Blk W b 24 #[.int .u8 0, .int .u8 0, .int .u8 0, .int .u8 0, .int .u8 0, .int .u8 0, .int .u8 0, .int .u8 0, .int .u8 0, .int .u8 0, .int .u8 0, .int .u8 0, .int .u8 0, .int .u8 0, .int .u8 0, .int .u8 0]), []) :: []) (by kernel_rfl) (by kernel_rfl)
  apply MonoF.is0
  · kernel_rfl
  · rfl
  · intro W hW 
    go_wp2_with (refine wpList_load_blk (by kernel_rfl) _ _ rfl (w.heap.size) rfl 22 ((key).map b8).toArray _ (HK.out.grows hW) Try.underlying22 rfl (by rw [Try.size32k]; simp [kl.out]) ?_)
    exact ⟨rfl, rfl, Grows.refl _, rfl⟩
  intro k1 a1 hk1 ha1
  simp only [Nat.reduceAdd] at hk1
  simp only [Act.put, List.setIfInBounds_toArray, List.set_cons_succ, List.set_cons_zero] at ha1
  subst hk1 ha1
  apply MonoF.is0
  · kernel_rfl
  · rfl
  · intro W hW 
    go_wp2_with fail
    refine (Hsa.out W).mono ?_
    rintro e w1 ⟨rfl, hg1⟩
    go_wp2
    exact ⟨rfl, rfl, hg1, rfl⟩
  intro k1 a1 hk1 ha1
  simp only [Nat.reduceAdd] at hk1
  simp only [Act.put, List.setIfInBounds_toArray, List.set_cons_succ, List.set_cons_zero] at ha1
  subst hk1 ha1
  apply MonoF.is0
  · kernel_rfl
  · rfl
  · intro W hW 
    go_wp2_with (refine wpList_load_blk (by kernel_rfl) _ _ rfl (w.heap.size) rfl 22 ((key).map b8).toArray _ (HK.out.grows hW) Try.underlying22 rfl (by rw [Try.size32k]; simp [kl.out]) ?_)
    exact ⟨rfl, rfl, Grows.refl _, rfl⟩
  intro k1 a1 hk1 ha1
  simp only [Nat.reduceAdd] at hk1
  simp only [Act.put, List.setIfInBounds_toArray, List.set_cons_succ, List.set_cons_zero] at ha1
  subst hk1 ha1
  apply MonoF.pr0
  · kernel_rfl
  · rfl
  · exact fun v W W' hW ⟨b, h1, h2⟩ => ⟨b, h1, h2.grows hW⟩
  · intro W hW 
    go_wp2
    exact ⟨rfl, rfl, (Grows.refl _).alloc _, _, rfl, one_row W 5 (b8 3)⟩
  intro v3
  intro k1 a1 hk1 ha1
  simp only [Nat.reduceAdd] at hk1
  simp only [Act.put, List.setIfInBounds_toArray, List.set_cons_succ, List.set_cons_zero] at ha1
  subst hk1 ha1
  apply MonoF.is1
  · kernel_rfl
  · rfl
  · intro W hW f0
    obtain ⟨bb, rfl, hb⟩ := f0
    go_wp2_with fail
    refine (Hsb.out bb W hb).mono ?_
    rintro e w1 ⟨rfl, hg1⟩
    go_wp2
    exact ⟨rfl, rfl, hg1, rfl⟩
  intro k1 a1 hk1 ha1
  simp only [Nat.reduceAdd] at hk1
  simp only [Act.put, List.setIfInBounds_toArray, List.set_cons_succ, List.set_cons_zero] at ha1
  subst hk1 ha1
  apply MonoF.new0
  · kernel_rfl
  · rfl
  · exact fun v W W' hW ⟨b, h1, h2, h3⟩ => ⟨b, h1, h2, h3.grows hW⟩
  · intro W hW 
    have hle := hW.le
    go_wp2
    exact ⟨rfl, rfl, (Grows.refl _).alloc _, ⟨_, rfl, hle, Blk.new _ _ _⟩, ⟨_, rfl, Nat.le_refl _, by simp⟩⟩
  intro v5
  intro k1 a1 hk1 ha1
  simp only [Nat.reduceAdd] at hk1
  simp only [Act.put, List.setIfInBounds_toArray, List.set_cons_succ, List.set_cons_zero] at ha1
  subst hk1 ha1
  apply MonoF.new0
  · kernel_rfl
  · rfl
  · exact fun v W W' hW ⟨b, h1, h2, h3⟩ => ⟨b, h1, h2, h3.grows hW⟩
  · intro W hW 
    have hle := hW.le
    go_wp2
    exact ⟨rfl, rfl, (Grows.refl _).alloc _, ⟨_, rfl, hle, Blk.new _ _ _⟩, ⟨_, rfl, Nat.le_refl _, by simp⟩⟩
  intro v6
  intro k1 a1 hk1 ha1
  simp only [Nat.reduceAdd] at hk1
  simp only [Act.put, List.setIfInBounds_toArray, List.set_cons_succ, List.set_cons_zero] at ha1
  subst hk1 ha1
  refine MonoF.done ?_
  intro wm hgm hap
  simp only [allF, List.drop_succ_cons, List.drop_zero]
  intro g6 g5 g3
  obtain ⟨ga, rfl, hla, hba⟩ := g5
  obtain ⟨gb, rfl, hlb, hbb⟩ := g6
  have hne : gb ≠ ga := fun e => hap.1 _ (List.mem_singleton.2 rfl) (by rw [e])
  clear hap g3 Hsa Hsb
  have HBA := lib_hid hba
  have HBB := lib_hid hbb
  have hgw := hgw1.trans hgm
  have hwa : w.heap.size ≤ ga := Nat.le_trans hgw1.le hla
  have hwb : w.heap.size ≤ gb := Nat.le_trans hgw1.le hlb
  rw [Hva.out, Hvb.out]
  rw [Hva.out] at hea
  rw [Hvb.out] at heb
  clear hba hbb hgm
  go_upto_region 4 with (first
    | (refine wpList_store_blk rfl _ _ _ rfl ga va rfl rfl 24 _ HBA.out (by rw [Try.size16, hval]) (by simp [hval]) hvaa ga wm (Below.refl _ _) (Nat.le_refl _) ?_; intro w5 H5 hb5 hg5; have H6 := HBB.out.grown hg5 (fun e => hne (Option.some.inj e)))
    | (refine wpList_store_blk rfl _ _ _ rfl gb vb rfl rfl 24 _ H6 (by rw [Try.size16, hvbl]) (by simp [hvbl]) hvba gb w5 (Below.refl _ _) (Nat.le_refl _) ?_; intro w6 H7 hb7 hg7))
  have HA8 := lib_hid (H5.grown hg7 (fun e => hne (Option.some.inj e).symm))
  have HB8 := lib_hid H7
  have hgw6 : Grows w w6 := (hgw.grown hg5 (fun k e => by have := Option.some.inj e; omega)).grown hg7 (fun k e => by have := Option.some.inj e; omega)
  clear H5 H6 H7 hb5 hb7 hg5 hg7 hgw
  go_wp2_with (first
    | (refine wpList_load_blk (by kernel_rfl) _ _ rfl ga rfl 24 va _ HA8.out Try.underlying24 rfl (by rw [Try.size16, hval]) ?_)
    | (refine wpList_load_blk (by kernel_rfl) _ _ rfl gb rfl 24 vb _ HB8.out Try.underlying24 rfl (by rw [Try.size16, hvbl]) ?_))
  go_ret
  exact ⟨rfl, hgw6⟩

end Go.Proofs.Ytilgkadochhkjaa
