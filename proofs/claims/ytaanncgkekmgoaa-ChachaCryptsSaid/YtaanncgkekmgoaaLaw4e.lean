/-
  The walks of the laws of layer 4: ChachaBlocks, ChachaCrypts.
-/
import Derived.Test.YtaanncgkekmgoaaChacha12
import Derived.Test.YtaanncgkekmgoaaOpenKey
import Derived.Test.YtaanncgkekmgoaaArrEqW
import Derived.Test.YtaanncgkekmgoaaLaw4a
import Derived.Deep.Cut
namespace Go.Proofs.Ytaanncgkekmgoaa
open Go Go.RowKit
set_option linter.unusedSimpArgs false


set_option maxRecDepth 100000 in
set_option maxHeartbeats 4000000 in
theorem walk_ChachaBlocks (key nonce : List UInt8) (ctr : UInt32) (qs : List UInt32) (w : World) (hk : key.length = 32) (hn : nonce.length = 12) (hq : qs.length = 4) :
    Calls Try.prog 3 #[.agg (key.map b8 ++ (nonce.map b8 ++ [b32 ctr])).toArray, .agg (qs.map b32).toArray] w fun e w' => e = .returned (.bool true) ∧ Below w.heap.size w w' := by
  obtain ⟨q0, q1, q2, q3, rfl⟩ : ∃ q0 q1 q2 q3, qs = [q0, q1, q2, q3] := by
    match qs, hq with
    | [a, b, c, d], _ => exact ⟨a, b, c, d, rfl⟩
  rw [show ([q0, q1, q2, q3].map b32).toArray = #[b32 q0, b32 q1, b32 q2, b32 q3] from rfl]
  clear hq
  obtain ⟨zs, Hz⟩ : ∃ zs : List Value, Hid (zs = key.map b8 ++ (nonce.map b8 ++ [b32 ctr])) := ⟨_, lib_hid rfl⟩
  rw [← Hz.out]
  obtain ⟨W0, HW0, hW0, hg0⟩ : ∃ W0 : World, Hid (W0 = (w.alloc (.cells zs.toArray 26)).alloc (.cells #[b32 q0, b32 q1, b32 q2, b32 q3] 27)) ∧ W0.heap.size = w.heap.size + 2 ∧ Grows w W0 := ⟨_, lib_hid rfl, by simp, ((Grows.refl w).alloc _).alloc _⟩
  have HZ : Hid (Blk W0 w.heap.size 26 zs.toArray) := by unfold Hid; rw [HW0.out]; exact (Blk.new _ _ _).alloc _
  have HFk : Hid (∀ W, Grows W0 W → Row W (some ⟨w.heap.size, 0, none⟩) 32 32 (key.map b8)) := fun W hW => by
    have := (HZ.out.grows hW).row (o := 0) (n := 32) (c := 32) (by omega) (by rw [Hz.out]; simp [hk, hn]) (by unfold maxLen; omega)
    rw [Hz.out] at this
    simpa [List.take_append, hk] using this
  have HFn : Hid (∀ W, Grows W0 W → Row W (some ⟨w.heap.size, 32, none⟩) 12 12 (nonce.map b8)) := fun W hW => by
    have := (HZ.out.grows hW).row (o := 32) (n := 12) (c := 12) (by omega) (by rw [Hz.out]; simp [hk, hn]) (by unfold maxLen; omega)
    rw [Hz.out] at this
    simpa [List.take_append, List.drop_append, hk, hn] using this
  have HFc : Hid (∀ W, Grows W0 W → W.cell? ⟨w.heap.size, 44, none⟩ = some (b32 ctr)) := fun W hW => by
    rw [(HZ.out.grows hW).cell, Hz.out]
    simp [List.getElem?_append_right, hk, hn]
  have HQ0 : Hid (Blk W0 (w.heap.size + 1) 27 #[b32 q0, b32 q1, b32 q2, b32 q3]) := by
    unfold Hid; rw [HW0.out]; have := Blk.new (w.alloc (.cells zs.toArray 26)) 27 #[b32 q0, b32 q1, b32 q2, b32 q3]; simpa using this
  obtain ⟨blk, Hblk, hbl⟩ : ∃ l, Hid (blockC key nonce ctr = l) ∧ l.length = 64 := ⟨_, lib_hid rfl, blockC_len _ _ _⟩
  obtain ⟨res, Hres, hrl, hra⟩ : ∃ r : Array Value, Hid ((blk.map b8).toArray = r) ∧ r.size = 64 ∧ r.all (·.oneCell') = true := ⟨_, lib_hid rfl, by simp [hbl], cells_all _⟩
  have Hb : Hid (∀ W, Calls Try.prog 9 #[.agg (key.map b8).toArray, .agg (nonce.map b8).toArray, b32 ctr] W fun e w' => e = .returned (.agg res) ∧ Grows W w') := fun W => by
    rw [← Hres.out, ← Hblk.out]; exact blockc_any key nonce ctr hk hn W
  have Href : Hid (∀ W, SB W (some ⟨w.heap.size, 0, none⟩) 32 32 key → SB W (some ⟨w.heap.size, 32, none⟩) 12 12 nonce → Calls Try.prog 11 #[.slice (some ⟨w.heap.size, 0, none⟩) 32 32, .slice (some ⟨w.heap.size, 32, none⟩) 12 12, b32 ctr] W (NewB 5 W blk)) := fun W h1 h2 => by
    rw [← Hblk.out]; exact refBlock_any _ _ _ _ key nonce ctr W h1 h2
  obtain ⟨r0, r1, r2, r3, Hq⟩ : ∃ r0 r1 r2 r3, Hid (quarterF ⟨q0, q1, q2, q3⟩ = ⟨r0, r1, r2, r3⟩) := ⟨_, _, _, _, lib_hid rfl⟩
  have HpQ : Hid (∀ W, Calls Try.prog 10 #[b32 q0, b32 q1, b32 q2, b32 q3] W fun e w' => e = .returned (.tuple #[b32 r0, b32 r1, b32 r2, b32 r3]) ∧ Grows W w') := fun W => by
    have := quarter_any q0 q1 q2 q3 W; rw [Hq.out] at this; exact this
  have HrefQ : Hid (∀ W, Calls Try.prog 12 #[b32 q0, b32 q1, b32 q2, b32 q3] W fun e w' => e = .returned (.agg #[b32 r0, b32 r1, b32 r2, b32 r3]) ∧ Grows W w') := fun W => by
    have := refQuarter_any q0 q1 q2 q3 W; rw [Hq.out] at this; exact this
  have HW0' := HW0.out
  have Hbl := lib_hid hbl
  clear hk hn hbl
  go_enter Try.func3, Try.ntmps3
  go_upto_region 1 with fail
  rw [← HW0']
  clear HW0'
  have hcc := HFc.out W0 (Grows.refl _)
  go_wp2_with (first
    | (refine wpList_load_part rfl _ _ rfl ⟨w.heap.size, 0, none⟩ rfl 32 32 (key.map b8) _ (HFk.out W0 (Grows.refl _)) Try.underlying22 rfl Try.size32 ?_)
    | (refine wpList_load_part rfl _ _ rfl ⟨w.heap.size, 32, none⟩ rfl 12 12 (nonce.map b8) _ (HFn.out W0 (Grows.refl _)) Try.underlying23 rfl Try.size12 ?_))
  refine (Hb.out W0).mono ?_
  rintro e w1 ⟨rfl, hg1⟩
  clear hcc
  obtain ⟨g5, Hg5⟩ : ∃ g, Hid (w1.heap.size = g) := ⟨_, lib_hid rfl⟩
  go_upto_region 2 with (refine wpList_store_blk rfl _ _ _ rfl w1.heap.size res rfl rfl 28 _ (Blk.new _ _ _) (by rw [Try.size64, hrl]) (by simp [hrl]) hra w1.heap.size w1 ((Grows.refl w1).alloc _) (Nat.le_refl _) ?_; intro w2 H7 hb2 hg2)
  rw [Hg5.out] at H7
  rw [Hg5.out]
  have h52 : g5 < w2.heap.size := H7.lt
  have hg02 : Grows W0 w2 := hg1.trans hb2
  have HB2 : Hid (Blk w2 g5 28 (blk.map b8).toArray) := by rw [Hres.out]; exact H7
  clear hg2 hb2 hg1 H7
  obtain ⟨g6, Hg6⟩ : ∃ g, Hid (w2.heap.size = g) := ⟨_, lib_hid rfl⟩
  obtain ⟨W3, HW3, hg23⟩ : ∃ W : World, Hid (W = w2.alloc (.cells #[.int .u32 0, .int .u32 0, .int .u32 0, .int .u32 0] 27)) ∧ Grows w2 W := ⟨_, lib_hid rfl, (Grows.refl _).alloc _⟩
  have HZ3 : Hid (Blk W3 g6 27 #[.int .u32 0, .int .u32 0, .int .u32 0, .int .u32 0]) := by unfold Hid; rw [HW3.out, ← Hg6.out]; exact Blk.new _ _ _
  have HW3' := HW3.out
  go_upto_region 3 with fail
  rw [← HW3', Hg6.out]
  clear HW3'
  have hq3 := HQ0.out.grows (hg02.trans hg23)
  have c0 : W3.cell? ⟨w.heap.size + 1, 0, none⟩ = some (b32 q0) := hq3.cell 0
  have c1 : W3.cell? ⟨w.heap.size + 1, 1, none⟩ = some (b32 q1) := hq3.cell 1
  have c2 : W3.cell? ⟨w.heap.size + 1, 2, none⟩ = some (b32 q2) := hq3.cell 2
  have c3 : W3.cell? ⟨w.heap.size + 1, 3, none⟩ = some (b32 q3) := hq3.cell 3
  clear hq3
  go_wp2_with fail
  refine (HpQ.out W3).mono ?_
  rintro e w4 ⟨rfl, hg4⟩
  have HZ4 := lib_hid (HZ3.out.grows hg4)
  have d0 : w4.cell? ⟨g6, 0, none⟩ = some (.int .u32 0) := HZ4.out.cell 0
  have d1 : w4.cell? ⟨g6, 1, none⟩ = some (.int .u32 0) := HZ4.out.cell 1
  have d2 : w4.cell? ⟨g6, 2, none⟩ = some (.int .u32 0) := HZ4.out.cell 2
  have d3 : w4.cell? ⟨g6, 3, none⟩ = some (.int .u32 0) := HZ4.out.cell 3
  have f0 := HZ4.out.frozen 0
  have f1 := HZ4.out.frozen 1
  have f2 := HZ4.out.frozen 2
  have f3 := HZ4.out.frozen 3
  clear c0 c1 c2 c3
  obtain ⟨W5, HW5⟩ : ∃ W : World, Hid (W = (((w4.setCell ⟨g6, 0, none⟩ (b32 r0)).setCell ⟨g6, 1, none⟩ (b32 r1)).setCell ⟨g6, 2, none⟩ (b32 r2)).setCell ⟨g6, 3, none⟩ (b32 r3)) := ⟨_, lib_hid rfl⟩
  have HR : Hid (Blk W5 g6 27 #[b32 r0, b32 r1, b32 r2, b32 r3]) := by
    unfold Hid; rw [HW5.out]
    have := (((HZ4.out.set 0 (b32 r0)).set 1 (b32 r1)).set 2 (b32 r2)).set 3 (b32 r3)
    simpa using this
  have hg04 := (hg02.trans hg23).trans hg4
  have h6 : ∀ X : World, X.heap.size ≤ w2.heap.size → Grows X w4 → Grows X W5 := fun X hX h => by
    rw [HW5.out]
    exact (((h.setCell (p := ⟨g6, 0, none⟩) (by rw [← Hg6.out]; exact hX) _).setCell (p := ⟨g6, 1, none⟩) (by rw [← Hg6.out]; exact hX) _).setCell (p := ⟨g6, 2, none⟩) (by rw [← Hg6.out]; exact hX) _).setCell (p := ⟨g6, 3, none⟩) (by rw [← Hg6.out]; exact hX) _
  have hg05 : Grows W0 W5 := h6 W0 hg02.le hg04
  have hg25 : Grows w2 W5 := h6 w2 (Nat.le_refl _) (hg23.trans hg4)
  have HK5 : Hid (∀ W, Grows W5 W → SB W (some ⟨w.heap.size, 0, none⟩) 32 32 key) := fun W hW => HFk.out W (hg05.trans hW)
  have HN5 : Hid (∀ W, Grows W5 W → SB W (some ⟨w.heap.size, 32, none⟩) 12 12 nonce) := fun W hW => HFn.out W (hg05.trans hW)
  have HC5 : Hid (∀ W, Grows W5 W → W.cell? ⟨w.heap.size, 44, none⟩ = some (b32 ctr)) := fun W hW => HFc.out W (hg05.trans hW)
  have HQ : Hid (∀ W, Grows W5 W → Blk W (w.heap.size + 1) 27 #[b32 q0, b32 q1, b32 q2, b32 q3]) := fun W hW => HQ0.out.grows (hg05.trans hW)
  have HBk : Hid (∀ W, Grows W5 W → SB W (some ⟨g5, 0, none⟩) 64 64 blk) := fun W hW => by
    have := (HB2.out.grows (hg25.trans hW)).part 0 64 64 (Nat.le_refl _) (by rw [Hbl.out]; omega) (by unfold maxLen; omega)
    simpa [List.take_of_length_le (show blk.length ≤ 64 by rw [Hbl.out]; omega)] using this
  have hgw := hg0.trans hg05
  have HW5' := HW5.out
  clear h6 hg02 hg23 hg04
  go_upto_region 4 with fail
  rw [← HW5']
  clear HW5' d0 d1 d2 d3 f0 f1 f2 f3
  apply wp_region_mono 28 ((.is _, []) :: (.is _, []) :: (.is _, []) :: (.is _, []) :: (.is _, []) :: (.is _, []) :: (.is _, []) :: (.is _, []) :: (.pr (fun v W => ∃ A n c, v = .slice A n c ∧ SB W A n c (blk)), []) :: (.is _, [8]) :: (.is _, []) :: (.is _, []) :: (.is (.agg #[b32 r0, b32 r1, b32 r2, b32 r3]), []) :: (.is _, []) :: (.is _, []) :: (.is _, []) :: (.is _, []) :: (.is _, []) :: (.is _, []) :: (.is _, []) :: (.is _, []) :: (.is (.agg #[b32 r0, b32 r1, b32 r2, b32 r3]), []) :: (.is (.bool true), []) :: (.is _, []) :: (.is _, []) :: (.is (.bool true), []) :: (.is _, []) :: (.is _, []) :: []) (by kernel_rfl) (by kernel_rfl)
  apply Mono.is0
  · kernel_rfl
  · intro W hW
    go_wp2
    refine ⟨rfl, rfl, Grows.refl _, ?_⟩
    unfold Oper.valAt
    go_simp
    rfl
  intro k1 a1 hk1 ha1
  simp only [Nat.reduceAdd] at hk1
  simp only [Act.put, List.setIfInBounds_toArray, List.set_cons_succ, List.set_cons_zero] at ha1
  subst hk1 ha1
  apply Mono.is0
  · kernel_rfl
  · intro W hW
    have cv := run_string_SB (P := Try.prog) Try.underlying32 Try.underlying5 Try.underlying9 (HBk.out W hW)
    go_wp2
    refine ⟨rfl, rfl, Grows.refl _, ?_⟩
    unfold Oper.valAt
    go_simp
    rfl
  intro k1 a1 hk1 ha1
  simp only [Nat.reduceAdd] at hk1
  simp only [Act.put, List.setIfInBounds_toArray, List.set_cons_succ, List.set_cons_zero] at ha1
  subst hk1 ha1
  iterate 5
    apply Mono.is0
    · kernel_rfl
    · intro W hW
      go_wp2
      refine ⟨rfl, rfl, Grows.refl _, ?_⟩
      unfold Oper.valAt
      go_simp
      rfl
    intro k1 a1 hk1 ha1
    simp only [Nat.reduceAdd] at hk1
    simp only [Act.put, List.setIfInBounds_toArray, List.set_cons_succ, List.set_cons_zero] at ha1
    subst hk1 ha1
  apply Mono.is0
  · kernel_rfl
  · intro W hW
    have hcc := HC5.out W hW
    go_wp2
    refine ⟨rfl, rfl, Grows.refl _, ?_⟩
    unfold Oper.valAt
    go_simp
    rfl
  intro k1 a1 hk1 ha1
  simp only [Nat.reduceAdd] at hk1
  simp only [Act.put, List.setIfInBounds_toArray, List.set_cons_succ, List.set_cons_zero] at ha1
  subst hk1 ha1
  apply Mono.pr0
  · kernel_rfl
  · exact fun v W W' hW ⟨A, n, c, h1, h2⟩ => ⟨A, n, c, h1, h2.grows hW⟩
  · intro W hW 
    go_wp2_with fail
    refine (Href.out W (HK5.out W hW) (HN5.out W hW)).mono ?_
    rintro e w1 ⟨A1, n1, c1, hn1, rfl, hg1, ho1⟩
    go_wp2
    exact ⟨rfl, rfl, hg1, A1, n1, c1, rfl, SB.own ho1⟩
  intro v8
  intro k1 a1 hk1 ha1
  simp only [Nat.reduceAdd] at hk1
  simp only [Act.put, List.setIfInBounds_toArray, List.set_cons_succ, List.set_cons_zero] at ha1
  subst hk1 ha1
  apply Mono.is1
  · kernel_rfl
  · intro W hW f0
    obtain ⟨A1, n1, c1, rfl, hs⟩ := f0
    have cv := run_string_SB (P := Try.prog) Try.underlying32 Try.underlying5 Try.underlying9 hs
    go_wp2
    refine ⟨rfl, rfl, Grows.refl _, ?_⟩
    unfold Oper.valAt
    go_simp
    rfl
  intro k1 a1 hk1 ha1
  simp only [Nat.reduceAdd] at hk1
  simp only [Act.put, List.setIfInBounds_toArray, List.set_cons_succ, List.set_cons_zero] at ha1
  subst hk1 ha1
  iterate 2
    apply Mono.is0
    · kernel_rfl
    · intro W hW
      go_wp2
      refine ⟨rfl, rfl, Grows.refl _, ?_⟩
      unfold Oper.valAt
      go_simp
      rfl
    intro k1 a1 hk1 ha1
    simp only [Nat.reduceAdd] at hk1
    simp only [Act.put, List.setIfInBounds_toArray, List.set_cons_succ, List.set_cons_zero] at ha1
    subst hk1 ha1
  apply Mono.is0
  · kernel_rfl
  · intro W hW 
    go_wp2_with (refine wpList_load_blk (by kernel_rfl) _ _ rfl g6 rfl 27 #[b32 r0, b32 r1, b32 r2, b32 r3] _ (HR.out.grows hW) Try.underlying27 rfl Try.size4w ?_)
    exact ⟨rfl, rfl, Grows.refl _, rfl⟩
  intro k1 a1 hk1 ha1
  simp only [Nat.reduceAdd] at hk1
  simp only [Act.put, List.setIfInBounds_toArray, List.set_cons_succ, List.set_cons_zero] at ha1
  subst hk1 ha1
  apply Mono.is0
  · kernel_rfl
  · intro W hW
    go_wp2
    refine ⟨rfl, rfl, Grows.refl _, ?_⟩
    unfold Oper.valAt
    go_simp
    rfl
  intro k1 a1 hk1 ha1
  simp only [Nat.reduceAdd] at hk1
  simp only [Act.put, List.setIfInBounds_toArray, List.set_cons_succ, List.set_cons_zero] at ha1
  subst hk1 ha1
  apply Mono.is0
  · kernel_rfl
  · intro W hW
    have hcc : W.cell? ⟨w.heap.size + 1, 0, none⟩ = some (b32 q0) := (HQ.out W hW).cell 0
    go_wp2
    refine ⟨rfl, rfl, Grows.refl _, ?_⟩
    unfold Oper.valAt
    go_simp
    rfl
  intro k1 a1 hk1 ha1
  simp only [Nat.reduceAdd] at hk1
  simp only [Act.put, List.setIfInBounds_toArray, List.set_cons_succ, List.set_cons_zero] at ha1
  subst hk1 ha1
  apply Mono.is0
  · kernel_rfl
  · intro W hW
    go_wp2
    refine ⟨rfl, rfl, Grows.refl _, ?_⟩
    unfold Oper.valAt
    go_simp
    rfl
  intro k1 a1 hk1 ha1
  simp only [Nat.reduceAdd] at hk1
  simp only [Act.put, List.setIfInBounds_toArray, List.set_cons_succ, List.set_cons_zero] at ha1
  subst hk1 ha1
  apply Mono.is0
  · kernel_rfl
  · intro W hW
    have hcc : W.cell? ⟨w.heap.size + 1, 1, none⟩ = some (b32 q1) := (HQ.out W hW).cell 1
    go_wp2
    refine ⟨rfl, rfl, Grows.refl _, ?_⟩
    unfold Oper.valAt
    go_simp
    rfl
  intro k1 a1 hk1 ha1
  simp only [Nat.reduceAdd] at hk1
  simp only [Act.put, List.setIfInBounds_toArray, List.set_cons_succ, List.set_cons_zero] at ha1
  subst hk1 ha1
  apply Mono.is0
  · kernel_rfl
  · intro W hW
    go_wp2
    refine ⟨rfl, rfl, Grows.refl _, ?_⟩
    unfold Oper.valAt
    go_simp
    rfl
  intro k1 a1 hk1 ha1
  simp only [Nat.reduceAdd] at hk1
  simp only [Act.put, List.setIfInBounds_toArray, List.set_cons_succ, List.set_cons_zero] at ha1
  subst hk1 ha1
  apply Mono.is0
  · kernel_rfl
  · intro W hW
    have hcc : W.cell? ⟨w.heap.size + 1, 2, none⟩ = some (b32 q2) := (HQ.out W hW).cell 2
    go_wp2
    refine ⟨rfl, rfl, Grows.refl _, ?_⟩
    unfold Oper.valAt
    go_simp
    rfl
  intro k1 a1 hk1 ha1
  simp only [Nat.reduceAdd] at hk1
  simp only [Act.put, List.setIfInBounds_toArray, List.set_cons_succ, List.set_cons_zero] at ha1
  subst hk1 ha1
  apply Mono.is0
  · kernel_rfl
  · intro W hW
    go_wp2
    refine ⟨rfl, rfl, Grows.refl _, ?_⟩
    unfold Oper.valAt
    go_simp
    rfl
  intro k1 a1 hk1 ha1
  simp only [Nat.reduceAdd] at hk1
  simp only [Act.put, List.setIfInBounds_toArray, List.set_cons_succ, List.set_cons_zero] at ha1
  subst hk1 ha1
  apply Mono.is0
  · kernel_rfl
  · intro W hW
    have hcc : W.cell? ⟨w.heap.size + 1, 3, none⟩ = some (b32 q3) := (HQ.out W hW).cell 3
    go_wp2
    refine ⟨rfl, rfl, Grows.refl _, ?_⟩
    unfold Oper.valAt
    go_simp
    rfl
  intro k1 a1 hk1 ha1
  simp only [Nat.reduceAdd] at hk1
  simp only [Act.put, List.setIfInBounds_toArray, List.set_cons_succ, List.set_cons_zero] at ha1
  subst hk1 ha1
  apply Mono.is0
  · kernel_rfl
  · intro W hW 
    go_wp2_with fail
    refine (HrefQ.out W).mono ?_
    rintro e w1 ⟨rfl, hg1⟩
    go_wp2
    exact ⟨rfl, rfl, hg1, rfl⟩
  intro k1 a1 hk1 ha1
  simp only [Nat.reduceAdd] at hk1
  simp only [Act.put, List.setIfInBounds_toArray, List.set_cons_succ, List.set_cons_zero] at ha1
  subst hk1 ha1
  apply Mono.is0
  · kernel_rfl
  · intro W hW 
    have he : (Op.equalIn 10000 27 (.agg #[b32 r0, b32 r1, b32 r2, b32 r3]) (.agg #[b32 r0, b32 r1, b32 r2, b32 r3])).run Try.prog W = .ok true W := (run_equalIn_words (P := Try.prog) W 9998 27 24 4 [r0, r1, r2, r3] [r0, r1, r2, r3] rfl rfl Try.underlying27 Try.underlying24 (by kernel_rfl)).trans (by rw [beq_self_eq_true])
    go_wp2
    refine ⟨rfl, rfl, Grows.refl _, ?_⟩
    unfold Oper.valAt
    go_simp
  intro k1 a1 hk1 ha1
  simp only [Nat.reduceAdd] at hk1
  simp only [Act.put, List.setIfInBounds_toArray, List.set_cons_succ, List.set_cons_zero] at ha1
  subst hk1 ha1
  iterate 2
    apply Mono.is0
    · kernel_rfl
    · intro W hW
      go_wp2
      refine ⟨rfl, rfl, Grows.refl _, ?_⟩
      unfold Oper.valAt
      go_simp
      rfl
    intro k1 a1 hk1 ha1
    simp only [Nat.reduceAdd] at hk1
    simp only [Act.put, List.setIfInBounds_toArray, List.set_cons_succ, List.set_cons_zero] at ha1
    subst hk1 ha1
  apply Mono.is0
  · kernel_rfl
  · intro W hW 
    go_wp2_with fail
    refine (awake4_any W).mono ?_
    rintro e w1 ⟨rfl, hg1⟩
    go_wp2
    exact ⟨rfl, rfl, hg1, rfl⟩
  intro k1 a1 hk1 ha1
  simp only [Nat.reduceAdd] at hk1
  simp only [Act.put, List.setIfInBounds_toArray, List.set_cons_succ, List.set_cons_zero] at ha1
  subst hk1 ha1
  iterate 2
    apply Mono.is0
    · kernel_rfl
    · intro W hW
      go_wp2
      refine ⟨rfl, rfl, Grows.refl _, ?_⟩
      unfold Oper.valAt
      go_simp
      rfl
    intro k1 a1 hk1 ha1
    simp only [Nat.reduceAdd] at hk1
    simp only [Act.put, List.setIfInBounds_toArray, List.set_cons_succ, List.set_cons_zero] at ha1
    subst hk1 ha1
  refine Mono.done ?_
  intro wm hgm
  simp only [allF, List.drop_succ_cons, List.drop_nil]
  intro g8
  go_wp2
  go_ret
  exact ⟨rfl, hgw.trans hgm⟩


theorem xorF_zeros (s : List UInt8) : xorF (List.replicate s.length 0) s = s := by
  apply List.ext_getElem
  · simp [xorF]
  · intro i h1 h2
    simp [xorF]
theorem crypt_zeros (key nonce : List UInt8) (n : UInt32) (m : Nat) : cryptF key nonce n (List.replicate m 0) = streamF key nonce n m := by
  unfold cryptF
  rw [List.length_replicate]
  have := xorF_zeros (streamF key nonce n m)
  rw [streamF_len] at this
  exact this
theorem made_zeros (w : World) (t : TypeId) (m : Nat) (h : m ≤ 1000000) : SB (w.alloc (.cells (madeCells #[Value.int .u8 0] m) t)) (some ⟨w.heap.size, 0, none⟩) m m (List.replicate m 0) := by
  have e1 : madeCells #[Value.int .u8 0] m = ((List.replicate m (0 : UInt8)).map b8).toArray := by
    apply Array.toList_inj.1
    rw [toList_madeCells_one]; simp
  rw [e1]
  have := (Blk.new w t ((List.replicate m (0 : UInt8)).map b8).toArray).row (o := 0) (n := m) (c := m) (Nat.le_refl _) (by simp) (by unfold maxLen; omega)
  unfold SB
  simpa using this

set_option maxRecDepth 100000 in
set_option maxHeartbeats 4000000 in
theorem walk_ChachaCrypts (key nonce : List UInt8) (ctr : UInt32) (A : Option Addr) (l c : Nat) (bs : List UInt8) (many : Int) (w : World) (hk : key.length = 32) (hn : nonce.length = 12) (hs : SB w A l c bs) (hm12 : -32768 ≤ many ∧ many ≤ 32767) :
    Calls Try.prog 5 #[.agg (key.map b8 ++ (nonce.map b8 ++ [b32 ctr])).toArray, .slice A l c, .int .i16 many] w fun e w' => e = .returned (.bool true) ∧ Below w.heap.size w w' := by
  obtain ⟨zs, Hz⟩ : ∃ zs : List Value, Hid (zs = key.map b8 ++ (nonce.map b8 ++ [b32 ctr])) := ⟨_, lib_hid rfl⟩
  rw [← Hz.out]
  obtain ⟨W0, HW0, hW0, hg0⟩ : ∃ W0 : World, Hid (W0 = w.alloc (.cells zs.toArray 26)) ∧ W0.heap.size = w.heap.size + 1 ∧ Grows w W0 := ⟨_, lib_hid rfl, by simp, (Grows.refl w).alloc _⟩
  have HZ : Hid (Blk W0 w.heap.size 26 zs.toArray) := by unfold Hid; rw [HW0.out]; exact Blk.new _ _ _
  have HFk : Hid (∀ W, Grows W0 W → Row W (some ⟨w.heap.size, 0, none⟩) 32 32 (key.map b8)) := fun W hW => by
    have := (HZ.out.grows hW).row (o := 0) (n := 32) (c := 32) (by omega) (by rw [Hz.out]; simp [hk, hn]) (by unfold maxLen; omega)
    rw [Hz.out] at this
    simpa [List.take_append, hk] using this
  have HFn : Hid (∀ W, Grows W0 W → Row W (some ⟨w.heap.size, 32, none⟩) 12 12 (nonce.map b8)) := fun W hW => by
    have := (HZ.out.grows hW).row (o := 32) (n := 12) (c := 12) (by omega) (by rw [Hz.out]; simp [hk, hn]) (by unfold maxLen; omega)
    rw [Hz.out] at this
    simpa [List.take_append, List.drop_append, hk, hn] using this
  have HFc : Hid (∀ W, Grows W0 W → W.cell? ⟨w.heap.size, 44, none⟩ = some (b32 ctr)) := fun W hW => by
    rw [(HZ.out.grows hW).cell, Hz.out]
    simp [List.getElem?_append_right, hk, hn]
  obtain ⟨hm1, hm2⟩ := hm12
  have hlen := lib_hid hs.len
  have HS := lib_hid (hs.grows hg0)
  by_cases hbig : 600 < l
  · have h1 : (600 : Int) < l := by omega
    clear hs hk hn
    go_enter Try.func5, Try.ntmps5
    go_wp2
    go_ret
    exact ⟨rfl, (Grows.refl w).alloc _⟩
  · have h1 : ¬ (600 : Int) < l := by omega
    obtain ⟨m, hm0⟩ : ∃ m : Int, many.tmod 3000 = m := ⟨_, rfl⟩
    have hm0' : (wrap64 many).tmod 3000 = m := by rw [← hm0]; congr 1; unfold wrap64; omega
    have hmb : m < 3000 := by rw [← hm0]; exact Int.tmod_lt_of_pos _ (by omega)
    obtain ⟨M, HM, hMx, hMl⟩ : ∃ M : Nat, Hid (m.toNat = M) ∧ max m 0 = (M : Int) ∧ M < 3000 := ⟨m.toNat, lib_hid rfl, by omega, by omega⟩
    obtain ⟨st, Hst, stl⟩ : ∃ x, Hid (streamF key nonce ctr M = x) ∧ Hid (x.length = M) := ⟨_, lib_hid rfl, streamF_len _ _ _ _⟩
    obtain ⟨cb, Hcb⟩ : ∃ x, Hid (cryptF key nonce ctr bs = x) := ⟨_, lib_hid rfl⟩
    have Hs1 : Hid (∀ W, Calls Try.prog 14 #[.agg (key.map b8).toArray, .agg (nonce.map b8).toArray, b32 ctr, .int .i64 m] W fun e w' => ∃ A c, e = .returned (.slice A M c) ∧ Grows W w' ∧ SB w' A M c st) := fun W => by
      have := stream_any key nonce ctr m hk hn (by omega) W
      rw [HM.out, Hst.out] at this
      exact this
    have Hcr : Hid (∀ W, SB W A l c bs → Calls Try.prog 15 #[.agg (key.map b8).toArray, .agg (nonce.map b8).toArray, b32 ctr, .slice A l c] W (NewB 5 W cb)) := fun W h => by
      rw [← Hcb.out]; exact crypt_any key nonce ctr A l c bs hk hn W h (by omega)
    have Href : Hid (∀ W, SB W (some ⟨w.heap.size, 0, none⟩) 32 32 key → SB W (some ⟨w.heap.size, 32, none⟩) 12 12 nonce → SB W A l c bs → Calls Try.prog 16 #[.slice (some ⟨w.heap.size, 0, none⟩) 32 32, .slice (some ⟨w.heap.size, 32, none⟩) 12 12, b32 ctr, .slice A l c] W (NewB 5 W cb)) := fun W a1 a2 a3 => by
      rw [← Hcb.out]; exact refCrypt_any _ _ _ _ _ _ _ key nonce bs ctr W a1 a2 a3 (by omega)
    have Hrez : Hid (∀ W g, SB W (some ⟨w.heap.size, 0, none⟩) 32 32 key → SB W (some ⟨w.heap.size, 32, none⟩) 12 12 nonce → SB W (some ⟨g, 0, none⟩) M M (List.replicate M 0) → Calls Try.prog 16 #[.slice (some ⟨w.heap.size, 0, none⟩) 32 32, .slice (some ⟨w.heap.size, 32, none⟩) 12 12, b32 ctr, .slice (some ⟨g, 0, none⟩) M M] W (NewB 5 W st)) := fun W g a1 a2 a3 => by
      have := refCrypt_any _ _ _ _ _ _ _ key nonce _ ctr W a1 a2 a3 (by omega)
      rw [crypt_zeros, Hst.out] at this
      exact this
    have HW0' := HW0.out
    clear hs hk hn
    go_enter Try.func5, Try.ntmps5
    go_upto_region 4 with fail
    rw [← HW0']
    clear HW0' hm0 hm0'
    have hcc := HFc.out W0 (Grows.refl _)
    go_wp2_with (first
      | (refine wpList_load_part rfl _ _ rfl ⟨w.heap.size, 0, none⟩ rfl 32 32 (key.map b8) _ (HFk.out W0 (Grows.refl _)) Try.underlying22 rfl Try.size32 ?_)
      | (refine wpList_load_part rfl _ _ rfl ⟨w.heap.size, 32, none⟩ rfl 12 12 (nonce.map b8) _ (HFn.out W0 (Grows.refl _)) Try.underlying23 rfl Try.size12 ?_))
    refine (Hs1.out W0).mono ?_
    rintro e w1 ⟨A1, c1, rfl, hg1, hst1⟩
    have HST := lib_hid hst1
    have HK5 : Hid (∀ W, Grows w1 W → SB W (some ⟨w.heap.size, 0, none⟩) 32 32 key) := fun W hW => HFk.out W (hg1.trans hW)
    have HN5 : Hid (∀ W, Grows w1 W → SB W (some ⟨w.heap.size, 32, none⟩) 12 12 nonce) := fun W hW => HFn.out W (hg1.trans hW)
    have HC5 : Hid (∀ W, Grows w1 W → W.cell? ⟨w.heap.size, 44, none⟩ = some (b32 ctr)) := fun W hW => HFc.out W (hg1.trans hW)
    have HS5 : Hid (∀ W, Grows w1 W → SB W A l c bs) := fun W hW => HS.out.grows (hg1.trans hW)
    have hgw := hg0.trans hg1
    clear hst1 hcc
    go_upto_region 5 with fail
    apply wp_region_mono 39 ((.is _, []) :: (.is (.agg (key.map b8).toArray), []) :: (.is _, []) :: (.is (.agg (nonce.map b8).toArray), []) :: (.is _, []) :: (.is _, []) :: (.is _, []) :: (.pr (fun v W => ∃ A n c, v = .slice A n c ∧ SB W A n c (cb)), []) :: (.is _, [7]) :: (.is _, []) :: (.is _, []) :: (.is _, []) :: (.is _, []) :: (.is _, []) :: (.is _, []) :: (.is _, []) :: (.pr (fun v W => ∃ A n c, v = .slice A n c ∧ SB W A n c (cb)), []) :: (.is _, [16]) :: (.is _, []) :: (.is _, []) :: (.is _, []) :: (.is _, []) :: (.is _, []) :: (.is _, []) :: (.is _, []) :: (.is _, []) :: (.is _, []) :: (.is _, []) :: (.is _, []) :: (.is (.int .i64 (M : Int)), []) :: (.pr (fun v W => ∃ g, v = .slice (some ⟨g, 0, none⟩) M M ∧ SB W (some ⟨g, 0, none⟩) M M (List.replicate M 0)), []) :: (.pr (fun v W => ∃ A n c, v = .slice A n c ∧ SB W A n c (st)), [30]) :: (.is _, [31]) :: (.is _, []) :: (.is _, []) :: (.is _, []) :: (.is (.bool true), []) :: (.is _, []) :: (.is _, []) :: []) (by kernel_rfl) (by kernel_rfl)
    apply Mono.is0
    · kernel_rfl
    · intro W hW
      go_wp2
      refine ⟨rfl, rfl, Grows.refl _, ?_⟩
      unfold Oper.valAt
      go_simp
      rfl
    intro k1 a1 hk1 ha1
    simp only [Nat.reduceAdd] at hk1
    simp only [Act.put, List.setIfInBounds_toArray, List.set_cons_succ, List.set_cons_zero] at ha1
    subst hk1 ha1
    apply Mono.is0
    · kernel_rfl
    · intro W hW 
      go_wp2_with (refine wpList_load_part (by kernel_rfl) _ _ rfl ⟨w.heap.size, 0, none⟩ rfl 32 32 (key.map b8) _ (HK5.out W hW) Try.underlying22 rfl Try.size32 ?_)
      exact ⟨rfl, rfl, Grows.refl _, rfl⟩
    intro k1 a1 hk1 ha1
    simp only [Nat.reduceAdd] at hk1
    simp only [Act.put, List.setIfInBounds_toArray, List.set_cons_succ, List.set_cons_zero] at ha1
    subst hk1 ha1
    apply Mono.is0
    · kernel_rfl
    · intro W hW
      go_wp2
      refine ⟨rfl, rfl, Grows.refl _, ?_⟩
      unfold Oper.valAt
      go_simp
      rfl
    intro k1 a1 hk1 ha1
    simp only [Nat.reduceAdd] at hk1
    simp only [Act.put, List.setIfInBounds_toArray, List.set_cons_succ, List.set_cons_zero] at ha1
    subst hk1 ha1
    apply Mono.is0
    · kernel_rfl
    · intro W hW 
      go_wp2_with (refine wpList_load_part (by kernel_rfl) _ _ rfl ⟨w.heap.size, 32, none⟩ rfl 12 12 (nonce.map b8) _ (HN5.out W hW) Try.underlying23 rfl Try.size12 ?_)
      exact ⟨rfl, rfl, Grows.refl _, rfl⟩
    intro k1 a1 hk1 ha1
    simp only [Nat.reduceAdd] at hk1
    simp only [Act.put, List.setIfInBounds_toArray, List.set_cons_succ, List.set_cons_zero] at ha1
    subst hk1 ha1
    apply Mono.is0
    · kernel_rfl
    · intro W hW
      go_wp2
      refine ⟨rfl, rfl, Grows.refl _, ?_⟩
      unfold Oper.valAt
      go_simp
      rfl
    intro k1 a1 hk1 ha1
    simp only [Nat.reduceAdd] at hk1
    simp only [Act.put, List.setIfInBounds_toArray, List.set_cons_succ, List.set_cons_zero] at ha1
    subst hk1 ha1
    apply Mono.is0
    · kernel_rfl
    · intro W hW
      have hcc := HC5.out W hW
      go_wp2
      refine ⟨rfl, rfl, Grows.refl _, ?_⟩
      unfold Oper.valAt
      go_simp
      rfl
    intro k1 a1 hk1 ha1
    simp only [Nat.reduceAdd] at hk1
    simp only [Act.put, List.setIfInBounds_toArray, List.set_cons_succ, List.set_cons_zero] at ha1
    subst hk1 ha1
    apply Mono.is0
    · kernel_rfl
    · intro W hW
      go_wp2
      refine ⟨rfl, rfl, Grows.refl _, ?_⟩
      unfold Oper.valAt
      go_simp
      rfl
    intro k1 a1 hk1 ha1
    simp only [Nat.reduceAdd] at hk1
    simp only [Act.put, List.setIfInBounds_toArray, List.set_cons_succ, List.set_cons_zero] at ha1
    subst hk1 ha1
    apply Mono.pr0
    · kernel_rfl
    · exact fun v W W' hW ⟨A, n, c, h1, h2⟩ => ⟨A, n, c, h1, h2.grows hW⟩
    · intro W hW 
      go_wp2_with fail
      refine (Hcr.out W (HS5.out W hW)).mono ?_
      rintro e w1 ⟨A1, n1, c1, hn1, rfl, hg1, ho1⟩
      go_wp2
      exact ⟨rfl, rfl, hg1, A1, n1, c1, rfl, SB.own ho1⟩
    intro v7
    intro k1 a1 hk1 ha1
    simp only [Nat.reduceAdd] at hk1
    simp only [Act.put, List.setIfInBounds_toArray, List.set_cons_succ, List.set_cons_zero] at ha1
    subst hk1 ha1
    apply Mono.is1
    · kernel_rfl
    · intro W hW f0
      obtain ⟨A1, n1, c1, rfl, hs⟩ := f0
      have cv := run_string_SB (P := Try.prog) Try.underlying32 Try.underlying5 Try.underlying9 hs
      go_wp2
      refine ⟨rfl, rfl, Grows.refl _, ?_⟩
      unfold Oper.valAt
      go_simp
      rfl
    intro k1 a1 hk1 ha1
    simp only [Nat.reduceAdd] at hk1
    simp only [Act.put, List.setIfInBounds_toArray, List.set_cons_succ, List.set_cons_zero] at ha1
    subst hk1 ha1
    iterate 5
      apply Mono.is0
      · kernel_rfl
      · intro W hW
        go_wp2
        refine ⟨rfl, rfl, Grows.refl _, ?_⟩
        unfold Oper.valAt
        go_simp
        rfl
      intro k1 a1 hk1 ha1
      simp only [Nat.reduceAdd] at hk1
      simp only [Act.put, List.setIfInBounds_toArray, List.set_cons_succ, List.set_cons_zero] at ha1
      subst hk1 ha1
    apply Mono.is0
    · kernel_rfl
    · intro W hW
      have hcc := HC5.out W hW
      go_wp2
      refine ⟨rfl, rfl, Grows.refl _, ?_⟩
      unfold Oper.valAt
      go_simp
      rfl
    intro k1 a1 hk1 ha1
    simp only [Nat.reduceAdd] at hk1
    simp only [Act.put, List.setIfInBounds_toArray, List.set_cons_succ, List.set_cons_zero] at ha1
    subst hk1 ha1
    apply Mono.is0
    · kernel_rfl
    · intro W hW
      go_wp2
      refine ⟨rfl, rfl, Grows.refl _, ?_⟩
      unfold Oper.valAt
      go_simp
      rfl
    intro k1 a1 hk1 ha1
    simp only [Nat.reduceAdd] at hk1
    simp only [Act.put, List.setIfInBounds_toArray, List.set_cons_succ, List.set_cons_zero] at ha1
    subst hk1 ha1
    apply Mono.pr0
    · kernel_rfl
    · exact fun v W W' hW ⟨A, n, c, h1, h2⟩ => ⟨A, n, c, h1, h2.grows hW⟩
    · intro W hW 
      go_wp2_with fail
      refine (Href.out W (HK5.out W hW) (HN5.out W hW) (HS5.out W hW)).mono ?_
      rintro e w1 ⟨A1, n1, c1, hn1, rfl, hg1, ho1⟩
      go_wp2
      exact ⟨rfl, rfl, hg1, A1, n1, c1, rfl, SB.own ho1⟩
    intro v16
    intro k1 a1 hk1 ha1
    simp only [Nat.reduceAdd] at hk1
    simp only [Act.put, List.setIfInBounds_toArray, List.set_cons_succ, List.set_cons_zero] at ha1
    subst hk1 ha1
    apply Mono.is1
    · kernel_rfl
    · intro W hW f0
      obtain ⟨A1, n1, c1, rfl, hs⟩ := f0
      have cv := run_string_SB (P := Try.prog) Try.underlying32 Try.underlying5 Try.underlying9 hs
      go_wp2
      refine ⟨rfl, rfl, Grows.refl _, ?_⟩
      unfold Oper.valAt
      go_simp
      rfl
    intro k1 a1 hk1 ha1
    simp only [Nat.reduceAdd] at hk1
    simp only [Act.put, List.setIfInBounds_toArray, List.set_cons_succ, List.set_cons_zero] at ha1
    subst hk1 ha1
    iterate 3
      apply Mono.is0
      · kernel_rfl
      · intro W hW
        go_wp2
        refine ⟨rfl, rfl, Grows.refl _, ?_⟩
        unfold Oper.valAt
        go_simp
        rfl
      intro k1 a1 hk1 ha1
      simp only [Nat.reduceAdd] at hk1
      simp only [Act.put, List.setIfInBounds_toArray, List.set_cons_succ, List.set_cons_zero] at ha1
      subst hk1 ha1
    apply Mono.is0
    · kernel_rfl
    · intro W hW
      have cv := run_string_SB (P := Try.prog) Try.underlying32 Try.underlying5 Try.underlying9 (HST.out.grows hW)
      go_wp2
      refine ⟨rfl, rfl, Grows.refl _, ?_⟩
      unfold Oper.valAt
      go_simp
      rfl
    intro k1 a1 hk1 ha1
    simp only [Nat.reduceAdd] at hk1
    simp only [Act.put, List.setIfInBounds_toArray, List.set_cons_succ, List.set_cons_zero] at ha1
    subst hk1 ha1
    iterate 5
      apply Mono.is0
      · kernel_rfl
      · intro W hW
        go_wp2
        refine ⟨rfl, rfl, Grows.refl _, ?_⟩
        unfold Oper.valAt
        go_simp
        rfl
      intro k1 a1 hk1 ha1
      simp only [Nat.reduceAdd] at hk1
      simp only [Act.put, List.setIfInBounds_toArray, List.set_cons_succ, List.set_cons_zero] at ha1
      subst hk1 ha1
    apply Mono.is0
    · kernel_rfl
    · intro W hW
      have hcc := HC5.out W hW
      go_wp2
      refine ⟨rfl, rfl, Grows.refl _, ?_⟩
      unfold Oper.valAt
      go_simp
      rfl
    intro k1 a1 hk1 ha1
    simp only [Nat.reduceAdd] at hk1
    simp only [Act.put, List.setIfInBounds_toArray, List.set_cons_succ, List.set_cons_zero] at ha1
    subst hk1 ha1
    apply Mono.is0
    · kernel_rfl
    · intro W hW
      go_wp2
      refine ⟨rfl, rfl, Grows.refl _, ?_⟩
      unfold Oper.valAt
      go_simp
      rfl
    intro k1 a1 hk1 ha1
    simp only [Nat.reduceAdd] at hk1
    simp only [Act.put, List.setIfInBounds_toArray, List.set_cons_succ, List.set_cons_zero] at ha1
    subst hk1 ha1
    apply Mono.is0
    · kernel_rfl
    · intro W hW 
      go_wp2
      all_goals (refine ⟨rfl, rfl, Grows.refl _, ?_⟩; unfold Oper.valAt; go_simp; try omega)
    intro k1 a1 hk1 ha1
    simp only [Nat.reduceAdd] at hk1
    simp only [Act.put, List.setIfInBounds_toArray, List.set_cons_succ, List.set_cons_zero] at ha1
    subst hk1 ha1
    apply Mono.pr0
    · kernel_rfl
    · exact fun v W W' hW ⟨g, h1, h2⟩ => ⟨g, h1, h2.grows hW⟩
    · intro W hW 
      have hmk := run_make_row' (P := Try.prog) 32 5 (.int .u8 0) 1 Try.underlying32 Try.infoByte rfl .i64 .i64 M (by omega) (by omega) W
      go_wp2
      exact ⟨rfl, rfl, (Grows.refl _).alloc _, _, rfl, made_zeros W 5 M (by omega)⟩
    intro v30
    intro k1 a1 hk1 ha1
    simp only [Nat.reduceAdd] at hk1
    simp only [Act.put, List.setIfInBounds_toArray, List.set_cons_succ, List.set_cons_zero] at ha1
    subst hk1 ha1
    apply Mono.pr1
    · kernel_rfl
    · exact fun v W W' hW ⟨A, n, c, h1, h2⟩ => ⟨A, n, c, h1, h2.grows hW⟩
    · intro W hW f0
      obtain ⟨gz, rfl, hz⟩ := f0
      go_wp2_with fail
      refine (Hrez.out W gz (HK5.out W hW) (HN5.out W hW) hz).mono ?_
      rintro e w1 ⟨A1, n1, c1, hn1, rfl, hg1, ho1⟩
      go_wp2
      exact ⟨rfl, rfl, hg1, A1, n1, c1, rfl, SB.own ho1⟩
    intro v31
    intro k1 a1 hk1 ha1
    simp only [Nat.reduceAdd] at hk1
    simp only [Act.put, List.setIfInBounds_toArray, List.set_cons_succ, List.set_cons_zero] at ha1
    subst hk1 ha1
    apply Mono.is1
    · kernel_rfl
    · intro W hW f0
      obtain ⟨A1, n1, c1, rfl, hs⟩ := f0
      have cv := run_string_SB (P := Try.prog) Try.underlying32 Try.underlying5 Try.underlying9 hs
      go_wp2
      refine ⟨rfl, rfl, Grows.refl _, ?_⟩
      unfold Oper.valAt
      go_simp
      rfl
    intro k1 a1 hk1 ha1
    simp only [Nat.reduceAdd] at hk1
    simp only [Act.put, List.setIfInBounds_toArray, List.set_cons_succ, List.set_cons_zero] at ha1
    subst hk1 ha1
    iterate 3
      apply Mono.is0
      · kernel_rfl
      · intro W hW
        go_wp2
        refine ⟨rfl, rfl, Grows.refl _, ?_⟩
        unfold Oper.valAt
        go_simp
        rfl
      intro k1 a1 hk1 ha1
      simp only [Nat.reduceAdd] at hk1
      simp only [Act.put, List.setIfInBounds_toArray, List.set_cons_succ, List.set_cons_zero] at ha1
      subst hk1 ha1
    apply Mono.is0
    · kernel_rfl
    · intro W hW 
      go_wp2_with fail
      refine (awake4_any W).mono ?_
      rintro e w1 ⟨rfl, hg1⟩
      go_wp2
      exact ⟨rfl, rfl, hg1, rfl⟩
    intro k1 a1 hk1 ha1
    simp only [Nat.reduceAdd] at hk1
    simp only [Act.put, List.setIfInBounds_toArray, List.set_cons_succ, List.set_cons_zero] at ha1
    subst hk1 ha1
    iterate 2
      apply Mono.is0
      · kernel_rfl
      · intro W hW
        go_wp2
        refine ⟨rfl, rfl, Grows.refl _, ?_⟩
        unfold Oper.valAt
        go_simp
        rfl
      intro k1 a1 hk1 ha1
      simp only [Nat.reduceAdd] at hk1
      simp only [Act.put, List.setIfInBounds_toArray, List.set_cons_succ, List.set_cons_zero] at ha1
      subst hk1 ha1
    refine Mono.done ?_
    intro wm hgm
    simp only [allF, List.drop_succ_cons, List.drop_nil]
    intro g31 g30 g16 g7
    go_wp2
    go_ret
    exact ⟨rfl, hgw.trans hgm⟩

end Go.Proofs.Ytaanncgkekmgoaa
