/-
  bytes.Repeat of one byte: 5, 6, 7, 8 times.
-/
import Derived.Test.YthcmdjaccjghjaaRepA
import Derived.Deep.Cut
import Derived.BigRegion
import Derived.RegionTactic
import Derived.Outline
import Derived.Deep.RegionLaw
import Derived.Lib.MakeNoZero
import Derived.Laws.Externs
import Derived.Laws.CopyOwn
namespace Go.Proofs.Ythcmdjaccjghjaa
open Go Go.RowKit
set_option linter.unusedSimpArgs false
set_option linter.unusedVariables false

theorem mul_1_5 (w : World) : Calls Try.prog 55 #[.int .u64 1, .int .u64 5] w fun e w' => e = .returned (.tuple #[.int .u64 0, .int .u64 5]) ∧ w = w' := by
  have h : Calls Try.prog 60 #[.int .u64 1, .int .u64 5] w fun e w' => e = .returned (.tuple #[.int .u64 0, .int .u64 5]) ∧ w = w' := by
    go_enter Try.func60, Try.ntmps60
    go_wp2
    go_ret2
    exact ⟨rfl, rfl⟩
  go_enter Try.func55, Try.ntmps55
  go_wp2_with fail
  refine h.mono ?_
  rintro e w1 ⟨rfl, rfl⟩
  go_wp2
  go_ret2
  exact ⟨rfl, rfl⟩
set_option maxRecDepth 100000 in
set_option maxHeartbeats 4000000 in
theorem repeat5_any (x : UInt8) (A : Option Addr) (c : Nat) (w : World) (hs : SB w A 1 c [x]) :
    Calls Try.prog 48 #[.slice A 1 c, .int .i64 5] w fun e w' => ∃ g, e = .returned (.slice (some ⟨g, 0, none⟩) 5 5) ∧ Grows w w' ∧ SB w' (some ⟨g, 0, none⟩) 5 5 (List.replicate 5 x) := by
  obtain ⟨cs, hrun, hle, _⟩ := Lib.run_makeNoZero (P := Try.prog) w #[3] 26 5 Try.underlying26 5 (by omega)
  have hcall : (callFunc 56 #[.int .i64 5]).run Try.prog w = .ok (.value (.slice (some ⟨w.heap.size, 0, none⟩) 5 cs.size)) (w.drew.drew.alloc (.cells cs 5)) := by
    rw [run_callFunc_extern Try.func56 (by kernel_rfl) (by kernel_rfl) (by kernel_rfl) (e := Extern.BytealgMakeNoZero.makeNoZero #[3] #[26]) (by kernel_rfl)]
    have h5 : (Extern.BytealgMakeNoZero.makeNoZero #[3] #[26] #[.int .i64 5]).run Try.prog w = .ok (.slice (some ⟨w.heap.size, 0, none⟩) 5 cs.size) (w.drew.drew.alloc (.cells cs 5)) := hrun
    rw [h5]
    rfl
  obtain ⟨m, Hm, hm⟩ : ∃ m, Hid (cs.size = m) ∧ (5 : Int) ≤ (m : Int) := ⟨_, lib_hid rfl, by omega⟩
  obtain ⟨g, Hg⟩ : ∃ x, Hid (w.heap.size = x) := ⟨_, lib_hid rfl⟩
  obtain ⟨W0, HW0, hg0⟩ : ∃ W0 : World, Hid (W0 = w.drew.drew.alloc (.cells cs 5)) ∧ Grows w W0 := ⟨_, lib_hid rfl, ((Grows.refl w).drew.drew).alloc _⟩
  have HB : Hid (Blk W0 g 5 cs) := by unfold Hid; rw [HW0.out, ← Hg.out]; exact Blk.new w.drew.drew _ _
  rw [Hm.out, Hg.out, ← HW0.out] at hcall
  obtain ⟨b, off, eA, hb, hc⟩ := hs.2.2.2.2 (by omega)
  subst eA
  have hcx : w.cell? ⟨b, off, none⟩ = some (b8 x) := by have := hc 0 (by omega); simpa using this
  have hcx0 : W0.cell? ⟨b, off, none⟩ = some (b8 x) := (hg0.cell (p := ⟨b, off, none⟩) hb).trans hcx
  have hc1 : 1 ≤ c := hs.2.1
  have Hgl : Hid (w.heap.size ≤ g) := by rw [← Hg.out]; exact Nat.le_refl _
  have Hcs : Hid (5 ≤ cs.toList.length) := by unfold Hid; rw [Array.length_toList, Hm.out]; omega
  clear hs hrun hle HW0 Hg hc hcx
  go_enter Try.func48, Try.ntmps48
  go_wp2_with fail
  refine (mul_1_5 w).mono ?_
  rintro e w1 ⟨rfl, rfl⟩
  go_upto_region 18 with (refine wpList_copy_any rfl _ _ 26 26 rfl 5 Try.underlying26 Try.sizeByte (some ⟨g, 0, none⟩) (some ⟨b, off, none⟩) 5 5 1 c rfl rfl g 0 cs.toList 5 HB.out [b8 x] rfl (fun _ => ⟨rfl, _, rfl, src_one hcx0⟩) (by have := Hcs.out; show 0 + 1 ≤ _; omega) (b8_one [x]) ?_; intro W1 HB1 HG1)
  have hg1 : Grows w W1 := hg0.grown HG1.out (fun i hi => by cases hi; exact Hgl.out)
  obtain ⟨L1, HL1, HL1l, HL1t⟩ : ∃ L : List Value, Hid (splice cs.toList 0 [b8 x] = L) ∧ Hid (5 ≤ L.length) ∧ Hid (L.take 1 = List.replicate 1 (b8 x)) := ⟨_, lib_hid rfl, by unfold Hid; rw [spl_len (by have := Hcs.out; show 0 + 1 ≤ _; omega)]; exact Hcs.out, lib_hid (splice_one (by have := Hcs.out; omega))⟩
  rw [HL1.out] at HB1
  clear HG1 hcall hcx0 HL1 HB hg0 Hcs hm hc1 hb
  go_loopw [10] (fun v wr => ∃ (k : Nat) (LV : List Value), (1 ≤ k ∧ k ≤ 5) ∧ v = .int .i64 (k : Int) ∧ Grows w wr ∧ Hid (Blk wr g 5 LV.toArray) ∧ Hid (5 ≤ LV.length) ∧ Hid (LV.take k = List.replicate k (b8 x))) (fun v _ => 5 - (intOf v).toNat)
  case atStart => exact ⟨1, L1, by omega, rfl, hg1, HB1, HL1l, HL1t⟩
  case round =>
    clear hg1 HB1 HL1l HL1t
    obtain ⟨k, LV, hk, rfl, hgr, HB, HLl, HLt⟩ := hrel
    by_cases hlt : k < 5
    · have hki : (k : Int) < 5 := by omega
      have hk1 : 1 ≤ k := by omega
      obtain ⟨mm, Hmm⟩ : ∃ mm, Hid (Nat.min k (5 - k) = mm) := ⟨_, lib_hid rfl⟩
      have hm3 : mm ≤ k ∧ k + mm ≤ 5 ∧ 1 ≤ mm := by have := Hmm.out; simp only [Nat.min_def] at this; split at this <;> omega
      have hmin : ¬ (5 : Int) < (k : Int) := by omega
      have Hk := lib_hid (And.intro hlt (And.intro hk1 hm3))
      have hs1 := fun W => run_sl_lR (P := Try.prog) (t := 26) (e := 5) Try.underlying26 Try.sizeByte g 0 5 5 k (k : Int) rfl (by omega) (by omega) W
      have hs2 := fun W => run_sl_hR (P := Try.prog) (t := 26) (e := 5) Try.underlying26 Try.sizeByte g 0 5 5 k (k : Int) rfl (by omega) W
      rw [Nat.zero_add] at hs1
      clear hk hlt hk1 hm3
      go_upto_region 20 with fail
      clear hmin
      have hkm : (k : Int) + (mm : Int) ≤ 5 := by have := Hk.out; omega
      have Hsrc : Hid (∀ W : World, Blk W g 5 LV.toArray → ∀ (j : Nat) (u : Value), (List.replicate mm (b8 x))[j]? = some u → W.cell? ((⟨g, 0, none⟩ : Addr).add j) = some u) := fun W h j u hj => by
        have hjm : j < mm := by
          rcases Nat.lt_or_ge j mm with h' | h'
          · exact h'
          · rw [List.getElem?_eq_none (by simp; exact h')] at hj; cases hj
        have hjk : j < k := by have := Hk.out; omega
        rw [add_zero_spot, Nat.zero_add, h.cell, List.getElem?_toArray]
        have h5 : (LV.take k)[j]? = (List.replicate k (b8 x))[j]? := by rw [HLt.out]
        rw [List.getElem?_take, if_pos hjk] at h5
        rw [h5, ← hj, List.getElem?_replicate, List.getElem?_replicate, if_pos hjk, if_pos hjm]
      have Hlenk : Hid ((List.replicate mm (b8 x)).length = mm) := by unfold Hid; simp
      have HI0 : RepM w g x k mm LV 0 wr.drew := ⟨hgr.drew, fun _ => HB.out.drew, fun h => by omega⟩
      have Hs1 := lib_hid hs1
      have Hs2 := lib_hid hs2
      clear hs1 hs2
      apply wp_region_monoJ (fun _ _ => True) (fun _ => trivial) (ChainJ [7] (fun m W => RepM w g x k mm LV m W)) #[0, 0, 0, 6, 0, 0, 48, 126, 255, 511] 10 ((.is _, []) :: (.is _, []) :: (.is _, []) :: (.is _, []) :: (.is _, []) :: (.is _, []) :: (.is _, []) :: (.is (.int .i64 (mm : Int)), []) :: (.is _, []) :: (.is _, []) :: []) (by kernel_rfl) (chain_start (HI0)) (by kernel_rfl)
      apply MonoJ.is0
      · kernel_rfl
      · intro L W hLk hsh hah hJ
        have hJ2 := lib_hid (chain_pure (k := 0) (w' := W) (by decide) (fun _ h => h) hJ)
        clear hJ hsh hah
        go_wp2
        refine ⟨rfl, rfl, ⟨trivial, hJ2.out⟩, ?_⟩
        unfold Oper.valAt
        go_simp
        rfl
      intro k1 a1 hk1 ha1
      simp only [Nat.reduceAdd] at hk1
      simp only [Act.put, List.setIfInBounds_toArray, List.set_cons_succ, List.set_cons_zero] at ha1
      subst hk1 ha1
      apply MonoJ.is0
      · kernel_rfl
      · intro L W hLk hsh hah hJ
        have hJ2 := lib_hid (chain_pure (k := 1) (w' := W) (by decide) (fun _ h => h) hJ)
        clear hJ hsh hah
        go_wp2
        refine ⟨rfl, rfl, ⟨trivial, hJ2.out⟩, ?_⟩
        unfold Oper.valAt
        go_simp
        rfl
      intro k1 a1 hk1 ha1
      simp only [Nat.reduceAdd] at hk1
      simp only [Act.put, List.setIfInBounds_toArray, List.set_cons_succ, List.set_cons_zero] at ha1
      subst hk1 ha1
      apply MonoJ.is0
      · kernel_rfl
      · intro L W hLk hsh hah hJ
        have hJ2 := lib_hid (chain_pure (k := 2) (w' := W) (by decide) (fun _ h => h) hJ)
        clear hJ hsh hah
        go_wp2
        refine ⟨rfl, rfl, ⟨trivial, hJ2.out⟩, ?_⟩
        unfold Oper.valAt
        go_simp
        rfl
      intro k1 a1 hk1 ha1
      simp only [Nat.reduceAdd] at hk1
      simp only [Act.put, List.setIfInBounds_toArray, List.set_cons_succ, List.set_cons_zero] at ha1
      subst hk1 ha1
      apply MonoJ.is0
      · kernel_rfl
      · intro L W hLk hsh hah hJ
        have hs1 := Hs1.out W
        have hJ2 := lib_hid (chain_pure (k := 3) (w' := W) (by decide) (fun _ h => h) hJ)
        clear hJ hsh hah
        go_wp2
        refine ⟨rfl, rfl, ⟨trivial, hJ2.out⟩, ?_⟩
        unfold Oper.valAt
        go_simp
        rfl
      intro k1 a1 hk1 ha1
      simp only [Nat.reduceAdd] at hk1
      simp only [Act.put, List.setIfInBounds_toArray, List.set_cons_succ, List.set_cons_zero] at ha1
      subst hk1 ha1
      apply MonoJ.is0
      · kernel_rfl
      · intro L W hLk hsh hah hJ
        have hJ2 := lib_hid (chain_pure (k := 4) (w' := W) (by decide) (fun _ h => h) hJ)
        clear hJ hsh hah
        go_wp2
        refine ⟨rfl, rfl, ⟨trivial, hJ2.out⟩, ?_⟩
        unfold Oper.valAt
        go_simp
        rfl
      intro k1 a1 hk1 ha1
      simp only [Nat.reduceAdd] at hk1
      simp only [Act.put, List.setIfInBounds_toArray, List.set_cons_succ, List.set_cons_zero] at ha1
      subst hk1 ha1
      apply MonoJ.is0
      · kernel_rfl
      · intro L W hLk hsh hah hJ
        have hJ2 := lib_hid (chain_pure (k := 5) (w' := W) (by decide) (fun _ h => h) hJ)
        clear hJ hsh hah
        go_wp2
        refine ⟨rfl, rfl, ⟨trivial, hJ2.out⟩, ?_⟩
        unfold Oper.valAt
        go_simp
        rfl
      intro k1 a1 hk1 ha1
      simp only [Nat.reduceAdd] at hk1
      simp only [Act.put, List.setIfInBounds_toArray, List.set_cons_succ, List.set_cons_zero] at ha1
      subst hk1 ha1
      apply MonoJ.is0
      · kernel_rfl
      · intro L W hLk hsh hah hJ
        have hs2 := Hs2.out W
        have hJ2 := lib_hid (chain_pure (k := 6) (w' := W) (by decide) (fun _ h => h) hJ)
        clear hJ hsh hah
        go_wp2
        refine ⟨rfl, rfl, ⟨trivial, hJ2.out⟩, ?_⟩
        unfold Oper.valAt
        go_simp
        rfl
      intro k1 a1 hk1 ha1
      simp only [Nat.reduceAdd] at hk1
      simp only [Act.put, List.setIfInBounds_toArray, List.set_cons_succ, List.set_cons_zero] at ha1
      subst hk1 ha1
      apply MonoJ.is0
      · kernel_rfl
      · intro L W hLk hsh hah hJ
        obtain ⟨hI, hLs⟩ := chain_at (i := 0) (k := 7) rfl hLk (fun j h => by cases h) hJ
        clear hJ hsh hah
        have hB := hI.2.1 rfl
        have hgI := hI.1
        have hend : Hid (∀ w2, (fun m W => RepM w g x k mm LV m W) 1 w2 → ChainJ [7] (fun m W => RepM w g x k mm LV m W) (setL L 7) w2) := fun w2 hw => chain_step (i := 0) (k := 7) rfl (by intro j h; rcases j with _ | _ | _ | _ | _ | _ <;> simp at h <;> omega) hLs hw
        clear hLs hLk
        go_wp2_with (refine wpList_copy_any rfl _ _ 26 26 rfl 5 Try.underlying26 Try.sizeByte (some ⟨g, k, none⟩) (some ⟨g, 0, none⟩) (5 - k) (5 - k) k 5 rfl rfl g k LV 5 hB (List.replicate mm (b8 x)) (by rw [Hlenk.out]; exact Hmm.out.symm) (fun _ => ⟨rfl, ⟨g, 0, none⟩, rfl, Hsrc.out _ hB⟩) (by rw [Hlenk.out]; have := Hk.out; have := HLl.out; omega) (fun v hv => by rw [List.eq_of_mem_replicate hv]; rfl) ?_; intro w4 hB4 hG4; rw [Hlenk.out])
        first | refine ⟨rfl, rfl, hend.out _ ?_, ?_⟩ | refine ⟨rfl, rfl, ⟨trivial, hend.out _ ?_⟩, ?_⟩
        · exact ⟨hgI.grown hG4.out (fun i hi => by cases hi; exact Hgl.out), fun h => by omega, fun _ => hB4.out⟩
        · rfl
      intro k1 a1 hk1 ha1
      simp only [Nat.reduceAdd] at hk1
      simp only [Act.put, List.setIfInBounds_toArray, List.set_cons_succ, List.set_cons_zero] at ha1
      subst hk1 ha1
      apply MonoJ.is0
      · kernel_rfl
      · intro L W hLk hsh hah hJ
        have hJ2 := lib_hid (chain_pure (k := 8) (w' := W) (by decide) (fun _ h => h) hJ)
        clear hJ hsh hah
        go_wp2
        refine ⟨rfl, rfl, ⟨trivial, hJ2.out⟩, ?_⟩
        unfold Oper.valAt
        go_simp
        rfl
      intro k1 a1 hk1 ha1
      simp only [Nat.reduceAdd] at hk1
      simp only [Act.put, List.setIfInBounds_toArray, List.set_cons_succ, List.set_cons_zero] at ha1
      subst hk1 ha1
      apply MonoJ.is0
      · kernel_rfl
      · intro L W hLk hsh hah hJ
        have hJ2 := lib_hid (chain_pure (k := 9) (w' := W) (by decide) (fun _ h => h) hJ)
        clear hJ hsh hah
        go_wp2
        refine ⟨rfl, rfl, ⟨trivial, hJ2.out⟩, ?_⟩
        unfold Oper.valAt
        go_simp
        rfl
      intro k1 a1 hk1 ha1
      simp only [Nat.reduceAdd] at hk1
      simp only [Act.put, List.setIfInBounds_toArray, List.set_cons_succ, List.set_cons_zero] at ha1
      subst hk1 ha1
      refine MonoJ.done ?_
      intro wm hJ
      obtain ⟨mj, hm, hI⟩ := chain_end (by decide) hJ
      clear hJ
      simp only [allF, List.drop_succ_cons, List.drop_nil]
      have hG : Grows w wm := hI.1
      have hB2 := lib_hid (hI.2.2 (by simpa using hm))
      go_wp2
      go_roundw
      case rel => exact ⟨k + mm, splice LV k (List.replicate mm (b8 x)), by have := Hk.out; omega, by go_num, hG, hB2, by unfold Hid; rw [spl_len (by have := Hk.out; have := HLl.out; simp; omega)]; exact HLl.out, splice_twoM HLt.out (by have := Hk.out; have := HLl.out; omega)⟩
      case measure => have := Hk.out; simp [intOf]; omega
    · have hki : ¬ (k : Int) < 5 := by omega
      have hk64 : k = 5 := by omega
      have HS : Hid (SB wr (some ⟨g, 0, none⟩) 5 5 (List.replicate 5 x)) := by
        rw [hk64] at HLt
        have h5 := HB.out.row (o := 0) (n := 5) (c := 5) (Nat.le_refl _) (by simpa using HLl.out) (by unfold maxLen; omega)
        have e : (LV.toArray.toList.drop 0).take 5 = (List.replicate 5 x).map b8 := by rw [List.drop_zero, List.map_replicate]; exact HLt.out
        rw [e] at h5
        exact h5
      clear HB HLl HLt hk hlt
      go_wp2
      go_ret
      exact ⟨g, rfl, hgr, HS.out⟩
theorem mul_1_6 (w : World) : Calls Try.prog 55 #[.int .u64 1, .int .u64 6] w fun e w' => e = .returned (.tuple #[.int .u64 0, .int .u64 6]) ∧ w = w' := by
  have h : Calls Try.prog 60 #[.int .u64 1, .int .u64 6] w fun e w' => e = .returned (.tuple #[.int .u64 0, .int .u64 6]) ∧ w = w' := by
    go_enter Try.func60, Try.ntmps60
    go_wp2
    go_ret2
    exact ⟨rfl, rfl⟩
  go_enter Try.func55, Try.ntmps55
  go_wp2_with fail
  refine h.mono ?_
  rintro e w1 ⟨rfl, rfl⟩
  go_wp2
  go_ret2
  exact ⟨rfl, rfl⟩
set_option maxRecDepth 100000 in
set_option maxHeartbeats 4000000 in
theorem repeat6_any (x : UInt8) (A : Option Addr) (c : Nat) (w : World) (hs : SB w A 1 c [x]) :
    Calls Try.prog 48 #[.slice A 1 c, .int .i64 6] w fun e w' => ∃ g, e = .returned (.slice (some ⟨g, 0, none⟩) 6 6) ∧ Grows w w' ∧ SB w' (some ⟨g, 0, none⟩) 6 6 (List.replicate 6 x) := by
  obtain ⟨cs, hrun, hle, _⟩ := Lib.run_makeNoZero (P := Try.prog) w #[3] 26 5 Try.underlying26 6 (by omega)
  have hcall : (callFunc 56 #[.int .i64 6]).run Try.prog w = .ok (.value (.slice (some ⟨w.heap.size, 0, none⟩) 6 cs.size)) (w.drew.drew.alloc (.cells cs 5)) := by
    rw [run_callFunc_extern Try.func56 (by kernel_rfl) (by kernel_rfl) (by kernel_rfl) (e := Extern.BytealgMakeNoZero.makeNoZero #[3] #[26]) (by kernel_rfl)]
    have h5 : (Extern.BytealgMakeNoZero.makeNoZero #[3] #[26] #[.int .i64 6]).run Try.prog w = .ok (.slice (some ⟨w.heap.size, 0, none⟩) 6 cs.size) (w.drew.drew.alloc (.cells cs 5)) := hrun
    rw [h5]
    rfl
  obtain ⟨m, Hm, hm⟩ : ∃ m, Hid (cs.size = m) ∧ (6 : Int) ≤ (m : Int) := ⟨_, lib_hid rfl, by omega⟩
  obtain ⟨g, Hg⟩ : ∃ x, Hid (w.heap.size = x) := ⟨_, lib_hid rfl⟩
  obtain ⟨W0, HW0, hg0⟩ : ∃ W0 : World, Hid (W0 = w.drew.drew.alloc (.cells cs 5)) ∧ Grows w W0 := ⟨_, lib_hid rfl, ((Grows.refl w).drew.drew).alloc _⟩
  have HB : Hid (Blk W0 g 5 cs) := by unfold Hid; rw [HW0.out, ← Hg.out]; exact Blk.new w.drew.drew _ _
  rw [Hm.out, Hg.out, ← HW0.out] at hcall
  obtain ⟨b, off, eA, hb, hc⟩ := hs.2.2.2.2 (by omega)
  subst eA
  have hcx : w.cell? ⟨b, off, none⟩ = some (b8 x) := by have := hc 0 (by omega); simpa using this
  have hcx0 : W0.cell? ⟨b, off, none⟩ = some (b8 x) := (hg0.cell (p := ⟨b, off, none⟩) hb).trans hcx
  have hc1 : 1 ≤ c := hs.2.1
  have Hgl : Hid (w.heap.size ≤ g) := by rw [← Hg.out]; exact Nat.le_refl _
  have Hcs : Hid (6 ≤ cs.toList.length) := by unfold Hid; rw [Array.length_toList, Hm.out]; omega
  clear hs hrun hle HW0 Hg hc hcx
  go_enter Try.func48, Try.ntmps48
  go_wp2_with fail
  refine (mul_1_6 w).mono ?_
  rintro e w1 ⟨rfl, rfl⟩
  go_upto_region 18 with (refine wpList_copy_any rfl _ _ 26 26 rfl 5 Try.underlying26 Try.sizeByte (some ⟨g, 0, none⟩) (some ⟨b, off, none⟩) 6 6 1 c rfl rfl g 0 cs.toList 5 HB.out [b8 x] rfl (fun _ => ⟨rfl, _, rfl, src_one hcx0⟩) (by have := Hcs.out; show 0 + 1 ≤ _; omega) (b8_one [x]) ?_; intro W1 HB1 HG1)
  have hg1 : Grows w W1 := hg0.grown HG1.out (fun i hi => by cases hi; exact Hgl.out)
  obtain ⟨L1, HL1, HL1l, HL1t⟩ : ∃ L : List Value, Hid (splice cs.toList 0 [b8 x] = L) ∧ Hid (6 ≤ L.length) ∧ Hid (L.take 1 = List.replicate 1 (b8 x)) := ⟨_, lib_hid rfl, by unfold Hid; rw [spl_len (by have := Hcs.out; show 0 + 1 ≤ _; omega)]; exact Hcs.out, lib_hid (splice_one (by have := Hcs.out; omega))⟩
  rw [HL1.out] at HB1
  clear HG1 hcall hcx0 HL1 HB hg0 Hcs hm hc1 hb
  go_loopw [10] (fun v wr => ∃ (k : Nat) (LV : List Value), (1 ≤ k ∧ k ≤ 6) ∧ v = .int .i64 (k : Int) ∧ Grows w wr ∧ Hid (Blk wr g 5 LV.toArray) ∧ Hid (6 ≤ LV.length) ∧ Hid (LV.take k = List.replicate k (b8 x))) (fun v _ => 6 - (intOf v).toNat)
  case atStart => exact ⟨1, L1, by omega, rfl, hg1, HB1, HL1l, HL1t⟩
  case round =>
    clear hg1 HB1 HL1l HL1t
    obtain ⟨k, LV, hk, rfl, hgr, HB, HLl, HLt⟩ := hrel
    by_cases hlt : k < 6
    · have hki : (k : Int) < 6 := by omega
      have hk1 : 1 ≤ k := by omega
      obtain ⟨mm, Hmm⟩ : ∃ mm, Hid (Nat.min k (6 - k) = mm) := ⟨_, lib_hid rfl⟩
      have hm3 : mm ≤ k ∧ k + mm ≤ 6 ∧ 1 ≤ mm := by have := Hmm.out; simp only [Nat.min_def] at this; split at this <;> omega
      have hmin : ¬ (6 : Int) < (k : Int) := by omega
      have Hk := lib_hid (And.intro hlt (And.intro hk1 hm3))
      have hs1 := fun W => run_sl_lR (P := Try.prog) (t := 26) (e := 5) Try.underlying26 Try.sizeByte g 0 6 6 k (k : Int) rfl (by omega) (by omega) W
      have hs2 := fun W => run_sl_hR (P := Try.prog) (t := 26) (e := 5) Try.underlying26 Try.sizeByte g 0 6 6 k (k : Int) rfl (by omega) W
      rw [Nat.zero_add] at hs1
      clear hk hlt hk1 hm3
      go_upto_region 20 with fail
      clear hmin
      have hkm : (k : Int) + (mm : Int) ≤ 6 := by have := Hk.out; omega
      have Hsrc : Hid (∀ W : World, Blk W g 5 LV.toArray → ∀ (j : Nat) (u : Value), (List.replicate mm (b8 x))[j]? = some u → W.cell? ((⟨g, 0, none⟩ : Addr).add j) = some u) := fun W h j u hj => by
        have hjm : j < mm := by
          rcases Nat.lt_or_ge j mm with h' | h'
          · exact h'
          · rw [List.getElem?_eq_none (by simp; exact h')] at hj; cases hj
        have hjk : j < k := by have := Hk.out; omega
        rw [add_zero_spot, Nat.zero_add, h.cell, List.getElem?_toArray]
        have h5 : (LV.take k)[j]? = (List.replicate k (b8 x))[j]? := by rw [HLt.out]
        rw [List.getElem?_take, if_pos hjk] at h5
        rw [h5, ← hj, List.getElem?_replicate, List.getElem?_replicate, if_pos hjk, if_pos hjm]
      have Hlenk : Hid ((List.replicate mm (b8 x)).length = mm) := by unfold Hid; simp
      have HI0 : RepM w g x k mm LV 0 wr.drew := ⟨hgr.drew, fun _ => HB.out.drew, fun h => by omega⟩
      have Hs1 := lib_hid hs1
      have Hs2 := lib_hid hs2
      clear hs1 hs2
      apply wp_region_monoJ (fun _ _ => True) (fun _ => trivial) (ChainJ [7] (fun m W => RepM w g x k mm LV m W)) #[0, 0, 0, 6, 0, 0, 48, 126, 255, 511] 10 ((.is _, []) :: (.is _, []) :: (.is _, []) :: (.is _, []) :: (.is _, []) :: (.is _, []) :: (.is _, []) :: (.is (.int .i64 (mm : Int)), []) :: (.is _, []) :: (.is _, []) :: []) (by kernel_rfl) (chain_start (HI0)) (by kernel_rfl)
      apply MonoJ.is0
      · kernel_rfl
      · intro L W hLk hsh hah hJ
        have hJ2 := lib_hid (chain_pure (k := 0) (w' := W) (by decide) (fun _ h => h) hJ)
        clear hJ hsh hah
        go_wp2
        refine ⟨rfl, rfl, ⟨trivial, hJ2.out⟩, ?_⟩
        unfold Oper.valAt
        go_simp
        rfl
      intro k1 a1 hk1 ha1
      simp only [Nat.reduceAdd] at hk1
      simp only [Act.put, List.setIfInBounds_toArray, List.set_cons_succ, List.set_cons_zero] at ha1
      subst hk1 ha1
      apply MonoJ.is0
      · kernel_rfl
      · intro L W hLk hsh hah hJ
        have hJ2 := lib_hid (chain_pure (k := 1) (w' := W) (by decide) (fun _ h => h) hJ)
        clear hJ hsh hah
        go_wp2
        refine ⟨rfl, rfl, ⟨trivial, hJ2.out⟩, ?_⟩
        unfold Oper.valAt
        go_simp
        rfl
      intro k1 a1 hk1 ha1
      simp only [Nat.reduceAdd] at hk1
      simp only [Act.put, List.setIfInBounds_toArray, List.set_cons_succ, List.set_cons_zero] at ha1
      subst hk1 ha1
      apply MonoJ.is0
      · kernel_rfl
      · intro L W hLk hsh hah hJ
        have hJ2 := lib_hid (chain_pure (k := 2) (w' := W) (by decide) (fun _ h => h) hJ)
        clear hJ hsh hah
        go_wp2
        refine ⟨rfl, rfl, ⟨trivial, hJ2.out⟩, ?_⟩
        unfold Oper.valAt
        go_simp
        rfl
      intro k1 a1 hk1 ha1
      simp only [Nat.reduceAdd] at hk1
      simp only [Act.put, List.setIfInBounds_toArray, List.set_cons_succ, List.set_cons_zero] at ha1
      subst hk1 ha1
      apply MonoJ.is0
      · kernel_rfl
      · intro L W hLk hsh hah hJ
        have hs1 := Hs1.out W
        have hJ2 := lib_hid (chain_pure (k := 3) (w' := W) (by decide) (fun _ h => h) hJ)
        clear hJ hsh hah
        go_wp2
        refine ⟨rfl, rfl, ⟨trivial, hJ2.out⟩, ?_⟩
        unfold Oper.valAt
        go_simp
        rfl
      intro k1 a1 hk1 ha1
      simp only [Nat.reduceAdd] at hk1
      simp only [Act.put, List.setIfInBounds_toArray, List.set_cons_succ, List.set_cons_zero] at ha1
      subst hk1 ha1
      apply MonoJ.is0
      · kernel_rfl
      · intro L W hLk hsh hah hJ
        have hJ2 := lib_hid (chain_pure (k := 4) (w' := W) (by decide) (fun _ h => h) hJ)
        clear hJ hsh hah
        go_wp2
        refine ⟨rfl, rfl, ⟨trivial, hJ2.out⟩, ?_⟩
        unfold Oper.valAt
        go_simp
        rfl
      intro k1 a1 hk1 ha1
      simp only [Nat.reduceAdd] at hk1
      simp only [Act.put, List.setIfInBounds_toArray, List.set_cons_succ, List.set_cons_zero] at ha1
      subst hk1 ha1
      apply MonoJ.is0
      · kernel_rfl
      · intro L W hLk hsh hah hJ
        have hJ2 := lib_hid (chain_pure (k := 5) (w' := W) (by decide) (fun _ h => h) hJ)
        clear hJ hsh hah
        go_wp2
        refine ⟨rfl, rfl, ⟨trivial, hJ2.out⟩, ?_⟩
        unfold Oper.valAt
        go_simp
        rfl
      intro k1 a1 hk1 ha1
      simp only [Nat.reduceAdd] at hk1
      simp only [Act.put, List.setIfInBounds_toArray, List.set_cons_succ, List.set_cons_zero] at ha1
      subst hk1 ha1
      apply MonoJ.is0
      · kernel_rfl
      · intro L W hLk hsh hah hJ
        have hs2 := Hs2.out W
        have hJ2 := lib_hid (chain_pure (k := 6) (w' := W) (by decide) (fun _ h => h) hJ)
        clear hJ hsh hah
        go_wp2
        refine ⟨rfl, rfl, ⟨trivial, hJ2.out⟩, ?_⟩
        unfold Oper.valAt
        go_simp
        rfl
      intro k1 a1 hk1 ha1
      simp only [Nat.reduceAdd] at hk1
      simp only [Act.put, List.setIfInBounds_toArray, List.set_cons_succ, List.set_cons_zero] at ha1
      subst hk1 ha1
      apply MonoJ.is0
      · kernel_rfl
      · intro L W hLk hsh hah hJ
        obtain ⟨hI, hLs⟩ := chain_at (i := 0) (k := 7) rfl hLk (fun j h => by cases h) hJ
        clear hJ hsh hah
        have hB := hI.2.1 rfl
        have hgI := hI.1
        have hend : Hid (∀ w2, (fun m W => RepM w g x k mm LV m W) 1 w2 → ChainJ [7] (fun m W => RepM w g x k mm LV m W) (setL L 7) w2) := fun w2 hw => chain_step (i := 0) (k := 7) rfl (by intro j h; rcases j with _ | _ | _ | _ | _ | _ <;> simp at h <;> omega) hLs hw
        clear hLs hLk
        go_wp2_with (refine wpList_copy_any rfl _ _ 26 26 rfl 5 Try.underlying26 Try.sizeByte (some ⟨g, k, none⟩) (some ⟨g, 0, none⟩) (6 - k) (6 - k) k 6 rfl rfl g k LV 5 hB (List.replicate mm (b8 x)) (by rw [Hlenk.out]; exact Hmm.out.symm) (fun _ => ⟨rfl, ⟨g, 0, none⟩, rfl, Hsrc.out _ hB⟩) (by rw [Hlenk.out]; have := Hk.out; have := HLl.out; omega) (fun v hv => by rw [List.eq_of_mem_replicate hv]; rfl) ?_; intro w4 hB4 hG4; rw [Hlenk.out])
        first | refine ⟨rfl, rfl, hend.out _ ?_, ?_⟩ | refine ⟨rfl, rfl, ⟨trivial, hend.out _ ?_⟩, ?_⟩
        · exact ⟨hgI.grown hG4.out (fun i hi => by cases hi; exact Hgl.out), fun h => by omega, fun _ => hB4.out⟩
        · rfl
      intro k1 a1 hk1 ha1
      simp only [Nat.reduceAdd] at hk1
      simp only [Act.put, List.setIfInBounds_toArray, List.set_cons_succ, List.set_cons_zero] at ha1
      subst hk1 ha1
      apply MonoJ.is0
      · kernel_rfl
      · intro L W hLk hsh hah hJ
        have hJ2 := lib_hid (chain_pure (k := 8) (w' := W) (by decide) (fun _ h => h) hJ)
        clear hJ hsh hah
        go_wp2
        refine ⟨rfl, rfl, ⟨trivial, hJ2.out⟩, ?_⟩
        unfold Oper.valAt
        go_simp
        rfl
      intro k1 a1 hk1 ha1
      simp only [Nat.reduceAdd] at hk1
      simp only [Act.put, List.setIfInBounds_toArray, List.set_cons_succ, List.set_cons_zero] at ha1
      subst hk1 ha1
      apply MonoJ.is0
      · kernel_rfl
      · intro L W hLk hsh hah hJ
        have hJ2 := lib_hid (chain_pure (k := 9) (w' := W) (by decide) (fun _ h => h) hJ)
        clear hJ hsh hah
        go_wp2
        refine ⟨rfl, rfl, ⟨trivial, hJ2.out⟩, ?_⟩
        unfold Oper.valAt
        go_simp
        rfl
      intro k1 a1 hk1 ha1
      simp only [Nat.reduceAdd] at hk1
      simp only [Act.put, List.setIfInBounds_toArray, List.set_cons_succ, List.set_cons_zero] at ha1
      subst hk1 ha1
      refine MonoJ.done ?_
      intro wm hJ
      obtain ⟨mj, hm, hI⟩ := chain_end (by decide) hJ
      clear hJ
      simp only [allF, List.drop_succ_cons, List.drop_nil]
      have hG : Grows w wm := hI.1
      have hB2 := lib_hid (hI.2.2 (by simpa using hm))
      go_wp2
      go_roundw
      case rel => exact ⟨k + mm, splice LV k (List.replicate mm (b8 x)), by have := Hk.out; omega, by go_num, hG, hB2, by unfold Hid; rw [spl_len (by have := Hk.out; have := HLl.out; simp; omega)]; exact HLl.out, splice_twoM HLt.out (by have := Hk.out; have := HLl.out; omega)⟩
      case measure => have := Hk.out; simp [intOf]; omega
    · have hki : ¬ (k : Int) < 6 := by omega
      have hk64 : k = 6 := by omega
      have HS : Hid (SB wr (some ⟨g, 0, none⟩) 6 6 (List.replicate 6 x)) := by
        rw [hk64] at HLt
        have h5 := HB.out.row (o := 0) (n := 6) (c := 6) (Nat.le_refl _) (by simpa using HLl.out) (by unfold maxLen; omega)
        have e : (LV.toArray.toList.drop 0).take 6 = (List.replicate 6 x).map b8 := by rw [List.drop_zero, List.map_replicate]; exact HLt.out
        rw [e] at h5
        exact h5
      clear HB HLl HLt hk hlt
      go_wp2
      go_ret
      exact ⟨g, rfl, hgr, HS.out⟩
theorem mul_1_7 (w : World) : Calls Try.prog 55 #[.int .u64 1, .int .u64 7] w fun e w' => e = .returned (.tuple #[.int .u64 0, .int .u64 7]) ∧ w = w' := by
  have h : Calls Try.prog 60 #[.int .u64 1, .int .u64 7] w fun e w' => e = .returned (.tuple #[.int .u64 0, .int .u64 7]) ∧ w = w' := by
    go_enter Try.func60, Try.ntmps60
    go_wp2
    go_ret2
    exact ⟨rfl, rfl⟩
  go_enter Try.func55, Try.ntmps55
  go_wp2_with fail
  refine h.mono ?_
  rintro e w1 ⟨rfl, rfl⟩
  go_wp2
  go_ret2
  exact ⟨rfl, rfl⟩
set_option maxRecDepth 100000 in
set_option maxHeartbeats 4000000 in
theorem repeat7_any (x : UInt8) (A : Option Addr) (c : Nat) (w : World) (hs : SB w A 1 c [x]) :
    Calls Try.prog 48 #[.slice A 1 c, .int .i64 7] w fun e w' => ∃ g, e = .returned (.slice (some ⟨g, 0, none⟩) 7 7) ∧ Grows w w' ∧ SB w' (some ⟨g, 0, none⟩) 7 7 (List.replicate 7 x) := by
  obtain ⟨cs, hrun, hle, _⟩ := Lib.run_makeNoZero (P := Try.prog) w #[3] 26 5 Try.underlying26 7 (by omega)
  have hcall : (callFunc 56 #[.int .i64 7]).run Try.prog w = .ok (.value (.slice (some ⟨w.heap.size, 0, none⟩) 7 cs.size)) (w.drew.drew.alloc (.cells cs 5)) := by
    rw [run_callFunc_extern Try.func56 (by kernel_rfl) (by kernel_rfl) (by kernel_rfl) (e := Extern.BytealgMakeNoZero.makeNoZero #[3] #[26]) (by kernel_rfl)]
    have h5 : (Extern.BytealgMakeNoZero.makeNoZero #[3] #[26] #[.int .i64 7]).run Try.prog w = .ok (.slice (some ⟨w.heap.size, 0, none⟩) 7 cs.size) (w.drew.drew.alloc (.cells cs 5)) := hrun
    rw [h5]
    rfl
  obtain ⟨m, Hm, hm⟩ : ∃ m, Hid (cs.size = m) ∧ (7 : Int) ≤ (m : Int) := ⟨_, lib_hid rfl, by omega⟩
  obtain ⟨g, Hg⟩ : ∃ x, Hid (w.heap.size = x) := ⟨_, lib_hid rfl⟩
  obtain ⟨W0, HW0, hg0⟩ : ∃ W0 : World, Hid (W0 = w.drew.drew.alloc (.cells cs 5)) ∧ Grows w W0 := ⟨_, lib_hid rfl, ((Grows.refl w).drew.drew).alloc _⟩
  have HB : Hid (Blk W0 g 5 cs) := by unfold Hid; rw [HW0.out, ← Hg.out]; exact Blk.new w.drew.drew _ _
  rw [Hm.out, Hg.out, ← HW0.out] at hcall
  obtain ⟨b, off, eA, hb, hc⟩ := hs.2.2.2.2 (by omega)
  subst eA
  have hcx : w.cell? ⟨b, off, none⟩ = some (b8 x) := by have := hc 0 (by omega); simpa using this
  have hcx0 : W0.cell? ⟨b, off, none⟩ = some (b8 x) := (hg0.cell (p := ⟨b, off, none⟩) hb).trans hcx
  have hc1 : 1 ≤ c := hs.2.1
  have Hgl : Hid (w.heap.size ≤ g) := by rw [← Hg.out]; exact Nat.le_refl _
  have Hcs : Hid (7 ≤ cs.toList.length) := by unfold Hid; rw [Array.length_toList, Hm.out]; omega
  clear hs hrun hle HW0 Hg hc hcx
  go_enter Try.func48, Try.ntmps48
  go_wp2_with fail
  refine (mul_1_7 w).mono ?_
  rintro e w1 ⟨rfl, rfl⟩
  go_upto_region 18 with (refine wpList_copy_any rfl _ _ 26 26 rfl 5 Try.underlying26 Try.sizeByte (some ⟨g, 0, none⟩) (some ⟨b, off, none⟩) 7 7 1 c rfl rfl g 0 cs.toList 5 HB.out [b8 x] rfl (fun _ => ⟨rfl, _, rfl, src_one hcx0⟩) (by have := Hcs.out; show 0 + 1 ≤ _; omega) (b8_one [x]) ?_; intro W1 HB1 HG1)
  have hg1 : Grows w W1 := hg0.grown HG1.out (fun i hi => by cases hi; exact Hgl.out)
  obtain ⟨L1, HL1, HL1l, HL1t⟩ : ∃ L : List Value, Hid (splice cs.toList 0 [b8 x] = L) ∧ Hid (7 ≤ L.length) ∧ Hid (L.take 1 = List.replicate 1 (b8 x)) := ⟨_, lib_hid rfl, by unfold Hid; rw [spl_len (by have := Hcs.out; show 0 + 1 ≤ _; omega)]; exact Hcs.out, lib_hid (splice_one (by have := Hcs.out; omega))⟩
  rw [HL1.out] at HB1
  clear HG1 hcall hcx0 HL1 HB hg0 Hcs hm hc1 hb
  go_loopw [10] (fun v wr => ∃ (k : Nat) (LV : List Value), (1 ≤ k ∧ k ≤ 7) ∧ v = .int .i64 (k : Int) ∧ Grows w wr ∧ Hid (Blk wr g 5 LV.toArray) ∧ Hid (7 ≤ LV.length) ∧ Hid (LV.take k = List.replicate k (b8 x))) (fun v _ => 7 - (intOf v).toNat)
  case atStart => exact ⟨1, L1, by omega, rfl, hg1, HB1, HL1l, HL1t⟩
  case round =>
    clear hg1 HB1 HL1l HL1t
    obtain ⟨k, LV, hk, rfl, hgr, HB, HLl, HLt⟩ := hrel
    by_cases hlt : k < 7
    · have hki : (k : Int) < 7 := by omega
      have hk1 : 1 ≤ k := by omega
      obtain ⟨mm, Hmm⟩ : ∃ mm, Hid (Nat.min k (7 - k) = mm) := ⟨_, lib_hid rfl⟩
      have hm3 : mm ≤ k ∧ k + mm ≤ 7 ∧ 1 ≤ mm := by have := Hmm.out; simp only [Nat.min_def] at this; split at this <;> omega
      have hmin : ¬ (7 : Int) < (k : Int) := by omega
      have Hk := lib_hid (And.intro hlt (And.intro hk1 hm3))
      have hs1 := fun W => run_sl_lR (P := Try.prog) (t := 26) (e := 5) Try.underlying26 Try.sizeByte g 0 7 7 k (k : Int) rfl (by omega) (by omega) W
      have hs2 := fun W => run_sl_hR (P := Try.prog) (t := 26) (e := 5) Try.underlying26 Try.sizeByte g 0 7 7 k (k : Int) rfl (by omega) W
      rw [Nat.zero_add] at hs1
      clear hk hlt hk1 hm3
      go_upto_region 20 with fail
      clear hmin
      have hkm : (k : Int) + (mm : Int) ≤ 7 := by have := Hk.out; omega
      have Hsrc : Hid (∀ W : World, Blk W g 5 LV.toArray → ∀ (j : Nat) (u : Value), (List.replicate mm (b8 x))[j]? = some u → W.cell? ((⟨g, 0, none⟩ : Addr).add j) = some u) := fun W h j u hj => by
        have hjm : j < mm := by
          rcases Nat.lt_or_ge j mm with h' | h'
          · exact h'
          · rw [List.getElem?_eq_none (by simp; exact h')] at hj; cases hj
        have hjk : j < k := by have := Hk.out; omega
        rw [add_zero_spot, Nat.zero_add, h.cell, List.getElem?_toArray]
        have h5 : (LV.take k)[j]? = (List.replicate k (b8 x))[j]? := by rw [HLt.out]
        rw [List.getElem?_take, if_pos hjk] at h5
        rw [h5, ← hj, List.getElem?_replicate, List.getElem?_replicate, if_pos hjk, if_pos hjm]
      have Hlenk : Hid ((List.replicate mm (b8 x)).length = mm) := by unfold Hid; simp
      have HI0 : RepM w g x k mm LV 0 wr.drew := ⟨hgr.drew, fun _ => HB.out.drew, fun h => by omega⟩
      have Hs1 := lib_hid hs1
      have Hs2 := lib_hid hs2
      clear hs1 hs2
      apply wp_region_monoJ (fun _ _ => True) (fun _ => trivial) (ChainJ [7] (fun m W => RepM w g x k mm LV m W)) #[0, 0, 0, 6, 0, 0, 48, 126, 255, 511] 10 ((.is _, []) :: (.is _, []) :: (.is _, []) :: (.is _, []) :: (.is _, []) :: (.is _, []) :: (.is _, []) :: (.is (.int .i64 (mm : Int)), []) :: (.is _, []) :: (.is _, []) :: []) (by kernel_rfl) (chain_start (HI0)) (by kernel_rfl)
      apply MonoJ.is0
      · kernel_rfl
      · intro L W hLk hsh hah hJ
        have hJ2 := lib_hid (chain_pure (k := 0) (w' := W) (by decide) (fun _ h => h) hJ)
        clear hJ hsh hah
        go_wp2
        refine ⟨rfl, rfl, ⟨trivial, hJ2.out⟩, ?_⟩
        unfold Oper.valAt
        go_simp
        rfl
      intro k1 a1 hk1 ha1
      simp only [Nat.reduceAdd] at hk1
      simp only [Act.put, List.setIfInBounds_toArray, List.set_cons_succ, List.set_cons_zero] at ha1
      subst hk1 ha1
      apply MonoJ.is0
      · kernel_rfl
      · intro L W hLk hsh hah hJ
        have hJ2 := lib_hid (chain_pure (k := 1) (w' := W) (by decide) (fun _ h => h) hJ)
        clear hJ hsh hah
        go_wp2
        refine ⟨rfl, rfl, ⟨trivial, hJ2.out⟩, ?_⟩
        unfold Oper.valAt
        go_simp
        rfl
      intro k1 a1 hk1 ha1
      simp only [Nat.reduceAdd] at hk1
      simp only [Act.put, List.setIfInBounds_toArray, List.set_cons_succ, List.set_cons_zero] at ha1
      subst hk1 ha1
      apply MonoJ.is0
      · kernel_rfl
      · intro L W hLk hsh hah hJ
        have hJ2 := lib_hid (chain_pure (k := 2) (w' := W) (by decide) (fun _ h => h) hJ)
        clear hJ hsh hah
        go_wp2
        refine ⟨rfl, rfl, ⟨trivial, hJ2.out⟩, ?_⟩
        unfold Oper.valAt
        go_simp
        rfl
      intro k1 a1 hk1 ha1
      simp only [Nat.reduceAdd] at hk1
      simp only [Act.put, List.setIfInBounds_toArray, List.set_cons_succ, List.set_cons_zero] at ha1
      subst hk1 ha1
      apply MonoJ.is0
      · kernel_rfl
      · intro L W hLk hsh hah hJ
        have hs1 := Hs1.out W
        have hJ2 := lib_hid (chain_pure (k := 3) (w' := W) (by decide) (fun _ h => h) hJ)
        clear hJ hsh hah
        go_wp2
        refine ⟨rfl, rfl, ⟨trivial, hJ2.out⟩, ?_⟩
        unfold Oper.valAt
        go_simp
        rfl
      intro k1 a1 hk1 ha1
      simp only [Nat.reduceAdd] at hk1
      simp only [Act.put, List.setIfInBounds_toArray, List.set_cons_succ, List.set_cons_zero] at ha1
      subst hk1 ha1
      apply MonoJ.is0
      · kernel_rfl
      · intro L W hLk hsh hah hJ
        have hJ2 := lib_hid (chain_pure (k := 4) (w' := W) (by decide) (fun _ h => h) hJ)
        clear hJ hsh hah
        go_wp2
        refine ⟨rfl, rfl, ⟨trivial, hJ2.out⟩, ?_⟩
        unfold Oper.valAt
        go_simp
        rfl
      intro k1 a1 hk1 ha1
      simp only [Nat.reduceAdd] at hk1
      simp only [Act.put, List.setIfInBounds_toArray, List.set_cons_succ, List.set_cons_zero] at ha1
      subst hk1 ha1
      apply MonoJ.is0
      · kernel_rfl
      · intro L W hLk hsh hah hJ
        have hJ2 := lib_hid (chain_pure (k := 5) (w' := W) (by decide) (fun _ h => h) hJ)
        clear hJ hsh hah
        go_wp2
        refine ⟨rfl, rfl, ⟨trivial, hJ2.out⟩, ?_⟩
        unfold Oper.valAt
        go_simp
        rfl
      intro k1 a1 hk1 ha1
      simp only [Nat.reduceAdd] at hk1
      simp only [Act.put, List.setIfInBounds_toArray, List.set_cons_succ, List.set_cons_zero] at ha1
      subst hk1 ha1
      apply MonoJ.is0
      · kernel_rfl
      · intro L W hLk hsh hah hJ
        have hs2 := Hs2.out W
        have hJ2 := lib_hid (chain_pure (k := 6) (w' := W) (by decide) (fun _ h => h) hJ)
        clear hJ hsh hah
        go_wp2
        refine ⟨rfl, rfl, ⟨trivial, hJ2.out⟩, ?_⟩
        unfold Oper.valAt
        go_simp
        rfl
      intro k1 a1 hk1 ha1
      simp only [Nat.reduceAdd] at hk1
      simp only [Act.put, List.setIfInBounds_toArray, List.set_cons_succ, List.set_cons_zero] at ha1
      subst hk1 ha1
      apply MonoJ.is0
      · kernel_rfl
      · intro L W hLk hsh hah hJ
        obtain ⟨hI, hLs⟩ := chain_at (i := 0) (k := 7) rfl hLk (fun j h => by cases h) hJ
        clear hJ hsh hah
        have hB := hI.2.1 rfl
        have hgI := hI.1
        have hend : Hid (∀ w2, (fun m W => RepM w g x k mm LV m W) 1 w2 → ChainJ [7] (fun m W => RepM w g x k mm LV m W) (setL L 7) w2) := fun w2 hw => chain_step (i := 0) (k := 7) rfl (by intro j h; rcases j with _ | _ | _ | _ | _ | _ <;> simp at h <;> omega) hLs hw
        clear hLs hLk
        go_wp2_with (refine wpList_copy_any rfl _ _ 26 26 rfl 5 Try.underlying26 Try.sizeByte (some ⟨g, k, none⟩) (some ⟨g, 0, none⟩) (7 - k) (7 - k) k 7 rfl rfl g k LV 5 hB (List.replicate mm (b8 x)) (by rw [Hlenk.out]; exact Hmm.out.symm) (fun _ => ⟨rfl, ⟨g, 0, none⟩, rfl, Hsrc.out _ hB⟩) (by rw [Hlenk.out]; have := Hk.out; have := HLl.out; omega) (fun v hv => by rw [List.eq_of_mem_replicate hv]; rfl) ?_; intro w4 hB4 hG4; rw [Hlenk.out])
        first | refine ⟨rfl, rfl, hend.out _ ?_, ?_⟩ | refine ⟨rfl, rfl, ⟨trivial, hend.out _ ?_⟩, ?_⟩
        · exact ⟨hgI.grown hG4.out (fun i hi => by cases hi; exact Hgl.out), fun h => by omega, fun _ => hB4.out⟩
        · rfl
      intro k1 a1 hk1 ha1
      simp only [Nat.reduceAdd] at hk1
      simp only [Act.put, List.setIfInBounds_toArray, List.set_cons_succ, List.set_cons_zero] at ha1
      subst hk1 ha1
      apply MonoJ.is0
      · kernel_rfl
      · intro L W hLk hsh hah hJ
        have hJ2 := lib_hid (chain_pure (k := 8) (w' := W) (by decide) (fun _ h => h) hJ)
        clear hJ hsh hah
        go_wp2
        refine ⟨rfl, rfl, ⟨trivial, hJ2.out⟩, ?_⟩
        unfold Oper.valAt
        go_simp
        rfl
      intro k1 a1 hk1 ha1
      simp only [Nat.reduceAdd] at hk1
      simp only [Act.put, List.setIfInBounds_toArray, List.set_cons_succ, List.set_cons_zero] at ha1
      subst hk1 ha1
      apply MonoJ.is0
      · kernel_rfl
      · intro L W hLk hsh hah hJ
        have hJ2 := lib_hid (chain_pure (k := 9) (w' := W) (by decide) (fun _ h => h) hJ)
        clear hJ hsh hah
        go_wp2
        refine ⟨rfl, rfl, ⟨trivial, hJ2.out⟩, ?_⟩
        unfold Oper.valAt
        go_simp
        rfl
      intro k1 a1 hk1 ha1
      simp only [Nat.reduceAdd] at hk1
      simp only [Act.put, List.setIfInBounds_toArray, List.set_cons_succ, List.set_cons_zero] at ha1
      subst hk1 ha1
      refine MonoJ.done ?_
      intro wm hJ
      obtain ⟨mj, hm, hI⟩ := chain_end (by decide) hJ
      clear hJ
      simp only [allF, List.drop_succ_cons, List.drop_nil]
      have hG : Grows w wm := hI.1
      have hB2 := lib_hid (hI.2.2 (by simpa using hm))
      go_wp2
      go_roundw
      case rel => exact ⟨k + mm, splice LV k (List.replicate mm (b8 x)), by have := Hk.out; omega, by go_num, hG, hB2, by unfold Hid; rw [spl_len (by have := Hk.out; have := HLl.out; simp; omega)]; exact HLl.out, splice_twoM HLt.out (by have := Hk.out; have := HLl.out; omega)⟩
      case measure => have := Hk.out; simp [intOf]; omega
    · have hki : ¬ (k : Int) < 7 := by omega
      have hk64 : k = 7 := by omega
      have HS : Hid (SB wr (some ⟨g, 0, none⟩) 7 7 (List.replicate 7 x)) := by
        rw [hk64] at HLt
        have h5 := HB.out.row (o := 0) (n := 7) (c := 7) (Nat.le_refl _) (by simpa using HLl.out) (by unfold maxLen; omega)
        have e : (LV.toArray.toList.drop 0).take 7 = (List.replicate 7 x).map b8 := by rw [List.drop_zero, List.map_replicate]; exact HLt.out
        rw [e] at h5
        exact h5
      clear HB HLl HLt hk hlt
      go_wp2
      go_ret
      exact ⟨g, rfl, hgr, HS.out⟩
theorem mul_1_8 (w : World) : Calls Try.prog 55 #[.int .u64 1, .int .u64 8] w fun e w' => e = .returned (.tuple #[.int .u64 0, .int .u64 8]) ∧ w = w' := by
  have h : Calls Try.prog 60 #[.int .u64 1, .int .u64 8] w fun e w' => e = .returned (.tuple #[.int .u64 0, .int .u64 8]) ∧ w = w' := by
    go_enter Try.func60, Try.ntmps60
    go_wp2
    go_ret2
    exact ⟨rfl, rfl⟩
  go_enter Try.func55, Try.ntmps55
  go_wp2_with fail
  refine h.mono ?_
  rintro e w1 ⟨rfl, rfl⟩
  go_wp2
  go_ret2
  exact ⟨rfl, rfl⟩
set_option maxRecDepth 100000 in
set_option maxHeartbeats 4000000 in
theorem repeat8_any (x : UInt8) (A : Option Addr) (c : Nat) (w : World) (hs : SB w A 1 c [x]) :
    Calls Try.prog 48 #[.slice A 1 c, .int .i64 8] w fun e w' => ∃ g, e = .returned (.slice (some ⟨g, 0, none⟩) 8 8) ∧ Grows w w' ∧ SB w' (some ⟨g, 0, none⟩) 8 8 (List.replicate 8 x) := by
  obtain ⟨cs, hrun, hle, _⟩ := Lib.run_makeNoZero (P := Try.prog) w #[3] 26 5 Try.underlying26 8 (by omega)
  have hcall : (callFunc 56 #[.int .i64 8]).run Try.prog w = .ok (.value (.slice (some ⟨w.heap.size, 0, none⟩) 8 cs.size)) (w.drew.drew.alloc (.cells cs 5)) := by
    rw [run_callFunc_extern Try.func56 (by kernel_rfl) (by kernel_rfl) (by kernel_rfl) (e := Extern.BytealgMakeNoZero.makeNoZero #[3] #[26]) (by kernel_rfl)]
    have h5 : (Extern.BytealgMakeNoZero.makeNoZero #[3] #[26] #[.int .i64 8]).run Try.prog w = .ok (.slice (some ⟨w.heap.size, 0, none⟩) 8 cs.size) (w.drew.drew.alloc (.cells cs 5)) := hrun
    rw [h5]
    rfl
  obtain ⟨m, Hm, hm⟩ : ∃ m, Hid (cs.size = m) ∧ (8 : Int) ≤ (m : Int) := ⟨_, lib_hid rfl, by omega⟩
  obtain ⟨g, Hg⟩ : ∃ x, Hid (w.heap.size = x) := ⟨_, lib_hid rfl⟩
  obtain ⟨W0, HW0, hg0⟩ : ∃ W0 : World, Hid (W0 = w.drew.drew.alloc (.cells cs 5)) ∧ Grows w W0 := ⟨_, lib_hid rfl, ((Grows.refl w).drew.drew).alloc _⟩
  have HB : Hid (Blk W0 g 5 cs) := by unfold Hid; rw [HW0.out, ← Hg.out]; exact Blk.new w.drew.drew _ _
  rw [Hm.out, Hg.out, ← HW0.out] at hcall
  obtain ⟨b, off, eA, hb, hc⟩ := hs.2.2.2.2 (by omega)
  subst eA
  have hcx : w.cell? ⟨b, off, none⟩ = some (b8 x) := by have := hc 0 (by omega); simpa using this
  have hcx0 : W0.cell? ⟨b, off, none⟩ = some (b8 x) := (hg0.cell (p := ⟨b, off, none⟩) hb).trans hcx
  have hc1 : 1 ≤ c := hs.2.1
  have Hgl : Hid (w.heap.size ≤ g) := by rw [← Hg.out]; exact Nat.le_refl _
  have Hcs : Hid (8 ≤ cs.toList.length) := by unfold Hid; rw [Array.length_toList, Hm.out]; omega
  clear hs hrun hle HW0 Hg hc hcx
  go_enter Try.func48, Try.ntmps48
  go_wp2_with fail
  refine (mul_1_8 w).mono ?_
  rintro e w1 ⟨rfl, rfl⟩
  go_upto_region 18 with (refine wpList_copy_any rfl _ _ 26 26 rfl 5 Try.underlying26 Try.sizeByte (some ⟨g, 0, none⟩) (some ⟨b, off, none⟩) 8 8 1 c rfl rfl g 0 cs.toList 5 HB.out [b8 x] rfl (fun _ => ⟨rfl, _, rfl, src_one hcx0⟩) (by have := Hcs.out; show 0 + 1 ≤ _; omega) (b8_one [x]) ?_; intro W1 HB1 HG1)
  have hg1 : Grows w W1 := hg0.grown HG1.out (fun i hi => by cases hi; exact Hgl.out)
  obtain ⟨L1, HL1, HL1l, HL1t⟩ : ∃ L : List Value, Hid (splice cs.toList 0 [b8 x] = L) ∧ Hid (8 ≤ L.length) ∧ Hid (L.take 1 = List.replicate 1 (b8 x)) := ⟨_, lib_hid rfl, by unfold Hid; rw [spl_len (by have := Hcs.out; show 0 + 1 ≤ _; omega)]; exact Hcs.out, lib_hid (splice_one (by have := Hcs.out; omega))⟩
  rw [HL1.out] at HB1
  clear HG1 hcall hcx0 HL1 HB hg0 Hcs hm hc1 hb
  go_loopw [10] (fun v wr => ∃ (k : Nat) (LV : List Value), (1 ≤ k ∧ k ≤ 8) ∧ v = .int .i64 (k : Int) ∧ Grows w wr ∧ Hid (Blk wr g 5 LV.toArray) ∧ Hid (8 ≤ LV.length) ∧ Hid (LV.take k = List.replicate k (b8 x))) (fun v _ => 8 - (intOf v).toNat)
  case atStart => exact ⟨1, L1, by omega, rfl, hg1, HB1, HL1l, HL1t⟩
  case round =>
    clear hg1 HB1 HL1l HL1t
    obtain ⟨k, LV, hk, rfl, hgr, HB, HLl, HLt⟩ := hrel
    by_cases hlt : k < 8
    · have hki : (k : Int) < 8 := by omega
      have hk1 : 1 ≤ k := by omega
      obtain ⟨mm, Hmm⟩ : ∃ mm, Hid (Nat.min k (8 - k) = mm) := ⟨_, lib_hid rfl⟩
      have hm3 : mm ≤ k ∧ k + mm ≤ 8 ∧ 1 ≤ mm := by have := Hmm.out; simp only [Nat.min_def] at this; split at this <;> omega
      have hmin : ¬ (8 : Int) < (k : Int) := by omega
      have Hk := lib_hid (And.intro hlt (And.intro hk1 hm3))
      have hs1 := fun W => run_sl_lR (P := Try.prog) (t := 26) (e := 5) Try.underlying26 Try.sizeByte g 0 8 8 k (k : Int) rfl (by omega) (by omega) W
      have hs2 := fun W => run_sl_hR (P := Try.prog) (t := 26) (e := 5) Try.underlying26 Try.sizeByte g 0 8 8 k (k : Int) rfl (by omega) W
      rw [Nat.zero_add] at hs1
      clear hk hlt hk1 hm3
      go_upto_region 20 with fail
      clear hmin
      have hkm : (k : Int) + (mm : Int) ≤ 8 := by have := Hk.out; omega
      have Hsrc : Hid (∀ W : World, Blk W g 5 LV.toArray → ∀ (j : Nat) (u : Value), (List.replicate mm (b8 x))[j]? = some u → W.cell? ((⟨g, 0, none⟩ : Addr).add j) = some u) := fun W h j u hj => by
        have hjm : j < mm := by
          rcases Nat.lt_or_ge j mm with h' | h'
          · exact h'
          · rw [List.getElem?_eq_none (by simp; exact h')] at hj; cases hj
        have hjk : j < k := by have := Hk.out; omega
        rw [add_zero_spot, Nat.zero_add, h.cell, List.getElem?_toArray]
        have h5 : (LV.take k)[j]? = (List.replicate k (b8 x))[j]? := by rw [HLt.out]
        rw [List.getElem?_take, if_pos hjk] at h5
        rw [h5, ← hj, List.getElem?_replicate, List.getElem?_replicate, if_pos hjk, if_pos hjm]
      have Hlenk : Hid ((List.replicate mm (b8 x)).length = mm) := by unfold Hid; simp
      have HI0 : RepM w g x k mm LV 0 wr.drew := ⟨hgr.drew, fun _ => HB.out.drew, fun h => by omega⟩
      have Hs1 := lib_hid hs1
      have Hs2 := lib_hid hs2
      clear hs1 hs2
      apply wp_region_monoJ (fun _ _ => True) (fun _ => trivial) (ChainJ [7] (fun m W => RepM w g x k mm LV m W)) #[0, 0, 0, 6, 0, 0, 48, 126, 255, 511] 10 ((.is _, []) :: (.is _, []) :: (.is _, []) :: (.is _, []) :: (.is _, []) :: (.is _, []) :: (.is _, []) :: (.is (.int .i64 (mm : Int)), []) :: (.is _, []) :: (.is _, []) :: []) (by kernel_rfl) (chain_start (HI0)) (by kernel_rfl)
      apply MonoJ.is0
      · kernel_rfl
      · intro L W hLk hsh hah hJ
        have hJ2 := lib_hid (chain_pure (k := 0) (w' := W) (by decide) (fun _ h => h) hJ)
        clear hJ hsh hah
        go_wp2
        refine ⟨rfl, rfl, ⟨trivial, hJ2.out⟩, ?_⟩
        unfold Oper.valAt
        go_simp
        rfl
      intro k1 a1 hk1 ha1
      simp only [Nat.reduceAdd] at hk1
      simp only [Act.put, List.setIfInBounds_toArray, List.set_cons_succ, List.set_cons_zero] at ha1
      subst hk1 ha1
      apply MonoJ.is0
      · kernel_rfl
      · intro L W hLk hsh hah hJ
        have hJ2 := lib_hid (chain_pure (k := 1) (w' := W) (by decide) (fun _ h => h) hJ)
        clear hJ hsh hah
        go_wp2
        refine ⟨rfl, rfl, ⟨trivial, hJ2.out⟩, ?_⟩
        unfold Oper.valAt
        go_simp
        rfl
      intro k1 a1 hk1 ha1
      simp only [Nat.reduceAdd] at hk1
      simp only [Act.put, List.setIfInBounds_toArray, List.set_cons_succ, List.set_cons_zero] at ha1
      subst hk1 ha1
      apply MonoJ.is0
      · kernel_rfl
      · intro L W hLk hsh hah hJ
        have hJ2 := lib_hid (chain_pure (k := 2) (w' := W) (by decide) (fun _ h => h) hJ)
        clear hJ hsh hah
        go_wp2
        refine ⟨rfl, rfl, ⟨trivial, hJ2.out⟩, ?_⟩
        unfold Oper.valAt
        go_simp
        rfl
      intro k1 a1 hk1 ha1
      simp only [Nat.reduceAdd] at hk1
      simp only [Act.put, List.setIfInBounds_toArray, List.set_cons_succ, List.set_cons_zero] at ha1
      subst hk1 ha1
      apply MonoJ.is0
      · kernel_rfl
      · intro L W hLk hsh hah hJ
        have hs1 := Hs1.out W
        have hJ2 := lib_hid (chain_pure (k := 3) (w' := W) (by decide) (fun _ h => h) hJ)
        clear hJ hsh hah
        go_wp2
        refine ⟨rfl, rfl, ⟨trivial, hJ2.out⟩, ?_⟩
        unfold Oper.valAt
        go_simp
        rfl
      intro k1 a1 hk1 ha1
      simp only [Nat.reduceAdd] at hk1
      simp only [Act.put, List.setIfInBounds_toArray, List.set_cons_succ, List.set_cons_zero] at ha1
      subst hk1 ha1
      apply MonoJ.is0
      · kernel_rfl
      · intro L W hLk hsh hah hJ
        have hJ2 := lib_hid (chain_pure (k := 4) (w' := W) (by decide) (fun _ h => h) hJ)
        clear hJ hsh hah
        go_wp2
        refine ⟨rfl, rfl, ⟨trivial, hJ2.out⟩, ?_⟩
        unfold Oper.valAt
        go_simp
        rfl
      intro k1 a1 hk1 ha1
      simp only [Nat.reduceAdd] at hk1
      simp only [Act.put, List.setIfInBounds_toArray, List.set_cons_succ, List.set_cons_zero] at ha1
      subst hk1 ha1
      apply MonoJ.is0
      · kernel_rfl
      · intro L W hLk hsh hah hJ
        have hJ2 := lib_hid (chain_pure (k := 5) (w' := W) (by decide) (fun _ h => h) hJ)
        clear hJ hsh hah
        go_wp2
        refine ⟨rfl, rfl, ⟨trivial, hJ2.out⟩, ?_⟩
        unfold Oper.valAt
        go_simp
        rfl
      intro k1 a1 hk1 ha1
      simp only [Nat.reduceAdd] at hk1
      simp only [Act.put, List.setIfInBounds_toArray, List.set_cons_succ, List.set_cons_zero] at ha1
      subst hk1 ha1
      apply MonoJ.is0
      · kernel_rfl
      · intro L W hLk hsh hah hJ
        have hs2 := Hs2.out W
        have hJ2 := lib_hid (chain_pure (k := 6) (w' := W) (by decide) (fun _ h => h) hJ)
        clear hJ hsh hah
        go_wp2
        refine ⟨rfl, rfl, ⟨trivial, hJ2.out⟩, ?_⟩
        unfold Oper.valAt
        go_simp
        rfl
      intro k1 a1 hk1 ha1
      simp only [Nat.reduceAdd] at hk1
      simp only [Act.put, List.setIfInBounds_toArray, List.set_cons_succ, List.set_cons_zero] at ha1
      subst hk1 ha1
      apply MonoJ.is0
      · kernel_rfl
      · intro L W hLk hsh hah hJ
        obtain ⟨hI, hLs⟩ := chain_at (i := 0) (k := 7) rfl hLk (fun j h => by cases h) hJ
        clear hJ hsh hah
        have hB := hI.2.1 rfl
        have hgI := hI.1
        have hend : Hid (∀ w2, (fun m W => RepM w g x k mm LV m W) 1 w2 → ChainJ [7] (fun m W => RepM w g x k mm LV m W) (setL L 7) w2) := fun w2 hw => chain_step (i := 0) (k := 7) rfl (by intro j h; rcases j with _ | _ | _ | _ | _ | _ <;> simp at h <;> omega) hLs hw
        clear hLs hLk
        go_wp2_with (refine wpList_copy_any rfl _ _ 26 26 rfl 5 Try.underlying26 Try.sizeByte (some ⟨g, k, none⟩) (some ⟨g, 0, none⟩) (8 - k) (8 - k) k 8 rfl rfl g k LV 5 hB (List.replicate mm (b8 x)) (by rw [Hlenk.out]; exact Hmm.out.symm) (fun _ => ⟨rfl, ⟨g, 0, none⟩, rfl, Hsrc.out _ hB⟩) (by rw [Hlenk.out]; have := Hk.out; have := HLl.out; omega) (fun v hv => by rw [List.eq_of_mem_replicate hv]; rfl) ?_; intro w4 hB4 hG4; rw [Hlenk.out])
        first | refine ⟨rfl, rfl, hend.out _ ?_, ?_⟩ | refine ⟨rfl, rfl, ⟨trivial, hend.out _ ?_⟩, ?_⟩
        · exact ⟨hgI.grown hG4.out (fun i hi => by cases hi; exact Hgl.out), fun h => by omega, fun _ => hB4.out⟩
        · rfl
      intro k1 a1 hk1 ha1
      simp only [Nat.reduceAdd] at hk1
      simp only [Act.put, List.setIfInBounds_toArray, List.set_cons_succ, List.set_cons_zero] at ha1
      subst hk1 ha1
      apply MonoJ.is0
      · kernel_rfl
      · intro L W hLk hsh hah hJ
        have hJ2 := lib_hid (chain_pure (k := 8) (w' := W) (by decide) (fun _ h => h) hJ)
        clear hJ hsh hah
        go_wp2
        refine ⟨rfl, rfl, ⟨trivial, hJ2.out⟩, ?_⟩
        unfold Oper.valAt
        go_simp
        rfl
      intro k1 a1 hk1 ha1
      simp only [Nat.reduceAdd] at hk1
      simp only [Act.put, List.setIfInBounds_toArray, List.set_cons_succ, List.set_cons_zero] at ha1
      subst hk1 ha1
      apply MonoJ.is0
      · kernel_rfl
      · intro L W hLk hsh hah hJ
        have hJ2 := lib_hid (chain_pure (k := 9) (w' := W) (by decide) (fun _ h => h) hJ)
        clear hJ hsh hah
        go_wp2
        refine ⟨rfl, rfl, ⟨trivial, hJ2.out⟩, ?_⟩
        unfold Oper.valAt
        go_simp
        rfl
      intro k1 a1 hk1 ha1
      simp only [Nat.reduceAdd] at hk1
      simp only [Act.put, List.setIfInBounds_toArray, List.set_cons_succ, List.set_cons_zero] at ha1
      subst hk1 ha1
      refine MonoJ.done ?_
      intro wm hJ
      obtain ⟨mj, hm, hI⟩ := chain_end (by decide) hJ
      clear hJ
      simp only [allF, List.drop_succ_cons, List.drop_nil]
      have hG : Grows w wm := hI.1
      have hB2 := lib_hid (hI.2.2 (by simpa using hm))
      go_wp2
      go_roundw
      case rel => exact ⟨k + mm, splice LV k (List.replicate mm (b8 x)), by have := Hk.out; omega, by go_num, hG, hB2, by unfold Hid; rw [spl_len (by have := Hk.out; have := HLl.out; simp; omega)]; exact HLl.out, splice_twoM HLt.out (by have := Hk.out; have := HLl.out; omega)⟩
      case measure => have := Hk.out; simp [intOf]; omega
    · have hki : ¬ (k : Int) < 8 := by omega
      have hk64 : k = 8 := by omega
      have HS : Hid (SB wr (some ⟨g, 0, none⟩) 8 8 (List.replicate 8 x)) := by
        rw [hk64] at HLt
        have h5 := HB.out.row (o := 0) (n := 8) (c := 8) (Nat.le_refl _) (by simpa using HLl.out) (by unfold maxLen; omega)
        have e : (LV.toArray.toList.drop 0).take 8 = (List.replicate 8 x).map b8 := by rw [List.drop_zero, List.map_replicate]; exact HLt.out
        rw [e] at h5
        exact h5
      clear HB HLl HLt hk hlt
      go_wp2
      go_ret
      exact ⟨g, rfl, hgr, HS.out⟩

end Go.Proofs.Ythcmdjaccjghjaa
