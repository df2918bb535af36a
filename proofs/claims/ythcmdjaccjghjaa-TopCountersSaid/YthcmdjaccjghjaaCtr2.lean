/-
  ctr's Stream.fill.
-/
import Derived.Test.YthcmdjaccjghjaaCtr1
import Derived.Test.YthcmdjaccjghjaaCtrLe
import Derived.Test.YthcmdjaccjghjaaGcm5
import Derived.Test.YthcmdjaccjghjaaMonoJ
import Derived.Deep.Cut
import Derived.Deep.RegionHeldLaw
namespace Go.Proofs.Ythcmdjaccjghjaa
open Go Go.RowKit
set_option linter.unusedSimpArgs false
set_option linter.unusedVariables false


theorem ctrV_size (g : Nat) (nx : List UInt8) (L : Value) (a : Int) (h : nx.length = 16) : (ctrV g nx L a).size = 19 := by simp [ctrV, h]
theorem ctrV_next (g : Nat) (nx cv : List UInt8) (L : Value) (a : Int) (h : nx.length = 16) (h2 : cv.length = 16) : (splice (ctrV g nx L a).toList 1 (cv.map b8)).toArray = ctrV g cv L a := by
  unfold splice ctrV
  have e : (Value.pointer (some ⟨g, 0, none⟩) :: (nx.map b8 ++ [L, .int .i64 a])).drop (1 + (cv.map b8).length) = [L, .int .i64 a] := by
    rw [show 1 + (cv.map b8).length = 16 + 1 by simp [h2], List.drop_succ_cons, List.drop_left' (by simp [h])]
  show (List.take 1 (Value.pointer (some ⟨g, 0, none⟩) :: (nx.map b8 ++ [L, .int .i64 a])) ++ (cv.map b8 ++ (Value.pointer (some ⟨g, 0, none⟩) :: (nx.map b8 ++ [L, .int .i64 a])).drop (1 + (cv.map b8).length))).toArray = _
  rw [e]
  rfl
theorem ctrV_left (g : Nat) (nx : List UInt8) (L L2 : Value) (a : Int) (h : nx.length = 16) : (ctrV g nx L a).setIfInBounds 17 L2 = ctrV g nx L2 a := by
  unfold ctrV
  rw [List.setIfInBounds_toArray]
  congr 1
  rw [List.set_cons_succ, List.set_append_right _ _ (by simp [h])]
  simp [h]
theorem ctrV_at (g : Nat) (nx : List UInt8) (L : Value) (a a2 : Int) (h : nx.length = 16) : (ctrV g nx L a).setIfInBounds 18 (.int .i64 a2) = ctrV g nx L a2 := by
  unfold ctrV
  rw [List.setIfInBounds_toArray]
  congr 1
  rw [List.set_cons_succ, List.set_append_right _ _ (by simp [h])]
  simp [h]
theorem ctrV_c17 (g : Nat) (nx : List UInt8) (L : Value) (a : Int) (h : nx.length = 16) : (ctrV g nx L a)[17]? = some L := by
  unfold ctrV
  rw [List.getElem?_toArray, List.getElem?_cons_succ, List.getElem?_append_right (by simp [h])]
  simp [h]
theorem ctrV_c18 (g : Nat) (nx : List UInt8) (L : Value) (a : Int) (h : nx.length = 16) : (ctrV g nx L a)[18]? = some (.int .i64 a) := by
  unfold ctrV
  rw [List.getElem?_toArray, List.getElem?_cons_succ, List.getElem?_append_right (by simp [h])]
  simp [h]
theorem ctrV_nx {w : World} {s g : Nat} {nx : List UInt8} {L : Value} {a : Int} (h : nx.length = 16) (hB : Blk w s 93 (ctrV g nx L a)) : SB w (some ⟨s, 1, none⟩) 16 16 nx := by
  have := hB.row (o := 1) (n := 16) (c := 16) (by omega) (by rw [ctrV_size _ _ _ _ h]; omega) (by unfold maxLen; omega)
  have e : ((ctrV g nx L a).toList.drop 1).take 16 = nx.map b8 := by
    unfold ctrV
    show (nx.map b8 ++ [L, .int .i64 a]).take 16 = _
    exact List.take_left' (by simp [h])
  rw [e] at this
  exact this
def FillI (w5 : World) (s g : Nat) (nx cv : List UInt8) (q : Nat) (L : Value) (a : Int) (m : Nat) (W : World) : Prop :=
  Keeps (fun k => k = s) w5 W ∧ Blk W s 93 (if m = 0 then ctrV g nx L a else if m = 1 then ctrV g cv L a else ctrV g cv (.slice (some ⟨q, 0, none⟩) 16 16) a)
theorem FillI.grows {w5 W W' : World} {s g q m : Nat} {nx cv : List UInt8} {L : Value} {a : Int} (h : FillI w5 s g nx cv q L a m W) (hg : Grows W W') : FillI w5 s g nx cv q L a m W' :=
  ⟨h.1.trans (hg.keeps _) (fun _ h _ => h), h.2.grows hg⟩
set_option maxRecDepth 100000 in
set_option maxHeartbeats 4000000 in
theorem fill_any (B g nr s : Nat) (TT ws nx : List UInt8) (LV : Value) (a : Int) (w : World) (hK : KeyR w B g TT ws nr) (h1 : 1 ≤ nr) (hnr : nr ≤ 14) (hx : nx.length = 16) (hs : Blk w s 93 (ctrV g nx LV a)) :
    Calls Try.prog 52 #[.pointer (some ⟨s, 0, none⟩)] w fun e w' => ∃ q, e = .returned (.tuple #[]) ∧ w.heap.size ≤ q ∧ Keeps (fun k => k = s) w w' ∧ Blk w' s 93 (ctrV g (countF nx 1) (.slice (some ⟨q, 0, none⟩) 16 16) a) ∧ Blk w' q 23 ((encF TT ws nr nx).map b8).toArray := by
  obtain ⟨e1, He1, e1l⟩ : ∃ e1 : List UInt8, Hid (encF TT ws nr nx = e1) ∧ Hid (e1.length = 16) := ⟨_, lib_hid rfl, lib_hid (encF_len _ _ _ _)⟩
  obtain ⟨cv, Hcv, cvl⟩ : ∃ cv : List UInt8, Hid (countF nx 1 = cv) ∧ Hid (cv.length = 16) := ⟨_, lib_hid rfl, lib_hid (countF_len _ _)⟩
  have hB : B ≤ w.heap.size := by obtain ⟨_, _, _, _, _, _, h, _⟩ := hK; exact h
  have HEn : Hid (∀ W, Grows w W → Calls Try.prog 13 #[.pointer (some ⟨g, 0, none⟩), .agg (nx.map b8).toArray] W fun e w' => e = .returned (.agg (e1.map b8).toArray) ∧ Grows W w') := fun W hW => by
    rw [← He1.out]; exact encrypt_any B g nr TT ws nx W (hK.below (hW.mono hB)) hx h1 hnr
  have HCo : Hid (∀ W, Calls Try.prog 17 #[.agg (nx.map b8).toArray, .int .u64 1] W fun e w' => e = .returned (.agg (cv.map b8).toArray) ∧ Grows W w') := fun W => by
    rw [← Hcv.out]; exact count_any nx hx 1 W
  have HBs := lib_hid hs
  have hsl : s < w.heap.size := hs.lt
  have HC0 : Hid (∀ W, Grows w W → W.cell? ⟨s, 0, none⟩ = some (.pointer (some ⟨g, 0, none⟩))) := fun W hW => (hs.grows hW).cell 0
  have HNx : Hid (∀ W, Grows w W → SB W (some ⟨s, 1, none⟩) 16 16 nx) := fun W hW => ctrV_nx hx (hs.grows hW)
  have Hxl := lib_hid hx
  rw [He1.out, Hcv.out]
  clear hK hs hx
  go_enter Try.func52, Try.ntmps52
  go_wp2
  apply wp_region_mono 10 ((.is _, []) :: (.is _, []) :: (.is _, []) :: (.is _, []) :: (.is _, []) :: (.is _, []) :: (.is _, []) :: (.is (.agg (nx.map b8).toArray), []) :: (.is (.agg ((e1).map b8).toArray), []) :: (.pr (fun v W => ∃ q, v = .pointer (some ⟨q, 0, none⟩) ∧ w.heap.size ≤ q ∧ Blk W q 23 #[.int .u8 0, .int .u8 0, .int .u8 0, .int .u8 0, .int .u8 0, .int .u8 0, .int .u8 0, .int .u8 0, .int .u8 0, .int .u8 0, .int .u8 0, .int .u8 0, .int .u8 0, .int .u8 0, .int .u8 0, .int .u8 0]), []) :: []) (by kernel_rfl) (by kernel_rfl)
  iterate 3
    apply Mono.is0
    · kernel_rfl
    · intro W hW
      go_wp2
      refine ⟨rfl, rfl, Grows.refl _, ?_⟩
      unfold Oper.valAt
      go_simp
      rfl
    intro k1 a1 hk1 ha1
    simp only [Nat.reduceAdd] at hk1
    simp only [Act.put, List.setIfInBounds_toArray, List.set_cons_succ, List.set_cons_zero] at ha1
    subst hk1 ha1
  apply Mono.is0
  · kernel_rfl
  · intro W hW
    have c0 := HC0.out W hW
    go_wp2
    refine ⟨rfl, rfl, Grows.refl _, ?_⟩
    unfold Oper.valAt
    go_simp
    rfl
  intro k1 a1 hk1 ha1
  simp only [Nat.reduceAdd] at hk1
  simp only [Act.put, List.setIfInBounds_toArray, List.set_cons_succ, List.set_cons_zero] at ha1
  subst hk1 ha1
  iterate 3
    apply Mono.is0
    · kernel_rfl
    · intro W hW
      go_wp2
      refine ⟨rfl, rfl, Grows.refl _, ?_⟩
      unfold Oper.valAt
      go_simp
      rfl
    intro k1 a1 hk1 ha1
    simp only [Nat.reduceAdd] at hk1
    simp only [Act.put, List.setIfInBounds_toArray, List.set_cons_succ, List.set_cons_zero] at ha1
    subst hk1 ha1
  apply Mono.is0
  · kernel_rfl
  · intro W hW 
    go_wp2_with (refine wpList_load_part (by kernel_rfl) _ _ rfl ⟨s, 1, none⟩ rfl 16 16 _ _ (HNx.out W hW) Try.underlying23 rfl Try.size16 ?_)
    exact ⟨rfl, rfl, Grows.refl _, rfl⟩
  intro k1 a1 hk1 ha1
  simp only [Nat.reduceAdd] at hk1
  simp only [Act.put, List.setIfInBounds_toArray, List.set_cons_succ, List.set_cons_zero] at ha1
  subst hk1 ha1
  apply Mono.is0
  · kernel_rfl
  · intro W hW 
    go_wp2_with fail
    refine (HEn.out W hW).mono ?_
    rintro e w1 ⟨rfl, hg1⟩
    go_wp2
    exact ⟨rfl, rfl, hg1, rfl⟩
  intro k1 a1 hk1 ha1
  simp only [Nat.reduceAdd] at hk1
  simp only [Act.put, List.setIfInBounds_toArray, List.set_cons_succ, List.set_cons_zero] at ha1
  subst hk1 ha1
  apply Mono.pr0
  · kernel_rfl
  · exact fun v W W' hW ⟨q, h1, h2, h3⟩ => ⟨q, h1, h2, h3.grows hW⟩
  · intro W hW 
    go_wp2
    refine ⟨rfl, rfl, (Grows.refl _).alloc _, W.heap.size, ?_, hW.size, Blk.new W _ _⟩
    unfold Oper.valAt
    go_simp
  intro v9
  intro k1 a1 hk1 ha1
  simp only [Nat.reduceAdd] at hk1
  simp only [Act.put, List.setIfInBounds_toArray, List.set_cons_succ, List.set_cons_zero] at ha1
  subst hk1 ha1
  refine Mono.done ?_
  intro wm hgm
  simp only [allF, List.drop_succ_cons, List.drop_zero]
  intro g9
  obtain ⟨q, rfl, hq, hz⟩ := g9
  have Hz := lib_hid hz
  have HG := lib_hid hgm
  obtain ⟨ec, Hec, hec⟩ : ∃ ec, Hid ((e1.map b8).toArray = ec) ∧ ec.size = 16 := ⟨_, lib_hid rfl, by simp [e1l.out]⟩
  have HEa : Hid (ec.all (·.oneCell') = true) := by unfold Hid; rw [← Hec.out]; exact cells_all _
  rw [Hec.out]
  clear hz hgm
  refine wpList_store_blk (by kernel_rfl) _ _ _ rfl q ec rfl rfl 23 _ Hz.out (by rw [Try.size16, hec]) (by rw [hec]; rfl) HEa.out q wm (Below.refl _ _) (Nat.le_refl _) ?_
  intro w5 hB5 hb5 hg5
  have HG5 : Hid (Grows w w5) := lib_hid (Below.trans HG.out (hb5.mono hq))
  have HB5 := lib_hid (HBs.out.grows HG5.out)
  have HQ5 : Hid (Blk w5 q 23 (e1.map b8).toArray) := by rw [Hec.out]; exact lib_hid hB5
  clear hB5 hb5 hg5 Hz HG HEa Hec HEn HC0
  go_upto_region 1 with fail
  have hj16 : (Try.prog.info? 23).map (·.size) = some (cv.map b8).length := by rw [Try.size16, List.length_map, cvl.out]
  have hsq : Hid (∀ W, Sem.run Try.prog (Instr.sliceAt 23 (.pointer (some ⟨q, 0, none⟩)) none none none) W = .ok (.slice (some ⟨q, 0, none⟩) 16 16) W) := fun W => slice_all16 q W
  have HI0 : FillI w5 s g nx cv q LV a 0 w5.drew := ⟨(Keeps.refl _ _).drew, HB5.out.drew⟩
  clear HNx
  apply wp_region_monoJ (fun _ _ => True) (fun _ => trivial) (ChainJ [10, 13] (fun m W => FillI w5 s g nx cv q LV a m W)) #[0, 0, 0, 4, 12, 28, 60, 0, 125, 381, 893, 2047, 4095, 8191] 14 ((.is _, []) :: (.is _, []) :: (.is _, []) :: (.is _, []) :: (.is _, []) :: (.is (.agg (nx.map b8).toArray), []) :: (.is (.agg (cv.map b8).toArray), []) :: (.is _, []) :: (.is _, []) :: (.is _, []) :: (.is undef, []) :: (.is _, []) :: (.is _, []) :: (.is undef, []) :: []) (by kernel_rfl) (chain_start (HI0)) (by kernel_rfl)
  apply MonoJ.is0
  · kernel_rfl
  · intro L W hLk hsh hah hJ
    have hJ2 := lib_hid (chain_pure (k := 0) (w' := W) (by decide) (fun _ h => h) hJ)
    clear hJ hsh hah
    go_wp2
    refine ⟨rfl, rfl, ⟨trivial, hJ2.out⟩, ?_⟩
    unfold Oper.valAt
    go_simp
    rfl
  intro k1 a1 hk1 ha1
  simp only [Nat.reduceAdd] at hk1
  simp only [Act.put, List.setIfInBounds_toArray, List.set_cons_succ, List.set_cons_zero] at ha1
  subst hk1 ha1
  apply MonoJ.is0
  · kernel_rfl
  · intro L W hLk hsh hah hJ
    have hJ2 := lib_hid (chain_pure (k := 1) (w' := W) (by decide) (fun _ h => h) hJ)
    clear hJ hsh hah
    go_wp2
    refine ⟨rfl, rfl, ⟨trivial, hJ2.out⟩, ?_⟩
    unfold Oper.valAt
    go_simp
    rfl
  intro k1 a1 hk1 ha1
  simp only [Nat.reduceAdd] at hk1
  simp only [Act.put, List.setIfInBounds_toArray, List.set_cons_succ, List.set_cons_zero] at ha1
  subst hk1 ha1
  apply MonoJ.is0
  · kernel_rfl
  · intro L W hLk hsh hah hJ
    have hJ2 := lib_hid (chain_pure (k := 2) (w' := W) (by decide) (fun _ h => h) hJ)
    clear hJ hsh hah
    go_wp2
    refine ⟨rfl, rfl, ⟨trivial, hJ2.out⟩, ?_⟩
    unfold Oper.valAt
    go_simp
    rfl
  intro k1 a1 hk1 ha1
  simp only [Nat.reduceAdd] at hk1
  simp only [Act.put, List.setIfInBounds_toArray, List.set_cons_succ, List.set_cons_zero] at ha1
  subst hk1 ha1
  apply MonoJ.is0
  · kernel_rfl
  · intro L W hLk hsh hah hJ
    have hJ2 := lib_hid (chain_pure (k := 3) (w' := W) (by decide) (fun _ h => h) hJ)
    clear hJ hsh hah
    go_wp2
    refine ⟨rfl, rfl, ⟨trivial, hJ2.out⟩, ?_⟩
    unfold Oper.valAt
    go_simp
    rfl
  intro k1 a1 hk1 ha1
  simp only [Nat.reduceAdd] at hk1
  simp only [Act.put, List.setIfInBounds_toArray, List.set_cons_succ, List.set_cons_zero] at ha1
  subst hk1 ha1
  apply MonoJ.is0
  · kernel_rfl
  · intro L W hLk hsh hah hJ
    have hJ2 := lib_hid (chain_pure (k := 4) (w' := W) (by decide) (fun _ h => h) hJ)
    clear hJ hsh hah
    go_wp2
    refine ⟨rfl, rfl, ⟨trivial, hJ2.out⟩, ?_⟩
    unfold Oper.valAt
    go_simp
    rfl
  intro k1 a1 hk1 ha1
  simp only [Nat.reduceAdd] at hk1
  simp only [Act.put, List.setIfInBounds_toArray, List.set_cons_succ, List.set_cons_zero] at ha1
  subst hk1 ha1
  apply MonoJ.is0
  · kernel_rfl
  · intro L W hLk hsh hah hJ
    have hI := chain_none (k := 10) rfl (shut_off (i := 5) (k := 10) hsh (by decide) (by decide) hLk (by decide)) hJ
    have hJ2 := lib_hid (chain_pure (k := 5) (w' := W) (by decide) (fun _ h => h) hJ)
    have hx1 := ctrV_nx Hxl.out hI.2
    clear hJ hsh hah
    go_wp2_with (refine wpList_load_part (by kernel_rfl) _ _ rfl ⟨s, 1, none⟩ rfl 16 16 _ _ hx1 Try.underlying23 rfl Try.size16 ?_)
    first | exact ⟨rfl, rfl, ⟨trivial, hJ2.out⟩, rfl⟩ | exact ⟨rfl, rfl, hJ2.out, rfl⟩
  intro k1 a1 hk1 ha1
  simp only [Nat.reduceAdd] at hk1
  simp only [Act.put, List.setIfInBounds_toArray, List.set_cons_succ, List.set_cons_zero] at ha1
  subst hk1 ha1
  apply MonoJ.is0
  · kernel_rfl
  · intro L W hLk hsh hah hJ
    have HJ := lib_hid hJ
    clear hJ hsh hah
    go_wp2_with fail
    refine (HCo.out W).mono ?_
    rintro e w1 ⟨rfl, hg1⟩
    have hJ2 := lib_hid (chain_pure (k := 6) (w' := w1) (by decide) (fun _ h => FillI.grows h hg1) HJ.out)
    go_wp2
    first | exact ⟨rfl, rfl, ⟨trivial, hJ2.out⟩, rfl⟩ | exact ⟨rfl, rfl, hJ2.out, rfl⟩
  intro k1 a1 hk1 ha1
  simp only [Nat.reduceAdd] at hk1
  simp only [Act.put, List.setIfInBounds_toArray, List.set_cons_succ, List.set_cons_zero] at ha1
  subst hk1 ha1
  apply MonoJ.is0
  · kernel_rfl
  · intro L W hLk hsh hah hJ
    have hsq1 := hsq.out W
    have hJ2 := lib_hid (chain_pure (k := 7) (w' := W) (by decide) (fun _ h => h) hJ)
    clear hJ hsh hah
    go_wp2
    refine ⟨rfl, rfl, ⟨trivial, hJ2.out⟩, ?_⟩
    unfold Oper.valAt
    go_simp
    rfl
  intro k1 a1 hk1 ha1
  simp only [Nat.reduceAdd] at hk1
  simp only [Act.put, List.setIfInBounds_toArray, List.set_cons_succ, List.set_cons_zero] at ha1
  subst hk1 ha1
  apply MonoJ.is0
  · kernel_rfl
  · intro L W hLk hsh hah hJ
    have hJ2 := lib_hid (chain_pure (k := 8) (w' := W) (by decide) (fun _ h => h) hJ)
    clear hJ hsh hah
    go_wp2
    refine ⟨rfl, rfl, ⟨trivial, hJ2.out⟩, ?_⟩
    unfold Oper.valAt
    go_simp
    rfl
  intro k1 a1 hk1 ha1
  simp only [Nat.reduceAdd] at hk1
  simp only [Act.put, List.setIfInBounds_toArray, List.set_cons_succ, List.set_cons_zero] at ha1
  subst hk1 ha1
  apply MonoJ.is0
  · kernel_rfl
  · intro L W hLk hsh hah hJ
    have hJ2 := lib_hid (chain_pure (k := 9) (w' := W) (by decide) (fun _ h => h) hJ)
    clear hJ hsh hah
    go_wp2
    refine ⟨rfl, rfl, ⟨trivial, hJ2.out⟩, ?_⟩
    unfold Oper.valAt
    go_simp
    rfl
  intro k1 a1 hk1 ha1
  simp only [Nat.reduceAdd] at hk1
  simp only [Act.put, List.setIfInBounds_toArray, List.set_cons_succ, List.set_cons_zero] at ha1
  subst hk1 ha1
  apply MonoJ.is0
  · kernel_rfl
  · intro L W hLk hsh hah hJ
    obtain ⟨hI, hLs⟩ := chain_at (i := 0) (k := 10) rfl hLk (fun j h => by cases h) hJ
    clear hJ hsh hah
    have HI := lib_hid hI
    have hB := lib_hid (show Blk W s 93 (ctrV g nx LV a).toList.toArray from hI.2)
    clear hI
    have hend : Hid (∀ w2, (fun m W => FillI w5 s g nx cv q LV a m W) 1 w2 → ChainJ [10, 13] (fun m W => FillI w5 s g nx cv q LV a m W) (setL L 10) w2) := fun w2 hw => chain_step (i := 0) (k := 10) rfl (by intro j h; rcases j with _ | _ | _ | _ | _ | _ <;> simp at h <;> omega) hLs hw
    clear hLs hLk
    go_wp2_with (refine wpList_store_part (by kernel_rfl) _ _ _ rfl s 1 (cv.map b8) rfl rfl 93 _ hB.out hj16 (by rw [List.length_map, cvl.out, Array.length_toList, ctrV_size _ _ _ _ Hxl.out]; omega) (b8_one cv) s W (Below.refl _ _) (Nat.le_refl _) ?_; intro w4 hB4 hb4 hg4)
    first | refine ⟨rfl, rfl, hend.out _ ?_, ?_⟩ | refine ⟨rfl, rfl, ⟨trivial, hend.out _ ?_⟩, ?_⟩
    · refine ⟨HI.out.1.trans (keeps_grown hg4) (fun i e _ => (Option.some.inj e).symm), ?_⟩
      rw [ctrV_next _ _ _ _ _ Hxl.out cvl.out] at hB4
      exact hB4
    · rfl
  intro k1 a1 hk1 ha1
  simp only [Nat.reduceAdd] at hk1
  simp only [Act.put, List.setIfInBounds_toArray, List.set_cons_succ, List.set_cons_zero] at ha1
  subst hk1 ha1
  apply MonoJ.is0
  · kernel_rfl
  · intro L W hLk hsh hah hJ
    have hJ2 := lib_hid (chain_pure (k := 11) (w' := W) (by decide) (fun _ h => h) hJ)
    clear hJ hsh hah
    go_wp2
    refine ⟨rfl, rfl, ⟨trivial, hJ2.out⟩, ?_⟩
    unfold Oper.valAt
    go_simp
    rfl
  intro k1 a1 hk1 ha1
  simp only [Nat.reduceAdd] at hk1
  simp only [Act.put, List.setIfInBounds_toArray, List.set_cons_succ, List.set_cons_zero] at ha1
  subst hk1 ha1
  apply MonoJ.is0
  · kernel_rfl
  · intro L W hLk hsh hah hJ
    have hJ2 := lib_hid (chain_pure (k := 12) (w' := W) (by decide) (fun _ h => h) hJ)
    clear hJ hsh hah
    go_wp2
    refine ⟨rfl, rfl, ⟨trivial, hJ2.out⟩, ?_⟩
    unfold Oper.valAt
    go_simp
    rfl
  intro k1 a1 hk1 ha1
  simp only [Nat.reduceAdd] at hk1
  simp only [Act.put, List.setIfInBounds_toArray, List.set_cons_succ, List.set_cons_zero] at ha1
  subst hk1 ha1
  apply MonoJ.is0
  · kernel_rfl
  · intro L W hLk hsh hah hJ
    obtain ⟨hI, hLs⟩ := chain_at (i := 1) (k := 13) rfl hLk (fun j h => by cases h; exact ⟨10, rfl, hah 10 (by omega) (by kernel_rfl)⟩) hJ
    clear hJ hsh hah
    have HI := lib_hid hI
    have c17 := hI.2.cell 17
    have f17 := hI.2.frozen 17
    rw [show (if (1 : Nat) = 0 then ctrV g nx LV a else if (1 : Nat) = 1 then ctrV g cv LV a else ctrV g cv (.slice (some ⟨q, 0, none⟩) 16 16) a) = ctrV g cv LV a from rfl, ctrV_c17 _ _ _ _ cvl.out] at c17
    clear hI
    have hend : Hid (∀ w2, (fun m W => FillI w5 s g nx cv q LV a m W) 2 w2 → ChainJ [10, 13] (fun m W => FillI w5 s g nx cv q LV a m W) (setL L 13) w2) := fun w2 hw => chain_step (i := 1) (k := 13) rfl (by intro j h; rcases j with _ | _ | _ | _ | _ | _ <;> simp at h <;> omega) hLs hw
    clear hLs hLk
    go_wp2
    first | refine ⟨rfl, rfl, hend.out _ ?_, ?_⟩ | refine ⟨rfl, rfl, ⟨trivial, hend.out _ ?_⟩, ?_⟩
    · refine ⟨HI.out.1.trans (keeps_set W ⟨s, 17, none⟩ _) (fun _ h _ => h), ?_⟩
      have := HI.out.2.set 17 (.slice (some ⟨q, 0, none⟩) 16 16)
      rw [show (if (1 : Nat) = 0 then ctrV g nx LV a else if (1 : Nat) = 1 then ctrV g cv LV a else ctrV g cv (.slice (some ⟨q, 0, none⟩) 16 16) a) = ctrV g cv LV a from rfl, ctrV_left _ _ _ _ _ cvl.out] at this
      exact this
    · rfl
  intro k1 a1 hk1 ha1
  simp only [Nat.reduceAdd] at hk1
  simp only [Act.put, List.setIfInBounds_toArray, List.set_cons_succ, List.set_cons_zero] at ha1
  subst hk1 ha1
  refine MonoJ.done ?_
  intro wm hJ
  obtain ⟨mj, hm, hI⟩ := chain_end (by decide) hJ
  clear hJ
  simp only [allF, List.drop_succ_cons, List.drop_nil]
  have hm2 : 2 ≤ mj := hm
  obtain ⟨hk7, hb7⟩ := hI
  rw [if_neg (by omega), if_neg (by omega)] at hb7
  have HB8 := lib_hid hb7
  have HQ8 := lib_hid (HQ5.out.keeps hk7 (by omega))
  have HKf := lib_hid ((HG5.out.keeps (fun k => k = s)).trans hk7 (fun _ h _ => h))
  clear hk7 hb7 hsq hj16 HCo HI0
  go_wp2
  go_end0
  exact ⟨q, rfl, hq, HKf.out, HB8.out, HQ8.out⟩
end Go.Proofs.Ythcmdjaccjghjaa
