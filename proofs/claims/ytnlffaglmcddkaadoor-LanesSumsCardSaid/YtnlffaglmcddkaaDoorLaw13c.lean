/-
  The law LanesSums.
-/
import Derived.Test.YtnlffaglmcddkaaDoorLAwake
import Derived.Test.YtnlffaglmcddkaaDoorLRef2
import Derived.Test.YtnlffaglmcddkaaDoorSha13
import Derived.Deep.Cut
namespace Go.Proofs.YtnlffaglmcddkaaDoor
open Go Go.RowKit
set_option linter.unusedSimpArgs false
set_option linter.unusedVariables false


set_option maxRecDepth 100000 in
set_option maxHeartbeats 4000000 in
theorem walk_LanesSums {tK : TypeId} (A : Option Addr) (n c : Nat) (ls : List (List UInt8)) (w : World) (HK : Hid (Blk w 0 tK (shaK.map b32).toArray)) (hs : RowsB w A n c ls) :
    Calls Tryd.prog 3 #[.slice A n c] w fun e w' => e = .returned (.bool true) ∧ Grows w w' := by
  have HRs0 : Hid (∀ W, Grows w W → ∀ (Ai : Option Addr) (m ci : Nat) (bs : List UInt8), SB W Ai m ci bs → m ≤ 400 → Calls Tryd.prog 12 #[.slice Ai m ci] W (NewB 5 W (sumS shaK bs))) := fun W hW Ai m ci bs h hm => refSumS_any bs Ai m ci W h (by omega)
  have HS := lib_hid hs
  have hll := lib_hid hs.1
  have hcap := hs.2.2.1
  unfold maxLen at hcap
  have hnc := hs.2.1
  have HLi := lib_hid (light_any ls A n c w hs)
  clear hs
  by_cases hlight : lightB ls = true
  rotate_left
  · have hno : lightB ls = false := by simpa using hlight
    rw [hno] at HLi
    clear hlight
    go_enter Tryd.func3, Tryd.ntmps3
    go_wp2_with fail
    refine HLi.out.mono ?_
    rintro e w1 ⟨rfl, rfl⟩
    go_wp2
    go_ret
    exact ⟨rfl, Grows.refl _⟩
  obtain ⟨h20, h400⟩ := lightB_yes hlight
  rw [hlight] at HLi
  have Hb : Hid (n ≤ 100) := by unfold Hid; have := hll.out; omega
  have hnm : (n : Int) ≤ 100 := by have := Hb.out; omega
  have H4 := lib_hid h400
  have HSu := lib_hid (sums_any shaK shaK_len ls A n c w HK HS.out Hb.out h400)
  obtain ⟨T, HT⟩ : ∃ T, Hid (maxF (blkL (lensL ls)) n = T) := ⟨_, lib_hid rfl⟩
  have hTb : (T : Int) ≤ 100000 := by
    have := maxF_bound (blkL (lensL ls)) 80 (blkL_le (lensL ls) (lens_le ls h400)) n
    rw [HT.out] at this
    have := Hb.out
    omega
  rw [HT.out] at HSu
  have HAw : Hid (∀ W, Grows w W → Calls Tryd.prog 13 #[] W fun e w' => e = .returned (.bool true) ∧ Grows W w') := fun W hW => awake13_any W (lib_hid (HK.out.grows hW))
  have Hat : Hid (∀ W, Grows w W → ∀ k, k < n → ∃ b off Ai ci, A = some ⟨b, off, none⟩ ∧ W.cell? ⟨b, off + k, none⟩ = some (.slice Ai (ls.getD k []).length ci) ∧ SB W Ai (ls.getD k []).length ci (ls.getD k []) ∧ b < W.heap.size) := fun W hW k hk => by
    obtain ⟨b, off, e, hb, hc⟩ := HS.out.2.2.2.2 (by omega)
    obtain ⟨Ai, ci, h1, h2⟩ := hc k hk
    exact ⟨b, off, Ai, ci, e, (hW.cell (p := ⟨b, off + k, none⟩) hb).trans h1, h2.grows hW, hW.lt hb⟩
  have Hlen4 : Hid (∀ k, k < n → (ls.getD k []).length ≤ 400) := fun k hk => by
    have := hll.out
    rw [List.getD_eq_getElem?_getD, List.getElem?_eq_getElem (by omega)]
    exact H4.out _ (List.getElem_mem _)
  clear hlight h20 h400 HS HK
  go_enter Tryd.func3, Tryd.ntmps3
  go_wp2_with fail
  refine HLi.out.mono ?_
  rintro e w1 ⟨rfl, rfl⟩
  go_wp2_with fail
  refine HSu.out.mono ?_
  rintro e w1 ⟨go, rfl, hg1, _, hbo⟩
  have Hbo := lib_hid hbo
  have Hg1 := lib_hid hg1
  clear hbo hg1 HSu HLi
  have Hln := lib_hid (lens_le ls H4.out)
  go_wp2
  go_loopw [6, 5] (fun i o wr => ∃ (k : Nat) (C : Option Addr) (e : Nat), k ≤ n ∧ i = .int .i64 k ∧ o = .slice C k e ∧ Grows w1 wr ∧ Hid (OwnAt wr w1.heap.size C k e ((lensL (ls.take k)).map iV))) (fun i _ _ => n - (intOf i).toNat)
  case atStart => exact ⟨0, none, 0, Nat.zero_le _, rfl, rfl, Grows.refl _, lib_hid (OwnAt.nil _ _)⟩
  case round =>
    obtain ⟨k, C, e, hk, rfl, rfl, hgr, HO⟩ := hrel
    by_cases hlt : k < n
    · have hki : (k : Int) < n := by omega
      obtain ⟨b, off, Ai, ci, rfl, c1, s1, hbw⟩ := Hat.out wr (Hg1.out.trans hgr) k hlt
      have hm4 := Hlen4.out k hlt
      obtain ⟨m, Hm⟩ : ∃ m, Hid ((ls.getD k []).length = m) := ⟨_, lib_hid rfl⟩
      rw [Hm.out] at c1 hm4
      have Hst : Hid (lensL (ls.take (k + 1)) = lensL (ls.take k) ++ [(m : Int)]) := by
        have h := hll.out
        have hm := Hm.out
        rw [List.getD_eq_getElem?_getD, List.getElem?_eq_getElem (by omega), Option.getD_some] at hm
        unfold Hid lensL
        rw [List.take_add_one, List.getElem?_eq_getElem (by omega), List.map_append]
        simp [hm]
      have HOa : Hid (OwnAt (wr.alloc (.cells #[iV (m : Int)] 3)) w1.heap.size C k e ((lensL (ls.take k)).map iV)) := lib_hid (HO.out.grows ((Grows.refl _).alloc _))
      have HRw : Hid (Row (wr.alloc (.cells #[iV (m : Int)] 3)) (some ⟨wr.heap.size, 0, none⟩) 1 1 [iV (m : Int)]) := lib_hid ((Blk.new wr 3 #[iV (m : Int)]).row (o := 0) (n := 1) (c := 1) (Nat.le_refl _) (by simp) (by decide))
      have hz2 : w1.heap.size ≤ (wr.alloc (.cells #[iV (m : Int)] 3)).heap.size := by have := hgr.le; simp; omega
      have HA : Hid (∀ b, blkOf C = some b → w1.heap.size ≤ b) := fun b hb => (blkOf_sub HOa.out b hb).1
      clear s1 hbw hlt
      go_wp2_with (at_builtin; refine wpList_append_at rfl _ _ 27 27 rfl w1.heap.size 3 (.int .i64 0) 8 Tryd.underlying27 Tryd.infoInt rfl C k e _ rfl HOa.out (.slice (some ⟨wr.heap.size, 0, none⟩) 1 1) rfl 1 [iV (m : Int)] (Row.src HRw.out Tryd.underlying27 (iV_one [(m : Int)])) (by omega) (by omega) hz2 ?_; intro C4 c4 w4 hO4 hG4 hl4)
      have hgr4 : Grows w1 w4 := (hgr.alloc _).grown hG4 (fun b hb => HA.out b hb)
      have HO4 : Hid (OwnAt w4 w1.heap.size C4 (k + 1) c4 ((lensL (ls.take (k + 1))).map iV)) := by unfold Hid; rw [Hst.out, List.map_append]; exact hO4
      clear hO4 hG4 hl4 HOa HRw HO hz2 Hst c1
      go_roundw
      case rel => exact ⟨k + 1, C4, c4, by omega, by go_num, rfl, hgr4, HO4⟩
      case measure => simp [intOf]; omega
    · have hki : ¬ (k : Int) < n := by omega
      obtain rfl : k = n := by omega
      have hIR : IR wr C k e (lensL ls) := by
        have h := HO.out.row
        rw [List.take_of_length_le (by rw [hll.out]; exact Nat.le_refl _)] at h
        exact h
      have HE := lib_hid (ends_any (lensL ls) C k e wr hIR Hb.out Hln.out)
      rw [HT.out] at HE
      have Hg2 := lib_hid (Hg1.out.trans hgr)
      have Hbo2 := lib_hid (Hbo.out.grows hgr)
      clear hIR HO hgr Hbo Hg1 hlt hk
      go_wp2_with fail
      refine HE.out.mono ?_
      rintro e w3 ⟨E, ce, rfl, hg3, _⟩
      have Hg3 := lib_hid (Hg2.out.trans hg3)
      have Hbo3 := lib_hid (Hbo2.out.grows hg3)
      clear hg3 HE Hbo2 Hg2 hki
      go_wp2
      go_loopw [9] (fun i wr => ∃ j : Nat, j ≤ k ∧ i = .int .i64 j ∧ Grows w3 wr) (fun i _ => k - (intOf i).toNat)
      case atStart => exact ⟨0, Nat.zero_le _, rfl, Grows.refl _⟩
      case round =>
        obtain ⟨j, hj, rfl, hgr⟩ := hrel
        by_cases hlt : j < k
        · have hji : (j : Int) < k := by omega
          have hgw := Hg3.out.trans hgr
          obtain ⟨b, off, Ai, ci, rfl, c1, s1, hbw⟩ := Hat.out wr hgw j hlt
          have hm4 := Hlen4.out j hlt
          obtain ⟨bs, Hbs⟩ : ∃ bs, Hid (ls.getD j [] = bs) := ⟨_, lib_hid rfl⟩
          rw [Hbs.out] at c1 s1 hm4
          obtain ⟨m, Hm⟩ : ∃ m, Hid (bs.length = m) := ⟨_, lib_hid rfl⟩
          rw [Hm.out] at c1 s1 hm4
          obtain ⟨sm, Hsm⟩ : ∃ sm, Hid (sumS shaK bs = sm) := ⟨_, lib_hid rfl⟩
          have hsml : Hid (sm.length = 32) := by unfold Hid; rw [← Hsm.out]; exact sumS_len _ _
          have hel : (ls.map (sumS shaK))[j]? = some sm := by
            rw [List.getElem?_map, ← Hsm.out, ← Hbs.out, List.getD_eq_getElem?_getD, List.getElem?_eq_getElem (by rw [hll.out]; exact hlt)]
            rfl
          have HCv1 : Hid (∀ W, Grows wr W → (convert 28 9 (.slice (some ⟨go, j * 32, none⟩) 32 32)).run Tryd.prog W = .ok (.string ⟨sm.toArray⟩) W) := fun W hW => by
            have hx := out_load (Hbo3.out.grows (hgr.trans hW)) (fun o ho => by obtain ⟨b, _, rfl⟩ := List.mem_map.1 ho; exact sumS_len _ _) j sm hel W (Grows.refl _)
            refine run_string_SB Tryd.underlying28 Tryd.underlying5 Tryd.underlying9 ⟨by rw [List.length_map]; exact hsml.out, Nat.le_refl _, by decide, fun e => (by cases e), fun _ => ⟨go, j * 32, rfl, (Hbo3.out.grows (hgr.trans hW)).lt, fun q hq => ?_⟩⟩
            have h := hx q ((sm.map b8)[q]'(by rw [List.length_map, hsml.out]; exact hq)) (List.getElem?_eq_getElem _)
            rw [add_zero_spot] at h
            rw [h, List.getElem?_eq_getElem]
          have Hx2 : Hid (∀ W, Grows wr W → W.cell? ⟨b, off + j, none⟩ = some (.slice Ai m ci)) := fun W hW => (hW.cell (p := ⟨b, off + j, none⟩) hbw).trans c1
          have HRs : Hid (∀ W, Grows wr W → Calls Tryd.prog 12 #[.slice Ai m ci] W (NewB 5 W sm)) := fun W hW => by
            have h := HRs0.out W (hgw.trans hW) Ai m ci bs (s1.grows hW) hm4
            rw [Hsm.out] at h
            exact h
          have Hgr := lib_hid hgr
          clear c1 s1 hbw hel hgw hgr hlt
          go_upto_region 15 with fail
          apply wp_region_mono 12 ((.is _, []) :: (.is _, []) :: (.is _, []) :: (.is _, []) :: (.is _, []) :: (.is _, []) :: (.is _, []) :: (.is _, []) :: (.is _, []) :: (.pr (fun v W => ∃ A1 c1, v = .slice A1 32 c1 ∧ SB W A1 32 c1 sm), []) :: (.is (.string ⟨sm.toArray⟩), [9]) :: (.is _, []) :: []) (by kernel_rfl) (by kernel_rfl)
          iterate 4
            apply Mono.is0
            · kernel_rfl
            · intro W hW
              go_wp2
              refine ⟨rfl, rfl, Grows.refl _, ?_⟩
              unfold Oper.valAt
              go_simp
              rfl
            intro k1 a1 hk1 ha1
            simp only [Nat.reduceAdd] at hk1
            simp only [Act.put, List.setIfInBounds_toArray, List.set_cons_succ, List.set_cons_zero] at ha1
            subst hk1 ha1
          apply Mono.is0
          · kernel_rfl
          · intro W hW
            have cv := HCv1.out W hW
            go_wp2
            refine ⟨rfl, rfl, Grows.refl _, ?_⟩
            unfold Oper.valAt
            go_simp
            rfl
          intro k1 a1 hk1 ha1
          simp only [Nat.reduceAdd] at hk1
          simp only [Act.put, List.setIfInBounds_toArray, List.set_cons_succ, List.set_cons_zero] at ha1
          subst hk1 ha1
          iterate 3
            apply Mono.is0
            · kernel_rfl
            · intro W hW
              go_wp2
              refine ⟨rfl, rfl, Grows.refl _, ?_⟩
              unfold Oper.valAt
              go_simp
              rfl
            intro k1 a1 hk1 ha1
            simp only [Nat.reduceAdd] at hk1
            simp only [Act.put, List.setIfInBounds_toArray, List.set_cons_succ, List.set_cons_zero] at ha1
            subst hk1 ha1
          apply Mono.is0
          · kernel_rfl
          · intro W hW
            have q := Hx2.out W hW
            go_wp2
            refine ⟨rfl, rfl, Grows.refl _, ?_⟩
            unfold Oper.valAt
            go_simp
            rfl
          intro k1 a1 hk1 ha1
          simp only [Nat.reduceAdd] at hk1
          simp only [Act.put, List.setIfInBounds_toArray, List.set_cons_succ, List.set_cons_zero] at ha1
          subst hk1 ha1
          apply Mono.pr0
          · kernel_rfl
          · exact fun v W W' hW ⟨A1, c1, h1, h2⟩ => ⟨A1, c1, h1, h2.grows hW⟩
          · intro W hW 
            go_wp2_with fail
            refine (HRs.out W hW).mono ?_
            rintro e w1 ⟨A1, n1, c1, hn1, rfl, hg1, ho1⟩
            rw [hsml.out] at hn1
            have hn2 := hn1.out
            subst hn2
            go_wp2
            exact ⟨rfl, rfl, hg1, A1, c1, rfl, SB.own ho1⟩
          intro v9
          intro k1 a1 hk1 ha1
          simp only [Nat.reduceAdd] at hk1
          simp only [Act.put, List.setIfInBounds_toArray, List.set_cons_succ, List.set_cons_zero] at ha1
          subst hk1 ha1
          apply Mono.is1
          · kernel_rfl
          · intro W hW f0
            obtain ⟨A1, c1, rfl, s1⟩ := f0
            have cv := run_string_SB (P := Tryd.prog) Tryd.underlying28 Tryd.underlying5 Tryd.underlying9 s1
            clear s1
            go_wp2
            refine ⟨rfl, rfl, Grows.refl _, ?_⟩
            unfold Oper.valAt
            go_simp
          intro k1 a1 hk1 ha1
          simp only [Nat.reduceAdd] at hk1
          simp only [Act.put, List.setIfInBounds_toArray, List.set_cons_succ, List.set_cons_zero] at ha1
          subst hk1 ha1
          apply Mono.is0
          · kernel_rfl
          · intro W hW
            go_wp2
            refine ⟨rfl, rfl, Grows.refl _, ?_⟩
            unfold Oper.valAt
            go_simp
            rfl
          intro k1 a1 hk1 ha1
          simp only [Nat.reduceAdd] at hk1
          simp only [Act.put, List.setIfInBounds_toArray, List.set_cons_succ, List.set_cons_zero] at ha1
          subst hk1 ha1
          refine Mono.done ?_
          intro wm hgm
          simp only [allF, List.drop_succ_cons, List.drop_nil]
          intro g9
          have hgr := Hgr.out.trans hgm
          clear HCv1 Hx2 HRs hgm
          go_wp2
          go_roundw
          case rel => exact ⟨j + 1, by omega, by go_num, hgr⟩
          case measure => simp [intOf]; omega
        · have hji : ¬ (j : Int) < k := by omega
          have hg4 := Hg3.out.trans hgr
          go_wp2_with fail
          refine (HAw.out wr hg4).mono ?_
          rintro e w5 ⟨rfl, hg5⟩
          have hg6 := hg4.trans hg5
          go_wp2
          go_ret
          exact ⟨rfl, hg6⟩
end Go.Proofs.YtnlffaglmcddkaaDoor
