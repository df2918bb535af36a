/-
  The law LanesFour.
-/
import Derived.Test.YtnlffaglmcddkaaDoorLAwake
import Derived.Deep.Cut
namespace Go.Proofs.YtnlffaglmcddkaaDoor
open Go Go.RowKit
set_option linter.unusedSimpArgs false
set_option linter.unusedVariables false


set_option maxRecDepth 100000 in
set_option maxHeartbeats 4000000 in
theorem walk_LanesFour {tK : TypeId} (many : UInt8) (A : Option Addr) (n c : Nat) (bs : List UInt8) (w : World) (HK : Hid (Blk w 0 tK (shaK.map b32).toArray)) (hs : SB w A n c bs) :
    Calls Tryd.prog 8 #[.int .u8 (many.toNat : Int), .slice A n c] w fun e w' => e = .returned (.bool true) ∧ Grows w w' := by
  have HS := lib_hid hs
  have hcap := hs.max
  unfold maxLen at hcap
  have hnc := hs.cap
  have hlen := lib_hid hs.len
  obtain ⟨mn, hmn, Hmn⟩ : ∃ mn : Nat, (many.toNat : Int) = (mn : Int) ∧ Hid (mn < 256) := ⟨_, rfl, many.toNat_lt⟩
  rw [hmn]
  have hmnb : (mn : Int) < 256 := by have := Hmn.out; omega
  obtain ⟨q, hq1, hq2, Hq⟩ : ∃ q : Nat, (mn : Int) % 50 = (q : Int) ∧ (mn : Int).tmod 50 = (q : Int) ∧ Hid (q < 50) := ⟨mn % 50, by omega, by rw [Int.tmod_eq_emod_of_nonneg (by omega)]; omega, by unfold Hid; omega⟩
  clear hmn hs
  by_cases hbig : 55 < n
  · have hb : (55 : Int) < n := by omega
    go_enter Tryd.func8, Tryd.ntmps8
    go_wp2
    go_ret
    exact ⟨rfl, Grows.refl _⟩
  · have hb : ¬ (55 : Int) < n := by omega
    have Hn55 := lib_hid (Nat.not_lt.1 hbig)
    obtain ⟨sm, Hsm⟩ : ∃ sm, Hid (sumS shaK bs = sm) := ⟨_, lib_hid rfl⟩
    have hsml : Hid (sm.length = 32) := by unfold Hid; rw [← Hsm.out]; exact sumS_len _ _
    obtain ⟨sv, Hsv⟩ : ∃ sv : Array Value, Hid ((sm.map b8).toArray = sv) := ⟨_, lib_hid rfl⟩
    have HSh : Hid (∀ W, Grows w W → Calls Tryd.prog 17 #[.slice A n c] W fun e w' => e = .returned (.agg sv) ∧ Grows W w') := fun W hW => by
      have h := shaSum_any shaK A n c bs W shaK_len (lib_hid (HK.out.grows hW)) (HS.out.grows hW) (by have := Hn55.out; omega)
      rw [Hsm.out, Hsv.out] at h
      exact h
    have HE : Hid (∀ W : World, (Op.equalIn 10000 32 (.agg sv) (.agg sv)).run Tryd.prog W = .ok true W) := fun W => by
      rw [← Hsv.out, run_equalIn_bytes W 9998 32 5 32 sm sm hsml.out hsml.out Tryd.underlying32 Tryd.underlying5 Tryd.sizeByte, beq_self_eq_true]
    have HAw : Hid (∀ W, Grows w W → Calls Tryd.prog 13 #[] W fun e w' => e = .returned (.bool true) ∧ Grows W w') := fun W hW => awake13_any W (lib_hid (HK.out.grows hW))
    have Hone : Hid (∀ m, blkL (lensL (List.replicate q bs)) m = 1) := fun m => by
      rw [blkL_lens, List.getD_eq_getElem?_getD, List.getElem?_replicate]
      split
      · have := hlen.out
        have := Hn55.out
        rw [Option.getD_some]
        unfold blkN
        omega
      · rfl
    have HSu : Hid (∀ W (C : Option Addr) (e : Nat), Grows w W → RowsB W C q e (List.replicate q bs) → Calls Tryd.prog 10 #[.slice C q e] W fun ee w' => ∃ go, ee = .returned (.tuple #[.slice (some ⟨go, 0, none⟩) q q, .int .i64 (((q + 3) / 4 : Nat) : Int)]) ∧ Grows W w' ∧ Blk w' go 32 ((flatB (List.replicate q sm)).map b8).toArray) := fun W C e hW hr => by
      have h := sums_any shaK shaK_len (List.replicate q bs) C q e W (lib_hid (HK.out.grows hW)) hr (by have := Hq.out; omega) (fun b hb => by rw [(List.mem_replicate.1 hb).2, hlen.out]; have := Hn55.out; omega)
      rw [max_one _ Hone.out q, List.map_replicate, Hsm.out] at h
      refine h.mono ?_
      rintro ee w' ⟨go, q1, q2, _, q4⟩
      exact ⟨go, q1, q2, q4⟩
    have hq50 := Hq.out
    have hqi : (q : Int) < 50 := by omega
    obtain ⟨s4, hs4, hs42, Hs4⟩ : ∃ s4 : Nat, ((q : Int) + 3) / 4 = (s4 : Int) ∧ ((q : Int) + 3).tdiv 4 = (s4 : Int) ∧ Hid ((q + 3) / 4 = s4) := ⟨(q + 3) / 4, by omega, by rw [Int.tdiv_eq_ediv_of_nonneg (by omega)]; omega, lib_hid rfl⟩
    rw [Hs4.out] at HSu
    have hs4b : (s4 : Int) ≤ 100 := by have := Hs4.out; omega
    clear hbig HK Hone
    go_enter Tryd.func8, Tryd.ntmps8
    go_upto_region 4 with fail
    clear hb hq1 hq2 hmnb
    go_wp2
    go_loopw [7, 6] (fun i o wr => ∃ (k : Nat) (C : Option Addr) (e : Nat), k ≤ q ∧ i = .int .i64 k ∧ o = .slice C k e ∧ Grows w wr ∧ Hid (OwnAt wr w.heap.size C k e (List.replicate k (.slice A n c)))) (fun i _ _ => q - (intOf i).toNat)
    case atStart => exact ⟨0, none, 0, Nat.zero_le _, rfl, rfl, Grows.refl _, lib_hid (OwnAt.nil _ _)⟩
    case round =>
      obtain ⟨k, C, e, hk, rfl, rfl, hgr, HO⟩ := hrel
      by_cases hlt : k < q
      · have hki : (k : Int) < q := by omega
        have HOa : Hid (OwnAt (wr.alloc (.cells #[.slice A n c] 28)) w.heap.size C k e (List.replicate k (.slice A n c))) := lib_hid (HO.out.grows ((Grows.refl _).alloc _))
        have HRw : Hid (Row (wr.alloc (.cells #[.slice A n c] 28)) (some ⟨wr.heap.size, 0, none⟩) 1 1 [.slice A n c]) := lib_hid ((Blk.new wr 28 #[.slice A n c]).row (o := 0) (n := 1) (c := 1) (Nat.le_refl _) (by simp) (by decide))
        have hz2 : w.heap.size ≤ (wr.alloc (.cells #[.slice A n c] 28)).heap.size := by have := hgr.le; simp; omega
        have HA : Hid (∀ b, blkOf C = some b → w.heap.size ≤ b) := fun b hb => (blkOf_sub HOa.out b hb).1
        clear hlt
        go_wp2_with (at_builtin; refine wpList_append_at rfl _ _ 22 22 rfl w.heap.size 28 (.slice none 0 0) 24 Tryd.underlying22 Tryd.infoT rfl C k e _ rfl HOa.out (.slice (some ⟨wr.heap.size, 0, none⟩) 1 1) rfl 1 [.slice A n c] (Row.src HRw.out Tryd.underlying22 (by intro u hu; rw [List.mem_singleton.1 hu]; rfl)) (by omega) (by omega) hz2 ?_; intro C4 c4 w4 hO4 hG4 hl4)
        have hgr4 : Grows w w4 := (hgr.alloc _).grown hG4 (fun b hb => HA.out b hb)
        have HO4 : Hid (OwnAt w4 w.heap.size C4 (k + 1) c4 (List.replicate (k + 1) (.slice A n c))) := by unfold Hid; rw [List.replicate_succ']; exact hO4
        clear hO4 hG4 hl4 HOa HRw HO hz2
        go_roundw
        case rel => exact ⟨k + 1, C4, c4, by omega, by go_num, rfl, hgr4, HO4⟩
        case measure => simp [intOf]; omega
      · have hki : ¬ (k : Int) < q := by omega
        obtain rfl : k = q := by omega
        have hRB : RowsB wr C k e (List.replicate k bs) := by
          have h := HO.out.row
          refine ⟨by simp, h.2.1, h.2.2.1, h.2.2.2.1, fun hp => ?_⟩
          obtain ⟨b, off, e, hb, hc⟩ := h.2.2.2.2 hp
          refine ⟨b, off, e, hb, fun i hi => ⟨A, c, ?_, ?_⟩⟩
          · rw [hc i hi, List.getElem?_replicate, if_pos hi, List.getD_eq_getElem?_getD, List.getElem?_replicate, if_pos hi, Option.getD_some, hlen.out]
          · rw [List.getD_eq_getElem?_getD, List.getElem?_replicate, if_pos hi, Option.getD_some, hlen.out]
            exact HS.out.grows hgr
        have HC := lib_hid (HSu.out wr C e hgr hRB)
        have Hgr := lib_hid hgr
        clear hRB HO hgr hlt hk
        go_wp2_with fail
        refine HC.out.mono ?_
        rintro ee w2 ⟨go, rfl, hg2, hb2⟩
        have Hb2 := lib_hid hb2
        have Hg2 := lib_hid (Hgr.out.trans hg2)
        clear hb2 hg2 HC hki
        go_wp2
        go_loopw [10] (fun i wr => ∃ j : Nat, j ≤ k ∧ i = .int .i64 j ∧ Grows w2 wr) (fun i _ => k - (intOf i).toNat)
        case atStart => exact ⟨0, Nat.zero_le _, rfl, Grows.refl _⟩
        case round =>
          obtain ⟨j, hj, rfl, hgr⟩ := hrel
          by_cases hlt : j < k
          · have hji : (j : Int) < k := by omega
            have HLd : Hid (∀ W, Grows wr W → ∀ p u, (sm.map b8)[p]? = some u → W.cell? ((⟨go, j * 32, none⟩ : Addr).add p) = some u) := fun W hW => out_load (Hb2.out.grows (hgr.trans hW)) (fun o ho => by rw [(List.mem_replicate.1 ho).2]; exact hsml.out) j sm (by rw [List.getElem?_replicate, if_pos hlt]) W (Grows.refl _)
            have HSh2 : Hid (∀ W, Grows wr W → Calls Tryd.prog 17 #[.slice A n c] W fun e w' => e = .returned (.agg sv) ∧ Grows W w') := fun W hW => HSh.out W ((Hg2.out.trans hgr).trans hW)
            have Hgr := lib_hid hgr
            clear hgr hlt
            go_upto_region 13 with fail
            apply wp_region_mono 7 ((.is _, []) :: (.is _, []) :: (.is _, []) :: (.is (.agg sv), []) :: (.is _, []) :: (.is (.agg sv), []) :: (.is _, []) :: []) (by kernel_rfl) (by kernel_rfl)
            iterate 3
              apply Mono.is0
              · kernel_rfl
              · intro W hW
                go_wp2
                refine ⟨rfl, rfl, Grows.refl _, ?_⟩
                unfold Oper.valAt
                go_simp
                rfl
              intro k1 a1 hk1 ha1
              simp only [Nat.reduceAdd] at hk1
              simp only [Act.put, List.setIfInBounds_toArray, List.set_cons_succ, List.set_cons_zero] at ha1
              subst hk1 ha1
            apply Mono.is0
            · kernel_rfl
            · intro W hW 
              go_wp2_with (refine wpList_load_at (by kernel_rfl) _ _ rfl ⟨go, j * 32, none⟩ rfl (sm.map b8) _ Tryd.underlying32 rfl (by rw [Tryd.size32O, List.length_map, hsml.out]) (HLd.out W hW) ?_)
              rw [Hsv.out]
              exact ⟨rfl, rfl, Grows.refl _, rfl⟩
            intro k1 a1 hk1 ha1
            simp only [Nat.reduceAdd] at hk1
            simp only [Act.put, List.setIfInBounds_toArray, List.set_cons_succ, List.set_cons_zero] at ha1
            subst hk1 ha1
            apply Mono.is0
            · kernel_rfl
            · intro W hW
              go_wp2
              refine ⟨rfl, rfl, Grows.refl _, ?_⟩
              unfold Oper.valAt
              go_simp
              rfl
            intro k1 a1 hk1 ha1
            simp only [Nat.reduceAdd] at hk1
            simp only [Act.put, List.setIfInBounds_toArray, List.set_cons_succ, List.set_cons_zero] at ha1
            subst hk1 ha1
            apply Mono.is0
            · kernel_rfl
            · intro W hW 
              go_wp2_with fail
              refine (HSh2.out W hW).mono ?_
              rintro e1 w1 ⟨rfl, hg1⟩
              go_wp2
              exact ⟨rfl, rfl, hg1, rfl⟩
            intro k1 a1 hk1 ha1
            simp only [Nat.reduceAdd] at hk1
            simp only [Act.put, List.setIfInBounds_toArray, List.set_cons_succ, List.set_cons_zero] at ha1
            subst hk1 ha1
            apply Mono.is0
            · kernel_rfl
            · intro W hW
              have he := HE.out W
              go_wp2
              refine ⟨rfl, rfl, Grows.refl _, ?_⟩
              unfold Oper.valAt
              go_simp
              rfl
            intro k1 a1 hk1 ha1
            simp only [Nat.reduceAdd] at hk1
            simp only [Act.put, List.setIfInBounds_toArray, List.set_cons_succ, List.set_cons_zero] at ha1
            subst hk1 ha1
            refine Mono.done ?_
            intro wm hgm
            simp only [allF, List.drop_succ_cons, List.drop_nil]
            have hgr := Hgr.out.trans hgm
            clear HLd HSh2 hgm
            go_wp2
            go_roundw
            case rel => exact ⟨j + 1, by omega, by go_num, hgr⟩
            case measure => simp [intOf]; omega
          · have hji : ¬ (j : Int) < k := by omega
            have hg4 := Hg2.out.trans hgr
            clear hj hlt
            go_wp2_with fail
            refine (HAw.out wr hg4).mono ?_
            rintro ee w5 ⟨rfl, hg5⟩
            have hg6 := hg4.trans hg5
            go_wp2
            go_ret
            exact ⟨rfl, hg6⟩
end Go.Proofs.YtnlffaglmcddkaaDoor
