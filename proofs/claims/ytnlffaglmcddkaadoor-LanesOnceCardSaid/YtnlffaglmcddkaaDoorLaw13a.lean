/-
  The law LanesOrders.
-/
import Derived.Test.YtnlffaglmcddkaaDoorLAwake
import Derived.Test.YtnlffaglmcddkaaDoorLRef2
import Derived.Test.YtnlffaglmcddkaaDoorOpen2
import Derived.Deep.Cut
import Derived.ChangeSlices
namespace Go.Proofs.YtnlffaglmcddkaaDoor
open Go Go.RowKit
set_option linter.unusedSimpArgs false
set_option linter.unusedVariables false


section
variable {H : Type} {enc : TypeId × Value → H} {w : World} {base : Nat}
theorem open_is {P : Program} {t e : TypeId} {fuel : Nat} {a : Option Addr} {len cap : Nat} {hd : Bool} {x : DataW H × List MemPlace} (ht : P.underlying t = some (.slice e)) (he : P.underlying e = some (.int .i64)) (hc : P.cellsOf e = 1)
    (h : DataW.trod enc P w base (fun _ => true) hd fuel t (Value.slice a len cap).cells.toList = some x) : ∃ l, IR w a len cap l ∧ ∀ x ∈ l, -9223372036854775808 ≤ x ∧ x ≤ 9223372036854775807 := by
  rcases Go.ChangeShapes.open_ints ht he hc h with ⟨hcs, _⟩ | ⟨ad, l, c, zs, hcs, _, hl, hm, hz, _, hcell, hwf⟩
  · simp [Value.cells] at hcs
    obtain ⟨rfl, rfl, rfl⟩ := hcs
    exact ⟨[], Row.nil0 w, fun x h => (by cases h)⟩
  · simp [Value.cells] at hcs
    obtain ⟨rfl, rfl, rfl⟩ := hcs
    simp only [if_true] at hz
    refine ⟨zs.take len, ⟨by simp; omega, hl, hm, fun e => (by cases e), fun hn => ?_⟩, fun x hx => bounds_i64 (hwf x (List.mem_of_mem_take hx))⟩
    have h0 := hcell 0 (by omega)
    obtain ⟨b, off, spot⟩ := ad
    have hspot : spot = none := by simpa [Addr.add] using World.cell?_spot h0
    subst hspot
    refine ⟨b, off, rfl, World.block_lt_of_cell? w ⟨b, off, none⟩ (by simpa [Addr.add] using h0), fun j hj => ?_⟩
    have := hcell j (by omega)
    rw [add_zero_spot] at this
    rw [this, List.getElem?_map, List.getElem?_take, if_pos hj, List.getD_eq_getElem?_getD]
    rw [List.getElem?_eq_getElem (by omega)]
    rfl
end
set_option maxRecDepth 100000 in
set_option maxHeartbeats 4000000 in
theorem walk_LanesOrders {tK : TypeId} (A : Option Addr) (n c : Nat) (l : List Int) (w : World) (HK : Hid (Blk w 0 tK (shaK.map b32).toArray)) (hl : IR w A n c l ∧ ∀ x ∈ l, -9223372036854775808 ≤ x ∧ x ≤ 9223372036854775807) :
    Calls Tryd.prog 5 #[.slice A n c] w fun e w' => e = .returned (.bool true) ∧ Grows w w' := by
  have HL := lib_hid hl.1
  have Hwf := lib_hid hl.2
  have hll := lib_hid hl.1.len
  have hcap := hl.1.2.2.1
  unfold maxLen at hcap
  have hnc := hl.1.2.1
  clear hl
  by_cases hbig : 100 < n
  · have hb : (100 : Int) < n := by omega
    go_enter Tryd.func5, Tryd.ntmps5
    go_wp2
    go_ret
    exact ⟨rfl, Grows.refl _⟩
  · have hb : ¬ (100 : Int) < n := by omega
    have Hb := lib_hid (Nat.not_lt.1 hbig)
    have hnm : (n : Int) ≤ 100 := by omega
    clear hbig
    go_enter Tryd.func5, Tryd.ntmps5
    go_wp2
    clear hb
    go_loop [3] (fun i => ∃ k : Nat, k ≤ n ∧ i = .int .i64 k ∧ Hid (∀ x ∈ l.take k, x ≤ 5000)) (fun i => n - (intOf i).toNat)
    case atStart => exact ⟨0, Nat.zero_le _, rfl, lib_hid (by intro p hp; simp at hp)⟩
    case round =>
      obtain ⟨k, hk, rfl, HKk⟩ := hrel
      by_cases hlt : k < n
      · have hki : (k : Int) < n := by omega
        obtain ⟨b, off, x, rfl, hb, hx, hc⟩ := HL.out.at hlt
        have Hx := lib_hid hx
        clear hx hb
        by_cases h1 : 5000 < x
        · go_wp2
          go_ret
          exact ⟨rfl, Grows.refl _⟩
        · have HK2 : Hid (∀ x ∈ l.take (k + 1), x ≤ 5000) := by
            unfold Hid
            rw [List.take_add_one, Hx.out]
            intro p hp
            simp only [Option.toList_some, List.mem_append, List.mem_singleton] at hp
            rcases hp with hp | rfl
            · exact HKk.out p hp
            · omega
          clear HKk
          go_wp2
          go_round
          case rel => exact ⟨k + 1, by omega, by go_num, HK2⟩
          case measure => simp [intOf]; omega
      · have hki : ¬ (k : Int) < n := by omega
        obtain rfl : k = n := by omega
        have H5 : Hid (∀ x ∈ l, -9223372036854775808 ≤ x ∧ x ≤ 5000) := fun x hx => by
          have h := HKk.out
          rw [List.take_of_length_le (by rw [hll.out]; exact Nat.le_refl _)] at h
          exact ⟨(Hwf.out x hx).1, h x hx⟩
        have HO := lib_hid (order_any l A k c w HL.out Hb.out H5.out)
        have HRo : Hid (∀ W, Grows w W → Calls Tryd.prog 16 #[.slice A k c] W fun e w' => ∃ C c', e = .returned (.slice C k c') ∧ Grows W w' ∧ IR w' C k c' ((ordF (blkL l) k (maxF (blkL l) k)).map fun (x : Nat) => (x : Int))) := fun W hW => refOrder_any l A k c W (HL.out.grows hW) Hb.out H5.out
        obtain ⟨os, Hos⟩ : ∃ os : List Int, Hid ((ordF (blkL l) k (maxF (blkL l) k)).map (fun (x : Nat) => (x : Int)) = os) := ⟨_, lib_hid rfl⟩
        rw [Hos.out] at HO HRo
        have HAw : Hid (∀ W, Grows w W → Calls Tryd.prog 13 #[] W fun e w' => e = .returned (.bool true) ∧ Grows W w') := fun W hW => awake13_any W (lib_hid (HK.out.grows hW))
        clear HKk hlt H5
        go_wp2_with fail
        refine HO.out.mono ?_
        rintro e w1 ⟨C, c1, rfl, hg1, hx1⟩
        have HI1 := lib_hid hx1
        have Hg1 := lib_hid hg1
        clear hx1 hg1 HO
        go_wp2_with fail
        refine (HRo.out w1 Hg1.out).mono ?_
        rintro e w2 ⟨D, c2, rfl, hg2, hx2⟩
        have HI2 := lib_hid hx2
        have HI3 := lib_hid (HI1.out.grows hg2)
        have Hg2 := lib_hid (Hg1.out.trans hg2)
        have hcap1 := HI1.out.2.2.1
        have hcap2 := hx2.2.2.1
        unfold maxLen at hcap1 hcap2
        have hnc1 := HI1.out.2.1
        have hnc2 := hx2.2.1
        clear hx2 hg2 HRo HI1 hki
        go_wp2
        go_loopw [6] (fun i wr => ∃ j : Nat, j ≤ k ∧ i = .int .i64 j ∧ Grows w2 wr) (fun i _ => k - (intOf i).toNat)
        case atStart => exact ⟨0, Nat.zero_le _, rfl, Grows.refl _⟩
        case round =>
          obtain ⟨j, hj, rfl, hgr⟩ := hrel
          by_cases hlt : j < k
          · have hji : (j : Int) < k := by omega
            obtain ⟨b1, o1, x1, rfl, hb1, hx1, hc1⟩ := HI3.out.at hlt
            obtain ⟨b2, o2, x2, rfl, hb2, hx2, hc2⟩ := HI2.out.at hlt
            obtain rfl : x1 = x2 := by rw [hx1] at hx2; exact Option.some.inj hx2
            have Hx1 : Hid (∀ W, Grows wr W → W.cell? ⟨b1, o1 + j, none⟩ = some (.int .i64 x1)) := fun W hW => ((hgr.trans hW).cell (p := ⟨b1, o1 + j, none⟩) hb1).trans hc1
            have Hx2 : Hid (∀ W, Grows wr W → W.cell? ⟨b2, o2 + j, none⟩ = some (.int .i64 x1)) := fun W hW => ((hgr.trans hW).cell (p := ⟨b2, o2 + j, none⟩) hb2).trans hc2
            have Hgr := lib_hid hgr
            clear hb1 hx1 hc1 hb2 hx2 hc2 hgr
            go_upto_region 15 with fail
            apply wp_region_mono 9 ((.is _, []) :: (.is _, []) :: (.is _, []) :: (.is _, []) :: (.is _, []) :: (.is _, []) :: (.is _, []) :: (.is _, []) :: (.is _, []) :: []) (by kernel_rfl) (by kernel_rfl)
            iterate 3
              apply Mono.is0
              · kernel_rfl
              · intro W hW
                go_wp2
                refine ⟨rfl, rfl, Grows.refl _, ?_⟩
                unfold Oper.valAt
                go_simp
                rfl
              intro k1 a1 hk1 ha1
              simp only [Nat.reduceAdd] at hk1
              simp only [Act.put, List.setIfInBounds_toArray, List.set_cons_succ, List.set_cons_zero] at ha1
              subst hk1 ha1
            apply Mono.is0
            · kernel_rfl
            · intro W hW
              have q := Hx1.out W hW
              go_wp2
              refine ⟨rfl, rfl, Grows.refl _, ?_⟩
              unfold Oper.valAt
              go_simp
              rfl
            intro k1 a1 hk1 ha1
            simp only [Nat.reduceAdd] at hk1
            simp only [Act.put, List.setIfInBounds_toArray, List.set_cons_succ, List.set_cons_zero] at ha1
            subst hk1 ha1
            iterate 3
              apply Mono.is0
              · kernel_rfl
              · intro W hW
                go_wp2
                refine ⟨rfl, rfl, Grows.refl _, ?_⟩
                unfold Oper.valAt
                go_simp
                rfl
              intro k1 a1 hk1 ha1
              simp only [Nat.reduceAdd] at hk1
              simp only [Act.put, List.setIfInBounds_toArray, List.set_cons_succ, List.set_cons_zero] at ha1
              subst hk1 ha1
            apply Mono.is0
            · kernel_rfl
            · intro W hW
              have q := Hx2.out W hW
              go_wp2
              refine ⟨rfl, rfl, Grows.refl _, ?_⟩
              unfold Oper.valAt
              go_simp
              rfl
            intro k1 a1 hk1 ha1
            simp only [Nat.reduceAdd] at hk1
            simp only [Act.put, List.setIfInBounds_toArray, List.set_cons_succ, List.set_cons_zero] at ha1
            subst hk1 ha1
            apply Mono.is0
            · kernel_rfl
            · intro W hW
              go_wp2
              refine ⟨rfl, rfl, Grows.refl _, ?_⟩
              unfold Oper.valAt
              go_simp
              rfl
            intro k1 a1 hk1 ha1
            simp only [Nat.reduceAdd] at hk1
            simp only [Act.put, List.setIfInBounds_toArray, List.set_cons_succ, List.set_cons_zero] at ha1
            subst hk1 ha1
            refine Mono.done ?_
            intro wm hgm
            simp only [allF, List.drop_succ_cons, List.drop_nil]
            have hgr := Hgr.out.trans hgm
            clear Hx1 Hx2 hgm
            go_wp2
            go_roundw
            case rel => exact ⟨j + 1, by omega, by go_num, hgr⟩
            case measure => simp [intOf]; omega
          · have hji : ¬ (j : Int) < k := by omega
            have hg3 := Hg2.out.trans hgr
            go_wp2_with fail
            refine (HAw.out wr hg3).mono ?_
            rintro e w3 ⟨rfl, hg4⟩
            have hg5 := hg3.trans hg4
            go_wp2
            go_ret
            exact ⟨rfl, hg5⟩
end Go.Proofs.YtnlffaglmcddkaaDoor
