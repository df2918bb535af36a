/-
  aes.Expand of 32 bytes.
-/
import Derived.Test.YthcmdjaccjghjaaAes8
import Derived.Deep.RegionLaw
import Derived.Deep.Cut
import Derived.LoopN
namespace Go.Proofs.Ythcmdjaccjghjaa
open Go Go.RowKit
set_option linter.unusedSimpArgs false
set_option linter.unusedVariables false


theorem tabF_len : tabF.length = 256 := by
  unfold tabF
  rw [List.length_set]
  have : ∀ k, (boxS k).2.2.length = 256 := by
    intro k
    induction k with
    | zero => exact List.length_replicate
    | succ k ih => rw [boxS]; simp only [List.length_set]; exact ih
  exact this 255
set_option maxRecDepth 100000 in
set_option maxHeartbeats 4000000 in
theorem expand8_any (A : Option Addr) (c : Nat) (key : List UInt8) (w : World) (hk : SB w A 32 c key) :
    Calls Try.prog 6 #[.slice A 32 c] w fun e w' => ∃ g, e = .returned (.tuple #[.pointer (some ⟨g, 0, none⟩), .int .i64 0]) ∧ Grows w w' ∧ w.heap.size ≤ g ∧ KeyR w' w'.heap.size g tabF (exF tabF key 8 52).1 14 := by
  have HK := lib_hid hk
  have hkl := lib_hid hk.len
  obtain ⟨b, off, rfl, hbw, _⟩ := hk.2.2.2.2 (by omega)
  have hnc := hk.2.1
  have hcm := hk.2.2.1
  have hcm2 : c ≤ 9223372036854775807 := by unfold maxLen at hcm; omega
  clear hk
  go_enter Try.func6, Try.ntmps6
  go_wp2_with fail
  refine (made_any w).mono ?_
  rintro e w1 ⟨rfl, hg1, hT1⟩
  obtain ⟨gt, Hgt⟩ : ∃ gt, Hid (w.heap.size = gt) := ⟨_, lib_hid rfl⟩
  rw [Hgt.out] at hT1
  rw [Hgt.out]
  have HG1 := lib_hid hg1
  have HT1 := lib_hid hT1
  have hlt1 : gt < w1.heap.size := hT1.choose_spec.2.lt
  clear hg1 hT1
  go_upto_region 4 with fail
  obtain ⟨W0, HW0⟩ : ∃ W0, Hid (w1.alloc (.cells #[.pointer (some ⟨gt, 0, none⟩), .slice none 0 0] 49) = W0) := ⟨_, lib_hid rfl⟩
  obtain ⟨g, Hg⟩ : ∃ g, Hid (w1.heap.size = g) := ⟨_, lib_hid rfl⟩
  rw [HW0.out, Hg.out]
  have HB0 : Hid (Blk W0 g 49 #[.pointer (some ⟨gt, 0, none⟩), .slice none 0 0]) := by unfold Hid; rw [← HW0.out, ← Hg.out]; exact Blk.new w1 _ _
  have hsz0 : W0.heap.size = g + 1 := by rw [← HW0.out, ← Hg.out]; simp
  have HG0 : Hid (Grows w W0) := by unfold Hid; rw [← HW0.out]; exact HG1.out.alloc _
  have HT0 : Hid (TabR W0 gt) := by
    unfold Hid; rw [← HW0.out]
    obtain ⟨bk, h1, h2⟩ := HT1.out
    exact ⟨bk, h1, h2.alloc _⟩
  rw [Hg.out] at hlt1
  clear HT1 HG1 HW0
  go_wp2
  go_loopw [25] (fun i wr => ∃ (p : Nat) (C : Option Addr) (cc : Nat), p ≤ 8 ∧ i = .int .i64 (p : Int) ∧ Hid (Keeps (fun k => k = g) W0 wr) ∧ Hid (Blk wr g 49 #[.pointer (some ⟨gt, 0, none⟩), .slice C p cc]) ∧ Hid (wr.ownsRow (g + 1) 50 4 (.slice C p cc) p ((key.take (4 * p)).map b8))) (fun i _ => 8 - (intOf i).toNat)
  case atStart => exact ⟨0, none, 0, Nat.zero_le _, rfl, lib_hid (Keeps.refl _ _), HB0, lib_hid (World.ownsRow_nil _ _ _ _)⟩
  case round =>
    obtain ⟨p, C, cc, hp, rfl, Hk, HB, HO⟩ := hrel
    by_cases hlt : p < 8
    · have hki : (p : Int) < 8 := by omega
      have hg : g < wr.heap.size := HB.out.lt
      have HGr : Hid (Grows w wr) := lib_hid (Below.trans HG0.out (Hk.out.below HG0.out.size (by intro i hi; have := Hgt.out; omega)))
      have hc1 := HB.out.cell 1
      have hf1 := HB.out.frozen 1
      obtain ⟨x0, Hx0⟩ : ∃ x, Hid (key.getD (4 * p) 0 = x) := ⟨_, lib_hid rfl⟩
      obtain ⟨x1, Hx1⟩ : ∃ x, Hid (key.getD (4 * p + 1) 0 = x) := ⟨_, lib_hid rfl⟩
      obtain ⟨x2, Hx2⟩ : ∃ x, Hid (key.getD (4 * p + 2) 0 = x) := ⟨_, lib_hid rfl⟩
      obtain ⟨x3, Hx3⟩ : ∃ x, Hid (key.getD (4 * p + 3) 0 = x) := ⟨_, lib_hid rfl⟩
      have hq : ∀ j x, j < 4 → key.getD (4 * p + j) 0 = x → wr.cell? ⟨b, off + 4 * p + j, none⟩ = some (.int .u8 (x.toNat : Int)) := fun j x hj e => by
        have h := (HK.out.grows HGr.out).2.2.2.2 (by omega)
        obtain ⟨b2, o2, e2, hb2, hc⟩ := h
        cases e2
        have hkl := hkl.out
        rw [Nat.add_assoc, hc (4 * p + j) (by omega), List.getElem?_map, List.getElem?_eq_getElem (by omega), ← e, List.getD_eq_getElem?_getD, List.getElem?_eq_getElem (by omega)]
        rfl
      have hq0 := hq 0 x0 (by omega) Hx0.out
      have hq1 := hq 1 x1 (by omega) Hx1.out
      have hq2 := hq 2 x2 (by omega) Hx2.out
      have hq3 := hq 3 x3 (by omega) Hx3.out
      rw [Nat.add_zero] at hq0
      clear hq
      have hs1 := fun W => run_sl_lE (P := Try.prog) Try.underlying26 Try.sizeByte b off 32 c (4 * p) (4 * (p : Int)) (by omega) (by omega) (by omega) W
      have hat := fun W => run_arrayAtA (Pr := Try.prog) Try.underlying50 (some ⟨b, off + 4 * p, none⟩) (32 - 4 * p) (c - 4 * p) (by omega) W
      have hw4 : IntKind.i64.wrap (4 * (p : Int)) = 4 * (p : Int) := i64_wrap _ (by omega) (by omega)
      have htn : (4 * (p : Int)).toNat = 4 * p := by omega
      have hif : (0 : Int) ≤ 4 * (p : Int) ∧ 4 * (p : Int) ≤ 32 := ⟨by omega, by omega⟩
      have hcp : ¬ c = 4 * p := by omega
      go_wp2
      have HCb : Hid (∀ k, blkOf C = some k → some k ≠ some g) := lib_hid (fun k hk e => by
        have h := HO.out.lt k (by cases C <;> exact hk)
        cases e; omega)
      obtain ⟨Wa, HWa⟩ : ∃ Wa, Hid ((wr.alloc (.cells #[.int .u8 (x0.toNat : Int), .int .u8 (x1.toNat : Int), .int .u8 (x2.toNat : Int), .int .u8 (x3.toNat : Int)] 50)).drew = Wa) := ⟨_, lib_hid rfl⟩
      have HgWa : Hid (Grows wr Wa) := by unfold Hid; rw [← HWa.out]; exact ((Grows.refl wr).alloc _).drew
      have HOa : Hid ((wr.drew.alloc (.cells #[.int .u8 (x0.toNat : Int), .int .u8 (x1.toNat : Int), .int .u8 (x2.toNat : Int), .int .u8 (x3.toNat : Int)] 50)).ownsRow (g + 1) 50 4 (.slice C p cc) p ((key.take (4 * p)).map b8)) := lib_hid (own_grows HO.out ((Grows.refl wr).drew.alloc _))
      have HBa : Hid (Blk (wr.drew.alloc (.cells #[.int .u8 (x0.toNat : Int), .int .u8 (x1.toNat : Int), .int .u8 (x2.toNat : Int), .int .u8 (x3.toNat : Int)] 50)) wr.heap.size 50 #[b8 x0, b8 x1, b8 x2, b8 x3]) := lib_hid (Blk.new wr.drew _ _)
      have HBg : Hid (Blk (wr.drew.alloc (.cells #[.int .u8 (x0.toNat : Int), .int .u8 (x1.toNat : Int), .int .u8 (x2.toNat : Int), .int .u8 (x3.toNat : Int)] 50)) g 49 #[.pointer (some ⟨gt, 0, none⟩), .slice C p cc]) := lib_hid (HB.out.drew.alloc _)
      have hbase : g + 1 ≤ (wr.drew.alloc (.cells #[.int .u8 (x0.toNat : Int), .int .u8 (x1.toNat : Int), .int .u8 (x2.toNat : Int), .int .u8 (x3.toNat : Int)] 50)).heap.size := by simp; omega
      go_region_law (refine step_append_quad rfl (.tmp 32) (.tmp 39) 47 rfl (g + 1) 50 _ 4 Try.underlying47 Try.infoQ rfl C p cc _ rfl HOa.out wr.heap.size rfl 50 x0 x1 x2 x3 HBa.out (by omega) (by omega) hbase ?_; intro C4 c4 w4 hO4 hG4; have HB4 := HBg.out.grown hG4 (fun e => HCb.out g e.symm rfl); have hc4 := HB4.cell 1; have hf4 := HB4.frozen 1; have HO4 := lib_hid hO4; have HG4 := lib_hid hG4; clear hO4 hG4)
      all_goals
        have HBn : Hid (Blk (w4.setCell ⟨g, 1, none⟩ (.slice C4 (p + 1) c4)) g 49 #[.pointer (some ⟨gt, 0, none⟩), .slice C4 (p + 1) c4]) := lib_hid (by have := HB4.set 1 (.slice C4 (p + 1) c4); simpa using this)
        have HKn : Hid (Keeps (fun k => k = g) W0 (w4.setCell ⟨g, 1, none⟩ (.slice C4 (p + 1) c4))) := by
          have hG := HG4.out
          rw [HWa.out] at hG
          exact lib_hid (((Hk.out.trans (HgWa.out.keeps (fun k => k = g)) (fun _ h _ => h)).trans (keeps_grown hG) (fun i hi hlt => by
            have h := HO.out.lt i (by cases C <;> exact hi)
            have := h.1; omega)).trans (keeps_set _ _ _) (fun _ h _ => h))
        have HOn : Hid ((w4.setCell ⟨g, 1, none⟩ (.slice C4 (p + 1) c4)).ownsRow (g + 1) 50 4 (.slice C4 (p + 1) c4) (p + 1) ((key.take (4 * (p + 1))).map b8)) := by
          have h := own_keepsE HO4.out (keeps_set w4 ⟨g, 1, none⟩ (.slice C4 (p + 1) c4)) (fun k hk e => by simp only at e; omega)
          have ht := take_quad key p (by have := hkl.out; omega)
          rw [Hx0.out, Hx1.out, Hx2.out, Hx3.out] at ht
          unfold Hid
          rw [← ht, List.map_append]
          exact h
        clear hc4 hf4 HB4 HO4 HG4 hbase HBg HBa HOa HgWa HWa HCb hcp hif htn hw4 hat hs1 hq0 hq1 hq2 hq3 HGr hc1 hf1 HB HO Hk
        go_wp2
        go_roundw
        case rel => exact ⟨p + 1, C4, c4, by omega, by go_num, HKn, HBn, HOn⟩
        case measure => simp [intOf]; omega
    · have hki : ¬ (p : Int) < 8 := by omega
      obtain rfl : p = 8 := by omega
      have HOk : Hid (wr.ownsRow (g + 1) 50 4 (.slice C 8 cc) 8 (key.map b8)) := by
        have := HO.out
        rw [List.take_of_length_le (by have := hkl.out; omega)] at this
        exact this
      clear HO hnc hcm hcm2 HB0
      go_wp2
      clear hki
      go_loopw [7, 8] (fun sv iv wr => ∃ (p q : Nat) (s : UInt8) (C : Option Addr) (cc : Nat) (ws : List UInt8), p ≤ 52 ∧ sv = .int .u8 (s.toNat : Int) ∧ iv = .int .i64 ((p : Int) + 8) ∧ Hid (q = p + 8) ∧ Hid (exF tabF key 8 p = (ws, s)) ∧ Hid (Keeps (fun k => k = g) W0 wr) ∧ Hid (Blk wr g 49 #[.pointer (some ⟨gt, 0, none⟩), .slice C q cc]) ∧ Hid (wr.ownsRow (g + 1) 50 4 (.slice C q cc) q (ws.map b8))) (fun _ i _ => 60 - (intOf i).toNat)
      case atStart => exact ⟨0, 8, 1, C, cc, key, Nat.zero_le _, rfl, rfl, lib_hid rfl, lib_hid rfl, Hk, HB, HOk⟩
      case round =>
        clear Hk HB HOk C cc
        obtain ⟨p, q, s, C, cc, ws, hp, rfl, rfl, Hq, Hst, Hk, HB, HO⟩ := hrel
        by_cases hlt : p < 52
        · have hki : (p : Int) + 8 < 60 := by omega
          obtain ⟨gw, rfl, hgb, hgl, hqc, hcm, hcell⟩ := own_quad HO.out (by have := Hq.out; omega)
          obtain ⟨x0, Hx0⟩ : ∃ x, Hid (ws.getD (4 * (p + 7)) 0 = x) := ⟨_, lib_hid rfl⟩
          obtain ⟨x1, Hx1⟩ : ∃ x, Hid (ws.getD (4 * (p + 7) + 1) 0 = x) := ⟨_, lib_hid rfl⟩
          obtain ⟨x2, Hx2⟩ : ∃ x, Hid (ws.getD (4 * (p + 7) + 2) 0 = x) := ⟨_, lib_hid rfl⟩
          obtain ⟨x3, Hx3⟩ : ∃ x, Hid (ws.getD (4 * (p + 7) + 3) 0 = x) := ⟨_, lib_hid rfl⟩
          obtain ⟨u0, Hu0⟩ : ∃ x, Hid (ws.getD (4 * p) 0 = x) := ⟨_, lib_hid rfl⟩
          obtain ⟨u1, Hu1⟩ : ∃ x, Hid (ws.getD (4 * p + 1) 0 = x) := ⟨_, lib_hid rfl⟩
          obtain ⟨u2, Hu2⟩ : ∃ x, Hid (ws.getD (4 * p + 2) 0 = x) := ⟨_, lib_hid rfl⟩
          obtain ⟨u3, Hu3⟩ : ∃ x, Hid (ws.getD (4 * p + 3) 0 = x) := ⟨_, lib_hid rfl⟩
          have HR : Hid (Row wr (some ⟨gw, (p + 7) * 4, none⟩) 4 4 [.int .u8 (x0.toNat : Int), .int .u8 (x1.toNat : Int), .int .u8 (x2.toNat : Int), .int .u8 (x3.toNat : Int)]) := lib_hid (quad_row hgl hcell (p := p + 7) (by have := Hq.out; omega) Hx0.out Hx1.out Hx2.out Hx3.out)
          have HRp : Hid (SB wr (some ⟨gw, p * 4, none⟩) 4 4 [u0, u1, u2, u3]) := lib_hid (quad_row hgl hcell (p := p) (by have := Hq.out; omega) Hu0.out Hu1.out Hu2.out Hu3.out)
          have hc1 := HB.out.cell 1
          have hix : (p : Int) + 7 < (q : Int) := by have := Hq.out; omega
          have htn : ((p : Int) + 7).toNat = p + 7 := by omega
          have hgl2 := HB.out.lt
          clear hcell
          go_upto_region 15 with (refine wpList_load_part rfl _ _ rfl ⟨gw, (p + 7) * 4, none⟩ rfl 4 4 _ _ HR.out Try.underlying50 rfl Try.size4b ?_)
          obtain ⟨W1, HW1⟩ : ∃ W1, Hid (wr.alloc (.cells #[.int .u8 (x0.toNat : Int), .int .u8 (x1.toNat : Int), .int .u8 (x2.toNat : Int), .int .u8 (x3.toNat : Int)] 50) = W1) := ⟨_, lib_hid rfl⟩
          obtain ⟨qb, Hqb⟩ : ∃ q, Hid (wr.heap.size = q) := ⟨_, lib_hid rfl⟩
          have HBc : Hid (Blk W1 qb 50 #[.int .u8 (x0.toNat : Int), .int .u8 (x1.toNat : Int), .int .u8 (x2.toNat : Int), .int .u8 (x3.toNat : Int)]) := by
            unfold Hid; rw [← HW1.out, ← Hqb.out]; exact Blk.new wr _ _
          have HgW : Hid (Grows wr W1) := by unfold Hid; rw [← HW1.out]; exact (Grows.refl wr).alloc _
          have HKt : Hid (KeyT W1 qb g tabF) := by
            obtain ⟨bk, hb1, hb2⟩ := HT0.out
            have hb3 : Blk wr gt 84 ((tabF ++ bk).map b8).toArray := (show Blk wr gt _ _ from hb2.keeps Hk.out (by omega))
            have hb4 := hb3.grows HgW.out
            refine ⟨gt, by have := Hqb.out; omega, by have := Hqb.out; omega, by have := HBc.out.lt; omega, (HB.out.grows HgW.out).cell 0, fun j hj => ?_⟩
            rw [hb4.cell, List.getElem?_toArray, List.getElem?_map, List.getElem?_append_left (by rw [tabF_len]; exact hj), List.getD_eq_getElem?_getD, List.getElem?_eq_getElem (by rw [tabF_len]; exact hj)]
            rfl
          rw [HW1.out, Hqb.out]
          have hrem : ∀ r : Nat, (8 + p) % 8 = r → ((p : Int) + 8).tmod 8 = (r : Int) := fun r hr => by rw [Int.tmod_eq_emod_of_nonneg (by omega)]; omega
          obtain ⟨T, HT⟩ : ∃ T, Hid (tabF = T) := ⟨_, lib_hid rfl⟩
          rw [HT.out] at HKt Hst
          clear HR HW1 hc1 hix htn hgl2
          rcases (show (8 + p) % 8 = 0 ∨ (¬ (8 + p) % 8 = 0 ∧ (8 + p) % 8 = 4) ∨ (¬ (8 + p) % 8 = 0 ∧ ¬ (6 < 8 ∧ (8 + p) % 8 = 4)) by omega) with hr0 | ⟨hr0, hr4⟩ | ⟨hr0, hr4⟩
          · have hm := hrem 0 hr0
            have hb0 : (((0 : Nat) : Int) == 0) = true := rfl
            clear hrem
            have hc0 := HBc.out.cell 0
            have hc1 := HBc.out.cell 1
            have hc2 := HBc.out.cell 2
            have hc3 := HBc.out.cell 3
            have HCA := lib_hid (cells_all [x1, x2, x3, x0])
            go_wp2_with (refine wpList_store_blk rfl _ _ _ rfl qb #[.int .u8 (x1.toNat : Int), .int .u8 (x2.toNat : Int), .int .u8 (x3.toNat : Int), .int .u8 (x0.toNat : Int)] rfl rfl 50 _ HBc.out Try.size4b rfl HCA.out qb W1 (Below.refl _ _) (Nat.le_refl _) ?_; intro w2 hB2 hb2 hg2)
            have HB2 := lib_hid hB2
            have HG2 : Hid (Grows wr w2) := lib_hid (Below.trans HgW.out (Below.mono hb2 (by have := Hqb.out; omega)))
            have HK2 := lib_hid (HKt.out.below hb2)
            clear hB2 hb2 hg2 hc0 hc1 hc2 hc3 HBc HgW HKt
            go_wp2_with fail
            refine (subs_tab qb g qb 4 4 T [x1, x2, x3, x0] 50 w2 HK2.out HB2.out (Nat.le_refl _) rfl (by omega)).mono ?_
            rintro e w3 ⟨rfl, hk3, hb3⟩
            obtain ⟨y0, y1, y2, y3, Hy⟩ : ∃ y0 y1 y2 y3 : UInt8, Hid (subF T [x1, x2, x3, x0] = [y0, y1, y2, y3]) := ⟨_, _, _, _, lib_hid rfl⟩
            have HB3 : Hid (Blk w3 qb 50 #[b8 y0, b8 y1, b8 y2, b8 y3]) := by
              have := hb3
              rw [Hy.out] at this
              exact this
            have HG3 : Hid (Grows wr w3) := lib_hid (Below.trans HG2.out (hk3.below HG2.out.size (by intro i hi; have := Hqb.out; omega)))
            clear hk3 hb3 HK2 HB2 HG2
            obtain ⟨z0, Hz0⟩ : ∃ z, Hid (y0 ^^^ s = z) := ⟨_, lib_hid rfl⟩
            have hx : bits .xor .u8 (y0.toNat : Int) (s.toNat : Int) = (z0.toNat : Int) := by rw [u8_xor, Hz0.out]
            have hc0 := HB3.out.cell 0
            have hf0 := HB3.out.frozen 0
            go_upto_region 19 with fail
            obtain ⟨wv, Hwv⟩ : ∃ wv, Hid (w3.setCell ⟨qb, 0, none⟩ (.int .u8 (z0.toNat : Int)) = wv) := ⟨_, lib_hid rfl⟩
            have HBv : Hid (Blk wv qb 50 #[b8 z0, b8 y1, b8 y2, b8 y3]) := by
              unfold Hid; rw [← Hwv.out]
              have := HB3.out.set 0 (b8 z0)
              simpa using this
            have HGv : Hid (Grows wr wv) := by unfold Hid; rw [← Hwv.out]; exact HG3.out.setCell (p := ⟨qb, 0, none⟩) (by show wr.heap.size ≤ qb; have := Hqb.out; omega) _
            rw [Hwv.out]
            clear hx hc0 hf0 HB3 HG3 Hwv
            go_wp2_with fail
            refine (double_any s wv).mono ?_
            rintro e w9 ⟨rfl, rfl⟩
            obtain ⟨s2, Hs2⟩ : ∃ s2, Hid (dblF s = s2) := ⟨_, lib_hid rfl⟩
            rw [Hs2.out]
            go_upto_region 22 with fail
            obtain ⟨v0, Hv0⟩ : ∃ v, Hid (z0 = v) := ⟨_, lib_hid rfl⟩
            obtain ⟨v1, Hv1⟩ : ∃ v, Hid (y1 = v) := ⟨_, lib_hid rfl⟩
            obtain ⟨v2, Hv2⟩ : ∃ v, Hid (y2 = v) := ⟨_, lib_hid rfl⟩
            obtain ⟨v3, Hv3⟩ : ∃ v, Hid (y3 = v) := ⟨_, lib_hid rfl⟩
            have HX : Hid (exF T key 8 (p + 1) = (ws ++ xorF [v0, v1, v2, v3] [u0, u1, u2, u3], s2)) := by
              unfold Hid
              rw [exF, Hst.out]; simp only; unfold exW
              rw [if_pos hr0, if_pos hr0, ← Hs2.out]
              unfold rot4 w4
              rw [Hx0.out, Hx1.out, Hx2.out, Hx3.out, Hu0.out, Hu1.out, Hu2.out, Hu3.out, Hy.out, ← Hv0.out, ← Hv1.out, ← Hv2.out, ← Hv3.out, ← Hz0.out]
              rfl
            rw [Hv0.out, Hv1.out, Hv2.out, Hv3.out] at HBv
            clear hm hb0
            obtain ⟨t0, t1, t2, t3, Ht⟩ : ∃ t0 t1 t2 t3 : UInt8, Hid (xorF [v0, v1, v2, v3] [u0, u1, u2, u3] = [t0, t1, t2, t3]) := ⟨_, _, _, _, lib_hid rfl⟩
            rw [Ht.out] at HX
            have HBg : Hid (Blk wv.drew g 49 #[.pointer (some ⟨gt, 0, none⟩), .slice (some ⟨gw, 0, none⟩) q cc]) := lib_hid (HB.out.grows HGv.out.drew)
            have hcg := HBg.out.cell 1
            have HXa : Hid (SB wv.drew (some ⟨qb, 0, none⟩) 4 4 [v0, v1, v2, v3]) := by
              have := HBv.out.drew.row (o := 0) (n := 4) (c := 4) (by omega) (by simp) (by decide)
              exact lib_hid this
            have HXb : Hid (SB wv.drew (some ⟨gw, p * 4, none⟩) 4 4 [u0, u1, u2, u3]) := lib_hid (HRp.out.grows HGv.out.drew)
            have hix : (p : Int) < (q : Int) := by have := Hq.out; omega
            have hszv : g < wv.heap.size := HBg.out.lt
            have hq60 : q ≤ 60 := by have := Hq.out; omega
            have hwp : IntKind.i64.wrap (p : Int) = (p : Int) := i64_wrap _ (by omega) (by omega)
            clear HBv
            go_region_law (first | (go_simp; go_at_call 15; refine (xor_any _ _ 4 4 4 4 [v0, v1, v2, v3] [u0, u1, u2, u3] wv.drew HXa.out HXb.out (by omega)).mono ?_; rintro e1 w5 ⟨A5, n5, c5, hn5, rfl, hg5, ho5⟩; obtain rfl : n5 = 4 := (by rw [hn5.out, xorF_len]; rfl); have hs5 := SB.own ho5; rw [Ht.out] at hs5; obtain ⟨b5, o5, rfl, hb5, hcl5⟩ := hs5.2.2.2.2 (by omega); have hc5 := hs5.2.1; have hq0 : w5.cell? ⟨b5, o5, none⟩ = some (.int .u8 (t0.toNat : Int)) := hcl5 0 (by omega); have hq1 : w5.cell? ⟨b5, o5 + 1, none⟩ = some (.int .u8 (t1.toNat : Int)) := hcl5 1 (by omega); have hq2 : w5.cell? ⟨b5, o5 + 2, none⟩ = some (.int .u8 (t2.toNat : Int)) := hcl5 2 (by omega); have hq3 : w5.cell? ⟨b5, o5 + 3, none⟩ = some (.int .u8 (t3.toNat : Int)) := hcl5 3 (by omega); have hat5 := (fun W => run_arrayAtA (Pr := Try.prog) Try.underlying50 (some ⟨b5, o5, none⟩) 4 c5 (by omega) W); have hcg5 := (HBg.out.grows hg5).cell 1; have HG5 := lib_hid (HGv.out.drew.trans hg5); have HOa := lib_hid (own_grows HO.out (HG5.out.alloc (.cells #[.int .u8 (t0.toNat : Int), .int .u8 (t1.toNat : Int), .int .u8 (t2.toNat : Int), .int .u8 (t3.toNat : Int)] 50))); have HBa := lib_hid (Blk.new w5 50 #[b8 t0, b8 t1, b8 t2, b8 t3]); have HBh := lib_hid (((HBg.out.grows hg5).alloc (.cells #[.int .u8 (t0.toNat : Int), .int .u8 (t1.toNat : Int), .int .u8 (t2.toNat : Int), .int .u8 (t3.toNat : Int)] 50))); have hch := HBh.out.cell 1; have hle5 : wv.heap.size ≤ w5.heap.size := hg5.size; have hbase : g + 1 ≤ (w5.alloc (.cells #[.int .u8 (t0.toNat : Int), .int .u8 (t1.toNat : Int), .int .u8 (t2.toNat : Int), .int .u8 (t3.toNat : Int)] 50)).heap.size := (by simp; omega); clear hs5 ho5 hn5 hg5 hcl5) | (refine step_append_quad rfl (.tmp 100) (.tmp 114) 47 rfl (g + 1) 50 _ 4 Try.underlying47 Try.infoQ rfl (some ⟨gw, 0, none⟩) q cc _ rfl HOa.out w5.heap.size rfl 50 t0 t1 t2 t3 HBa.out (by omega) (by omega) hbase ?_; intro C4 c4 w4 hO4 hG4; have HB4 := HBh.out.grown hG4 (fun e => by have e2 : g = gw := Option.some.inj e; omega); have hc4 := HB4.cell 1; have hf4 := HB4.frozen 1; have HO4 := lib_hid hO4; have HG4 := lib_hid hG4; clear hO4 hG4))
            all_goals
              have HBn : Hid (Blk (w4.setCell ⟨g, 1, none⟩ (.slice C4 (q + 1) c4)) g 49 #[.pointer (some ⟨gt, 0, none⟩), .slice C4 (q + 1) c4]) := lib_hid (by have := HB4.set 1 (.slice C4 (q + 1) c4); simpa using this)
              have HKn : Hid (Keeps (fun k => k = g) W0 (w4.setCell ⟨g, 1, none⟩ (.slice C4 (q + 1) c4))) := lib_hid (((Hk.out.trans ((HG5.out.alloc (.cells #[.int .u8 (t0.toNat : Int), .int .u8 (t1.toNat : Int), .int .u8 (t2.toNat : Int), .int .u8 (t3.toNat : Int)] 50)).keeps (fun k => k = g)) (fun _ h _ => h)).trans (keeps_grown HG4.out) (fun i hi hlt => by have e2 : gw = i := Option.some.inj hi; omega)).trans (keeps_set _ _ _) (fun _ h _ => h))
              have HOn : Hid ((w4.setCell ⟨g, 1, none⟩ (.slice C4 (q + 1) c4)).ownsRow (g + 1) 50 4 (.slice C4 (q + 1) c4) (q + 1) ((ws ++ [t0, t1, t2, t3]).map b8)) := by
                have h := own_keepsE HO4.out (keeps_set w4 ⟨g, 1, none⟩ (.slice C4 (q + 1) c4)) (fun k hk e => by simp only at e; omega)
                unfold Hid
                rw [List.map_append]
                exact h
              have Hqn : Hid (q + 1 = p + 1 + 8) := lib_hid (by have := Hq.out; omega)
              have HX2 : Hid (exF tabF key 8 (p + 1) = (ws ++ [t0, t1, t2, t3], s2)) := by rw [HT.out]; exact HX
              clear hc4 hf4 HB4 HO4 HG4 hbase HBh HBa HOa HG5 hle5 hq0 hq1 hq2 hq3 hat5 hcg5 HBg HXa HXb hcg hix HB HO Hk
              go_wp2
              go_roundw
              case rel => exact ⟨p + 1, q + 1, s2, C4, c4, _, by omega, rfl, by go_num, Hqn, HX2, HKn, HBn, HOn⟩
              case measure => simp [intOf]; omega
          · obtain ⟨r, hre, hr1, hr2⟩ : ∃ r : Nat, (8 + p) % 8 = r ∧ ¬ r = 0 ∧ r = 4 := ⟨_, rfl, hr0, hr4⟩
            have hm := hrem r hre
            have hb0 : (((r : Nat) : Int) == 0) = false := by simp; omega
            have hb4 : (((r : Nat) : Int) == 4) = true := by simp; omega
            clear hrem
            have HB2 := HBc
            have HG2 := HgW
            have HK2 := HKt
            obtain ⟨w2, Hw2⟩ : ∃ w2, Hid (W1 = w2) := ⟨_, lib_hid rfl⟩
            rw [Hw2.out] at HB2 HG2 HK2
            rw [Hw2.out]
            clear HBc HgW HKt Hw2
            go_wp2_with fail
            refine (subs_tab qb g qb 4 4 T [x0, x1, x2, x3] 50 w2 HK2.out HB2.out (Nat.le_refl _) rfl (by omega)).mono ?_
            rintro e w3 ⟨rfl, hk3, hb3⟩
            obtain ⟨y0, y1, y2, y3, Hy⟩ : ∃ y0 y1 y2 y3 : UInt8, Hid (subF T [x0, x1, x2, x3] = [y0, y1, y2, y3]) := ⟨_, _, _, _, lib_hid rfl⟩
            have HB3 : Hid (Blk w3 qb 50 #[b8 y0, b8 y1, b8 y2, b8 y3]) := by
              have := hb3
              rw [Hy.out] at this
              exact this
            have HG3 : Hid (Grows wr w3) := lib_hid (Below.trans HG2.out (hk3.below HG2.out.size (by intro i hi; have := Hqb.out; omega)))
            clear hk3 hb3 HK2 HB2 HG2
            obtain ⟨wv, Hwv⟩ : ∃ wv, Hid (w3 = wv) := ⟨_, lib_hid rfl⟩
            rw [Hwv.out] at HB3 HG3
            have HBv := HB3
            have HGv := HG3
            obtain ⟨s2, Hs2⟩ : ∃ s2, Hid (s = s2) := ⟨_, lib_hid rfl⟩
            rw [Hwv.out]
            clear HB3 HG3 Hwv
            go_upto_region 22 with fail
            rw [Hs2.out]
            obtain ⟨v0, Hv0⟩ : ∃ v, Hid (y0 = v) := ⟨_, lib_hid rfl⟩
            obtain ⟨v1, Hv1⟩ : ∃ v, Hid (y1 = v) := ⟨_, lib_hid rfl⟩
            obtain ⟨v2, Hv2⟩ : ∃ v, Hid (y2 = v) := ⟨_, lib_hid rfl⟩
            obtain ⟨v3, Hv3⟩ : ∃ v, Hid (y3 = v) := ⟨_, lib_hid rfl⟩
            have HX : Hid (exF T key 8 (p + 1) = (ws ++ xorF [v0, v1, v2, v3] [u0, u1, u2, u3], s2)) := by
              unfold Hid
              rw [exF, Hst.out]; simp only; unfold exW
              rw [if_neg hr0, if_pos ⟨by omega, hr4⟩, if_neg hr0, ← Hs2.out]
              unfold w4
              rw [Hx0.out, Hx1.out, Hx2.out, Hx3.out, Hu0.out, Hu1.out, Hu2.out, Hu3.out, Hy.out, ← Hv0.out, ← Hv1.out, ← Hv2.out, ← Hv3.out]
            rw [Hv0.out, Hv1.out, Hv2.out, Hv3.out] at HBv
            clear hm hb0 hb4
            obtain ⟨t0, t1, t2, t3, Ht⟩ : ∃ t0 t1 t2 t3 : UInt8, Hid (xorF [v0, v1, v2, v3] [u0, u1, u2, u3] = [t0, t1, t2, t3]) := ⟨_, _, _, _, lib_hid rfl⟩
            rw [Ht.out] at HX
            have HBg : Hid (Blk wv.drew g 49 #[.pointer (some ⟨gt, 0, none⟩), .slice (some ⟨gw, 0, none⟩) q cc]) := lib_hid (HB.out.grows HGv.out.drew)
            have hcg := HBg.out.cell 1
            have HXa : Hid (SB wv.drew (some ⟨qb, 0, none⟩) 4 4 [v0, v1, v2, v3]) := by
              have := HBv.out.drew.row (o := 0) (n := 4) (c := 4) (by omega) (by simp) (by decide)
              exact lib_hid this
            have HXb : Hid (SB wv.drew (some ⟨gw, p * 4, none⟩) 4 4 [u0, u1, u2, u3]) := lib_hid (HRp.out.grows HGv.out.drew)
            have hix : (p : Int) < (q : Int) := by have := Hq.out; omega
            have hszv : g < wv.heap.size := HBg.out.lt
            have hq60 : q ≤ 60 := by have := Hq.out; omega
            have hwp : IntKind.i64.wrap (p : Int) = (p : Int) := i64_wrap _ (by omega) (by omega)
            clear HBv
            go_region_law (first | (go_simp; go_at_call 15; refine (xor_any _ _ 4 4 4 4 [v0, v1, v2, v3] [u0, u1, u2, u3] wv.drew HXa.out HXb.out (by omega)).mono ?_; rintro e1 w5 ⟨A5, n5, c5, hn5, rfl, hg5, ho5⟩; obtain rfl : n5 = 4 := (by rw [hn5.out, xorF_len]; rfl); have hs5 := SB.own ho5; rw [Ht.out] at hs5; obtain ⟨b5, o5, rfl, hb5, hcl5⟩ := hs5.2.2.2.2 (by omega); have hc5 := hs5.2.1; have hq0 : w5.cell? ⟨b5, o5, none⟩ = some (.int .u8 (t0.toNat : Int)) := hcl5 0 (by omega); have hq1 : w5.cell? ⟨b5, o5 + 1, none⟩ = some (.int .u8 (t1.toNat : Int)) := hcl5 1 (by omega); have hq2 : w5.cell? ⟨b5, o5 + 2, none⟩ = some (.int .u8 (t2.toNat : Int)) := hcl5 2 (by omega); have hq3 : w5.cell? ⟨b5, o5 + 3, none⟩ = some (.int .u8 (t3.toNat : Int)) := hcl5 3 (by omega); have hat5 := (fun W => run_arrayAtA (Pr := Try.prog) Try.underlying50 (some ⟨b5, o5, none⟩) 4 c5 (by omega) W); have hcg5 := (HBg.out.grows hg5).cell 1; have HG5 := lib_hid (HGv.out.drew.trans hg5); have HOa := lib_hid (own_grows HO.out (HG5.out.alloc (.cells #[.int .u8 (t0.toNat : Int), .int .u8 (t1.toNat : Int), .int .u8 (t2.toNat : Int), .int .u8 (t3.toNat : Int)] 50))); have HBa := lib_hid (Blk.new w5 50 #[b8 t0, b8 t1, b8 t2, b8 t3]); have HBh := lib_hid (((HBg.out.grows hg5).alloc (.cells #[.int .u8 (t0.toNat : Int), .int .u8 (t1.toNat : Int), .int .u8 (t2.toNat : Int), .int .u8 (t3.toNat : Int)] 50))); have hch := HBh.out.cell 1; have hle5 : wv.heap.size ≤ w5.heap.size := hg5.size; have hbase : g + 1 ≤ (w5.alloc (.cells #[.int .u8 (t0.toNat : Int), .int .u8 (t1.toNat : Int), .int .u8 (t2.toNat : Int), .int .u8 (t3.toNat : Int)] 50)).heap.size := (by simp; omega); clear hs5 ho5 hn5 hg5 hcl5) | (refine step_append_quad rfl (.tmp 100) (.tmp 114) 47 rfl (g + 1) 50 _ 4 Try.underlying47 Try.infoQ rfl (some ⟨gw, 0, none⟩) q cc _ rfl HOa.out w5.heap.size rfl 50 t0 t1 t2 t3 HBa.out (by omega) (by omega) hbase ?_; intro C4 c4 w4 hO4 hG4; have HB4 := HBh.out.grown hG4 (fun e => by have e2 : g = gw := Option.some.inj e; omega); have hc4 := HB4.cell 1; have hf4 := HB4.frozen 1; have HO4 := lib_hid hO4; have HG4 := lib_hid hG4; clear hO4 hG4))
            all_goals
              have HBn : Hid (Blk (w4.setCell ⟨g, 1, none⟩ (.slice C4 (q + 1) c4)) g 49 #[.pointer (some ⟨gt, 0, none⟩), .slice C4 (q + 1) c4]) := lib_hid (by have := HB4.set 1 (.slice C4 (q + 1) c4); simpa using this)
              have HKn : Hid (Keeps (fun k => k = g) W0 (w4.setCell ⟨g, 1, none⟩ (.slice C4 (q + 1) c4))) := lib_hid (((Hk.out.trans ((HG5.out.alloc (.cells #[.int .u8 (t0.toNat : Int), .int .u8 (t1.toNat : Int), .int .u8 (t2.toNat : Int), .int .u8 (t3.toNat : Int)] 50)).keeps (fun k => k = g)) (fun _ h _ => h)).trans (keeps_grown HG4.out) (fun i hi hlt => by have e2 : gw = i := Option.some.inj hi; omega)).trans (keeps_set _ _ _) (fun _ h _ => h))
              have HOn : Hid ((w4.setCell ⟨g, 1, none⟩ (.slice C4 (q + 1) c4)).ownsRow (g + 1) 50 4 (.slice C4 (q + 1) c4) (q + 1) ((ws ++ [t0, t1, t2, t3]).map b8)) := by
                have h := own_keepsE HO4.out (keeps_set w4 ⟨g, 1, none⟩ (.slice C4 (q + 1) c4)) (fun k hk e => by simp only at e; omega)
                unfold Hid
                rw [List.map_append]
                exact h
              have Hqn : Hid (q + 1 = p + 1 + 8) := lib_hid (by have := Hq.out; omega)
              have HX2 : Hid (exF tabF key 8 (p + 1) = (ws ++ [t0, t1, t2, t3], s2)) := by rw [HT.out]; exact HX
              clear hc4 hf4 HB4 HO4 HG4 hbase HBh HBa HOa HG5 hle5 hq0 hq1 hq2 hq3 hat5 hcg5 HBg HXa HXb hcg hix HB HO Hk
              go_wp2
              go_roundw
              case rel => exact ⟨p + 1, q + 1, s2, C4, c4, _, by omega, rfl, by go_num, Hqn, HX2, HKn, HBn, HOn⟩
              case measure => simp [intOf]; omega
          · obtain ⟨r, hre, hr1, hr2⟩ : ∃ r : Nat, (8 + p) % 8 = r ∧ ¬ r = 0 ∧ ¬ (6 < 8 ∧ r = 4) := ⟨_, rfl, hr0, hr4⟩
            have hm := hrem r hre
            have hb0 : (((r : Nat) : Int) == 0) = false := by simp; omega
            have hb4 : (((r : Nat) : Int) == 4) = false := by simp; omega
            clear hrem
            go_upto_region 22 with fail
            obtain ⟨v0, v1, v2, v3, Hv⟩ : ∃ v0 v1 v2 v3 : UInt8, Hid ([x0, x1, x2, x3] = [v0, v1, v2, v3]) := ⟨x0, x1, x2, x3, lib_hid rfl⟩
            obtain ⟨wv, Hwv⟩ : ∃ wv, Hid (W1 = wv) := ⟨_, lib_hid rfl⟩
            have HBv : Hid (Blk wv qb 50 #[b8 v0, b8 v1, b8 v2, b8 v3]) := by
              have := HBc.out
              have e := Hv.out
              simp only [List.cons.injEq, and_true] at e
              obtain ⟨rfl, rfl, rfl, rfl⟩ := e
              rw [← Hwv.out]; exact this
            have HGv : Hid (Grows wr wv) := by rw [← Hwv.out]; exact HgW
            obtain ⟨s2, Hs2⟩ : ∃ s2, Hid (s = s2) := ⟨_, lib_hid rfl⟩
            have HX : Hid (exF T key 8 (p + 1) = (ws ++ xorF [v0, v1, v2, v3] [u0, u1, u2, u3], s2)) := by
              unfold Hid
              rw [exF, Hst.out]; simp only; unfold exW
              rw [if_neg hr0, if_neg hr4, if_neg hr0, ← Hv.out, ← Hs2.out]
              unfold w4
              rw [Hx0.out, Hx1.out, Hx2.out, Hx3.out, Hu0.out, Hu1.out, Hu2.out, Hu3.out]
            rw [Hwv.out, Hs2.out]
            clear HBc HgW Hwv HKt hm hb0 hb4
            obtain ⟨t0, t1, t2, t3, Ht⟩ : ∃ t0 t1 t2 t3 : UInt8, Hid (xorF [v0, v1, v2, v3] [u0, u1, u2, u3] = [t0, t1, t2, t3]) := ⟨_, _, _, _, lib_hid rfl⟩
            rw [Ht.out] at HX
            have HBg : Hid (Blk wv.drew g 49 #[.pointer (some ⟨gt, 0, none⟩), .slice (some ⟨gw, 0, none⟩) q cc]) := lib_hid (HB.out.grows HGv.out.drew)
            have hcg := HBg.out.cell 1
            have HXa : Hid (SB wv.drew (some ⟨qb, 0, none⟩) 4 4 [v0, v1, v2, v3]) := by
              have := HBv.out.drew.row (o := 0) (n := 4) (c := 4) (by omega) (by simp) (by decide)
              exact lib_hid this
            have HXb : Hid (SB wv.drew (some ⟨gw, p * 4, none⟩) 4 4 [u0, u1, u2, u3]) := lib_hid (HRp.out.grows HGv.out.drew)
            have hix : (p : Int) < (q : Int) := by have := Hq.out; omega
            have hszv : g < wv.heap.size := HBg.out.lt
            have hq60 : q ≤ 60 := by have := Hq.out; omega
            have hwp : IntKind.i64.wrap (p : Int) = (p : Int) := i64_wrap _ (by omega) (by omega)
            clear HBv
            go_region_law (first | (go_simp; go_at_call 15; refine (xor_any _ _ 4 4 4 4 [v0, v1, v2, v3] [u0, u1, u2, u3] wv.drew HXa.out HXb.out (by omega)).mono ?_; rintro e1 w5 ⟨A5, n5, c5, hn5, rfl, hg5, ho5⟩; obtain rfl : n5 = 4 := (by rw [hn5.out, xorF_len]; rfl); have hs5 := SB.own ho5; rw [Ht.out] at hs5; obtain ⟨b5, o5, rfl, hb5, hcl5⟩ := hs5.2.2.2.2 (by omega); have hc5 := hs5.2.1; have hq0 : w5.cell? ⟨b5, o5, none⟩ = some (.int .u8 (t0.toNat : Int)) := hcl5 0 (by omega); have hq1 : w5.cell? ⟨b5, o5 + 1, none⟩ = some (.int .u8 (t1.toNat : Int)) := hcl5 1 (by omega); have hq2 : w5.cell? ⟨b5, o5 + 2, none⟩ = some (.int .u8 (t2.toNat : Int)) := hcl5 2 (by omega); have hq3 : w5.cell? ⟨b5, o5 + 3, none⟩ = some (.int .u8 (t3.toNat : Int)) := hcl5 3 (by omega); have hat5 := (fun W => run_arrayAtA (Pr := Try.prog) Try.underlying50 (some ⟨b5, o5, none⟩) 4 c5 (by omega) W); have hcg5 := (HBg.out.grows hg5).cell 1; have HG5 := lib_hid (HGv.out.drew.trans hg5); have HOa := lib_hid (own_grows HO.out (HG5.out.alloc (.cells #[.int .u8 (t0.toNat : Int), .int .u8 (t1.toNat : Int), .int .u8 (t2.toNat : Int), .int .u8 (t3.toNat : Int)] 50))); have HBa := lib_hid (Blk.new w5 50 #[b8 t0, b8 t1, b8 t2, b8 t3]); have HBh := lib_hid (((HBg.out.grows hg5).alloc (.cells #[.int .u8 (t0.toNat : Int), .int .u8 (t1.toNat : Int), .int .u8 (t2.toNat : Int), .int .u8 (t3.toNat : Int)] 50))); have hch := HBh.out.cell 1; have hle5 : wv.heap.size ≤ w5.heap.size := hg5.size; have hbase : g + 1 ≤ (w5.alloc (.cells #[.int .u8 (t0.toNat : Int), .int .u8 (t1.toNat : Int), .int .u8 (t2.toNat : Int), .int .u8 (t3.toNat : Int)] 50)).heap.size := (by simp; omega); clear hs5 ho5 hn5 hg5 hcl5) | (refine step_append_quad rfl (.tmp 100) (.tmp 114) 47 rfl (g + 1) 50 _ 4 Try.underlying47 Try.infoQ rfl (some ⟨gw, 0, none⟩) q cc _ rfl HOa.out w5.heap.size rfl 50 t0 t1 t2 t3 HBa.out (by omega) (by omega) hbase ?_; intro C4 c4 w4 hO4 hG4; have HB4 := HBh.out.grown hG4 (fun e => by have e2 : g = gw := Option.some.inj e; omega); have hc4 := HB4.cell 1; have hf4 := HB4.frozen 1; have HO4 := lib_hid hO4; have HG4 := lib_hid hG4; clear hO4 hG4))
            all_goals
              have HBn : Hid (Blk (w4.setCell ⟨g, 1, none⟩ (.slice C4 (q + 1) c4)) g 49 #[.pointer (some ⟨gt, 0, none⟩), .slice C4 (q + 1) c4]) := lib_hid (by have := HB4.set 1 (.slice C4 (q + 1) c4); simpa using this)
              have HKn : Hid (Keeps (fun k => k = g) W0 (w4.setCell ⟨g, 1, none⟩ (.slice C4 (q + 1) c4))) := lib_hid (((Hk.out.trans ((HG5.out.alloc (.cells #[.int .u8 (t0.toNat : Int), .int .u8 (t1.toNat : Int), .int .u8 (t2.toNat : Int), .int .u8 (t3.toNat : Int)] 50)).keeps (fun k => k = g)) (fun _ h _ => h)).trans (keeps_grown HG4.out) (fun i hi hlt => by have e2 : gw = i := Option.some.inj hi; omega)).trans (keeps_set _ _ _) (fun _ h _ => h))
              have HOn : Hid ((w4.setCell ⟨g, 1, none⟩ (.slice C4 (q + 1) c4)).ownsRow (g + 1) 50 4 (.slice C4 (q + 1) c4) (q + 1) ((ws ++ [t0, t1, t2, t3]).map b8)) := by
                have h := own_keepsE HO4.out (keeps_set w4 ⟨g, 1, none⟩ (.slice C4 (q + 1) c4)) (fun k hk e => by simp only at e; omega)
                unfold Hid
                rw [List.map_append]
                exact h
              have Hqn : Hid (q + 1 = p + 1 + 8) := lib_hid (by have := Hq.out; omega)
              have HX2 : Hid (exF tabF key 8 (p + 1) = (ws ++ [t0, t1, t2, t3], s2)) := by rw [HT.out]; exact HX
              clear hc4 hf4 HB4 HO4 HG4 hbase HBh HBa HOa HG5 hle5 hq0 hq1 hq2 hq3 hat5 hcg5 HBg HXa HXb hcg hix HB HO Hk
              go_wp2
              go_roundw
              case rel => exact ⟨p + 1, q + 1, s2, C4, c4, _, by omega, rfl, by go_num, Hqn, HX2, HKn, HBn, HOn⟩
              case measure => simp [intOf]; omega
        · have hki : ¬ (p : Int) + 8 < 60 := by omega
          obtain rfl : p = 52 := by omega
          obtain rfl : q = 60 := by have := Hq.out; omega
          obtain ⟨gw, rfl, hgb, hgl, hqc, hcm, hcell⟩ := own_quad HO.out (by omega)
          have HKR : Hid (KeyR wr wr.heap.size g tabF (exF tabF key 8 52).1 14) := by
            obtain ⟨bk, hb1, hb2⟩ := HT0.out
            have hb3 : Blk wr gt 84 ((tabF ++ bk).map b8).toArray := (show Blk wr gt _ _ from hb2.keeps Hk.out (by omega))
            refine ⟨gt, gw, cc, HB.out.lt, hb3.lt, hgl, Nat.le_refl _, HB.out, fun j hj => ?_, fun j hj => ?_⟩
            · rw [hb3.cell, List.getElem?_toArray, List.getElem?_map, List.getElem?_append_left (by rw [tabF_len]; exact hj), List.getD_eq_getElem?_getD, List.getElem?_eq_getElem (by rw [tabF_len]; exact hj)]
              rfl
            · rw [Hst.out]; exact hcell j (by omega)
          have HGf : Hid (Grows w wr) := lib_hid (Below.trans HG0.out (Hk.out.below HG0.out.size (by intro i hi; have := Hgt.out; omega)))
          have HgF : Hid (w.heap.size ≤ g) := lib_hid (by have := Hgt.out; omega)
          clear hcell hgb hgl hqc hcm HO HB Hk Hst Hq HT0
          go_wp2
          go_ret2
          exact ⟨g, rfl, HGf.out, HgF.out, HKR.out⟩
end Go.Proofs.Ythcmdjaccjghjaa
