/-
  The walk of DescEmpty.
-/
import Derived.Test.YtbmmjkpibnnmeaaDesc6
import Derived.Test.YtbmmjkpibnnmeaaLaw15a
import Derived.Deep.Cut
namespace Go.Proofs.Ytbmmjkpibnnmeaa
open Go Go.RowKit
set_option linter.unusedSimpArgs false


theorem empty_meet (l : List (Int × Int)) (k : Int) : meetB l [(k, 0)] = false := by
  unfold meetB
  rw [List.any_eq_false]
  intro p _
  simp [meetsB]
theorem one_meet {l : List (Int × Int)} (k : Int) : meetB [(k, 1)] l = decide (k ∈ placesF l) := by
  rw [Bool.eq_iff_iff, meetB_iff, decide_eq_true_eq, mem_places]
  constructor
  · rintro ⟨p, hp, q, hq, h⟩
    rw [List.mem_singleton] at hp
    subst hp
    obtain ⟨h1, h2, h3, h4⟩ := meetsB_iff.1 h
    simp only at h1 h2 h3 h4
    exact ⟨q, hq, h2, by omega, by omega⟩
  · rintro ⟨q, hq, h1, h2, h3⟩
    exact ⟨(k, 1), by simp, q, hq, meetsB_iff.2 ⟨by simp only; omega, h1, by simp only; omega, by simp only; omega⟩⟩
theorem apart_two (k y : Int) : apartB [(k, y), (k, y)] = !meetsB (k, y) (k, y) := by
  simp [apartB, rowB, List.range_succ, meetsB]
theorem apart_one (k : Int) : apartB [(k, 1), (k, 1)] = false := by
  have h : (k : Int) < k + 1 := by omega
  rw [apart_two]
  simp [meetsB, h]
theorem apart_nought (k : Int) : apartB [(k, 0), (k, 0)] = true := by
  rw [apart_two]
  simp [meetsB]
theorem span_of {w : World} {g : Nat} {t : TypeId} {x y : Int} (h : Blk w g t #[iV x, iV y]) : SpanR w (some ⟨g, 0, none⟩) 1 1 [(x, y)] :=
  ⟨rfl, Nat.le_refl _, by unfold maxLen; omega, fun e => (by cases e), fun _ => ⟨g, 0, rfl, h.lt, fun j p hj => by
    have h0 : j = 0 := by have := (List.getElem?_eq_some_iff.1 hj).1; simpa using this
    subst h0
    simp only [List.getElem?_cons_zero, Option.some.injEq] at hj
    subst hj
    rw [h.cell, h.cell]
    exact ⟨rfl, rfl⟩⟩⟩
theorem own_span {w : World} {g base : Nat} {t : TypeId} {x y : Int} (h : Blk w g t #[iV x, iV y]) (hb : base ≤ g) : w.ownsRow base t 2 (.slice (some ⟨g, 0, none⟩) 1 1) 1 (flat [(x, y)]) :=
  ⟨rfl, .inr ⟨g, 1, _, rfl, hb, h, Nat.le_refl _, by unfold maxLen; omega, rfl, rfl⟩⟩

set_option maxRecDepth 100000 in
set_option maxHeartbeats 4000000 in
theorem walk_DescEmpty (A : Option Addr) (N c : Nat) (a : List (Int × Int)) (at_ : UInt16) (w : World) (hs1 : SpanR w A N c a) :
    Calls Try.prog 6 #[.slice A N c, .int .u16 (at_.toNat : Int)] w fun e w' => e = .returned (.bool true) ∧ Below w.heap.size w w' := by
  have H1 := lib_hid hs1
  have hll1 := lib_hid hs1.len
  obtain ⟨r1, Hr1⟩ : ∃ r, Hid (smallB a = r) := ⟨_, lib_hid rfl⟩
  have Hsm1 : Hid (Calls Try.prog 12 #[.slice A N c] w fun e w' => e = .returned (.bool r1) ∧ w = w') := by
    rw [← Hr1.out]; exact small_any a A N c w hs1
  clear hs1
  obtain ⟨k, Hk, hk0, hkb⟩ : ∃ k : Nat, Hid (at_.toNat = k) ∧ 0 ≤ (k : Int) ∧ (k : Int) < 65536 := ⟨_, lib_hid rfl, by omega, by have := UInt16.toNat_lt_size at_; unfold UInt16.size at this; omega⟩
  rw [Hk.out]
  cases r1
  · go_enter Try.func6, Try.ntmps6
    go_wp2_with fail
    refine Hsm1.out.mono ?_
    rintro e w1 ⟨rfl, rfl⟩
    go_wp2
    go_ret
    exact ⟨rfl, Grows.refl w⟩
  obtain ⟨h12a, hoka⟩ := smallB_le Hr1.out
  have Hoka : Hid (∀ q ∈ a, okSp q) := lib_hid hoka
  have hN : N ≤ 12 := by rw [hll1.out] at h12a; exact h12a
  have Hspa := lib_hid (fun W (hW : Grows w W) => spans15_any a A N c W (H1.out.grows hW) (by omega))
  have HP := lib_hid (places_any a A N c w H1.out hN hoka)
  have Hok0 : Hid (∀ q ∈ [((k : Int), (0 : Int))], okSp q) := by intro q hq; rw [List.mem_singleton] at hq; subst hq; unfold okSp; simp only; omega
  have Hok1 : Hid (∀ q ∈ [((k : Int), (1 : Int))], okSp q) := by intro q hq; rw [List.mem_singleton] at hq; subst hq; unfold okSp; simp only; omega
  have HMa0 : Hid (∀ W A B n c k0 d, SpanR W A n c a → SpanR W B k0 d [((k : Int), (0 : Int))] → Calls Try.prog 18 #[.slice A n c, .slice B k0 d] W fun e w' => e = .returned (.bool false) ∧ Grows W w') := fun W A B n c k0 d h1 h2 => by
    rw [← empty_meet a k]; exact meet_any a _ A B n c k0 d W Hoka.out Hok0.out h1 h2
  obtain ⟨m, Hm⟩ : ∃ m, Hid (decide ((k : Int) ∈ placesF a) = m) := ⟨_, lib_hid rfl⟩
  have HM1a : Hid (∀ W A B n c k0 d, SpanR W A n c [((k : Int), (1 : Int))] → SpanR W B k0 d a → Calls Try.prog 18 #[.slice A n c, .slice B k0 d] W fun e w' => e = .returned (.bool m) ∧ Grows W w') := fun W A B n c k0 d h1 h2 => by
    rw [← Hm.out, ← one_meet]; exact meet_any _ a A B n c k0 d W Hok1.out Hoka.out h1 h2
  have HR0 : Hid (∀ W A n c, SpanR W A n c [((k : Int), (0 : Int))] → Calls Try.prog 17 #[.slice A n c] W fun e w' => e = .returned (.complex .f64 0 0) ∧ Grows W w') := fun W A n c h => by
    have := reachL_any _ A n c W Hok0.out h
    rw [show (rT [((k : Int), (0 : Int))]).2.1 = 0 by simp [rT, rStep], show (rT [((k : Int), (0 : Int))]).2.2 = 0 by simp [rT, rStep], ← cx00] at this
    exact this
  have HA0 : Hid (∀ W A n c, SpanR W A n c ([((k : Int), (0 : Int))] ++ [((k : Int), (0 : Int))]) → Calls Try.prog 21 #[.slice A n c] W fun e w' => e = .returned (.bool true) ∧ Grows W w') := fun W A n c h => by
    have := apart_any _ A n c W (fun q hq => by rcases List.mem_append.1 hq with hq | hq <;> exact Hok0.out q hq) h
    rw [show apartB ([((k : Int), (0 : Int))] ++ [((k : Int), (0 : Int))]) = true from apart_nought k] at this
    exact this
  have HA1 : Hid (∀ W A n c, SpanR W A n c ([((k : Int), (1 : Int))] ++ [((k : Int), (1 : Int))]) → Calls Try.prog 21 #[.slice A n c] W fun e w' => e = .returned (.bool false) ∧ Grows W w') := fun W A n c h => by
    have := apart_any _ A n c W (fun q hq => by rcases List.mem_append.1 hq with hq | hq <;> exact Hok1.out q hq) h
    rw [show apartB ([((k : Int), (1 : Int))] ++ [((k : Int), (1 : Int))]) = false from apart_one k] at this
    exact this
  have HA := lib_hid (fun W => awake15_any W)
  clear h12a hoka
  go_enter Try.func6, Try.ntmps6
  go_wp2_with fail
  refine Hsm1.out.mono ?_
  rintro e w1 ⟨rfl, rfl⟩
  clear Hsm1
  go_wp2_with fail
  refine HP.out.mono ?_
  rintro e wp ⟨Ap, np, cp, hnp, rfl, hgp, hop⟩
  have HRp := lib_hid (row_own1 hop)
  have hcap := HRp.out.2.2.1
  unfold maxLen at hcap
  have hnc := HRp.out.2.1
  clear hop HP
  go_wp2
  go_loopw [7, 8] (fun hv i wr => ∃ (j : Nat) (hb : Bool), j ≤ np ∧ i = .int .i64 j ∧ hv = .bool hb ∧ Hid (decide ((k : Int) ∈ (placesF a).take j) = hb) ∧ Grows wp wr) (fun _ i _ => np - (intOf i).toNat)
  case atStart => exact ⟨0, false, Nat.zero_le _, rfl, rfl, lib_hid (by simp), Grows.refl wp⟩
  case round =>
    obtain ⟨j, hb, hj, rfl, rfl, HH, hgr⟩ := hrel
    by_cases hlt : j < np
    · have hji : (j : Int) < np := by omega
      obtain ⟨bp, offp, rfl, hbp, hcp⟩ := HRp.out.2.2.2.2 (by omega)
      obtain ⟨z, hz⟩ : ∃ z, (placesF a)[j]? = some z := ⟨_, List.getElem?_eq_getElem (by rw [← hnp.out]; exact hlt)⟩
      have hce := (hgr.cell (p := ⟨bp, offp + j, none⟩) hbp).trans ((hcp j hlt).trans (by rw [List.getElem?_map, hz]; rfl : _ = some (Value.int .i64 z)))
      have HH2 : Hid (∀ b, (z == (k : Int)) = b → decide ((k : Int) ∈ (placesF a).take (j + 1)) = (hb || b)) := fun b e => by
        rw [← HH.out, ← e, List.take_add_one, hz, Bool.eq_iff_iff]
        simp only [Option.toList_some, List.mem_append, List.mem_singleton, decide_eq_true_eq, Bool.or_eq_true, beq_iff_eq]
        constructor
        · rintro (h | h)
          · exact .inl h
          · exact .inr h.symm
        · rintro (h | h)
          · exact .inl h
          · exact .inr h.symm
      clear hbp hcp hz HH
      cases hb
      · by_cases hzk : z = (k : Int)
        · have he : (z == (k : Int)) = true := by simp [hzk]
          have HH3 := lib_hid (HH2.out true he)
          subst hzk
          clear he HH2
          go_wp2
          go_roundw
          case rel => exact ⟨j + 1, true, by omega, by go_num, rfl, HH3, hgr⟩
          case measure => simp [intOf]; omega
        · have he : (z == (k : Int)) = false := by simp [hzk]
          have HH3 := lib_hid (HH2.out false he)
          clear hzk HH2
          go_wp2
          go_roundw
          case rel => exact ⟨j + 1, false, by omega, by go_num, rfl, HH3, hgr⟩
          case measure => simp [intOf]; omega
      · obtain ⟨b, hb⟩ : ∃ b, (z == (k : Int)) = b := ⟨_, rfl⟩
        have HH3 := lib_hid (HH2.out b hb)
        clear HH2 hb
        go_wp2
        go_roundw
        case rel => exact ⟨j + 1, true, by omega, by go_num, rfl, HH3, hgr⟩
        case measure => simp [intOf]; omega
    · have hji : ¬ (j : Int) < np := by omega
      have Hhb : Hid (hb = m) := by
        unfold Hid
        rw [← HH.out, ← Hm.out, List.take_of_length_le]
        have := hnp.out; omega
      obtain rfl := Hhb.out
      have hG := hgp.trans hgr
      have HB0' : Hid (Blk ((wr.alloc (.cells #[iV (k : Int), iV 0] 28)).alloc (.cells #[iV (k : Int), iV 1] 28)) wr.heap.size 28 #[iV (k : Int), iV 0]) := (Blk.new _ _ _).alloc _
      have HB1' : Hid (Blk ((wr.alloc (.cells #[iV (k : Int), iV 0] 28)).alloc (.cells #[iV (k : Int), iV 1] 28)) (wr.heap.size + 1) 28 #[iV (k : Int), iV 1]) := by
        have := Blk.new (wr.alloc (.cells #[iV (k : Int), iV 0] 28)) 28 #[iV (k : Int), iV 1]
        unfold Hid; simpa using this
      obtain ⟨W1, HW1⟩ : ∃ W1 : World, Hid (W1 = (wr.alloc (.cells #[iV (k : Int), iV 0] 28)).alloc (.cells #[iV (k : Int), iV 1] 28)) := ⟨_, lib_hid rfl⟩
      rw [← HW1.out] at HB0' HB1'
      have hG0 : Grows w W1 := by rw [HW1.out]; exact (hG.alloc _).alloc _
      obtain ⟨g0, Hg0⟩ : ∃ g, Hid (wr.heap.size = g) := ⟨_, lib_hid rfl⟩
      rw [Hg0.out] at HB0' HB1'
      have HB0 := HB0'
      have HB1 := HB1'
      have HZ : Hid (w.heap.size ≤ g0) := by unfold Hid; rw [← Hg0.out]; exact hG.le
      clear HH hnp HRp hcap hnc HB0' HB1' Hhb hG
      go_upto_region 11 with fail
      rw [← HW1.out, Hg0.out]
      have f1 : FloatKind.f64.format.order 0 0 = some .eq := by decide +kernel
      go_wp2_with fail
      refine (Hspa.out _ hG0).mono ?_
      rintro e v1 ⟨A1, n1, c1, hn1, rfl, hg1, ho1⟩
      have HS1 := lib_hid (SpanR.own ho1)
      have hG1 := hG0.trans hg1
      clear ho1 hn1
      have HB1 := lib_hid (HB1.out.grows hg1)
      have HB0 := lib_hid (HB0.out.grows hg1)
      go_wp2_with fail
      refine (HMa0.out _ _ _ _ _ _ _ HS1.out (span_of HB0.out)).mono ?_
      rintro e v2 ⟨rfl, hg2⟩
      have hG2 := hG1.trans hg2
      have HB0 := lib_hid (HB0.out.grows hg2)
      have HB1 := lib_hid (HB1.out.grows hg2)
      go_wp2_with fail
      refine (HR0.out _ _ _ _ (span_of HB0.out)).mono ?_
      rintro e v3 ⟨rfl, hg3⟩
      have hG3 := hG2.trans hg3
      have HB0 := lib_hid (HB0.out.grows hg3)
      have HB1 := lib_hid (HB1.out.grows hg3)
      go_wp2_with fail
      refine (Hspa.out _ hG3).mono ?_
      rintro e v4 ⟨A4, n4, c4, hn4, rfl, hg4, ho4⟩
      have HS4 := lib_hid (SpanR.own ho4)
      have hG4 := hG3.trans hg4
      clear ho4 hn4
      have HB0 := lib_hid (HB0.out.grows hg4)
      have HB1 := lib_hid (HB1.out.grows hg4)
      go_wp2_with fail
      refine (HM1a.out _ _ _ _ _ _ _ (span_of HB1.out) HS4.out).mono ?_
      rintro e v5 ⟨rfl, hg5⟩
      have hG5 := hG4.trans hg5
      have HB0 := lib_hid (HB0.out.grows hg5)
      have HB1 := lib_hid (HB1.out.grows hg5)
      have HZc : Hid (w.heap.size ≤ v5.heap.size) := hG5.le
      have HZ1 : Hid (w.heap.size ≤ g0 + 1) := by have := HZ.out; unfold Hid; omega
      go_wp2_with (at_builtin; refine wpList_append_pair (by kernel_rfl) _ _ 24 rfl w.heap.size 28 (.agg #[.int .i64 0, .int .i64 0]) 16 Try.underlying24 Try.info28 rfl _ 1 1 [((k : Int), (0 : Int))] rfl (own_span HB0.out HZ.out) _ 28 (k : Int) 0 rfl HB0.out (by omega) (by omega) HZc.out ?_; intro A30 c30 u30 ho30 hb30 hgr30)
      have HB1 := lib_hid (HB1.out.grown hgr30 (by simp [blkOf]))
      have hG30 : Grows w u30 := Below.trans hG5 hb30
      have HS30 := lib_hid (SpanR.own ho30)
      clear ho30 hb30 hgr30 HB0 HZc
      refine (HA0.out _ _ _ _ HS30.out).mono ?_
      rintro e u31 ⟨rfl, hg31⟩
      have HB1 := lib_hid (HB1.out.grows hg31)
      have hG31 := hG30.trans hg31
      have HZc : Hid (w.heap.size ≤ u31.heap.size) := hG31.le
      go_wp2_with (at_builtin; refine wpList_append_pair (by kernel_rfl) _ _ 24 rfl w.heap.size 28 (.agg #[.int .i64 0, .int .i64 0]) 16 Try.underlying24 Try.info28 rfl _ 1 1 [((k : Int), (1 : Int))] rfl (own_span HB1.out HZ1.out) _ 28 (k : Int) 1 rfl HB1.out (by omega) (by omega) HZc.out ?_; intro A32 c32 u32 ho32 hb32 hgr32)
      have hG32 : Grows w u32 := Below.trans hG31 hb32
      have HS32 := lib_hid (SpanR.own ho32)
      clear ho32 hb32 hgr32
      refine (HA1.out _ _ _ _ HS32.out).mono ?_
      rintro e u33 ⟨rfl, hg33⟩
      have hG33 := hG32.trans hg33
      go_wp2_with fail
      refine (HA.out _).mono ?_
      rintro e u34 ⟨rfl, hg34⟩
      go_wp2
      go_ret
      exact ⟨rfl, hG33.trans hg34⟩

end Go.Proofs.Ytbmmjkpibnnmeaa
