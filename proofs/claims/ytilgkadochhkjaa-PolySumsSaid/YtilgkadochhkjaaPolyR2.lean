/-
  The walk of palfreyref05.folded.
-/
import Derived.Test.YtilgkadochhkjaaPolyR1
import Derived.Deep.Cut
namespace Go.Proofs.Ytilgkadochhkjaa
open Go Go.RowKit
set_option linter.unusedSimpArgs false

theorem lowA_bd (n : List Nat) (hb : ∀ j, n.getD j 0 ≤ 255) : ∀ i, i ≤ 40 → ∀ j, (lowA n i).getD j 0 ≤ 255
  | 0, _, j => by rw [lowA, List.getD_eq_getElem?_getD, List.getElem?_replicate]; split <;> simp
  | i + 1, h, j => by
    have ih := lowA_bd n hb i (by omega) j
    have hl := lowA_len n i
    have hx := hb i
    rw [lowA]
    split
    · rw [set_getD _ _ _ _ (by omega)]; split
      · exact hx
      · exact ih
    · split
      · rw [set_getD _ _ _ _ (by omega)]; split
        · omega
        · exact ih
      · exact ih
theorem sumA_bd (a b : List Nat) (ha : ∀ j, a.getD j 0 ≤ 255) (hb : ∀ j, b.getD j 0 ≤ 255) : ∀ i, i ≤ a.length → ∀ j, (sumA a b i).getD j 0 ≤ 1530
  | 0, _, j => by have := ha j; rw [sumA]; omega
  | i + 1, h, j => by
    have ih := sumA_bd a b ha hb i (by omega) j
    have h1 := sumA_at a b i i (Nat.le_refl _)
    have h2 := ha i
    have h3 := hb i
    rw [sumA, set_getD _ _ _ _ (by rw [sumA_len]; omega)]
    split
    · omega
    · exact ih
/-- The four blocks of folded. -/
def FS (w : World) (n lo hi : List Nat) (z : Array Value) (W : World) : Prop :=
  Grows w W ∧ Blk W w.heap.size 40 (iL n) ∧ Blk W (w.heap.size + 1) 40 z ∧ Blk W (w.heap.size + 2) 40 (iL lo) ∧ Blk W (w.heap.size + 3) 40 (iL hi)
theorem FS.setLo {w W : World} {n lo hi : List Nat} {z : Array Value} (h : FS w n lo hi z W) (i x : Nat) : FS w n (lo.set i x) hi z (W.setCell ⟨w.heap.size + 2, i, none⟩ (.int .i64 (x : Int))) :=
  ⟨h.1.setCell (p := ⟨w.heap.size + 2, i, none⟩) (by show w.heap.size ≤ w.heap.size + 2; omega) _, h.2.1.far (p := ⟨w.heap.size + 2, i, none⟩) (by simp) _, h.2.2.1.far (p := ⟨w.heap.size + 2, i, none⟩) (by simp) _, blk_setL h.2.2.2.1 i x, h.2.2.2.2.far (p := ⟨w.heap.size + 2, i, none⟩) (by simp) _⟩
theorem FS.setHi {w W : World} {n lo hi : List Nat} {z : Array Value} (h : FS w n lo hi z W) (i x : Nat) : FS w n lo (hi.set i x) z (W.setCell ⟨w.heap.size + 3, i, none⟩ (.int .i64 (x : Int))) :=
  ⟨h.1.setCell (p := ⟨w.heap.size + 3, i, none⟩) (by show w.heap.size ≤ w.heap.size + 3; omega) _, h.2.1.far (p := ⟨w.heap.size + 3, i, none⟩) (by simp) _, h.2.2.1.far (p := ⟨w.heap.size + 3, i, none⟩) (by simp) _, h.2.2.2.1.far (p := ⟨w.heap.size + 3, i, none⟩) (by simp) _, blk_setL h.2.2.2.2 i x⟩
theorem FS.drew {w W : World} {n lo hi : List Nat} {z : Array Value} (h : FS w n lo hi z W) : FS w n lo hi z W.drew :=
  ⟨h.1.drew, h.2.1, h.2.2.1, h.2.2.2.1, h.2.2.2.2⟩

set_option maxRecDepth 100000 in
set_option maxHeartbeats 4000000 in
theorem folded_any (n : List Nat) (hn : n.length = 40) (hb : ∀ j, n.getD j 0 ≤ 255) (w : World) :
    Calls Try.prog 25 #[.agg (iL n)] w fun e w' => e = .returned (.agg (iL (carA (sumA (lowA n 40) (hiA n 24) 40) 40).1)) ∧ Grows w w' := by
  obtain ⟨W0, HW0, hg0⟩ : ∃ W0 : World, Hid (W0 = (w.alloc (.cells (iL n) 40)).alloc (.cells (iL (List.replicate 40 0)) 40)) ∧ Grows w W0 := ⟨_, lib_hid rfl, ((Grows.refl w).alloc _).alloc _⟩
  have hW0 : W0.heap.size = w.heap.size + 2 := by rw [HW0.out]; simp
  obtain ⟨z, Hz⟩ : ∃ z, Hid (iL (List.replicate 40 0) = z) := ⟨_, lib_hid rfl⟩
  have HB0 : Blk W0 w.heap.size 40 (iL n) := by
    rw [HW0.out]; have := (Blk.new (w) 40 (iL n)).alloc (.cells (iL (List.replicate 40 0)) 40); simpa using this
  have HB1 : Blk W0 (w.heap.size + 1) 40 z := by
    rw [HW0.out, ← Hz.out]; have := Blk.new (w.alloc (.cells (iL n) 40)) 40 (iL (List.replicate 40 0)); simpa using this
  obtain ⟨W1, HW1⟩ : ∃ W1 : World, Hid (W1 = (W0.alloc (.cells (iL (List.replicate 40 0)) 40)).alloc (.cells (iL (List.replicate 40 0)) 40)) := ⟨_, lib_hid rfl⟩
  have HF0 : Hid (FS w n (lowA n 0) (hiA n 0) z W1) := by
    unfold Hid; rw [HW1.out]
    have b2 := (Blk.new W0 40 (iL (List.replicate 40 0))).alloc (.cells (iL (List.replicate 40 0)) 40)
    have b3 := Blk.new (W0.alloc (.cells (iL (List.replicate 40 0)) 40)) 40 (iL (List.replicate 40 0))
    refine ⟨(hg0.alloc _).alloc _, (HB0.alloc _).alloc _, (HB1.alloc _).alloc _, ?_, ?_⟩
    · rw [hW0] at b2; exact b2
    · rw [show w.heap.size + 3 = (W0.alloc (.cells (iL (List.replicate 40 0)) 40)).heap.size by simp [hW0]]; exact b3
  have nl := lib_hid hn
  have nb := lib_hid hb
  obtain ⟨L, HL, ll, lb⟩ : ∃ L, Hid (lowA n 40 = L) ∧ Hid (L.length = 40) ∧ Hid (∀ j, L.getD j 0 ≤ 255) := ⟨_, lib_hid rfl, lib_hid (lowA_len n 40), lowA_bd n nb.out 40 (by omega)⟩
  obtain ⟨G, HG, gl, gb⟩ : ∃ L, Hid (hiA n 24 = L) ∧ Hid (L.length = 40) ∧ Hid (∀ j, L.getD j 0 ≤ 255) := ⟨_, lib_hid rfl, lib_hid (hiA_len n 24), (hiA_bd n nb.out 24 (by omega)).2.1⟩
  obtain ⟨S, HS, sl, sb⟩ : ∃ S, Hid (sumA L G 40 = S) ∧ Hid (S.length = 40) ∧ Hid (∀ j, S.getD j 0 ≤ 100000000) := ⟨_, lib_hid rfl, by unfold Hid; rw [sumA_len, ll.out], fun j => by have := sumA_bd L G lb.out gb.out 40 (by rw [ll.out]; omega) j; omega⟩
  have HC : Hid (∀ W, Calls Try.prog 18 #[.agg (iL S)] W fun e w' => e = .returned (.agg (iL (carA S 40).1)) ∧ Grows W w') := carried_any S sl.out sb.out
  obtain ⟨res, Hres, hrl, hra⟩ : ∃ r : Array Value, Hid (iL (carA S 40).1 = r) ∧ Hid (r.size = 40) ∧ Hid (r.all (·.oneCell') = true) := ⟨_, lib_hid rfl, by unfold Hid; rw [iL_size, carA_len, sl.out], iL_all _⟩
  rw [HL.out, HG.out, HS.out, Hres.out]
  have HW0' := HW0.out
  have HW1' := HW1.out
  clear hn hb HW0 HW1 HB0 HB1
  go_enter Try.func25, Try.ntmps25
  go_upto_region 1 with (refine wpList_alloc_arr rfl 40 rfl _ zero40 ?_)
  rw [← HW0']
  clear HW0'
  go_upto_region 2 with (refine wpList_alloc_arr rfl 40 rfl _ zero40 ?_)
  rw [← HW1']
  clear HW1'
  have e2 : (W0.alloc (.cells (iL (List.replicate 40 0)) 40)).heap.size = w.heap.size + 3 := by simp [hW0]
  rw [e2, hW0]
  clear e2 hW0
  go_wp2_with fail
  go_loopw [5] (fun i wr => ∃ k : Nat, k ≤ 40 ∧ i = .int .i64 (k : Int) ∧ Hid (FS w n (lowA n k) (hiA n 0) z wr)) (fun i _ => 40 - (intOf i).toNat)
  case atStart => exact ⟨0, by omega, rfl, HF0⟩
  case round =>
    clear HF0 hg0
    obtain ⟨k, hk, rfl, HF⟩ := hrel
    by_cases hlt : k < 40
    · have hki : (k : Int) < 40 := by omega
      obtain ⟨x, Hx, hxb⟩ : ∃ x : Nat, Hid (n.getD k 0 = x) ∧ (x : Int) ≤ 255 := ⟨_, lib_hid rfl, by have := nb.out k; omega⟩
      have c0 : wr.cell? ⟨w.heap.size, k, none⟩ = some (.int .i64 (x : Int)) := by rw [← Hx.out]; exact cellL HF.out.2.1 k (by rw [nl.out]; exact hlt)
      have f2 : wr.frozen? ⟨w.heap.size + 2, k, none⟩ = false := HF.out.2.2.2.1.frozen k
      have hll := lowA_len n k
      obtain ⟨y0, c2⟩ : ∃ y0 : Nat, wr.cell? ⟨w.heap.size + 2, k, none⟩ = some (.int .i64 (y0 : Int)) := ⟨_, cellL HF.out.2.2.2.1 k (by rw [hll]; exact hlt)⟩
      have b2 := lib_hid HF.out.2.2.2.1
      by_cases h16 : k < 16
      · have hkj : (k : Int) < 16 := by omega
        obtain ⟨W2, HW2⟩ : ∃ X : World, Hid (X = wr.setCell ⟨w.heap.size + 2, k, none⟩ (.int .i64 (x : Int))) := ⟨_, lib_hid rfl⟩
        have HF2 : Hid (FS w n (lowA n (k + 1)) (hiA n 0) z W2) := by
          unfold Hid; rw [HW2.out, lowA, if_pos h16, Hx.out]; exact HF.out.setLo k x
        have HW2' := HW2.out
        clear HF HW2 b2 hlt h16 hll
        go_upto_region 4 with fail
        rw [← HW2']
        clear HW2' c0 f2 c2
        go_wp2_with fail
        go_roundw
        case rel => exact ⟨k + 1, by omega, by go_num, HF2⟩
        case measure => simp [intOf]; omega
      · have hkj : ¬ (k : Int) < 16 := by omega
        by_cases he : k = 16
        · obtain ⟨m, hm, Hm, hmb⟩ : ∃ m : Nat, (x : Int).tmod 4 = (m : Int) ∧ Hid (m = x % 4) ∧ (m : Int) ≤ 3 := ⟨x % 4, by rw [Int.tmod_eq_emod_of_nonneg (by omega)]; omega, lib_hid rfl, by omega⟩
          obtain ⟨W2, HW2⟩ : ∃ X : World, Hid (X = wr.setCell ⟨w.heap.size + 2, k, none⟩ (.int .i64 (m : Int))) := ⟨_, lib_hid rfl⟩
          have HF2 : Hid (FS w n (lowA n (k + 1)) (hiA n 0) z W2) := by
            unfold Hid; rw [HW2.out, lowA, if_neg h16, if_pos he, Hx.out, ← Hm.out]; exact HF.out.setLo k m
          have HW2' := HW2.out
          have hke : ((k : Int) == 16) = true := beq_iff_eq.2 (by omega)
          have He := lib_hid he
          clear HF HW2 b2 hlt h16 hll he
          go_upto_if 20 with fail
          clear hke
          go_upto_region 4 with fail
          rw [← HW2']
          clear HW2' c0 f2 c2 hm
          go_wp2_with fail
          go_roundw
          case rel => exact ⟨k + 1, by omega, by go_num, HF2⟩
          case measure => simp [intOf]; omega
        · have HF2 : Hid (FS w n (lowA n (k + 1)) (hiA n 0) z wr) := by
            unfold Hid; rw [lowA, if_neg h16, if_neg he]; exact HF.out
          have hke : ((k : Int) == 16) = false := beq_false_of_ne (by omega)
          clear HF b2 hlt h16 hll he c0 f2 c2
          go_upto_if 20 with fail
          clear hke
          go_wp2_with fail
          go_roundw
          case rel => exact ⟨k + 1, by omega, by go_num, HF2⟩
          case measure => simp [intOf]; omega
    · have Hk : Hid (k = 40) := by unfold Hid; omega
      have hki : ¬ (k : Int) < 40 := by omega
      have HF1 : Hid (FS w n L (hiA n 0) z wr) := by have := HF.out; rw [Hk.out, HL.out] at this; exact this
      clear HF hlt hk
      go_wp2_with fail
      obtain ⟨wo, ewo⟩ : ∃ wo : World, wo = wr := ⟨_, rfl⟩
      subst ewo
      clear hki
      go_loopw [6] (fun iv wr => ∃ k i : Nat, k ≤ 24 ∧ Hid (i = 16 + k) ∧ iv = .int .i64 (i : Int) ∧ Hid (FS w n L (hiA n k) z wr)) (fun i _ => 40 - (intOf i).toNat)
      case atStart => exact ⟨0, 16, by omega, lib_hid rfl, rfl, HF1⟩
      case round =>
        clear HF1
        obtain ⟨k, i, hk, Hi, rfl, HF⟩ := hrel
        by_cases hlt : k < 24
        · have hki : (i : Int) < 40 := by have := Hi.out; omega
          have Hlt := lib_hid hlt
          obtain ⟨hz1, hz2, _⟩ := hiA_bd n nb.out k (by omega)
          obtain ⟨hz1', hz2', _⟩ := hiA_bd n nb.out (k + 1) (by omega)
          obtain ⟨x, Hx, hxb⟩ : ∃ x : Nat, Hid (n.getD i 0 = x) ∧ (x : Int) ≤ 255 := ⟨_, lib_hid rfl, by have := nb.out i; omega⟩
          obtain ⟨y, Hy, hyb⟩ : ∃ y : Nat, Hid ((hiA n k).getD k 0 = y) ∧ (y : Int) ≤ 255 := ⟨_, lib_hid rfl, by have := hz2 k; omega⟩
          have c0 : wr.cell? ⟨w.heap.size, i, none⟩ = some (.int .i64 (x : Int)) := by rw [← Hx.out]; exact cellL HF.out.2.1 i (by rw [nl.out]; omega)
          have c3 : wr.cell? ⟨w.heap.size + 3, k, none⟩ = some (.int .i64 (y : Int)) := by rw [← Hy.out]; exact cellL HF.out.2.2.2.2 k (by rw [hiA_len]; omega)
          have f3 : wr.frozen? ⟨w.heap.size + 3, k, none⟩ = false := HF.out.2.2.2.2.frozen k
          obtain ⟨q, hq, Hq, hqb⟩ : ∃ q : Nat, (x : Int).tdiv 4 = (q : Int) ∧ Hid (q = x / 4) ∧ (q : Int) ≤ 63 := ⟨x / 4, by rw [Int.tdiv_eq_ediv_of_nonneg (by omega)]; omega, lib_hid rfl, by omega⟩
          obtain ⟨s, hs, Hs, hsb⟩ : ∃ s : Nat, (y : Int) + (q : Int) = (s : Int) ∧ Hid (s = y + q) ∧ (s : Int) ≤ 1000 := ⟨y + q, by omega, lib_hid rfl, by omega⟩
          have hj : (i : Int) - 16 = (k : Int) := by have := Hi.out; omega
          have hkb : (k : Int) < 40 := by omega
          obtain ⟨W2, HW2⟩ : ∃ X : World, Hid (X = (wr.setCell ⟨w.heap.size + 3, k, none⟩ (.int .i64 (s : Int))).drew) := ⟨_, lib_hid rfl⟩
          have HF2 : Hid (FS w n L ((hiA n k).set k s) z W2) := by unfold Hid; rw [HW2.out]; exact (HF.out.setHi k s).drew
          have HW2' := HW2.out
          have Hz2 := lib_hid hz2
          clear HF HW2 hz1 hz2 hz1' hz2'
          go_upto_region 12 with fail
          clear hki
          go_region
          rw [← HW2']
          clear HW2' c0 c3 f3 hq hs hj
          by_cases h0 : 0 < k
          · have hgt : (16 : Int) < (i : Int) := by have := Hi.out; omega
            obtain ⟨j, hj, Hj, hjb⟩ : ∃ j : Nat, (i : Int) - 17 = (j : Int) ∧ Hid (j = k - 1) ∧ (j : Int) < 40 := ⟨k - 1, by have := Hi.out; omega, lib_hid rfl, by omega⟩
            obtain ⟨y2, Hy2, hyb2⟩ : ∃ y : Nat, Hid (((hiA n k).set k s).getD j 0 = y) ∧ (y : Int) ≤ 1000 := ⟨_, lib_hid rfl, by
              rw [set_getD _ _ _ _ (by rw [hiA_len]; omega)]
              split
              · exact hsb
              · have := Hz2.out j; omega⟩
            obtain ⟨m, hm, Hm, hmb⟩ : ∃ m : Nat, (x : Int).tmod 4 = (m : Int) ∧ Hid (m = x % 4) ∧ (m : Int) ≤ 3 := ⟨x % 4, by rw [Int.tmod_eq_emod_of_nonneg (by omega)]; omega, lib_hid rfl, by omega⟩
            obtain ⟨m2, hm2, Hm2, hm2b⟩ : ∃ t : Nat, (m : Int) * 64 = (t : Int) ∧ Hid (t = m * 64) ∧ (t : Int) ≤ 200 := ⟨m * 64, by omega, lib_hid rfl, by omega⟩
            obtain ⟨s2, hs2, Hs2, hs2b⟩ : ∃ s : Nat, (y2 : Int) + (m2 : Int) = (s : Int) ∧ Hid (s = y2 + m2) ∧ (s : Int) ≤ 2000 := ⟨y2 + m2, by omega, lib_hid rfl, by omega⟩
            have c0 : W2.cell? ⟨w.heap.size, i, none⟩ = some (.int .i64 (x : Int)) := by rw [← Hx.out]; exact cellL HF2.out.2.1 i (by rw [nl.out]; have := Hi.out; omega)
            have c3 : W2.cell? ⟨w.heap.size + 3, j, none⟩ = some (.int .i64 (y2 : Int)) := by rw [← Hy2.out]; exact cellL HF2.out.2.2.2.2 j (by rw [List.length_set, hiA_len]; omega)
            have f3 : W2.frozen? ⟨w.heap.size + 3, j, none⟩ = false := HF2.out.2.2.2.2.frozen j
            obtain ⟨W3, HW3⟩ : ∃ X : World, Hid (X = (W2.setCell ⟨w.heap.size + 3, j, none⟩ (.int .i64 (s2 : Int))).drew) := ⟨_, lib_hid rfl⟩
            have HF3 : Hid (FS w n L (hiA n (k + 1)) z W3) := by
              have := (HF2.out.setHi j s2).drew
              unfold Hid
              rw [HW3.out, hiA, if_pos h0, ← Hi.out, Hx.out, Hy.out, ← Hq.out, ← Hs.out, ← Hj.out, Hy2.out, ← Hm.out, ← Hm2.out, ← Hs2.out]
              exact this
            have HW3' := HW3.out
            have hib : (i : Int) < 40 := by have := Hi.out; omega
            clear HF2 HW3 Hz2 h0 hlt
            go_upto_region 14 with fail
            clear hgt
            go_region
            rw [← HW3']
            clear HW3' c0 c3 f3 hm hm2 hs2 hj
            go_wp2_with fail
            go_roundw
            case rel => exact ⟨k + 1, i + 1, by have := Hlt.out; omega, by have := Hi.out; unfold Hid; omega, by go_num, HF3⟩
            case measure => simp [intOf]; omega
          · have hgt : ¬ (16 : Int) < (i : Int) := by have := Hi.out; omega
            have HF3 : Hid (FS w n L (hiA n (k + 1)) z W2) := by
              unfold Hid
              rw [hiA, if_neg h0, ← Hi.out, Hx.out, Hy.out, ← Hq.out, ← Hs.out]
              exact HF2.out
            have hib : (i : Int) < 40 := by have := Hi.out; omega
            clear HF2 Hz2 h0 hlt
            go_wp2_with fail
            go_roundw
            case rel => exact ⟨k + 1, i + 1, by have := Hlt.out; omega, by have := Hi.out; unfold Hid; omega, by go_num, HF3⟩
            case measure => simp [intOf]; omega
        · have Hk : Hid (k = 24) := by unfold Hid; omega
          have hki : ¬ (i : Int) < 40 := by have := Hi.out; omega
          have HF1 : Hid (FS w n (sumA L G 0) G z wr) := by have := HF.out; rw [Hk.out, HG.out] at this; exact this
          clear HF hlt hk Hi
          go_wp2_with fail
          obtain ⟨wo, ewo⟩ : ∃ wo : World, wo = wr := ⟨_, rfl⟩
          subst ewo
          clear hki
          go_loopw [7] (fun iv wr => ∃ k : Nat, k ≤ 40 ∧ iv = .int .i64 (k : Int) ∧ Hid (FS w n (sumA L G k) G z wr)) (fun i _ => 40 - (intOf i).toNat)
          case atStart => exact ⟨0, by omega, rfl, HF1⟩
          case round =>
            clear HF1
            obtain ⟨k, hk, rfl, HF⟩ := hrel
            by_cases hlt : k < 40
            · have hki : (k : Int) < 40 := by omega
              obtain ⟨x, Hx, hxb⟩ : ∃ x : Nat, Hid ((sumA L G k).getD k 0 = x) ∧ (x : Int) ≤ 255 := ⟨_, lib_hid rfl, by have := lb.out k; rw [sumA_at _ _ _ _ (Nat.le_refl _)]; omega⟩
              obtain ⟨y, Hy, hyb⟩ : ∃ y : Nat, Hid (G.getD k 0 = y) ∧ (y : Int) ≤ 255 := ⟨_, lib_hid rfl, by have := gb.out k; omega⟩
              have c2 : wr.cell? ⟨w.heap.size + 2, k, none⟩ = some (.int .i64 (x : Int)) := by rw [← Hx.out]; exact cellL HF.out.2.2.2.1 k (by rw [sumA_len, ll.out]; exact hlt)
              have c3 : wr.cell? ⟨w.heap.size + 3, k, none⟩ = some (.int .i64 (y : Int)) := by rw [← Hy.out]; exact cellL HF.out.2.2.2.2 k (by rw [gl.out]; exact hlt)
              have f2 : wr.frozen? ⟨w.heap.size + 2, k, none⟩ = false := HF.out.2.2.2.1.frozen k
              obtain ⟨m, hm, Hm, hmb⟩ : ∃ t : Nat, (5 : Int) * (y : Int) = (t : Int) ∧ Hid (t = 5 * y) ∧ (t : Int) ≤ 1275 := ⟨5 * y, by omega, lib_hid rfl, by omega⟩
              obtain ⟨s, hs, Hs, hsb⟩ : ∃ s : Nat, (x : Int) + (m : Int) = (s : Int) ∧ Hid (s = x + m) ∧ (s : Int) ≤ 2000 := ⟨x + m, by omega, lib_hid rfl, by omega⟩
              obtain ⟨W2, HW2⟩ : ∃ X : World, Hid (X = (wr.setCell ⟨w.heap.size + 2, k, none⟩ (.int .i64 (s : Int))).drew) := ⟨_, lib_hid rfl⟩
              have HF2 : Hid (FS w n (sumA L G (k + 1)) G z W2) := by
                have := (HF.out.setLo k s).drew
                unfold Hid; rw [HW2.out, sumA, Hx.out, Hy.out, ← Hm.out, ← Hs.out]; exact this
              have HW2' := HW2.out
              clear HF HW2 hlt
              go_upto_region 18 with fail
              go_region
              rw [← HW2']
              clear HW2' c2 c3 f2 hm hs
              go_wp2_with fail
              go_roundw
              case rel => exact ⟨k + 1, by omega, by go_num, HF2⟩
              case measure => simp [intOf]; omega
            · have Hk : Hid (k = 40) := by unfold Hid; omega
              have hki : ¬ (k : Int) < 40 := by omega
              have HF1 : Hid (FS w n S G z wr) := by have := HF.out; rw [Hk.out, HS.out] at this; exact this
              obtain ⟨sv, Hsv, svl⟩ : ∃ r : Array Value, Hid (iL S = r) ∧ r.size = 40 := ⟨_, lib_hid rfl, by rw [iL_size, sl.out]⟩
              have zl : z.size = 40 := by rw [← Hz.out, iL_size]; simp
              have hgr := HF1.out.1
              have hrl := hrl.out
              have hra := hra.out
              have hZ := lib_hid HF1.out.2.2.1
              have hS := lib_hid HF1.out.2.2.2.1
              rw [Hsv.out] at hS HC
              rw [Hres.out] at HC
              clear HF HF1 hlt sl sb
              go_wp2_with (refine wpList_load_blk rfl _ _ rfl (w.heap.size + 2) rfl 40 sv _ hS.out Try.underlying40 rfl (by rw [Try.size40, svl]) ?_)
              refine (HC.out _).mono ?_
              rintro e w3 ⟨rfl, hg3⟩
              have hZ3 := lib_hid (hZ.out.grows hg3)
              have hgr3 := hgr.trans hg3
              clear hZ hS HC hgr hg3
              go_wp2_with (refine wpList_store_blk rfl _ _ _ rfl (w.heap.size + 1) res rfl rfl 40 _ hZ3.out (by rw [Try.size40, hrl]) (by rw [zl, hrl]) hra (w.heap.size + 1) w3 (Below.refl _ _) (Nat.le_refl _) ?_; intro w5 HR6 hb5 hgr5)
              refine bodyPost_ret (results_cell_row rfl _ _ (w.heap.size + 1) _ res _ _ rfl HR6 Try.underlying40 rfl (by rw [Try.size40, hrl])) rfl ?_
              exact ⟨rfl, Below.trans hgr3 (hb5.mono (by omega))⟩

end Go.Proofs.Ytilgkadochhkjaa
