/-
  palfreyref13: Blocks, Ends.
-/
import Derived.Test.YtnlffaglmcddkaaDoorLOrder2
import Derived.Deep.Cut
namespace Go.Proofs.YtnlffaglmcddkaaDoor
open Go Go.RowKit
set_option linter.unusedSimpArgs false
set_option linter.unusedVariables false


set_option maxRecDepth 100000 in
set_option maxHeartbeats 4000000 in
theorem refBlocks_any (x : Int) (hx : -9223372036854775808 ≤ x ∧ x ≤ 1000000) (w : World) : Calls Tryd.prog 26 #[.int .i64 x] w fun e w' => e = .returned (.int .i64 (blkN x.toNat : Int)) ∧ Grows w w' := by
  obtain ⟨m, Hm⟩ : ∃ m, Hid (blkN x.toNat = m) := ⟨_, lib_hid rfl⟩
  have hmm : m ≤ 1000000 := by have := Hm.out; unfold blkN at this; omega
  have hm1 : 1 ≤ m := by have := Hm.out; unfold blkN at this; omega
  rw [Hm.out]
  by_cases h0 : x < 0
  · obtain rfl : m = 1 := by have := Hm.out; unfold blkN at this; omega
    have h00 : ¬ (64 * 1 - 9 : Int) < 0 := by omega
    go_enter Tryd.func26, Tryd.ntmps26
    go_wp2
    go_loop [3] (fun i => i = .int .i64 1) (fun _ => 0)
    case atStart => rfl
    case round =>
      subst hrel
      go_wp2
      go_ret
      exact ⟨rfl, Grows.refl _⟩
  · obtain ⟨n, rfl⟩ := Int.eq_ofNat_of_zero_le (show 0 ≤ x by omega)
    have Hm2 : Hid (∀ k : Nat, k < m ↔ 64 * k ≤ n + 8) := fun k => by have := Hm.out; unfold blkN at this; rw [Int.toNat_natCast] at this; omega
    have hnm : (n : Int) ≤ 1000000 := by omega
    clear hx h0
    go_enter Tryd.func26, Tryd.ntmps26
    go_wp2
    go_loop [3] (fun i => ∃ k : Nat, 1 ≤ k ∧ k ≤ m ∧ i = .int .i64 k) (fun i => m - (intOf i).toNat)
    case atStart => exact ⟨1, Nat.le_refl _, hm1, rfl⟩
    case round =>
      obtain ⟨k, hk1, hk, rfl⟩ := hrel
      by_cases hlt : k < m
      · have hlt2 : 64 * (k : Int) - 9 < (n : Int) := by have := (Hm2.out k).1 hlt; omega
        have hkm : (k : Int) ≤ 1000000 := by omega
        go_wp2
        go_round
        case rel => exact ⟨k + 1, by omega, by omega, by go_num⟩
        case measure => simp [intOf]; omega
      · have hlt2 : ¬ 64 * (k : Int) - 9 < (n : Int) := by
          intro h
          exact hlt ((Hm2.out k).2 (by omega))
        obtain rfl : k = m := by omega
        have hkm : (k : Int) ≤ 1000000 := by omega
        go_wp2
        go_ret
        exact ⟨rfl, Grows.refl _⟩

theorem own_keeps {own : Nat → Prop} {w w' : World} {base size n : Nat} {e : TypeId} {v : Value} {xs : List Value} (h : w.ownsRow base e size v n xs) (k : Keeps own w w') (ho : ∀ g, base ≤ g → ¬ own g) : w'.ownsRow base e size v n xs := by
  obtain ⟨h1, h2⟩ := h
  refine ⟨h1, ?_⟩
  rcases h2 with h2 | ⟨g, cap, cur, hv, hb, hh, r⟩
  · exact Or.inl h2
  · exact Or.inr ⟨g, cap, cur, hv, hb, (show Blk w g e cur from hh).keeps k (ho g hb), r⟩
theorem Tryd.infoA2 : (Tryd.prog.info? 59).map (fun i => (i.zero, i.size, i.bytes)) = some (some (.agg #[.int .i64 0, .int .i64 0]), 2, 16) := by kernel_rfl
def freeC (f : List Nat) : Array Value := (f.map fun x : Nat => iV (x : Int)).toArray
theorem freeC_at (f : List Nat) (j : Nat) (h : j < f.length) : (freeC f)[j]? = some (iV ((f.getD j 0 : Nat) : Int)) := by
  rw [freeC, List.getElem?_toArray, List.getElem?_map, List.getElem?_eq_getElem h, List.getD_eq_getElem?_getD, List.getElem?_eq_getElem h]
  rfl
theorem freeC_set (f : List Nat) (j x : Nat) : (freeC f).setIfInBounds j (iV (x : Int)) = freeC (f.set j x) := by
  rw [freeC, List.setIfInBounds_toArray, ← List.map_set]
  rfl
def endsL (B : Nat → Nat) (k : Nat) : List (Int × Int) := (List.range k).map fun m => (((endF B m).1 : Int), ((endF B m).2 : Int))
theorem endsL_succ (B : Nat → Nat) (k : Nat) : endsL B (k + 1) = endsL B k ++ [(((endF B k).1 : Int), ((endF B k).2 : Int))] := by
  unfold endsL
  rw [List.range_succ, List.map_append]
  rfl
set_option maxRecDepth 100000 in
set_option maxHeartbeats 4000000 in
theorem ends_any (l : List Int) (A : Option Addr) (n c : Nat) (w : World) (hl : IR w A n c l) (hn : n ≤ 100) (h5 : ∀ x ∈ l, -9223372036854775808 ≤ x ∧ x ≤ 5000) :
    Calls Tryd.prog 11 #[.slice A n c] w fun e w' => ∃ C c', e = .returned (.tuple #[.slice C n c', .int .i64 (maxF (blkL l) n : Int)]) ∧ Grows w w' ∧ SpanR w' C n c' (endsL (blkL l) n) := by
  have HL := lib_hid hl
  have H5 := lib_hid h5
  have hnm : (n : Int) ≤ 100 := by omega
  have hcap := hl.2.2.1
  unfold maxLen at hcap
  have hnc := hl.2.1
  obtain ⟨B, HB⟩ : ∃ B, Hid (blkL l = B) := ⟨_, lib_hid rfl⟩
  have Hbd : Hid (∀ k, k ≤ n → maxF B k ≤ 100000) := fun k hk => by
    have := maxF_bound (blkL l) 80 (blkL_le l h5) k
    rw [HB.out] at this
    omega
  rw [HB.out]
  clear hl h5
  go_enter Tryd.func11, Tryd.ntmps11
  go_wp2
  go_loopw [7, 5, 6] (fun i o s wr => ∃ (k : Nat) (C : Option Addr) (e : Nat), k ≤ n ∧ i = .int .i64 k ∧ o = .slice C k e ∧ Hid (s = .int .i64 (maxF B k : Int)) ∧ Grows w wr ∧ Hid (Blk wr w.heap.size 58 (freeC (freeF B k))) ∧ Hid (wr.ownsRow (w.heap.size + 1) 59 2 (.slice C k e) k (flat (endsL B k)))) (fun i _ _ _ => n - (intOf i).toNat)
  case atStart => exact ⟨0, none, 0, Nat.zero_le _, rfl, rfl, lib_hid rfl, (Grows.refl w).alloc _, lib_hid (Blk.new _ _ _), lib_hid (World.ownsRow_nil _ _ _ _)⟩
  case round =>
    obtain ⟨k, C, e, hk, rfl, rfl, Hs, hgr, HF, HO⟩ := hrel
    obtain ⟨st, Hst⟩ : ∃ st, Hid (maxF B k = st) := ⟨_, lib_hid rfl⟩
    have hs := Hs.out
    rw [Hst.out] at hs
    subst hs
    have hsm : (st : Int) ≤ 100000 := by have := Hbd.out k hk; have := Hst.out; omega
    by_cases hlt : k < n
    · have hki : (k : Int) < n := by omega
      obtain ⟨bk, off, xx, rfl, hb, hx, hc⟩ := HL.out.at hlt
      have hx5 := H5.out xx (List.mem_of_getElem? hx)
      have HCl0 : Hid (∀ W, Grows wr W → W.cell? ⟨bk, off + k, none⟩ = some (.int .i64 xx)) := fun W hW => ((hgr.trans hW).cell (p := ⟨bk, off + k, none⟩) hb).trans hc
      obtain ⟨q, Hq⟩ : ∃ q, Hid (B k = q) := ⟨_, lib_hid rfl⟩
      have hBq : Hid (blkN xx.toNat = q) := by
        unfold Hid
        rw [← Hq.out, ← HB.out, blkL, List.getD_eq_getElem?_getD, hx]
        rfl
      have HRB : Hid (∀ W, Calls Tryd.prog 26 #[.int .i64 xx] W fun e w' => e = .returned (.int .i64 (q : Int)) ∧ Grows W w') := fun W => by
        have := refBlocks_any xx (by omega) W
        rw [hBq.out] at this
        exact this
      have hqm : (q : Int) ≤ 100000 := by have := hBq.out; unfold blkN at this; omega
      obtain ⟨f, Hf⟩ : ∃ f, Hid (freeF B k = f) := ⟨_, lib_hid rfl⟩
      have hfl : f.length = 4 := by rw [← Hf.out]; exact freeF_len B k
      have Hfl := lib_hid hfl
      rw [Hf.out] at HF
      have HC : Hid (∀ W, Grows wr W → ∀ j, j < 4 → W.cell? ⟨w.heap.size, j, none⟩ = some (.int .i64 ((f.getD j 0 : Nat) : Int))) := fun W hW j hj => by
        rw [(HF.out.grows hW).cell, freeC_at f j (by omega)]
      have Hfb : Hid (∀ j, j < 4 → f.getD j 0 ≤ 100000) := fun j hj => by
        have := free_le B k j hj
        rw [Hf.out] at this
        have := Hbd.out k hk
        omega
      have Hgr := lib_hid hgr
      have HOr := lib_hid HO.out
      clear hx hc hb hx5 hfl hgr HO
      go_wp2
      go_loopw [9, 8] (fun i b wi => ∃ j p : Nat, j ≤ 4 ∧ Hid (j = p + 1) ∧ i = .int .i64 (j : Int) ∧ Hid (b = .int .i64 (bestF f p : Int)) ∧ Grows wr wi) (fun i _ _ => 4 - (intOf i).toNat)
      case atStart => exact ⟨1, 0, by omega, lib_hid rfl, rfl, lib_hid rfl, Grows.refl _⟩
      case round =>
        obtain ⟨j, p, hj, Hjp, rfl, Hb, hgi⟩ := hrel
        obtain ⟨b, Hbb⟩ : ∃ b, Hid (bestF f p = b) := ⟨_, lib_hid rfl⟩
        have hb := Hb.out
        rw [Hbb.out] at hb
        subst hb
        have hb4 : b < 4 := by have := bestF_lt f p; have := Hbb.out; have := Hjp.out; omega
        have hbi : (b : Int) < 4 := by omega
        have HCi : Hid (∀ W, Grows wr W → ∀ j, j < 4 → W.cell? ⟨w.heap.size, j, none⟩ = some (.int .i64 ((f.getD j 0 : Nat) : Int))) := fun W hW => HC.out W (hgi.trans hW)
        by_cases hlt2 : j < 4
        · have hj4 := hlt2
          have hji : (j : Int) < 4 := by omega
          obtain ⟨x, Hx⟩ : ∃ x, Hid (f.getD j 0 = x) := ⟨_, lib_hid rfl⟩
          obtain ⟨y, Hy⟩ : ∃ y, Hid (f.getD b 0 = y) := ⟨_, lib_hid rfl⟩
          by_cases hxy : x < y
          · have Hn : Hid (bestF f (p + 1) = j) := by
              unfold Hid
              rw [bestF, if_pos (by rw [← Hjp.out, Hx.out, Hbb.out, Hy.out]; exact hxy), Hjp.out]
            have Hd1 := lib_hid (show decide ((x : Int) < (y : Int)) = true by simp; omega)
            have Hd2 := lib_hid (show decide (x < y) = true by simp; omega)
            clear hxy
            go_upto_region 11 with fail
            apply wp_region_mono 7 ((.is _, []) :: (.is _, []) :: (.is _, []) :: (.is _, []) :: (.is _, []) :: (.is _, []) :: (.is _, []) :: []) (by kernel_rfl) (by kernel_rfl)
            iterate 2
              apply Mono.is0
              · kernel_rfl
              · intro W hW
                go_wp2
                refine ⟨rfl, rfl, Grows.refl _, ?_⟩
                unfold Oper.valAt
                go_simp
                rfl
              intro k1 a1 hk1 ha1
              simp only [Nat.reduceAdd] at hk1
              simp only [Act.put, List.setIfInBounds_toArray, List.set_cons_succ, List.set_cons_zero] at ha1
              subst hk1 ha1
            apply Mono.is0
            · kernel_rfl
            · intro W hW
              have c0 := HCi.out W hW j hj4
              rw [Hx.out] at c0
              go_wp2
              refine ⟨rfl, rfl, Grows.refl _, ?_⟩
              unfold Oper.valAt
              go_simp
              rfl
            intro k1 a1 hk1 ha1
            simp only [Nat.reduceAdd] at hk1
            simp only [Act.put, List.setIfInBounds_toArray, List.set_cons_succ, List.set_cons_zero] at ha1
            subst hk1 ha1
            iterate 2
              apply Mono.is0
              · kernel_rfl
              · intro W hW
                go_wp2
                refine ⟨rfl, rfl, Grows.refl _, ?_⟩
                unfold Oper.valAt
                go_simp
                rfl
              intro k1 a1 hk1 ha1
              simp only [Nat.reduceAdd] at hk1
              simp only [Act.put, List.setIfInBounds_toArray, List.set_cons_succ, List.set_cons_zero] at ha1
              subst hk1 ha1
            apply Mono.is0
            · kernel_rfl
            · intro W hW
              have c0 := HCi.out W hW b hb4
              rw [Hy.out] at c0
              go_wp2
              refine ⟨rfl, rfl, Grows.refl _, ?_⟩
              unfold Oper.valAt
              go_simp
              rfl
            intro k1 a1 hk1 ha1
            simp only [Nat.reduceAdd] at hk1
            simp only [Act.put, List.setIfInBounds_toArray, List.set_cons_succ, List.set_cons_zero] at ha1
            subst hk1 ha1
            apply Mono.is0
            · kernel_rfl
            · intro W hW
              have hd1 := Hd1.out
              have hd2 := Hd2.out
              go_wp2
              refine ⟨rfl, rfl, Grows.refl _, ?_⟩
              unfold Oper.valAt
              go_simp
              rfl
            intro k1 a1 hk1 ha1
            simp only [Nat.reduceAdd] at hk1
            simp only [Act.put, List.setIfInBounds_toArray, List.set_cons_succ, List.set_cons_zero] at ha1
            subst hk1 ha1
            refine Mono.done ?_
            intro wm hgm
            simp only [allF, List.drop_succ_cons, List.drop_nil]
            have hgm2 := hgi.trans hgm
            clear HCi hgm Hd1 Hd2
            go_wp2
            go_roundw
            case rel => exact ⟨j + 1, p + 1, by omega, by unfold Hid; have := Hjp.out; omega, by go_num, by unfold Hid; rw [Hn.out], hgm2⟩
            case measure => simp [intOf]; omega
          · have Hn : Hid (bestF f (p + 1) = b) := by
              unfold Hid
              rw [bestF, if_neg (by rw [← Hjp.out, Hx.out, Hbb.out, Hy.out]; exact hxy), Hbb.out]
            have Hd1 := lib_hid (show decide ((x : Int) < (y : Int)) = false by simp; omega)
            have Hd2 := lib_hid (show decide (x < y) = false by simp; omega)
            clear hxy
            go_upto_region 11 with fail
            apply wp_region_mono 7 ((.is _, []) :: (.is _, []) :: (.is _, []) :: (.is _, []) :: (.is _, []) :: (.is _, []) :: (.is _, []) :: []) (by kernel_rfl) (by kernel_rfl)
            iterate 2
              apply Mono.is0
              · kernel_rfl
              · intro W hW
                go_wp2
                refine ⟨rfl, rfl, Grows.refl _, ?_⟩
                unfold Oper.valAt
                go_simp
                rfl
              intro k1 a1 hk1 ha1
              simp only [Nat.reduceAdd] at hk1
              simp only [Act.put, List.setIfInBounds_toArray, List.set_cons_succ, List.set_cons_zero] at ha1
              subst hk1 ha1
            apply Mono.is0
            · kernel_rfl
            · intro W hW
              have c0 := HCi.out W hW j hj4
              rw [Hx.out] at c0
              go_wp2
              refine ⟨rfl, rfl, Grows.refl _, ?_⟩
              unfold Oper.valAt
              go_simp
              rfl
            intro k1 a1 hk1 ha1
            simp only [Nat.reduceAdd] at hk1
            simp only [Act.put, List.setIfInBounds_toArray, List.set_cons_succ, List.set_cons_zero] at ha1
            subst hk1 ha1
            iterate 2
              apply Mono.is0
              · kernel_rfl
              · intro W hW
                go_wp2
                refine ⟨rfl, rfl, Grows.refl _, ?_⟩
                unfold Oper.valAt
                go_simp
                rfl
              intro k1 a1 hk1 ha1
              simp only [Nat.reduceAdd] at hk1
              simp only [Act.put, List.setIfInBounds_toArray, List.set_cons_succ, List.set_cons_zero] at ha1
              subst hk1 ha1
            apply Mono.is0
            · kernel_rfl
            · intro W hW
              have c0 := HCi.out W hW b hb4
              rw [Hy.out] at c0
              go_wp2
              refine ⟨rfl, rfl, Grows.refl _, ?_⟩
              unfold Oper.valAt
              go_simp
              rfl
            intro k1 a1 hk1 ha1
            simp only [Nat.reduceAdd] at hk1
            simp only [Act.put, List.setIfInBounds_toArray, List.set_cons_succ, List.set_cons_zero] at ha1
            subst hk1 ha1
            apply Mono.is0
            · kernel_rfl
            · intro W hW
              have hd1 := Hd1.out
              have hd2 := Hd2.out
              go_wp2
              refine ⟨rfl, rfl, Grows.refl _, ?_⟩
              unfold Oper.valAt
              go_simp
              rfl
            intro k1 a1 hk1 ha1
            simp only [Nat.reduceAdd] at hk1
            simp only [Act.put, List.setIfInBounds_toArray, List.set_cons_succ, List.set_cons_zero] at ha1
            subst hk1 ha1
            refine Mono.done ?_
            intro wm hgm
            simp only [allF, List.drop_succ_cons, List.drop_nil]
            have hgm2 := hgi.trans hgm
            clear HCi hgm Hd1 Hd2
            go_wp2
            go_roundw
            case rel => exact ⟨j + 1, p + 1, by omega, by unfold Hid; have := Hjp.out; omega, by go_num, by unfold Hid; rw [Hn.out], hgm2⟩
            case measure => simp [intOf]; omega
        · have hji : ¬ (j : Int) < 4 := by omega
          have hbest : Hid (bestF f 3 = b) := by
            have : p = 3 := by have := Hjp.out; omega
            unfold Hid; rw [← this]; exact Hbb.out
          obtain ⟨x, Hx⟩ : ∃ x, Hid (f.getD b 0 = x) := ⟨_, lib_hid rfl⟩
          have hxm : (x : Int) ≤ 100000 := by have := Hfb.out b hb4; have := Hx.out; omega
          have HCl : Hid (∀ W, Grows wr W → W.cell? ⟨bk, off + k, none⟩ = some (.int .i64 xx)) := fun W hW => HCl0.out W (hgi.trans hW)
          have HFi := lib_hid (HF.out.grows hgi)
          have HOi := lib_hid (own_grows HOr.out hgi)
          have Hgi := lib_hid hgi
          clear Hb Hbb hj Hjp hlt2 HC HCl0 hgi HF HOr
          obtain ⟨s, hs, Hss⟩ : ∃ s : Nat, (x : Int) + (q : Int) = (s : Int) ∧ Hid (x + q = s) := ⟨x + q, by omega, lib_hid rfl⟩
          have hsm2 : (s : Int) ≤ 1000000 := by omega
          have HEk : Hid (endF B k = (s, b)) := by unfold Hid endF; rw [Hf.out, hbest.out, Hx.out, Hq.out, Hss.out]
          have HFk : Hid (freeF B (k + 1) = f.set b s) := by unfold Hid; rw [freeF, Hf.out, hbest.out, Hx.out, Hq.out, Hss.out]
          have HMk : Hid (maxF B (k + 1) = if st < s then s else st) := by unfold Hid; rw [maxF, HEk.out, Hst.out]
          have HEs : Hid (endsL B (k + 1) = endsL B k ++ [((s : Int), (b : Int))]) := by unfold Hid; rw [endsL_succ, HEk.out]
          have HbfL : Hid (b < f.length) := by unfold Hid; rw [Hfl.out]; exact hb4
          clear Hss Hq Hf hbest Hst Hfb
          go_upto_region 13 with fail
          clear hji
          apply wp_region_mono 10 ((.is _, []) :: (.is _, []) :: (.is _, []) :: (.is _, []) :: (.is _, []) :: (.is _, []) :: (.is _, []) :: (.is (.int .i64 (q : Int)), []) :: (.is _, []) :: (.is _, []) :: []) (by kernel_rfl) (by kernel_rfl)
          iterate 2
            apply Mono.is0
            · kernel_rfl
            · intro W hW
              go_wp2
              refine ⟨rfl, rfl, Grows.refl _, ?_⟩
              unfold Oper.valAt
              go_simp
              rfl
            intro k1 a1 hk1 ha1
            simp only [Nat.reduceAdd] at hk1
            simp only [Act.put, List.setIfInBounds_toArray, List.set_cons_succ, List.set_cons_zero] at ha1
            subst hk1 ha1
          apply Mono.is0
          · kernel_rfl
          · intro W hW
            have c0 := HCi.out W hW b hb4
            rw [Hx.out] at c0
            go_wp2
            refine ⟨rfl, rfl, Grows.refl _, ?_⟩
            unfold Oper.valAt
            go_simp
            rfl
          intro k1 a1 hk1 ha1
          simp only [Nat.reduceAdd] at hk1
          simp only [Act.put, List.setIfInBounds_toArray, List.set_cons_succ, List.set_cons_zero] at ha1
          subst hk1 ha1
          iterate 3
            apply Mono.is0
            · kernel_rfl
            · intro W hW
              go_wp2
              refine ⟨rfl, rfl, Grows.refl _, ?_⟩
              unfold Oper.valAt
              go_simp
              rfl
            intro k1 a1 hk1 ha1
            simp only [Nat.reduceAdd] at hk1
            simp only [Act.put, List.setIfInBounds_toArray, List.set_cons_succ, List.set_cons_zero] at ha1
            subst hk1 ha1
          apply Mono.is0
          · kernel_rfl
          · intro W hW
            have c0 := HCl.out W hW
            go_wp2
            refine ⟨rfl, rfl, Grows.refl _, ?_⟩
            unfold Oper.valAt
            go_simp
            rfl
          intro k1 a1 hk1 ha1
          simp only [Nat.reduceAdd] at hk1
          simp only [Act.put, List.setIfInBounds_toArray, List.set_cons_succ, List.set_cons_zero] at ha1
          subst hk1 ha1
          apply Mono.is0
          · kernel_rfl
          · intro W hW 
            go_wp2_with fail
            refine (HRB.out W).mono ?_
            rintro e w1 ⟨rfl, hg1⟩
            go_wp2
            exact ⟨rfl, rfl, hg1, rfl⟩
          intro k1 a1 hk1 ha1
          simp only [Nat.reduceAdd] at hk1
          simp only [Act.put, List.setIfInBounds_toArray, List.set_cons_succ, List.set_cons_zero] at ha1
          subst hk1 ha1
          iterate 2
            apply Mono.is0
            · kernel_rfl
            · intro W hW
              go_wp2
              refine ⟨rfl, rfl, Grows.refl _, ?_⟩
              unfold Oper.valAt
              go_simp
              rfl
            intro k1 a1 hk1 ha1
            simp only [Nat.reduceAdd] at hk1
            simp only [Act.put, List.setIfInBounds_toArray, List.set_cons_succ, List.set_cons_zero] at ha1
            subst hk1 ha1
          refine Mono.done ?_
          intro wm hgm
          simp only [allF, List.drop_succ_cons, List.drop_zero]
          have c0 := HCi.out wm hgm b hb4
          rw [Hx.out] at c0
          have hFm := HFi.out.grows hgm
          have f0 := hFm.frozen b
          have hz := hFm.lt
          have HFm := lib_hid hFm
          have HOm := lib_hid (own_grows HOi.out hgm)
          have Hgm := lib_hid (Hgi.out.trans hgm)
          clear hFm hgm HCi HCl HFi HOi Hgi
          go_upto_region 14 with fail
          obtain ⟨w5, Hw5⟩ : ∃ w5 : World, Hid (w5 = wm.setCell ⟨w.heap.size, b, none⟩ (.int .i64 (s : Int))) := ⟨_, lib_hid rfl⟩
          rw [← Hw5.out]
          have HF5 : Hid (Blk w5 w.heap.size 58 (freeC (freeF B (k + 1)))) := by unfold Hid; rw [Hw5.out, HFk.out, ← freeC_set]; exact HFm.out.set b _
          have HK5 : Hid (Keeps (fun i => i = w.heap.size) wm w5) := by unfold Hid; rw [Hw5.out]; exact keeps_set wm ⟨w.heap.size, b, none⟩ (.int .i64 (s : Int))
          have HO5 : Hid (w5.ownsRow (w.heap.size + 1) 59 2 (.slice C k e) k (flat (endsL B k))) := own_keeps HOm.out HK5.out (fun g hg h => by omega)
          have HG5 : Hid (Grows w w5) := lib_hid (below_trans (Hgr.out.trans Hgm.out) (HK5.out.below (by have := (Hgr.out.trans Hgm.out).le; omega) (fun i hi => by omega)))
          have hsz5 : w.heap.size + 1 ≤ (w5.alloc (.cells #[iV (s : Int), iV (b : Int)] 59)).heap.size := by have := HF5.out.lt; simp; omega
          have cb5 : w5.cell? ⟨w.heap.size, b, none⟩ = some (.int .i64 (s : Int)) := by
            rw [HF5.out.cell, HFk.out, freeC_at _ _ (by rw [List.length_set]; exact HbfL.out), getD_set _ _ _ _ HbfL.out, if_pos rfl]
          have HOa : Hid ((w5.alloc (.cells #[iV (s : Int), iV (b : Int)] 59)).ownsRow (w.heap.size + 1) 59 2 (.slice C k e) k (flat (endsL B k))) := lib_hid (own_grows HO5.out ((Grows.refl _).alloc _))
          clear c0 f0 hz HFm HOm Hgm HK5 Hw5
          go_upto_region 15 with (at_builtin; refine wpList_append_pair (by kernel_rfl) _ _ 29 rfl (w.heap.size + 1) 59 (.agg #[.int .i64 0, .int .i64 0]) 16 Tryd.underlying29 Tryd.infoA2 rfl _ k e (endsL B k) rfl HOa.out w5.heap.size 59 (s : Int) (b : Int) rfl (Blk.new w5 _ _) (by omega) (by omega) hsz5 ?_; intro C6 e6 w6 ho6 hb6 hg6)
          have HF6 : Hid (Blk w6 w.heap.size 58 (freeC (freeF B (k + 1)))) := lib_hid ((HF5.out.alloc _).below hb6 (by omega))
          have HG6 : Hid (Grows w w6) := lib_hid (below_trans (HG5.out.alloc _) (hb6.mono (by omega)))
          have cb6 : w6.cell? ⟨w.heap.size, b, none⟩ = some (.int .i64 (s : Int)) := by
            rw [HF6.out.cell, HFk.out, freeC_at _ _ (by rw [List.length_set]; exact HbfL.out), getD_set _ _ _ _ HbfL.out, if_pos rfl]
          rw [← HEs.out] at ho6
          have HO6 := lib_hid ho6
          clear ho6 hb6 hg6 HOa HO5 HF5 HG5 cb5 hsz5
          by_cases hcmp : st < s
          · have hci : (st : Int) < (s : Int) := by omega
            have HM2 : Hid (maxF B (k + 1) = s) := by unfold Hid; rw [HMk.out, if_pos hcmp]
            clear hcmp
            go_wp2
            go_roundw
            case rel => exact ⟨k + 1, C6, e6, by omega, by go_num, rfl, by unfold Hid; rw [HM2.out], HG6.out, HF6, HO6⟩
            case measure => simp [intOf]; omega
          · have hci : ¬ (st : Int) < (s : Int) := by omega
            have HM2 : Hid (maxF B (k + 1) = st) := by unfold Hid; rw [HMk.out, if_neg hcmp]
            clear hcmp
            go_wp2
            go_roundw
            case rel => exact ⟨k + 1, C6, e6, by omega, by go_num, rfl, by unfold Hid; rw [HM2.out], HG6.out, HF6, HO6⟩
            case measure => simp [intOf]; omega
    · have hki : ¬ (k : Int) < n := by omega
      obtain rfl : k = n := by omega
      have HO2 := lib_hid (SpanR.own HO.out)
      clear HO HF
      go_wp2
      go_ret2
      exact ⟨C, e, by rw [Hst.out]; rfl, hgr, HO2.out⟩
end Go.Proofs.YtnlffaglmcddkaaDoor
