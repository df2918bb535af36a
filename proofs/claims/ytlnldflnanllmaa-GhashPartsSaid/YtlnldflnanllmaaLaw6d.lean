/-
  The walks of the laws of layer 6: GhashParts.
-/
import Derived.Test.YtlnldflnanllmaaGhash4
import Derived.Test.YtlnldflnanllmaaPartsLe
import Derived.Test.YtlnldflnanllmaaLaw6c
import Derived.Deep.Cut
namespace Go.Proofs.Ytlnldflnanllmaa
open Go Go.RowKit
set_option linter.unusedSimpArgs false


set_option maxRecDepth 100000 in
set_option maxHeartbeats 4000000 in
theorem walk_GhashParts (hs : List UInt8) (A : Option Addr) (n c : Nat) (av : List UInt8) (B : Option Addr) (m d : Nat) (bs : List UInt8) (w : World) (hh : hs.length = 16) (ha : SB w A n c av) (hb : SB w B m d bs) :
    Calls Try.prog 7 #[.agg (hs.map b8).toArray, .slice A n c, .slice B m d] w fun e w' => e = .returned (.bool true) ∧ Below w.heap.size w w' := by
  obtain ⟨W0, HW0, hW0, hg0⟩ : ∃ W0 : World, Hid (W0 = w.alloc (.cells (hs.map b8).toArray 22)) ∧ W0.heap.size = w.heap.size + 1 ∧ Grows w W0 := ⟨_, lib_hid rfl, by simp, (Grows.refl w).alloc _⟩
  have HB0 : Hid (Blk W0 w.heap.size 22 (hs.map b8).toArray) := by
    unfold Hid; rw [HW0.out]; have := Blk.new (w) 22 (hs.map b8).toArray; simpa using this
  have hal := lib_hid ha.len
  have hbl := lib_hid hb.len
  have hac := ha.cap
  have hsl := lib_hid hh
  have HA := lib_hid (ha.grows hg0)
  have HB := lib_hid (hb.grows hg0)
  by_cases hbig : 300 < n
  · have h1 : (300 : Int) < n := by omega
    clear hh ha hb
    go_enter Try.func7, Try.ntmps7
    go_wp2
    go_ret
    exact ⟨rfl, (Grows.refl w).alloc _⟩
  have h1 : ¬ (300 : Int) < n := by omega
  by_cases hbig2 : 300 < m
  · have h2 : (300 : Int) < m := by omega
    clear hh ha hb
    go_enter Try.func7, Try.ntmps7
    go_wp2
    go_ret
    exact ⟨rfl, (Grows.refl w).alloc _⟩
  have h2 : ¬ (300 : Int) < m := by omega
  by_cases hz : m = 0
  · have h3 : (m : Int) = 0 := by omega
    clear hh ha hb
    go_enter Try.func7, Try.ntmps7
    go_wp2
    go_ret
    exact ⟨rfl, (Grows.refl w).alloc _⟩
  have h3 : ¬ (m : Int) = 0 := by omega
  obtain ⟨q, hq, Hq, hq18⟩ : ∃ q : Nat, (n : Int).tdiv 16 = (q : Int) ∧ Hid (n / 16 = q) ∧ q ≤ 18 := ⟨n / 16, by rw [Int.tdiv_eq_ediv_of_nonneg (by omega)]; omega, lib_hid rfl, by omega⟩
  obtain ⟨k, hk, Hk⟩ : ∃ k : Nat, (q : Int) * 16 = (k : Int) ∧ Hid (k = 16 * q) := ⟨16 * q, by omega, lib_hid rfl⟩
  have hkn : k ≤ n := by rw [Hk.out, ← Hq.out]; omega
  have hkc : (k : Int) ≤ (c : Int) := by omega
  have hkc2 : k ≤ c := by omega
  obtain ⟨xs, Hxs, hxl⟩ : ∃ v, Hid (av.take k = v) ∧ Hid (v.length = k) := ⟨_, lib_hid rfl, by unfold Hid; rw [List.length_take, hal.out]; omega⟩
  obtain ⟨sv, Hsv, svl⟩ : ∃ v, Hid (sumF hs xs = v) ∧ Hid (v.length = 16) := ⟨_, lib_hid rfl, lib_hid (sumF_len _ _)⟩
  obtain ⟨fin, Hfin, finl⟩ : ∃ v, Hid (sumF hs (xs ++ bs) = v) ∧ Hid (v.length = 16) := ⟨_, lib_hid rfl, lib_hid (sumF_len _ _)⟩
  have Hfin2 : Hid (sumF hs (partF sv bs) = fin) := by unfold Hid; rw [← Hsv.out, ← Hfin.out]; exact (sum_parts hs xs bs q (by rw [hxl.out, Hk.out]) (by rw [hbl.out]; omega)).symm
  have Hs0 : Hid (∀ A' c' W, SB W A' k c' xs → Calls Try.prog 15 #[.agg (hs.map b8).toArray, .slice A' k c'] W fun e w' => e = .returned (.agg (sv.map b8).toArray) ∧ Grows W w') := fun A' c' W h => by rw [← Hsv.out]; exact sum_any hs xs A' k c' hh W h
  have Hs1 : Hid (∀ A' n' c' W, SB W A' n' c' (xs ++ bs) → Calls Try.prog 15 #[.agg (hs.map b8).toArray, .slice A' n' c'] W fun e w' => e = .returned (.agg (fin.map b8).toArray) ∧ Grows W w') := fun A' n' c' W h => by rw [← Hfin.out]; exact sum_any hs _ A' n' c' hh W h
  have Hs2 : Hid (∀ A' n' c' W, SB W A' n' c' (partF sv bs) → Calls Try.prog 15 #[.agg (hs.map b8).toArray, .slice A' n' c'] W fun e w' => e = .returned (.agg (fin.map b8).toArray) ∧ Grows W w') := fun A' n' c' W h => by rw [← Hfin2.out]; exact sum_any hs _ A' n' c' hh W h
  obtain ⟨res, Hres, hrl, hra⟩ : ∃ r : Array Value, Hid ((sv.map b8).toArray = r) ∧ r.size = 16 ∧ r.all (·.oneCell') = true := ⟨_, lib_hid rfl, by simp [svl.out], cells_all _⟩
  have HW0' := HW0.out
  clear hh ha hb hW0
  go_enter Try.func7, Try.ntmps7
  go_upto_region 4 with fail
  rw [← HW0']
  clear HW0' hq hk h1 h2 h3
  go_wp2_with (refine wpList_load_blk rfl _ _ rfl w.heap.size rfl 22 (hs.map b8).toArray _ HB0.out Try.underlying22 rfl (by rw [Try.size16]; simp [hsl.out]) ?_)
  have HA2 : Hid (SB W0 A k c xs) := by unfold Hid; rw [← Hxs.out]; exact HA.out.pre hkn
  refine (Hs0.out _ _ W0 HA2.out).mono ?_
  rintro e w1 ⟨rfl, hg1⟩
  rw [Hres.out]
  go_upto_region 5 with (refine wpList_store_blk rfl _ _ _ rfl w1.heap.size res rfl rfl 22 _ (Blk.new _ _ _) (by rw [Try.size16, hrl]) (by simp [hrl]) hra w1.heap.size w1 ((Grows.refl w1).alloc _) (Nat.le_refl _) ?_; intro w2 HS2 hb2 hg2)
  have HSv : Hid (Blk w2 w1.heap.size 22 (sv.map b8).toArray) := by unfold Hid; rw [Hres.out]; exact HS2
  obtain ⟨g7, Hg7⟩ : ∃ g, Hid (w1.heap.size = g) := ⟨_, lib_hid rfl⟩
  rw [Hg7.out] at HSv ⊢
  have hg02 : Grows W0 w2 := hg1.trans hb2
  have HB2 := lib_hid (HB.out.grows hg02)
  have HA3 := lib_hid (HA2.out.grows hg02)
  have HH2 := lib_hid (HB0.out.grows hg02)
  have hgw2 := hg0.trans hg02
  have ho := World.ownsRow_lit (base := w2.heap.size) (e := 5) (size := 1) w2 #[] 0 (Nat.le_refl _) (by unfold maxLen; omega) rfl
  have hr := HB2.out.grows ((Grows.refl w2).alloc (.cells #[] 5))
  have HH := lib_hid (And.intro hr ho)
  clear hr ho HS2 hb2 hg2 hg1 HB HA HA2 HB0 hg02
  go_wp2_with (at_builtin; refine wpList_append rfl _ _ 29 rfl w2.heap.size 5 (.int .u8 0) 1 Try.underlying29 Try.infoByte rfl  _ 0 [] rfl HH.out.2 _ _ _ (bs.map b8) rfl HH.out.1 (b8_one bs) (by omega) (by omega) (by simp) ?_; intro A3 c3 w3 ho3 hb3 hg3)
  simp only [Nat.zero_add, List.nil_append] at ho3 ⊢
  have HO3 := lib_hid ho3
  have hb4 : Below w2.heap.size w2 w3 := Below.trans ((Grows.refl w2).alloc (.cells #[] 5)) hb3
  clear ho3 hb3 hg3 HH
  go_loopw [8] (fun v wr => ∃ (j : Nat) (A3 : Option Addr) (c3 : Nat), v = .slice A3 (m + j) c3 ∧ (j = 0 ∨ m + j ≤ 16) ∧ Below w2.heap.size w2 wr ∧ Hid (wr.ownsRow w2.heap.size 5 1 (.slice A3 (m + j) c3) (m + j) ((bs ++ List.replicate j 0).map b8))) (fun v _ => 16 - lenOf v)
  case atStart => exact ⟨0, A3, c3, rfl, Or.inl rfl, hb4, by simpa using HO3⟩
  case round =>
    obtain ⟨j, A4, c4, rfl, hj, hbr, HO⟩ := hrel
    by_cases hlt : m + j < 16
    · have hlti : ((m : Int) + (j : Int)) < 16 := by omega
      have hlti2 : (((m + j : Nat)) : Int) < 16 := by omega
      have hrow : Row (wr.alloc (.cells #[.int .u8 0] 5)) (some ⟨wr.heap.size, 0, none⟩) 1 1 [b8 0] := by
        have := (Blk.new wr 5 #[.int .u8 0]).row (o := 0) (n := 1) (c := 1) (Nat.le_refl _) (by simp) (by unfold maxLen; omega)
        simpa [b8] using this
      have hown := own_grows HO.out ((Grows.refl wr).alloc (.cells #[.int .u8 0] 5))
      have HH := lib_hid (And.intro hrow hown)
      have hbr2 : Below w2.heap.size w2 (wr.alloc (.cells #[.int .u8 0] 5)) := Below.alloc hbr hbr.size _
      have hsz := hbr2.size
      clear hrow hown
      go_wp2_with (at_builtin; refine wpList_append rfl _ _ 29 rfl w2.heap.size 5 (.int .u8 0) 1 Try.underlying29 Try.infoByte rfl  _ (m + j) _ rfl HH.out.2 _ 1 _ [b8 0] rfl HH.out.1 (b8_one [0]) (by omega) (by omega) hsz ?_; intro A5 c5 w5 ho5 hb5 hg5)
      go_roundw
      case rel =>
        refine ⟨j + 1, A5, c5, rfl, Or.inr (by omega), Below.trans hbr2 hb5, ?_⟩
        unfold Hid
        rw [List.replicate_succ', ← List.append_assoc, List.map_append]
        exact ho5
      case measure => simp [lenOf]; omega
    · have hlti : ¬ (((m + j : Nat)) : Int) < 16 := by omega
      have hlti2 : ¬ ((m : Int) + (j : Int)) < 16 := by omega
      obtain ⟨wl, rfl⟩ : ∃ wl : World, wl = wr := ⟨_, rfl⟩
      obtain ⟨c0, Hc0, c0l⟩ : ∃ v, Hid (bs ++ List.replicate j 0 = v) ∧ Hid (v.length = m + j) := ⟨_, lib_hid rfl, by unfold Hid; rw [List.length_append, hbl.out, List.length_replicate]⟩
      rw [Hc0.out] at HO
      have Hpart : Hid (mixP c0 sv 16 = partF sv bs) := by unfold Hid; rw [← Hc0.out]; exact mixP_part bs sv j svl.out (by rw [hbl.out]; omega) (by rw [hbl.out]; exact hj)
      obtain ⟨g8, rfl, hg8b⟩ : ∃ g, A4 = some ⟨g, 0, none⟩ ∧ w2.heap.size ≤ g := by
        rcases HO.out.2 with ⟨h1, h2⟩ | ⟨g, cap, cur, hv, hg, _⟩
        · omega
        · injection hv with hv; exact ⟨g, hv, hg⟩
      have hc016 : 16 ≤ c0.length := by rw [c0l.out]; omega
      have Hc016 := lib_hid hc016
      have hg7w : g7 < w2.heap.size := HSv.out.lt
      have hmj : 16 ≤ m + j := by omega
      go_upto_region 8 with fail
      clear hlti hlti2 hlt hc016 hj
      go_wp2_with fail
      go_loopw [9] (fun v wr => ∃ i : Nat, i ≤ 16 ∧ v = .int .i64 (i : Int) ∧ Below w2.heap.size w2 wr ∧ Hid (wr.ownsRow w2.heap.size 5 1 (.slice (some ⟨g8, 0, none⟩) (m + j) c4) (m + j) ((mixP c0 sv i).map b8))) (fun v _ => 16 - (intOf v).toNat)
      case atStart => exact ⟨0, by omega, rfl, hbr, by rw [mixP_zero]; exact HO⟩
      case round =>
        obtain ⟨i, hi, rfl, hbi, HOi⟩ := hrel
        by_cases hlt : i < 16
        · obtain ⟨x, Hx⟩ : ∃ x, Hid (c0.getD i 0 = x) := ⟨_, lib_hid rfl⟩
          obtain ⟨y, Hy⟩ : ∃ y, Hid (sv.getD i 0 = y) := ⟨_, lib_hid rfl⟩
          obtain ⟨z, Hz⟩ : ∃ z, Hid (x ^^^ y = z) := ⟨_, lib_hid rfl⟩
          have Hxy : Hid (bits .xor .u8 (x.toNat : Int) (y.toNat : Int) = (z.toNat : Int)) := by unfold Hid; rw [u8_xor, Hz.out]
          have Hstep : Hid ((mixP c0 sv i).set i z = mixP c0 sv (i + 1)) := by unfold Hid; rw [← Hz.out, ← Hx.out, ← Hy.out]; exact mixP_step c0 sv i Hc016.out svl.out hlt
          have cA : Hid (∀ W, Grows wr W → W.cell? ⟨g8, i, none⟩ = some (b8 x)) := fun W hW => by
            rw [(own_grows HOi.out hW).cellAt i (by omega), List.getElem?_map, mixP_at c0 sv i Hc016.out svl.out hlt, ← Hx.out]
            simp [List.getD, show i < c0.length by have := Hc016.out; omega]
          have cB : Hid (∀ W, Grows wr W → W.cell? ⟨g7, i, none⟩ = some (b8 y)) := fun W hW => by
            rw [((HSv.out.below hbi hg7w).grows hW).cell, List.getElem?_toArray, List.getElem?_map, ← Hy.out]
            simp [List.getD, svl.out, hlt]
          have hlti : (i : Int) < 16 := by omega
          have hlti3 : (i : Int) < ((m + j : Nat) : Int) := by omega
          go_upto_region 11 with fail
          apply wp_region_mono 9 ((.is _, []) :: (.is _, []) :: (.is _, []) :: (.is _, []) :: (.is _, []) :: (.is _, []) :: (.is _, []) :: (.is (.int .u8 z.toNat), []) :: (.is _, []) :: []) (by kernel_rfl) (by kernel_rfl)
          iterate 3
            apply Mono.is0
            · kernel_rfl
            · intro W hW
              go_wp2
              refine ⟨rfl, rfl, Grows.refl _, ?_⟩
              unfold Oper.valAt
              go_simp
              rfl
            intro k1 a1 hk1 ha1
            simp only [Nat.reduceAdd] at hk1
            simp only [Act.put, List.setIfInBounds_toArray, List.set_cons_succ, List.set_cons_zero] at ha1
            subst hk1 ha1
          apply Mono.is0
          · kernel_rfl
          · intro W hW
            have hcc := cA.out W hW
            go_wp2
            refine ⟨rfl, rfl, Grows.refl _, ?_⟩
            unfold Oper.valAt
            go_simp
            rfl
          intro k1 a1 hk1 ha1
          simp only [Nat.reduceAdd] at hk1
          simp only [Act.put, List.setIfInBounds_toArray, List.set_cons_succ, List.set_cons_zero] at ha1
          subst hk1 ha1
          iterate 2
            apply Mono.is0
            · kernel_rfl
            · intro W hW
              go_wp2
              refine ⟨rfl, rfl, Grows.refl _, ?_⟩
              unfold Oper.valAt
              go_simp
              rfl
            intro k1 a1 hk1 ha1
            simp only [Nat.reduceAdd] at hk1
            simp only [Act.put, List.setIfInBounds_toArray, List.set_cons_succ, List.set_cons_zero] at ha1
            subst hk1 ha1
          apply Mono.is0
          · kernel_rfl
          · intro W hW
            have hcc := cB.out W hW
            go_wp2
            refine ⟨rfl, rfl, Grows.refl _, ?_⟩
            unfold Oper.valAt
            go_simp
            rfl
          intro k1 a1 hk1 ha1
          simp only [Nat.reduceAdd] at hk1
          simp only [Act.put, List.setIfInBounds_toArray, List.set_cons_succ, List.set_cons_zero] at ha1
          subst hk1 ha1
          apply Mono.is0
          · kernel_rfl
          · intro W hW 
            go_wp2
            refine ⟨rfl, rfl, Grows.refl _, ?_⟩
            unfold Oper.valAt
            go_simp
            rw [Hxy.out]
          intro k1 a1 hk1 ha1
          simp only [Nat.reduceAdd] at hk1
          simp only [Act.put, List.setIfInBounds_toArray, List.set_cons_succ, List.set_cons_zero] at ha1
          subst hk1 ha1
          apply Mono.is0
          · kernel_rfl
          · intro W hW
            go_wp2
            refine ⟨rfl, rfl, Grows.refl _, ?_⟩
            unfold Oper.valAt
            go_simp
            rfl
          intro k1 a1 hk1 ha1
          simp only [Nat.reduceAdd] at hk1
          simp only [Act.put, List.setIfInBounds_toArray, List.set_cons_succ, List.set_cons_zero] at ha1
          subst hk1 ha1
          refine Mono.done ?_
          intro wy hgy
          simp only [allF, List.drop_succ_cons, List.drop_zero]
          have hcy := cA.out wy hgy
          have hoy := own_grows HOi.out hgy
          have hfy : wy.frozen? ⟨g8, i, none⟩ = false := hoy.frozenAt i
          have ho2 := (hoy.stored i (b8 z)).1
          rw [← List.map_set, Hstep.out] at ho2
          have HO2 := lib_hid ho2
          have hby := (below_grows hbi hgy hbi.size).setCell (p := ⟨g8, i, none⟩) hg8b (b8 z)
          clear ho2 hoy cA cB
          go_wp2
          go_roundw
          case rel => exact ⟨i + 1, by omega, by go_num, hby, HO2.out⟩
          case measure => simp [intOf]; omega
        · have Hi16 : Hid (i = 16) := by unfold Hid; omega
          have HCr : Hid (SB wr (some ⟨g8, 0, none⟩) (m + j) c4 (partF sv bs)) := by
            have := HOi.out
            rw [Hi16.out, Hpart.out] at this
            exact SB.own this
          have HAr := lib_hid (HA3.out.grows hbi)
          have HBr := lib_hid (HB2.out.grows hbi)
          have HHr := lib_hid (HH2.out.grows hbi)
          have hgwr := hgw2.trans hbi
          have ho := World.ownsRow_lit (base := wr.heap.size) (e := 5) (size := 1) wr #[] 0 (Nat.le_refl _) (by unfold maxLen; omega) rfl
          have hr := HAr.out.grows ((Grows.refl wr).alloc (.cells #[] 5))
          have HHa := lib_hid (And.intro hr ho)
          clear hr ho
          go_upto_region 13 with (first
            | (at_builtin; refine wpList_append rfl _ _ 29 rfl wr.heap.size 5 (.int .u8 0) 1 Try.underlying29 Try.infoByte rfl  _ 0 [] rfl HHa.out.2 _ _ _ (xs.map b8) rfl HHa.out.1 (b8_one xs) (by omega) (by omega) (by simp) ?_; intro A6 c6 w6 ho6 hb6 hg6; have hb6' : Grows wr w6 := Below.trans ((Grows.refl wr).alloc (.cells #[] 5)) hb6; have hrb := HBr.out.grows hb6'; simp only [Nat.zero_add, List.nil_append] at ho6)
            | (at_builtin; refine wpList_append rfl _ _ 29 rfl wr.heap.size 5 (.int .u8 0) 1 Try.underlying29 Try.infoByte rfl  _ k _ rfl ho6 _ _ _ (bs.map b8) rfl hrb (b8_one bs) (by omega) (by omega) hb6'.le ?_; intro A7 c7 w7 ho7 hb7 hg7))
          have hg67 : Grows wr w7 := Below.trans hb6' hb7
          have HA9 : Hid (SB w7 A7 (k + m) c7 (xs ++ bs)) := by
            rw [← List.map_append] at ho7
            exact SB.own ho7
          have HC9 := lib_hid (HCr.out.grows hg67)
          have HH9 := lib_hid (HHr.out.grows hg67)
          have hgw9 := hgwr.trans hg67
          clear ho6 hb6 hg6 ho7 hb7 hg7 hrb hb6'
          apply wp_region_mono 11 ((.is (.agg (hs.map b8).toArray), []) :: (.is _, []) :: (.is (.agg ((fin).map b8).toArray), []) :: (.is (.agg (hs.map b8).toArray), []) :: (.is _, []) :: (.is (.agg ((fin).map b8).toArray), []) :: (.is (.bool true), []) :: (.is _, []) :: (.is (.bool true), []) :: (.is _, []) :: (.is _, []) :: []) (by kernel_rfl) (by kernel_rfl)
          apply Mono.is0
          · kernel_rfl
          · intro W hW 
            go_wp2_with (refine wpList_load_blk (by kernel_rfl) _ _ rfl w.heap.size rfl 22 (hs.map b8).toArray _ (HH9.out.grows hW) Try.underlying22 rfl (by rw [Try.size16]; simp [hsl.out]) ?_)
            exact ⟨rfl, rfl, Grows.refl _, rfl⟩
          intro k1 a1 hk1 ha1
          simp only [Nat.reduceAdd] at hk1
          simp only [Act.put, List.setIfInBounds_toArray, List.set_cons_succ, List.set_cons_zero] at ha1
          subst hk1 ha1
          apply Mono.is0
          · kernel_rfl
          · intro W hW
            go_wp2
            refine ⟨rfl, rfl, Grows.refl _, ?_⟩
            unfold Oper.valAt
            go_simp
            rfl
          intro k1 a1 hk1 ha1
          simp only [Nat.reduceAdd] at hk1
          simp only [Act.put, List.setIfInBounds_toArray, List.set_cons_succ, List.set_cons_zero] at ha1
          subst hk1 ha1
          apply Mono.is0
          · kernel_rfl
          · intro W hW 
            go_wp2_with fail
            refine (Hs1.out _ _ _ W (HA9.out.grows hW)).mono ?_
            rintro e w1 ⟨rfl, hg1⟩
            go_wp2
            exact ⟨rfl, rfl, hg1, rfl⟩
          intro k1 a1 hk1 ha1
          simp only [Nat.reduceAdd] at hk1
          simp only [Act.put, List.setIfInBounds_toArray, List.set_cons_succ, List.set_cons_zero] at ha1
          subst hk1 ha1
          apply Mono.is0
          · kernel_rfl
          · intro W hW 
            go_wp2_with (refine wpList_load_blk (by kernel_rfl) _ _ rfl w.heap.size rfl 22 (hs.map b8).toArray _ (HH9.out.grows hW) Try.underlying22 rfl (by rw [Try.size16]; simp [hsl.out]) ?_)
            exact ⟨rfl, rfl, Grows.refl _, rfl⟩
          intro k1 a1 hk1 ha1
          simp only [Nat.reduceAdd] at hk1
          simp only [Act.put, List.setIfInBounds_toArray, List.set_cons_succ, List.set_cons_zero] at ha1
          subst hk1 ha1
          apply Mono.is0
          · kernel_rfl
          · intro W hW
            go_wp2
            refine ⟨rfl, rfl, Grows.refl _, ?_⟩
            unfold Oper.valAt
            go_simp
            rfl
          intro k1 a1 hk1 ha1
          simp only [Nat.reduceAdd] at hk1
          simp only [Act.put, List.setIfInBounds_toArray, List.set_cons_succ, List.set_cons_zero] at ha1
          subst hk1 ha1
          apply Mono.is0
          · kernel_rfl
          · intro W hW 
            go_wp2_with fail
            refine (Hs2.out _ _ _ W (HC9.out.grows hW)).mono ?_
            rintro e w1 ⟨rfl, hg1⟩
            go_wp2
            exact ⟨rfl, rfl, hg1, rfl⟩
          intro k1 a1 hk1 ha1
          simp only [Nat.reduceAdd] at hk1
          simp only [Act.put, List.setIfInBounds_toArray, List.set_cons_succ, List.set_cons_zero] at ha1
          subst hk1 ha1
          apply Mono.is0
          · kernel_rfl
          · intro W hW 
            have he : (Op.equalIn 10000 22 (.agg ((fin).map b8).toArray) (.agg ((fin).map b8).toArray)).run Try.prog W = .ok true W := (run_equalIn_bytes W 9998 22 5 16 (fin) (fin) finl.out finl.out Try.arr16 Try.underlying5 Try.sizeByte).trans (by rw [beq_self_eq_true])
            go_wp2
            refine ⟨rfl, rfl, Grows.refl _, ?_⟩
            unfold Oper.valAt
            go_simp
          intro k1 a1 hk1 ha1
          simp only [Nat.reduceAdd] at hk1
          simp only [Act.put, List.setIfInBounds_toArray, List.set_cons_succ, List.set_cons_zero] at ha1
          subst hk1 ha1
          apply Mono.is0
          · kernel_rfl
          · intro W hW
            go_wp2
            refine ⟨rfl, rfl, Grows.refl _, ?_⟩
            unfold Oper.valAt
            go_simp
            rfl
          intro k1 a1 hk1 ha1
          simp only [Nat.reduceAdd] at hk1
          simp only [Act.put, List.setIfInBounds_toArray, List.set_cons_succ, List.set_cons_zero] at ha1
          subst hk1 ha1
          apply Mono.is0
          · kernel_rfl
          · intro W hW 
            go_wp2_with fail
            refine (awake6_any W).mono ?_
            rintro e w1 ⟨rfl, hg1⟩
            go_wp2
            exact ⟨rfl, rfl, hg1, rfl⟩
          intro k1 a1 hk1 ha1
          simp only [Nat.reduceAdd] at hk1
          simp only [Act.put, List.setIfInBounds_toArray, List.set_cons_succ, List.set_cons_zero] at ha1
          subst hk1 ha1
          iterate 2
            apply Mono.is0
            · kernel_rfl
            · intro W hW
              go_wp2
              refine ⟨rfl, rfl, Grows.refl _, ?_⟩
              unfold Oper.valAt
              go_simp
              rfl
            intro k1 a1 hk1 ha1
            simp only [Nat.reduceAdd] at hk1
            simp only [Act.put, List.setIfInBounds_toArray, List.set_cons_succ, List.set_cons_zero] at ha1
            subst hk1 ha1
          refine Mono.done ?_
          intro wz hgz
          simp only [allF, List.drop_succ_cons, List.drop_nil]
          go_wp2
          go_ret
          exact ⟨rfl, hgw9.trans hgz⟩

end Go.Proofs.Ytlnldflnanllmaa
