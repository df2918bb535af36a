/-
  The walk of ArenaRows.
-/
import Derived.Test.YtbmmjkpibnnmeaaLaw16a
import Derived.Deep.Cut
import Derived.Outline
import Derived.Laws.Concat
namespace Go.Proofs.Ytbmmjkpibnnmeaa
open Go Go.RowKit
set_option linter.unusedSimpArgs false


theorem splice_mid {α : Type} (xs ys : List α) (k : Nat) (h : k + ys.length ≤ xs.length) (i n : Nat) (hi : i + n ≤ ys.length) : ((splice xs k ys).drop (k + i)).take n = (ys.drop i).take n := by
  unfold splice
  have e : (xs.take k).length = k := by rw [List.length_take]; omega
  rw [List.drop_append, List.drop_of_length_le (by rw [e]; omega), List.nil_append, e, show k + i - k = i by omega, List.drop_append_of_le_length (by omega), List.take_append_of_le_length (by rw [List.length_drop]; omega)]
theorem one_E (nC wd : Nat) (c : Nat) (hc : c < nC) (x y : Nat) (h : x + y ≤ wd) : doesE nC wd (c : Int) [((x : Int), (y : Int))] = 0 := by
  unfold doesE chkE
  rw [if_pos (by omega), if_neg (by simp), if_pos]
  simp only [List.all_cons, List.all_nil, Bool.and_true]
  rw [fit_iff]
  simp only
  omega
theorem two_E (nC wd : Nat) (c : Nat) (hc : c < nC) (x y z u : Nat) (h : x + y ≤ wd) (h2 : z + u ≤ wd) : doesE nC wd (c : Int) [((x : Int), (y : Int)), ((z : Int), (u : Int))] = 0 := by
  unfold doesE chkE
  rw [if_pos (by omega), if_neg (by simp), if_pos]
  simp only [List.all_cons, List.all_nil, Bool.and_true, Bool.and_eq_true]
  rw [fit_iff, fit_iff]
  simp only
  omega
theorem part_put (mem b : List UInt8) (lo k i n : Nat) (h : lo + k + b.length ≤ mem.length) (hi : i + n ≤ b.length) : partF (splice mem (lo + k) b) lo (((k + i : Nat) : Int), (n : Int)) = (b.drop i).take n := by
  unfold partF
  simp only [Int.toNat_natCast]
  rw [show lo + (k + i) = lo + k + i by omega]
  exact splice_mid mem b (lo + k) h i n hi
set_option maxRecDepth 100000 in
set_option maxHeartbeats 4000000 in
theorem walk_ArenaRows (A : Option Addr) (n c : Nat) (bs : List UInt8) (at_ cut : UInt8) (w : World) (hb : SB w A n c bs) :
    Calls Try.prog 8 #[.slice A n c, .int .u8 (at_.toNat : Int), .int .u8 (cut.toNat : Int)] w fun e w' => e = .returned (.bool true) ∧ Below w.heap.size w w' := by
  have hbl := lib_hid hb.len
  have HS := lib_hid hb
  have hcap := hb.max
  unfold maxLen at hcap
  have hnc := hb.cap
  clear hb
  by_cases hbig : 200 < n
  · have h1 : (200 : Int) < n := by omega
    clear hbig
    go_enter Try.func8, Try.ntmps8
    go_wp2
    go_ret
    exact ⟨rfl, Grows.refl w⟩
  have h1 : ¬ (200 : Int) < n := by omega
  have hat : (at_.toNat : Int) < 256 := by have := at_.toNat_lt; omega
  have hct : (cut.toNat : Int) < 256 := by have := cut.toNat_lt; omega
  obtain ⟨k, Hk, hkb⟩ : ∃ k : Nat, Hid (at_.toNat = k) ∧ (k : Int) < 256 := ⟨_, lib_hid rfl, hat⟩
  obtain ⟨m0, Hm0, hm0⟩ : ∃ k : Nat, Hid (cut.toNat = k) ∧ (k : Int) < 256 := ⟨_, lib_hid rfl, hct⟩
  obtain ⟨q, Hq, hqn⟩ : ∃ q : Nat, Hid (m0 % (n + 1) = q) ∧ q ≤ n := ⟨_, lib_hid rfl, by have := Nat.mod_lt m0 (show 0 < n + 1 by omega); omega⟩
  have Hcut : Hid ((m0 : Int).tmod ((n : Int) + 1) = (q : Int) ∧ (m0 : Int) % ((n : Int) + 1) = (q : Int)) := by
    have e : ((n : Int) + 1) = ((n + 1 : Nat) : Int) := by omega
    unfold Hid
    rw [e, Int.tmod_eq_emod_of_nonneg (by omega), ← Int.natCast_emod, Hq.out]
    exact ⟨rfl, rfl⟩
  have Hn2 : Hid (n ≤ 200) := by unfold Hid; omega
  have hni : (n : Int) ≤ 200 := by omega
  rw [Hk.out, Hm0.out]
  obtain ⟨mem, Hmem⟩ : ∃ mem, Hid (splice (List.replicate (2 * 500) (0 : UInt8)) (500 + k) bs = mem) := ⟨_, lib_hid rfl⟩
  have hkn : k + n ≤ 500 := by omega
  have HE : Hid (doesE 2 500 1 [((k : Int), (n : Int))] = 0) := one_E 2 500 1 (by decide) k n hkn
  have HSE : Hid (scatE 2 500 1 [((k : Int), (n : Int))] bs = 0) := by
    unfold Hid scatE
    rw [HE.out, if_pos rfl, hbl.out, if_neg]
    simp [roomF]
  have HSM : Hid (scatM (List.replicate (2 * 500) 0) 2 500 1 [((k : Int), (n : Int))] bs = mem) := by
    unfold Hid scatM
    rw [HSE.out, if_pos rfl, ← Hmem.out]
    show splice (List.replicate (2 * 500) 0) (1 * 500 + (k : Int).toNat) (bs.take (n : Int).toNat) = _
    rw [Int.toNat_natCast, Int.toNat_natCast, List.take_of_length_le (by rw [hbl.out]; exact Nat.le_refl _)]
  have Hpart : Hid (∀ i n', i + n' ≤ n → partF mem 500 (((k + i : Nat) : Int), (n' : Int)) = (bs.drop i).take n') := fun i n' h => by
    rw [← Hmem.out]
    exact part_put _ bs 500 k i n' (by rw [hbl.out, List.length_replicate]; omega) (by rw [hbl.out]; exact h)
  have Hg1 : Hid (∀ i n', i + n' ≤ n → doesE 2 500 1 [(((k + i : Nat) : Int), (n' : Int))] = 0 ∧ gathB mem 2 500 1 [(((k + i : Nat) : Int), (n' : Int))] = (bs.drop i).take n') := fun i n' h => by
    have hE : doesE 2 500 1 [(((k + i : Nat) : Int), (n' : Int))] = 0 := one_E 2 500 1 (by decide) (k + i) n' (by omega)
    refine ⟨hE, ?_⟩
    unfold gathB
    rw [hE, if_pos rfl]
    show partF mem 500 _ ++ [] = _
    rw [List.append_nil]
    exact Hpart.out i n' h
  obtain ⟨kq, hkq, Hkq, hkqb⟩ : ∃ kq : Nat, (k : Int) + (q : Int) = (kq : Int) ∧ Hid (k + q = kq) ∧ (kq : Int) ≤ 500 := ⟨k + q, by omega, lib_hid rfl, by omega⟩
  obtain ⟨r, hr, Hr, hrb⟩ : ∃ r : Nat, (n : Int) - (q : Int) = (r : Int) ∧ Hid (q + r = n) ∧ (r : Int) ≤ 200 := ⟨n - q, by omega, by unfold Hid; omega, by omega⟩
  have Hg2 : Hid (doesE 2 500 1 [((k : Int), (q : Int)), ((kq : Int), (r : Int))] = 0 ∧ gathB mem 2 500 1 [((k : Int), (q : Int)), ((kq : Int), (r : Int))] = bs) := by
    have hE : doesE 2 500 1 [((k : Int), (q : Int)), ((kq : Int), (r : Int))] = 0 := two_E 2 500 1 (by decide) k q kq r (by omega) (by have := Hkq.out; have := Hr.out; omega)
    refine ⟨hE, ?_⟩
    unfold gathB
    rw [hE, if_pos rfl]
    show partF mem 500 _ ++ (partF mem 500 _ ++ []) = _
    rw [List.append_nil]
    have e1 := Hpart.out 0 q (by omega)
    have e2 := Hpart.out q r (by have := Hr.out; omega)
    rw [Nat.add_zero] at e1
    rw [Hkq.out] at e2
    rw [e1, e2, List.drop_zero, List.take_of_length_le (l := bs.drop q) (by rw [List.length_drop, hbl.out]; have := Hr.out; omega), List.take_append_drop]
  have HN := lib_hid (new_any 2 500 w (by decide) (by decide) (by decide) (by decide))
  have HWr : Hid (∀ (g m : Nat) (W : World), ArS W g m 2 500 (List.replicate (2 * 500) 0) → SB W A n c bs → Calls Try.prog 28 #[.pointer (some ⟨g, 0, none⟩), .int .i64 1, .int .i64 (k : Int), .slice A n c] W (ScatR W g m 2 500 mem 0)) := fun g m W h1 h2 => by
    have := write_any W g m 2 500 _ 1 k bs A n c h1 (by decide) (by decide) (by decide) (by decide) (I64k k (by omega)) h2 (by omega)
    rw [HSE.out, HSM.out] at this
    exact this
  have HRe : Hid (∀ (g m : Nat) (W : World) (i n' s : Nat), ArS W g m 2 500 mem → i + n' ≤ n → k + i = s → Calls Try.prog 25 #[.pointer (some ⟨g, 0, none⟩), .int .i64 1, .int .i64 (s : Int), .int .i64 (n' : Int)] W (GathR W 0 ((bs.drop i).take n'))) := fun g m W i n' s h hi hs => by
    subst hs
    have := read_any W g m 2 500 mem 1 ((k + i : Nat) : Int) (n' : Int) h (by decide) (by decide) (by decide) (by decide) ⟨I64k _ (by omega), I64k _ (by omega)⟩
    rw [(Hg1.out i n' hi).1, (Hg1.out i n' hi).2] at this
    exact this
  have HGa : Hid (∀ (g m : Nat) (W : World) (B : Option Addr), ArS W g m 2 500 mem → SpanR W B 2 2 [((k : Int), (q : Int)), ((kq : Int), (r : Int))] → Calls Try.prog 26 #[.pointer (some ⟨g, 0, none⟩), .int .i64 1, .slice B 2 2] W (GathR W 0 bs)) := fun g m W B h1 h2 => by
    have := gather_any W g m 2 500 mem 1 _ B 2 2 h1 (by decide) (by decide) (by decide) (by decide) h2 (by
      intro p hp
      simp only [List.mem_cons, List.not_mem_nil, or_false] at hp
      rcases hp with rfl | rfl
      · exact ⟨I64k k (by omega), I64k q (by omega)⟩
      · exact ⟨I64k kq (by omega), I64k r (by omega)⟩)
    rw [Hg2.out.1, Hg2.out.2] at this
    exact this
  have Hqn := lib_hid hqn
  clear hbig HE HSE HSM Hpart Hg1 Hg2 hat hct hkn hqn
  go_enter Try.func8, Try.ntmps8
  go_wp2_with fail
  refine HN.out.mono ?_
  rintro e w1 ⟨g, m, rfl, hg, hm, hg1, har⟩
  have Har := lib_hid har
  have Hgm := lib_hid (And.intro hg hm)
  have Hg1 := lib_hid hg1
  clear hg hm har hg1 HN h1
  go_upto_region 4 with fail
  apply wp_region_mono 10 ((.is _, []) :: (.is _, []) :: (.is _, []) :: (.is _, []) :: (.is _, []) :: (.is _, []) :: (.is _, []) :: (.is _, []) :: (.is _, []) :: (.is _, []) :: []) (by kernel_rfl) (by kernel_rfl)
  iterate 7
    apply Mono.is0
    · kernel_rfl
    · intro W hW
      go_wp2
      refine ⟨rfl, rfl, Grows.refl _, ?_⟩
      unfold Oper.valAt
      go_simp
      rfl
    intro k1 a1 hk1 ha1
    simp only [Nat.reduceAdd] at hk1
    simp only [Act.put, List.setIfInBounds_toArray, List.set_cons_succ, List.set_cons_zero] at ha1
    subst hk1 ha1
  apply Mono.is0
  · kernel_rfl
  · intro W hW
    have h4 := Hcut.out
    go_wp2
    refine ⟨rfl, rfl, Grows.refl _, ?_⟩
    unfold Oper.valAt
    go_simp
    rfl
  intro k1 a1 hk1 ha1
  simp only [Nat.reduceAdd] at hk1
  simp only [Act.put, List.setIfInBounds_toArray, List.set_cons_succ, List.set_cons_zero] at ha1
  subst hk1 ha1
  iterate 2
    apply Mono.is0
    · kernel_rfl
    · intro W hW
      go_wp2
      refine ⟨rfl, rfl, Grows.refl _, ?_⟩
      unfold Oper.valAt
      go_simp
      rfl
    intro k1 a1 hk1 ha1
    simp only [Nat.reduceAdd] at hk1
    simp only [Act.put, List.setIfInBounds_toArray, List.set_cons_succ, List.set_cons_zero] at ha1
    subst hk1 ha1
  refine Mono.done ?_
  intro wm hgm
  simp only [allF, List.drop_succ_cons, List.drop_nil]
  have hgw := Hg1.out.trans hgm
  have HCw := lib_hid (HWr.out g m wm (Har.out.grows hgm) (HS.out.grows hgw))
  have Hgw := lib_hid hgw
  have Hhr := lib_hid (And.intro hkq hr)
  clear hgm hgw hkq hr
  go_wp2_with fail
  refine HCw.out.mono ?_
  rintro e w2 ⟨rfl, hk2, har2⟩
  have Har2 := lib_hid har2
  have Hg2 : Hid (Grows w w2) := by
    have : Keeps (fun k => w.heap.size ≤ k) w w2 := (Hgw.out.keeps _).trans hk2 (fun i hi hlt => by subst hi; exact Hgm.out.2)
    exact this.grows (fun i hi => hi)
  clear har2 hk2 HCw
  -- read all
  go_wp2_with fail
  refine (HRe.out g m _ 0 n k Har2.out (by omega) rfl).mono ?_
  rintro e w3 ⟨A3, n3, c3, rfl, hn3, hg3, hs3⟩
  have HS3 := lib_hid hs3
  have Hg3 := lib_hid (Hg2.out.trans hg3)
  have Har3 := lib_hid (Har2.out.grows hg3)
  clear hs3 hg3 hn3
  go_wp2_with fail
  refine (HRe.out g m _ 0 q k Har3.out (by have := Hqn.out; omega) rfl).mono ?_
  rintro e w4 ⟨A4, n4, c4, rfl, hn4, hg4, hs4⟩
  have HS4 := lib_hid hs4
  have Hg4 := lib_hid (Hg3.out.trans hg4)
  have Har4 := lib_hid (Har3.out.grows hg4)
  have HS34 := lib_hid (HS3.out.grows hg4)
  clear hs4 hg4 hn4
  obtain ⟨hkq, hr⟩ := Hhr.out
  go_wp2_with fail
  refine (HRe.out g m _ q r kq Har4.out (by have := Hr.out; omega) Hkq.out).mono ?_
  rintro e w5 ⟨A5, n5, c5, rfl, hn5, hg5, hs5⟩
  have HS5 := lib_hid hs5
  have Hg5 := lib_hid (Hg4.out.trans hg5)
  have Har5 := lib_hid (Har4.out.grows hg5)
  have HS35 := lib_hid (HS34.out.grows hg5)
  have HS45 := lib_hid (HS4.out.grows hg5)
  clear hs5 hg5 hn5
  have HCg := lib_hid (HGa.out g m (w5.alloc (.cells #[.int .i64 (k : Int), .int .i64 (q : Int), .int .i64 (kq : Int), .int .i64 (r : Int)] 28)) _ (Har5.out.grows ((Grows.refl _).alloc _)) (two_spans w5 28 k q kq r))
  have Ha5 : Hid (Grows w5 (w5.alloc (.cells #[.int .i64 (k : Int), .int .i64 (q : Int), .int .i64 (kq : Int), .int .i64 (r : Int)] 28))) := (Grows.refl _).alloc _
  go_wp2_with fail
  refine HCg.out.mono ?_
  rintro e w6 ⟨A6, n6, c6, rfl, hn6, hg6, hs6⟩
  have hgx := Ha5.out.trans hg6
  obtain ⟨Y, HY⟩ : ∃ Y, Hid ((bs.drop 0).take q = Y) := ⟨_, lib_hid rfl⟩
  obtain ⟨Z, HZ⟩ : ∃ Z, Hid ((bs.drop q).take r = Z) := ⟨_, lib_hid rfl⟩
  have HYZ : Hid (Y ++ Z = bs ∧ Y.length ≤ 200 ∧ Z.length ≤ 200) := by
    have hn2 := Hn2.out
    have hqn := Hqn.out
    have hr1 := Hr.out
    have hb := hbl.out
    unfold Hid
    rw [← HY.out, ← HZ.out]
    refine ⟨?_, ?_, ?_⟩
    · rw [List.drop_zero, List.take_of_length_le (l := bs.drop q) (by rw [List.length_drop]; omega), List.take_append_drop]
    · rw [List.length_take, List.length_drop]; omega
    · rw [List.length_take, List.length_drop]; omega
  have cv0 := run_string_SB (P := Try.prog) Try.underlying44 Try.underlying5 Try.underlying9 (HS.out.grows (Hg5.out.trans hgx))
  have cv3 := run_string_SB (P := Try.prog) Try.underlying44 Try.underlying5 Try.underlying9 (HS35.out.grows hgx)
  rw [List.drop_zero, List.take_of_length_le (by rw [hbl.out]; exact Nat.le_refl _)] at cv3
  have cv4 := run_string_SB (P := Try.prog) Try.underlying44 Try.underlying5 Try.underlying9 (HS45.out.grows hgx)
  rw [HY.out] at cv4
  have cv5 := run_string_SB (P := Try.prog) Try.underlying44 Try.underlying5 Try.underlying9 (HS5.out.grows hgx)
  rw [HZ.out] at cv5
  have cv6 := run_string_SB (P := Try.prog) Try.underlying44 Try.underlying5 Try.underlying9 hs6
  have hadd : ∀ W : World, (Op.stringOp .add ⟨Y.toArray⟩ ⟨Z.toArray⟩).run Try.prog W = .ok (.string ⟨bs.toArray⟩) W := fun W => by
    rw [run_string_add_lists W Y Z (by have := HYZ.out; omega) (by have := HYZ.out; omega), HYZ.out.1]
  have HA := lib_hid (awake16_any w6)
  have hgf := lib_hid ((Hg5.out.trans hgx))
  clear hs6 hgx hn6 hg6 HCg hkq hr
  go_wp2_with fail
  refine HA.out.mono ?_
  rintro e w7 ⟨rfl, hg7⟩
  clear cv0 cv3 cv4 cv5 cv6 hadd
  go_wp2
  go_ret
  exact ⟨rfl, hgf.out.trans hg7⟩

end Go.Proofs.Ytbmmjkpibnnmeaa
