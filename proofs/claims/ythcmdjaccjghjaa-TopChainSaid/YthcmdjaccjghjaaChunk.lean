/-
  slices.Chunk of bytes.
-/
import Derived.Test.YthcmdjaccjghjaaRound
import Derived.Test.YthcmdjaccjghjaaMem
import Derived.Test.YthcmdjaccjghjaaOwn
import Derived.Test.YthcmdjaccjghjaaBits1
import Derived.Test.YthcmdjaccjghjaaArr16
import Derived.RangeFuncBox
import Derived.Shelf.Abstract
import Derived.Shelf.RegionOpen
import Derived.WalkKit
import Derived.TacticsInMore
import Derived.LoopNIn
import Derived.LoopIn
import Derived.Lib.MinMax
import Derived.Deep.Cut
namespace Go.Proofs.Ythcmdjaccjghjaa
open Go Go.RowKit
set_option linter.unusedSimpArgs false
set_option linter.unusedVariables false

theorem run_sl_lo {P : Program} {t e : TypeId} (ht : P.underlying t = some (.slice e)) (hs : (P.info? e).map (·.size) = some 1) (bk off n c lo : Nat) (l : Int) (hl : l = lo) (h1 : lo ≤ n) (h3 : lo < c) (W : World) :
    Sem.run P (Instr.slice t (.slice (some ⟨bk, off, none⟩) n c) (some (.int .i64 l)) none none) W = .ok (.slice (some ⟨bk, off + lo, none⟩) (n - lo) (c - lo)) W := by
  have e2 : P.elem t = e := by simp [Program.elem, ht]
  obtain ⟨i, hi', hi1⟩ := Option.map_eq_some_iff.1 hs
  have hz : (sizeOf e).run P W = .ok 1 W := by simp [sizeOf, typeInfo, hi', hi1]
  subst hl
  rw [run_slice_l (w := W) t (some ⟨bk, off, none⟩) n c (by rw [e2]; exact ht) .i64 lo (by omega) (by omega), e2, hz]
  simp only [Result.andThen_ok, sliced, Int.toNat_natCast, Nat.mul_one]
  rw [if_neg (by omega)]
  simp [add_zero_spot]
theorem run_sl_lhm {P : Program} {t e : TypeId} (ht : P.underlying t = some (.slice e)) (hs : (P.info? e).map (·.size) = some 1) (bk off n c lo hi : Nat) (l h : Int) (hl : l = lo) (hh : h = hi) (h1 : lo < hi) (h2 : hi ≤ c) (W : World) :
    Sem.run P (Instr.slice t (.slice (some ⟨bk, off, none⟩) n c) (some (.int .i64 l)) (some (.int .i64 h)) (some (.int .i64 h))) W = .ok (.slice (some ⟨bk, off + lo, none⟩) (hi - lo) (hi - lo)) W := by
  have e2 : P.elem t = e := by simp [Program.elem, ht]
  obtain ⟨i, hi', hi1⟩ := Option.map_eq_some_iff.1 hs
  have hz : (sizeOf e).run P W = .ok 1 W := by simp [sizeOf, typeInfo, hi', hi1]
  subst hl hh
  rw [run_slice_lhm (w := W) t (some ⟨bk, off, none⟩) n c (by rw [e2]; exact ht) .i64 .i64 .i64 lo hi hi (by omega) (by omega) (by omega) (by omega), e2, hz]
  simp only [Result.andThen_ok, sliced, Int.toNat_natCast, Nat.mul_one]
  rw [if_neg (by omega)]
  simp [add_zero_spot]

attribute [local go_sem] Oper.semAt_some
theorem Grows.grown0 {w w' : World} (h : Grows w w') : w.grownBy w' none := ⟨h.os, h.tape, h.output, h.size, fun k hk _ => h.block k hk⟩
theorem fin_len (cnt : Nat) : (List.finRange cnt).length = cnt := List.length_finRange
theorem fin_take (cnt k : Nat) (h : k < cnt) : (List.finRange cnt).take (k + 1) = (List.finRange cnt).take k ++ [⟨k, h⟩] := by
  rw [List.take_add_one, List.getElem?_eq_getElem (by rw [fin_len]; exact h), List.getElem_finRange]
  rfl
set_option maxRecDepth 100000 in
set_option maxHeartbeats 4000000 in
theorem chunk_any (A : Option Addr) (n c sz : Nat) (w : World) (hz : 1 ≤ sz) (hm : sz ≤ 1000) : Calls Try.prog 21 #[.slice A n c, .int .i64 (sz : Int)] w fun e w' => ∃ bs bn, e = .returned (.func (.func 46) #[] #[.pointer (some ⟨bs, 0, none⟩), .pointer (some ⟨bn, 0, none⟩)]) ∧ Grows w w' ∧ w.heap.size ≤ bs ∧ w.heap.size ≤ bn ∧ Blk w' bs 26 #[.slice A n c] ∧ Blk w' bn 3 #[.int .i64 (sz : Int)] := by
  have h1 : ¬ (sz : Int) < 1 := by omega
  have hg : Grows w ((w.alloc (.cells #[.slice A n c] 26)).alloc (.cells #[.int .i64 (sz : Int)] 3)) := ((Grows.refl w).alloc _).alloc _
  have hb0 : Blk ((w.alloc (.cells #[.slice A n c] 26)).alloc (.cells #[.int .i64 (sz : Int)] 3)) w.heap.size 26 #[.slice A n c] := (Blk.new w 26 #[.slice A n c]).alloc _
  have hb1 : Blk ((w.alloc (.cells #[.slice A n c] 26)).alloc (.cells #[.int .i64 (sz : Int)] 3)) (w.heap.size + 1) 3 #[.int .i64 (sz : Int)] := by
    have := Blk.new (w.alloc (.cells #[.slice A n c] 26)) 3 #[.int .i64 (sz : Int)]
    simpa using this
  have Hg := lib_hid hg
  have Hb0 := lib_hid hb0
  have Hb1 := lib_hid hb1
  clear hg hb0 hb1
  go_enter Try.func21, Try.ntmps21
  go_wp2
  go_ret
  exact ⟨_, _, rfl, Hg.out, Nat.le_refl _, Nat.le_succ _, Hb0.out, Hb1.out⟩
/-- The k-th part of a slice of bytes, by its address. -/
def chunkV (b off sz k : Nat) : Value := .slice (some ⟨b, off + sz * k, none⟩) sz sz
set_option maxRecDepth 100000 in
set_option maxHeartbeats 4000000 in
theorem chunk_stops (A : Option Addr) (m bs bn b off c sz cnt : Nat) (own : Nat → Prop) (w : World) (hm : 2 ≤ m) (hz : 1 ≤ sz) (hzm : sz ≤ 1000) (hcn : cnt ≤ 1000000) (hc : sz * cnt ≤ c) (hcm : c ≤ maxLen)
    (hA : 0 < cnt → A = some ⟨b, off, none⟩) (hBs : Blk w bs 26 #[.slice A (sz * cnt) c]) (hBn : Blk w bn 3 #[.int .i64 (sz : Int)]) (ho1 : ¬ own bs) (ho2 : ¬ own bn) :
    SeqStopsK Fence.wide m Try.prog 46 #[.pointer (some ⟨bs, 0, none⟩), .pointer (some ⟨bn, 0, none⟩)] (fun k : Fin cnt => #[chunkV b off sz k.val]) (Keeps own) (fun xs => xs = List.finRange cnt) (fun _ => True) cnt w := by
  intro l J Jx W hW hJ hJx hY h0
  obtain ⟨tot, Htot⟩ : ∃ tot, Hid (sz * cnt = tot) := ⟨_, lib_hid rfl⟩
  have htm : tot ≤ 1000000000 := by rw [← Htot.out]; exact Nat.mul_le_mul hzm hcn
  rw [Htot.out] at hBs hc
  unfold maxLen at hcm
  have HBs := lib_hid (hBs.below hW hBs.lt)
  have HBn := lib_hid (hBn.below hW hBn.lt)
  have HJ := lib_hid hJ
  have HJx := lib_hid hJx
  have HY := lib_hid hY
  have H0 := lib_hid h0
  have hzi : (sz : Int) ≤ 1000 := by omega
  have hz1 : (1 : Int) ≤ (sz : Int) := by omega
  have hti : (tot : Int) ≤ 1000000000 := by omega
  clear hBs hBn hJ hJx hY h0 hW hzm hcn
  refine callsIn_of_wp Try.func46 rfl trivial ?_ rfl
  simp only [Try.ntmps46, List.size_toArray, List.length_cons, List.length_nil, Nat.reduceAdd, Nat.reduceSub, Array.replicate_succ, Array.replicate_zero, List.push_toArray, List.append_toArray, List.nil_append, List.cons_append]
  gi_wp2
  gi_loopw [4] (fun i wr => ∃ k j : Nat, k ≤ cnt ∧ Hid (sz * k = j) ∧ j ≤ tot ∧ i = .int .i64 (j : Int) ∧ Hid (J ((List.finRange cnt).take k) wr) ∧ Hid (Keeps own W wr)) (fun i _ => tot - (intOf i).toNat)
  case atStart => exact ⟨0, 0, Nat.zero_le _, lib_hid (Nat.mul_zero _), Nat.zero_le _, rfl, H0, lib_hid (Keeps.refl _ _)⟩
  case round =>
    obtain ⟨k, j, hk, Hj, hjt, rfl, HJr, HKr⟩ := hrel
    have Hq1 : Hid (∀ W', Grows wr W' → W'.cell? ⟨bs, 0, none⟩ = some (.slice A tot c)) := fun W' hW' => ((HBs.out.keeps HKr.out ho1).grows hW').cell 0
    have Hq2 : Hid (∀ W', Grows wr W' → W'.cell? ⟨bn, 0, none⟩ = some (.int .i64 (sz : Int))) := fun W' hW' => ((HBn.out.keeps HKr.out ho2).grows hW').cell 0
    have q1 := Hq1.out wr (Grows.refl _)
    by_cases hlt : k < cnt
    · have hA1 := hA (by omega)
      subst hA1
      have hjs : j + sz ≤ tot := by
        have h1 : sz * (k + 1) ≤ sz * cnt := Nat.mul_le_mul_left _ hlt
        rw [Nat.mul_succ, Hj.out, Htot.out] at h1
        exact h1
      have hji : (j : Int) < (tot : Int) := by omega
      gi_wp2
      obtain ⟨r, hr, Hr⟩ : ∃ r, tot - j = r ∧ Hid (tot - j = r) := ⟨_, rfl, lib_hid rfl⟩
      have Hmin : Hid (min (sz : Int) (r : Int) = (sz : Int)) := by unfold Hid; have := Hr.out; omega
      have HSl : Hid (∀ W, (Instr.slice 26 (.slice (some ⟨b, off, none⟩) tot c) (some (.int .i64 (j : Int))) none none).run Try.prog W = .ok (.slice (some ⟨b, off + j, none⟩) r (c - j)) W) := fun W => by
        rw [← Hr.out]
        exact run_sl_lo Try.underlying26 Try.sizeByte b off tot c j (j : Int) rfl (by omega) (by omega) W
      obtain ⟨e, he, He⟩ : ∃ e : Nat, (j : Int) + (sz : Int) = (e : Int) ∧ Hid (j + sz = e) := ⟨j + sz, by omega, lib_hid rfl⟩
      have HSl3 : Hid (∀ W, (Instr.slice 26 (.slice (some ⟨b, off, none⟩) tot c) (some (.int .i64 (j : Int))) (some (.int .i64 (e : Int))) (some (.int .i64 (e : Int)))).run Try.prog W = .ok (.slice (some ⟨b, off + j, none⟩) sz sz) W) := fun W => by
        have h := run_sl_lhm Try.underlying26 Try.sizeByte b off tot c j e (j : Int) (e : Int) rfl rfl (by have := He.out; omega) (by have := He.out; omega) W
        rw [show e - j = sz by have := He.out; omega] at h
        exact h
      have hrm : (r : Int) ≤ 1000000000 := by have := Hr.out; omega
      have hem : (e : Int) ≤ 1000001000 := by omega
      have Hjs := lib_hid hjs
      clear hjs q1 hr
      refine wpIn_wide.2 ?_
      apply wp_region_mono 7 ((.is _, []) :: (.is _, []) :: (.is _, []) :: (.is _, []) :: (.is _, []) :: (.is _, []) :: (.is _, []) :: []) (by kernel_rfl) (by kernel_rfl)
      apply Mono.is0
      · kernel_rfl
      · intro W hW
        have q2 := Hq2.out W hW
        go_wp2
        refine ⟨rfl, rfl, Grows.refl _, ?_⟩
        unfold Oper.valAt
        go_simp
        rfl
      intro k1 a1 hk1 ha1
      simp only [Nat.reduceAdd] at hk1
      simp only [Act.put, List.setIfInBounds_toArray, List.set_cons_succ, List.set_cons_zero] at ha1
      subst hk1 ha1
      apply Mono.is0
      · kernel_rfl
      · intro W hW
        have q1 := Hq1.out W hW
        go_wp2
        refine ⟨rfl, rfl, Grows.refl _, ?_⟩
        unfold Oper.valAt
        go_simp
        rfl
      intro k1 a1 hk1 ha1
      simp only [Nat.reduceAdd] at hk1
      simp only [Act.put, List.setIfInBounds_toArray, List.set_cons_succ, List.set_cons_zero] at ha1
      subst hk1 ha1
      apply Mono.is0
      · kernel_rfl
      · intro W hW
        go_wp2
        refine ⟨rfl, rfl, Grows.refl _, ?_⟩
        unfold Oper.valAt
        go_simp
        rfl
      intro k1 a1 hk1 ha1
      simp only [Nat.reduceAdd] at hk1
      simp only [Act.put, List.setIfInBounds_toArray, List.set_cons_succ, List.set_cons_zero] at ha1
      subst hk1 ha1
      apply Mono.is0
      · kernel_rfl
      · intro W hW
        have hsl := HSl.out W
        go_wp2
        refine ⟨rfl, rfl, Grows.refl _, ?_⟩
        unfold Oper.valAt
        go_simp
        rfl
      intro k1 a1 hk1 ha1
      simp only [Nat.reduceAdd] at hk1
      simp only [Act.put, List.setIfInBounds_toArray, List.set_cons_succ, List.set_cons_zero] at ha1
      subst hk1 ha1
      apply Mono.is0
      · kernel_rfl
      · intro W hW
        go_wp2
        refine ⟨rfl, rfl, Grows.refl _, ?_⟩
        unfold Oper.valAt
        go_simp
        rfl
      intro k1 a1 hk1 ha1
      simp only [Nat.reduceAdd] at hk1
      simp only [Act.put, List.setIfInBounds_toArray, List.set_cons_succ, List.set_cons_zero] at ha1
      subst hk1 ha1
      apply Mono.is0
      · kernel_rfl
      · intro W hW
        have hmi := Hmin.out
        go_wp2
        refine ⟨rfl, rfl, Grows.refl _, ?_⟩
        unfold Oper.valAt
        go_simp
        rfl
      intro k1 a1 hk1 ha1
      simp only [Nat.reduceAdd] at hk1
      simp only [Act.put, List.setIfInBounds_toArray, List.set_cons_succ, List.set_cons_zero] at ha1
      subst hk1 ha1
      apply Mono.is0
      · kernel_rfl
      · intro W hW
        go_wp2
        refine ⟨rfl, rfl, Grows.refl _, ?_⟩
        unfold Oper.valAt
        go_simp
        rfl
      intro k1 a1 hk1 ha1
      simp only [Nat.reduceAdd] at hk1
      simp only [Act.put, List.setIfInBounds_toArray, List.set_cons_succ, List.set_cons_zero] at ha1
      subst hk1 ha1
      refine Mono.done ?_
      intro wm hgm
      simp only [allF, List.drop_succ_cons, List.drop_nil]
      have hJm : J ((List.finRange cnt).take k) wm := HJ.out _ _ _ none HJr.out hgm.grown0 (fun r e => by cases e)
      obtain ⟨fn, tmps, assign, body, hy, hR⟩ := HY.out _ ⟨k, hlt⟩ wm hJm (by rw [List.length_take, fin_len]; omega)
      have q1 := Hq1.out wm hgm
      have hsl3 := HSl3.out
      have hcv : chunkV b off sz k = .slice (some ⟨b, off + j, none⟩) sz sz := by unfold chunkV; rw [Hj.out]
      dsimp only at hy
      rw [hcv] at hy
      have HKm := lib_hid (HKr.out.trans (hgm.keeps own) (fun _ h _ => h))
      clear hcv hJm hgm HSl Hmin Hq1 Hq2
      have Hnx : Hid (∀ W3, Keeps own wm W3 → W3.cell? ⟨bn, 0, none⟩ = some (.int .i64 (sz : Int))) := fun W3 h => (HBn.out.keeps (HKm.out.trans h (fun _ h _ => h)) ho2).cell 0
      show (Exit.then _ _) .normal _ _
      gi_wp2
      refine ⟨fun e => (by cases e), ?_⟩
      refine hR.mono ?_
      rintro e W3 (⟨rfl, hJ3, hk3⟩ | ⟨rfl, hJx3⟩)
      · have q2 := Hnx.out W3 hk3
        have HJ3 : Hid (J ((List.finRange cnt).take (k + 1)) W3) := by unfold Hid; rw [fin_take cnt k hlt]; exact hJ3
        have HK3 := lib_hid (HKm.out.trans hk3 (fun _ h _ => h))
        clear hJ3 hk3 hy hR q1 hsl3 HSl3
        gi_wp2
        go_roundw
        case rel => exact ⟨k + 1, e, by omega, by unfold Hid; rw [Nat.mul_succ, Hj.out]; exact He.out, by have := He.out; have := Hjs.out; omega, rfl, HJ3, HK3⟩
        case measure => simp [intOf]; omega
      · clear hy hR q1 hsl3 HSl3
        gi_wp2
        refine bodyPost_ret (results_none rfl _ _ _) rfl ?_
        exact ⟨⟨_, rfl⟩, .inr ⟨_, trivial, hJx3⟩⟩
    · have hj : j = tot := by rw [← Hj.out, ← Htot.out, show k = cnt by omega]
      subst hj
      have HJr2 : Hid (J (List.finRange cnt) wr) := by
        have h := HJr.out
        rw [List.take_of_length_le (by rw [fin_len]; omega)] at h
        exact h
      gi_wp2
      go_end0
      exact ⟨⟨_, rfl⟩, .inl ⟨_, rfl, HJr2.out⟩⟩
end Go.Proofs.Ythcmdjaccjghjaa
