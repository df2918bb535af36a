/-
  The walks of small and spans.
-/
import Derived.Test.YtbmmjkpibnnmeaaRows
import Derived.Test.YtbmmjkpibnnmeaaSpan
import Derived.Lib.SliceRun
import Derived.RegionTactic
import Derived.WalkKit
import Derived.WalkSpells
import Derived.WalkLawsBesides
import Derived.Deep.QuietTactic
import Derived.BigQuiet
import Derived.Deep.Cut
namespace Go.Proofs.Ytbmmjkpibnnmeaa
open Go Go.RowKit
set_option linter.unusedSimpArgs false


theorem Try.info28 : (Try.prog.info? 28).map (fun i => (i.zero, i.size, i.bytes)) = some (some (.agg #[.int .i64 0, .int .i64 0]), 2, 16) := by kernel_rfl
theorem Try.info29 : (Try.prog.info? 29).map (fun i => (i.zero, i.size, i.bytes)) = some (some (.agg #[.int .i64 0, .int .i64 0]), 2, 16) := by kernel_rfl
theorem Try.info3 : (Try.prog.info? 3).map (fun i => (i.zero, i.size, i.bytes)) = some (some (.int .i64 0), 1, 8) := by kernel_rfl

def smallP (p : Int × Int) : Bool := decide (0 ≤ p.1) && decide (p.1 < 2147483648) && decide (0 ≤ p.2) && decide (p.2 ≤ 400)
def smallB (l : List (Int × Int)) : Bool := decide (l.length ≤ 12) && l.all smallP
theorem smallB_le {l : List (Int × Int)} (h : smallB l = true) : l.length ≤ 12 ∧ ∀ p ∈ l, 0 ≤ p.1 ∧ p.1 < 2147483648 ∧ 0 ≤ p.2 ∧ p.2 ≤ 400 := by
  unfold smallB at h
  simp only [Bool.and_eq_true, decide_eq_true_eq, List.all_eq_true] at h
  refine ⟨h.1, fun p hp => ?_⟩
  have := h.2 p hp
  unfold smallP at this
  simp only [Bool.and_eq_true, decide_eq_true_eq] at this
  omega
theorem smallB_no {l : List (Int × Int)} {k : Nat} {p : Int × Int} (h : l[k]? = some p) (hp : smallP p = false) : smallB l = false := by
  unfold smallB
  have : l.all smallP = false := by
    rw [List.all_eq_false]
    exact ⟨p, List.mem_of_getElem? h, by simp [hp]⟩
  rw [this, Bool.and_false]
theorem smallB_long {l : List (Int × Int)} (h : 12 < l.length) : smallB l = false := by
  unfold smallB
  rw [decide_eq_false (by omega), Bool.false_and]
set_option maxRecDepth 100000 in
set_option maxHeartbeats 4000000 in
theorem small_any (l : List (Int × Int)) (A : Option Addr) (n c : Nat) (w : World) (hs : SpanR w A n c l) :
    Calls Try.prog 12 #[.slice A n c] w fun e w' => e = .returned (.bool (smallB l)) ∧ w = w' := by
  have HS := lib_hid hs
  have hll := lib_hid hs.len
  have hcap := hs.max
  unfold maxLen at hcap
  have hnc := hs.cap
  clear hs
  by_cases hbig : 12 < n
  · have hb : (12 : Int) < n := by omega
    have Hno : Hid (smallB l = false) := smallB_long (by rw [hll.out]; exact hbig)
    go_enter Try.func12, Try.ntmps12
    go_wp2
    go_ret
    exact ⟨by rw [Hno.out]; rfl, rfl⟩
  · have hb : ¬ (12 : Int) < n := by omega
    have Hb := lib_hid (Nat.not_lt.1 hbig)
    clear hbig
    go_enter Try.func12, Try.ntmps12
    go_wp2
    clear hb
    go_loop [3] (fun i => ∃ k : Nat, k ≤ n ∧ i = .int .i64 k ∧ Hid (∀ p ∈ l.take k, smallP p = true)) (fun i => n - (intOf i).toNat)
    case atStart => exact ⟨0, Nat.zero_le _, rfl, lib_hid (by intro p hp; simp at hp)⟩
    case round =>
      obtain ⟨k, hk, rfl, HK⟩ := hrel
      by_cases hlt : k < n
      · have hki : (k : Int) < n := by omega
        obtain ⟨b, off, x, y, rfl, hb, hxy, hc1, hc2⟩ := HS.out.at hlt
        have Hxy := lib_hid hxy
        clear hxy hb
        by_cases h1 : x < 0
        · have Hno : Hid (smallB l = false) := smallB_no Hxy.out (by unfold smallP; simp only [decide_eq_false (show ¬ 0 ≤ x by omega), Bool.false_and])
          go_wp2
          go_ret
          exact ⟨by rw [Hno.out]; rfl, rfl⟩
        by_cases h2 : 2147483648 ≤ x
        · have Hno : Hid (smallB l = false) := smallB_no Hxy.out (by unfold smallP; simp only [decide_eq_false (show ¬ x < 2147483648 by omega), Bool.false_and, Bool.and_false])
          go_wp2
          go_ret
          exact ⟨by rw [Hno.out]; rfl, rfl⟩
        by_cases h3 : y < 0
        · have Hno : Hid (smallB l = false) := smallB_no Hxy.out (by unfold smallP; simp only [decide_eq_false (show ¬ 0 ≤ y by omega), Bool.false_and, Bool.and_false])
          go_wp2
          go_ret
          exact ⟨by rw [Hno.out]; rfl, rfl⟩
        by_cases h4 : 400 < y
        · have Hno : Hid (smallB l = false) := smallB_no Hxy.out (by unfold smallP; simp only [decide_eq_false (show ¬ y ≤ 400 by omega), Bool.false_and, Bool.and_false])
          go_wp2
          go_ret
          exact ⟨by rw [Hno.out]; rfl, rfl⟩
        have HK2 : Hid (∀ p ∈ l.take (k + 1), smallP p = true) := by
          unfold Hid
          rw [List.take_add_one, Hxy.out]
          intro p hp
          simp only [Option.toList_some, List.mem_append, List.mem_singleton] at hp
          rcases hp with hp | rfl
          · exact HK.out p hp
          · unfold smallP; simp only [Bool.and_eq_true, decide_eq_true_eq]; omega
        clear HK
        go_wp2
        go_round
        case rel => exact ⟨k + 1, by omega, by go_num, HK2⟩
        case measure => simp [intOf]; omega
      · have hki : ¬ (k : Int) < n := by omega
        have hkn : k = n := by omega
        have Hyes : Hid (smallB l = true) := by
          unfold Hid smallB
          have := HK.out
          rw [List.take_of_length_le (by rw [hll.out, hkn]; exact Nat.le_refl _)] at this
          rw [decide_eq_true (by rw [hll.out]; exact Hb.out), Bool.true_and, List.all_eq_true]
          exact this
        clear HK hkn
        go_wp2
        go_ret
        exact ⟨by rw [Hyes.out]; rfl, rfl⟩

set_option maxRecDepth 100000 in
set_option maxHeartbeats 4000000 in
theorem spans15_any (l : List (Int × Int)) (A : Option Addr) (n c : Nat) (w : World) (hs : SpanR w A n c l) (hn : n ≤ 1000000) :
    Calls Try.prog 14 #[.slice A n c] w (NewS 28 w l) := by
  have HS := lib_hid hs
  have hll := lib_hid hs.len
  have hcap := hs.max
  unfold maxLen at hcap
  have hnc := hs.cap
  clear hs
  go_enter Try.func14, Try.ntmps14
  go_wp2
  go_loopw [3, 4] (fun v i wr => ∃ (k : Nat) (C : Option Addr) (e : Nat), k ≤ n ∧ i = .int .i64 k ∧ v = .slice C k e ∧ Grows w wr ∧ Hid (wr.ownsRow w.heap.size 28 2 (.slice C k e) k (flat (l.take k)))) (fun _ i _ => n - (intOf i).toNat)
  case atStart => exact ⟨0, none, 0, Nat.zero_le _, rfl, rfl, Grows.refl w, lib_hid (by rw [List.take_zero]; exact World.ownsRow_nil _ _ _ _)⟩
  case round =>
    obtain ⟨k, C, e, hk, rfl, rfl, hgr, HO⟩ := hrel
    by_cases hlt : k < n
    · have hki : (k : Int) < n := by omega
      obtain ⟨b, off, x, y, rfl, hb, hxy, hc1, hc2⟩ := HS.out.at hlt
      have Htk : Hid (l.take (k + 1) = l.take k ++ [(x, y)]) := by unfold Hid; rw [List.take_add_one, hxy]; rfl
      have HC : Hid (∀ W, Grows wr W → W.cell? ⟨b, off + k * 2, none⟩ = some (.int .i64 x) ∧ W.cell? ⟨b, off + k * 2 + 1, none⟩ = some (.int .i64 y)) := fun W hW =>
        ⟨((hgr.trans hW).cell (p := ⟨b, off + k * 2, none⟩) hb).trans hc1, ((hgr.trans hW).cell (p := ⟨b, off + k * 2 + 1, none⟩) hb).trans hc2⟩
      have HSz := lib_hid hgr.le
      clear hc1 hc2 hxy hb
      go_wp2
      apply wp_region_mono 13 ((.is _, []) :: (.is _, []) :: (.is _, []) :: (.is _, []) :: (.is _, []) :: (.is _, []) :: (.is _, []) :: (.is _, []) :: (.is _, []) :: (.is _, []) :: (.is _, []) :: (.is _, []) :: (.pr (fun v W => ∃ g, v = .slice (some ⟨g, 0, none⟩) 1 1 ∧ Blk W g 28 #[iV x, iV y]), []) :: []) (by kernel_rfl) (by kernel_rfl)
      iterate 5
        apply Mono.is0
        · kernel_rfl
        · intro W hW
          go_wp2
          refine ⟨rfl, rfl, Grows.refl _, ?_⟩
          unfold Oper.valAt
          go_simp
          rfl
        intro k1 a1 hk1 ha1
        simp only [Nat.reduceAdd] at hk1
        simp only [Act.put, List.setIfInBounds_toArray, List.set_cons_succ, List.set_cons_zero] at ha1
        subst hk1 ha1
      apply Mono.is0
      · kernel_rfl
      · intro W hW
        obtain ⟨q1, q2⟩ := HC.out W hW
        go_wp2
        refine ⟨rfl, rfl, Grows.refl _, ?_⟩
        unfold Oper.valAt
        go_simp
        rfl
      intro k1 a1 hk1 ha1
      simp only [Nat.reduceAdd] at hk1
      simp only [Act.put, List.setIfInBounds_toArray, List.set_cons_succ, List.set_cons_zero] at ha1
      subst hk1 ha1
      iterate 4
        apply Mono.is0
        · kernel_rfl
        · intro W hW
          go_wp2
          refine ⟨rfl, rfl, Grows.refl _, ?_⟩
          unfold Oper.valAt
          go_simp
          rfl
        intro k1 a1 hk1 ha1
        simp only [Nat.reduceAdd] at hk1
        simp only [Act.put, List.setIfInBounds_toArray, List.set_cons_succ, List.set_cons_zero] at ha1
        subst hk1 ha1
      apply Mono.is0
      · kernel_rfl
      · intro W hW
        obtain ⟨q1, q2⟩ := HC.out W hW
        go_wp2
        refine ⟨rfl, rfl, Grows.refl _, ?_⟩
        unfold Oper.valAt
        go_simp
        rfl
      intro k1 a1 hk1 ha1
      simp only [Nat.reduceAdd] at hk1
      simp only [Act.put, List.setIfInBounds_toArray, List.set_cons_succ, List.set_cons_zero] at ha1
      subst hk1 ha1
      apply Mono.is0
      · kernel_rfl
      · intro W hW
        go_wp2
        refine ⟨rfl, rfl, Grows.refl _, ?_⟩
        unfold Oper.valAt
        go_simp
        rfl
      intro k1 a1 hk1 ha1
      simp only [Nat.reduceAdd] at hk1
      simp only [Act.put, List.setIfInBounds_toArray, List.set_cons_succ, List.set_cons_zero] at ha1
      subst hk1 ha1
      apply Mono.pr0
      · kernel_rfl
      · exact fun v W W' hW ⟨g, h1, h2⟩ => ⟨g, h1, h2.grows hW⟩
      · intro W hW 
        go_wp2
        exact ⟨rfl, rfl, (Grows.refl _).alloc _, _, rfl, Blk.new _ _ _⟩
      intro v12
      intro k1 a1 hk1 ha1
      simp only [Nat.reduceAdd] at hk1
      simp only [Act.put, List.setIfInBounds_toArray, List.set_cons_succ, List.set_cons_zero] at ha1
      subst hk1 ha1
      refine Mono.done ?_
      intro wm hgm
      simp only [allF, List.drop_succ_cons, List.drop_zero]
      intro g12
      obtain ⟨g, rfl, hg⟩ := g12
      have HG := lib_hid hg
      have HO1 := lib_hid (own_grows HO.out hgm)
      have hz : w.heap.size ≤ wm.heap.size := Nat.le_trans HSz.out hgm.le
      clear hg HO
      go_wp2_with (at_builtin; refine wpList_append_pair (by kernel_rfl) _ _ 24 rfl w.heap.size 28 (.agg #[.int .i64 0, .int .i64 0]) 16 Try.underlying24 Try.info28 rfl _ k e (l.take k) rfl HO1.out g 28 x y rfl HG.out (by omega) (by omega) hz ?_; intro A4 c4 w4 ho4 hb4 hg4)
      have hgr4 : Grows w w4 := Below.trans (hgr.trans hgm) hb4
      have HO4 : Hid (w4.ownsRow w.heap.size 28 2 (.slice A4 (k + 1) c4) (k + 1) (flat (l.take (k + 1)))) := by
        unfold Hid; rw [Htk.out]; exact ho4
      clear ho4 hb4 hg4 HO1
      go_roundw
      case rel => exact ⟨k + 1, A4, c4, by omega, by go_num, rfl, hgr4, HO4⟩
      case measure => simp [intOf]; omega
    · have hki : ¬ (k : Int) < n := by omega
      have hkn : k = n := by omega
      have h := HO.out
      rw [show l.take k = l by rw [List.take_of_length_le]; rw [hll.out, hkn]; exact Nat.le_refl _] at h
      have HO2 := lib_hid h
      have Hkn := lib_hid hkn
      clear HO h hkn
      go_wp2
      go_ret
      exact newS_mk rfl (by rw [hll.out]; exact Hkn.out) hgr HO2.out

set_option maxRecDepth 100000 in
set_option maxHeartbeats 4000000 in
theorem spans16_any (l : List (Int × Int)) (A : Option Addr) (n c : Nat) (w : World) (hs : SpanR w A n c l) (hn : n ≤ 1000000) :
    Calls Try.prog 30 #[.slice A n c] w (NewS 28 w l) := by
  have HS := lib_hid hs
  have hll := lib_hid hs.len
  have hcap := hs.max
  unfold maxLen at hcap
  have hnc := hs.cap
  clear hs
  go_enter Try.func30, Try.ntmps30
  go_wp2
  go_loopw [3, 4] (fun v i wr => ∃ (k : Nat) (C : Option Addr) (e : Nat), k ≤ n ∧ i = .int .i64 k ∧ v = .slice C k e ∧ Grows w wr ∧ Hid (wr.ownsRow w.heap.size 28 2 (.slice C k e) k (flat (l.take k)))) (fun _ i _ => n - (intOf i).toNat)
  case atStart => exact ⟨0, none, 0, Nat.zero_le _, rfl, rfl, Grows.refl w, lib_hid (by rw [List.take_zero]; exact World.ownsRow_nil _ _ _ _)⟩
  case round =>
    obtain ⟨k, C, e, hk, rfl, rfl, hgr, HO⟩ := hrel
    by_cases hlt : k < n
    · have hki : (k : Int) < n := by omega
      obtain ⟨b, off, x, y, rfl, hb, hxy, hc1, hc2⟩ := HS.out.at hlt
      have Htk : Hid (l.take (k + 1) = l.take k ++ [(x, y)]) := by unfold Hid; rw [List.take_add_one, hxy]; rfl
      have HC : Hid (∀ W, Grows wr W → W.cell? ⟨b, off + k * 2, none⟩ = some (.int .i64 x) ∧ W.cell? ⟨b, off + k * 2 + 1, none⟩ = some (.int .i64 y)) := fun W hW =>
        ⟨((hgr.trans hW).cell (p := ⟨b, off + k * 2, none⟩) hb).trans hc1, ((hgr.trans hW).cell (p := ⟨b, off + k * 2 + 1, none⟩) hb).trans hc2⟩
      have HSz := lib_hid hgr.le
      clear hc1 hc2 hxy hb
      go_wp2
      apply wp_region_mono 13 ((.is _, []) :: (.is _, []) :: (.is _, []) :: (.is _, []) :: (.is _, []) :: (.is _, []) :: (.is _, []) :: (.is _, []) :: (.is _, []) :: (.is _, []) :: (.is _, []) :: (.is _, []) :: (.pr (fun v W => ∃ g, v = .slice (some ⟨g, 0, none⟩) 1 1 ∧ Blk W g 28 #[iV x, iV y]), []) :: []) (by kernel_rfl) (by kernel_rfl)
      iterate 5
        apply Mono.is0
        · kernel_rfl
        · intro W hW
          go_wp2
          refine ⟨rfl, rfl, Grows.refl _, ?_⟩
          unfold Oper.valAt
          go_simp
          rfl
        intro k1 a1 hk1 ha1
        simp only [Nat.reduceAdd] at hk1
        simp only [Act.put, List.setIfInBounds_toArray, List.set_cons_succ, List.set_cons_zero] at ha1
        subst hk1 ha1
      apply Mono.is0
      · kernel_rfl
      · intro W hW
        obtain ⟨q1, q2⟩ := HC.out W hW
        go_wp2
        refine ⟨rfl, rfl, Grows.refl _, ?_⟩
        unfold Oper.valAt
        go_simp
        rfl
      intro k1 a1 hk1 ha1
      simp only [Nat.reduceAdd] at hk1
      simp only [Act.put, List.setIfInBounds_toArray, List.set_cons_succ, List.set_cons_zero] at ha1
      subst hk1 ha1
      iterate 4
        apply Mono.is0
        · kernel_rfl
        · intro W hW
          go_wp2
          refine ⟨rfl, rfl, Grows.refl _, ?_⟩
          unfold Oper.valAt
          go_simp
          rfl
        intro k1 a1 hk1 ha1
        simp only [Nat.reduceAdd] at hk1
        simp only [Act.put, List.setIfInBounds_toArray, List.set_cons_succ, List.set_cons_zero] at ha1
        subst hk1 ha1
      apply Mono.is0
      · kernel_rfl
      · intro W hW
        obtain ⟨q1, q2⟩ := HC.out W hW
        go_wp2
        refine ⟨rfl, rfl, Grows.refl _, ?_⟩
        unfold Oper.valAt
        go_simp
        rfl
      intro k1 a1 hk1 ha1
      simp only [Nat.reduceAdd] at hk1
      simp only [Act.put, List.setIfInBounds_toArray, List.set_cons_succ, List.set_cons_zero] at ha1
      subst hk1 ha1
      apply Mono.is0
      · kernel_rfl
      · intro W hW
        go_wp2
        refine ⟨rfl, rfl, Grows.refl _, ?_⟩
        unfold Oper.valAt
        go_simp
        rfl
      intro k1 a1 hk1 ha1
      simp only [Nat.reduceAdd] at hk1
      simp only [Act.put, List.setIfInBounds_toArray, List.set_cons_succ, List.set_cons_zero] at ha1
      subst hk1 ha1
      apply Mono.pr0
      · kernel_rfl
      · exact fun v W W' hW ⟨g, h1, h2⟩ => ⟨g, h1, h2.grows hW⟩
      · intro W hW 
        go_wp2
        exact ⟨rfl, rfl, (Grows.refl _).alloc _, _, rfl, Blk.new _ _ _⟩
      intro v12
      intro k1 a1 hk1 ha1
      simp only [Nat.reduceAdd] at hk1
      simp only [Act.put, List.setIfInBounds_toArray, List.set_cons_succ, List.set_cons_zero] at ha1
      subst hk1 ha1
      refine Mono.done ?_
      intro wm hgm
      simp only [allF, List.drop_succ_cons, List.drop_zero]
      intro g12
      obtain ⟨g, rfl, hg⟩ := g12
      have HG := lib_hid hg
      have HO1 := lib_hid (own_grows HO.out hgm)
      have hz : w.heap.size ≤ wm.heap.size := Nat.le_trans HSz.out hgm.le
      clear hg HO
      go_wp2_with (at_builtin; refine wpList_append_pair (by kernel_rfl) _ _ 24 rfl w.heap.size 28 (.agg #[.int .i64 0, .int .i64 0]) 16 Try.underlying24 Try.info28 rfl _ k e (l.take k) rfl HO1.out g 28 x y rfl HG.out (by omega) (by omega) hz ?_; intro A4 c4 w4 ho4 hb4 hg4)
      have hgr4 : Grows w w4 := Below.trans (hgr.trans hgm) hb4
      have HO4 : Hid (w4.ownsRow w.heap.size 28 2 (.slice A4 (k + 1) c4) (k + 1) (flat (l.take (k + 1)))) := by
        unfold Hid; rw [Htk.out]; exact ho4
      clear ho4 hb4 hg4 HO1
      go_roundw
      case rel => exact ⟨k + 1, A4, c4, by omega, by go_num, rfl, hgr4, HO4⟩
      case measure => simp [intOf]; omega
    · have hki : ¬ (k : Int) < n := by omega
      have hkn : k = n := by omega
      have h := HO.out
      rw [show l.take k = l by rw [List.take_of_length_le]; rw [hll.out, hkn]; exact Nat.le_refl _] at h
      have HO2 := lib_hid h
      have Hkn := lib_hid hkn
      clear HO h hkn
      go_wp2
      go_ret
      exact newS_mk rfl (by rw [hll.out]; exact Hkn.out) hgr HO2.out

end Go.Proofs.Ytbmmjkpibnnmeaa
