/-
  The walks of Check, own, New.
-/
import Derived.Test.YtbmmjkpibnnmeaaDesc4
import Derived.Test.YtbmmjkpibnnmeaaBits2
import Derived.Lib.MinMax
import Derived.Deep.Cut
namespace Go.Proofs.Ytbmmjkpibnnmeaa
open Go Go.RowKit
set_option linter.unusedSimpArgs false


/-- Does a span fit a window? -/
def fitB (wd : Nat) (p : Int × Int) : Bool := decide (0 ≤ p.1) && decide (0 ≤ p.2) && decide (p.1 ≤ wd) && decide (p.2 ≤ wd - p.1)
def chkE (l : List (Int × Int)) (wd : Nat) : Int := if 8 < l.length then 10 else if l.all (fitB wd) then 0 else 8
theorem fit_iff {wd : Nat} {p : Int × Int} : fitB wd p = true ↔ 0 ≤ p.1 ∧ 0 ≤ p.2 ∧ p.1 ≤ wd ∧ p.2 ≤ wd - p.1 := by
  unfold fitB; simp only [Bool.and_eq_true, decide_eq_true_eq, and_assoc]
theorem chkE_no {l : List (Int × Int)} {wd k : Nat} {p : Int × Int} (h8 : l.length ≤ 8) (h : l[k]? = some p) (hp : ¬ (0 ≤ p.1 ∧ 0 ≤ p.2 ∧ p.1 ≤ wd ∧ p.2 ≤ wd - p.1)) : chkE l wd = 8 := by
  unfold chkE
  rw [if_neg (by omega), if_neg]
  intro ha
  exact hp (fit_iff.1 (List.all_eq_true.1 ha _ (List.mem_of_getElem? h)))
def SomeN (w : World) (E : Int) (e : Ending) (w' : World) : Prop := ∃ n : Int, e = .returned (.tuple #[.int .i64 n, .int .i64 E]) ∧ Grows w w'
set_option maxRecDepth 100000 in
set_option maxHeartbeats 4000000 in
theorem check_any (l : List (Int × Int)) (A : Option Addr) (n c : Nat) (wd : Nat) (w : World) (hs : SpanR w A n c l) (hw : wd ≤ 4096) (hwf : ∀ p ∈ l, (-9223372036854775808 ≤ p.1 ∧ p.1 ≤ 9223372036854775807) ∧ (-9223372036854775808 ≤ p.2 ∧ p.2 ≤ 9223372036854775807)) :
    Calls Try.prog 55 #[.slice A n c, .int .i64 (wd : Int)] w (SomeN w (chkE l wd)) := by
  have HS := lib_hid hs
  have Hwf := lib_hid hwf
  have hll := lib_hid hs.len
  have hcap := hs.max
  unfold maxLen at hcap
  have hnc := hs.cap
  have hwi : (wd : Int) ≤ 4096 := by omega
  clear hs hwf
  by_cases h8 : 8 < n
  · have h8i : (8 : Int) < n := by omega
    have HE : Hid (chkE l wd = 10) := by unfold Hid chkE; rw [if_pos (by rw [hll.out]; exact h8)]
    clear h8
    go_enter Try.func55, Try.ntmps55
    go_wp2
    go_ret2
    exact ⟨_, by rw [HE.out]; rfl, Grows.refl w⟩
  have h8i : ¬ (8 : Int) < n := by omega
  have H8 : Hid (n ≤ 8) := by unfold Hid; omega
  clear h8
  go_enter Try.func55, Try.ntmps55
  go_wp2
  clear h8i
  go_loopw [6, 14] (fun nv i wr => ∃ (k : Nat) (s : Int), k ≤ n ∧ i = .int .i64 k ∧ nv = .int .i64 s ∧ 0 ≤ s ∧ s ≤ 4096 * k ∧ Hid (∀ p ∈ l.take k, fitB wd p = true) ∧ Grows w wr) (fun _ i _ => n - (intOf i).toNat)
  case atStart => exact ⟨0, 0, Nat.zero_le _, rfl, rfl, by omega, by omega, lib_hid (by intro p hp; simp at hp), Grows.refl w⟩
  case round =>
    obtain ⟨k, s, hk, rfl, rfl, hs0, hs1, HK, hgr⟩ := hrel
    by_cases hlt : k < n
    · have hki : (k : Int) < n := by omega
      have hk8 : (k : Int) < 8 := by have := H8.out; omega
      obtain ⟨b, off, x, y, rfl, hb, hxy, hc1, hc2⟩ := HS.out.at hlt
      have e1 := (hgr.cell (p := ⟨b, off + k * 2, none⟩) hb).trans hc1
      have e2 := (hgr.cell (p := ⟨b, off + k * 2 + 1, none⟩) hb).trans hc2
      have hb' : b < wr.heap.size := hgr.lt hb
      have hbd := Hwf.out _ (List.mem_of_getElem? hxy)
      simp only at hbd
      obtain ⟨⟨hx0, hx1⟩, hy0, hy1⟩ := hbd
      have hl8 : l.length ≤ 8 := by rw [hll.out]; exact H8.out
      have Hl8 := lib_hid hl8
      have Hg := lib_hid (hgr.alloc (.cells #[iV x, iV y] 28))
      have Hxy := lib_hid hxy
      clear hc1 hc2 hb hxy hgr hl8
      by_cases h1 : x < 0
      · have HE := lib_hid (chkE_no (wd := wd) Hl8.out Hxy.out (by simp only; omega))
        go_wp2
        go_ret2
        exact ⟨_, by rw [HE.out]; rfl, Hg.out⟩
      by_cases h2 : y < 0
      · have HE := lib_hid (chkE_no (wd := wd) Hl8.out Hxy.out (by simp only; omega))
        go_wp2
        go_ret2
        exact ⟨_, by rw [HE.out]; rfl, Hg.out⟩
      by_cases h3 : (wd : Int) < x
      · have HE := lib_hid (chkE_no (wd := wd) Hl8.out Hxy.out (by simp only; omega))
        go_wp2
        go_ret2
        exact ⟨_, by rw [HE.out]; rfl, Hg.out⟩
      have h3' : x ≤ 4096 := by omega
      have h1' : 0 ≤ x := by omega
      by_cases h4 : (wd : Int) - x < y
      · have HE := lib_hid (chkE_no (wd := wd) Hl8.out Hxy.out (by simp only; omega))
        go_wp2
        go_ret2
        exact ⟨_, by rw [HE.out]; rfl, Hg.out⟩
      have HK2 : Hid (∀ p ∈ l.take (k + 1), fitB wd p = true) := take_ext Hxy.out HK.out (fit_iff.2 ⟨by simp only; omega, by simp only; omega, by simp only; omega, by simp only; omega⟩)
      have hy' : y ≤ 4096 := by omega
      have hy'' : 0 ≤ y := by omega
      clear HK
      go_wp2
      go_roundw
      case rel => exact ⟨k + 1, s + y, by omega, by go_num, rfl, by omega, by omega, HK2, Hg.out⟩
      case measure => simp [intOf]; omega
    · have hki : ¬ (k : Int) < n := by omega
      have h := HK.out
      rw [show l.take k = l by rw [List.take_of_length_le]; rw [hll.out]; omega] at h
      have HE : Hid (chkE l wd = 0) := by
        unfold Hid chkE
        rw [if_neg (by rw [hll.out]; have := H8.out; omega), if_pos (List.all_eq_true.2 h)]
      clear h HK
      go_wp2
      go_ret2
      exact ⟨_, by rw [HE.out]; rfl, hgr⟩

/-- An arena in memory: its struct in block g, its bytes in block m: mem, nC windows of wd bytes. -/
structure ArS (w : World) (g m nC wd : Nat) (mem : List UInt8) : Prop where
  st : Blk w g 77 #[.slice (some ⟨m, 0, none⟩) (nC * wd) (nC * wd), .int .i64 (wd : Int)]
  by_ : Blk w m 5 (mem.map b8).toArray
  len : mem.length = nC * wd
  ne : g ≠ m
theorem ArS.grows {w w' : World} {g m nC wd : Nat} {mem : List UInt8} (h : ArS w g m nC wd mem) (hg : Grows w w') : ArS w' g m nC wd mem :=
  ⟨h.st.grows hg, h.by_.grows hg, h.len, h.ne⟩
set_option maxRecDepth 100000 in
set_option maxHeartbeats 4000000 in
theorem new_any (nC wd : Nat) (w : World) (h1 : 0 < nC) (h2 : nC ≤ 8) (h3 : 0 < wd) (h4 : wd ≤ 4096) :
    Calls Try.prog 23 #[.int .i64 (nC : Int), .int .i64 (wd : Int)] w fun e w' => ∃ g m, e = .returned (.tuple #[.pointer (some ⟨g, 0, none⟩), .int .i64 0]) ∧ w.heap.size ≤ g ∧ w.heap.size ≤ m ∧ Grows w w' ∧ ArS w' g m nC wd (List.replicate (nC * wd) 0) := by
  obtain ⟨L, HL⟩ : ∃ L, Hid (nC * wd = L) := ⟨_, lib_hid rfl⟩
  have hLb : nC * wd ≤ 8 * 4096 := Nat.mul_le_mul h2 h4
  rw [HL.out] at hLb
  have hm : (nC : Int) * (wd : Int) = (L : Int) := by rw [← HL.out]; simp
  have a1 : ¬ (nC : Int) < 1 := by omega
  have a2 : ¬ (8 : Int) < nC := by omega
  have a3 : ¬ (wd : Int) < 1 := by omega
  have a4 : ¬ (4096 : Int) < wd := by omega
  have HLb := lib_hid hLb
  have hLi : (L : Int) ≤ 32768 := by omega
  clear h1 h2 h3 h4
  go_enter Try.func23, Try.ntmps23
  go_upto_region 3 with fail
  clear a1 a2 a3 a4
  go_wp2_with (at_make; refine wpList_make_blk rfl _ _ 44 rfl 5 (.int .u8 0) 1 Try.underlying44 Try.infoByte rfl .i64 .i64 L rfl rfl (by omega) (by omega) ?_; intro w1 hb1 hg1 hz1)
  go_ret2
  refine ⟨w1.heap.size, w.heap.size, rfl, hg1.le, Nat.le_refl _, hg1.alloc _, ⟨?_, ?_, by simp, by omega⟩⟩
  · rw [HL.out]; exact Blk.new _ _ _
  · have := hb1.alloc (.cells #[.slice (some ⟨w.heap.size, 0, none⟩) L L, .int .i64 (wd : Int)] 77)
    rw [HL.out, List.map_replicate, List.toArray_replicate]
    exact this
/-- Where a part of a window begins. -/
def partA (m lo wd x : Nat) : Option Addr := if wd = x then some ⟨m, lo, none⟩ else some ⟨m, lo + x, none⟩
/-- What own hands back. -/
def ownV (m nC wd : Nat) (c : Int) : Value := if 0 ≤ c ∧ c < nC then .slice (some ⟨m, c.toNat * wd, none⟩) wd wd else .slice none 0 0
set_option maxRecDepth 100000 in
set_option maxHeartbeats 4000000 in
theorem own_any (w : World) (g m nC wd : Nat) (mem : List UInt8) (c : Int) (h : ArS w g m nC wd mem) (hw0 : 0 < wd) (hw : wd ≤ 4096) (hn : nC ≤ 8) (hc : -9223372036854775808 ≤ c ∧ c ≤ 9223372036854775807) :
    Calls Try.prog 48 #[.pointer (some ⟨g, 0, none⟩), .int .i64 c] w fun e w' => e = .returned (ownV m nC wd c) ∧ Grows w w' := by
  obtain ⟨L, HL⟩ : ∃ L, Hid (nC * wd = L) := ⟨_, lib_hid rfl⟩
  have hst := h.st
  rw [HL.out] at hst
  have HA : Hid (∀ W, Grows w W → W.cell? ⟨g, 0, none⟩ = some (.slice (some ⟨m, 0, none⟩) L L) ∧ W.cell? ⟨g, 1, none⟩ = some (.int .i64 (wd : Int))) := fun W hW => by
    rw [(hst.grows hW).cell, (hst.grows hW).cell]; exact ⟨rfl, rfl⟩
  have hLb : nC * wd ≤ 8 * 4096 := Nat.mul_le_mul hn hw
  have hLi : (L : Int) ≤ 32768 := by rw [← HL.out]; omega
  obtain ⟨hc1, hc2⟩ := hc
  have hwi : (wd : Int) ≤ 4096 := by omega
  have hwi0 : 0 < (wd : Int) := by omega
  have Hq : Hid ((L : Int) / (wd : Int) = (nC : Int) ∧ (L : Int).tdiv (wd : Int) = (nC : Int)) := by
    unfold Hid
    have e : (L : Int) = (nC : Int) * (wd : Int) := by rw [← HL.out]; simp
    constructor
    · rw [e, Int.mul_ediv_cancel _ (by omega)]
    · rw [e, Int.mul_tdiv_cancel _ (by omega)]
  clear hst h
  by_cases h1 : c < 0
  · have HV : Hid (ownV m nC wd c = .slice none 0 0) := by unfold Hid ownV; rw [if_neg (by omega)]
    go_enter Try.func48, Try.ntmps48
    go_upto_region 1 with fail
    apply wp_region_mono 20 ((.is _, []) :: (.is _, []) :: (.is _, []) :: (.is _, []) :: (.is _, []) :: (.is _, []) :: (.is _, []) :: (.is undef, []) :: (.is undef, []) :: (.is undef, []) :: (.is undef, []) :: (.is undef, []) :: (.is undef, []) :: (.is undef, []) :: (.is undef, []) :: (.is undef, []) :: (.is undef, []) :: (.is undef, []) :: (.is undef, []) :: (.is _, []) :: []) (by kernel_rfl) (by kernel_rfl)
    iterate 7
      apply Mono.is0
      · kernel_rfl
      · intro W hW
        go_wp2
        refine ⟨rfl, rfl, Grows.refl _, ?_⟩
        unfold Oper.valAt
        go_simp
        rfl
      intro k1 a1 hk1 ha1
      simp only [Nat.reduceAdd] at hk1
      simp only [Act.put, List.setIfInBounds_toArray, List.set_cons_succ, List.set_cons_zero] at ha1
      subst hk1 ha1
    apply Mono.no
    · kernel_rfl
    intro k1 a1 hk1 ha1
    simp only [Nat.reduceAdd] at hk1
    simp only [Act.put, List.setIfInBounds_toArray, List.set_cons_succ, List.set_cons_zero] at ha1
    subst hk1 ha1
    apply Mono.no
    · kernel_rfl
    intro k1 a1 hk1 ha1
    simp only [Nat.reduceAdd] at hk1
    simp only [Act.put, List.setIfInBounds_toArray, List.set_cons_succ, List.set_cons_zero] at ha1
    subst hk1 ha1
    apply Mono.no
    · kernel_rfl
    intro k1 a1 hk1 ha1
    simp only [Nat.reduceAdd] at hk1
    simp only [Act.put, List.setIfInBounds_toArray, List.set_cons_succ, List.set_cons_zero] at ha1
    subst hk1 ha1
    apply Mono.no
    · kernel_rfl
    intro k1 a1 hk1 ha1
    simp only [Nat.reduceAdd] at hk1
    simp only [Act.put, List.setIfInBounds_toArray, List.set_cons_succ, List.set_cons_zero] at ha1
    subst hk1 ha1
    apply Mono.no
    · kernel_rfl
    intro k1 a1 hk1 ha1
    simp only [Nat.reduceAdd] at hk1
    simp only [Act.put, List.setIfInBounds_toArray, List.set_cons_succ, List.set_cons_zero] at ha1
    subst hk1 ha1
    apply Mono.no
    · kernel_rfl
    intro k1 a1 hk1 ha1
    simp only [Nat.reduceAdd] at hk1
    simp only [Act.put, List.setIfInBounds_toArray, List.set_cons_succ, List.set_cons_zero] at ha1
    subst hk1 ha1
    apply Mono.no
    · kernel_rfl
    intro k1 a1 hk1 ha1
    simp only [Nat.reduceAdd] at hk1
    simp only [Act.put, List.setIfInBounds_toArray, List.set_cons_succ, List.set_cons_zero] at ha1
    subst hk1 ha1
    apply Mono.no
    · kernel_rfl
    intro k1 a1 hk1 ha1
    simp only [Nat.reduceAdd] at hk1
    simp only [Act.put, List.setIfInBounds_toArray, List.set_cons_succ, List.set_cons_zero] at ha1
    subst hk1 ha1
    apply Mono.no
    · kernel_rfl
    intro k1 a1 hk1 ha1
    simp only [Nat.reduceAdd] at hk1
    simp only [Act.put, List.setIfInBounds_toArray, List.set_cons_succ, List.set_cons_zero] at ha1
    subst hk1 ha1
    apply Mono.no
    · kernel_rfl
    intro k1 a1 hk1 ha1
    simp only [Nat.reduceAdd] at hk1
    simp only [Act.put, List.setIfInBounds_toArray, List.set_cons_succ, List.set_cons_zero] at ha1
    subst hk1 ha1
    apply Mono.no
    · kernel_rfl
    intro k1 a1 hk1 ha1
    simp only [Nat.reduceAdd] at hk1
    simp only [Act.put, List.setIfInBounds_toArray, List.set_cons_succ, List.set_cons_zero] at ha1
    subst hk1 ha1
    apply Mono.no
    · kernel_rfl
    intro k1 a1 hk1 ha1
    simp only [Nat.reduceAdd] at hk1
    simp only [Act.put, List.setIfInBounds_toArray, List.set_cons_succ, List.set_cons_zero] at ha1
    subst hk1 ha1
    apply Mono.is0
    · kernel_rfl
    · intro W hW
      go_wp2
      refine ⟨rfl, rfl, Grows.refl _, ?_⟩
      unfold Oper.valAt
      go_simp
      rfl
    intro k1 a1 hk1 ha1
    simp only [Nat.reduceAdd] at hk1
    simp only [Act.put, List.setIfInBounds_toArray, List.set_cons_succ, List.set_cons_zero] at ha1
    subst hk1 ha1
    refine Mono.done ?_
    intro wm hgm
    simp only [allF, List.drop_succ_cons, List.drop_nil]
    go_wp2
    go_ret
    exact ⟨by rw [HV.out]; rfl, hgm⟩
  obtain ⟨k, rfl⟩ := Int.eq_ofNat_of_zero_le (Int.not_lt.1 h1)
  have Hd0 : Hid (decide ((k : Int) < 0) = false) := by unfold Hid; exact decide_eq_false (by omega)
  clear h1
  by_cases h2 : ¬ k < nC
  · have HV : Hid (ownV m nC wd (k : Int) = .slice none 0 0) := by unfold Hid ownV; rw [if_neg (by omega)]
    have Hd : Hid (decide (nC ≤ k) = true) := by unfold Hid; exact decide_eq_true (by omega)
    clear h2
    go_enter Try.func48, Try.ntmps48
    go_upto_region 1 with fail
    apply wp_region_mono 20 ((.is _, []) :: (.is _, []) :: (.is _, []) :: (.is _, []) :: (.is _, []) :: (.is _, []) :: (.is _, []) :: (.is _, []) :: (.is _, []) :: (.is _, []) :: (.is _, []) :: (.is _, []) :: (.is _, []) :: (.is _, []) :: (.is _, []) :: (.is _, []) :: (.is _, []) :: (.is _, []) :: (.is _, []) :: (.is _, []) :: []) (by kernel_rfl) (by kernel_rfl)
    iterate 4
      apply Mono.is0
      · kernel_rfl
      · intro W hW
        go_wp2
        refine ⟨rfl, rfl, Grows.refl _, ?_⟩
        unfold Oper.valAt
        go_simp
        rfl
      intro k1 a1 hk1 ha1
      simp only [Nat.reduceAdd] at hk1
      simp only [Act.put, List.setIfInBounds_toArray, List.set_cons_succ, List.set_cons_zero] at ha1
      subst hk1 ha1
    apply Mono.is0
    · kernel_rfl
    · intro W hW
      have hd0 := Hd0.out
      go_wp2
      refine ⟨rfl, rfl, Grows.refl _, ?_⟩
      unfold Oper.valAt
      go_simp
      rfl
    intro k1 a1 hk1 ha1
    simp only [Nat.reduceAdd] at hk1
    simp only [Act.put, List.setIfInBounds_toArray, List.set_cons_succ, List.set_cons_zero] at ha1
    subst hk1 ha1
    iterate 6
      apply Mono.is0
      · kernel_rfl
      · intro W hW
        go_wp2
        refine ⟨rfl, rfl, Grows.refl _, ?_⟩
        unfold Oper.valAt
        go_simp
        rfl
      intro k1 a1 hk1 ha1
      simp only [Nat.reduceAdd] at hk1
      simp only [Act.put, List.setIfInBounds_toArray, List.set_cons_succ, List.set_cons_zero] at ha1
      subst hk1 ha1
    apply Mono.is0
    · kernel_rfl
    · intro W hW
      obtain ⟨q1, q2⟩ := HA.out W hW
      go_wp2
      refine ⟨rfl, rfl, Grows.refl _, ?_⟩
      unfold Oper.valAt
      go_simp
      rfl
    intro k1 a1 hk1 ha1
    simp only [Nat.reduceAdd] at hk1
    simp only [Act.put, List.setIfInBounds_toArray, List.set_cons_succ, List.set_cons_zero] at ha1
    subst hk1 ha1
    iterate 4
      apply Mono.is0
      · kernel_rfl
      · intro W hW
        go_wp2
        refine ⟨rfl, rfl, Grows.refl _, ?_⟩
        unfold Oper.valAt
        go_simp
        rfl
      intro k1 a1 hk1 ha1
      simp only [Nat.reduceAdd] at hk1
      simp only [Act.put, List.setIfInBounds_toArray, List.set_cons_succ, List.set_cons_zero] at ha1
      subst hk1 ha1
    apply Mono.is0
    · kernel_rfl
    · intro W hW
      obtain ⟨q1, q2⟩ := HA.out W hW
      go_wp2
      refine ⟨rfl, rfl, Grows.refl _, ?_⟩
      unfold Oper.valAt
      go_simp
      rfl
    intro k1 a1 hk1 ha1
    simp only [Nat.reduceAdd] at hk1
    simp only [Act.put, List.setIfInBounds_toArray, List.set_cons_succ, List.set_cons_zero] at ha1
    subst hk1 ha1
    apply Mono.is0
    · kernel_rfl
    · intro W hW
      have hq1 := Hq.out.1
      have hq2 := Hq.out.2
      go_wp2
      refine ⟨rfl, rfl, Grows.refl _, ?_⟩
      unfold Oper.valAt
      go_simp
      rfl
    intro k1 a1 hk1 ha1
    simp only [Nat.reduceAdd] at hk1
    simp only [Act.put, List.setIfInBounds_toArray, List.set_cons_succ, List.set_cons_zero] at ha1
    subst hk1 ha1
    apply Mono.is0
    · kernel_rfl
    · intro W hW
      have hd := Hd.out
      go_wp2
      refine ⟨rfl, rfl, Grows.refl _, ?_⟩
      unfold Oper.valAt
      go_simp
      rfl
    intro k1 a1 hk1 ha1
    simp only [Nat.reduceAdd] at hk1
    simp only [Act.put, List.setIfInBounds_toArray, List.set_cons_succ, List.set_cons_zero] at ha1
    subst hk1 ha1
    apply Mono.is0
    · kernel_rfl
    · intro W hW
      go_wp2
      refine ⟨rfl, rfl, Grows.refl _, ?_⟩
      unfold Oper.valAt
      go_simp
      rfl
    intro k1 a1 hk1 ha1
    simp only [Nat.reduceAdd] at hk1
    simp only [Act.put, List.setIfInBounds_toArray, List.set_cons_succ, List.set_cons_zero] at ha1
    subst hk1 ha1
    refine Mono.done ?_
    intro wm hgm
    simp only [allF, List.drop_succ_cons, List.drop_nil]
    have hd := Hd.out
    go_wp2
    go_ret
    exact ⟨by rw [HV.out]; rfl, hgm⟩
  · replace h2 := Decidable.not_not.1 h2
    have HV : Hid (ownV m nC wd (k : Int) = .slice (some ⟨m, k * wd, none⟩) wd wd) := by unfold Hid ownV; rw [if_pos (by omega)]; rfl
    have Hd : Hid (decide (nC ≤ k) = false) := by unfold Hid; exact decide_eq_false (by omega)
    obtain ⟨lo, Hlo⟩ : ∃ lo, Hid (k * wd = lo) := ⟨_, lib_hid rfl⟩
    obtain ⟨hi, Hhi⟩ : ∃ hi, Hid ((k + 1) * wd = hi) := ⟨_, lib_hid rfl⟩
    have Hm1 : Hid ((k : Int) * (wd : Int) = (lo : Int)) := by unfold Hid; rw [← Hlo.out]; simp
    have Hm2 : Hid (((k : Int) + 1) * (wd : Int) = (hi : Int)) := by unfold Hid; rw [← Hhi.out]; simp
    have Hb : Hid ((lo : Int) ≤ hi ∧ (hi : Int) ≤ L ∧ hi - lo = wd ∧ (lo : Int) < hi ∧ lo < hi) := by
      have e : hi = lo + wd := by rw [← Hhi.out, ← Hlo.out, Nat.succ_mul]
      have : (k + 1) * wd ≤ nC * wd := Nat.mul_le_mul_right _ h2
      rw [Hhi.out, HL.out] at this
      unfold Hid; omega
    have hkb : (k : Int) < 8 := by omega
    have hlob : (lo : Int) ≤ 32768 := by have := Hb.out; omega
    have hhib : (hi : Int) ≤ 32768 := by have := Hb.out; omega
    clear h2 hLb
    go_enter Try.func48, Try.ntmps48
    go_upto_region 1 with fail
    apply wp_region_mono 20 ((.is _, []) :: (.is _, []) :: (.is _, []) :: (.is _, []) :: (.is _, []) :: (.is _, []) :: (.is _, []) :: (.is _, []) :: (.is _, []) :: (.is _, []) :: (.is _, []) :: (.is _, []) :: (.is _, []) :: (.is _, []) :: (.is _, []) :: (.is _, []) :: (.is _, []) :: (.is _, []) :: (.is _, []) :: (.is _, []) :: []) (by kernel_rfl) (by kernel_rfl)
    iterate 4
      apply Mono.is0
      · kernel_rfl
      · intro W hW
        go_wp2
        refine ⟨rfl, rfl, Grows.refl _, ?_⟩
        unfold Oper.valAt
        go_simp
        rfl
      intro k1 a1 hk1 ha1
      simp only [Nat.reduceAdd] at hk1
      simp only [Act.put, List.setIfInBounds_toArray, List.set_cons_succ, List.set_cons_zero] at ha1
      subst hk1 ha1
    apply Mono.is0
    · kernel_rfl
    · intro W hW
      have hd0 := Hd0.out
      go_wp2
      refine ⟨rfl, rfl, Grows.refl _, ?_⟩
      unfold Oper.valAt
      go_simp
      rfl
    intro k1 a1 hk1 ha1
    simp only [Nat.reduceAdd] at hk1
    simp only [Act.put, List.setIfInBounds_toArray, List.set_cons_succ, List.set_cons_zero] at ha1
    subst hk1 ha1
    iterate 6
      apply Mono.is0
      · kernel_rfl
      · intro W hW
        go_wp2
        refine ⟨rfl, rfl, Grows.refl _, ?_⟩
        unfold Oper.valAt
        go_simp
        rfl
      intro k1 a1 hk1 ha1
      simp only [Nat.reduceAdd] at hk1
      simp only [Act.put, List.setIfInBounds_toArray, List.set_cons_succ, List.set_cons_zero] at ha1
      subst hk1 ha1
    apply Mono.is0
    · kernel_rfl
    · intro W hW
      obtain ⟨q1, q2⟩ := HA.out W hW
      go_wp2
      refine ⟨rfl, rfl, Grows.refl _, ?_⟩
      unfold Oper.valAt
      go_simp
      rfl
    intro k1 a1 hk1 ha1
    simp only [Nat.reduceAdd] at hk1
    simp only [Act.put, List.setIfInBounds_toArray, List.set_cons_succ, List.set_cons_zero] at ha1
    subst hk1 ha1
    iterate 4
      apply Mono.is0
      · kernel_rfl
      · intro W hW
        go_wp2
        refine ⟨rfl, rfl, Grows.refl _, ?_⟩
        unfold Oper.valAt
        go_simp
        rfl
      intro k1 a1 hk1 ha1
      simp only [Nat.reduceAdd] at hk1
      simp only [Act.put, List.setIfInBounds_toArray, List.set_cons_succ, List.set_cons_zero] at ha1
      subst hk1 ha1
    apply Mono.is0
    · kernel_rfl
    · intro W hW
      obtain ⟨q1, q2⟩ := HA.out W hW
      go_wp2
      refine ⟨rfl, rfl, Grows.refl _, ?_⟩
      unfold Oper.valAt
      go_simp
      rfl
    intro k1 a1 hk1 ha1
    simp only [Nat.reduceAdd] at hk1
    simp only [Act.put, List.setIfInBounds_toArray, List.set_cons_succ, List.set_cons_zero] at ha1
    subst hk1 ha1
    apply Mono.is0
    · kernel_rfl
    · intro W hW
      have hq1 := Hq.out.1
      have hq2 := Hq.out.2
      go_wp2
      refine ⟨rfl, rfl, Grows.refl _, ?_⟩
      unfold Oper.valAt
      go_simp
      rfl
    intro k1 a1 hk1 ha1
    simp only [Nat.reduceAdd] at hk1
    simp only [Act.put, List.setIfInBounds_toArray, List.set_cons_succ, List.set_cons_zero] at ha1
    subst hk1 ha1
    apply Mono.is0
    · kernel_rfl
    · intro W hW
      have hd := Hd.out
      go_wp2
      refine ⟨rfl, rfl, Grows.refl _, ?_⟩
      unfold Oper.valAt
      go_simp
      rfl
    intro k1 a1 hk1 ha1
    simp only [Nat.reduceAdd] at hk1
    simp only [Act.put, List.setIfInBounds_toArray, List.set_cons_succ, List.set_cons_zero] at ha1
    subst hk1 ha1
    apply Mono.is0
    · kernel_rfl
    · intro W hW
      go_wp2
      refine ⟨rfl, rfl, Grows.refl _, ?_⟩
      unfold Oper.valAt
      go_simp
      rfl
    intro k1 a1 hk1 ha1
    simp only [Nat.reduceAdd] at hk1
    simp only [Act.put, List.setIfInBounds_toArray, List.set_cons_succ, List.set_cons_zero] at ha1
    subst hk1 ha1
    refine Mono.done ?_
    intro wm hgm
    simp only [allF, List.drop_succ_cons, List.drop_nil]
    have hd := Hd.out
    go_upto_region 3 with fail
    clear hd
    have HA' : Hid (∀ W, Grows wm W → W.cell? ⟨g, 0, none⟩ = some (.slice (some ⟨m, 0, none⟩) L L) ∧ W.cell? ⟨g, 1, none⟩ = some (.int .i64 (wd : Int))) := fun W hW => HA.out W (hgm.trans hW)
    have hg1 := hgm
    clear HA hgm
    have HA := HA'
    clear HA'
    apply wp_region_mono 26 ((.is _, []) :: (.is _, []) :: (.is _, []) :: (.is _, []) :: (.is _, []) :: (.is _, []) :: (.is _, []) :: (.is _, []) :: (.is _, []) :: (.is _, []) :: (.is _, []) :: (.is _, []) :: (.is _, []) :: (.is _, []) :: (.is _, []) :: (.is _, []) :: (.is _, []) :: (.is _, []) :: (.is _, []) :: (.is _, []) :: (.is _, []) :: (.is _, []) :: (.is _, []) :: (.is _, []) :: (.is _, []) :: (.is _, []) :: []) (by kernel_rfl) (by kernel_rfl)
    iterate 3
      apply Mono.is0
      · kernel_rfl
      · intro W hW
        go_wp2
        refine ⟨rfl, rfl, Grows.refl _, ?_⟩
        unfold Oper.valAt
        go_simp
        rfl
      intro k1 a1 hk1 ha1
      simp only [Nat.reduceAdd] at hk1
      simp only [Act.put, List.setIfInBounds_toArray, List.set_cons_succ, List.set_cons_zero] at ha1
      subst hk1 ha1
    apply Mono.is0
    · kernel_rfl
    · intro W hW
      obtain ⟨q1, q2⟩ := HA.out W hW
      go_wp2
      refine ⟨rfl, rfl, Grows.refl _, ?_⟩
      unfold Oper.valAt
      go_simp
      rfl
    intro k1 a1 hk1 ha1
    simp only [Nat.reduceAdd] at hk1
    simp only [Act.put, List.setIfInBounds_toArray, List.set_cons_succ, List.set_cons_zero] at ha1
    subst hk1 ha1
    iterate 4
      apply Mono.is0
      · kernel_rfl
      · intro W hW
        go_wp2
        refine ⟨rfl, rfl, Grows.refl _, ?_⟩
        unfold Oper.valAt
        go_simp
        rfl
      intro k1 a1 hk1 ha1
      simp only [Nat.reduceAdd] at hk1
      simp only [Act.put, List.setIfInBounds_toArray, List.set_cons_succ, List.set_cons_zero] at ha1
      subst hk1 ha1
    apply Mono.is0
    · kernel_rfl
    · intro W hW
      obtain ⟨q1, q2⟩ := HA.out W hW
      go_wp2
      refine ⟨rfl, rfl, Grows.refl _, ?_⟩
      unfold Oper.valAt
      go_simp
      rfl
    intro k1 a1 hk1 ha1
    simp only [Nat.reduceAdd] at hk1
    simp only [Act.put, List.setIfInBounds_toArray, List.set_cons_succ, List.set_cons_zero] at ha1
    subst hk1 ha1
    apply Mono.is0
    · kernel_rfl
    · intro W hW
      have hm := Hm1.out
      go_wp2
      refine ⟨rfl, rfl, Grows.refl _, ?_⟩
      unfold Oper.valAt
      go_simp
      rfl
    intro k1 a1 hk1 ha1
    simp only [Nat.reduceAdd] at hk1
    simp only [Act.put, List.setIfInBounds_toArray, List.set_cons_succ, List.set_cons_zero] at ha1
    subst hk1 ha1
    iterate 5
      apply Mono.is0
      · kernel_rfl
      · intro W hW
        go_wp2
        refine ⟨rfl, rfl, Grows.refl _, ?_⟩
        unfold Oper.valAt
        go_simp
        rfl
      intro k1 a1 hk1 ha1
      simp only [Nat.reduceAdd] at hk1
      simp only [Act.put, List.setIfInBounds_toArray, List.set_cons_succ, List.set_cons_zero] at ha1
      subst hk1 ha1
    apply Mono.is0
    · kernel_rfl
    · intro W hW
      obtain ⟨q1, q2⟩ := HA.out W hW
      go_wp2
      refine ⟨rfl, rfl, Grows.refl _, ?_⟩
      unfold Oper.valAt
      go_simp
      rfl
    intro k1 a1 hk1 ha1
    simp only [Nat.reduceAdd] at hk1
    simp only [Act.put, List.setIfInBounds_toArray, List.set_cons_succ, List.set_cons_zero] at ha1
    subst hk1 ha1
    apply Mono.is0
    · kernel_rfl
    · intro W hW
      have hm := Hm2.out
      go_wp2
      refine ⟨rfl, rfl, Grows.refl _, ?_⟩
      unfold Oper.valAt
      go_simp
      rfl
    intro k1 a1 hk1 ha1
    simp only [Nat.reduceAdd] at hk1
    simp only [Act.put, List.setIfInBounds_toArray, List.set_cons_succ, List.set_cons_zero] at ha1
    subst hk1 ha1
    iterate 5
      apply Mono.is0
      · kernel_rfl
      · intro W hW
        go_wp2
        refine ⟨rfl, rfl, Grows.refl _, ?_⟩
        unfold Oper.valAt
        go_simp
        rfl
      intro k1 a1 hk1 ha1
      simp only [Nat.reduceAdd] at hk1
      simp only [Act.put, List.setIfInBounds_toArray, List.set_cons_succ, List.set_cons_zero] at ha1
      subst hk1 ha1
    apply Mono.is0
    · kernel_rfl
    · intro W hW
      obtain ⟨q1, q2⟩ := HA.out W hW
      go_wp2
      refine ⟨rfl, rfl, Grows.refl _, ?_⟩
      unfold Oper.valAt
      go_simp
      rfl
    intro k1 a1 hk1 ha1
    simp only [Nat.reduceAdd] at hk1
    simp only [Act.put, List.setIfInBounds_toArray, List.set_cons_succ, List.set_cons_zero] at ha1
    subst hk1 ha1
    apply Mono.is0
    · kernel_rfl
    · intro W hW
      have hm := Hm2.out
      go_wp2
      refine ⟨rfl, rfl, Grows.refl _, ?_⟩
      unfold Oper.valAt
      go_simp
      rfl
    intro k1 a1 hk1 ha1
    simp only [Nat.reduceAdd] at hk1
    simp only [Act.put, List.setIfInBounds_toArray, List.set_cons_succ, List.set_cons_zero] at ha1
    subst hk1 ha1
    apply Mono.is0
    · kernel_rfl
    · intro W hW
      have h1 := Hb.out.1
      have h2 := Hb.out.2.1
      have h3 : ¬ hi = lo := by have := Hb.out.2.2.2.2; omega
      have h4 := Hb.out.2.2.1
      go_wp2
      refine ⟨rfl, rfl, Grows.refl _, ?_⟩
      unfold Oper.valAt
      go_simp
      rfl
    intro k1 a1 hk1 ha1
    simp only [Nat.reduceAdd] at hk1
    simp only [Act.put, List.setIfInBounds_toArray, List.set_cons_succ, List.set_cons_zero] at ha1
    subst hk1 ha1
    apply Mono.is0
    · kernel_rfl
    · intro W hW
      go_wp2
      refine ⟨rfl, rfl, Grows.refl _, ?_⟩
      unfold Oper.valAt
      go_simp
      rfl
    intro k1 a1 hk1 ha1
    simp only [Nat.reduceAdd] at hk1
    simp only [Act.put, List.setIfInBounds_toArray, List.set_cons_succ, List.set_cons_zero] at ha1
    subst hk1 ha1
    refine Mono.done ?_
    intro wm hgm
    simp only [allF, List.drop_succ_cons, List.drop_nil]
    go_wp2
    go_ret
    exact ⟨by rw [HV.out, Hlo.out]; rfl, hg1.trans hgm⟩

end Go.Proofs.Ytbmmjkpibnnmeaa
