/-
  The walks of reach, meets, IndexFunc, ContainsFunc.
-/
import Derived.Test.YtbmmjkpibnnmeaaDesc1
import Derived.Test.YtbmmjkpibnnmeaaFloat
import Derived.Test.YtbmmjkpibnnmeaaMonoR
import Derived.Lib.MinMax
namespace Go.Proofs.Ytbmmjkpibnnmeaa
open Go Go.RowKit
set_option linter.unusedSimpArgs false


theorem lss_yes (a b : Nat) (ha : a ≤ 4611686018427387904 / 1024) (hb : b ≤ 4611686018427387904 / 1024) (h : a < b) : FloatKind.f64.format.order (floatOfInt .f64 (a : Int)) (floatOfInt .f64 (b : Int)) = some .lt := by
  rw [order_nat a b (by omega) (by omega), Nat.compare_eq_lt.2 h]
theorem lss_no (a b : Nat) (ha : a ≤ 4611686018427387904 / 1024) (hb : b ≤ 4611686018427387904 / 1024) (h : ¬ a < b) : (FloatKind.f64.format.order (floatOfInt .f64 (a : Int)) (floatOfInt .f64 (b : Int)) == some .lt) = false := by
  rw [order_nat a b (by omega) (by omega)]
  rcases Nat.lt_trichotomy a b with h' | h' | h'
  · exact absurd h' h
  · rw [Nat.compare_eq_eq.2 h']; rfl
  · rw [Nat.compare_eq_gt.2 h']; rfl

/-- Do two spans meet? -/
def meetsB (p q : Int × Int) : Bool := decide (0 < p.2) && decide (0 < q.2) && decide (p.1 < q.1 + q.2) && decide (q.1 < p.1 + p.2)

set_option maxRecDepth 100000 in
set_option maxHeartbeats 4000000 in
theorem reach_any (a m : Nat) (ha : a < 2147483648) (hm : m ≤ 400) (w : World) :
    Calls Try.prog 37 #[.agg #[.int .i64 (a : Int), .int .i64 (m : Int)]] w fun e w' => e = .returned (cx a (a + m)) ∧ Grows w w' := by
  obtain ⟨s, hs, Hs, hb⟩ : ∃ s : Nat, (a : Int) + (m : Int) = (s : Int) ∧ Hid (a + m = s) ∧ s ≤ 4294967296 := ⟨a + m, by omega, lib_hid rfl, by omega⟩
  rw [Hs.out]
  have ha' : (a : Int) < 2147483648 := by omega
  have hm' : (m : Int) ≤ 400 := by omega
  clear hb
  go_enter Try.func37, Try.ntmps37
  go_wp2
  go_ret
  exact ⟨rfl, (Grows.refl w).alloc _⟩

set_option maxRecDepth 100000 in
set_option maxHeartbeats 4000000 in
theorem meets_any (a1 n1 a2 n2 : Nat) (ha1 : a1 < 2147483648) (hn1 : n1 ≤ 400) (ha2 : a2 < 2147483648) (hn2 : n2 ≤ 400) (w : World) :
    Calls Try.prog 41 #[.agg #[.int .i64 (a1 : Int), .int .i64 (n1 : Int)], .agg #[.int .i64 (a2 : Int), .int .i64 (n2 : Int)]] w fun e w' => e = .returned (.bool (meetsB ((a1 : Int), (n1 : Int)) ((a2 : Int), (n2 : Int)))) ∧ Grows w w' := by
  obtain ⟨W0, HW0, hW0, hg0⟩ : ∃ W0 : World, Hid (W0 = (w.alloc (.cells #[.int .i64 (a1 : Int), .int .i64 (n1 : Int)] 28)).alloc (.cells #[.int .i64 (a2 : Int), .int .i64 (n2 : Int)] 28)) ∧ W0.heap.size = w.heap.size + 2 ∧ Grows w W0 := ⟨_, lib_hid rfl, by simp, ((Grows.refl w).alloc _).alloc _⟩
  have HB0 : Hid (Blk W0 w.heap.size 28 #[.int .i64 (a1 : Int), .int .i64 (n1 : Int)]) := by
    unfold Hid; rw [HW0.out]; have := (Blk.new (w) 28 #[.int .i64 (a1 : Int), .int .i64 (n1 : Int)]).alloc (.cells #[.int .i64 (a2 : Int), .int .i64 (n2 : Int)] 28); simpa using this
  have HB1 : Hid (Blk W0 (w.heap.size + 1) 28 #[.int .i64 (a2 : Int), .int .i64 (n2 : Int)]) := by
    unfold Hid; rw [HW0.out]; have := Blk.new (w.alloc (.cells #[.int .i64 (a1 : Int), .int .i64 (n1 : Int)] 28)) 28 #[.int .i64 (a2 : Int), .int .i64 (n2 : Int)]; simpa using this
  have HC : Hid (∀ W, Grows W0 W → W.cell? ⟨w.heap.size, 0, none⟩ = some (.int .i64 (a1 : Int)) ∧ W.cell? ⟨w.heap.size, 1, none⟩ = some (.int .i64 (n1 : Int)) ∧ W.cell? ⟨w.heap.size + 1, 0, none⟩ = some (.int .i64 (a2 : Int)) ∧ W.cell? ⟨w.heap.size + 1, 1, none⟩ = some (.int .i64 (n2 : Int))) := fun W hW => by
    rw [(HB0.out.grows hW).cell, (HB0.out.grows hW).cell, (HB1.out.grows hW).cell, (HB1.out.grows hW).cell]
    exact ⟨rfl, rfl, rfl, rfl⟩
  obtain ⟨s1, Hs1, hs1⟩ : ∃ s1, Hid (a1 + n1 = s1) ∧ s1 ≤ 4294967296 := ⟨_, lib_hid rfl, by omega⟩
  obtain ⟨s2, Hs2, hs2⟩ : ∃ s2, Hid (a2 + n2 = s2) ∧ s2 ≤ 4294967296 := ⟨_, lib_hid rfl, by omega⟩
  have HR1 := lib_hid (fun W => reach_any a1 n1 ha1 hn1 W)
  have HR2 := lib_hid (fun W => reach_any a2 n2 ha2 hn2 W)
  rw [Hs1.out] at HR1
  rw [Hs2.out] at HR2
  go_enter Try.func41, Try.ntmps41
  go_upto_region 1 with fail
  rw [← HW0.out]
  apply wp_region_mono 6 ((.is _, []) :: (.is (cx a1 s1), []) :: (.is _, []) :: (.is (cx a2 s2), []) :: (.is _, []) :: (.is _, []) :: []) (by kernel_rfl) (by kernel_rfl)
  apply Mono.is0
  · kernel_rfl
  · intro W hW
    obtain ⟨q1, q2, q3, q4⟩ := HC.out W hW
    go_wp2
    refine ⟨rfl, rfl, Grows.refl _, ?_⟩
    unfold Oper.valAt
    go_simp
    rfl
  intro k1 a1 hk1 ha1
  simp only [Nat.reduceAdd] at hk1
  simp only [Act.put, List.setIfInBounds_toArray, List.set_cons_succ, List.set_cons_zero] at ha1
  subst hk1 ha1
  apply Mono.is0
  · kernel_rfl
  · intro W hW 
    go_wp2_with fail
    refine (HR1.out W).mono ?_
    rintro e w1 ⟨rfl, hg1⟩
    go_wp2
    exact ⟨rfl, rfl, hg1, rfl⟩
  intro k1 a1 hk1 ha1
  simp only [Nat.reduceAdd] at hk1
  simp only [Act.put, List.setIfInBounds_toArray, List.set_cons_succ, List.set_cons_zero] at ha1
  subst hk1 ha1
  apply Mono.is0
  · kernel_rfl
  · intro W hW
    obtain ⟨q1, q2, q3, q4⟩ := HC.out W hW
    go_wp2
    refine ⟨rfl, rfl, Grows.refl _, ?_⟩
    unfold Oper.valAt
    go_simp
    rfl
  intro k1 a1 hk1 ha1
  simp only [Nat.reduceAdd] at hk1
  simp only [Act.put, List.setIfInBounds_toArray, List.set_cons_succ, List.set_cons_zero] at ha1
  subst hk1 ha1
  apply Mono.is0
  · kernel_rfl
  · intro W hW 
    go_wp2_with fail
    refine (HR2.out W).mono ?_
    rintro e w1 ⟨rfl, hg1⟩
    go_wp2
    exact ⟨rfl, rfl, hg1, rfl⟩
  intro k1 a1 hk1 ha1
  simp only [Nat.reduceAdd] at hk1
  simp only [Act.put, List.setIfInBounds_toArray, List.set_cons_succ, List.set_cons_zero] at ha1
  subst hk1 ha1
  iterate 2
    apply Mono.is0
    · kernel_rfl
    · intro W hW
      go_wp2
      refine ⟨rfl, rfl, Grows.refl _, ?_⟩
      unfold Oper.valAt
      go_simp
      rfl
    intro k1 a1 hk1 ha1
    simp only [Nat.reduceAdd] at hk1
    simp only [Act.put, List.setIfInBounds_toArray, List.set_cons_succ, List.set_cons_zero] at ha1
    subst hk1 ha1
  refine Mono.done ?_
  intro wm hgm
  simp only [allF, List.drop_succ_cons, List.drop_nil]
  obtain ⟨q1, q2, q3, q4⟩ := HC.out wm hgm
  have hgm0 := hg0
  clear HR1 HR2 HB0 HB1 hg0 hW0
  by_cases h1 : ¬ 0 < n1
  · have Hno : Hid (meetsB ((a1 : Int), (n1 : Int)) ((a2 : Int), (n2 : Int)) = false) := by have e1 := Hs1.out; have e2 := Hs2.out; unfold Hid meetsB; simp only [decide_eq_true_eq, Bool.and_eq_false_iff, decide_eq_false_iff_not]; omega
    have h1i : ¬ (0 : Int) < (n1 : Int) := by omega
    go_wp2
    go_ret
    exact ⟨by rw [Hno.out]; rfl, hgm0.trans hgm⟩
  replace h1 := Decidable.not_not.1 h1
  have h1i : (0 : Int) < (n1 : Int) := by omega
  by_cases h2 : ¬ 0 < n2
  · have Hno : Hid (meetsB ((a1 : Int), (n1 : Int)) ((a2 : Int), (n2 : Int)) = false) := by have e1 := Hs1.out; have e2 := Hs2.out; unfold Hid meetsB; simp only [decide_eq_true_eq, Bool.and_eq_false_iff, decide_eq_false_iff_not]; omega
    have h2i : ¬ (0 : Int) < (n2 : Int) := by omega
    go_wp2
    go_ret
    exact ⟨by rw [Hno.out]; rfl, hgm0.trans hgm⟩
  replace h2 := Decidable.not_not.1 h2
  have h2i : (0 : Int) < (n2 : Int) := by omega
  by_cases h3 : ¬ a1 < s2
  · have Hno : Hid (meetsB ((a1 : Int), (n1 : Int)) ((a2 : Int), (n2 : Int)) = false) := by have e1 := Hs1.out; have e2 := Hs2.out; unfold Hid meetsB; simp only [decide_eq_true_eq, Bool.and_eq_false_iff, decide_eq_false_iff_not]; omega
    have h3i := lss_no a1 s2 (by omega) (by omega) h3
    go_wp2
    go_ret
    exact ⟨by rw [Hno.out]; rfl, hgm0.trans hgm⟩
  replace h3 := Decidable.not_not.1 h3
  have h3i := lss_yes a1 s2 (by omega) (by omega) h3
  by_cases h4 : ¬ a2 < s1
  · have Hno : Hid (meetsB ((a1 : Int), (n1 : Int)) ((a2 : Int), (n2 : Int)) = false) := by have e1 := Hs1.out; have e2 := Hs2.out; unfold Hid meetsB; simp only [decide_eq_true_eq, Bool.and_eq_false_iff, decide_eq_false_iff_not]; omega
    have h4i := lss_no a2 s1 (by omega) (by omega) h4
    go_wp2
    go_ret
    exact ⟨by rw [Hno.out]; rfl, hgm0.trans hgm⟩
  replace h4 := Decidable.not_not.1 h4
  have h4i := lss_yes a2 s1 (by omega) (by omega) h4
  have Hno : Hid (meetsB ((a1 : Int), (n1 : Int)) ((a2 : Int), (n2 : Int)) = true) := by have e1 := Hs1.out; have e2 := Hs2.out; unfold Hid meetsB; simp only [decide_eq_true_eq, Bool.and_eq_true]; omega
  go_wp2
  go_ret
  exact ⟨by rw [Hno.out]; rfl, hgm0.trans hgm⟩

theorem meets_int (x1 y1 x2 y2 : Int) (h1 : 0 ≤ x1 ∧ x1 < 2147483648 ∧ 0 ≤ y1 ∧ y1 ≤ 400) (h2 : 0 ≤ x2 ∧ x2 < 2147483648 ∧ 0 ≤ y2 ∧ y2 ≤ 400) (w : World) :
    Calls Try.prog 41 #[.agg #[.int .i64 x1, .int .i64 y1], .agg #[.int .i64 x2, .int .i64 y2]] w fun e w' => e = .returned (.bool (meetsB (x1, y1) (x2, y2))) ∧ Grows w w' := by
  obtain ⟨a1, rfl⟩ := Int.eq_ofNat_of_zero_le h1.1
  obtain ⟨n1, rfl⟩ := Int.eq_ofNat_of_zero_le h1.2.2.1
  obtain ⟨a2, rfl⟩ := Int.eq_ofNat_of_zero_le h2.1
  obtain ⟨n2, rfl⟩ := Int.eq_ofNat_of_zero_le h2.2.2.1
  exact meets_any a1 n1 a2 n2 (by omega) (by omega) (by omega) (by omega) w
set_option maxRecDepth 100000 in
set_option maxHeartbeats 4000000 in
theorem refMeets_any (x1 y1 x2 y2 : Int) (h1 : 0 ≤ x1 ∧ x1 < 2147483648 ∧ 0 ≤ y1 ∧ y1 ≤ 400) (h2 : 0 ≤ x2 ∧ x2 < 2147483648 ∧ 0 ≤ y2 ∧ y2 ≤ 400) (w : World) :
    Calls Try.prog 42 #[.agg #[.int .i64 x1, .int .i64 y1], .agg #[.int .i64 x2, .int .i64 y2]] w fun e w' => e = .returned (.bool (meetsB (x1, y1) (x2, y2))) ∧ Grows w w' := by
  have gg : Grows w ((w.alloc (.cells #[.int .i64 x1, .int .i64 y1] 29)).alloc (.cells #[.int .i64 x2, .int .i64 y2] 29)) := ((Grows.refl w).alloc _).alloc _
  obtain ⟨r, Hr⟩ : ∃ r, Hid (meetsB (x1, y1) (x2, y2) = r) := ⟨_, lib_hid rfl⟩
  have Hr2 := Hr.out
  unfold meetsB at Hr2
  simp only at Hr2
  have Hr3 := lib_hid Hr2
  obtain ⟨s1, hs1, Hs1⟩ : ∃ s1 : Int, x1 + y1 = s1 ∧ Hid (x1 + y1 = s1) := ⟨_, rfl, lib_hid rfl⟩
  obtain ⟨s2, hs2, Hs2⟩ : ∃ s2 : Int, x2 + y2 = s2 ∧ Hid (x2 + y2 = s2) := ⟨_, rfl, lib_hid rfl⟩
  have hb1 : 0 ≤ s1 ∧ s1 ≤ 4294967296 := by omega
  have hb2 : 0 ≤ s2 ∧ s2 ≤ 4294967296 := by omega
  have key : ∀ (b1 b2 b3 b4 : Bool), Hid (decide (y1 ≤ 0) = !b1) → Hid (decide (y2 ≤ 0) = !b2) → Hid (decide (x1 < s2) = b3) → Hid (decide (x2 < s1) = b4) → Hid (r = (b1 && b2 && b3 && b4)) := by
    intro b1 b2 b3 b4 e1 e2 e3 e4
    unfold Hid
    have f1 : decide (0 < y1) = b1 := by
      have := e1.out
      cases b1 <;> simp at this ⊢ <;> omega
    have f2 : decide (0 < y2) = b2 := by
      have := e2.out
      cases b2 <;> simp at this ⊢ <;> omega
    rw [← Hr3.out, f1, f2, Hs2.out, Hs1.out, e3.out, e4.out]
  have hw1 : IntKind.i64.wrap s1 = s1 := by rw [IntKind.wrap_i64]; omega
  have hw2 : IntKind.i64.wrap s2 = s2 := by rw [IntKind.wrap_i64]; omega
  obtain ⟨b1, hb1'⟩ : ∃ b1, decide (y1 ≤ 0) = !b1 := ⟨!decide (y1 ≤ 0), by simp⟩
  obtain ⟨b2, hb2'⟩ : ∃ b2, decide (y2 ≤ 0) = !b2 := ⟨!decide (y2 ≤ 0), by simp⟩
  obtain ⟨b3, hb3'⟩ : ∃ b3, decide (x1 < s2) = b3 := ⟨_, rfl⟩
  obtain ⟨b4, hb4'⟩ : ∃ b4, decide (x2 < s1) = b4 := ⟨_, rfl⟩
  obtain ⟨b5, hb5'⟩ : ∃ b5, decide (x1 ≤ x2) = b5 := ⟨_, rfl⟩
  have Hk := key b1 b2 b3 b4 (lib_hid hb1') (lib_hid hb2') (lib_hid hb3') (lib_hid hb4')
  have H53 : Hid (b5 = true → b3 = true ∨ b2 = false) := fun h => by
    subst h
    cases b2 with
    | false => exact .inr rfl
    | true =>
      left
      rw [← hb3', decide_eq_true_eq]
      have h2 : ¬ y2 ≤ 0 := by simpa using hb2'
      have h5 : x1 ≤ x2 := by simpa using hb5'
      omega
  have H54 : Hid (b5 = false → b4 = true ∨ b1 = false) := fun h => by
    subst h
    cases b1 with
    | false => exact .inr rfl
    | true =>
      left
      rw [← hb4', decide_eq_true_eq]
      have h2 : ¬ y1 ≤ 0 := by simpa using hb1'
      have h5 : ¬ x1 ≤ x2 := by simpa using hb5'
      omega
  clear Hr2 Hr3 h1 h2 key Hs1 Hs2 hb1 hb2
  rw [Hr.out]
  clear Hr
  cases b1
  · have Hrr : Hid (r = false) := by unfold Hid; rw [Hk.out]; rfl
    simp only [Bool.not_false] at hb1'
    go_enter Try.func42, Try.ntmps42
    go_wp2
    go_ret
    exact ⟨by rw [Hrr.out]; rfl, gg⟩
  simp only [Bool.not_true] at hb1'
  cases b2
  · have Hrr : Hid (r = false) := by unfold Hid; rw [Hk.out]; rfl
    simp only [Bool.not_false] at hb2'
    go_enter Try.func42, Try.ntmps42
    go_wp2
    go_ret
    exact ⟨by rw [Hrr.out]; rfl, gg⟩
  simp only [Bool.not_true] at hb2'
  cases b5
  · have Hrr : Hid (b3 = r) := by
      unfold Hid; rw [Hk.out]
      rcases H54.out rfl with h | h
      · rw [h]; simp
      · cases h
    go_enter Try.func42, Try.ntmps42
    go_wp2
    go_ret
    exact ⟨by rw [← Hrr.out]; rfl, gg⟩
  · have Hrr : Hid (b4 = r) := by
      unfold Hid; rw [Hk.out]
      rcases H53.out rfl with h | h
      · rw [h]; simp
      · cases h
    go_enter Try.func42, Try.ntmps42
    go_wp2
    go_ret
    exact ⟨by rw [← Hrr.out]; rfl, gg⟩

/-- What the function F with the captured values caps answers to each span of a list. -/
def AsksB (F : FuncId) (caps : Array Value) (l : List (Int × Int)) (q : Int × Int → Bool) (w : World) : Prop :=
  ∀ (x y : Int) (W : World), (x, y) ∈ l → Grows w W → Calls Try.prog F (#[.agg #[.int .i64 x, .int .i64 y]] ++ caps) W fun e W' => e = .returned (.bool (q (x, y))) ∧ Grows W W'
def SomeI (w : World) (b : Bool) (e : Ending) (w' : World) : Prop := ∃ i : Int, e = .returned (.int .i64 i) ∧ Hid (decide (0 ≤ i) = b) ∧ Grows w w'
set_option maxRecDepth 100000 in
set_option maxHeartbeats 4000000 in
theorem index_any (F : FuncId) (caps : Array Value) (l : List (Int × Int)) (q : Int × Int → Bool) (A : Option Addr) (n c : Nat) (w : World) (hs : SpanR w A n c l)
   (hcf : ∀ (args : Array Value) (W : World), Sem.run Try.prog (callFunc F args) W = .ok (.enter F args) W) (hF : AsksB F caps l q w) :
    Calls Try.prog 54 #[.slice A n c, .func (.func F) #[] caps] w (SomeI w (l.any q)) := by
  have HS := lib_hid hs
  have HF := lib_hid hF
  have hll := lib_hid hs.len
  have hcap := hs.max
  unfold maxLen at hcap
  have hnc := hs.cap
  clear hs hF
  go_enter Try.func54, Try.ntmps54
  go_wp2
  go_loopw [8] (fun i wr => ∃ k : Nat, k ≤ n ∧ i = .int .i64 k ∧ Hid (∀ p ∈ l.take k, q p = false) ∧ Grows w wr) (fun i _ => n - (intOf i).toNat)
  case atStart => exact ⟨0, Nat.zero_le _, rfl, lib_hid (by intro p hp; simp at hp), Grows.refl w⟩
  case round =>
    obtain ⟨k, hk, rfl, HK, hgr⟩ := hrel
    by_cases hlt : k < n
    · have hki : (k : Int) < n := by omega
      obtain ⟨b, off, x, y, rfl, hb, hxy, hc1, hc2⟩ := HS.out.at hlt
      have e1 := (hgr.cell (p := ⟨b, off + k * 2, none⟩) hb).trans hc1
      have e2 := (hgr.cell (p := ⟨b, off + k * 2 + 1, none⟩) hb).trans hc2
      have Hxy := lib_hid hxy
      clear hc1 hc2 hb hxy
      go_wp2_with fail
      refine (HF.out x y wr (List.mem_of_getElem? Hxy.out) hgr).mono ?_
      rintro e w2 ⟨rfl, hg2⟩
      by_cases hq : q (x, y) = true
      · rw [hq]
        have Hq := lib_hid hq
        clear hq e1 e2
        go_wp2
        go_ret
        exact ⟨(k : Int), rfl, lib_hid (by rw [decide_eq_true (by omega)]; symm; rw [List.any_eq_true]; exact ⟨_, List.mem_of_getElem? Hxy.out, Hq.out⟩), hgr.trans hg2⟩
      · have hq' : q (x, y) = false := by simpa using hq
        rw [hq']
        have Hq := lib_hid hq'
        have HK2 : Hid (∀ p ∈ l.take (k + 1), q p = false) := by
          unfold Hid
          rw [List.take_add_one, Hxy.out]
          intro p hp
          simp only [Option.toList_some, List.mem_append, List.mem_singleton] at hp
          rcases hp with hp | rfl
          · exact HK.out p hp
          · exact Hq.out
        clear hq hq' HK e1 e2
        go_wp2
        go_roundw
        case rel => exact ⟨k + 1, by omega, by go_num, HK2, hgr.trans hg2⟩
        case measure => simp [intOf]; omega
    · have hki : ¬ (k : Int) < n := by omega
      have h := HK.out
      rw [show l.take k = l by rw [List.take_of_length_le]; rw [hll.out]; omega] at h
      have HK2 := lib_hid h
      clear h HK
      go_wp2
      go_ret
      exact ⟨-1, rfl, lib_hid (by rw [decide_eq_false (by omega)]; symm; rw [List.any_eq_false]; intro p hp; simp [HK2.out p hp]), hgr⟩
set_option maxRecDepth 100000 in
set_option maxHeartbeats 4000000 in
theorem contains_any (F : FuncId) (caps : Array Value) (l : List (Int × Int)) (q : Int × Int → Bool) (A : Option Addr) (n c : Nat) (w : World) (hs : SpanR w A n c l)
   (hcf : ∀ (args : Array Value) (W : World), Sem.run Try.prog (callFunc F args) W = .ok (.enter F args) W) (hF : AsksB F caps l q w) :
    Calls Try.prog 38 #[.slice A n c, .func (.func F) #[] caps] w fun e w' => e = .returned (.bool (l.any q)) ∧ Grows w w' := by
  have H := lib_hid (index_any F caps l q A n c w hs hcf hF)
  clear hs hcf hF
  go_enter Try.func38, Try.ntmps38
  go_wp2_with fail
  refine H.out.mono ?_
  rintro e w1 ⟨i, rfl, Hi, hg1⟩
  by_cases h0 : 0 ≤ i
  · have Hb : Hid (l.any q = true) := by unfold Hid; rw [← Hi.out, decide_eq_true h0]
    go_wp2
    go_ret
    exact ⟨by rw [Hb.out]; rfl, hg1⟩
  · have Hb : Hid (l.any q = false) := by unfold Hid; rw [← Hi.out, decide_eq_false h0]
    have hd : decide (0 ≤ i) = false := decide_eq_false h0
    clear h0
    go_wp2
    go_ret
    exact ⟨by rw [Hb.out]; rfl, hg1⟩

end Go.Proofs.Ytbmmjkpibnnmeaa
