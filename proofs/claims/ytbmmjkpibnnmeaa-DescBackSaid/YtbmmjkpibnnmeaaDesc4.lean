/-
  The walks of Meet and Apart, of both.
-/
import Derived.Test.YtbmmjkpibnnmeaaDesc3
import Derived.Deep.Cut
namespace Go.Proofs.Ytbmmjkpibnnmeaa
open Go Go.RowKit
set_option linter.unusedSimpArgs false


theorem meetsB_symm (p q : Int × Int) : meetsB p q = meetsB q p := by
  unfold meetsB
  cases decide (0 < p.2) <;> cases decide (0 < q.2) <;> cases decide (p.1 < q.1 + q.2) <;> cases decide (q.1 < p.1 + p.2) <;> rfl
def okSp (p : Int × Int) : Prop := 0 ≤ p.1 ∧ p.1 < 2147483648 ∧ 0 ≤ p.2 ∧ p.2 ≤ 400
def meetB (a b : List (Int × Int)) : Bool := a.any fun s => b.any (meetsB s)

set_option maxRecDepth 100000 in
set_option maxHeartbeats 4000000 in
theorem meet11_any (x1 y1 x2 y2 : Int) (p : Nat) (w : World) (h1 : okSp (x1, y1)) (h2 : okSp (x2, y2)) (c1 : w.cell? ⟨p, 0, none⟩ = some (.int .i64 x1)) (c2 : w.cell? ⟨p, 1, none⟩ = some (.int .i64 y1)) :
    Calls Try.prog 40 #[.agg #[.int .i64 x2, .int .i64 y2], .pointer (some ⟨p, 0, none⟩)] w fun e w' => e = .returned (.bool (meetsB (x1, y1) (x2, y2))) ∧ Grows w w' := by
  have H := lib_hid (fun W => meets_int x1 y1 x2 y2 h1 h2 W)
  have hp : p < w.heap.size := World.block_lt_of_cell? w ⟨p, 0, none⟩ c1
  have Hg : Hid (Grows w (w.alloc (.cells #[.int .i64 x2, .int .i64 y2] 28))) := (Grows.refl w).alloc _
  clear h1 h2
  go_enter Try.func40, Try.ntmps40
  go_wp2_with fail
  refine (H.out _).mono ?_
  rintro e w1 ⟨rfl, hg1⟩
  go_wp2
  go_ret
  exact ⟨rfl, Hg.out.trans hg1⟩

set_option maxRecDepth 100000 in
set_option maxHeartbeats 4000000 in
theorem meet1_any (x1 y1 : Int) (l : List (Int × Int)) (A : Option Addr) (n c : Nat) (p : Nat) (w : World) (h1 : okSp (x1, y1)) (h2 : ∀ q ∈ l, okSp q) (hs : SpanR w A n c l) (c1 : w.cell? ⟨p, 0, none⟩ = some (.slice A n c)) :
    Calls Try.prog 39 #[.agg #[.int .i64 x1, .int .i64 y1], .pointer (some ⟨p, 0, none⟩)] w fun e w' => e = .returned (.bool (l.any (meetsB (x1, y1)))) ∧ Grows w w' := by
  have hp : p < w.heap.size := World.block_lt_of_cell? w ⟨p, 0, none⟩ c1
  have Hg : Hid (Grows w (w.alloc (.cells #[.int .i64 x1, .int .i64 y1] 28))) := (Grows.refl w).alloc _
  have HB := lib_hid (Blk.new w 28 #[.int .i64 x1, .int .i64 y1])
  have HA : Hid (AsksB 40 #[.pointer (some ⟨w.heap.size, 0, none⟩)] l (meetsB (x1, y1)) (w.alloc (.cells #[.int .i64 x1, .int .i64 y1] 28))) := fun x y W hm hW =>
    meet11_any x1 y1 x y w.heap.size W h1 (h2 _ hm) (by rw [(HB.out.grows hW).cell]; rfl) (by rw [(HB.out.grows hW).cell]; rfl)
  have HS := lib_hid (hs.grows Hg.out)
  clear h1 h2 hs HB
  go_enter Try.func39, Try.ntmps39
  go_wp2_with fail
  refine (contains_any 40 _ l (meetsB (x1, y1)) _ _ _ _ HS.out (fun _ _ => rfl) HA.out).mono ?_
  rintro e w1 ⟨rfl, hg1⟩
  go_wp2
  go_ret
  exact ⟨rfl, Hg.out.trans hg1⟩

set_option maxRecDepth 100000 in
set_option maxHeartbeats 4000000 in
theorem meet_any (l m : List (Int × Int)) (A B : Option Addr) (n c k d : Nat) (w : World) (h1 : ∀ q ∈ l, okSp q) (h2 : ∀ q ∈ m, okSp q) (hl : SpanR w A n c l) (hm : SpanR w B k d m) :
    Calls Try.prog 18 #[.slice A n c, .slice B k d] w fun e w' => e = .returned (.bool (meetB l m)) ∧ Grows w w' := by
  have Hg : Hid (Grows w (w.alloc (.cells #[.slice B k d] 24))) := (Grows.refl w).alloc _
  have HB := lib_hid (Blk.new w 24 #[.slice B k d])
  have HA : Hid (AsksB 39 #[.pointer (some ⟨w.heap.size, 0, none⟩)] l (fun s => m.any (meetsB s)) (w.alloc (.cells #[.slice B k d] 24))) := fun x y W hq hW =>
    meet1_any x y m B k d w.heap.size W (h1 _ hq) h2 (hm.grows (Hg.out.trans hW)) (by rw [(HB.out.grows hW).cell]; rfl)
  have HS := lib_hid (hl.grows Hg.out)
  clear h1 h2 hl hm HB
  go_enter Try.func18, Try.ntmps18
  go_wp2_with fail
  refine (contains_any 39 _ l (fun s => m.any (meetsB s)) _ _ _ _ HS.out (fun _ _ => rfl) HA.out).mono ?_
  rintro e w1 ⟨rfl, hg1⟩
  go_wp2
  go_ret
  exact ⟨rfl, Hg.out.trans hg1⟩

theorem meetB_row {l m : List (Int × Int)} {k j : Nat} {p q : Int × Int} (h : l[k]? = some p) (h2 : m[j]? = some q) (hm : meetsB p q = true) : meetB l m = true := by
  unfold meetB
  rw [List.any_eq_true]
  exact ⟨p, List.mem_of_getElem? h, by rw [List.any_eq_true]; exact ⟨q, List.mem_of_getElem? h2, hm⟩⟩
theorem take_ext {α : Type} {P : α → Prop} {l : List α} {k : Nat} {p : α} (h : l[k]? = some p) (hk : ∀ x ∈ l.take k, P x) (hp : P p) : ∀ x ∈ l.take (k + 1), P x := by
  rw [List.take_add_one, h]
  intro x hx
  simp only [Option.toList_some, List.mem_append, List.mem_singleton] at hx
  rcases hx with hx | rfl
  · exact hk x hx
  · exact hp
set_option maxRecDepth 100000 in
set_option maxHeartbeats 4000000 in
theorem refMeet_any (l m : List (Int × Int)) (A B : Option Addr) (n c k0 d : Nat) (w : World) (h1 : ∀ q ∈ l, okSp q) (h2 : ∀ q ∈ m, okSp q) (hl : SpanR w A n c l) (hm : SpanR w B k0 d m) :
    Calls Try.prog 20 #[.slice A n c, .slice B k0 d] w fun e w' => e = .returned (.bool (meetB l m)) ∧ Grows w w' := by
  have HS := lib_hid hl
  have HT := lib_hid hm
  have h1' := lib_hid h1
  have h2' := lib_hid h2
  have hll := lib_hid hl.len
  have hml := lib_hid hm.len
  have hcap := hl.max
  have hcap2 := hm.max
  unfold maxLen at hcap hcap2
  have hnc := hl.cap
  have hnd := hm.cap
  clear hl hm h1 h2
  go_enter Try.func20, Try.ntmps20
  go_wp2
  go_loopw [5] (fun i wr => ∃ k : Nat, k ≤ n ∧ i = .int .i64 k ∧ Hid (∀ p ∈ l.take k, m.any (meetsB p) = false) ∧ Grows w wr) (fun i _ => n - (intOf i).toNat)
  case atStart => exact ⟨0, Nat.zero_le _, rfl, lib_hid (by intro p hp; simp at hp), Grows.refl w⟩
  case round =>
    obtain ⟨k, hk, rfl, HK, hgr⟩ := hrel
    by_cases hlt : k < n
    · have hki : (k : Int) < n := by omega
      obtain ⟨b, off, x1, y1, rfl, hb, hxy, hc1, hc2⟩ := HS.out.at hlt
      have Hxy := lib_hid hxy
      have Hc := lib_hid (And.intro hb (And.intro hc1 hc2))
      have Hgr := lib_hid hgr
      clear hc1 hc2 hb hxy hgr
      go_wp2
      go_loopw [6] (fun i wr => ∃ j : Nat, j ≤ k0 ∧ i = .int .i64 j ∧ Hid (∀ q ∈ m.take j, meetsB (x1, y1) q = false) ∧ Grows w wr) (fun i _ => k0 - (intOf i).toNat)
      case atStart => exact ⟨0, Nat.zero_le _, rfl, lib_hid (by intro p hp; simp at hp), Hgr.out⟩
      case round =>
        clear Hgr
        obtain ⟨j, hj, rfl, HJ, hgr⟩ := hrel
        by_cases hlt2 : j < k0
        · have hji : (j : Int) < k0 := by omega
          obtain ⟨b2, off2, x2, y2, rfl, hb2, hxy2, hd1, hd2⟩ := HT.out.at hlt2
          have Hxy2 := lib_hid hxy2
          have HC : Hid (∀ W, Grows wr W → W.cell? ⟨b, off + k * 2, none⟩ = some (.int .i64 x1) ∧ W.cell? ⟨b, off + k * 2 + 1, none⟩ = some (.int .i64 y1) ∧ W.cell? ⟨b2, off2 + j * 2, none⟩ = some (.int .i64 x2) ∧ W.cell? ⟨b2, off2 + j * 2 + 1, none⟩ = some (.int .i64 y2)) := fun W hW =>
            ⟨((hgr.trans hW).cell (p := ⟨b, off + k * 2, none⟩) Hc.out.1).trans Hc.out.2.1, ((hgr.trans hW).cell (p := ⟨b, off + k * 2 + 1, none⟩) Hc.out.1).trans Hc.out.2.2, ((hgr.trans hW).cell (p := ⟨b2, off2 + j * 2, none⟩) hb2).trans hd1, ((hgr.trans hW).cell (p := ⟨b2, off2 + j * 2 + 1, none⟩) hb2).trans hd2⟩
          obtain ⟨r, Hr⟩ : ∃ r, Hid (meetsB (x1, y1) (x2, y2) = r) := ⟨_, lib_hid rfl⟩
          have HM : Hid (∀ W, Calls Try.prog 42 #[.agg #[.int .i64 x1, .int .i64 y1], .agg #[.int .i64 x2, .int .i64 y2]] W fun e w' => e = .returned (.bool r) ∧ Grows W w') := fun W => by
            rw [← Hr.out]
            exact refMeets_any x1 y1 x2 y2 (h1'.out _ (List.mem_of_getElem? Hxy.out)) (h2'.out _ (List.mem_of_getElem? Hxy2.out)) W
          clear hd1 hd2 hb2 hxy2
          go_upto_region 7 with fail
          apply wp_region_mono 9 ((.is _, []) :: (.is _, []) :: (.is _, []) :: (.is _, []) :: (.is _, []) :: (.is _, []) :: (.is _, []) :: (.is _, []) :: (.is (.bool r), []) :: []) (by kernel_rfl) (by kernel_rfl)
          iterate 3
            apply Mono.is0
            · kernel_rfl
            · intro W hW
              go_wp2
              refine ⟨rfl, rfl, Grows.refl _, ?_⟩
              unfold Oper.valAt
              go_simp
              rfl
            intro k1 a1 hk1 ha1
            simp only [Nat.reduceAdd] at hk1
            simp only [Act.put, List.setIfInBounds_toArray, List.set_cons_succ, List.set_cons_zero] at ha1
            subst hk1 ha1
          apply Mono.is0
          · kernel_rfl
          · intro W hW
            obtain ⟨q1, q2, q3, q4⟩ := HC.out W hW
            go_wp2
            refine ⟨rfl, rfl, Grows.refl _, ?_⟩
            unfold Oper.valAt
            go_simp
            rfl
          intro k1 a1 hk1 ha1
          simp only [Nat.reduceAdd] at hk1
          simp only [Act.put, List.setIfInBounds_toArray, List.set_cons_succ, List.set_cons_zero] at ha1
          subst hk1 ha1
          iterate 3
            apply Mono.is0
            · kernel_rfl
            · intro W hW
              go_wp2
              refine ⟨rfl, rfl, Grows.refl _, ?_⟩
              unfold Oper.valAt
              go_simp
              rfl
            intro k1 a1 hk1 ha1
            simp only [Nat.reduceAdd] at hk1
            simp only [Act.put, List.setIfInBounds_toArray, List.set_cons_succ, List.set_cons_zero] at ha1
            subst hk1 ha1
          apply Mono.is0
          · kernel_rfl
          · intro W hW
            obtain ⟨q1, q2, q3, q4⟩ := HC.out W hW
            go_wp2
            refine ⟨rfl, rfl, Grows.refl _, ?_⟩
            unfold Oper.valAt
            go_simp
            rfl
          intro k1 a1 hk1 ha1
          simp only [Nat.reduceAdd] at hk1
          simp only [Act.put, List.setIfInBounds_toArray, List.set_cons_succ, List.set_cons_zero] at ha1
          subst hk1 ha1
          apply Mono.is0
          · kernel_rfl
          · intro W hW 
            go_wp2_with fail
            refine (HM.out W).mono ?_
            rintro e w1 ⟨rfl, hg1⟩
            go_wp2
            exact ⟨rfl, rfl, hg1, rfl⟩
          intro k1 a1 hk1 ha1
          simp only [Nat.reduceAdd] at hk1
          simp only [Act.put, List.setIfInBounds_toArray, List.set_cons_succ, List.set_cons_zero] at ha1
          subst hk1 ha1
          refine Mono.done ?_
          intro wm hgm
          simp only [allF, List.drop_succ_cons, List.drop_nil]
          have hg3 := hgr.trans hgm
          clear HC HM hgr hgm
          cases r
          · have HJ2 : Hid (∀ q ∈ m.take (j + 1), meetsB (x1, y1) q = false) := take_ext Hxy2.out HJ.out Hr.out
            clear HJ
            go_wp2
            go_roundw
            case rel => exact ⟨j + 1, by omega, by go_num, HJ2, hg3⟩
            case measure => simp [intOf]; omega
          · have Hy : Hid (meetB l m = true) := meetB_row Hxy.out Hxy2.out Hr.out
            clear HJ
            go_wp2
            go_ret
            exact ⟨by rw [Hy.out]; rfl, hg3⟩
        · have hji : ¬ (j : Int) < k0 := by omega
          have h := HJ.out
          rw [show m.take j = m by rw [List.take_of_length_le]; rw [hml.out]; omega] at h
          have HK2 : Hid (∀ p ∈ l.take (k + 1), m.any (meetsB p) = false) := take_ext Hxy.out HK.out (by rw [List.any_eq_false]; intro q hq; simp [h q hq])
          clear h HJ HK
          go_wp2
          go_roundw
          case rel => exact ⟨k + 1, by omega, by go_num, HK2, hgr⟩
          case measure => simp [intOf]; omega
    · have hki : ¬ (k : Int) < n := by omega
      have h := HK.out
      rw [show l.take k = l by rw [List.take_of_length_le]; rw [hll.out]; omega] at h
      have Hy : Hid (meetB l m = false) := by unfold Hid meetB; rw [List.any_eq_false]; intro p hp; simp [h p hp]
      clear h HK
      go_wp2
      go_ret
      exact ⟨by rw [Hy.out]; rfl, hgr⟩

/-- Does a list's i-th span meet one ahead of it? -/
def rowB (l : List (Int × Int)) (i : Nat) : Bool := (l.take i).any fun s => meetsB s (l.getD i (0, 0))
def apartB (l : List (Int × Int)) : Bool := (List.range l.length).all fun i => !rowB l i
theorem one_span (w : World) (t : TypeId) (x y : Int) : SpanR (w.alloc (.cells #[.int .i64 x, .int .i64 y] t)) (some ⟨w.heap.size, 0, none⟩) 1 1 [(x, y)] :=
  ⟨rfl, Nat.le_refl _, by unfold maxLen; omega, fun e => (by cases e), fun _ => ⟨w.heap.size, 0, rfl, by simp, fun j p hj => by
    have h0 : j = 0 := by have := (List.getElem?_eq_some_iff.1 hj).1; simpa using this
    subst h0
    simp only [List.getElem?_cons_zero, Option.some.injEq] at hj
    subst hj
    rw [(Blk.new w t #[.int .i64 x, .int .i64 y]).cell, (Blk.new w t #[.int .i64 x, .int .i64 y]).cell]
    exact ⟨rfl, rfl⟩⟩⟩
theorem apart_no {l : List (Int × Int)} {i : Nat} (h : i < l.length) (hr : rowB l i = true) : apartB l = false := by
  unfold apartB
  rw [List.all_eq_false]
  exact ⟨i, List.mem_range.2 h, by simp [hr]⟩
theorem apart_yes {l : List (Int × Int)} (h : ∀ i, i < l.length → rowB l i = false) : apartB l = true := by
  unfold apartB
  rw [List.all_eq_true]
  intro i hi
  rw [h i (List.mem_range.1 hi)]; rfl
theorem getD_of {l : List (Int × Int)} {k : Nat} {p : Int × Int} (h : l[k]? = some p) : l.getD k (0, 0) = p := by
  rw [List.getD_eq_getElem?_getD, h]; rfl
set_option maxRecDepth 100000 in
set_option maxHeartbeats 4000000 in
theorem apart_any (l : List (Int × Int)) (A : Option Addr) (n c : Nat) (w : World) (h1 : ∀ q ∈ l, okSp q) (hl : SpanR w A n c l) :
    Calls Try.prog 21 #[.slice A n c] w fun e w' => e = .returned (.bool (apartB l)) ∧ Grows w w' := by
  have HS := lib_hid hl
  have h1' := lib_hid h1
  have hll := lib_hid hl.len
  have hcap := hl.max
  unfold maxLen at hcap
  have hnc := hl.cap
  clear hl h1
  go_enter Try.func21, Try.ntmps21
  go_wp2
  go_loopw [7] (fun i wr => ∃ k : Nat, k ≤ n ∧ i = .int .i64 k ∧ Hid (∀ i, i < k → rowB l i = false) ∧ Grows w wr) (fun i _ => n - (intOf i).toNat)
  case atStart => exact ⟨0, Nat.zero_le _, rfl, lib_hid (by intro i hi; omega), Grows.refl w⟩
  case round =>
    obtain ⟨k, hk, rfl, HK, hgr⟩ := hrel
    by_cases hlt : k < n
    · have hki : (k : Int) < n := by omega
      have HSA : Hid (∀ W, Grows w W → SpanR W A k c (l.take k)) := fun W hW => (HS.out.grows hW).pre (by omega)
      obtain ⟨b, off, x, y, rfl, hb, hxy, hc1, hc2⟩ := HS.out.at hlt
      have Hxy := lib_hid hxy
      have e1 := (hgr.cell (p := ⟨b, off + k * 2, none⟩) hb).trans hc1
      have e2 := (hgr.cell (p := ⟨b, off + k * 2 + 1, none⟩) hb).trans hc2
      obtain ⟨W1, HW1⟩ : ∃ W1 : World, Hid (W1 = wr.alloc (.cells #[.int .i64 x, .int .i64 y] 28)) := ⟨_, lib_hid rfl⟩
      have HX : Hid (∀ W, Grows W1 W → W.cell? ⟨wr.heap.size, 0, none⟩ = some (.int .i64 x) ∧ W.cell? ⟨wr.heap.size, 1, none⟩ = some (.int .i64 y)) := fun W hW => by
        have hb : Blk W1 wr.heap.size 28 #[.int .i64 x, .int .i64 y] := by rw [HW1.out]; exact Blk.new _ _ _
        rw [(hb.grows hW).cell, (hb.grows hW).cell]; exact ⟨rfl, rfl⟩
      have hg1 : Grows w W1 := by rw [HW1.out]; exact hgr.alloc _
      obtain ⟨r, Hr⟩ : ∃ r, Hid (rowB l k = r) := ⟨_, lib_hid rfl⟩
      have HM : Hid (∀ g W, Grows W1 W → SpanR W (some ⟨g, 0, none⟩) 1 1 [(x, y)] → Calls Try.prog 18 #[.slice (some ⟨b, off, none⟩) k c, .slice (some ⟨g, 0, none⟩) 1 1] W fun e w' => e = .returned (.bool r) ∧ Grows W w') := fun g W hW hg => by
        have := meet_any (l.take k) [(x, y)] (some ⟨b, off, none⟩) (some ⟨g, 0, none⟩) k c 1 1 W (fun q hq => h1'.out q (List.mem_of_mem_take hq)) (fun q hq => by rw [List.mem_singleton.1 hq]; exact h1'.out _ (List.mem_of_getElem? Hxy.out)) (HSA.out W (hg1.trans hW)) hg
        rw [show meetB (l.take k) [(x, y)] = r by rw [← Hr.out]; unfold meetB rowB; rw [getD_of Hxy.out]; simp] at this
        exact this
      clear hc1 hc2 hb hxy hgr HSA
      go_upto_region 4 with fail
      rw [← HW1.out]
      apply wp_region_mono 6 ((.is _, []) :: (.is _, []) :: (.is _, []) :: (.is _, []) :: (.pr (fun v W => ∃ g, v = .slice (some ⟨g, 0, none⟩) 1 1 ∧ SpanR W (some ⟨g, 0, none⟩) 1 1 [(x, y)]), []) :: (.is (.bool r), [4]) :: []) (by kernel_rfl) (by kernel_rfl)
      iterate 3
        apply Mono.is0
        · kernel_rfl
        · intro W hW
          go_wp2
          refine ⟨rfl, rfl, Grows.refl _, ?_⟩
          unfold Oper.valAt
          go_simp
          rfl
        intro k1 a1 hk1 ha1
        simp only [Nat.reduceAdd] at hk1
        simp only [Act.put, List.setIfInBounds_toArray, List.set_cons_succ, List.set_cons_zero] at ha1
        subst hk1 ha1
      apply Mono.is0
      · kernel_rfl
      · intro W hW
        have q1 := HX.out W hW
        obtain ⟨q2, q3⟩ := q1
        go_wp2
        refine ⟨rfl, rfl, Grows.refl _, ?_⟩
        unfold Oper.valAt
        go_simp
        rfl
      intro k1 a1 hk1 ha1
      simp only [Nat.reduceAdd] at hk1
      simp only [Act.put, List.setIfInBounds_toArray, List.set_cons_succ, List.set_cons_zero] at ha1
      subst hk1 ha1
      apply Mono.pr0
      · kernel_rfl
      · exact fun v W W' hW ⟨g, h1, h2⟩ => ⟨g, h1, h2.grows hW⟩
      · intro W hW 
        go_wp2
        exact ⟨rfl, rfl, (Grows.refl _).alloc _, _, rfl, one_span W 28 x y⟩
      intro v4
      intro k1 a1 hk1 ha1
      simp only [Nat.reduceAdd] at hk1
      simp only [Act.put, List.setIfInBounds_toArray, List.set_cons_succ, List.set_cons_zero] at ha1
      subst hk1 ha1
      apply Mono.is1
      · kernel_rfl
      · intro W hW f0
        obtain ⟨g, rfl, hg⟩ := f0
        go_wp2_with fail
        refine (HM.out g W hW hg).mono ?_
        rintro e w1 ⟨rfl, hg1⟩
        go_wp2
        exact ⟨rfl, rfl, hg1, rfl⟩
      intro k1 a1 hk1 ha1
      simp only [Nat.reduceAdd] at hk1
      simp only [Act.put, List.setIfInBounds_toArray, List.set_cons_succ, List.set_cons_zero] at ha1
      subst hk1 ha1
      refine Mono.done ?_
      intro wm hgm
      simp only [allF, List.drop_succ_cons, List.drop_nil]
      intro g4
      have hg3 := hg1.trans hgm
      clear HM HX hgm hg1 HW1 g4 e1 e2
      cases r
      · have HK2 : Hid (∀ i, i < k + 1 → rowB l i = false) := fun i hi => by
          by_cases e : i = k
          · rw [e]; exact Hr.out
          · exact HK.out i (by omega)
        clear HK
        go_wp2
        go_roundw
        case rel => exact ⟨k + 1, by omega, by go_num, HK2, hg3⟩
        case measure => simp [intOf]; omega
      · have Hy : Hid (apartB l = false) := apart_no (by rw [hll.out]; exact hlt) Hr.out
        clear HK
        go_wp2
        go_ret
        exact ⟨by rw [Hy.out]; rfl, hg3⟩
    · have hki : ¬ (k : Int) < n := by omega
      have Hy : Hid (apartB l = true) := apart_yes (fun i hi => HK.out i (by rw [hll.out] at hi; omega))
      clear HK
      go_wp2
      go_ret
      exact ⟨by rw [Hy.out]; rfl, hgr⟩
set_option maxRecDepth 100000 in
set_option maxHeartbeats 4000000 in
theorem refApart_any (l : List (Int × Int)) (A : Option Addr) (n c : Nat) (w : World) (h1 : ∀ q ∈ l, okSp q) (hl : SpanR w A n c l) :
    Calls Try.prog 22 #[.slice A n c] w fun e w' => e = .returned (.bool (apartB l)) ∧ Grows w w' := by
  have HS := lib_hid hl
  have h1' := lib_hid h1
  have hll := lib_hid hl.len
  have hcap := hl.max
  unfold maxLen at hcap
  have hnc := hl.cap
  clear hl h1
  go_enter Try.func22, Try.ntmps22
  go_wp2
  go_loopw [3] (fun i wr => ∃ k : Nat, k ≤ n ∧ i = .int .i64 k ∧ Hid (∀ i, i < k → rowB l i = false) ∧ Grows w wr) (fun i _ => n - (intOf i).toNat)
  case atStart => exact ⟨0, Nat.zero_le _, rfl, lib_hid (by intro i hi; omega), Grows.refl w⟩
  case round =>
    obtain ⟨k, hk, rfl, HK, hgr⟩ := hrel
    by_cases hlt : k < n
    · have hki : (k : Int) < n := by omega
      obtain ⟨b, off, x1, y1, eA, hb, hxy, hc1, hc2⟩ := HS.out.at hlt
      have Hxy := lib_hid hxy
      have Hc := lib_hid (And.intro hb (And.intro hc1 hc2))
      have Hgr := lib_hid hgr
      subst eA
      clear hc1 hc2 hb hxy hgr
      go_wp2
      go_loopw [4] (fun i wr => ∃ j : Nat, j ≤ k ∧ i = .int .i64 j ∧ Hid (∀ q ∈ l.take j, meetsB q (x1, y1) = false) ∧ Grows w wr) (fun i _ => k - (intOf i).toNat)
      case atStart => exact ⟨0, Nat.zero_le _, rfl, lib_hid (by intro p hp; simp at hp), Hgr.out⟩
      case round =>
        clear Hgr
        obtain ⟨j, hj, rfl, HJ, hgr⟩ := hrel
        by_cases hlt2 : j < k
        · have hji : (j : Int) < k := by omega
          have hjn : (j : Int) < n := by omega
          obtain ⟨b2, off2, x2, y2, eA2, hb2, hxy2, hd1, hd2⟩ := HS.out.at (k := j) (by omega)
          obtain ⟨rfl, rfl⟩ : b2 = b ∧ off2 = off := by
            have := Option.some.inj eA2
            simp only [Addr.mk.injEq] at this
            exact ⟨this.1.symm, this.2.1.symm⟩
          have Hxy2 := lib_hid hxy2
          have HC : Hid (∀ W, Grows wr W → W.cell? ⟨b2, off2 + k * 2, none⟩ = some (.int .i64 x1) ∧ W.cell? ⟨b2, off2 + k * 2 + 1, none⟩ = some (.int .i64 y1) ∧ W.cell? ⟨b2, off2 + j * 2, none⟩ = some (.int .i64 x2) ∧ W.cell? ⟨b2, off2 + j * 2 + 1, none⟩ = some (.int .i64 y2)) := fun W hW =>
            ⟨((hgr.trans hW).cell (p := ⟨b2, off2 + k * 2, none⟩) Hc.out.1).trans Hc.out.2.1, ((hgr.trans hW).cell (p := ⟨b2, off2 + k * 2 + 1, none⟩) Hc.out.1).trans Hc.out.2.2, ((hgr.trans hW).cell (p := ⟨b2, off2 + j * 2, none⟩) hb2).trans hd1, ((hgr.trans hW).cell (p := ⟨b2, off2 + j * 2 + 1, none⟩) hb2).trans hd2⟩
          obtain ⟨r, Hr⟩ : ∃ r, Hid (meetsB (x2, y2) (x1, y1) = r) := ⟨_, lib_hid rfl⟩
          have HM : Hid (∀ W, Calls Try.prog 42 #[.agg #[.int .i64 x1, .int .i64 y1], .agg #[.int .i64 x2, .int .i64 y2]] W fun e w' => e = .returned (.bool r) ∧ Grows W w') := fun W => by
            rw [← Hr.out, meetsB_symm]
            exact refMeets_any x1 y1 x2 y2 (h1'.out _ (List.mem_of_getElem? Hxy.out)) (h1'.out _ (List.mem_of_getElem? Hxy2.out)) W
          clear hd1 hd2 hb2 hxy2 eA2
          go_upto_region 7 with fail
          apply wp_region_mono 9 ((.is _, []) :: (.is _, []) :: (.is _, []) :: (.is _, []) :: (.is _, []) :: (.is _, []) :: (.is _, []) :: (.is _, []) :: (.is (.bool r), []) :: []) (by kernel_rfl) (by kernel_rfl)
          iterate 3
            apply Mono.is0
            · kernel_rfl
            · intro W hW
              go_wp2
              refine ⟨rfl, rfl, Grows.refl _, ?_⟩
              unfold Oper.valAt
              go_simp
              rfl
            intro k1 a1 hk1 ha1
            simp only [Nat.reduceAdd] at hk1
            simp only [Act.put, List.setIfInBounds_toArray, List.set_cons_succ, List.set_cons_zero] at ha1
            subst hk1 ha1
          apply Mono.is0
          · kernel_rfl
          · intro W hW
            obtain ⟨q1, q2, q3, q4⟩ := HC.out W hW
            go_wp2
            refine ⟨rfl, rfl, Grows.refl _, ?_⟩
            unfold Oper.valAt
            go_simp
            rfl
          intro k1 a1 hk1 ha1
          simp only [Nat.reduceAdd] at hk1
          simp only [Act.put, List.setIfInBounds_toArray, List.set_cons_succ, List.set_cons_zero] at ha1
          subst hk1 ha1
          iterate 3
            apply Mono.is0
            · kernel_rfl
            · intro W hW
              go_wp2
              refine ⟨rfl, rfl, Grows.refl _, ?_⟩
              unfold Oper.valAt
              go_simp
              rfl
            intro k1 a1 hk1 ha1
            simp only [Nat.reduceAdd] at hk1
            simp only [Act.put, List.setIfInBounds_toArray, List.set_cons_succ, List.set_cons_zero] at ha1
            subst hk1 ha1
          apply Mono.is0
          · kernel_rfl
          · intro W hW
            obtain ⟨q1, q2, q3, q4⟩ := HC.out W hW
            go_wp2
            refine ⟨rfl, rfl, Grows.refl _, ?_⟩
            unfold Oper.valAt
            go_simp
            rfl
          intro k1 a1 hk1 ha1
          simp only [Nat.reduceAdd] at hk1
          simp only [Act.put, List.setIfInBounds_toArray, List.set_cons_succ, List.set_cons_zero] at ha1
          subst hk1 ha1
          apply Mono.is0
          · kernel_rfl
          · intro W hW 
            go_wp2_with fail
            refine (HM.out W).mono ?_
            rintro e w1 ⟨rfl, hg1⟩
            go_wp2
            exact ⟨rfl, rfl, hg1, rfl⟩
          intro k1 a1 hk1 ha1
          simp only [Nat.reduceAdd] at hk1
          simp only [Act.put, List.setIfInBounds_toArray, List.set_cons_succ, List.set_cons_zero] at ha1
          subst hk1 ha1
          refine Mono.done ?_
          intro wm hgm
          simp only [allF, List.drop_succ_cons, List.drop_nil]
          have hg3 := hgr.trans hgm
          clear HC HM hgr hgm
          cases r
          · have HJ2 : Hid (∀ q ∈ l.take (j + 1), meetsB q (x1, y1) = false) := take_ext Hxy2.out HJ.out Hr.out
            clear HJ
            go_wp2
            go_roundw
            case rel => exact ⟨j + 1, by omega, by go_num, HJ2, hg3⟩
            case measure => simp [intOf]; omega
          · have Hy : Hid (apartB l = false) := apart_no (i := k) (by rw [hll.out]; exact hlt) (by
              unfold rowB
              rw [getD_of Hxy.out, List.any_eq_true]
              exact ⟨(x2, y2), List.mem_of_getElem? (i := j) (by rw [List.getElem?_take, if_pos hlt2]; exact Hxy2.out), Hr.out⟩)
            clear HJ
            go_wp2
            go_ret
            exact ⟨by rw [Hy.out]; rfl, hg3⟩
        · have hji : ¬ (j : Int) < k := by omega
          have hjk : j = k := by omega
          have HK2 : Hid (∀ i, i < k + 1 → rowB l i = false) := fun i hi => by
            by_cases e : i = k
            · rw [e]; unfold rowB; rw [getD_of Hxy.out, List.any_eq_false, ← hjk]; intro q hq; simp [HJ.out q hq]
            · exact HK.out i (by omega)
          clear HJ HK hjk
          go_wp2
          go_roundw
          case rel => exact ⟨k + 1, by omega, by go_num, HK2, hgr⟩
          case measure => simp [intOf]; omega
    · have hki : ¬ (k : Int) < n := by omega
      have Hy : Hid (apartB l = true) := apart_yes (fun i hi => HK.out i (by rw [hll.out] at hi; omega))
      clear HK
      go_wp2
      go_ret
      exact ⟨by rw [Hy.out]; rfl, hgr⟩

end Go.Proofs.Ytbmmjkpibnnmeaa
