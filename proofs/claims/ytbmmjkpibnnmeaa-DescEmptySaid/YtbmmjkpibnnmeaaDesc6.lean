/-
  How far a list of spans reaches: plain laws; the walk of the reference's Reach.
-/
import Derived.Test.YtbmmjkpibnnmeaaDesc5
import Derived.Test.YtbmmjkpibnnmeaaDesc2
import Derived.Deep.Cut
namespace Go.Proofs.Ytbmmjkpibnnmeaa
open Go Go.RowKit
set_option linter.unusedSimpArgs false


theorem rStep_bd {l : List (Int × Int)} (h1 : ∀ q ∈ l, okSp q) : ∀ (st : Bool × Nat × Nat), st.2.1 ≤ 4294967296 → st.2.2 ≤ 4294967296 → (st.1 = false → st.2 = (0, 0)) →
    (l.foldl rStep st).2.1 ≤ 4294967296 ∧ (l.foldl rStep st).2.2 ≤ 4294967296 ∧ ((l.foldl rStep st).1 = false → (l.foldl rStep st).2 = (0, 0)) := by
  induction l with
  | nil => intro st a b c; exact ⟨a, b, c⟩
  | cons p l ih =>
    intro st a b c
    rw [List.foldl_cons]
    have hp := h1 p (by simp)
    unfold okSp at hp
    refine ih (fun q hq => h1 q (by simp [hq])) _ ?_ ?_ ?_ <;> unfold rStep <;> (split <;> try assumption) <;> (split <;> try assumption) <;> (try simp only) <;> (try omega) <;> (intro h; cases h)
theorem rT_bd {l : List (Int × Int)} (h1 : ∀ q ∈ l, okSp q) : (rT l).2.1 ≤ 4294967296 ∧ (rT l).2.2 ≤ 4294967296 ∧ ((rT l).1 = false → (rT l).2 = (0, 0)) :=
  rStep_bd h1 (false, 0, 0) (by simp) (by simp) (fun _ => rfl)
theorem rStep_mono {l : List (Int × Int)} : ∀ (st : Bool × Nat × Nat), st.1 = true → (l.foldl rStep st).1 = true ∧ (l.foldl rStep st).2.1 ≤ st.2.1 ∧ st.2.2 ≤ (l.foldl rStep st).2.2 := by
  induction l with
  | nil => intro st a; exact ⟨a, Nat.le_refl _, Nat.le_refl _⟩
  | cons p l ih =>
    intro st a
    rw [List.foldl_cons]
    have h : (rStep st p).1 = true ∧ (rStep st p).2.1 ≤ st.2.1 ∧ st.2.2 ≤ (rStep st p).2.2 := by
      unfold rStep
      split
      · exact ⟨a, Nat.le_refl _, Nat.le_refl _⟩
      · exact ⟨rfl, Nat.min_le_right _ _, Nat.le_max_right _ _⟩
    have := ih (rStep st p) h.1
    exact ⟨this.1, Nat.le_trans this.2.1 h.2.1, Nat.le_trans h.2.2 this.2.2⟩
theorem rStep_in {l : List (Int × Int)} {p : Int × Int} (hp : p ∈ l) (h0 : 0 < p.2) : ∀ (st : Bool × Nat × Nat), (l.foldl rStep st).1 = true ∧ (l.foldl rStep st).2.1 ≤ p.1.toNat ∧ (p.1 + p.2).toNat ≤ (l.foldl rStep st).2.2 := by
  induction l with
  | nil => cases hp
  | cons q l ih =>
    intro st
    rw [List.foldl_cons]
    rcases List.mem_cons.1 hp with rfl | hp
    · have h : (rStep st p).1 = true ∧ (rStep st p).2.1 ≤ p.1.toNat ∧ (p.1 + p.2).toNat ≤ (rStep st p).2.2 := by
        unfold rStep
        rw [if_neg (by omega)]
        split
        · exact ⟨rfl, Nat.min_le_left _ _, Nat.le_max_left _ _⟩
        · exact ⟨rfl, Nat.le_refl _, Nat.le_refl _⟩
      have := rStep_mono (l := l) (rStep st p) h.1
      exact ⟨this.1, Nat.le_trans this.2.1 h.2.1, Nat.le_trans h.2.2 this.2.2⟩
    · exact ih hp _
theorem rT_in {l : List (Int × Int)} {p : Int × Int} (hp : p ∈ l) (h0 : 0 < p.2) : (rT l).1 = true ∧ (rT l).2.1 ≤ p.1.toNat ∧ (p.1 + p.2).toNat ≤ (rT l).2.2 := rStep_in hp h0 _
theorem mem_spots {p : Int × Int} {z : Int} : z ∈ spots p ↔ 0 < p.2 ∧ p.1 ≤ z ∧ z < p.1 + p.2 := by
  unfold spots
  rw [List.mem_map]
  constructor
  · rintro ⟨j, hj, rfl⟩
    have := List.mem_range.1 hj
    omega
  · rintro ⟨h1, h2, h3⟩
    exact ⟨(z - p.1).toNat, List.mem_range.2 (by omega), by omega⟩
theorem mem_places {l : List (Int × Int)} {z : Int} : z ∈ placesF l ↔ ∃ p ∈ l, 0 < p.2 ∧ p.1 ≤ z ∧ z < p.1 + p.2 := by
  unfold placesF
  rw [List.mem_flatMap]
  constructor
  · rintro ⟨p, hp, h⟩; exact ⟨p, hp, mem_spots.1 h⟩
  · rintro ⟨p, hp, h⟩; exact ⟨p, hp, mem_spots.2 h⟩
theorem meetsB_iff {p q : Int × Int} : meetsB p q = true ↔ 0 < p.2 ∧ 0 < q.2 ∧ p.1 < q.1 + q.2 ∧ q.1 < p.1 + p.2 := by
  unfold meetsB
  simp only [Bool.and_eq_true, decide_eq_true_eq, and_assoc]
theorem meetB_iff {a b : List (Int × Int)} : meetB a b = true ↔ ∃ p ∈ a, ∃ q ∈ b, meetsB p q = true := by
  unfold meetB
  rw [List.any_eq_true]
  constructor
  · rintro ⟨p, hp, h⟩
    obtain ⟨q, hq, h⟩ := List.any_eq_true.1 h
    exact ⟨p, hp, q, hq, h⟩
  · rintro ⟨p, hp, q, hq, h⟩
    exact ⟨p, hp, List.any_eq_true.2 ⟨q, hq, h⟩⟩
theorem meetB_symm (a b : List (Int × Int)) : meetB a b = meetB b a := by
  rw [Bool.eq_iff_iff, meetB_iff, meetB_iff]
  constructor
  · rintro ⟨p, hp, q, hq, h⟩; exact ⟨q, hq, p, hp, by rw [meetsB_symm]; exact h⟩
  · rintro ⟨p, hp, q, hq, h⟩; exact ⟨q, hq, p, hp, by rw [meetsB_symm]; exact h⟩
theorem meet_reach {a b : List (Int × Int)} (ha : ∀ q ∈ a, okSp q) (hb : ∀ q ∈ b, okSp q) (h : meetB a b = true) : (rT a).2.1 < (rT b).2.2 ∧ (rT b).2.1 < (rT a).2.2 := by
  obtain ⟨p, hp, q, hq, h⟩ := meetB_iff.1 h
  obtain ⟨h1, h2, h3, h4⟩ := meetsB_iff.1 h
  have r1 := rT_in hp h1
  have r2 := rT_in hq h2
  have o1 := ha p hp
  have o2 := hb q hq
  unfold okSp at o1 o2
  omega
theorem place_reach {a : List (Int × Int)} (ha : ∀ q ∈ a, okSp q) {z : Int} (h : z ∈ placesF a) : 0 ≤ z ∧ (rT a).2.1 ≤ z.toNat ∧ z.toNat < (rT a).2.2 := by
  obtain ⟨p, hp, h1, h2, h3⟩ := mem_places.1 h
  have r1 := rT_in hp h1
  have o1 := ha p hp
  unfold okSp at o1
  omega
theorem eq_yes (a : Nat) (ha : a ≤ 4611686018427387904 / 1024) : FloatKind.f64.format.order (floatOfInt .f64 (a : Int)) (floatOfInt .f64 (a : Int)) = some .eq := by
  rw [order_nat a a (by omega) (by omega), Nat.compare_eq_eq.2 rfl]

set_option maxRecDepth 100000 in
set_option maxHeartbeats 4000000 in
theorem refReach_any (l : List (Int × Int)) (A : Option Addr) (n c : Nat) (w : World) (h1 : ∀ q ∈ l, okSp q) (hl : SpanR w A n c l) :
    Calls Try.prog 19 #[.slice A n c] w fun e w' => e = .returned (.tuple #[.int .i64 ((rT l).2.1 : Int), .int .i64 ((rT l).2.2 : Int), .bool (rT l).1]) ∧ Grows w w' := by
  have HS := lib_hid hl
  have h1' := lib_hid h1
  have hll := lib_hid hl.len
  have hcap := hl.max
  unfold maxLen at hcap
  have hnc := hl.cap
  clear hl h1
  go_enter Try.func19, Try.ntmps19
  go_wp2
  go_loopw [5, 6, 7, 8] (fun av bv tv i wr => ∃ (k a b : Nat) (t : Bool), k ≤ n ∧ i = .int .i64 k ∧ tv = .bool t ∧ av = .int .i64 (a : Int) ∧ bv = .int .i64 (b : Int) ∧ (a : Int) ≤ 4294967296 ∧ (b : Int) ≤ 4294967296 ∧ Hid (rT (l.take k) = (t, a, b)) ∧ Grows w wr) (fun _ _ _ i _ => n - (intOf i).toNat)
  case atStart => exact ⟨0, 0, 0, false, Nat.zero_le _, rfl, rfl, rfl, rfl, by omega, by omega, lib_hid rfl, Grows.refl w⟩
  case round =>
    obtain ⟨k, a, b, t, hk, rfl, rfl, rfl, rfl, hab, hbb, HK, hgr⟩ := hrel
    by_cases hlt : k < n
    · have hki : (k : Int) < n := by omega
      obtain ⟨b0, off, x, y, rfl, hb, hxy, hc1, hc2⟩ := HS.out.at hlt
      have hok := h1'.out _ (List.mem_of_getElem? hxy)
      unfold okSp at hok
      simp only at hok
      have HK2 := rT_succ hxy
      have Hlt := lib_hid hlt
      rw [HK.out] at HK2
      have HC : Hid (∀ W, Grows wr W → W.cell? ⟨b0, off + k * 2, none⟩ = some (.int .i64 x) ∧ W.cell? ⟨b0, off + k * 2 + 1, none⟩ = some (.int .i64 y)) := fun W hW =>
        ⟨((hgr.trans hW).cell (p := ⟨b0, off + k * 2, none⟩) hb).trans hc1, ((hgr.trans hW).cell (p := ⟨b0, off + k * 2 + 1, none⟩) hb).trans hc2⟩
      obtain ⟨q1, q2⟩ := HC.out wr (Grows.refl _)
      have Hok := lib_hid hok
      clear hc1 hc2 hb hxy hok
      by_cases h0 : y ≤ 0
      · unfold rStep at HK2
        rw [if_pos h0] at HK2
        have HK3 := lib_hid HK2
        clear HK2 HK
        go_wp2
        go_roundw
        case rel => exact ⟨k + 1, a, b, t, by omega, by go_num, rfl, rfl, rfl, hab, hbb, HK3, hgr⟩
        case measure => simp [intOf]; omega
      · obtain ⟨x', hx', Hx⟩ : ∃ x' : Nat, x = (x' : Int) ∧ Hid (x.toNat = x') := ⟨x.toNat, by have := Hok.out; omega, lib_hid rfl⟩
        obtain ⟨s, Hs, Hs2, hs⟩ : ∃ s : Nat, Hid (x + y = (s : Int)) ∧ Hid ((x + y).toNat = s) ∧ (s : Int) ≤ 4294967296 := ⟨(x + y).toNat, by have := Hok.out; unfold Hid; omega, lib_hid rfl, by have := Hok.out; omega⟩
        unfold rStep at HK2
        rw [if_neg h0] at HK2
        simp only [Hx.out, Hs2.out] at HK2
        have hyy : 0 ≤ y ∧ y ≤ 400 := by have := Hok.out; omega
        obtain ⟨hy0, hy1⟩ := hyy
        subst hx'
        have hxx : (x' : Int) ≤ 4294967296 := by have := Hok.out; omega
        have hsum := Hs.out
        have Hw : Hid (IntKind.i64.wrap (s : Int) = (s : Int)) := by unfold Hid; rw [IntKind.wrap_i64]; omega
        clear hy0 hy1
        cases t
        · simp only [Bool.false_eq_true, if_false] at HK2
          have HK3 := lib_hid HK2
          clear HK2 HK
          go_upto_region 8 with fail
          clear h0 hki q1 q2 hlt hsum
          have hsum := Hs.out
          apply wp_region_mono 17 ((.is _, []) :: (.is _, []) :: (.is _, []) :: (.is undef, []) :: (.is undef, []) :: (.is undef, []) :: (.is undef, []) :: (.is undef, []) :: (.is undef, []) :: (.is undef, []) :: (.is undef, []) :: (.is undef, []) :: (.is undef, []) :: (.is undef, []) :: (.is undef, []) :: (.is undef, []) :: (.is _, []) :: []) (by kernel_rfl) (by kernel_rfl)
          iterate 3
            apply Mono.is0
            · kernel_rfl
            · intro W hW
              go_wp2
              refine ⟨rfl, rfl, Grows.refl _, ?_⟩
              unfold Oper.valAt
              go_simp
              rfl
            intro k1 a1 hk1 ha1
            simp only [Nat.reduceAdd] at hk1
            simp only [Act.put, List.setIfInBounds_toArray, List.set_cons_succ, List.set_cons_zero] at ha1
            subst hk1 ha1
          apply Mono.no
          · kernel_rfl
          intro k1 a1 hk1 ha1
          simp only [Nat.reduceAdd] at hk1
          simp only [Act.put, List.setIfInBounds_toArray, List.set_cons_succ, List.set_cons_zero] at ha1
          subst hk1 ha1
          apply Mono.no
          · kernel_rfl
          intro k1 a1 hk1 ha1
          simp only [Nat.reduceAdd] at hk1
          simp only [Act.put, List.setIfInBounds_toArray, List.set_cons_succ, List.set_cons_zero] at ha1
          subst hk1 ha1
          apply Mono.no
          · kernel_rfl
          intro k1 a1 hk1 ha1
          simp only [Nat.reduceAdd] at hk1
          simp only [Act.put, List.setIfInBounds_toArray, List.set_cons_succ, List.set_cons_zero] at ha1
          subst hk1 ha1
          apply Mono.no
          · kernel_rfl
          intro k1 a1 hk1 ha1
          simp only [Nat.reduceAdd] at hk1
          simp only [Act.put, List.setIfInBounds_toArray, List.set_cons_succ, List.set_cons_zero] at ha1
          subst hk1 ha1
          apply Mono.no
          · kernel_rfl
          intro k1 a1 hk1 ha1
          simp only [Nat.reduceAdd] at hk1
          simp only [Act.put, List.setIfInBounds_toArray, List.set_cons_succ, List.set_cons_zero] at ha1
          subst hk1 ha1
          apply Mono.no
          · kernel_rfl
          intro k1 a1 hk1 ha1
          simp only [Nat.reduceAdd] at hk1
          simp only [Act.put, List.setIfInBounds_toArray, List.set_cons_succ, List.set_cons_zero] at ha1
          subst hk1 ha1
          apply Mono.no
          · kernel_rfl
          intro k1 a1 hk1 ha1
          simp only [Nat.reduceAdd] at hk1
          simp only [Act.put, List.setIfInBounds_toArray, List.set_cons_succ, List.set_cons_zero] at ha1
          subst hk1 ha1
          apply Mono.no
          · kernel_rfl
          intro k1 a1 hk1 ha1
          simp only [Nat.reduceAdd] at hk1
          simp only [Act.put, List.setIfInBounds_toArray, List.set_cons_succ, List.set_cons_zero] at ha1
          subst hk1 ha1
          apply Mono.no
          · kernel_rfl
          intro k1 a1 hk1 ha1
          simp only [Nat.reduceAdd] at hk1
          simp only [Act.put, List.setIfInBounds_toArray, List.set_cons_succ, List.set_cons_zero] at ha1
          subst hk1 ha1
          apply Mono.no
          · kernel_rfl
          intro k1 a1 hk1 ha1
          simp only [Nat.reduceAdd] at hk1
          simp only [Act.put, List.setIfInBounds_toArray, List.set_cons_succ, List.set_cons_zero] at ha1
          subst hk1 ha1
          apply Mono.no
          · kernel_rfl
          intro k1 a1 hk1 ha1
          simp only [Nat.reduceAdd] at hk1
          simp only [Act.put, List.setIfInBounds_toArray, List.set_cons_succ, List.set_cons_zero] at ha1
          subst hk1 ha1
          apply Mono.no
          · kernel_rfl
          intro k1 a1 hk1 ha1
          simp only [Nat.reduceAdd] at hk1
          simp only [Act.put, List.setIfInBounds_toArray, List.set_cons_succ, List.set_cons_zero] at ha1
          subst hk1 ha1
          apply Mono.no
          · kernel_rfl
          intro k1 a1 hk1 ha1
          simp only [Nat.reduceAdd] at hk1
          simp only [Act.put, List.setIfInBounds_toArray, List.set_cons_succ, List.set_cons_zero] at ha1
          subst hk1 ha1
          apply Mono.is0
          · kernel_rfl
          · intro W hW
            go_wp2
            refine ⟨rfl, rfl, Grows.refl _, ?_⟩
            unfold Oper.valAt
            go_simp
            rfl
          intro k1 a1 hk1 ha1
          simp only [Nat.reduceAdd] at hk1
          simp only [Act.put, List.setIfInBounds_toArray, List.set_cons_succ, List.set_cons_zero] at ha1
          subst hk1 ha1
          refine Mono.done ?_
          intro wm hgm
          simp only [allF, List.drop_succ_cons, List.drop_nil]
          have hgr8 := hgr.trans hgm
          obtain ⟨q1, q2⟩ := HC.out wm hgm
          have HC9 : Hid (∀ W, Grows wm W → W.cell? ⟨b0, off + k * 2, none⟩ = some (.int .i64 (x' : Int)) ∧ W.cell? ⟨b0, off + k * 2 + 1, none⟩ = some (.int .i64 y)) := fun W hW => HC.out W (hgm.trans hW)
          clear HC hgm hgr
          have HC := HC9
          go_upto_region 9 with fail
          clear q1 q2 HC9
          apply wp_region_mono 12 ((.is _, []) :: (.is _, []) :: (.is _, []) :: (.is _, []) :: (.is _, []) :: (.is _, []) :: (.is _, []) :: (.is _, []) :: (.is _, []) :: (.is _, []) :: (.is _, []) :: (.is _, []) :: []) (by kernel_rfl) (by kernel_rfl)
          iterate 4
            apply Mono.is0
            · kernel_rfl
            · intro W hW
              go_wp2
              refine ⟨rfl, rfl, Grows.refl _, ?_⟩
              unfold Oper.valAt
              go_simp
              rfl
            intro k1 a1 hk1 ha1
            simp only [Nat.reduceAdd] at hk1
            simp only [Act.put, List.setIfInBounds_toArray, List.set_cons_succ, List.set_cons_zero] at ha1
            subst hk1 ha1
          apply Mono.is0
          · kernel_rfl
          · intro W hW
            obtain ⟨q1, q2⟩ := HC.out W hW
            go_wp2
            refine ⟨rfl, rfl, Grows.refl _, ?_⟩
            unfold Oper.valAt
            go_simp
            rfl
          intro k1 a1 hk1 ha1
          simp only [Nat.reduceAdd] at hk1
          simp only [Act.put, List.setIfInBounds_toArray, List.set_cons_succ, List.set_cons_zero] at ha1
          subst hk1 ha1
          iterate 4
            apply Mono.is0
            · kernel_rfl
            · intro W hW
              go_wp2
              refine ⟨rfl, rfl, Grows.refl _, ?_⟩
              unfold Oper.valAt
              go_simp
              rfl
            intro k1 a1 hk1 ha1
            simp only [Nat.reduceAdd] at hk1
            simp only [Act.put, List.setIfInBounds_toArray, List.set_cons_succ, List.set_cons_zero] at ha1
            subst hk1 ha1
          apply Mono.is0
          · kernel_rfl
          · intro W hW
            obtain ⟨q1, q2⟩ := HC.out W hW
            go_wp2
            refine ⟨rfl, rfl, Grows.refl _, ?_⟩
            unfold Oper.valAt
            go_simp
            rfl
          intro k1 a1 hk1 ha1
          simp only [Nat.reduceAdd] at hk1
          simp only [Act.put, List.setIfInBounds_toArray, List.set_cons_succ, List.set_cons_zero] at ha1
          subst hk1 ha1
          iterate 2
            apply Mono.is0
            · kernel_rfl
            · intro W hW
              go_wp2
              refine ⟨rfl, rfl, Grows.refl _, ?_⟩
              unfold Oper.valAt
              go_simp
              rfl
            intro k1 a1 hk1 ha1
            simp only [Nat.reduceAdd] at hk1
            simp only [Act.put, List.setIfInBounds_toArray, List.set_cons_succ, List.set_cons_zero] at ha1
            subst hk1 ha1
          refine Mono.done ?_
          intro wm hgm
          simp only [allF, List.drop_succ_cons, List.drop_nil]
          have hgr9 := hgr8.trans hgm
          have hlt' : k < n := by have := Hlt.out; omega
          go_wp2
          go_roundw
          case rel => exact ⟨k + 1, x', s, true, by omega, by go_num, rfl, rfl, rfl, hxx, hs, HK3, hgr9⟩
          case measure => simp [intOf]; omega
        · simp only [if_true] at HK2
          clear HK
          by_cases hl : x' < a
          · have hl2 : (x' : Int) < (a : Int) := by omega
            have Hm1 : Hid (min x' a = x') := by unfold Hid; omega
            clear hl
            by_cases hh : b < s
            · have Hb : Hid (decide ((b : Int) < (s : Int)) = true) := by unfold Hid; exact decide_eq_true (by omega)
              have Hm2 : Hid (max s b = s) := by unfold Hid; omega
              have Hb3 : Hid (decide (b < s) = true) := by unfold Hid; exact decide_eq_true (by omega)
              have HK3 : Hid (rT (l.take (k + 1)) = (true, x', s)) := by unfold Hid; rw [HK2, Hm1.out, Hm2.out]
              clear hh HK2
              go_upto_region 8 with fail
              clear h0 hki q1 q2 hlt hsum hl2
              have hsum := Hs.out
              apply wp_region_mono 17 ((.is _, []) :: (.is _, []) :: (.is _, []) :: (.is _, []) :: (.is _, []) :: (.is _, []) :: (.is _, []) :: (.is _, []) :: (.is _, []) :: (.is _, []) :: (.is _, []) :: (.is _, []) :: (.is _, []) :: (.is _, []) :: (.is _, []) :: (.is _, []) :: (.is _, []) :: []) (by kernel_rfl) (by kernel_rfl)
              iterate 7
                apply Mono.is0
                · kernel_rfl
                · intro W hW
                  go_wp2
                  refine ⟨rfl, rfl, Grows.refl _, ?_⟩
                  unfold Oper.valAt
                  go_simp
                  rfl
                intro k1 a1 hk1 ha1
                simp only [Nat.reduceAdd] at hk1
                simp only [Act.put, List.setIfInBounds_toArray, List.set_cons_succ, List.set_cons_zero] at ha1
                subst hk1 ha1
              apply Mono.is0
              · kernel_rfl
              · intro W hW
                obtain ⟨q1, q2⟩ := HC.out W hW
                go_wp2
                refine ⟨rfl, rfl, Grows.refl _, ?_⟩
                unfold Oper.valAt
                go_simp
                rfl
              intro k1 a1 hk1 ha1
              simp only [Nat.reduceAdd] at hk1
              simp only [Act.put, List.setIfInBounds_toArray, List.set_cons_succ, List.set_cons_zero] at ha1
              subst hk1 ha1
              iterate 4
                apply Mono.is0
                · kernel_rfl
                · intro W hW
                  go_wp2
                  refine ⟨rfl, rfl, Grows.refl _, ?_⟩
                  unfold Oper.valAt
                  go_simp
                  rfl
                intro k1 a1 hk1 ha1
                simp only [Nat.reduceAdd] at hk1
                simp only [Act.put, List.setIfInBounds_toArray, List.set_cons_succ, List.set_cons_zero] at ha1
                subst hk1 ha1
              apply Mono.is0
              · kernel_rfl
              · intro W hW
                obtain ⟨q1, q2⟩ := HC.out W hW
                go_wp2
                refine ⟨rfl, rfl, Grows.refl _, ?_⟩
                unfold Oper.valAt
                go_simp
                rfl
              intro k1 a1 hk1 ha1
              simp only [Nat.reduceAdd] at hk1
              simp only [Act.put, List.setIfInBounds_toArray, List.set_cons_succ, List.set_cons_zero] at ha1
              subst hk1 ha1
              iterate 2
                apply Mono.is0
                · kernel_rfl
                · intro W hW
                  go_wp2
                  refine ⟨rfl, rfl, Grows.refl _, ?_⟩
                  unfold Oper.valAt
                  go_simp
                  rfl
                intro k1 a1 hk1 ha1
                simp only [Nat.reduceAdd] at hk1
                simp only [Act.put, List.setIfInBounds_toArray, List.set_cons_succ, List.set_cons_zero] at ha1
                subst hk1 ha1
              apply Mono.is0
              · kernel_rfl
              · intro W hW
                have hbb2 := Hb.out
                have hbb3 := Hb3.out
                go_wp2
                refine ⟨rfl, rfl, Grows.refl _, ?_⟩
                unfold Oper.valAt
                go_simp
                rfl
              intro k1 a1 hk1 ha1
              simp only [Nat.reduceAdd] at hk1
              simp only [Act.put, List.setIfInBounds_toArray, List.set_cons_succ, List.set_cons_zero] at ha1
              subst hk1 ha1
              apply Mono.is0
              · kernel_rfl
              · intro W hW
                go_wp2
                refine ⟨rfl, rfl, Grows.refl _, ?_⟩
                unfold Oper.valAt
                go_simp
                rfl
              intro k1 a1 hk1 ha1
              simp only [Nat.reduceAdd] at hk1
              simp only [Act.put, List.setIfInBounds_toArray, List.set_cons_succ, List.set_cons_zero] at ha1
              subst hk1 ha1
              refine Mono.done ?_
              intro wm hgm
              simp only [allF, List.drop_succ_cons, List.drop_nil]
              have hgr8 := hgr.trans hgm
              obtain ⟨q1, q2⟩ := HC.out wm hgm
              have HC9 : Hid (∀ W, Grows wm W → W.cell? ⟨b0, off + k * 2, none⟩ = some (.int .i64 (x' : Int)) ∧ W.cell? ⟨b0, off + k * 2 + 1, none⟩ = some (.int .i64 y)) := fun W hW => HC.out W (hgm.trans hW)
              clear HC hgm hgr
              have hbb2 := Hb.out
              have hbb3 := Hb3.out
              have HC := HC9
              go_upto_region 9 with fail
              clear q1 q2 HC9 hbb2 hbb3
              apply wp_region_mono 12 ((.is _, []) :: (.is _, []) :: (.is _, []) :: (.is _, []) :: (.is _, []) :: (.is _, []) :: (.is _, []) :: (.is _, []) :: (.is _, []) :: (.is _, []) :: (.is _, []) :: (.is _, []) :: []) (by kernel_rfl) (by kernel_rfl)
              iterate 4
                apply Mono.is0
                · kernel_rfl
                · intro W hW
                  go_wp2
                  refine ⟨rfl, rfl, Grows.refl _, ?_⟩
                  unfold Oper.valAt
                  go_simp
                  rfl
                intro k1 a1 hk1 ha1
                simp only [Nat.reduceAdd] at hk1
                simp only [Act.put, List.setIfInBounds_toArray, List.set_cons_succ, List.set_cons_zero] at ha1
                subst hk1 ha1
              apply Mono.is0
              · kernel_rfl
              · intro W hW
                obtain ⟨q1, q2⟩ := HC.out W hW
                go_wp2
                refine ⟨rfl, rfl, Grows.refl _, ?_⟩
                unfold Oper.valAt
                go_simp
                rfl
              intro k1 a1 hk1 ha1
              simp only [Nat.reduceAdd] at hk1
              simp only [Act.put, List.setIfInBounds_toArray, List.set_cons_succ, List.set_cons_zero] at ha1
              subst hk1 ha1
              iterate 4
                apply Mono.is0
                · kernel_rfl
                · intro W hW
                  go_wp2
                  refine ⟨rfl, rfl, Grows.refl _, ?_⟩
                  unfold Oper.valAt
                  go_simp
                  rfl
                intro k1 a1 hk1 ha1
                simp only [Nat.reduceAdd] at hk1
                simp only [Act.put, List.setIfInBounds_toArray, List.set_cons_succ, List.set_cons_zero] at ha1
                subst hk1 ha1
              apply Mono.is0
              · kernel_rfl
              · intro W hW
                obtain ⟨q1, q2⟩ := HC.out W hW
                go_wp2
                refine ⟨rfl, rfl, Grows.refl _, ?_⟩
                unfold Oper.valAt
                go_simp
                rfl
              intro k1 a1 hk1 ha1
              simp only [Nat.reduceAdd] at hk1
              simp only [Act.put, List.setIfInBounds_toArray, List.set_cons_succ, List.set_cons_zero] at ha1
              subst hk1 ha1
              iterate 2
                apply Mono.is0
                · kernel_rfl
                · intro W hW
                  go_wp2
                  refine ⟨rfl, rfl, Grows.refl _, ?_⟩
                  unfold Oper.valAt
                  go_simp
                  rfl
                intro k1 a1 hk1 ha1
                simp only [Nat.reduceAdd] at hk1
                simp only [Act.put, List.setIfInBounds_toArray, List.set_cons_succ, List.set_cons_zero] at ha1
                subst hk1 ha1
              refine Mono.done ?_
              intro wm hgm
              simp only [allF, List.drop_succ_cons, List.drop_nil]
              have hgr9 := hgr8.trans hgm
              have hlt' : k < n := by have := Hlt.out; omega
              go_wp2
              go_roundw
              case rel => exact ⟨k + 1, x', s, true, by omega, by go_num, rfl, rfl, rfl, hxx, hs, HK3, hgr9⟩
              case measure => simp [intOf]; omega
            · have Hb : Hid (decide ((b : Int) < (s : Int)) = false) := by unfold Hid; exact decide_eq_false (by omega)
              have Hm2 : Hid (max s b = b) := by unfold Hid; omega
              have Hb3 : Hid (decide (b < s) = false) := by unfold Hid; exact decide_eq_false (by omega)
              have HK3 : Hid (rT (l.take (k + 1)) = (true, x', b)) := by unfold Hid; rw [HK2, Hm1.out, Hm2.out]
              clear hh HK2
              go_upto_region 8 with fail
              clear h0 hki q1 q2 hlt hsum hl2
              have hsum := Hs.out
              apply wp_region_mono 17 ((.is _, []) :: (.is _, []) :: (.is _, []) :: (.is _, []) :: (.is _, []) :: (.is _, []) :: (.is _, []) :: (.is _, []) :: (.is _, []) :: (.is _, []) :: (.is _, []) :: (.is _, []) :: (.is _, []) :: (.is _, []) :: (.is _, []) :: (.is _, []) :: (.is _, []) :: []) (by kernel_rfl) (by kernel_rfl)
              iterate 7
                apply Mono.is0
                · kernel_rfl
                · intro W hW
                  go_wp2
                  refine ⟨rfl, rfl, Grows.refl _, ?_⟩
                  unfold Oper.valAt
                  go_simp
                  rfl
                intro k1 a1 hk1 ha1
                simp only [Nat.reduceAdd] at hk1
                simp only [Act.put, List.setIfInBounds_toArray, List.set_cons_succ, List.set_cons_zero] at ha1
                subst hk1 ha1
              apply Mono.is0
              · kernel_rfl
              · intro W hW
                obtain ⟨q1, q2⟩ := HC.out W hW
                go_wp2
                refine ⟨rfl, rfl, Grows.refl _, ?_⟩
                unfold Oper.valAt
                go_simp
                rfl
              intro k1 a1 hk1 ha1
              simp only [Nat.reduceAdd] at hk1
              simp only [Act.put, List.setIfInBounds_toArray, List.set_cons_succ, List.set_cons_zero] at ha1
              subst hk1 ha1
              iterate 4
                apply Mono.is0
                · kernel_rfl
                · intro W hW
                  go_wp2
                  refine ⟨rfl, rfl, Grows.refl _, ?_⟩
                  unfold Oper.valAt
                  go_simp
                  rfl
                intro k1 a1 hk1 ha1
                simp only [Nat.reduceAdd] at hk1
                simp only [Act.put, List.setIfInBounds_toArray, List.set_cons_succ, List.set_cons_zero] at ha1
                subst hk1 ha1
              apply Mono.is0
              · kernel_rfl
              · intro W hW
                obtain ⟨q1, q2⟩ := HC.out W hW
                go_wp2
                refine ⟨rfl, rfl, Grows.refl _, ?_⟩
                unfold Oper.valAt
                go_simp
                rfl
              intro k1 a1 hk1 ha1
              simp only [Nat.reduceAdd] at hk1
              simp only [Act.put, List.setIfInBounds_toArray, List.set_cons_succ, List.set_cons_zero] at ha1
              subst hk1 ha1
              iterate 2
                apply Mono.is0
                · kernel_rfl
                · intro W hW
                  go_wp2
                  refine ⟨rfl, rfl, Grows.refl _, ?_⟩
                  unfold Oper.valAt
                  go_simp
                  rfl
                intro k1 a1 hk1 ha1
                simp only [Nat.reduceAdd] at hk1
                simp only [Act.put, List.setIfInBounds_toArray, List.set_cons_succ, List.set_cons_zero] at ha1
                subst hk1 ha1
              apply Mono.is0
              · kernel_rfl
              · intro W hW
                have hbb2 := Hb.out
                have hbb3 := Hb3.out
                go_wp2
                refine ⟨rfl, rfl, Grows.refl _, ?_⟩
                unfold Oper.valAt
                go_simp
                rfl
              intro k1 a1 hk1 ha1
              simp only [Nat.reduceAdd] at hk1
              simp only [Act.put, List.setIfInBounds_toArray, List.set_cons_succ, List.set_cons_zero] at ha1
              subst hk1 ha1
              apply Mono.is0
              · kernel_rfl
              · intro W hW
                go_wp2
                refine ⟨rfl, rfl, Grows.refl _, ?_⟩
                unfold Oper.valAt
                go_simp
                rfl
              intro k1 a1 hk1 ha1
              simp only [Nat.reduceAdd] at hk1
              simp only [Act.put, List.setIfInBounds_toArray, List.set_cons_succ, List.set_cons_zero] at ha1
              subst hk1 ha1
              refine Mono.done ?_
              intro wm hgm
              simp only [allF, List.drop_succ_cons, List.drop_nil]
              have hgr8 := hgr.trans hgm
              obtain ⟨q1, q2⟩ := HC.out wm hgm
              have HC9 : Hid (∀ W, Grows wm W → W.cell? ⟨b0, off + k * 2, none⟩ = some (.int .i64 (x' : Int)) ∧ W.cell? ⟨b0, off + k * 2 + 1, none⟩ = some (.int .i64 y)) := fun W hW => HC.out W (hgm.trans hW)
              clear HC hgm hgr
              have hbb2 := Hb.out
              have hbb3 := Hb3.out
              have hgr9 := hgr8
              have hlt' : k < n := by have := Hlt.out; omega
              go_wp2
              go_roundw
              case rel => exact ⟨k + 1, x', b, true, by omega, by go_num, rfl, rfl, rfl, hxx, hbb, HK3, hgr9⟩
              case measure => simp [intOf]; omega
          · have hl2 : ¬ (x' : Int) < (a : Int) := by omega
            have Hm1 : Hid (min x' a = a) := by unfold Hid; omega
            clear hl
            by_cases hh : b < s
            · have Hb : Hid (decide ((b : Int) < (s : Int)) = true) := by unfold Hid; exact decide_eq_true (by omega)
              have Hm2 : Hid (max s b = s) := by unfold Hid; omega
              have Hb3 : Hid (decide (b < s) = true) := by unfold Hid; exact decide_eq_true (by omega)
              have HK3 : Hid (rT (l.take (k + 1)) = (true, a, s)) := by unfold Hid; rw [HK2, Hm1.out, Hm2.out]
              clear hh HK2
              go_upto_region 8 with fail
              clear h0 hki q1 q2 hlt hsum hl2
              have hsum := Hs.out
              apply wp_region_mono 17 ((.is _, []) :: (.is _, []) :: (.is _, []) :: (.is _, []) :: (.is _, []) :: (.is _, []) :: (.is _, []) :: (.is _, []) :: (.is _, []) :: (.is _, []) :: (.is _, []) :: (.is _, []) :: (.is _, []) :: (.is _, []) :: (.is _, []) :: (.is _, []) :: (.is _, []) :: []) (by kernel_rfl) (by kernel_rfl)
              iterate 7
                apply Mono.is0
                · kernel_rfl
                · intro W hW
                  go_wp2
                  refine ⟨rfl, rfl, Grows.refl _, ?_⟩
                  unfold Oper.valAt
                  go_simp
                  rfl
                intro k1 a1 hk1 ha1
                simp only [Nat.reduceAdd] at hk1
                simp only [Act.put, List.setIfInBounds_toArray, List.set_cons_succ, List.set_cons_zero] at ha1
                subst hk1 ha1
              apply Mono.is0
              · kernel_rfl
              · intro W hW
                obtain ⟨q1, q2⟩ := HC.out W hW
                go_wp2
                refine ⟨rfl, rfl, Grows.refl _, ?_⟩
                unfold Oper.valAt
                go_simp
                rfl
              intro k1 a1 hk1 ha1
              simp only [Nat.reduceAdd] at hk1
              simp only [Act.put, List.setIfInBounds_toArray, List.set_cons_succ, List.set_cons_zero] at ha1
              subst hk1 ha1
              iterate 4
                apply Mono.is0
                · kernel_rfl
                · intro W hW
                  go_wp2
                  refine ⟨rfl, rfl, Grows.refl _, ?_⟩
                  unfold Oper.valAt
                  go_simp
                  rfl
                intro k1 a1 hk1 ha1
                simp only [Nat.reduceAdd] at hk1
                simp only [Act.put, List.setIfInBounds_toArray, List.set_cons_succ, List.set_cons_zero] at ha1
                subst hk1 ha1
              apply Mono.is0
              · kernel_rfl
              · intro W hW
                obtain ⟨q1, q2⟩ := HC.out W hW
                go_wp2
                refine ⟨rfl, rfl, Grows.refl _, ?_⟩
                unfold Oper.valAt
                go_simp
                rfl
              intro k1 a1 hk1 ha1
              simp only [Nat.reduceAdd] at hk1
              simp only [Act.put, List.setIfInBounds_toArray, List.set_cons_succ, List.set_cons_zero] at ha1
              subst hk1 ha1
              iterate 2
                apply Mono.is0
                · kernel_rfl
                · intro W hW
                  go_wp2
                  refine ⟨rfl, rfl, Grows.refl _, ?_⟩
                  unfold Oper.valAt
                  go_simp
                  rfl
                intro k1 a1 hk1 ha1
                simp only [Nat.reduceAdd] at hk1
                simp only [Act.put, List.setIfInBounds_toArray, List.set_cons_succ, List.set_cons_zero] at ha1
                subst hk1 ha1
              apply Mono.is0
              · kernel_rfl
              · intro W hW
                have hbb2 := Hb.out
                have hbb3 := Hb3.out
                go_wp2
                refine ⟨rfl, rfl, Grows.refl _, ?_⟩
                unfold Oper.valAt
                go_simp
                rfl
              intro k1 a1 hk1 ha1
              simp only [Nat.reduceAdd] at hk1
              simp only [Act.put, List.setIfInBounds_toArray, List.set_cons_succ, List.set_cons_zero] at ha1
              subst hk1 ha1
              apply Mono.is0
              · kernel_rfl
              · intro W hW
                go_wp2
                refine ⟨rfl, rfl, Grows.refl _, ?_⟩
                unfold Oper.valAt
                go_simp
                rfl
              intro k1 a1 hk1 ha1
              simp only [Nat.reduceAdd] at hk1
              simp only [Act.put, List.setIfInBounds_toArray, List.set_cons_succ, List.set_cons_zero] at ha1
              subst hk1 ha1
              refine Mono.done ?_
              intro wm hgm
              simp only [allF, List.drop_succ_cons, List.drop_nil]
              have hgr8 := hgr.trans hgm
              obtain ⟨q1, q2⟩ := HC.out wm hgm
              have HC9 : Hid (∀ W, Grows wm W → W.cell? ⟨b0, off + k * 2, none⟩ = some (.int .i64 (x' : Int)) ∧ W.cell? ⟨b0, off + k * 2 + 1, none⟩ = some (.int .i64 y)) := fun W hW => HC.out W (hgm.trans hW)
              clear HC hgm hgr
              have hbb2 := Hb.out
              have hbb3 := Hb3.out
              have HC := HC9
              go_upto_region 9 with fail
              clear q1 q2 HC9 hbb2 hbb3
              apply wp_region_mono 12 ((.is _, []) :: (.is _, []) :: (.is _, []) :: (.is _, []) :: (.is _, []) :: (.is _, []) :: (.is _, []) :: (.is _, []) :: (.is _, []) :: (.is _, []) :: (.is _, []) :: (.is _, []) :: []) (by kernel_rfl) (by kernel_rfl)
              iterate 4
                apply Mono.is0
                · kernel_rfl
                · intro W hW
                  go_wp2
                  refine ⟨rfl, rfl, Grows.refl _, ?_⟩
                  unfold Oper.valAt
                  go_simp
                  rfl
                intro k1 a1 hk1 ha1
                simp only [Nat.reduceAdd] at hk1
                simp only [Act.put, List.setIfInBounds_toArray, List.set_cons_succ, List.set_cons_zero] at ha1
                subst hk1 ha1
              apply Mono.is0
              · kernel_rfl
              · intro W hW
                obtain ⟨q1, q2⟩ := HC.out W hW
                go_wp2
                refine ⟨rfl, rfl, Grows.refl _, ?_⟩
                unfold Oper.valAt
                go_simp
                rfl
              intro k1 a1 hk1 ha1
              simp only [Nat.reduceAdd] at hk1
              simp only [Act.put, List.setIfInBounds_toArray, List.set_cons_succ, List.set_cons_zero] at ha1
              subst hk1 ha1
              iterate 4
                apply Mono.is0
                · kernel_rfl
                · intro W hW
                  go_wp2
                  refine ⟨rfl, rfl, Grows.refl _, ?_⟩
                  unfold Oper.valAt
                  go_simp
                  rfl
                intro k1 a1 hk1 ha1
                simp only [Nat.reduceAdd] at hk1
                simp only [Act.put, List.setIfInBounds_toArray, List.set_cons_succ, List.set_cons_zero] at ha1
                subst hk1 ha1
              apply Mono.is0
              · kernel_rfl
              · intro W hW
                obtain ⟨q1, q2⟩ := HC.out W hW
                go_wp2
                refine ⟨rfl, rfl, Grows.refl _, ?_⟩
                unfold Oper.valAt
                go_simp
                rfl
              intro k1 a1 hk1 ha1
              simp only [Nat.reduceAdd] at hk1
              simp only [Act.put, List.setIfInBounds_toArray, List.set_cons_succ, List.set_cons_zero] at ha1
              subst hk1 ha1
              iterate 2
                apply Mono.is0
                · kernel_rfl
                · intro W hW
                  go_wp2
                  refine ⟨rfl, rfl, Grows.refl _, ?_⟩
                  unfold Oper.valAt
                  go_simp
                  rfl
                intro k1 a1 hk1 ha1
                simp only [Nat.reduceAdd] at hk1
                simp only [Act.put, List.setIfInBounds_toArray, List.set_cons_succ, List.set_cons_zero] at ha1
                subst hk1 ha1
              refine Mono.done ?_
              intro wm hgm
              simp only [allF, List.drop_succ_cons, List.drop_nil]
              have hgr9 := hgr8.trans hgm
              have hlt' : k < n := by have := Hlt.out; omega
              go_wp2
              go_roundw
              case rel => exact ⟨k + 1, a, s, true, by omega, by go_num, rfl, rfl, rfl, hab, hs, HK3, hgr9⟩
              case measure => simp [intOf]; omega
            · have Hb : Hid (decide ((b : Int) < (s : Int)) = false) := by unfold Hid; exact decide_eq_false (by omega)
              have Hm2 : Hid (max s b = b) := by unfold Hid; omega
              have Hb3 : Hid (decide (b < s) = false) := by unfold Hid; exact decide_eq_false (by omega)
              have HK3 : Hid (rT (l.take (k + 1)) = (true, a, b)) := by unfold Hid; rw [HK2, Hm1.out, Hm2.out]
              clear hh HK2
              go_upto_region 8 with fail
              clear h0 hki q1 q2 hlt hsum hl2
              have hsum := Hs.out
              apply wp_region_mono 17 ((.is _, []) :: (.is _, []) :: (.is _, []) :: (.is _, []) :: (.is _, []) :: (.is _, []) :: (.is _, []) :: (.is _, []) :: (.is _, []) :: (.is _, []) :: (.is _, []) :: (.is _, []) :: (.is _, []) :: (.is _, []) :: (.is _, []) :: (.is _, []) :: (.is _, []) :: []) (by kernel_rfl) (by kernel_rfl)
              iterate 7
                apply Mono.is0
                · kernel_rfl
                · intro W hW
                  go_wp2
                  refine ⟨rfl, rfl, Grows.refl _, ?_⟩
                  unfold Oper.valAt
                  go_simp
                  rfl
                intro k1 a1 hk1 ha1
                simp only [Nat.reduceAdd] at hk1
                simp only [Act.put, List.setIfInBounds_toArray, List.set_cons_succ, List.set_cons_zero] at ha1
                subst hk1 ha1
              apply Mono.is0
              · kernel_rfl
              · intro W hW
                obtain ⟨q1, q2⟩ := HC.out W hW
                go_wp2
                refine ⟨rfl, rfl, Grows.refl _, ?_⟩
                unfold Oper.valAt
                go_simp
                rfl
              intro k1 a1 hk1 ha1
              simp only [Nat.reduceAdd] at hk1
              simp only [Act.put, List.setIfInBounds_toArray, List.set_cons_succ, List.set_cons_zero] at ha1
              subst hk1 ha1
              iterate 4
                apply Mono.is0
                · kernel_rfl
                · intro W hW
                  go_wp2
                  refine ⟨rfl, rfl, Grows.refl _, ?_⟩
                  unfold Oper.valAt
                  go_simp
                  rfl
                intro k1 a1 hk1 ha1
                simp only [Nat.reduceAdd] at hk1
                simp only [Act.put, List.setIfInBounds_toArray, List.set_cons_succ, List.set_cons_zero] at ha1
                subst hk1 ha1
              apply Mono.is0
              · kernel_rfl
              · intro W hW
                obtain ⟨q1, q2⟩ := HC.out W hW
                go_wp2
                refine ⟨rfl, rfl, Grows.refl _, ?_⟩
                unfold Oper.valAt
                go_simp
                rfl
              intro k1 a1 hk1 ha1
              simp only [Nat.reduceAdd] at hk1
              simp only [Act.put, List.setIfInBounds_toArray, List.set_cons_succ, List.set_cons_zero] at ha1
              subst hk1 ha1
              iterate 2
                apply Mono.is0
                · kernel_rfl
                · intro W hW
                  go_wp2
                  refine ⟨rfl, rfl, Grows.refl _, ?_⟩
                  unfold Oper.valAt
                  go_simp
                  rfl
                intro k1 a1 hk1 ha1
                simp only [Nat.reduceAdd] at hk1
                simp only [Act.put, List.setIfInBounds_toArray, List.set_cons_succ, List.set_cons_zero] at ha1
                subst hk1 ha1
              apply Mono.is0
              · kernel_rfl
              · intro W hW
                have hbb2 := Hb.out
                have hbb3 := Hb3.out
                go_wp2
                refine ⟨rfl, rfl, Grows.refl _, ?_⟩
                unfold Oper.valAt
                go_simp
                rfl
              intro k1 a1 hk1 ha1
              simp only [Nat.reduceAdd] at hk1
              simp only [Act.put, List.setIfInBounds_toArray, List.set_cons_succ, List.set_cons_zero] at ha1
              subst hk1 ha1
              apply Mono.is0
              · kernel_rfl
              · intro W hW
                go_wp2
                refine ⟨rfl, rfl, Grows.refl _, ?_⟩
                unfold Oper.valAt
                go_simp
                rfl
              intro k1 a1 hk1 ha1
              simp only [Nat.reduceAdd] at hk1
              simp only [Act.put, List.setIfInBounds_toArray, List.set_cons_succ, List.set_cons_zero] at ha1
              subst hk1 ha1
              refine Mono.done ?_
              intro wm hgm
              simp only [allF, List.drop_succ_cons, List.drop_nil]
              have hgr8 := hgr.trans hgm
              obtain ⟨q1, q2⟩ := HC.out wm hgm
              have HC9 : Hid (∀ W, Grows wm W → W.cell? ⟨b0, off + k * 2, none⟩ = some (.int .i64 (x' : Int)) ∧ W.cell? ⟨b0, off + k * 2 + 1, none⟩ = some (.int .i64 y)) := fun W hW => HC.out W (hgm.trans hW)
              clear HC hgm hgr
              have hbb2 := Hb.out
              have hbb3 := Hb3.out
              have hgr9 := hgr8
              have hlt' : k < n := by have := Hlt.out; omega
              go_wp2
              go_roundw
              case rel => exact ⟨k + 1, a, b, true, by omega, by go_num, rfl, rfl, rfl, hab, hbb, HK3, hgr9⟩
              case measure => simp [intOf]; omega
    · have hki : ¬ (k : Int) < n := by omega
      have h := HK.out
      rw [show l.take k = l by rw [List.take_of_length_le]; rw [hll.out]; omega] at h
      have Hy := lib_hid h
      clear h HK
      go_wp2
      go_ret3
      exact ⟨by rw [Hy.out]; rfl, hgr⟩

end Go.Proofs.Ytbmmjkpibnnmeaa
