/-
  The walks of Reach; what the chapter's example of layer 15 says.
-/
import Derived.Test.YtbmmjkpibnnmeaaDesc4
import Derived.Deep.Cut
namespace Go.Proofs.Ytbmmjkpibnnmeaa
open Go Go.RowKit
set_option linter.unusedSimpArgs false


/-- How far a list reaches: has one bytes, the least place, the greatest end. -/
def rStep (st : Bool × Nat × Nat) (p : Int × Int) : Bool × Nat × Nat :=
  if p.2 ≤ 0 then st else if st.1 then (true, min p.1.toNat st.2.1, max (p.1 + p.2).toNat st.2.2) else (true, p.1.toNat, (p.1 + p.2).toNat)
def rT (l : List (Int × Int)) : Bool × Nat × Nat := l.foldl rStep (false, 0, 0)
theorem rT_succ {l : List (Int × Int)} {k : Nat} {p : Int × Int} (h : l[k]? = some p) : rT (l.take (k + 1)) = rStep (rT (l.take k)) p := by
  unfold rT
  rw [List.take_add_one, h, List.foldl_append]
  rfl
theorem cx00 : Value.complex .f64 0 0 = cx 0 0 := by
  show _ = Value.complex .f64 (floatOfInt .f64 ((0 : Nat) : Int)) (floatOfInt .f64 ((0 : Nat) : Int))
  rw [float_zero]
set_option maxRecDepth 100000 in
set_option maxHeartbeats 4000000 in
theorem reachL_any (l : List (Int × Int)) (A : Option Addr) (n c : Nat) (w : World) (h1 : ∀ q ∈ l, okSp q) (hl : SpanR w A n c l) :
    Calls Try.prog 17 #[.slice A n c] w fun e w' => e = .returned (cx (rT l).2.1 (rT l).2.2) ∧ Grows w w' := by
  have HS := lib_hid hl
  have h1' := lib_hid h1
  have hll := lib_hid hl.len
  have hcap := hl.max
  unfold maxLen at hcap
  have hnc := hl.cap
  clear hl h1
  go_enter Try.func17, Try.ntmps17
  go_wp2
  go_loopw [3, 4, 10] (fun ov mv i wr => ∃ (k a b : Nat) (t : Bool), k ≤ n ∧ i = .int .i64 k ∧ mv = .bool t ∧ ov = cx a b ∧ a ≤ 4294967296 ∧ b ≤ 4294967296 ∧ Hid (rT (l.take k) = (t, a, b)) ∧ Grows w wr) (fun _ _ i _ => n - (intOf i).toNat)
  case atStart => exact ⟨0, 0, 0, false, Nat.zero_le _, rfl, rfl, cx00, by omega, by omega, lib_hid rfl, Grows.refl w⟩
  case round =>
    obtain ⟨k, a, b, t, hk, rfl, rfl, rfl, hab, hbb, HK, hgr⟩ := hrel
    by_cases hlt : k < n
    · have hki : (k : Int) < n := by omega
      obtain ⟨b0, off, x, y, rfl, hb, hxy, hc1, hc2⟩ := HS.out.at hlt
      have hok := h1'.out _ (List.mem_of_getElem? hxy)
      unfold okSp at hok
      simp only at hok
      have HK2 := rT_succ hxy
      rw [HK.out] at HK2
      have e1 := (hgr.cell (p := ⟨b0, off + k * 2, none⟩) hb).trans hc1
      have e2 := (hgr.cell (p := ⟨b0, off + k * 2 + 1, none⟩) hb).trans hc2
      have hb' := hgr.lt hb
      clear hc1 hc2 hb hxy
      by_cases h0 : 0 < y
      · have hd : ¬ y ≤ 0 := by omega
        unfold rStep at HK2
        rw [if_neg (by simp only; omega)] at HK2
        obtain ⟨x', Hx, hx'⟩ : ∃ s, Hid (x.toNat = s) ∧ s ≤ 4294967296 := ⟨_, lib_hid rfl, by omega⟩
        obtain ⟨s, Hs, hs⟩ : ∃ s, Hid ((x + y).toNat = s) ∧ s ≤ 4294967296 := ⟨_, lib_hid rfl, by omega⟩
        simp only [Hx.out, Hs.out] at HK2
        have HR : Hid (∀ W, Calls Try.prog 37 #[.agg #[.int .i64 x, .int .i64 y]] W fun e w' => e = .returned (cx x' s) ∧ Grows W w') := fun W => by
          obtain ⟨p, rfl⟩ := Int.eq_ofNat_of_zero_le hok.1
          obtain ⟨q, rfl⟩ := Int.eq_ofNat_of_zero_le hok.2.2.1
          have := reach_any p q (by omega) (by omega) W
          rw [show p = x' by rw [← Hx.out]; omega, show x' + q = s by rw [← Hs.out, ← Hx.out]; omega] at this
          rw [show (p : Int) = (x' : Int) by rw [← Hx.out]; omega]
          exact this
        have Hg : Hid (Grows w (wr.alloc (.cells #[.int .i64 x, .int .i64 y] 28))) := hgr.alloc _
        clear h0 hok hgr
        go_wp2_with fail
        refine (HR.out _).mono ?_
        rintro e w1 ⟨rfl, hg1⟩
        have hg2 := Hg.out.trans hg1
        clear e1 e2 hd Hg hg1
        cases t
        · simp only [Bool.false_eq_true, if_false] at HK2
          have HK3 := lib_hid HK2
          clear HK2 HK
          go_wp2
          go_roundw
          case rel => exact ⟨k + 1, x', s, true, by omega, by go_num, rfl, rfl, hx', hs, HK3, hg2⟩
          case measure => simp [intOf]; omega
        · simp only [if_true] at HK2
          obtain ⟨mn, Hmn, hmn⟩ : ∃ m, Hid (min x' a = m) ∧ m ≤ 4294967296 := ⟨_, lib_hid rfl, by omega⟩
          obtain ⟨mx, Hmx, hmx⟩ : ∃ m, Hid (max s b = m) ∧ m ≤ 4294967296 := ⟨_, lib_hid rfl, by omega⟩
          rw [Hmn.out, Hmx.out] at HK2
          have HK3 := lib_hid HK2
          have f1 : ∀ W ts t, (Builtin.min_ ts t #[fl x', fl a]).run Try.prog W = .ok (fl mn) W := fun W ts t => by rw [← Hmn.out]; exact run_min_nat W ts t x' a (by omega) (by omega)
          have f2 : ∀ W ts t, (Builtin.max_ ts t #[fl s, fl b]).run Try.prog W = .ok (fl mx) W := fun W ts t => by rw [← Hmx.out]; exact run_max_nat W ts t s b (by omega) (by omega)
          clear HK2 HK
          go_wp2
          go_roundw
          case rel => exact ⟨k + 1, mn, mx, true, by omega, by go_num, rfl, rfl, hmn, hmx, HK3, hg2⟩
          case measure => simp [intOf]; omega
      · unfold rStep at HK2
        rw [if_pos (by simp only; omega)] at HK2
        have HK3 := lib_hid HK2
        have hd : y ≤ 0 := by omega
        have hg2 := hgr.alloc (.cells #[.int .i64 x, .int .i64 y] 28)
        have Hg := lib_hid hg2
        clear HK2 HK hok h0 hgr hg2
        go_wp2
        go_roundw
        case rel => exact ⟨k + 1, a, b, t, by omega, by go_num, rfl, rfl, hab, hbb, HK3, Hg.out⟩
        case measure => simp [intOf]; omega
    · have hki : ¬ (k : Int) < n := by omega
      have h := HK.out
      rw [show l.take k = l by rw [List.take_of_length_le]; rw [hll.out]; omega] at h
      have Hy := lib_hid h
      clear h HK
      go_wp2
      go_ret
      exact ⟨by rw [Hy.out]; rfl, hgr⟩

theorem one_bits : floatOfInt .f64 ((1 : Nat) : Int) = 4607182418800017408 := by decide +kernel
theorem eight_bits : floatOfInt .f64 ((8 : Nat) : Int) = 4620693217682128896 := by decide +kernel
theorem cx18 : cx 1 8 = Value.complex .f64 4607182418800017408 4620693217682128896 := by
  show Value.complex .f64 (floatOfInt .f64 ((1 : Nat) : Int)) (floatOfInt .f64 ((8 : Nat) : Int)) = _
  rw [one_bits, eight_bits]
theorem two_spans (w : World) (t : TypeId) (x y z u : Int) : SpanR (w.alloc (.cells #[.int .i64 x, .int .i64 y, .int .i64 z, .int .i64 u] t)) (some ⟨w.heap.size, 0, none⟩) 2 2 [(x, y), (z, u)] :=
  ⟨rfl, Nat.le_refl _, by unfold maxLen; omega, fun e => (by cases e), fun _ => ⟨w.heap.size, 0, rfl, by simp, fun j p hj => by
    have h0 : j < 2 := by have := (List.getElem?_eq_some_iff.1 hj).1; simpa using this
    rw [(Blk.new w t #[.int .i64 x, .int .i64 y, .int .i64 z, .int .i64 u]).cell, (Blk.new w t #[.int .i64 x, .int .i64 y, .int .i64 z, .int .i64 u]).cell]
    have : j = 0 ∨ j = 1 := by omega
    rcases this with rfl | rfl <;> (simp at hj; subst hj; exact ⟨rfl, rfl⟩)⟩⟩
set_option maxRecDepth 100000 in
set_option maxHeartbeats 4000000 in
theorem awake15_any (w : World) : Calls Try.prog 16 #[] w fun e w' => e = .returned (.bool true) ∧ Grows w w' := by
  have HR := lib_hid (reachL_any [(5, 3), (1, 2)] _ 2 2 _ (by intro q hq; simp only [List.mem_cons, List.not_mem_nil, or_false] at hq; rcases hq with rfl | rfl <;> (unfold okSp; simp only; omega)) (two_spans w 28 5 3 1 2))
  have e1 : cx (rT [(5, 3), (1, 2)]).2.1 (rT [(5, 3), (1, 2)]).2.2 = .complex .f64 4607182418800017408 4620693217682128896 := by
    rw [show (rT [(5, 3), (1, 2)]).2.1 = 1 by decide, show (rT [(5, 3), (1, 2)]).2.2 = 8 by decide]; exact cx18
  rw [e1] at HR
  have Hg : Hid (Grows w (w.alloc (.cells #[.int .i64 5, .int .i64 3, .int .i64 1, .int .i64 2] 28))) := (Grows.refl w).alloc _
  clear e1
  have f1 : FloatKind.f64.format.order 4607182418800017408 4607182418800017408 = some .eq := by decide +kernel
  have f2 : FloatKind.f64.format.order 4620693217682128896 4620693217682128896 = some .eq := by decide +kernel
  go_enter Try.func16, Try.ntmps16
  go_wp2_with fail
  refine HR.out.mono ?_
  rintro e w1 ⟨rfl, hg1⟩
  go_wp2
  go_ret
  exact ⟨rfl, Hg.out.trans hg1⟩

end Go.Proofs.Ytbmmjkpibnnmeaa
