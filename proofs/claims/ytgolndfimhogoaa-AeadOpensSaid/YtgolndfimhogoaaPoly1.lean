/-
  The walks of package poly: products and sums of 128 bits, halves, what is added to a state.
-/
import Derived.Test.YtgolndfimhogoaaBits3
import Derived.Test.YtgolndfimhogoaaOwn
import Derived.Laws.Externs
import Derived.Lib.Mul64
import Derived.Laws.Bits64b
import Derived.Deep.Cut
import Derived.BigRegion
import Derived.RegionTactic
import Derived.ChangeAlike
namespace Go.Proofs.Ytgolndfimhogoaa
open Go Go.RowKit
set_option linter.unusedSimpArgs false


abbrev pV (a b : UInt64) : Value := .agg #[.int .u64 a.toNat, .int .u64 b.toNat]
def adC (x y c : UInt64) : UInt64 := UInt64.ofNat ((x.toNat + y.toNat + c.toNat) / 18446744073709551616)
def sbC (x y b : UInt64) : UInt64 := if x.toNat < y.toNat + b.toNat then 1 else 0
def mulH (x y : UInt64) : UInt64 := UInt64.ofNat (x.toNat * y.toNat / 18446744073709551616)
theorem adC_toNat (x y c : UInt64) (hc : c.toNat ≤ 1) : (adC x y c).toNat = (x.toNat + y.toNat + c.toNat) / 18446744073709551616 := by
  have hx := u64_lt x
  have hy := u64_lt y
  unfold adC; rw [UInt64.toNat_ofNat']; omega
theorem adC_le (x y c : UInt64) (hc : c.toNat ≤ 1) : (adC x y c).toNat ≤ 1 := by
  have hx := u64_lt x
  have hy := u64_lt y
  rw [adC_toNat x y c hc]; omega
theorem sbC_le (x y b : UInt64) : (sbC x y b).toNat ≤ 1 := by unfold sbC; split <;> decide
theorem mulH_toNat (x y : UInt64) : (mulH x y).toNat = x.toNat * y.toNat / 18446744073709551616 := by
  unfold mulH
  rw [UInt64.toNat_ofNat', Nat.mod_eq_of_lt]
  exact Nat.div_lt_of_lt_mul (Nat.mul_lt_mul'' (u64_lt x) (u64_lt y))

theorem add64_run (x y c : UInt64) (hc : c.toNat ≤ 1) (w : World) : Sem.run Try.prog (callFunc 53 #[.int .u64 x.toNat, .int .u64 y.toNat, .int .u64 c.toNat]) w =
    .ok (.value (.tuple #[.int .u64 (x + y + c).toNat, .int .u64 (adC x y c).toNat])) w := by
  have hx := u64_lt x
  have hy := u64_lt y
  rw [run_callFunc_extern Try.func53 (by kernel_rfl) (by kernel_rfl) (by kernel_rfl) (e := add64Entry) (by kernel_rfl)]
  rw [run_add64 (P := Try.prog) (x.toNat : Int) (y.toNat : Int) (c.toNat : Int) (by omega) (by omega) (by omega) (by omega)]
  have e1 : ((x.toNat : Int) + y.toNat + c.toNat) % 18446744073709551616 = ((x + y + c).toNat : Int) := by rw [UInt64.toNat_add, UInt64.toNat_add]; omega
  have e2 : ((x.toNat : Int) + y.toNat + c.toNat) / 18446744073709551616 = ((adC x y c).toNat : Int) := by rw [adC_toNat x y c hc]; omega
  simp only [Result.andThen, e1, e2]
theorem add64_run0 (x y : UInt64) (w : World) : Sem.run Try.prog (callFunc 53 #[.int .u64 x.toNat, .int .u64 y.toNat, .int .u64 0]) w =
    .ok (.value (.tuple #[.int .u64 (x + y).toNat, .int .u64 (adC x y 0).toNat])) w := by
  have := add64_run x y 0 (by decide) w
  rw [UInt64.add_zero] at this
  exact this
def sub64Entry : Array Value → Sem Value := fun args => do
  let (x, y, b) ← Extern.MathBitsCarry.three (String.ofList [Char.ofNat 83, Char.ofNat 117, Char.ofNat 98, Char.ofNat 54, Char.ofNat 52]) args
  pure (Extern.MathBitsCarry.pair ((x + Extern.MathBitsCarry.m64 - y - b) % Extern.MathBitsCarry.m64) (if x < y + b then 1 else 0))
theorem sub64_run (x y b : UInt64) (hb : b.toNat ≤ 1) (w : World) : Sem.run Try.prog (callFunc 43 #[.int .u64 x.toNat, .int .u64 y.toNat, .int .u64 b.toNat]) w =
    .ok (.value (.tuple #[.int .u64 (x - y - b).toNat, .int .u64 (sbC x y b).toNat])) w := by
  have hx := u64_lt x
  have hy := u64_lt y
  rw [run_callFunc_extern Try.func43 (by kernel_rfl) (by kernel_rfl) (by kernel_rfl) (e := sub64Entry) (by kernel_rfl)]
  have key : ∀ k : Nat, k ≤ 1 → (sub64Entry #[.int .u64 (x.toNat : Int), .int .u64 (y.toNat : Int), .int .u64 (k : Int)]).run Try.prog w =
      .ok (Extern.MathBitsCarry.pair ((x.toNat + Extern.MathBitsCarry.m64 - y.toNat - k) % Extern.MathBitsCarry.m64) (if x.toNat < y.toNat + k then 1 else 0)) w := by
    intro k hk
    have : k = 0 ∨ k = 1 := by omega
    rcases this with rfl | rfl <;> rfl
  rw [key _ hb]
  have e1 : (x.toNat + Extern.MathBitsCarry.m64 - y.toNat - b.toNat) % Extern.MathBitsCarry.m64 = (x - y - b).toNat := by
    rw [UInt64.toNat_sub, UInt64.toNat_sub]; unfold Extern.MathBitsCarry.m64; omega
  have e2 : (if x.toNat < y.toNat + b.toNat then 1 else 0) = (sbC x y b).toNat := by unfold sbC; split <;> rfl
  rw [e1, e2]
  rfl
theorem sub64_run0 (x y : UInt64) (w : World) : Sem.run Try.prog (callFunc 43 #[.int .u64 x.toNat, .int .u64 y.toNat, .int .u64 0]) w =
    .ok (.value (.tuple #[.int .u64 (x - y).toNat, .int .u64 (sbC x y 0).toNat])) w := by
  have := sub64_run x y 0 (by decide) w
  rw [UInt64.sub_zero] at this
  exact this

namespace M64
theorem maskN (a : Nat) (ha : a < 18446744073709551616) : bits .and .u64 (a : Int) 4294967295 = ((a % 4294967296 : Nat) : Int) := by
  have h := bits_and_u64_nat a 4294967295 ha (by omega)
  have e : a &&& 4294967295 = a % 4294967296 := Nat.and_two_pow_sub_one_eq_mod a 32
  rw [e] at h
  exact h
theorem divN (a : Nat) : (a : Int) / 4294967296 = ((a / 4294967296 : Nat) : Int) := by omega
theorem mulN (a b : Nat) : (a : Int) * (b : Int) = ((a * b : Nat) : Int) := (Int.natCast_mul a b).symm
theorem addN (a b : Nat) : (a : Int) + (b : Int) = ((a + b : Nat) : Int) := (Int.natCast_add a b).symm
theorem wrapN (a : Nat) (ha : a < 18446744073709551616) : IntKind.u64.wrap (a : Int) = (a : Int) := by rw [IntKind.wrap_u64]; omega
theorem wrapM (a : Nat) : IntKind.u64.wrap (a : Int) = ((a % 18446744073709551616 : Nat) : Int) := by rw [IntKind.wrap_u64]; omega
end M64

set_option maxHeartbeats 1000000 in
theorem mul64_nat (x y : Nat) (hx : x < 18446744073709551616) (hy : y < 18446744073709551616) (w : World) :
    Calls Try.prog 61 #[.int .u64 x, .int .u64 y] w fun e w' => e = .returned (.tuple #[.int .u64 ((x * y / 18446744073709551616 : Nat) : Int), .int .u64 ((x * y % 18446744073709551616 : Nat) : Int)]) ∧ w = w' := by
  obtain ⟨bd, bt, bw, hhi⟩ := Lib.mul64_hi x y hx hy
  have ba := Lib.half_mul_le (a := x / 4294967296) (b := y / 4294967296) (by omega) (by omega)
  have bb := Lib.half_mul_le (a := x / 4294967296) (b := y % 4294967296) (by omega) (by omega)
  have bc := Lib.half_mul_le (a := x % 4294967296) (b := y / 4294967296) (by omega) (by omega)
  have ba' : x / 4294967296 * (y / 4294967296) < 18446744073709551616 := by omega
  have bb' : x / 4294967296 * (y % 4294967296) < 18446744073709551616 := by omega
  have bc' : x % 4294967296 * (y / 4294967296) < 18446744073709551616 := by omega
  have bh1 : x / 4294967296 * (y / 4294967296) + (x / 4294967296 * (y % 4294967296) + x % 4294967296 * (y % 4294967296) / 4294967296) / 4294967296 < 18446744073709551616 := by omega
  have bh : x / 4294967296 * (y / 4294967296) + (x / 4294967296 * (y % 4294967296) + x % 4294967296 * (y % 4294967296) / 4294967296) / 4294967296 + ((x / 4294967296 * (y % 4294967296) + x % 4294967296 * (y % 4294967296) / 4294967296) % 4294967296 + x % 4294967296 * (y / 4294967296)) / 4294967296 < 18446744073709551616 := by omega
  go_enter Try.func61, Try.ntmps61
  go_wp2
  simp only [M64.maskN x hx, M64.maskN y hy, M64.divN, M64.mulN, M64.addN, M64.wrapN _ bd, M64.wrapN _ bb', M64.wrapN _ bt, M64.maskN _ bt, M64.wrapN _ bc', M64.wrapN _ bw, M64.wrapN _ ba', M64.wrapN _ bh1, M64.wrapN _ bh, M64.wrapM (x * y)]
  rw [hhi]
  go_ret2
  exact ⟨rfl, rfl⟩
theorem mul64_any (x y : UInt64) (w : World) :
    Calls Try.prog 61 #[.int .u64 x.toNat, .int .u64 y.toNat] w fun e w' => e = .returned (.tuple #[.int .u64 (mulH x y).toNat, .int .u64 (x * y).toNat]) ∧ w = w' := by
  have := mul64_nat x.toNat y.toNat (u64_lt x) (u64_lt y) w
  rw [← mulH_toNat, show x.toNat * y.toNat % 18446744073709551616 = (x * y).toNat by rw [UInt64.toNat_mul]] at this
  exact this

theorem Try.sizePair : (Try.prog.info? 67).map (·.size) = some 2 := by kernel_rfl
theorem times_any (x y : UInt64) (w : World) :
    Calls Try.prog 54 #[.int .u64 x.toNat, .int .u64 y.toNat] w fun e w' => e = .returned (pV (x * y) (mulH x y)) ∧ Grows w w' := by
  go_enter Try.func54, Try.ntmps54
  go_wp2_with fail
  refine (mul64_any x y _).mono ?_
  rintro e w' ⟨rfl, rfl⟩
  go_wp2
  refine bodyPost_ret (results_cell_row rfl _ _ w.heap.size _ _ _ _ rfl (Blk.new _ _ _) Try.underlying67 rfl Try.sizePair) rfl ?_
  exact ⟨rfl, (Grows.refl w).alloc _⟩

theorem plus_any (a b c d : UInt64) (w : World) :
    Calls Try.prog 44 #[pV a b, pV c d] w fun e w' => e = .returned (pV (a + c) (b + d + adC a c 0)) ∧ Grows w w' := by
  obtain ⟨lo, cy, hi, x, Hlo, Hcy, Hhi, hadd1, hadd2⟩ : ∃ lo cy hi x : UInt64, Hid (a + c = lo) ∧ Hid (adC a c 0 = cy) ∧ Hid (b + d + cy = hi) ∧
      (∀ w, Sem.run Try.prog (callFunc 53 #[.int .u64 a.toNat, .int .u64 c.toNat, .int .u64 0]) w = .ok (.value (.tuple #[.int .u64 lo.toNat, .int .u64 cy.toNat])) w) ∧
      (∀ w, Sem.run Try.prog (callFunc 53 #[.int .u64 b.toNat, .int .u64 d.toNat, .int .u64 cy.toNat]) w = .ok (.value (.tuple #[.int .u64 hi.toNat, .int .u64 x.toNat])) w) :=
    ⟨_, _, _, _, lib_hid rfl, lib_hid rfl, lib_hid rfl, add64_run0 a c, add64_run b d _ (adC_le _ _ _ (by decide))⟩
  go_enter Try.func44, Try.ntmps44
  go_wp2
  have hR : Blk (((w.alloc (.cells #[.int .u64 a.toNat, .int .u64 b.toNat] 67)).alloc (.cells #[.int .u64 c.toNat, .int .u64 d.toNat] 67)).alloc (.cells #[.int .u64 lo.toNat, .int .u64 hi.toNat] 67)) (w.heap.size + 2) 67 #[.int .u64 lo.toNat, .int .u64 hi.toNat] := by
    have := Blk.new ((w.alloc (.cells #[.int .u64 a.toNat, .int .u64 b.toNat] 67)).alloc (.cells #[.int .u64 c.toNat, .int .u64 d.toNat] 67)) 67 #[.int .u64 lo.toNat, .int .u64 hi.toNat]
    simpa using this
  refine bodyPost_ret (results_cell_row rfl _ _ (w.heap.size + 2) _ _ _ _ rfl hR Try.underlying67 rfl Try.sizePair) rfl ?_
  refine ⟨?_, (((Grows.refl w).alloc _).alloc _).alloc _⟩
  rw [Hlo.out, Hcy.out, Hhi.out]

def halfA (bs : List UInt8) : UInt64 := littleF (bs.take 8)
def halfB (bs : List UInt8) : UInt64 := littleF ((bs.drop 8).take 8)
set_option maxRecDepth 100000 in
set_option maxHeartbeats 4000000 in
theorem half_any (A : Option Addr) (n c : Nat) (bs : List UInt8) (w : World) (h : SB w A n c bs) (h16 : 16 ≤ n) :
    Calls Try.prog 38 #[.slice A n c] w fun e w' => e = .returned (pV (halfA bs) (halfB bs)) ∧ Grows w w' := by
  obtain ⟨ea, Hea⟩ : ∃ ea, Hid (littleF (bs.take 8) = ea) := ⟨_, lib_hid rfl⟩
  obtain ⟨eb, Heb⟩ : ∃ eb, Hid (littleF ((bs.drop 8).take 8) = eb) := ⟨_, lib_hid rfl⟩
  have hcap := h.cap
  have hmx := h.max
  unfold maxLen at hmx
  have hc8 : ¬ c = 8 := by omega
  obtain ⟨W0, HW0, hg0⟩ : ∃ W0 : World, Hid (W0 = w.alloc (.cells #[.int .u64 0, .int .u64 0] 67)) ∧ Grows w W0 := ⟨_, lib_hid rfl, (Grows.refl w).alloc _⟩
  have HR : Hid (Blk W0 w.heap.size 67 #[.int .u64 0, .int .u64 0]) := by unfold Hid; rw [HW0.out]; exact Blk.new _ _ _
  have HS0 := lib_hid ((h.grows hg0).pre (k := 8) (by omega))
  have hs8 := ((h.grows hg0).frm (k := 8) (by omega)).pre (k := 8) (by omega)
  rw [if_neg hc8] at hs8
  obtain ⟨bk, off, rfl, _, _⟩ := h.2.2.2.2 (by omega)
  simp only [Option.map_some, add_zero_spot] at hs8
  have HS8 := lib_hid hs8
  clear hs8 h
  go_enter Try.func38, Try.ntmps38
  go_upto_region 1 with fail
  rw [← HW0.out]
  apply wp_region_mono 7 ((.is _, []) :: (.is _, []) :: (.is (.int .u64 ea.toNat), []) :: (.is _, []) :: (.is _, []) :: (.is (.int .u64 eb.toNat), []) :: (.is _, []) :: []) (by kernel_rfl) (by kernel_rfl)
  iterate 2
    apply Mono.is0
    · kernel_rfl
    · intro W hW
      go_wp2
      refine ⟨rfl, rfl, Grows.refl _, ?_⟩
      unfold Oper.valAt
      go_simp
      rfl
    intro k1 a1 hk1 ha1
    simp only [Nat.reduceAdd] at hk1
    simp only [Act.put, List.setIfInBounds_toArray, List.set_cons_succ, List.set_cons_zero] at ha1
    subst hk1 ha1
  apply Mono.is0
  · kernel_rfl
  · intro W hW 
    go_wp2_with fail
    refine (little_any _ 8 c _ W (HS0.out.grows hW)).mono ?_
    rintro e w1 ⟨rfl, hg1⟩
    rw [Hea.out]
    go_wp2
    exact ⟨rfl, rfl, hg1, rfl⟩
  intro k1 a1 hk1 ha1
  simp only [Nat.reduceAdd] at hk1
  simp only [Act.put, List.setIfInBounds_toArray, List.set_cons_succ, List.set_cons_zero] at ha1
  subst hk1 ha1
  apply Mono.is0
  · kernel_rfl
  · intro W hW
    go_wp2
    refine ⟨rfl, rfl, Grows.refl _, ?_⟩
    unfold Oper.valAt
    go_simp
    rfl
  intro k1 a1 hk1 ha1
  simp only [Nat.reduceAdd] at hk1
  simp only [Act.put, List.setIfInBounds_toArray, List.set_cons_succ, List.set_cons_zero] at ha1
  subst hk1 ha1
  apply Mono.is0
  · kernel_rfl
  · intro W hW
    have hc8 := hc8
    go_wp2
    refine ⟨rfl, rfl, Grows.refl _, ?_⟩
    unfold Oper.valAt
    go_simp
    rfl
  intro k1 a1 hk1 ha1
  simp only [Nat.reduceAdd] at hk1
  simp only [Act.put, List.setIfInBounds_toArray, List.set_cons_succ, List.set_cons_zero] at ha1
  subst hk1 ha1
  apply Mono.is0
  · kernel_rfl
  · intro W hW 
    go_wp2_with fail
    refine (little_any _ 8 (c - 8) _ W (HS8.out.grows hW)).mono ?_
    rintro e w1 ⟨rfl, hg1⟩
    rw [Heb.out]
    go_wp2
    exact ⟨rfl, rfl, hg1, rfl⟩
  intro k1 a1 hk1 ha1
  simp only [Nat.reduceAdd] at hk1
  simp only [Act.put, List.setIfInBounds_toArray, List.set_cons_succ, List.set_cons_zero] at ha1
  subst hk1 ha1
  apply Mono.is0
  · kernel_rfl
  · intro W hW
    go_wp2
    refine ⟨rfl, rfl, Grows.refl _, ?_⟩
    unfold Oper.valAt
    go_simp
    rfl
  intro k1 a1 hk1 ha1
  simp only [Nat.reduceAdd] at hk1
  simp only [Act.put, List.setIfInBounds_toArray, List.set_cons_succ, List.set_cons_zero] at ha1
  subst hk1 ha1
  refine Mono.done ?_
  intro wm hgm
  simp only [allF, List.drop_succ_cons, List.drop_zero]
  have hR := HR.out.grows hgm
  have hc0 : wm.cell? ⟨w.heap.size, 0, none⟩ = some (.int .u64 0) := hR.cell 0
  have hc1 : wm.cell? ⟨w.heap.size, 1, none⟩ = some (.int .u64 0) := hR.cell 1
  have hf0 := hR.frozen 0
  have hf1 := hR.frozen 1
  have hR2 : Blk ((wm.setCell ⟨w.heap.size, 0, none⟩ (.int .u64 ea.toNat)).setCell ⟨w.heap.size, 1, none⟩ (.int .u64 eb.toNat)) w.heap.size 67 #[.int .u64 ea.toNat, .int .u64 eb.toNat] := (hR.set 0 _).set 1 _
  have hgw := hg0.trans hgm
  have HR2 := lib_hid hR2
  clear hR2 hR hgm hg0
  go_wp2
  refine bodyPost_ret (results_cell_row rfl _ _ w.heap.size _ _ _ _ rfl HR2.out Try.underlying67 rfl Try.sizePair) rfl ?_
  refine ⟨?_, (hgw.setCell (p := ⟨w.heap.size, 0, none⟩) (Nat.le_refl _) _).setCell (p := ⟨w.heap.size, 1, none⟩) (Nat.le_refl _) _⟩
  unfold halfA halfB
  rw [Hea.out, Heb.out]

/-- The cells of a state. -/
def PB (r0 r1 s0 s1 h0 h1 h2 : UInt64) (v : Value) : Array Value := #[.int .u64 r0.toNat, .int .u64 r1.toNat, .int .u64 s0.toNat, .int .u64 s1.toNat, .int .u64 h0.toNat, .int .u64 h1.toNat, .int .u64 h2.toNat, v]
def ad0 (h0 l : UInt64) : UInt64 := h0 + l
def ad1 (h0 h1 l hh : UInt64) : UInt64 := h1 + hh + adC h0 l 0
def ad2 (h0 h1 h2 l hh hi : UInt64) : UInt64 := h2 + (adC h1 hh (adC h0 l 0) + hi)
set_option maxRecDepth 100000 in
set_option maxHeartbeats 4000000 in
theorem add_any (g : Nat) (r0 r1 s0 s1 h0 h1 h2 : UInt64) (v : Value) (l hh hi : UInt64) (w : World) (hB0 : Blk w g 71 (PB r0 r1 s0 s1 h0 h1 h2 v)) :
    Calls Try.prog 39 #[.pointer (some ⟨g, 0, none⟩), pV l hh, .int .u64 hi.toNat] w fun e w' => e = .returned (.tuple #[]) ∧ w.grownBy w' (some g) ∧ Blk w' g 71 (PB r0 r1 s0 s1 (ad0 h0 l) (ad1 h0 h1 l hh) (ad2 h0 h1 h2 l hh hi) v) := by
  obtain ⟨n0, c0, n1, c1, Hn0, Hc0, Hn1, Hc1, H1, H2⟩ : ∃ n0 c0 n1 c1 : UInt64, Hid (h0 + l = n0) ∧ Hid (adC h0 l 0 = c0) ∧ Hid (h1 + hh + c0 = n1) ∧ Hid (adC h1 hh c0 = c1) ∧
      Hid (∀ w, Sem.run Try.prog (callFunc 53 #[.int .u64 h0.toNat, .int .u64 l.toNat, .int .u64 0]) w = .ok (.value (.tuple #[.int .u64 n0.toNat, .int .u64 c0.toNat])) w) ∧
      Hid (∀ w, Sem.run Try.prog (callFunc 53 #[.int .u64 h1.toNat, .int .u64 hh.toNat, .int .u64 c0.toNat]) w = .ok (.value (.tuple #[.int .u64 n1.toNat, .int .u64 c1.toNat])) w) :=
    ⟨_, _, _, _, lib_hid rfl, lib_hid rfl, lib_hid rfl, lib_hid rfl, add64_run0 h0 l, add64_run h1 hh _ (adC_le _ _ _ (by decide))⟩
  obtain ⟨q, Hq, hs1⟩ : ∃ x : UInt64, Hid (c1 + hi = x) ∧ IntKind.u64.wrap ((c1.toNat : Int) + (hi.toNat : Int)) = (x.toNat : Int) := ⟨_, lib_hid rfl, u64_wrap_add _ _⟩
  obtain ⟨n2, Hn2, hs2⟩ : ∃ x : UInt64, Hid (h2 + q = x) ∧ IntKind.u64.wrap ((h2.toNat : Int) + (q.toNat : Int)) = (x.toNat : Int) := ⟨_, lib_hid rfl, u64_wrap_add _ _⟩
  rw [show ad0 h0 l = n0 from Hn0.out, show ad1 h0 h1 l hh = n1 by unfold ad1; rw [Hc0.out, Hn1.out], show ad2 h0 h1 h2 l hh hi = n2 by unfold ad2; rw [Hc0.out, Hc1.out, Hq.out, Hn2.out]]
  obtain ⟨gn, Hgn⟩ : ∃ x, Hid (w.heap.size = x) := ⟨_, lib_hid rfl⟩
  obtain ⟨W0, HW0, hg0⟩ : ∃ W0 : World, Hid (W0 = w.alloc (.cells #[.int .u64 l.toNat, .int .u64 hh.toNat] 67)) ∧ Grows w W0 := ⟨_, lib_hid rfl, (Grows.refl w).alloc _⟩
  have HN : Hid (Blk W0 gn 67 #[.int .u64 l.toNat, .int .u64 hh.toNat]) := by unfold Hid; rw [HW0.out, ← Hgn.out]; exact Blk.new _ _ _
  have HB := lib_hid (hB0.grows hg0)
  have Hne : Hid (gn ≠ g) := by unfold Hid; have := hB0.lt; rw [← Hgn.out]; omega
  have hG : w.grownBy W0 (some g) := gbo_grows ⟨rfl, rfl, rfl, Nat.le_refl _, fun _ _ _ => rfl⟩ hg0
  have hlt := hB0.lt
  have hB1 := hB0
  have a4 : w.cell? ⟨g, 4, none⟩ = some (.int .u64 h0.toNat) := hB1.cell 4
  have a5 : w.cell? ⟨g, 5, none⟩ = some (.int .u64 h1.toNat) := hB1.cell 5
  have a6 : w.cell? ⟨g, 6, none⟩ = some (.int .u64 h2.toNat) := hB1.cell 6
  have f4 := hB1.frozen 4
  have f5 := hB1.frozen 5
  have f6 := hB1.frozen 6
  have hadd1 := H1.out
  have hadd2 := H2.out
  have HB0 := lib_hid hB0
  clear hB0 hB1
  go_enter Try.func39, Try.ntmps39
  go_upto_region 2 with fail
  go_region
  go_upto_region 3 with fail
  go_region
  go_upto_region 4 with fail
  go_region
  go_wp2
  go_end0
  exact ⟨rfl, gbo_grows (gbo_set (gbo_set (gbo_set ⟨rfl, rfl, rfl, Nat.le_refl _, fun _ _ _ => rfl⟩ _ _) _ _) _ _) (((Grows.refl _).alloc _).drew.drew.drew), ((((HB0.out.set 4 _).set 5 _).set 6 _).alloc _)⟩

end Go.Proofs.Ytgolndfimhogoaa
