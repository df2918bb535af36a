/-
  The walk of palfreyref06.at; rows of counters.
-/
import Derived.Test.YtlnldflnanllmaaRefMulLe
import Derived.Test.YtlnldflnanllmaaGhash4
import Derived.Deep.Cut
namespace Go.Proofs.Ytlnldflnanllmaa
open Go Go.RowKit
set_option linter.unusedSimpArgs false


theorem run_alloc_arr {P : Program} {t : TypeId} {vs : Array Value} (h : (P.info? t).bind (·.zero) = some (.agg vs)) (w : World) :
    Sem.run P (Instr.alloc t true (.tuple #[])) w = .ok (.pointer (some ⟨w.heap.size, 0, none⟩)) (w.alloc (.cells vs t)) := by
  obtain ⟨i, hi, hz⟩ := Option.bind_eq_some_iff.1 h
  unfold Instr.alloc zeroValue newVar
  simp only [Sem.run_bind, Sem.run_pure]
  simp [hi, hz, typeInfo, Sem.run_bind, Result.andThen, newRow, Value.cells]
theorem wpList_alloc_arr {P : Program} {w : World} {ops : Array Oper} {rest : List Oper} {o : Oper} {a : Act} {Q : Exit → Act → World → Prop} (hgd : Region.wanted o (yielded ops a.tmps) = true) (t : TypeId) (ho : o.op = .alloc t)
    (cells : Array Value) (hz : (P.info? t).bind (·.zero) = some (.agg cells)) (h : wpList P ops Q rest (a.put o.dst (.pointer (some ⟨w.heap.size, 0, none⟩))) (w.alloc (.cells cells t))) : wpList P ops Q (o :: rest) a w := by
  refine wpList_step fun K hK => ?_
  rw [if_pos hgd]
  have hrun := run_alloc_arr hz w
  unfold Oper.wp execOp
  simp only [ho, Sem.run_bind, Sem.run_pure, Result.andThen_ok, hrun]
  exact hK _ _ h

def iL (p : List Nat) : Array Value := (p.map (fun n : Nat => Value.int .i64 (n : Int))).toArray
set_option maxRecDepth 100000 in
theorem zero256 : (Try.prog.info? 46).bind (·.zero) = some (.agg (iL (List.replicate 256 0))) := by kernel_rfl
theorem cellL {w : World} {g : Nat} {t : TypeId} {p : List Nat} (h : Blk w g t (iL p)) (i : Nat) (hi : i < p.length) : w.cell? ⟨g, i, none⟩ = some (.int .i64 ((p.getD i 0 : Nat) : Int)) := by
  rw [h.cell, iL, List.getElem?_toArray, List.getElem?_map, List.getElem?_eq_getElem hi, List.getD_eq_getElem?_getD, List.getElem?_eq_getElem hi]
  rfl
theorem blk_setL {w : World} {g : Nat} {t : TypeId} {p : List Nat} (h : Blk w g t (iL p)) (i n : Nat) : Blk (w.setCell ⟨g, i, none⟩ (.int .i64 (n : Int))) g t (iL (p.set i n)) := by
  have := h.set i (.int .i64 (n : Int))
  rw [iL, List.setIfInBounds_toArray] at this
  rw [iL, List.map_set]
  exact this
theorem bitN_le (xs : List UInt8) (i : Nat) : bitN xs i ≤ 1 := by unfold bitN; omega
theorem rowL_le (b : List UInt8) (i : Nat) (p : List Nat) (hp : p.length = 256) (hi : i < 128) (B : Nat) (h : ∀ j, p.getD j 0 ≤ B) : ∀ k, k ≤ 128 → ∀ j, (rowL b i k p).getD j 0 ≤ B + k
  | 0, _, j => h j
  | k + 1, hk, j => by
    rw [rowL, addL_at _ _ _ _ (by rw [rowL_len]; omega)]
    have h1 := rowL_le b i p hp hi B h k (by omega)
    have h2 := bitN_le b k
    split
    · have := h1 (i + k); omega
    · have := h1 j; omega
theorem prodL_le (a b : List UInt8) : ∀ n, n ≤ 128 → ∀ j, (prodL a b n).getD j 0 ≤ 128 * n
  | 0, _, j => by
    rw [prodL, List.getD_eq_getElem?_getD, List.getElem?_replicate]
    split <;> simp
  | n + 1, h, j => by
    have ih := prodL_le a b n (by omega)
    rw [prodL]
    split
    · have := ih j; omega
    · have := rowL_le b n _ (prodL_len a b n) (by omega) _ ih 128 (by omega) j; omega
theorem stepL_le (p : List Nat) (i B : Nat) (hi : i < 255) (hp : p.length = 256) (h : ∀ j, p.getD j 0 ≤ B) : ∀ j, (stepL p i).getD j 0 ≤ B + 4 := by
  have one : ∀ (q : List Nat) (m C : Nat), m < 256 → q.length = 256 → (∀ j, q.getD j 0 ≤ C) → ∀ j, (addL q m 1).getD j 0 ≤ C + 1 := fun q m C hm hq hC j => by
    rw [addL_at _ _ _ _ (by omega)]
    split
    · have := hC m; omega
    · have := hC j; omega
  intro j
  unfold stepL
  split
  · exact one _ _ (B + 3) (by omega) (by simp only [addL_len]; exact hp) (one _ _ (B + 2) (by omega) (by simp only [addL_len]; exact hp) (one _ _ (B + 1) (by omega) (by simp only [addL_len]; exact hp) (one _ _ B (by omega) hp h))) j
  · have := h j; omega
theorem downL_le (p : List Nat) (hp : p.length = 256) (B : Nat) (h : ∀ j, p.getD j 0 ≤ B) : ∀ t, t ≤ 127 → ∀ j, (downL t p).getD j 0 ≤ B + 4 * t
  | 0, _ => h
  | t + 1, ht => by
    intro j
    have := stepL_le (downL t p) (254 - t) (B + 4 * t) (by omega) (by rw [downL_len]; exact hp) (downL_le p hp B h t (by omega)) j
    rw [downL]
    omega

set_option maxRecDepth 100000 in
set_option maxHeartbeats 4000000 in
theorem refAt_any (bs : List UInt8) (hb : bs.length = 16) (i : Nat) (hi : i < 128) (w : World) :
    Calls Try.prog 24 #[.agg (bs.map b8).toArray, .int .i64 (i : Int)] w fun e w' => e = .returned (.int .i64 ((bitN bs i : Nat) : Int)) ∧ Grows w w' := by
  obtain ⟨W0, HW0, hW0, hg0⟩ : ∃ W0 : World, Hid (W0 = w.alloc (.cells (bs.map b8).toArray 22)) ∧ W0.heap.size = w.heap.size + 1 ∧ Grows w W0 := ⟨_, lib_hid rfl, by simp, (Grows.refl w).alloc _⟩
  have HB0 : Hid (Blk W0 w.heap.size 22 (bs.map b8).toArray) := by
    unfold Hid; rw [HW0.out]; have := Blk.new (w) 22 (bs.map b8).toArray; simpa using this
  obtain ⟨q, r, s, hq, hr, hs, Hq, Hs, hq16, hr8, hs8⟩ : ∃ q r s : Nat, (i : Int).tdiv 8 = (q : Int) ∧ (i : Int).tmod 8 = (r : Int) ∧ (7 : Int) - (r : Int) = (s : Int) ∧ Hid (i / 8 = q) ∧ Hid (7 - i % 8 = s) ∧ (q : Int) < 16 ∧ (r : Int) < 8 ∧ s < 8 :=
    ⟨i / 8, i % 8, 7 - i % 8, by rw [Int.tdiv_eq_ediv_of_nonneg (by omega)]; omega, by rw [Int.tmod_eq_emod_of_nonneg (by omega)]; omega, by omega, lib_hid rfl, lib_hid rfl, by omega, by omega, by omega⟩
  obtain ⟨x, Hx⟩ : ∃ x, Hid (bs.getD q 0 = x) := ⟨_, lib_hid rfl⟩
  have c1 : W0.cell? ⟨w.heap.size, q, none⟩ = some (b8 x) := by
    have hl : q < bs.length := by omega
    rw [HB0.out.cell, List.getElem?_toArray, List.getElem?_map, List.getElem?_eq_getElem hl, ← Hx.out, List.getD_eq_getElem?_getD, List.getElem?_eq_getElem hl]; rfl
  obtain ⟨y, z, hy, hyb, hz, Hz⟩ : ∃ y z : Nat, (x.toNat : Int) / 2 ^ s = (y : Int) ∧ (y : Int) < 256 ∧ (y : Int).tmod 2 = (z : Int) ∧ Hid (bitN bs i = z) := by
    have := u8_lt x
    have h2 : x.toNat / 2 ^ s ≤ x.toNat := Nat.div_le_self _ _
    refine ⟨x.toNat / 2 ^ s, x.toNat / 2 ^ s % 2, by simp, by omega, by rw [Int.tmod_eq_emod_of_nonneg (Int.natCast_nonneg _)]; exact (Int.natCast_emod _ 2).symm, ?_⟩
    unfold Hid bitN; rw [Hq.out, Hs.out, Hx.out]
  rw [Hz.out]
  have HW0' := HW0.out
  clear HB0 Hq Hs Hz
  go_enter Try.func24, Try.ntmps24
  go_upto_region 1 with fail
  rw [← HW0']
  clear HW0'
  go_wp2
  go_ret
  exact ⟨rfl, hg0⟩

end Go.Proofs.Ytlnldflnanllmaa
