/-
  An argument of layer 1, opened: a number, how far, a row of 16 bytes, a number.
-/
import Derived.Test.YtbajolgfejcecaaOpen2
import Derived.Lib.SmallJoins
namespace Go.Proofs.Ytbajolgfejcecaa
open Go Go.RowKit Go.ChangeShapes Go.WideShapes Go.ChangeAt
set_option linter.unusedSimpArgs false

theorem open_turn {H : Type} {enc : TypeId × Value → H} {w w0 : World} {base : Nat} {spare : Nat → Bool} {held : Bool} {v : Value} {d : DataW H} {p : List MemPlace} {r : Reach} {b0 : Nat}
    (hv : Value.okWide Try.prog w0 r b0 39 v) (h : DataW.Trod enc Try.prog w base spare held 39 v d p) :
    ∃ (x : UInt32) (n : Int) (bs : List UInt8) (m : UInt64), bs.length = 16 ∧ v = .agg (.int .u32 x.toNat :: .int .i64 n :: (bs.map b8 ++ [.int .u64 m.toNat])).toArray := by
  obtain ⟨cs, rfl, hsz⟩ := okWide_struct Try.underlying39 hv
  obtain ⟨fuel, hf⟩ := h
  obtain ⟨y0, y1, y2, y3, n, _, hl, h0, h1, h2, h3⟩ := Go.Joins.trod_struct4 Try.underlying39 hf
  have hC : Try.prog.cellsOf 39 = 19 := by kernel_rfl
  have c0 : Try.prog.cellsOf 22 = 1 := by kernel_rfl
  have c1 : Try.prog.cellsOf 3 = 1 := by kernel_rfl
  have c2 : Try.prog.cellsOf 37 = 16 := by kernel_rfl
  have c3 : Try.prog.cellsOf 30 = 1 := by kernel_rfl
  have cb : Try.prog.cellsOf 5 = 1 := by kernel_rfl
  simp only [c0, c1, c2, c3] at h0 h1 h2 h3
  obtain ⟨x, hx1, _, hx3⟩ := DataW.trod_int Try.underlying22 h0
  obtain ⟨x, rfl⟩ := of_u32 hx3
  obtain ⟨k, hk1, _, _⟩ := DataW.trod_int Try.underlying3 h1
  obtain ⟨bs, hb1, hb2⟩ := trod_u8s Try.underlying37 cb c2 Try.underlying5 h2
  obtain ⟨m, hm1, _, hm3⟩ := DataW.trod_int Try.underlying30 h3
  obtain ⟨m, rfl⟩ := of_u64 hm3
  refine ⟨x, k, bs, m, hb1, ?_⟩
  congr 1
  apply Array.toList_inj.1
  simp only [Value.cells] at hx1 hk1 hb2 hm1
  have hl2 : cs.toList.length = 19 := by rw [Array.length_toList, hsz, hC]
  show cs.toList = [Value.int .u32 x.toNat] ++ ([Value.int .i64 k] ++ (bs.map b8 ++ [.int .u64 m.toNat]))
  rw [← hx1, ← hk1, ← hb2, ← hm1]
  simp only [List.drop_zero]
  apply List.ext_getElem?
  intro i
  by_cases hi : i < 1
  · rw [List.getElem?_append_left (by simp; omega), List.getElem?_take, if_pos hi]
  · rw [List.getElem?_append_right (by simp; omega)]
    by_cases hi2 : i < 2
    · rw [List.getElem?_append_left (by simp; omega), List.getElem?_take, List.getElem?_drop, if_pos (by simp; omega)]
      congr 1; simp; omega
    · rw [List.getElem?_append_right (by simp; omega)]
      by_cases hi3 : i < 18
      · rw [List.getElem?_append_left (by simp; omega), List.getElem?_take, List.getElem?_drop, if_pos (by simp; omega)]
        congr 1; simp; omega
      · rw [List.getElem?_append_right (by simp; omega), List.getElem?_take, List.getElem?_drop]
        by_cases hi4 : i < 19
        · rw [if_pos (by simp; omega)]
          congr 1; simp; omega
        · rw [if_neg (by simp; omega), List.getElem?_eq_none (by omega)]

end Go.Proofs.Ytbajolgfejcecaa
