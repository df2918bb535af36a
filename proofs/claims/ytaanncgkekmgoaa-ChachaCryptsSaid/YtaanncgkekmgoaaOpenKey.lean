/-
  Layer 4's argument, opened: a key, a nonce, a counter.
-/
import Derived.Test.YtaanncgkekmgoaaOpen2
import Derived.Test.YtaanncgkekmgoaaChacha1
import Derived.Deep.Strs
namespace Go.Proofs.Ytaanncgkekmgoaa
open Go Go.RowKit Go.ChangeShapes Go.WideShapes Go.ChangeAt
set_option linter.unusedSimpArgs false

theorem open_key {H : Type} {enc : TypeId × Value → H} {w w0 : World} {base : Nat} {spare : Nat → Bool} {held : Bool} {v : Value} {d : DataW H} {p : List MemPlace} {r : Reach} {b0 : Nat}
    (hv : Value.okWide Try.prog w0 r b0 26 v) (h : DataW.Trod enc Try.prog w base spare held 26 v d p) :
    ∃ (key nonce : List UInt8) (ctr : UInt32), key.length = 32 ∧ nonce.length = 12 ∧ v = .agg (key.map b8 ++ (nonce.map b8 ++ [b32 ctr])).toArray := by
  obtain ⟨cs, rfl, hsz⟩ := okWide_struct Try.underlying26 hv
  obtain ⟨fuel, hf⟩ := h
  obtain ⟨y0, y1, y2, n, _, hl, h0, h1, h2⟩ := Go.Deep.trod_struct3 Try.underlying26 hf
  have hC : Try.prog.cellsOf 26 = 45 := by kernel_rfl
  have c0 : Try.prog.cellsOf 22 = 32 := by kernel_rfl
  have c1 : Try.prog.cellsOf 23 = 12 := by kernel_rfl
  have c2 : Try.prog.cellsOf 24 = 1 := by kernel_rfl
  have cb : Try.prog.cellsOf 5 = 1 := by kernel_rfl
  simp only [c0, c1, c2] at h0 h1 h2
  obtain ⟨key, hk1, hk2⟩ := trod_u8s Try.underlying22 cb c0 Try.underlying5 h0
  obtain ⟨nonce, hn1, hn2⟩ := trod_u8s Try.underlying23 cb c1 Try.underlying5 h1
  obtain ⟨x, hx1, _, hx3⟩ := DataW.trod_int Try.underlying24 h2
  obtain ⟨ctr, rfl⟩ := of_u32 hx3
  refine ⟨key, nonce, ctr, hk1, hn1, ?_⟩
  congr 1
  apply Array.toList_inj.1
  simp only [Value.cells] at hk2 hn2 hx1
  rw [← hk2, ← hn2, show [b32 ctr] = _ from hx1.symm]
  have hl2 : cs.toList.length = 45 := by rw [Array.length_toList, hsz, hC]
  show cs.toList = _
  simp only [List.toList_toArray, List.drop_zero]
  apply List.ext_getElem?
  intro i
  by_cases hi : i < 32
  · rw [List.getElem?_append_left (by simp; omega), List.getElem?_take, if_pos hi]
  · rw [List.getElem?_append_right (by simp; omega)]
    by_cases hi2 : i < 44
    · rw [List.getElem?_append_left (by simp; omega), List.getElem?_take, List.getElem?_drop]
      rw [if_pos (by simp; omega)]
      congr 1; simp; omega
    · rw [List.getElem?_append_right (by simp; omega), List.getElem?_take, List.getElem?_drop]
      by_cases hi3 : i < 45
      · rw [if_pos (by simp; omega)]
        congr 1; simp; omega
      · rw [if_neg (by simp; omega), List.getElem?_eq_none (by omega)]

end Go.Proofs.Ytaanncgkekmgoaa
