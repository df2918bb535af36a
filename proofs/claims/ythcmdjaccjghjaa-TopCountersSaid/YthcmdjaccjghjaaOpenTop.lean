/-
  The theorems' argument, opened: a key of 32 bytes, whether it is long, an IV of 16 bytes.
-/
import Derived.Test.YthcmdjaccjghjaaOpen2
import Derived.Test.YthcmdjaccjghjaaTop1
import Derived.Deep.Strs
import Derived.Lib.SmallJoins
import Derived.ChangeArms
namespace Go.Proofs.Ythcmdjaccjghjaa
open Go Go.RowKit Go.ChangeShapes Go.WideShapes Go.ChangeAt
set_option linter.unusedSimpArgs false

theorem open_key {H : Type} {enc : TypeId × Value → H} {w w0 : World} {base : Nat} {hd : Bool} {v : Value} {d : DataW H} {p : List MemPlace} {r : Reach} {b0 : Nat}
    (hv : Value.okWide Try.prog w0 r b0 25 v) (h : DataW.Trod enc Try.prog w base (fun _ => true) hd 25 v d p) :
    ∃ (K : List UInt8) (L : Bool) (IV : List UInt8), K.length = 32 ∧ IV.length = 16 ∧ v = .agg (keyV K L IV) := by
  obtain ⟨cs, rfl, hsz⟩ := okWide_struct Try.underlying25 hv
  obtain ⟨fuel, hf⟩ := h
  obtain ⟨y0, y1, y2, n, _, hl, h0, h1, h2⟩ := Go.Deep.trod_struct3 Try.underlying25 hf
  have hC : Try.prog.cellsOf 25 = 49 := by kernel_rfl
  have c0 : Try.prog.cellsOf 22 = 32 := by kernel_rfl
  have c1 : Try.prog.cellsOf 4 = 1 := by kernel_rfl
  have c2 : Try.prog.cellsOf 23 = 16 := by kernel_rfl
  have cb : Try.prog.cellsOf 5 = 1 := by kernel_rfl
  have hl2 : cs.toList.length = 49 := by rw [Array.length_toList, hsz, hC]
  simp only [c0, c1, c2, Value.cells] at h0 h1 h2
  obtain ⟨K, hb1, hb2⟩ := trod_u8s Try.underlying22 cb c0 Try.underlying5 h0
  obtain ⟨L, hL, _⟩ := DataW.trod_bool Try.underlying4 h1
  obtain ⟨IV, hi1, hi2⟩ := trod_u8s Try.underlying23 cb c2 Try.underlying5 h2
  refine ⟨K, L, IV, hb1, hi1, ?_⟩
  congr 1
  unfold keyV
  apply Array.toList_inj.1
  show cs.toList = K.map b8 ++ ([Value.bool L] ++ IV.map b8)
  rw [← hb2, ← hL, ← hi2]
  simp only [List.drop_zero]
  apply List.ext_getElem?
  intro i
  by_cases hi : i < 32
  · rw [List.getElem?_append_left (by simp; omega), List.getElem?_take, if_pos hi]
  · rw [List.getElem?_append_right (by simp; omega)]
    by_cases hi2 : i < 33
    · rw [List.getElem?_append_left (by simp; omega), List.getElem?_take, List.getElem?_drop, if_pos (by simp; omega)]
      congr 1; simp; omega
    · rw [List.getElem?_append_right (by simp; omega), List.getElem?_take, List.getElem?_drop]
      by_cases hi4 : i < 49
      · rw [if_pos (by simp; omega)]
        congr 1; simp; omega
      · rw [if_neg (by simp; omega), List.getElem?_eq_none (by omega)]
end Go.Proofs.Ythcmdjaccjghjaa
