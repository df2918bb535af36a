/-
  Layer 6's argument, opened: a key, bytes, two lengths.
-/
import Derived.Test.YtlnldflnanllmaaOpen2
import Derived.Deep.Strs
import Derived.Lib.SmallJoins
namespace Go.Proofs.Ytlnldflnanllmaa
open Go Go.RowKit Go.ChangeShapes Go.WideShapes Go.ChangeAt
set_option linter.unusedSimpArgs false


theorem open_hash {H : Type} {enc : TypeId × Value → H} {w w0 : World} {base : Nat} {hd : Bool} {v : Value} {d : DataW H} {p : List MemPlace} {r : Reach} {b0 : Nat}
    (hv : Value.okWide Try.prog w0 r b0 35 v) (h : DataW.Trod enc Try.prog w base (fun _ => true) hd 35 v d p) :
    ∃ (hs : List UInt8) (A : Option Addr) (l c : Nat) (bs : List UInt8) (N M : Int), hs.length = 16 ∧ SB w A l c bs ∧ v = .agg (hs.map b8 ++ [Value.slice A l c, .int .i64 N, .int .i64 M]).toArray := by
  obtain ⟨cs, rfl, hsz⟩ := okWide_struct Try.underlying35 hv
  obtain ⟨fuel, hf⟩ := h
  obtain ⟨y0, y1, y2, y3, n, _, hl, h0, h1, h2, h3⟩ := Go.Joins.trod_struct4 Try.underlying35 hf
  have hC : Try.prog.cellsOf 35 = 19 := by kernel_rfl
  have c0 : Try.prog.cellsOf 22 = 16 := by kernel_rfl
  have c1 : Try.prog.cellsOf 29 = 1 := by kernel_rfl
  have c2 : Try.prog.cellsOf 3 = 1 := by kernel_rfl
  have cb : Try.prog.cellsOf 5 = 1 := by kernel_rfl
  have hl2 : cs.toList.length = 19 := by rw [Array.length_toList, hsz, hC]
  simp only [c0, c1, c2, Value.cells] at h0 h1 h2 h3
  obtain ⟨hs, hb1, hb2⟩ := trod_u8s Try.underlying22 cb c0 Try.underlying5 h0
  have at1 : ∀ i, (hi : i < 19) → (cs.toList.drop i).take 1 = [cs.toList[i]'(by omega)] := fun i hi => by
    rw [List.drop_eq_getElem_cons (by omega)]; rfl
  rw [at1 16 (by omega)] at h1
  obtain ⟨A, l, c, bs, hA, hsb⟩ := open_bytes1 Try.underlying29 Try.underlying5 cb h1
  obtain ⟨N, hN, _, _⟩ := DataW.trod_int Try.underlying3 h2
  obtain ⟨M, hM, _, _⟩ := DataW.trod_int Try.underlying3 h3
  refine ⟨hs, A, l, c, bs, N, M, hb1, hsb, ?_⟩
  congr 1
  apply Array.toList_inj.1
  show cs.toList = hs.map b8 ++ ([Value.slice A l c] ++ ([Value.int .i64 N] ++ [Value.int .i64 M]))
  rw [← hb2, ← hA, ← hN, ← hM, ← at1 16 (by omega)]
  simp only [List.drop_zero]
  apply List.ext_getElem?
  intro i
  by_cases hi : i < 16
  · rw [List.getElem?_append_left (by simp; omega), List.getElem?_take, if_pos hi]
  · rw [List.getElem?_append_right (by simp; omega)]
    by_cases hi2 : i < 17
    · rw [List.getElem?_append_left (by simp; omega), List.getElem?_take, List.getElem?_drop, if_pos (by simp; omega)]
      congr 1; simp; omega
    · rw [List.getElem?_append_right (by simp; omega)]
      by_cases hi3 : i < 18
      · rw [List.getElem?_append_left (by simp; omega), List.getElem?_take, List.getElem?_drop, if_pos (by simp; omega)]
        congr 1; simp; omega
      · rw [List.getElem?_append_right (by simp; omega), List.getElem?_take, List.getElem?_drop]
        by_cases hi4 : i < 19
        · rw [if_pos (by simp; omega)]
          congr 1; simp; omega
        · rw [if_neg (by simp; omega), List.getElem?_eq_none (by omega)]

end Go.Proofs.Ytlnldflnanllmaa
