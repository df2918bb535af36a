/-
  Layer 4's other argument, opened: a key, bytes, which one is turned, and how.
-/
import Derived.Test.YtaanncgkekmgoaaOpen2
import Derived.Test.YtaanncgkekmgoaaChacha1
import Derived.Deep.Strs
import Derived.Lib.SmallJoins
namespace Go.Proofs.Ytaanncgkekmgoaa
open Go Go.RowKit Go.ChangeShapes Go.WideShapes Go.ChangeAt
set_option linter.unusedSimpArgs false

theorem trod_key {H : Type} {enc : TypeId × Value → H} {w : World} {base : Nat} {spare : Nat → Bool} {held : Bool} {fuel : Nat} {cs : List Value} {x : DataW H × List MemPlace}
    (hf : DataW.trod enc Try.prog w base spare held fuel 26 cs = some x) :
    ∃ (key nonce : List UInt8) (ctr : UInt32), key.length = 32 ∧ nonce.length = 12 ∧ cs = key.map b8 ++ (nonce.map b8 ++ [b32 ctr]) := by
  obtain ⟨y0, y1, y2, n, _, hl, h0, h1, h2⟩ := Go.Deep.trod_struct3 Try.underlying26 hf
  have hC : Try.prog.cellsOf 26 = 45 := by kernel_rfl
  have c0 : Try.prog.cellsOf 22 = 32 := by kernel_rfl
  have c1 : Try.prog.cellsOf 23 = 12 := by kernel_rfl
  have c2 : Try.prog.cellsOf 24 = 1 := by kernel_rfl
  have cb : Try.prog.cellsOf 5 = 1 := by kernel_rfl
  rw [hC] at hl
  simp only [c0, c1, c2] at h0 h1 h2
  obtain ⟨key, hk1, hk2⟩ := trod_u8s Try.underlying22 cb c0 Try.underlying5 h0
  obtain ⟨nonce, hn1, hn2⟩ := trod_u8s Try.underlying23 cb c1 Try.underlying5 h1
  obtain ⟨x, hx1, _, hx3⟩ := DataW.trod_int Try.underlying24 h2
  obtain ⟨ctr, rfl⟩ := of_u32 hx3
  refine ⟨key, nonce, ctr, hk1, hn1, ?_⟩
  rw [← hk2, ← hn2, show [b32 ctr] = _ from hx1.symm]
  simp only [List.drop_zero]
  apply List.ext_getElem?
  intro i
  by_cases hi : i < 32
  · rw [List.getElem?_append_left (by simp; omega), List.getElem?_take, if_pos hi]
  · rw [List.getElem?_append_right (by simp; omega)]
    by_cases hi2 : i < 44
    · rw [List.getElem?_append_left (by simp; omega), List.getElem?_take, List.getElem?_drop]
      rw [if_pos (by simp; omega)]
      congr 1; simp; omega
    · rw [List.getElem?_append_right (by simp; omega), List.getElem?_take, List.getElem?_drop]
      by_cases hi3 : i < 45
      · rw [if_pos (by simp; omega)]
        congr 1; simp; omega
      · rw [if_neg (by simp; omega), List.getElem?_eq_none (by omega)]

theorem open_local {H : Type} {enc : TypeId × Value → H} {w w0 : World} {base : Nat} {hd : Bool} {v : Value} {d : DataW H} {p : List MemPlace} {r : Reach} {b0 : Nat}
    (hv : Value.okWide Try.prog w0 r b0 47 v) (h : DataW.Trod enc Try.prog w base (fun _ => true) hd 47 v d p) :
    ∃ (key nonce : List UInt8) (ctr : UInt32) (A : Option Addr) (l c : Nat) (bs : List UInt8) (a : UInt16) (y : UInt8), key.length = 32 ∧ nonce.length = 12 ∧ SB w A l c bs ∧
      v = .agg ((key.map b8 ++ (nonce.map b8 ++ [b32 ctr])) ++ [Value.slice A l c, Value.int .u16 a.toNat, Value.int .u8 y.toNat]).toArray := by
  obtain ⟨cs, rfl, hsz⟩ := okWide_struct Try.underlying47 hv
  obtain ⟨fuel, hf⟩ := h
  obtain ⟨y0, y1, y2, y3, n, _, hl, h0, h1, h2, h3⟩ := Go.Joins.trod_struct4 Try.underlying47 hf
  have hC : Try.prog.cellsOf 47 = 48 := by kernel_rfl
  have c0 : Try.prog.cellsOf 26 = 45 := by kernel_rfl
  have c1 : Try.prog.cellsOf 32 = 1 := by kernel_rfl
  have c2 : Try.prog.cellsOf 37 = 1 := by kernel_rfl
  have c3 : Try.prog.cellsOf 5 = 1 := by kernel_rfl
  have hl2 : cs.toList.length = 48 := by rw [Array.length_toList, hsz, hC]
  simp only [c0, c1, c2, c3, Value.cells] at h0 h1 h2 h3
  obtain ⟨key, nonce, ctr, hk, hn, hz⟩ := trod_key h0
  have at1 : ∀ i, (hi : i < 48) → (cs.toList.drop i).take 1 = [cs.toList[i]'(by omega)] := fun i hi => by
    rw [List.drop_eq_getElem_cons (by omega)]; rfl
  rw [at1 45 (by omega)] at h1
  obtain ⟨A, l, c, bs, hA, hsb⟩ := open_bytes1 Try.underlying32 Try.underlying5 c3 h1
  obtain ⟨a, ha1, _, ha3⟩ := DataW.trod_int Try.underlying37 h2
  obtain ⟨a, rfl⟩ := of_u16 ha3
  obtain ⟨y, hy1, _, hy3⟩ := DataW.trod_int Try.underlying5 h3
  obtain ⟨y, rfl⟩ := of_u8 hy3
  refine ⟨key, nonce, ctr, A, l, c, bs, a, y, hk, hn, hsb, ?_⟩
  congr 1
  apply Array.toList_inj.1
  show cs.toList = (key.map b8 ++ (nonce.map b8 ++ [b32 ctr])) ++ ([Value.slice A l c] ++ ([Value.int .u16 a.toNat] ++ [Value.int .u8 y.toNat]))
  rw [← hz, ← hA, ← ha1, ← hy1, ← at1 45 (by omega)]
  simp only [List.drop_zero]
  apply List.ext_getElem?
  intro i
  by_cases hi : i < 45
  · rw [List.getElem?_append_left (by simp; omega), List.getElem?_take, if_pos hi]
  · rw [List.getElem?_append_right (by simp; omega)]
    by_cases hi2 : i < 46
    · rw [List.getElem?_append_left (by simp; omega), List.getElem?_take, List.getElem?_drop, if_pos (by simp; omega)]
      congr 1; simp; omega
    · rw [List.getElem?_append_right (by simp; omega)]
      by_cases hi3 : i < 47
      · rw [List.getElem?_append_left (by simp; omega), List.getElem?_take, List.getElem?_drop, if_pos (by simp; omega)]
        congr 1; simp; omega
      · rw [List.getElem?_append_right (by simp; omega), List.getElem?_take, List.getElem?_drop]
        by_cases hi4 : i < 48
        · rw [if_pos (by simp; omega)]
          congr 1; simp; omega
        · rw [if_neg (by simp; omega), List.getElem?_eq_none (by omega)]

end Go.Proofs.Ytaanncgkekmgoaa
