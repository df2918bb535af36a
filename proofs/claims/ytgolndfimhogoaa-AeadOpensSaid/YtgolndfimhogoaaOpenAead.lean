/-
  Layer 11's argument, opened: three slices of bytes.
-/
import Derived.Test.YtgolndfimhogoaaOpen2
import Derived.Deep.Strs
import Derived.Lib.SmallJoins
namespace Go.Proofs.Ytgolndfimhogoaa
open Go Go.RowKit Go.ChangeShapes Go.WideShapes Go.ChangeAt
set_option linter.unusedSimpArgs false


theorem open_aead {H : Type} {enc : TypeId × Value → H} {w w0 : World} {base : Nat} {hd : Bool} {v : Value} {d : DataW H} {p : List MemPlace} {r : Reach} {b0 : Nat}
    (hv : Value.okWide Try.prog w0 r b0 24 v) (h : DataW.Trod enc Try.prog w base (fun _ => true) hd 24 v d p) :
    ∃ (D : Option Addr) (nk c0 : Nat) (key : List UInt8) (E : Option Addr) (nn d0 : Nat) (nonce : List UInt8) (A : Option Addr) (na c : Nat) (aad : List UInt8), SB w D nk c0 key ∧ SB w E nn d0 nonce ∧ SB w A na c aad ∧ v = .agg #[.slice D nk c0, .slice E nn d0, .slice A na c] := by
  obtain ⟨cs, rfl, hsz⟩ := okWide_struct Try.underlying24 hv
  obtain ⟨fuel, hf⟩ := h
  obtain ⟨y0, y1, y2, n, _, hl, h0, h1, h2⟩ := Go.Deep.trod_struct3 Try.underlying24 hf
  have hC : Try.prog.cellsOf 24 = 3 := by kernel_rfl
  have c1 : Try.prog.cellsOf 22 = 1 := by kernel_rfl
  have cb : Try.prog.cellsOf 5 = 1 := by kernel_rfl
  rw [hC] at hsz
  obtain ⟨ls⟩ := cs
  match ls, hsz with
  | [a, b, c], _ =>
    simp only [c1, Value.cells] at h0 h1 h2
    obtain ⟨A0, l0, k0, bs0, rfl, s0⟩ := open_bytes1 Try.underlying22 Try.underlying5 cb h0
    obtain ⟨A1, l1, k1, bs1, rfl, s1⟩ := open_bytes1 Try.underlying22 Try.underlying5 cb h1
    obtain ⟨A2, l2, k2, bs2, rfl, s2⟩ := open_bytes1 Try.underlying22 Try.underlying5 cb h2
    exact ⟨A0, l0, k0, bs0, A1, l1, k1, bs1, A2, l2, k2, bs2, s0, s1, s2, rfl⟩

end Go.Proofs.Ytgolndfimhogoaa
