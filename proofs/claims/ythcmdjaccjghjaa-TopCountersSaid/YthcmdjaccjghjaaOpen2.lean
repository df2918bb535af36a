/-
  The arguments of a law, opened: arrays and structs by value.
-/
import Derived.Test.YthcmdjaccjghjaaOpen
namespace Go.Proofs.Ythcmdjaccjghjaa
open Go Go.RowKit Go.ChangeShapes Go.WideShapes Go.ChangeAt

theorem okWide_array {P : Program} {w : World} {t : TypeId} {n : Nat} {e : TypeId} {r : Reach} {b0 : Nat} {v : Value} (ht : P.underlying t = some (.array n e)) (h : Value.okWide P w r b0 t v) : ∃ cs, v = .agg cs := by
  simp only [Value.okWide, ht] at h
  obtain ⟨cs, h1, _⟩ := h
  exact ⟨cs, h1⟩

section
variable {H : Type} {enc : TypeId × Value → H} {P : Program} {w : World} {base : Nat} {spare : Nat → Bool} {held : Bool} {fuel : Nat} {t : TypeId} {cs : List Value} {x : DataW H × List MemPlace}

theorem trod_cells1 {α : Type} (F : α → Value) {n : Nat} {e : TypeId} (ht : P.underlying t = some (.array n e)) (hc : P.cellsOf e = 1) (hct : P.cellsOf t = n)
    (he : ∀ m c y, DataW.trod enc P w base spare held m e [c] = some y → ∃ a : α, c = F a) (h : DataW.trod enc P w base spare held fuel t cs = some x) :
    ∃ l : List α, l.length = n ∧ cs = l.map F := by
  obtain ⟨xs, m, _, _, hl, hx, hi⟩ := DataW.trod_array ht h
  rw [hct] at hl
  simp only [hc, Nat.mul_one] at hi
  have key : ∀ (k : Nat), k ≤ n → ∃ l : List α, l.length = k ∧ cs.take k = l.map F := by
    intro k
    induction k with
    | zero => intro _; exact ⟨[], rfl, by simp⟩
    | succ k ih =>
      intro hk
      obtain ⟨l, h1, h2⟩ := ih (by omega)
      have hb := hi k (by omega)
      rw [List.getElem?_eq_getElem (by omega)] at hb
      have e1 : (cs.drop k).take 1 = [cs[k]'(by omega)] := by
        rw [List.drop_eq_getElem_cons (by omega)]; rfl
      rw [e1] at hb
      obtain ⟨a, ha⟩ := he _ _ _ hb
      refine ⟨l ++ [a], by simp [h1], ?_⟩
      rw [List.take_add_one, h2, List.getElem?_eq_getElem (by omega), ha]
      simp
  obtain ⟨l, h1, h2⟩ := key n (Nat.le_refl _)
  exact ⟨l, h1, by rw [← h2, List.take_of_length_le (by omega)]⟩

theorem trod_u8s {n : Nat} {e : TypeId} (ht : P.underlying t = some (.array n e)) (hc : P.cellsOf e = 1) (hct : P.cellsOf t = n) (he : P.underlying e = some (.int .u8))
    (h : DataW.trod enc P w base spare held fuel t cs = some x) : ∃ l : List UInt8, l.length = n ∧ cs = l.map b8 :=
  trod_cells1 b8 ht hc hct (fun m c y hy => by
    obtain ⟨k, h1, _, h3⟩ := DataW.trod_int he hy
    obtain ⟨z, rfl⟩ := of_u8 h3
    exact ⟨z, by simpa using h1⟩) h

theorem trod_u32s {n : Nat} {e : TypeId} (ht : P.underlying t = some (.array n e)) (hc : P.cellsOf e = 1) (hct : P.cellsOf t = n) (he : P.underlying e = some (.int .u32))
    (h : DataW.trod enc P w base spare held fuel t cs = some x) : ∃ l : List UInt32, l.length = n ∧ cs = l.map fun z => Value.int .u32 (z.toNat : Int) :=
  trod_cells1 (fun z : UInt32 => Value.int .u32 (z.toNat : Int)) ht hc hct (fun m c y hy => by
    obtain ⟨k, h1, _, h3⟩ := DataW.trod_int he hy
    obtain ⟨z, rfl⟩ := of_u32 h3
    exact ⟨z, by simpa using h1⟩) h

/-- An array of bytes, by value. -/
theorem open_u8s {n : Nat} {e : TypeId} {v : Value} {d : DataW H} {p : List MemPlace} {r : Reach} {b0 : Nat} {w0 : World} (ht : P.underlying t = some (.array n e)) (hc : P.cellsOf e = 1) (hct : P.cellsOf t = n) (he : P.underlying e = some (.int .u8))
    (hv : Value.okWide P w0 r b0 t v) (h : DataW.Trod enc P w base spare held t v d p) : ∃ l : List UInt8, l.length = n ∧ v = .agg (l.map b8).toArray := by
  obtain ⟨cs, rfl⟩ := okWide_array ht hv
  obtain ⟨fuel, hf⟩ := h
  obtain ⟨l, h1, h2⟩ := trod_u8s ht hc hct he hf
  refine ⟨l, h1, ?_⟩
  congr 1
  apply Array.toList_inj.1
  simpa [Value.cells] using h2
theorem open_u32s {n : Nat} {e : TypeId} {v : Value} {d : DataW H} {p : List MemPlace} {r : Reach} {b0 : Nat} {w0 : World} (ht : P.underlying t = some (.array n e)) (hc : P.cellsOf e = 1) (hct : P.cellsOf t = n) (he : P.underlying e = some (.int .u32))
    (hv : Value.okWide P w0 r b0 t v) (h : DataW.Trod enc P w base spare held t v d p) : ∃ l : List UInt32, l.length = n ∧ v = .agg (l.map fun z => Value.int .u32 (z.toNat : Int)).toArray := by
  obtain ⟨cs, rfl⟩ := okWide_array ht hv
  obtain ⟨fuel, hf⟩ := h
  obtain ⟨l, h1, h2⟩ := trod_u32s ht hc hct he hf
  refine ⟨l, h1, ?_⟩
  congr 1
  apply Array.toList_inj.1
  simpa [Value.cells] using h2

/-- One cell that is a slice of bytes. -/
theorem open_bytes1 {e : TypeId} (ht : P.underlying t = some (.slice e)) (he : P.underlying e = some (.int .u8)) (hc : P.cellsOf e = 1) {hd : Bool} {v : Value}
    (h : DataW.trod enc P w base (fun _ => true) hd fuel t [v] = some x) : ∃ a n c bs, v = .slice a n c ∧ SB w a n c bs := by
  rcases open_ints ht he hc h with ⟨hcs, _⟩ | ⟨ad, l, c, zs, hcs, _⟩
  · simp at hcs
    subst hcs
    exact ⟨_, _, _, _, rfl, SB.nil w⟩
  · simp at hcs
    subst hcs
    obtain ⟨bs, hb⟩ := open_bytes (a := some ad) (len := l) (cap := c) ht he hc (by simpa [Value.cells] using h)
    exact ⟨_, _, _, bs, rfl, hb⟩
end

end Go.Proofs.Ythcmdjaccjghjaa
