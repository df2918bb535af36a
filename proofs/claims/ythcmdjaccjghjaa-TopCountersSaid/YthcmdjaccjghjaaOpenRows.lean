/-
  Rows of bytes, opened: a slice of slices of bytes as a list of lists.
-/
import Derived.Test.YthcmdjaccjghjaaOpen2
import Derived.Deep.Matrix
namespace Go.Proofs.Ythcmdjaccjghjaa
open Go Go.RowKit Go.ChangeShapes Go.WideShapes Go.ChangeAt

/-- The slice of slices '.slice A n c' reads as ls. -/
def RowsB (w : World) (A : Option Addr) (n c : Nat) (ls : List (List UInt8)) : Prop :=
  ls.length = n ∧ n ≤ c ∧ c ≤ maxLen ∧ (A = none → c = 0) ∧ (0 < n → ∃ b off, A = some ⟨b, off, none⟩ ∧ b < w.heap.size ∧ ∀ i, i < n → ∃ Ai ci, w.cell? ⟨b, off + i, none⟩ = some (.slice Ai (ls.getD i []).length ci) ∧ SB w Ai (ls.getD i []).length ci (ls.getD i []))
theorem RowsB.grows {w w' : World} {A : Option Addr} {n c : Nat} {ls : List (List UInt8)} (h : RowsB w A n c ls) (hg : Grows w w') : RowsB w' A n c ls :=
  ⟨h.1, h.2.1, h.2.2.1, h.2.2.2.1, fun hn => by
    obtain ⟨b, off, e, hb, hc⟩ := h.2.2.2.2 hn
    refine ⟨b, off, e, hg.lt hb, fun i hi => ?_⟩
    obtain ⟨Ai, ci, h1, h2⟩ := hc i hi
    exact ⟨Ai, ci, (hg.cell (p := ⟨b, off + i, none⟩) hb).trans h1, h2.grows hg⟩⟩

theorem open_rows {H : Type} {enc : TypeId × Value → H} {P : Program} {w : World} {t e q : TypeId} (ht : P.underlying t = some (.slice e)) (he : P.underlying e = some (.slice q)) (hq : P.underlying q = some (.int .u8)) (ce : P.cellsOf e = 1) (cq : P.cellsOf q = 1)
    {a : Option Addr} {len cap base : Nat} {hd : Bool} {x : DataW H × List MemPlace} {fuel : Nat} (h : DataW.trod enc P w base (fun _ => true) hd fuel t (Value.slice a len cap).cells.toList = some x) :
    ∃ ls, RowsB w a len cap ls := by
  rcases Go.Deep.open_int_rows ht he hq ce cq h with ⟨hcs, _⟩ | ⟨ad, l, c, A, L, C, Z, hcs, _, hl, hm, _, hrows⟩
  · simp [Value.cells] at hcs
    obtain ⟨rfl, rfl, rfl⟩ := hcs
    exact ⟨[], rfl, Nat.zero_le _, Nat.zero_le _, fun _ => rfl, fun h => absurd h (by omega)⟩
  · simp [Value.cells] at hcs
    obtain ⟨rfl, rfl, rfl⟩ := hcs
    have key : ∀ r, r < cap → ∃ bs : List UInt8, SB w (A r) (L r) (C r) bs := by
      intro r hr
      obtain ⟨h1, h2, h3, h4, h5, h6, h7⟩ := hrows r hr
      obtain ⟨bs, hbs⟩ := bytes_of h5
      have hlb : bs.length = C r := by rw [← h4, hbs]; simp
      refine ⟨bs.take (L r), by simp; omega, h2, h3, h6, fun hn => ?_⟩
      cases hA : A r with
      | none => have := h6 hA; omega
      | some a' =>
        obtain ⟨_, h8⟩ := h7 a' hA
        have hc0 := h8 0 (by omega)
        obtain ⟨b, off, spot⟩ := a'
        have hspot : spot = none := by simpa [Addr.add] using World.cell?_spot hc0
        subst hspot
        refine ⟨b, off, rfl, World.block_lt_of_cell? w ⟨b, off, none⟩ (by simpa [Addr.add] using hc0), fun j hj => ?_⟩
        have hj' : j < bs.length := by omega
        have hcj := h8 j (by omega)
        rw [add_zero_spot] at hcj
        rw [hcj, hbs]
        simp [hj, hj', List.getD]
    have hex : ∃ f : Nat → List UInt8, ∀ r, r < cap → SB w (A r) (L r) (C r) (f r) := by
      refine ⟨fun r => if h : r < cap then (key r h).choose else [], fun r hr => ?_⟩
      simp only [hr, dif_pos]
      exact (key r hr).choose_spec
    obtain ⟨f, hf⟩ := hex
    refine ⟨(List.range len).map f, by simp, hl, hm, fun e => (by cases e), fun hn => ?_⟩
    have h0 := (hrows 0 (by omega)).1
    obtain ⟨b, off, spot⟩ := ad
    have hspot : spot = none := by simpa [Addr.add] using World.cell?_spot h0
    subst hspot
    refine ⟨b, off, rfl, World.block_lt_of_cell? w ⟨b, off, none⟩ (by simpa [Addr.add] using h0), fun i hi => ?_⟩
    have hg : ((List.range len).map f).getD i [] = f i := by simp [List.getD_eq_getElem?_getD, hi]
    have hsi := hf i (by omega)
    refine ⟨A i, C i, ?_, ?_⟩
    · have := (hrows i (by omega)).1
      rw [add_zero_spot] at this
      rw [this, hg, hsi.len]
    · rw [hg, hsi.len]
      exact hsi
end Go.Proofs.Ythcmdjaccjghjaa
