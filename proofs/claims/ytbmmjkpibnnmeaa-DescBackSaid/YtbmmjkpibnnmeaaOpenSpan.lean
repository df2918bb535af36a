/-
  Spans, opened: a slice of structs of two numbers as a list of pairs.
-/
import Derived.Test.YtbmmjkpibnnmeaaOpen2
import Derived.Test.YtbmmjkpibnnmeaaSpan
namespace Go.Proofs.Ytbmmjkpibnnmeaa
open Go Go.RowKit Go.ChangeShapes Go.WideShapes Go.ChangeAt Go.Deep

theorem open_spans {H : Type} {enc : TypeId × Value → H} {P : Program} {w : World} {t e : TypeId} {f0 f1 : Field} (ht : P.underlying t = some (.slice e)) (he : P.underlying e = some (.struct #[f0, f1]))
    (ce : P.cellsOf e = 2) (o0 : f0.offset = 0) (o1 : f1.offset = 1) (c0 : P.cellsOf f0.type = 1) (c1 : P.cellsOf f1.type = 1) (u0 : P.underlying f0.type = some (.int .i64)) (u1 : P.underlying f1.type = some (.int .i64))
    {a : Option Addr} {len cap base : Nat} {hd : Bool} {x : DataW H × List MemPlace} {fuel : Nat} (h : DataW.trod enc P w base (fun _ => true) hd fuel t (Value.slice a len cap).cells.toList = some x) :
    ∃ l, SpanR w a len cap l ∧ ∀ p ∈ l, (-9223372036854775808 ≤ p.1 ∧ p.1 ≤ 9223372036854775807) ∧ (-9223372036854775808 ≤ p.2 ∧ p.2 ≤ 9223372036854775807) := by
  rcases open_slice_pairs ht he ce o0 o1 c0 c1 h with ⟨hcs, _⟩ | ⟨ad, l, c, m, n, V0, V1, D0, D1, P0, P1, hcs, _, hl, hm, hmm, _, hx⟩
  · simp [Value.cells] at hcs
    obtain ⟨rfl, rfl, rfl⟩ := hcs
    exact ⟨[], SpanR.nil w, by intro p hp; cases hp⟩
  · simp [Value.cells] at hcs
    obtain ⟨rfl, rfl, rfl⟩ := hcs
    simp only [if_true] at hmm
    have each : ∀ i, i < m → ∃ p : Int × Int, w.cell? (ad.add (i * 2)) = some (iV p.1) ∧ w.cell? (ad.add (i * 2 + 1)) = some (iV p.2) ∧ ((-9223372036854775808 ≤ p.1 ∧ p.1 ≤ 9223372036854775807) ∧ (-9223372036854775808 ≤ p.2 ∧ p.2 ≤ 9223372036854775807)) := by
      intro i hi
      obtain ⟨h1, h2, h3, h4⟩ := hx i hi
      obtain ⟨k0, e0, _, w0⟩ := DataW.trod_int u0 h3
      obtain ⟨k1, e1, _, w1⟩ := DataW.trod_int u1 h4
      simp only [List.cons.injEq, and_true] at e0 e1
      exact ⟨(k0, k1), by rw [h1, e0], by rw [h2, e1], by have := bounds_i64 w0; omega, by have := bounds_i64 w1; omega⟩
    obtain ⟨q, hq⟩ := choose_lt each
    refine ⟨(List.range len).map q, ⟨by simp, hl, hm, fun e => (by cases e), fun hn => ?_⟩, fun p hp => ?_⟩
    · have h0 := (hq 0 (by omega)).1
      obtain ⟨b, off, spot⟩ := ad
      have hspot : spot = none := by simpa [Addr.add] using World.cell?_spot h0
      subst hspot
      refine ⟨b, off, rfl, World.block_lt_of_cell? w ⟨b, off, none⟩ (by simpa [Addr.add] using h0), fun j p hj => ?_⟩
      have hjl : j < len := by
        have := (List.getElem?_eq_some_iff.1 hj).1
        simpa using this
      have e : p = q j := by
        rw [List.getElem?_map, List.getElem?_range hjl] at hj
        exact (Option.some.inj hj).symm
      subst e
      have := hq j (by omega)
      rw [add_zero_spot, add_zero_spot] at this
      exact ⟨this.1, by rw [show off + j * 2 + 1 = off + (j * 2 + 1) by omega]; exact this.2.1⟩
    · obtain ⟨i, hi, rfl⟩ := List.mem_map.1 hp
      exact (hq i (by have := List.mem_range.1 hi; omega)).2.2
end Go.Proofs.Ytbmmjkpibnnmeaa
