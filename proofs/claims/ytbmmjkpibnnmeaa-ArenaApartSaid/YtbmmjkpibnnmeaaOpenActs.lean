/-
  Acts, opened: a slice of structs of four numbers, bytes, spans.
-/
import Derived.Test.YtbmmjkpibnnmeaaOpenSpan
import Derived.Test.YtbmmjkpibnnmeaaArena5
import Derived.Deep.Slices
import Derived.Deep.Fields
import Derived.ChangeSame
namespace Go.Proofs.Ytbmmjkpibnnmeaa
open Go Go.RowKit Go.ChangeShapes Go.WideShapes Go.ChangeAt Go.Deep
set_option linter.unusedSimpArgs false


/-- An act, as data: what, client, place, number; bytes; spans. -/
structure ActD where
  (x0 x1 x2 x3 : Int)
  (B : Option Addr) (nb cb : Nat) (bs : List UInt8)
  (L : Option Addr) (nl cl : Nat) (ls : List (Int × Int))
instance : Inhabited ActD := ⟨⟨0, 0, 0, 0, none, 0, 0, [], none, 0, 0, []⟩⟩
def ActOk (w : World) (a : ActD) : Prop := I64 a.x0 ∧ I64 a.x1 ∧ I64 a.x2 ∧ I64 a.x3 ∧ SB w a.B a.nb a.cb a.bs ∧ SpanR w a.L a.nl a.cl a.ls ∧ ∀ p ∈ a.ls, I64 p.1 ∧ I64 p.2
/-- The slice of acts '.slice A n c' reads as l. -/
def ActsR (w : World) (A : Option Addr) (n c : Nat) (l : List ActD) : Prop :=
  l.length = n ∧ n ≤ c ∧ c ≤ maxLen ∧ (A = none → c = 0) ∧ (∀ a ∈ l, ActOk w a) ∧ (0 < n → ∃ b off, A = some ⟨b, off, none⟩ ∧ b < w.heap.size ∧ ∀ (j : Nat) (a : ActD), l[j]? = some a →
    w.cell? ⟨b, off + j * 6, none⟩ = some (.int .i64 a.x0) ∧ w.cell? ⟨b, off + j * 6 + 1, none⟩ = some (.int .i64 a.x1) ∧ w.cell? ⟨b, off + j * 6 + 2, none⟩ = some (.int .i64 a.x2) ∧ w.cell? ⟨b, off + j * 6 + 3, none⟩ = some (.int .i64 a.x3) ∧
    w.cell? ⟨b, off + j * 6 + 4, none⟩ = some (.slice a.B a.nb a.cb) ∧ w.cell? ⟨b, off + j * 6 + 5, none⟩ = some (.slice a.L a.nl a.cl))

section
variable {H : Type} {enc : TypeId × Value → H} {P : Program} {w : World} {base : Nat} {spare : Nat → Bool} {held : Bool}
theorem open_slice_fields {t e : TypeId} {fs : Array Field} {fuel : Nat} {cs : List Value} {x : DataW H × List MemPlace} (ht : P.underlying t = some (.slice e)) (he : P.underlying e = some (.struct fs))
    (hone : oneCellFields P fs = true) (hC : P.cellsOf e = fs.size) (h : DataW.trod enc P w base spare held fuel t cs = some x) :
    (cs = [.slice none 0 0] ∧ x = (.nil, [])) ∨
    ∃ (a : Addr) (len cap m : Nat), cs = [.slice (some a) len cap] ∧ len ≤ cap ∧ cap ≤ maxLen ∧ m = (if spare a.block then cap else len) ∧
      ∀ i, i < m → ∃ n : Nat, ∀ (j : Nat) (f : Field), fs[j]? = some f → ∃ (v : Value) (y : DataW H × List MemPlace), w.cell? (a.add (i * fs.size + j)) = some v ∧ DataW.trod enc P w base spare held n f.type [v] = some y := by
  rcases open_slice ht h with h0 | ⟨a, len, cap, m, n, D, Pl, hcs, hb, hl, hm, hmm, hx, hi⟩
  · exact .inl h0
  · refine .inr ⟨a, len, cap, m, hcs, hl, hm, hmm, fun i him => ?_⟩
    obtain ⟨cs', hc, ht'⟩ := hi i him
    rw [hC] at hc
    obtain ⟨ys, n', hn', hy, hlen, hyl, hf⟩ := DataW.trod_struct he ht'
    obtain ⟨_, hcl, hat⟩ := World.cells?_some hc
    refine ⟨n', fun j f hj => ?_⟩
    obtain ⟨ho, hk⟩ := hone_of hone j f hj
    have hjl : j < fs.size := (Array.getElem?_eq_some_iff.1 hj).1
    have hcell := hat j hjl
    have hv : cs'[j]? = some (cs'[j]'(by omega)) := List.getElem?_eq_getElem (by omega)
    have h1 := hf j f hj
    rw [ho, hk] at h1
    have hone' : (cs'.drop j).take 1 = [cs'[j]'(by omega)] := by
      rw [List.drop_eq_getElem_cons (by omega)]
      rfl
    rw [hone'] at h1
    have hys : ys[j]? = some (ys[j]'(by omega)) := List.getElem?_eq_getElem (by omega)
    refine ⟨_, _, ?_, h1.trans hys⟩
    rw [← Go.Deep.add_add, hcell, hv]
end

theorem open_acts {H : Type} {enc : TypeId × Value → H} {w : World} {a : Option Addr} {len cap base : Nat} {hd : Bool} {x : DataW H × List MemPlace} {fuel : Nat}
    (h : DataW.trod enc Try.prog w base (fun _ => true) hd fuel 56 (Value.slice a len cap).cells.toList = some x) : ∃ l, ActsR w a len cap l := by
  have cb : Try.prog.cellsOf 5 = 1 := by kernel_rfl
  rcases open_slice_fields Try.underlying56 Try.underlying59 (by kernel_rfl) (by kernel_rfl) h with ⟨hcs, _⟩ | ⟨ad, l, c, m, hcs, hl, hm, hmm, hx⟩
  · simp [Value.cells] at hcs
    obtain ⟨rfl, rfl, rfl⟩ := hcs
    exact ⟨[], rfl, Nat.zero_le _, Nat.zero_le _, fun _ => rfl, (by intro a ha; cases ha), fun h => absurd h (by omega)⟩
  · simp [Value.cells] at hcs
    obtain ⟨rfl, rfl, rfl⟩ := hcs
    simp only [if_true] at hmm
    have each : ∀ i, i < m → ∃ q : ActD, ActOk w q ∧ w.cell? (ad.add (i * 6)) = some (.int .i64 q.x0) ∧ w.cell? (ad.add (i * 6 + 1)) = some (.int .i64 q.x1) ∧ w.cell? (ad.add (i * 6 + 2)) = some (.int .i64 q.x2) ∧ w.cell? (ad.add (i * 6 + 3)) = some (.int .i64 q.x3) ∧
        w.cell? (ad.add (i * 6 + 4)) = some (.slice q.B q.nb q.cb) ∧ w.cell? (ad.add (i * 6 + 5)) = some (.slice q.L q.nl q.cl) := by
      intro i hi
      obtain ⟨n, hf⟩ := hx i hi
      obtain ⟨v0, y0, c0, t0⟩ := hf 0 _ rfl
      obtain ⟨v1, y1, c1, t1⟩ := hf 1 _ rfl
      obtain ⟨v2, y2, c2, t2⟩ := hf 2 _ rfl
      obtain ⟨v3, y3, c3, t3⟩ := hf 3 _ rfl
      obtain ⟨v4, y4, c4, t4⟩ := hf 4 _ rfl
      obtain ⟨v5, y5, c5, t5⟩ := hf 5 _ rfl
      obtain ⟨k0, e0, _, w0⟩ := DataW.trod_int Try.underlying3 t0
      obtain ⟨k1, e1, _, w1⟩ := DataW.trod_int Try.underlying3 t1
      obtain ⟨k2, e2, _, w2⟩ := DataW.trod_int Try.underlying3 t2
      obtain ⟨k3, e3, _, w3⟩ := DataW.trod_int Try.underlying3 t3
      simp only [List.cons.injEq, and_true] at e0 e1 e2 e3
      obtain ⟨B, nb, cb', bs, e4, hsb⟩ := open_bytes1 Try.underlying44 Try.underlying5 cb t4
      have h5 : ∃ L nl cl, v5 = .slice L nl cl := by
        rcases open_slice Try.underlying22 t5 with ⟨h5, _⟩ | ⟨a5, l5, cp5, _, _, _, _, h5, _⟩
        · simp only [List.cons.injEq, and_true] at h5; exact ⟨_, _, _, h5⟩
        · simp only [List.cons.injEq, and_true] at h5; exact ⟨_, _, _, h5⟩
      obtain ⟨L, nl, cl, e5⟩ := h5
      subst e5
      obtain ⟨ls, hls, hwf⟩ := open_spans (a := L) (len := nl) (cap := cl) Try.underlying22 Try.underlying29 (by kernel_rfl) rfl rfl (by kernel_rfl) (by kernel_rfl) Try.underlying3 Try.underlying3 (by simpa [Value.cells] using t5)
      subst e0 e1 e2 e3 e4
      exact ⟨⟨k0, k1, k2, k3, B, nb, cb', bs, L, nl, cl, ls⟩, ⟨bounds_i64 w0, bounds_i64 w1, bounds_i64 w2, bounds_i64 w3, hsb, hls, hwf⟩, c0, c1, c2, c3, c4, c5⟩
    obtain ⟨q, hq⟩ := choose_lt (α := ActD) each
    refine ⟨(List.range len).map q, by simp, hl, hm, fun e => (by cases e), fun a ha => ?_, fun hn => ?_⟩
    · obtain ⟨i, hi, rfl⟩ := List.mem_map.1 ha
      exact (hq i (by have := List.mem_range.1 hi; omega)).1
    · have h0 := (hq 0 (by omega)).2.1
      obtain ⟨b, off, spot⟩ := ad
      have hspot : spot = none := by simpa [Addr.add] using World.cell?_spot h0
      subst hspot
      refine ⟨b, off, rfl, World.block_lt_of_cell? w ⟨b, off, none⟩ (by simpa [Addr.add] using h0), fun j p hj => ?_⟩
      have hjl : j < len := by
        have := (List.getElem?_eq_some_iff.1 hj).1
        simpa using this
      have e : p = q j := by
        rw [List.getElem?_map, List.getElem?_range hjl] at hj
        exact (Option.some.inj hj).symm
      subst e
      obtain ⟨_, h0, h1, h2, h3, h4, h5⟩ := hq j (by omega)
      rw [add_zero_spot] at h0 h1 h2 h3 h4 h5
      exact ⟨h0, h1, h2, h3, h4, h5⟩

end Go.Proofs.Ytbmmjkpibnnmeaa
