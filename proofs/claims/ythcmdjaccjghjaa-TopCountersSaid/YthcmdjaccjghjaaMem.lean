/-
  Words for memory: a slice that reads as a list, a block that is known whole, what a call hands back in new memory.
  Plain theorems over any program.
-/
import Derived.Test.YthcmdjaccjghjaaMono
import Derived.Test.YthcmdjaccjghjaaNum
import Derived.Laws.OwnMore
import Derived.Deep.Draws
import Derived.OneCell
import Derived.Deep.OwnRows
import Derived.OwnWalk
namespace Go.Proofs.Ythcmdjaccjghjaa
open Go Go.RowKit

theorem lib_hid {p : Prop} (h : p) : Hid p := h

/-- A byte, as a cell. -/
abbrev b8 (x : UInt8) : Value := .int .u8 (x.toNat : Int)

/-- The slice value '.slice A n c' reads as xs (a cell an element). -/
def Row (w : World) (A : Option Addr) (n c : Nat) (xs : List Value) : Prop :=
  xs.length = n ∧ n ≤ c ∧ c ≤ maxLen ∧ (A = none → c = 0) ∧ (0 < n → ∃ b off, A = some ⟨b, off, none⟩ ∧ b < w.heap.size ∧ ∀ j, j < n → w.cell? ⟨b, off + j, none⟩ = xs[j]?)

def Blk (w : World) (g : Nat) (t : TypeId) (cs : Array Value) : Prop := w.heap[g]? = some (.cells cs t (0, 0))

section
variable {w w' : World} {A : Option Addr} {n c g : Nat} {xs : List Value} {t : TypeId} {cs : Array Value}

theorem Grows.cell (h : Grows w w') {p : Addr} (hp : p.block < w.heap.size) : w'.cell? p = w.cell? p := Below.cell h hp
theorem Grows.frozen (h : Grows w w') {p : Addr} (hp : p.block < w.heap.size) : w'.frozen? p = w.frozen? p := Below.frozen h hp
theorem Grows.heap (h : Grows w w') {g : Nat} (hg : g < w.heap.size) : w'.heap[g]? = w.heap[g]? := Below.block h g hg
theorem Grows.lt (h : Grows w w') {g : Nat} (hg : g < w.heap.size) : g < w'.heap.size := Nat.lt_of_lt_of_le hg (Below.size h)
theorem Grows.le (h : Grows w w') : w.heap.size ≤ w'.heap.size := Below.size h
theorem Grows.setCell {a : World} (h : Grows a w) {p : Addr} (hp : a.heap.size ≤ p.block) (u : Value) : Grows a (w.setCell p u) := Below.setCell h hp u
theorem Grows.below {B : Nat} (h : Grows w w') (hB : B ≤ w.heap.size) : Below B w w' := Below.mono h hB
theorem below_grows {B : Nat} {a : World} (h : Below B a w) (k : Grows w w') (hB : B ≤ w.heap.size) : Below B a w' := h.trans (k.below hB)
theorem Grows.grown {a : World} (h : Grows a w) {row : Option Nat} (hg : w.grownBy w' row) (hr : ∀ k, row = some k → a.heap.size ≤ k) : Grows a w' := Below.grown h hg h.le hr
theorem Grows.drewN (h : Grows w w') (k : Nat) : Grows w (w'.drewN k) := ⟨h.os, h.tape, h.output, h.size, h.block⟩

theorem below_trans {a : World} (h : Grows a w) (k : Below a.heap.size w w') : Grows a w' := Below.trans h k
theorem Row.nil (w : World) (c : Nat) (hc : c ≤ maxLen) (hA : A = none → c = 0) : Row w A 0 c [] := ⟨rfl, Nat.zero_le _, hc, hA, fun h => absurd h (by omega)⟩
theorem Row.nil0 (w : World) : Row w none 0 0 [] := ⟨rfl, Nat.zero_le _, Nat.zero_le _, fun _ => rfl, fun h => absurd h (by omega)⟩
theorem Row.grows (h : Row w A n c xs) (hg : Grows w w') : Row w' A n c xs :=
  ⟨h.1, h.2.1, h.2.2.1, h.2.2.2.1, fun hn => by
    obtain ⟨b, off, e, hb, hc⟩ := h.2.2.2.2 hn
    exact ⟨b, off, e, hg.lt hb, fun j hj => (hg.cell (p := ⟨b, off + j, none⟩) hb).trans (hc j hj)⟩⟩
theorem Row.below {B : Nat} (h : Row w A n c xs) (hg : Below B w w') (hB : w.heap.size ≤ B) : Row w' A n c xs := h.grows (hg.mono hB)
theorem Row.len (h : Row w A n c xs) : xs.length = n := h.1

theorem Blk.lt (h : Blk w g t cs) : g < w.heap.size := by
  rcases Nat.lt_or_ge g w.heap.size with hlt | hge
  · exact hlt
  · unfold Blk at h; rw [Array.getElem?_eq_none hge] at h; cases h
theorem Blk.cell (h : Blk w g t cs) (i : Nat) : w.cell? ⟨g, i, none⟩ = cs[i]? := by
  unfold Blk at h
  simp [World.cell?, h]
theorem Blk.frozen (h : Blk w g t cs) (i : Nat) : w.frozen? ⟨g, i, none⟩ = false := by
  unfold Blk at h
  simp [World.frozen?, h]
theorem Blk.new (w : World) (t : TypeId) (cs : Array Value) : Blk (w.alloc (.cells cs t)) w.heap.size t cs := heap_alloc_new w _
theorem Blk.drew (h : Blk w g t cs) : Blk w.drew g t cs := h
theorem Blk.drewN (h : Blk w g t cs) (n : Nat) : Blk (w.drewN n) g t cs := h
theorem Blk.alloc (h : Blk w g t cs) (o : Obj) : Blk (w.alloc o) g t cs := (Below.heap_alloc w o g h.lt).trans h
theorem Blk.set (h : Blk w g t cs) (i : Nat) (u : Value) : Blk (w.setCell ⟨g, i, none⟩ u) g t (cs.setIfInBounds i u) := by
  unfold Blk at h ⊢
  simp [World.setCell, Array.getElem?_modify, h]
theorem Blk.far (h : Blk w g t cs) {p : Addr} (hp : g ≠ p.block) (u : Value) : Blk (w.setCell p u) g t cs := (Below.heap_setCell w p u g hp).trans h
theorem Blk.grows (h : Blk w g t cs) (hg : Grows w w') : Blk w' g t cs := (hg.heap h.lt).trans h
theorem Blk.below {B : Nat} (h : Blk w g t cs) (hb : Below B w w') (hg : g < B) : Blk w' g t cs := (hb.block g hg).trans h
theorem Blk.grown {row : Option Nat} (h : Blk w g t cs) (hb : w.grownBy w' row) (hg : some g ≠ row) : Blk w' g t cs := (hb.block g h.lt hg).trans h

/-- A slice over a known block. -/
theorem Blk.row (h : Blk w g t cs) {o n c : Nat} (hn : n ≤ c) (hc : o + n ≤ cs.size) (hm : c ≤ maxLen) : Row w (some ⟨g, o, none⟩) n c ((cs.toList.drop o).take n) :=
  ⟨by simp; omega, hn, hm, fun e => (by cases e), fun _ => ⟨g, o, rfl, h.lt, fun j hj => by
    rw [h.cell, List.getElem?_take, if_pos hj, List.getElem?_drop]; simp⟩⟩

theorem own_form {base : Nat} {e : TypeId} {v : Value} (h : w.ownsRow base e 1 v n xs) : ∃ A c, v = .slice A n c ∧ Row w A n c xs ∧ (∀ p, A = some p → base ≤ p.block) := by
  obtain ⟨hl, h2⟩ := h
  rw [Nat.mul_one] at hl
  rcases h2 with ⟨rfl, rfl⟩ | ⟨g, cap, cur, rfl, hb, hg, hnc, hcm, hcs, htake⟩
  · obtain rfl : xs = [] := List.eq_nil_of_length_eq_zero hl
    exact ⟨none, 0, rfl, Row.nil0 w, fun p hp => (by cases hp)⟩
  · rw [Nat.mul_one] at hcs htake
    refine ⟨_, _, rfl, ⟨hl, hnc, hcm, fun e => (by cases e), fun _ => ⟨g, 0, rfl, (Blk.lt hg : g < w.heap.size), fun j hj => ?_⟩⟩, fun p hp => (by cases hp; exact hb)⟩
    rw [Nat.zero_add, (show Blk w g e cur from hg).cell, ← htake, List.getElem?_take, if_pos hj]
    simp

/-- A block that is a row of n cells, as what the call owns. -/
theorem Blk.own (h : Blk w g t cs) {base n : Nat} (hb : base ≤ g) (hn : cs.size = n) (hm : n ≤ maxLen) : w.ownsRow base t 1 (.slice (some ⟨g, 0, none⟩) n n) n cs.toList :=
  ⟨by simp [hn], .inr ⟨g, n, cs, rfl, hb, h, Nat.le_refl _, hm, by simp [hn], by rw [List.take_of_length_le]; simp [hn]⟩⟩

theorem own_grows {base : Nat} {e : TypeId} {size : Nat} {v : Value} (h : w.ownsRow base e size v n xs) (hg : Grows w w') : w'.ownsRow base e size v n xs := by
  obtain ⟨h1, h2⟩ := h
  refine ⟨h1, ?_⟩
  rcases h2 with h2 | ⟨g, cap, cur, hv, hb, hh, r⟩
  · exact Or.inl h2
  · exact Or.inr ⟨g, cap, cur, hv, hb, (show Blk w g e cur from hh).grows hg, r⟩
theorem own_base {base base' : Nat} {e : TypeId} {size : Nat} {v : Value} (h : w.ownsRow base e size v n xs) (hb : base' ≤ base) : w.ownsRow base' e size v n xs := by
  obtain ⟨h1, h2⟩ := h
  refine ⟨h1, ?_⟩
  rcases h2 with h2 | ⟨g, cap, cur, hv, hg, r⟩
  · exact Or.inl h2
  · exact Or.inr ⟨g, cap, cur, hv, by omega, r⟩
theorem own_max {base : Nat} {e : TypeId} {v : Value} (h : w.ownsRow base e 1 v n xs) : n ≤ maxLen := by
  obtain ⟨A, c, _, hr, _⟩ := own_form h
  exact Nat.le_trans hr.2.1 hr.2.2.1
end

/-- What a call hands back in new memory: bytes. -/
def NewB (t : TypeId) (w : World) (bs : List UInt8) (e : Ending) (w' : World) : Prop :=
  ∃ A n c, Hid (n = bs.length) ∧ e = .returned (.slice A n c) ∧ Grows w w' ∧ w'.ownsRow w.heap.size t 1 (.slice A n c) n (bs.map b8)

theorem newB_mk {t : TypeId} {w w' : World} {bs : List UInt8} {e : Ending} {A : Option Addr} {n c : Nat} (h : e = .returned (.slice A n c)) (hn : n = bs.length) (hg : Grows w w')
    (ho : w'.ownsRow w.heap.size t 1 (.slice A n c) n (bs.map b8)) : NewB t w bs e w' :=
  ⟨A, n, c, hn, h, hg, ho⟩

/-- A byte slice that reads as bs. -/
def SB (w : World) (A : Option Addr) (n c : Nat) (bs : List UInt8) : Prop := Row w A n c (bs.map b8)

section
variable {w w' : World} {A : Option Addr} {n c : Nat} {bs : List UInt8}
theorem SB.grows (h : SB w A n c bs) (hg : Grows w w') : SB w' A n c bs := Row.grows h hg
theorem SB.len (h : SB w A n c bs) : bs.length = n := by have := Row.len h; simpa using this
theorem SB.cap (h : SB w A n c bs) : n ≤ c := h.2.1
theorem SB.max (h : SB w A n c bs) : c ≤ maxLen := h.2.2.1
theorem SB.at (h : SB w A n c bs) (hn : 0 < n) : ∃ b off, A = some ⟨b, off, none⟩ ∧ b < w.heap.size ∧ ∀ j, (hj : j < bs.length) → w.cell? ⟨b, off + j, none⟩ = some (.int .u8 (bs[j].toNat : Int)) := by
  obtain ⟨b, off, e, hb, hc⟩ := h.2.2.2.2 hn
  have hl := h.len
  refine ⟨b, off, e, hb, fun j hj => ?_⟩
  rw [hc j (by omega), List.getElem?_map, List.getElem?_eq_getElem hj]
  rfl
theorem Row.pre {xs : List Value} (h : Row w A n c xs) {k : Nat} (hk : k ≤ n) : Row w A k c (xs.take k) :=
  ⟨by rw [List.length_take, h.1]; omega, Nat.le_trans hk h.2.1, h.2.2.1, h.2.2.2.1, fun hn => by
    obtain ⟨b, off, e, hb, hc⟩ := h.2.2.2.2 (by omega)
    exact ⟨b, off, e, hb, fun j hj => by rw [hc j (by omega), List.getElem?_take, if_pos hj]⟩⟩
theorem SB.pre (h : SB w A n c bs) {k : Nat} (hk : k ≤ n) : SB w A k c (bs.take k) := by
  have := Row.pre h hk
  rw [← List.map_take] at this
  exact this
theorem SB.nil (w : World) : SB w none 0 0 [] := Row.nil0 w
theorem SB.own {base : Nat} {t : TypeId} (h : w.ownsRow base t 1 (.slice A n c) n (bs.map b8)) : SB w A n c bs := by
  obtain ⟨A', c', e, hr, _⟩ := own_form h
  cases e
  exact hr
end

/-- 'make([]T, n)': the new block, and the world as a letter. -/
theorem wpList_make_blk {P : Program} {w : World} {ops : Array Oper} {rest : List Oper} {o : Oper} {a : Act} {Q : Exit → Act → World → Prop}
    (hg : o.guard = none) (l c : Operand) (t : TypeId) (hop : o.op = Op.makeSlice t l c)
    (e : TypeId) (z : Value) (bytes : Nat) (ht : P.underlying t = some (.slice e)) (hinfo : (P.info? e).map (fun i => (i.zero, i.size, i.bytes)) = some (some z, 1, bytes)) (hz1 : z.cells = #[z])
    (kl kc : IntKind) (n : Nat) (hl : a.eval l = .int kl (n : Int)) (hc : a.eval c = .int kc (n : Int)) (hbytes : bytes * n ≤ 281474976710656) (h63 : n ≤ 9223372036854775807)
    (hK : ∀ w', Blk w' w.heap.size e (Array.replicate n z) → Grows w w' → w.heap.size < w'.heap.size → wpList P ops Q rest (a.put o.dst (.slice (some ⟨w.heap.size, 0, none⟩) n n)) w') :
    wpList P ops Q (o :: rest) a w := by
  obtain ⟨i, hi, hzz⟩ := Option.map_eq_some_iff.1 hinfo
  simp only [Prod.mk.injEq] at hzz
  obtain ⟨hz, hs, hb⟩ := hzz
  refine wpList_make_row w hg l c t hop e i z ht hi hz hs hz1 kl kc n hl hc (by rw [hb]; exact hbytes) h63 ?_
  have e1 : madeCells #[z] n = Array.replicate n z := by
    apply Array.toList_inj.1
    rw [toList_madeCells_one]; simp
  rw [e1]
  exact hK _ (Blk.new _ _ _) ((Grows.refl w).alloc _) (by simp)

end Go.Proofs.Ythcmdjaccjghjaa
