/-
  Words for slices of spans (structs of two numbers): a slice that reads as a list of pairs; what is appended to one of the call's own.
  Plain theorems over any program.
-/
import Derived.Test.YtbmmjkpibnnmeaaOwn
import Derived.Laws.AppendOwn
import Derived.Deep.SlicePairs
namespace Go.Proofs.Ytbmmjkpibnnmeaa
open Go Go.RowKit

/-- A number (int), as a cell. -/
abbrev iV (n : Int) : Value := .int .i64 n

/-- Spans as cells. -/
def flat : List (Int × Int) → List Value
  | [] => []
  | p :: l => iV p.1 :: iV p.2 :: flat l

theorem flat_len : ∀ l, (flat l).length = l.length * 2
  | [] => rfl
  | p :: l => by simp only [flat, List.length_cons, flat_len l]; omega
theorem flat_append : ∀ l m, flat (l ++ m) = flat l ++ flat m
  | [], m => rfl
  | p :: l, m => by simp only [List.cons_append, flat, flat_append l m]
theorem flat_at : ∀ (l : List (Int × Int)) (j : Nat) (p : Int × Int), l[j]? = some p → (flat l)[j * 2]? = some (iV p.1) ∧ (flat l)[j * 2 + 1]? = some (iV p.2)
  | [], j, p, h => by simp at h
  | q :: l, 0, p, h => by simp at h; subst h; exact ⟨rfl, rfl⟩
  | q :: l, j + 1, p, h => by
    have := flat_at l j p (by simpa using h)
    rw [show (j + 1) * 2 = j * 2 + 1 + 1 by omega]
    simpa [flat] using this
theorem flat_one (l : List (Int × Int)) : ∀ u ∈ flat l, u.oneCell' = true := by
  induction l with
  | nil => intro u hu; cases hu
  | cons p l ih =>
    intro u hu
    simp only [flat, List.mem_cons] at hu
    rcases hu with rfl | rfl | hu
    · rfl
    · rfl
    · exact ih u hu

/-- The slice value '.slice A n c' of spans reads as l. -/
def SpanR (w : World) (A : Option Addr) (n c : Nat) (l : List (Int × Int)) : Prop :=
  l.length = n ∧ n ≤ c ∧ c ≤ maxLen ∧ (A = none → c = 0) ∧ (0 < n → ∃ b off, A = some ⟨b, off, none⟩ ∧ b < w.heap.size ∧ ∀ j p, l[j]? = some p → w.cell? ⟨b, off + j * 2, none⟩ = some (iV p.1) ∧ w.cell? ⟨b, off + j * 2 + 1, none⟩ = some (iV p.2))

section
variable {w w' : World} {A : Option Addr} {n c : Nat} {l : List (Int × Int)}
theorem SpanR.nil (w : World) : SpanR w none 0 0 [] := ⟨rfl, Nat.le_refl _, Nat.zero_le _, fun _ => rfl, fun h => absurd h (by omega)⟩
theorem SpanR.len (h : SpanR w A n c l) : l.length = n := h.1
theorem SpanR.cap (h : SpanR w A n c l) : n ≤ c := h.2.1
theorem SpanR.max (h : SpanR w A n c l) : c ≤ maxLen := h.2.2.1
theorem SpanR.grows (h : SpanR w A n c l) (hg : Grows w w') : SpanR w' A n c l :=
  ⟨h.1, h.2.1, h.2.2.1, h.2.2.2.1, fun hn => by
    obtain ⟨b, off, e, hb, hc⟩ := h.2.2.2.2 hn
    exact ⟨b, off, e, hg.lt hb, fun j p hj => ⟨(hg.cell (p := ⟨b, off + j * 2, none⟩) hb).trans (hc j p hj).1, (hg.cell (p := ⟨b, off + j * 2 + 1, none⟩) hb).trans (hc j p hj).2⟩⟩⟩
theorem SpanR.at (h : SpanR w A n c l) {k : Nat} (hk : k < n) : ∃ b off x y, A = some ⟨b, off, none⟩ ∧ b < w.heap.size ∧ l[k]? = some (x, y) ∧ w.cell? ⟨b, off + k * 2, none⟩ = some (.int .i64 x) ∧ w.cell? ⟨b, off + k * 2 + 1, none⟩ = some (.int .i64 y) := by
  obtain ⟨b, off, e, hb, hc⟩ := h.2.2.2.2 (by omega)
  have hl : k < l.length := by rw [h.1]; exact hk
  have := hc k _ (List.getElem?_eq_getElem hl)
  exact ⟨b, off, l[k].1, l[k].2, e, hb, List.getElem?_eq_getElem hl, this.1, this.2⟩
theorem SpanR.pre (h : SpanR w A n c l) {k : Nat} (hk : k ≤ n) : SpanR w A k c (l.take k) :=
  ⟨by rw [List.length_take, h.1]; omega, Nat.le_trans hk h.2.1, h.2.2.1, h.2.2.2.1, fun hn => by
    obtain ⟨b, off, e, hb, hc⟩ := h.2.2.2.2 (by omega)
    exact ⟨b, off, e, hb, fun j p hj => hc j p (by
      rw [List.getElem?_take] at hj
      split at hj
      · exact hj
      · cases hj)⟩⟩
theorem own2_form {base : Nat} {e : TypeId} {v : Value} (h : w.ownsRow base e 2 v n (flat l)) : ∃ A c, v = .slice A n c ∧ SpanR w A n c l ∧ (∀ p, A = some p → base ≤ p.block) := by
  obtain ⟨hl, h2⟩ := h
  rw [flat_len] at hl
  have hn : l.length = n := by omega
  rcases h2 with ⟨rfl, rfl⟩ | ⟨g, cap, cur, rfl, hb, hg, hnc, hcm, hcs, htake⟩
  · obtain rfl : l = [] := List.eq_nil_of_length_eq_zero hn
    exact ⟨none, 0, rfl, SpanR.nil w, fun p hp => (by cases hp)⟩
  · refine ⟨_, _, rfl, ⟨hn, hnc, hcm, fun e => (by cases e), fun _ => ⟨g, 0, rfl, (Blk.lt hg : g < w.heap.size), fun j p hj => ?_⟩⟩, fun p hp => (by cases hp; exact hb)⟩
    have hjn : j < n := by
      have := (List.getElem?_eq_some_iff.1 hj).1
      omega
    obtain ⟨h1, h2⟩ := flat_at l j p hj
    rw [← htake, List.getElem?_take, if_pos (by omega)] at h1 h2
    rw [Nat.zero_add, (show Blk w g e cur from hg).cell, (show Blk w g e cur from hg).cell]
    simp only [Array.getElem?_toList] at h1 h2
    exact ⟨h1, h2⟩
theorem SpanR.own {base : Nat} {t : TypeId} (h : w.ownsRow base t 2 (.slice A n c) n (flat l)) : SpanR w A n c l := by
  obtain ⟨A', c', e, hr, _⟩ := own2_form h
  cases e
  exact hr
end

/-- What a call hands back in new memory: spans. -/
def NewS (t : TypeId) (w : World) (l : List (Int × Int)) (e : Ending) (w' : World) : Prop :=
  ∃ A n c, Hid (n = l.length) ∧ e = .returned (.slice A n c) ∧ Grows w w' ∧ w'.ownsRow w.heap.size t 2 (.slice A n c) n (flat l)
theorem newS_mk {t : TypeId} {w w' : World} {l : List (Int × Int)} {e : Ending} {A : Option Addr} {n c : Nat} (h : e = .returned (.slice A n c)) (hn : n = l.length) (hg : Grows w w')
    (ho : w'.ownsRow w.heap.size t 2 (.slice A n c) n (flat l)) : NewS t w l e w' := ⟨A, n, c, hn, h, hg, ho⟩

/-- What a call hands back in new memory: numbers. -/
def NewI (t : TypeId) (w : World) (l : List Int) (e : Ending) (w' : World) : Prop :=
  ∃ A n c, Hid (n = l.length) ∧ e = .returned (.slice A n c) ∧ Grows w w' ∧ w'.ownsRow w.heap.size t 1 (.slice A n c) n (l.map iV)
theorem newI_mk {t : TypeId} {w w' : World} {l : List Int} {e : Ending} {A : Option Addr} {n c : Nat} (h : e = .returned (.slice A n c)) (hn : n = l.length) (hg : Grows w w')
    (ho : w'.ownsRow w.heap.size t 1 (.slice A n c) n (l.map iV)) : NewI t w l e w' := ⟨A, n, c, hn, h, hg, ho⟩

theorem own_ends {base : Nat} {e : TypeId} {size n : Nat} {v : Value} {w : World} {xs : List Value} (h : w.ownsRow base e size v n xs) : ∃ A c, v = .slice A n c := by
  rcases h.2 with ⟨rfl, rfl⟩ | ⟨g, cap, cur, rfl, _⟩
  · exact ⟨_, _, rfl⟩
  · exact ⟨_, _, rfl⟩

section
variable {P : Program} {w : World}
/-- 'append(out, Span{x, y})': the element lies in a block of its own. -/
theorem wpList_append_pair {ops : Array Oper} {rest : List Oper} {o : Oper} {a : Act} {Q : Exit → Act → World → Prop} (hgd : Region.wanted o (yielded ops a.tmps) = true) (s x : Operand) (t : TypeId)
    (ho : o.op = .call { callee := .builtin .append, args := #[s, x], argTypes := #[t, t] })
    (base : Nat) (e : TypeId) (z : Value) (bytes : Nat) (ht : P.underlying t = some (.slice e)) (hinfo : (P.info? e).map (fun i => (i.zero, i.size, i.bytes)) = some (some z, 2, bytes)) (hz1 : z.cells.size = 2)
    (A : Option Addr) (n c : Nat) (l : List (Int × Int)) (hs : a.eval s = .slice A n c) (hown : w.ownsRow base e 2 (.slice A n c) n (flat l)) (g : Nat) (tb : TypeId) (p q : Int) (hx : a.eval x = .slice (some ⟨g, 0, none⟩) 1 1) (hg : Blk w g tb #[iV p, iV q])
    (hbytes : (n + 1) * bytes ≤ 140737488355328) (hb : 0 < bytes) (hbase : base ≤ w.heap.size)
    (h : ∀ A' c' w', w'.ownsRow base e 2 (.slice A' (n + 1) c') (n + 1) (flat (l ++ [(p, q)])) → Below base w w' → w.grownBy w' (blkOf A) → wpList P ops Q rest (a.put o.dst (.slice A' (n + 1) c')) w') : wpList P ops Q (o :: rest) a w := by
  obtain ⟨i, hi, hzz⟩ := Option.map_eq_some_iff.1 hinfo
  simp only [Prod.mk.injEq] at hzz
  obtain ⟨hz, hsz, hby⟩ := hzz
  have h63 : n + 1 ≤ maxLen := by
    have : n + 1 ≤ (n + 1) * bytes := Nat.le_mul_of_pos_right _ hb
    unfold maxLen; omega
  have hnews : ∀ j u, (flat [(p, q)])[j]? = some u → w.cell? ((⟨g, 0, none⟩ : Addr).add j) = some u := by
    intro j u hu
    have hj : j < 2 := by have := (List.getElem?_eq_some_iff.1 hu).1; simpa [flat] using this
    rw [add_zero_spot, Nat.zero_add, hg.cell]
    have : j = 0 ∨ j = 1 := by omega
    rcases this with rfl | rfl <;> simpa [flat] using hu
  obtain ⟨v', w', hrun, h2, h3, _⟩ := run_append_own (P := P) w base t o.type e i z 2 bytes ht hi hz hsz hby hz1 (by omega) (.slice A n c) n (flat l) hown ⟨g, 0, none⟩ 1 1 (flat [(p, q)]) (by rw [flat_len]; rfl) hnews (flat_one _) h63 hbytes hbase
  rw [← flat_append] at h2
  obtain ⟨A', c', rfl⟩ := own_ends h2
  have hblk : (Value.slice A n c).ownBlock = blkOf A := by cases A <;> rfl
  have hbel : Below base w w' := (Below.refl base w).grown h3 hbase (fun k hk => (hown.lt k hk).1)
  rw [hblk] at h3
  refine wpList_step fun K hK => ?_
  rw [if_pos hgd]
  unfold Oper.wp
  simp only [execOp, ho, resolve, invoke, builtin, Sem.run_bind, Sem.run_pure, Result.andThen_ok, List.map_toArray, List.map_cons, List.map_nil, hs, hx, hrun]
  exact hK _ _ (h A' c' w' h2 hbel h3)
end

end Go.Proofs.Ytbmmjkpibnnmeaa
