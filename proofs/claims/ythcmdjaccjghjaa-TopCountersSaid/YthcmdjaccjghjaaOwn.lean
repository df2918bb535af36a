/-
  A slice that the call owns, wherever in its block it begins: appended to, cut off from ahead; and worlds that keep all but some blocks.
  Plain theorems over any program.
-/
import Derived.Test.YthcmdjaccjghjaaOps
import Derived.Test.YthcmdjaccjghjaaArr
import Derived.Deep.AppendSrc
import Derived.Deep.Upon
import Derived.Maps.AppendAt
namespace Go.Proofs.Ythcmdjaccjghjaa
open Go Go.RowKit

/-- A slice that the call owns: n cells somewhere in a block from base on, with room up to its capacity. -/
def OwnAt (w : World) (base : Nat) (A : Option Addr) (n c : Nat) (xs : List Value) : Prop :=
  xs.length = n ∧ n ≤ c ∧ c ≤ maxLen ∧ ((A = none ∧ c = 0) ∨ ∃ g off t cur, A = some ⟨g, off, none⟩ ∧ base ≤ g ∧ Blk w g t cur ∧ off + c ≤ cur.size ∧ (cur.toList.drop off).take n = xs)
def blkOf (A : Option Addr) : Option Nat := A.map (·.block)

/-- The world keeps every block but the told ones. -/
structure Keeps (own : Nat → Prop) (w w' : World) : Prop where
  os : w'.os = w.os
  tape : w'.tape = w.tape
  output : w'.output = w.output
  size : w.heap.size ≤ w'.heap.size
  block : ∀ k, k < w.heap.size → ¬ own k → w'.heap[k]? = w.heap[k]?

section
variable {w w' : World} {A : Option Addr} {n c g base : Nat} {xs : List Value} {t : TypeId} {cs : Array Value} {own own' : Nat → Prop}

theorem Keeps.refl (own : Nat → Prop) (w : World) : Keeps own w w := ⟨rfl, rfl, rfl, Nat.le_refl _, fun _ _ _ => rfl⟩
theorem Grows.keeps (h : Grows w w') (own : Nat → Prop) : Keeps own w w' := ⟨h.os, h.tape, h.output, h.size, fun k hk _ => h.block k hk⟩
theorem keeps_grown {row : Option Nat} (h : w.grownBy w' row) : Keeps (fun k => row = some k) w w' := ⟨h.os, h.tape, h.output, h.size, fun k hk ho => h.block k hk (fun e => ho e.symm)⟩
theorem Keeps.trans {w2 : World} (h : Keeps own w w') (k : Keeps own' w' w2) (hs : ∀ i, own' i → i < w.heap.size → own i) : Keeps own w w2 :=
  ⟨k.os.trans h.os, k.tape.trans h.tape, k.output.trans h.output, Nat.le_trans h.size k.size, fun i hi ho => (k.block i (Nat.lt_of_lt_of_le hi h.size) (fun e => ho (hs i e hi))).trans (h.block i hi ho)⟩
theorem Keeps.mono (h : Keeps own w w') (hs : ∀ i, own i → i < w.heap.size → own' i) : Keeps own' w w' :=
  ⟨h.os, h.tape, h.output, h.size, fun i hi ho => h.block i hi (fun e => ho (hs i e hi))⟩
theorem Keeps.below {B : Nat} (h : Keeps own w w') (hB : B ≤ w.heap.size) (ho : ∀ i, own i → B ≤ i) : Below B w w' :=
  ⟨h.os, h.tape, h.output, h.size, fun k hk => h.block k (Nat.lt_of_lt_of_le hk hB) (fun e => by have := ho k e; omega)⟩
theorem Keeps.grows (h : Keeps own w w') (ho : ∀ i, own i → w.heap.size ≤ i) : Grows w w' := h.below (Nat.le_refl _) ho
theorem Keeps.drew (h : Keeps own w w') : Keeps own w w'.drew := ⟨h.os, h.tape, h.output, h.size, h.block⟩
theorem keeps_set (w : World) (p : Addr) (u : Value) : Keeps (fun k => k = p.block) w (w.setCell p u) :=
  ⟨rfl, rfl, rfl, by simp [World.setCell], fun k _ ho => Below.heap_setCell w p u k ho⟩
theorem Blk.keeps (h : Blk w g t cs) (k : Keeps own w w') (ho : ¬ own g) : Blk w' g t cs := (k.block g h.lt ho).trans h
theorem Row.keeps (h : Row w A n c xs) (k : Keeps own w w') (ho : ∀ p, A = some p → ¬ own p.block) : Row w' A n c xs :=
  ⟨h.1, h.2.1, h.2.2.1, h.2.2.2.1, fun hn => by
    obtain ⟨b, off, e, hb, hc⟩ := h.2.2.2.2 hn
    refine ⟨b, off, e, Nat.lt_of_lt_of_le hb k.size, fun j hj => ?_⟩
    rw [← hc j hj]
    have := k.block b hb (ho _ e)
    simp only [World.cell?, this]⟩

theorem OwnAt.nil (w : World) (base : Nat) : OwnAt w base none 0 0 [] := ⟨rfl, Nat.le_refl _, Nat.zero_le _, .inl ⟨rfl, rfl⟩⟩
theorem OwnAt.row (h : OwnAt w base A n c xs) : Row w A n c xs := by
  obtain ⟨h1, h2, h3, h4⟩ := h
  rcases h4 with ⟨rfl, rfl⟩ | ⟨g, off, t, cur, rfl, _, hg, hs, htake⟩
  · obtain rfl : n = 0 := by omega
    obtain rfl : xs = [] := List.eq_nil_of_length_eq_zero h1
    exact Row.nil0 w
  · refine ⟨h1, h2, h3, fun e => (by cases e), fun _ => ⟨g, off, rfl, hg.lt, fun j hj => ?_⟩⟩
    rw [hg.cell, ← htake, List.getElem?_take, if_pos hj, List.getElem?_drop]
    simp
theorem OwnAt.base_le (h : OwnAt w base A n c xs) : ∀ p, A = some p → base ≤ p.block := by
  rcases h.2.2.2 with ⟨rfl, _⟩ | ⟨g, off, t, cur, rfl, hb, _⟩
  · intro p e; cases e
  · intro p e; cases e; exact hb
theorem OwnAt.lt (h : OwnAt w base A n c xs) : ∀ p, A = some p → p.block < w.heap.size := by
  rcases h.2.2.2 with ⟨rfl, _⟩ | ⟨g, off, t, cur, rfl, _, hb, _⟩
  · intro p e; cases e
  · intro p e; cases e; exact hb.lt
theorem OwnAt.of_own {e : TypeId} (h : w.ownsRow base e 1 (.slice A n c) n xs) : OwnAt w base A n c xs := by
  obtain ⟨A', c', ev, hr, _⟩ := own_form h
  cases ev
  obtain ⟨h1, h2⟩ := h
  rcases h2 with ⟨hv, h0⟩ | ⟨g, cap, cur, hv, hb, hg, hnc, hcm, hcs, htake⟩
  · cases hv
    exact ⟨hr.1, Nat.le_refl _, Nat.zero_le _, .inl ⟨rfl, rfl⟩⟩
  · cases hv
    rw [Nat.mul_one] at hcs htake
    exact ⟨hr.1, hr.2.1, hcm, .inr ⟨g, 0, e, cur, rfl, hb, hg, by omega, by simpa using htake⟩⟩
theorem OwnAt.rebase {base' : Nat} (h : OwnAt w base A n c xs) (hb : ∀ p, A = some p → base' ≤ p.block) : OwnAt w base' A n c xs := by
  obtain ⟨h1, h2, h3, h4⟩ := h
  refine ⟨h1, h2, h3, ?_⟩
  rcases h4 with h4 | ⟨g, off, t, cur, rfl, _, r⟩
  · exact .inl h4
  · exact .inr ⟨g, off, t, cur, rfl, hb _ rfl, r⟩
theorem OwnAt.keeps (h : OwnAt w base A n c xs) (k : Keeps own w w') (ho : ∀ p, A = some p → ¬ own p.block) : OwnAt w' base A n c xs := by
  obtain ⟨h1, h2, h3, h4⟩ := h
  refine ⟨h1, h2, h3, ?_⟩
  rcases h4 with h4 | ⟨g, off, t, cur, rfl, hb, hg, r⟩
  · exact .inl h4
  · exact .inr ⟨g, off, t, cur, rfl, hb, hg.keeps k (ho _ rfl), r⟩
theorem OwnAt.grows (h : OwnAt w base A n c xs) (k : Grows w w') : OwnAt w' base A n c xs := h.keeps (k.keeps (fun _ => False)) (fun _ _ h => h)
/-- Cut off from ahead: the model's address. -/
theorem OwnAt.from (h : OwnAt w base A n c xs) {k : Nat} (hk : k ≤ n) : OwnAt w base (if c = k then A else A.map (·.add k)) (n - k) (c - k) (xs.drop k) := by
  obtain ⟨h1, h2, h3, h4⟩ := h
  refine ⟨by rw [List.length_drop]; omega, by omega, by omega, ?_⟩
  rcases h4 with ⟨rfl, rfl⟩ | ⟨g, off, t, cur, rfl, hb, hg, hs, htake⟩
  · exact .inl ⟨by split <;> rfl, by omega⟩
  · right
    by_cases e : c = k
    · rw [if_pos e]
      refine ⟨g, off, t, cur, rfl, hb, hg, by omega, ?_⟩
      rw [show n - k = 0 by omega, List.take_zero, List.drop_of_length_le (by omega)]
    · rw [if_neg e]
      refine ⟨g, off + k, t, cur, by simp [add_zero_spot], hb, hg, by omega, ?_⟩
      rw [← htake, List.drop_take, List.drop_drop]
theorem blkOf_from (A : Option Addr) (k c : Nat) : blkOf (if c = k then A else A.map (·.add k)) = blkOf A := by
  unfold blkOf
  split
  · rfl
  · cases A with
    | none => rfl
    | some p => simp [Addr.add]; split <;> rfl
end

section
variable {P : Program} {w : World}

theorem Row.src {A : Option Addr} {m c : Nat} {news : List Value} {tx e' : TypeId} (h : Row w A m c news) (hk : P.underlying tx = some (.slice e')) (h1 : ∀ u ∈ news, u.oneCell' = true) : Src P 1 tx (.slice A m c) m news w := by
  rcases A with _ | ad
  · have hc0 : c = 0 := h.2.2.2.1 rfl
    subst hc0
    have hm : m = 0 := by have := h.2.1; omega
    subst hm
    obtain rfl : news = [] := List.eq_nil_of_length_eq_zero h.1
    exact Src.ofNil w hk 0
  · exact Src.ofSlice w hk ad m c news (by rw [h.1, Nat.mul_one]) h.news h1

theorem run_append_room_at (t tx ty e : TypeId) (i : TypeInfo) (ht : P.underlying t = some (.slice e)) (hi : P.info? e = some i) (hi1 : i.size = 1) (g off sLen sCap : Nat) (x : Value) (n : Nat) (news : List Value) (hs : Src P 1 tx x n news w)
    (tb : TypeId) (cur : Array Value) (hg : Blk w g tb cur) (hroom : sLen + n ≤ sCap) (hfit : off + sLen + n ≤ cur.size) :
    (Builtin.append_ #[t, tx] ty #[.slice (some ⟨g, off, none⟩) sLen sCap, x]).run P w = .ok (.slice (some ⟨g, off, none⟩) (sLen + n) sCap) (w.setRow g (splice cur.toList (off + sLen) news).toArray) := by
  have hnl := hs.newsLen
  rw [Nat.mul_one] at hnl
  have hst := run_storeCells_at P g (off + sLen) tb news 0 cur w hg (by omega) hs.one
  simp only [Nat.add_zero] at hst
  have hsc := hs.cells
  unfold splice
  rw [List.append_assoc] at hst
  rcases hs.kind with ⟨e', hk⟩ | hk <;> simp [Builtin.append_, run_underlying ht, run_underlying hk, sizeOf, typeInfo, hi, hs.len, hroom, hsc, Addr.add_lit, hst, hi1]

theorem splice_own {cur news xs : List Value} {off n c : Nat} (htake : (cur.drop off).take n = xs) (hx : xs.length = n) (hs : off + c ≤ cur.length) (hn : n + news.length ≤ c) :
    ((splice cur (off + n) news).drop off).take (n + news.length) = xs ++ news := by
  unfold splice
  rw [List.drop_append_of_le_length (by rw [List.length_take]; omega), List.drop_take, show off + n - off = n by omega, htake, ← List.append_assoc]
  rw [show n + news.length = (xs ++ news).length by simp [hx]]
  exact List.take_left

theorem run_append_at (base : Nat) (t tx ty e : TypeId) (z : Value) (bytes : Nat) (ht : P.underlying t = some (.slice e)) (hinfo : (P.info? e).map (fun i => (i.zero, i.size, i.bytes)) = some (some z, 1, bytes)) (hz1 : z.cells = #[z])
    (A : Option Addr) (n c : Nat) (xs : List Value) (hown : OwnAt w base A n c xs) (x : Value) (m : Nat) (news : List Value) (hs : Src P 1 tx x m news w)
    (hbytes : (n + m) * bytes ≤ 140737488355328) (hb : 0 < bytes) (hbase : base ≤ w.heap.size) :
    ∃ A' c' w', (Builtin.append_ #[t, tx] ty #[.slice A n c, x]).run P w = .ok (.slice A' (n + m) c') w' ∧ OwnAt w' base A' (n + m) c' (xs ++ news) ∧ w.grownBy w' (blkOf A) ∧ (blkOf A' = blkOf A ∨ blkOf A' = some w.heap.size) := by
  obtain ⟨i, hi, hzz⟩ := Option.map_eq_some_iff.1 hinfo
  simp only [Prod.mk.injEq] at hzz
  obtain ⟨hz, hsz, hby⟩ := hzz
  have h63 : n + m ≤ maxLen := by
    have : n + m ≤ (n + m) * bytes := Nat.le_mul_of_pos_right _ hb
    unfold maxLen; omega
  have hml := hs.newsLen
  rw [Nat.mul_one] at hml
  have hrow := hown.row
  obtain ⟨hx, hnc, hcm, h4⟩ := hown
  by_cases hroom : n + m ≤ c
  · rcases h4 with ⟨rfl, rfl⟩ | ⟨g, off, tb, cur, rfl, hbg, hg, hcs, htake⟩
    · obtain rfl : n = 0 := by omega
      obtain rfl : m = 0 := by omega
      obtain rfl : xs = [] := List.eq_nil_of_length_eq_zero hx
      obtain rfl : news = [] := List.eq_nil_of_length_eq_zero hml
      refine ⟨none, 0, w, run_append_nothing w t tx ty e i ht hi none 0 0 (Nat.le_refl _) x (by rw [hsz]; exact hs), OwnAt.nil w base, World.grownBy.refl w _, .inl rfl⟩
    · refine ⟨_, _, _, run_append_room_at t tx ty e i ht hi hsz g off n c x m news hs tb cur hg hroom (by omega), ⟨by simp [hx, hml], hroom, hcm, .inr ⟨g, off, tb, _, rfl, hbg, setRow_heap w g cur _ tb _ hg, ?_, ?_⟩⟩, ⟨rfl, rfl, rfl, by simp, fun k _ hk => setRow_other w g k _ (fun e => hk (by simp [blkOf, e]))⟩, .inl rfl⟩
      · simp [splice]; omega
      · have := splice_own (cur := cur.toList) (off := off) (n := n) (c := c) (news := news) htake hx (by simpa using hcs) (by omega)
        rw [hml] at this
        simpa using this
  · have hfit := growslice_fits (need := n + m) (old := c) (bytes := i.bytes) (by omega) (by rw [hby]; exact hbytes)
    have hsrc : (Builtin.firstCells i.size n (.slice A n c)).run P w.drew = .ok xs.toArray w.drew := by
      rcases A with _ | ad
      · obtain rfl : c = 0 := hrow.2.2.2.1 rfl
        obtain rfl : n = 0 := by omega
        obtain rfl : xs = [] := List.eq_nil_of_length_eq_zero hx
        exact run_firstCells_none w.drew i.size 0 0 0
      · exact run_firstCells_some w.drew i.size n ad n c xs (by rw [hsz, Nat.mul_one]; exact hx) (by simpa using hrow.news)
    have hrun := run_append_grow_src (P := P) w t tx ty e i z ht hi hz A n c xs hsrc x m news (by rw [hsz]; exact hs) (by omega) (by unfold maxLen at h63; omega) hfit
    have hge := grownCap_ge w (n + m) c e
    have hcap := grownCap_le_maxLen w (n + m) c e h63
    refine ⟨_, _, _, hrun, ⟨by simp [hx, hml], hge, hcap, .inr ⟨w.heap.size, 0, e, _, rfl, hbase, heap_alloc_new w.drew _, ?_, ?_⟩⟩, ⟨rfl, rfl, rfl, by simp, fun k hk _ => Below.heap_alloc w.drew _ k hk⟩, .inr rfl⟩
    · simp only [Array.size_append, List.size_toArray, size_zeroCells, hz1, List.length_append, hx, hml, List.size_toArray, List.length_cons, List.length_nil]
      omega
    · simp only [Array.toList_append, List.drop_zero]
      rw [show n + m = (xs ++ news).length by simp [hx, hml]]
      exact List.take_left

theorem wpList_append_at {ops : Array Oper} {rest : List Oper} {o : Oper} {a : Act} {Q : Exit → Act → World → Prop} (hgd : Region.wanted o (yielded ops a.tmps) = true) (s x : Operand) (t tx : TypeId)
    (ho : o.op = .call { callee := .builtin .append, args := #[s, x], argTypes := #[t, tx] })
    (base : Nat) (e : TypeId) (z : Value) (bytes : Nat) (ht : P.underlying t = some (.slice e)) (hinfo : (P.info? e).map (fun i => (i.zero, i.size, i.bytes)) = some (some z, 1, bytes)) (hz1 : z.cells = #[z])
    (A : Option Addr) (n c : Nat) (xs : List Value) (hs : a.eval s = .slice A n c) (hown : OwnAt w base A n c xs) (xv : Value) (hx : a.eval x = xv) (m : Nat) (news : List Value) (hsrc : Src P 1 tx xv m news w)
    (hbytes : (n + m) * bytes ≤ 140737488355328) (hb : 0 < bytes) (hbase : base ≤ w.heap.size)
    (h : ∀ A' c' w', OwnAt w' base A' (n + m) c' (xs ++ news) → w.grownBy w' (blkOf A) → (blkOf A' = blkOf A ∨ blkOf A' = some w.heap.size) → wpList P ops Q rest (a.put o.dst (.slice A' (n + m) c')) w') : wpList P ops Q (o :: rest) a w := by
  obtain ⟨A', c', w', hrun, h2, h3, h4⟩ := run_append_at (P := P) (w := w) base t tx o.type e z bytes ht hinfo hz1 A n c xs hown xv m news hsrc hbytes hb hbase
  refine wpList_step fun K hK => ?_
  rw [if_pos hgd]
  unfold Oper.wp
  simp only [execOp, ho, resolve, invoke, builtin, Sem.run_bind, Sem.run_pure, Result.andThen_ok, List.map_toArray, List.map_cons, List.map_nil, hs, hx, hrun]
  exact hK _ _ (h A' c' w' h2 h3 h4)

theorem run_append_row2 (base : Nat) (t ty e : TypeId) (z : Value) (bytes : Nat) (ht : P.underlying t = some (.slice e)) (hinfo : (P.info? e).map (fun i => (i.zero, i.size, i.bytes)) = some (some z, 1, bytes)) (hz1 : z.cells = #[z])
    (B : Option Addr) (k n : Nat) (xs : List Value) (hown : w.ownsRow base e 1 (.slice B n k) n xs) (A : Option Addr) (m c : Nat) (news : List Value) (hr : Row w A m c news) (h1 : ∀ u ∈ news, u.oneCell' = true)
    (hbytes : (n + m) * bytes ≤ 140737488355328) (hb : 0 < bytes) (hbase : base ≤ w.heap.size) :
    ∃ A' c' w', (Builtin.append_ #[t, t] ty #[.slice B n k, .slice A m c]).run P w = .ok (.slice A' (n + m) c') w' ∧ w'.ownsRow base e 1 (.slice A' (n + m) c') (n + m) (xs ++ news) ∧ w.grownBy w' (blkOf B) ∧ (blkOf A' = blkOf B ∨ blkOf A' = some w.heap.size) := by
  obtain ⟨i, hi, hzz⟩ := Option.map_eq_some_iff.1 hinfo
  simp only [Prod.mk.injEq] at hzz
  obtain ⟨hz, hs, hby⟩ := hzz
  have hblk : ∀ (X : Option Addr) (a b : Nat), (Value.slice X a b).ownBlock = blkOf X := fun X a b => by cases X <;> rfl
  have h63 : n + m ≤ maxLen := by
    have : n + m ≤ (n + m) * bytes := Nat.le_mul_of_pos_right _ hb
    unfold maxLen; omega
  rcases A with _ | ad
  · have hc0 : c = 0 := hr.2.2.2.1 rfl
    subst hc0
    have hm : m = 0 := by have := hr.2.1; omega
    subst hm
    have hn : news = [] := List.eq_nil_of_length_eq_zero hr.1
    subst hn
    exact ⟨B, k, w, run_append_owned_none (P := P) w base t ty e i 1 ht hi _ n xs hown, by simpa using hown, World.grownBy.refl w _, .inl rfl⟩
  · obtain ⟨v', w', hrun, h2, h3, _, h5⟩ := run_append_own_at (P := P) w base t ty e i z 1 bytes ht hi hz hs hby (by rw [hz1]; rfl) (by omega) _ n xs hown ad m c news (by rw [hr.1, Nat.mul_one]) hr.news h1 h63 hbytes hbase
    obtain ⟨A', c', e', _, _⟩ := own_form h2
    subst e'
    rw [hblk, hblk] at h5
    rw [hblk] at h3
    exact ⟨A', c', w', hrun, h2, h3, h5⟩

theorem wpList_append2 {ops : Array Oper} {rest : List Oper} {o : Oper} {a : Act} {Q : Exit → Act → World → Prop} (hgd : Region.wanted o (yielded ops a.tmps) = true) (s x : Operand) (t : TypeId)
    (ho : o.op = .call { callee := .builtin .append, args := #[s, x], argTypes := #[t, t] })
    (base : Nat) (e : TypeId) (z : Value) (bytes : Nat) (ht : P.underlying t = some (.slice e)) (hinfo : (P.info? e).map (fun i => (i.zero, i.size, i.bytes)) = some (some z, 1, bytes)) (hz1 : z.cells = #[z])
    (B : Option Addr) (k n : Nat) (xs : List Value) (hs : a.eval s = .slice B n k) (hown : w.ownsRow base e 1 (.slice B n k) n xs) (A : Option Addr) (m c : Nat) (news : List Value) (hx : a.eval x = .slice A m c) (hr : Row w A m c news) (h1 : ∀ u ∈ news, u.oneCell' = true)
    (hbytes : (n + m) * bytes ≤ 140737488355328) (hb : 0 < bytes) (hbase : base ≤ w.heap.size)
    (h : ∀ A' c' w', w'.ownsRow base e 1 (.slice A' (n + m) c') (n + m) (xs ++ news) → w.grownBy w' (blkOf B) → (blkOf A' = blkOf B ∨ blkOf A' = some w.heap.size) → wpList P ops Q rest (a.put o.dst (.slice A' (n + m) c')) w') : wpList P ops Q (o :: rest) a w := by
  obtain ⟨A', c', w', hrun, h2, h3, h4⟩ := run_append_row2 (P := P) (w := w) base t o.type e z bytes ht hinfo hz1 B k n xs hown A m c news hr h1 hbytes hb hbase
  refine wpList_step fun K hK => ?_
  rw [if_pos hgd]
  unfold Oper.wp
  simp only [execOp, ho, resolve, invoke, builtin, Sem.run_bind, Sem.run_pure, Result.andThen_ok, List.map_toArray, List.map_cons, List.map_nil, hs, hx, hrun]
  exact hK _ _ (h A' c' w' h2 h3 h4)
theorem own_lt {base : Nat} {e : TypeId} {A : Option Addr} {n c : Nat} {xs : List Value} (h : w.ownsRow base e 1 (.slice A n c) n xs) : ∀ b, blkOf A = some b → base ≤ b ∧ b < w.heap.size := by
  intro b hb
  exact h.lt b (by cases A <;> exact hb)
theorem SB.grownBy {A : Option Addr} {n c : Nat} {bs : List UInt8} {w' : World} {row : Option Nat} (h : SB w A n c bs) (hg : w.grownBy w' row) (ho : ∀ b, blkOf A = some b → row ≠ some b) : SB w' A n c bs :=
  Row.keeps h (keeps_grown hg) (fun p hp => ho p.block (by rw [hp]; rfl))
theorem SB.lt {A : Option Addr} {n c : Nat} {bs : List UInt8} (h : SB w A n c bs) (hn : 0 < n) : ∀ b, blkOf A = some b → b < w.heap.size := by
  obtain ⟨g, off, e, hb, _⟩ := h.2.2.2.2 hn
  intro b hb'
  subst e
  cases hb'
  exact hb
theorem Row.frm {A : Option Addr} {n c : Nat} {xs : List Value} (h : Row w A n c xs) {k : Nat} (hk : k ≤ n) : Row w (if c = k then A else A.map (·.add k)) (n - k) (c - k) (xs.drop k) := by
  obtain ⟨h1, h2, h3, h4, h5⟩ := h
  refine ⟨by rw [List.length_drop]; omega, by omega, by omega, fun e => ?_, fun hpos => ?_⟩
  · by_cases hc : c = k
    · omega
    · rw [if_neg hc] at e
      cases A with
      | none => have := h4 rfl; omega
      | some a => cases e
  · rw [if_neg (by omega)]
    obtain ⟨b, off, rfl, hb, hcell⟩ := h5 (by omega)
    refine ⟨b, off + k, by simp [add_zero_spot], hb, fun j hj => ?_⟩
    rw [Nat.add_assoc, hcell (k + j) (by omega), List.getElem?_drop]
theorem SB.frm {A : Option Addr} {n c : Nat} {bs : List UInt8} (h : SB w A n c bs) {k : Nat} (hk : k ≤ n) : SB w (if c = k then A else A.map (·.add k)) (n - k) (c - k) (bs.drop k) := by
  have := Row.frm h hk
  rw [← List.map_drop] at this
  exact this
/-- A part of an array of bytes, as a slice. -/
theorem Blk.part8 {g : Nat} {t : TypeId} {bs : List UInt8} (h : Blk w g t (bs.map b8).toArray) (o n c : Nat) (hn : n ≤ c) (hc : o + n ≤ bs.length) (hm : c ≤ maxLen) : SB w (some ⟨g, o, none⟩) n c ((bs.drop o).take n) := by
  have := h.row (o := o) (n := n) (c := c) hn (by simp; omega) hm
  unfold SB
  rw [List.map_take, List.map_drop]
  exact this
theorem gbo_grows {w w1 w2 : World} {row : Option Nat} (h : w.grownBy w1 row) (k : Grows w1 w2) : w.grownBy w2 row :=
  ⟨k.os.trans h.os, k.tape.trans h.tape, k.output.trans h.output, Nat.le_trans h.size k.size, fun i hi hne => (k.block i (Nat.lt_of_lt_of_le hi h.size)).trans (h.block i hi hne)⟩
theorem gbo_set {w w1 : World} {g : Nat} (h : w.grownBy w1 (some g)) (i : Nat) (u : Value) : w.grownBy (w1.setCell ⟨g, i, none⟩ u) (some g) := by
  have k := Below.setCell (Below.refl 0 w1) (p := ⟨g, i, none⟩) (Nat.zero_le _) u
  exact ⟨k.os.trans h.os, k.tape.trans h.tape, k.output.trans h.output, Nat.le_trans h.size k.size, fun j hj hne => (Below.heap_setCell w1 ⟨g, i, none⟩ u j (fun e => hne (by rw [e]))).trans (h.block j hj hne)⟩
theorem gbo_trans {w w1 w2 : World} {row : Option Nat} (h : w.grownBy w1 row) (k : w1.grownBy w2 row) : w.grownBy w2 row :=
  ⟨k.os.trans h.os, k.tape.trans h.tape, k.output.trans h.output, Nat.le_trans h.size k.size, fun i hi hne => (k.block i (Nat.lt_of_lt_of_le hi h.size) hne).trans (h.block i hi hne)⟩
end

end Go.Proofs.Ythcmdjaccjghjaa
