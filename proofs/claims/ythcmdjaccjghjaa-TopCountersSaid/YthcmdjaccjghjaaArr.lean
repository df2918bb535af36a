/-
  Parts of blocks: an array loaded from, or stored into, the middle of a block. Plain theorems over any program.
-/
import Derived.Test.YthcmdjaccjghjaaOps
import Derived.Test.YthcmdjaccjghjaaMonoR
import Derived.Laws.Rows
import Derived.Laws.Slices
import Derived.Laws.Tables
import Derived.Laws.CopyRow
namespace Go.Proofs.Ythcmdjaccjghjaa
open Go Go.RowKit

section
variable {P : Program} {w : World}

theorem run_loadVar_part (ty : TypeId) (ad : Addr) (n c : Nat) (xs : List Value) (d : TypeDesc) (hr : Row w (some ad) n c xs)
    (hu : P.underlying ty = some d) (hd : (match d with | .struct _ | .array _ _ => true | _ => false) = true) (hi : (P.info? ty).map (·.size) = some n) :
    (loadVar ty ad).run P w = .ok (.agg xs.toArray) w := by
  have hl := loadCells_row (P := P) hr
  cases hq : P.info? ty with
  | none => simp [hq] at hi
  | some i =>
    have hs : i.size = n := by simpa [hq] using hi
    have hagg : (isAgg ty).run P w = .ok true w := by
      unfold isAgg
      rw [Sem.run_bind, run_underlying hu w]
      cases d <;> simp_all
    simp [loadVar, Sem.run_bind, hagg, sizeOf, typeInfo, hq, hs, hl]

theorem wpList_load_part {ops : Array Oper} {rest : List Oper} {o : Oper} {a : Act} {Q : Exit → Act → World → Prop} (hgd : Region.wanted o (yielded ops a.tmps) = true) (ty : TypeId) (x : Operand) (ho : o.op = .load ty x)
    (ad : Addr) (hx : a.eval x = .pointer (some ad)) (n c : Nat) (xs : List Value) (d : TypeDesc) (hr : Row w (some ad) n c xs)
    (hu : P.underlying ty = some d) (hd : (match d with | .struct _ | .array _ _ => true | _ => false) = true) (hi : (P.info? ty).map (·.size) = some n)
    (h : wpList P ops Q rest (a.put o.dst (.agg xs.toArray)) w) : wpList P ops Q (o :: rest) a w := by
  refine wpList_step fun K hK => ?_
  rw [if_pos hgd]
  unfold Oper.wp execOp
  simp only [ho, hx, Instr.loadAt, Instr.sureAddr, Sem.run_bind, Sem.run_pure, Result.andThen_ok, run_loadVar_part ty ad n c xs d hr hu hd hi]
  exact hK _ _ h

theorem run_storeVar_part (ty : TypeId) (g o : Nat) (news : List Value) (t : TypeId) (old : Array Value) (hg : Blk w g t old) (hi : (P.info? ty).map (·.size) = some news.length)
    (hfit : o + news.length ≤ old.size) (h1 : ∀ v ∈ news, v.oneCell' = true) :
    (storeVar ty ⟨g, o, none⟩ (.agg news.toArray)).run P w = .ok () (w.setRow g (splice old.toList o news).toArray) := by
  have hl := run_storeCells_at P g o t news 0 old w hg (by omega) h1
  cases hq : P.info? ty with
  | none => simp [hq] at hi
  | some i =>
    have hs : i.size = news.length := by simpa [hq] using hi
    simp only [Nat.add_zero] at hl
    unfold splice
    rw [List.append_assoc] at hl
    simp [storeVar, Sem.run_bind, sizeOf, typeInfo, hq, hs, Value.cells, hl]

theorem wpList_store_part {ops : Array Oper} {rest : List Oper} {o : Oper} {a : Act} {Q : Exit → Act → World → Prop} (hgd : Region.wanted o (yielded ops a.tmps) = true) (ty : TypeId) (x y : Operand) (ho : o.op = .store ty x y)
    (g off : Nat) (news : List Value) (hx : a.eval x = .pointer (some ⟨g, off, none⟩)) (hy : a.eval y = .agg news.toArray)
    (t : TypeId) (old : List Value) (hg : Blk w g t old.toArray) (hi : (P.info? ty).map (·.size) = some news.length)
    (hfit : off + news.length ≤ old.length) (h1 : ∀ v ∈ news, v.oneCell' = true) (B : Nat) (w0 : World) (hb : Below B w0 w) (hBg : B ≤ g)
    (h : ∀ w', Blk w' g t (splice old off news).toArray → Below B w0 w' → w.grownBy w' (some g) → wpList P ops Q rest (a.put o.dst undef) w') : wpList P ops Q (o :: rest) a w := by
  refine wpList_step fun K hK => ?_
  rw [if_pos hgd]
  unfold Oper.wp execOp
  simp only [ho, hx, hy, Instr.storeAt, Instr.sureAddr, Sem.run_bind, Sem.run_pure, Result.andThen_ok, run_storeVar_part ty g off news t old.toArray hg hi (by simpa using hfit) h1]
  exact hK _ _ (h _ (setRow_heap w g old.toArray _ t _ hg) (below_setRow hb hBg _) ⟨rfl, rfl, rfl, by simp, fun k _ hk => setRow_other w g k _ (fun e => hk (by rw [e]))⟩)

theorem run_slice_arr {t e : TypeId} {n : Nat} (ht : P.underlying t = some (.array n e)) (hs : (P.info? e).map (·.size) = some 1) (g lo hi : Nat) (l h : Int) (hl : l = lo) (hh : h = hi) (h1 : lo ≤ hi) (h2 : hi ≤ n) (h3 : lo < n) (W : World) :
    Sem.run P (Instr.sliceAt t (.pointer (some ⟨g, 0, none⟩)) (some (.int .i64 l)) (some (.int .i64 h)) none) W = .ok (.slice (some ⟨g, lo, none⟩) (hi - lo) (n - lo)) W := by
  have e1 : P.arrayLen t = n := by simp [Program.arrayLen, ht]
  have e2 : P.elem t = e := by simp [Program.elem, ht]
  obtain ⟨i, hi', hi1⟩ := Option.map_eq_some_iff.1 hs
  have hz : (sizeOf e).run P W = .ok 1 W := by simp [sizeOf, typeInfo, hi', hi1]
  subst hl hh
  rw [run_sliceAt_array_lh W t ⟨g, 0, none⟩ (by rw [e1, e2]; exact ht) .i64 .i64 lo hi (by omega) (by omega) (by rw [e1]; omega), e1, e2, hz]
  simp only [Result.andThen_ok, slicedAt, Int.toNat_natCast, Nat.mul_one]
  rw [if_neg (by omega), add_zero_spot]
  simp
theorem run_slice_arr_l {t e : TypeId} {n : Nat} (ht : P.underlying t = some (.array n e)) (hs : (P.info? e).map (·.size) = some 1) (g lo : Nat) (l : Int) (hl : l = lo) (h3 : lo < n) (W : World) :
    Sem.run P (Instr.sliceAt t (.pointer (some ⟨g, 0, none⟩)) (some (.int .i64 l)) none none) W = .ok (.slice (some ⟨g, lo, none⟩) (n - lo) (n - lo)) W := by
  have e1 : P.arrayLen t = n := by simp [Program.arrayLen, ht]
  have e2 : P.elem t = e := by simp [Program.elem, ht]
  obtain ⟨i, hi', hi1⟩ := Option.map_eq_some_iff.1 hs
  have hz : (sizeOf e).run P W = .ok 1 W := by simp [sizeOf, typeInfo, hi', hi1]
  subst hl
  rw [run_sliceAt_array_l W t ⟨g, 0, none⟩ (by rw [e1, e2]; exact ht) .i64 lo (by omega) (by rw [e1]; omega), e1, e2, hz]
  simp only [Result.andThen_ok, slicedAt, Int.toNat_natCast, Nat.mul_one]
  rw [if_neg (by omega), add_zero_spot]
  simp

/-- Blocks below B stay; a block at or above B that holds 'old' holds 'old' or 'new', one that holds 'new' holds it. -/
def Fill (B : Nat) (t : TypeId) (old new : Array Value) (w w' : World) : Prop :=
  Below B w w' ∧ ∀ g, B ≤ g → (Blk w g t old → Blk w' g t old ∨ Blk w' g t new) ∧ (Blk w g t new → Blk w' g t new)
theorem fill_rel (B : Nat) (t : TypeId) (old new : Array Value) : Rel (Fill B t old new) where
  refl w := ⟨Below.refl _ _, fun _ _ => ⟨Or.inl, id⟩⟩
  trans h k := ⟨h.1.trans k.1, fun g hg => ⟨fun x => by
    rcases (h.2 g hg).1 x with y | y
    · exact (k.2 g hg).1 y
    · exact Or.inr ((k.2 g hg).2 y), fun x => (k.2 g hg).2 ((h.2 g hg).2 x)⟩⟩
  drew w := ⟨Below.drew (Below.refl _ _), fun _ _ => ⟨fun h => Or.inl h.drew, fun h => h.drew⟩⟩
theorem Grows.fill {w w' : World} (h : Grows w w') {B : Nat} (hB : B ≤ w.heap.size) (t : TypeId) (old new : Array Value) : Fill B t old new w w' :=
  ⟨h.below hB, fun _ _ => ⟨fun x => Or.inl (x.grows h), fun x => x.grows h⟩⟩
/-- The block is filled. -/
theorem fill_store {B g : Nat} {t : TypeId} {old new : Array Value} {w w' : World} (hb : Below B w w') (hBg : B ≤ g) (hg : w.grownBy w' (some g)) (hn : Blk w' g t new) : Fill B t old new w w' :=
  ⟨hb, fun k hk => by
    by_cases he : k = g
    · subst he; exact ⟨fun _ => Or.inr hn, fun _ => hn⟩
    · have hne : some k ≠ some g := fun e => he (by cases e; rfl)
      exact ⟨fun x => Or.inl (x.grown hg hne), fun x => x.grown hg hne⟩⟩
end

end Go.Proofs.Ythcmdjaccjghjaa
