/-
  Words for the theorems' walks.
-/
import Derived.Test.YthcmdjaccjghjaaTop2
import Derived.Test.YthcmdjaccjghjaaConcat
import Derived.Test.YthcmdjaccjghjaaOpenTop
import Derived.Deep.RegionLaw
import Derived.Deep.MidRow
namespace Go.Proofs.Ythcmdjaccjghjaa
open Go Go.RowKit
set_option linter.unusedSimpArgs false
set_option linter.unusedVariables false


theorem sb_partC {w : World} {A : Option Addr} {n c b off : Nat} {bs : List UInt8} (h : SB w A n c bs) (hA : A = some ⟨b, off, none⟩) (p m d : Nat) (hm : m ≤ d) (hd : d ≤ maxLen) (hp : p + m ≤ n) : SB w (some ⟨b, off + p, none⟩) m d ((bs.drop p).take m) := by
  subst hA
  have hl := h.len
  refine ⟨by rw [List.length_map, List.length_take, List.length_drop]; omega, hm, hd, fun e => (by cases e), fun h0 => ?_⟩
  obtain ⟨b2, off2, e, hb, hc⟩ := h.2.2.2.2 (by omega)
  simp only [Option.some.injEq, Addr.mk.injEq, and_true] at e
  obtain ⟨rfl, rfl⟩ := e
  refine ⟨b, off + p, rfl, hb, fun j hj => ?_⟩
  have := hc (p + j) (by omega)
  rw [← Nat.add_assoc] at this
  rw [this, List.getElem?_map, List.getElem?_map, List.getElem?_take, if_pos hj, List.getElem?_drop]
theorem rows_two {w : World} {g n c m d : Nat} {A B : Option Addr} {xs ys : List UInt8} {t : TypeId} (hg : Blk w g t #[.slice A n c, .slice B m d]) (hx : SB w A n c xs) (hy : SB w B m d ys) : RowsB w (some ⟨g, 0, none⟩) 2 2 [xs, ys] := by
  refine ⟨rfl, Nat.le_refl _, by decide, fun e => (by cases e), fun _ => ⟨g, 0, rfl, hg.lt, fun i hi => ?_⟩⟩
  have h2 : i = 0 ∨ i = 1 := by omega
  rcases h2 with rfl | rfl
  · refine ⟨A, c, ?_, ?_⟩
    · rw [hg.cell]; show some (Value.slice A n c) = _; rw [hx.len.symm]; rfl
    · have := hx; rw [hx.len.symm] at this; exact this
  · refine ⟨B, d, ?_, ?_⟩
    · rw [hg.cell]; show some (Value.slice B m d) = _; rw [hy.len.symm]; rfl
    · have := hy; rw [hy.len.symm] at this; exact this
theorem step_append_atT {P : Program} {ops : Array Oper} {o : Oper} {a : Act} {w : World} {K : Act → World → Prop} {Q : Exit → Act → World → Prop} {E : Prop}
    (hg : o.guard = none) (s x : Operand) (t tx : TypeId) (ho : o.op = .call { callee := .builtin .append, args := #[s, x], argTypes := #[t, tx] })
    (base : Nat) (e : TypeId) (z : Value) (bytes : Nat) (ht : P.underlying t = some (.slice e)) (hinfo : (P.info? e).map (fun i => (i.zero, i.size, i.bytes)) = some (some z, 1, bytes)) (hz1 : z.cells = #[z])
    (A : Option Addr) (n c : Nat) (xs : List Value) (hs : a.eval s = .slice A n c) (hown : OwnAt w base A n c xs) (xv : Value) (hx : a.eval x = xv) (m : Nat) (news : List Value) (hsrc : Src P 1 tx xv m news w)
    (hbytes : (n + m) * bytes ≤ 140737488355328) (hb : 0 < bytes) (hbase : base ≤ w.heap.size)
    (h : ∀ A' c' w', OwnAt w' base A' (n + m) c' (xs ++ news) → w.grownBy w' (blkOf A) → (blkOf A' = blkOf A ∨ blkOf A' = some w.heap.size) → K (a.put o.dst (.slice A' (n + m) c')) w') :
    if Region.wanted o (yielded ops a.tmps) = true then Oper.wp P o a w K Q else E := by
  have hw : Region.wanted o (yielded ops a.tmps) = true := by simp [Region.wanted, hg]
  rw [if_pos hw]
  obtain ⟨A', c', w', hrun, h2, h3, h4⟩ := run_append_at (P := P) (w := w) base t tx o.type e z bytes ht hinfo hz1 A n c xs hown xv m news hsrc hbytes hb hbase
  unfold Oper.wp
  simp only [execOp, ho, resolve, invoke, builtin, Sem.run_bind, Sem.run_pure, Result.andThen_ok, List.map_toArray, List.map_cons, List.map_nil, hs, hx, hrun]
  exact h A' c' w' h2 h3 h4
theorem run_sl_hT {P : Program} {t e : TypeId} (ht : P.underlying t = some (.slice e)) (hs : (P.info? e).map (·.size) = some 1) (bk off n c hi : Nat) (h : Int) (hh : h = hi) (h1 : hi ≤ c) (W : World) :
    Sem.run P (Instr.slice t (.slice (some ⟨bk, off, none⟩) n c) none (some (.int .i64 h)) none) W = .ok (.slice (some ⟨bk, off, none⟩) hi c) W := by
  have e2 : P.elem t = e := by simp [Program.elem, ht]
  obtain ⟨i, hi', hi1⟩ := Option.map_eq_some_iff.1 hs
  have hz : (sizeOf e).run P W = .ok 1 W := by simp [sizeOf, typeInfo, hi', hi1]
  subst hh
  rw [run_slice_h (w := W) t (some ⟨bk, off, none⟩) n c (by rw [e2]; exact ht) .i64 hi (by omega) (by omega), e2, hz]
  simp only [Result.andThen_ok, sliced, Int.toNat_natCast, Nat.sub_zero, Nat.zero_mul]
  split
  · rfl
  · simp [add_zero_spot]
theorem Try.sizeKey : (Try.prog.info? 25).map (·.size) = some 49 := by kernel_rfl
theorem keyV_iv (K : List UInt8) (L : Bool) (IV : List UInt8) (hK : K.length = 32) (hI : IV.length = 16) : ((keyV K L IV).toList.drop 33).take 16 = IV.map b8 := by
  unfold keyV
  show ((K.map b8 ++ (.bool L :: IV.map b8)).drop 33).take 16 = _
  rw [List.drop_append, List.drop_of_length_le (by simp [hK]), List.nil_append, List.length_map, hK]
  show (IV.map b8).take 16 = _
  exact List.take_of_length_le (by simp [hI])
/-- The IV's cells in a key's block. -/
theorem key_iv {w : World} {p : Nat} {K : List UInt8} {L : Bool} {IV : List UInt8} (hK : K.length = 32) (hI : IV.length = 16) (hB : Blk w p 25 (keyV K L IV)) : SB w (some ⟨p, 33, none⟩) 16 16 IV := by
  have := hB.row (o := 33) (n := 16) (c := 16) (by omega) (by simp [keyV, hK, hI]) (by unfold maxLen; omega)
  rw [keyV_iv K L IV hK hI] at this
  exact this
theorem sb_range {w : World} {p o n c : Nat} {bs : List UInt8} (h : SB w (some ⟨p, o, none⟩) n c bs) : w.rangeAt p o (bs.map b8) := by
  intro j v hv
  have hj : j < n := by have := (List.getElem?_eq_some_iff.1 hv).1; rw [List.length_map, h.len] at this; exact this
  obtain ⟨b, off, e, _, hc⟩ := h.2.2.2.2 (by omega)
  cases e
  rw [hc j hj, hv]
theorem load16 {w : World} {p o : Nat} {bs : List UInt8} (hl : bs.length = 16) (h : w.rangeAt p o (bs.map b8)) : (Instr.loadAt 23 (.pointer (some ⟨p, o, none⟩))).run Try.prog w = .ok (.agg (bs.map b8).toArray) w :=
  run_loadAt_mid w p o 23 (bs.map b8) _ h Try.underlying23 rfl (by rw [Try.size16, List.length_map, hl])
end Go.Proofs.Ythcmdjaccjghjaa
