/-
  copy into a known block; what else stands stays. Plain theorems over any program.
-/
import Derived.Test.YthcmdjaccjghjaaOwn
import Derived.Laws.CopyOwn
namespace Go.Proofs.Ythcmdjaccjghjaa
open Go Go.RowKit

theorem wpList_copy_g {P : Program} {w : World} {ops : Array Oper} {rest : List Oper} {o : Oper} {a : Act} {Q : Exit → Act → World → Prop} (hgd : o.guard = none) (d s : Operand) (dT sT : TypeId)
    (ho : o.op = .call { callee := .builtin .copy, args := #[d, s], argTypes := #[dT, sT] }) (elem : TypeId) (hu : P.underlying dT = some (.slice elem)) (hsz : (P.info? elem).map (·.size) = some 1)
    (g off dLen dCap : Nat) (hd : a.eval d = .slice (some ⟨g, off, none⟩) dLen dCap) (ad : Addr) (sLen sCap : Nat) (hs : a.eval s = .slice (some ad) sLen sCap)
    (cur : List UInt8) (t : TypeId) (hg : Blk w g t (cur.map b8).toArray) (cs : List UInt8) (hr : SB w (some ad) sLen sCap cs) (hn : sLen ≤ dLen) (hfit : off + sLen ≤ cur.length)
    (h : ∀ w', Blk w' g t ((splice cur off cs).map b8).toArray → w.grownBy w' (some g) → wpList P ops Q rest (a.put o.dst (.int .i64 (sLen : Int))) w') : wpList P ops Q (o :: rest) a w := by
  have hl := hr.len
  have hb1 : ∀ v ∈ cs.map b8, v.oneCell' = true := by
    intro u hu
    obtain ⟨x, _, rfl⟩ := List.mem_map.1 hu
    rfl
  refine wpList_copy_own hgd d s dT sT ho elem hu hsz g off dLen dCap ad sLen sCap hd hs (cur.map b8).toArray t hg (cs.map b8) (by rw [List.length_map, hl]; exact (Nat.min_eq_left hn).symm) (Row.news hr) (by simp [hl]; omega) hb1 ?_
  have := h (w.setRow g (splice (cur.map b8) off (cs.map b8)).toArray) (by rw [← splice_map]; exact setRow_heap w g _ _ t _ hg) ⟨rfl, rfl, rfl, by simp, fun k _ hk => setRow_other w g k _ (fun e => hk (by rw [e]))⟩
  rw [List.length_map, hl]
  simpa [splice, goInt, hl] using this
end Go.Proofs.Ythcmdjaccjghjaa
