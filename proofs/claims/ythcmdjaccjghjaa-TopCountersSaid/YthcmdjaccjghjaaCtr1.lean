/-
  ctr.New.
-/
import Derived.Test.YthcmdjaccjghjaaTop1
import Derived.Deep.Cut
namespace Go.Proofs.Ythcmdjaccjghjaa
open Go Go.RowKit
set_option linter.unusedSimpArgs false
set_option linter.unusedVariables false


/-- A counter's stream: its key, the next count, what is left of the block, how many bytes were done. -/
def ctrV (g : Nat) (nx : List UInt8) (L : Value) (at0 : Int) : Array Value := (.pointer (some ⟨g, 0, none⟩) :: (nx.map b8 ++ [L, .int .i64 at0])).toArray
theorem Try.size16c : (Try.prog.info? 93).map (·.size) = some 19 := by kernel_rfl
theorem fold_set (c : Nat) : ∀ (xs old pre post : List Value) (k : Nat), pre.length = c + k → old.length = xs.length →
    (xs.zipIdx k).foldl (fun cs x => cs.setIfInBounds (c + x.snd) x.fst) (pre ++ old ++ post).toArray = (pre ++ xs ++ post).toArray
  | [], old, pre, post, k, _, h => by
    obtain rfl := List.length_eq_zero_iff.1 h
    rfl
  | x :: xs, [], pre, post, k, _, h => by simp at h
  | x :: xs, o :: old, pre, post, k, hp, h => by
    rw [List.zipIdx_cons, List.foldl_cons]
    have e : ((pre ++ o :: old ++ post).toArray).setIfInBounds (c + k) x = ((pre ++ [x]) ++ old ++ post).toArray := by
      rw [List.setIfInBounds_toArray, ← hp, List.append_assoc, List.set_append_right _ _ (Nat.le_refl _), Nat.sub_self]
      simp
    show (xs.zipIdx (k + 1)).foldl _ (((pre ++ o :: old ++ post).toArray).setIfInBounds (c + k) x) = _
    rw [e, fold_set c xs old (pre ++ [x]) post (k + 1) (by rw [List.length_append, hp]; rfl) (by simpa using h)]
    simp
theorem ctr_fold (g : Nat) (iv : List UInt8) (hx : iv.length = 16) : (iv.map b8).zipIdx.foldl (fun cs x => cs.setIfInBounds (1 + x.snd) x.fst) #[Value.pointer (some ⟨g, 0, none⟩), .int .u8 0, .int .u8 0, .int .u8 0, .int .u8 0, .int .u8 0, .int .u8 0, .int .u8 0, .int .u8 0, .int .u8 0, .int .u8 0, .int .u8 0, .int .u8 0, .int .u8 0, .int .u8 0, .int .u8 0, .int .u8 0, .slice none 0 0, .int .i64 0] = ctrV g iv (.slice none 0 0) 0 := by
  have h := fold_set 1 (iv.map b8) (List.replicate 16 (.int .u8 0)) [Value.pointer (some ⟨g, 0, none⟩)] [.slice none 0 0, .int .i64 0] 0 rfl (by simp [hx])
  unfold ctrV
  simpa using h
set_option maxRecDepth 100000 in
set_option maxHeartbeats 4000000 in
theorem ctrNew_any (g : Nat) (iv : List UInt8) (w : World) (hx : iv.length = 16) :
    Calls Try.prog 41 #[.pointer (some ⟨g, 0, none⟩), .agg (iv.map b8).toArray] w fun e w' => ∃ s, e = .returned (.pointer (some ⟨s, 0, none⟩)) ∧ w.heap.size ≤ s ∧ Grows w w' ∧ Blk w' s 93 (ctrV g iv (.slice none 0 0) 0) := by
  obtain ⟨W0, HW0, hg0⟩ : ∃ W0 : World, Hid (W0 = w.alloc (.cells (iv.map b8).toArray 23)) ∧ Grows w W0 := ⟨_, lib_hid rfl, (Grows.refl w).alloc _⟩
  have HB : Hid (Blk W0 w.heap.size 23 (iv.map b8).toArray) := by unfold Hid; rw [HW0.out]; exact Blk.new w _ _
  have hsz : (Try.prog.info? 23).map (·.size) = some (iv.map b8).toArray.size := by rw [Try.size16, List.size_toArray, List.length_map, hx]
  go_enter Try.func41, Try.ntmps41
  go_upto_region 1 with fail
  rw [← HW0.out]
  go_wp2_with (refine wpList_load_blk rfl _ _ rfl w.heap.size rfl 23 (iv.map b8).toArray _ HB.out Try.underlying23 rfl hsz ?_)
  go_ret
  refine ⟨_, rfl, hg0.size, hg0.alloc _, ?_⟩
  have := Blk.new W0 93 (ctrV g iv (.slice none 0 0) 0)
  rw [← ctr_fold g iv hx] at this
  exact (ctr_fold g iv hx) ▸ this
end Go.Proofs.Ythcmdjaccjghjaa
