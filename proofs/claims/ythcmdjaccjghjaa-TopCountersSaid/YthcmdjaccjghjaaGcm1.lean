/-
  gcm.padded; words for gcm.hash.
-/
import Derived.Test.YthcmdjaccjghjaaTop4
import Derived.Test.YthcmdjaccjghjaaGhash4
import Derived.Test.YthcmdjaccjghjaaGhash6
import Derived.Test.YthcmdjaccjghjaaLengths
import Derived.Deep.MidRow
namespace Go.Proofs.Ythcmdjaccjghjaa
open Go Go.RowKit
set_option linter.unusedSimpArgs false
set_option linter.unusedVariables false


def padG (bs : List UInt8) : List UInt8 := bs ++ List.replicate (padF bs.length) 0
theorem padF_le (n : Nat) : padF n ≤ 15 := by unfold padF; omega
theorem padG_len (bs : List UInt8) : (padG bs).length = bs.length + padF bs.length := by simp [padG]
theorem padAll_any (n : Nat) (h1 : n ≤ 1000000) (w : World) : Calls Try.prog 57 #[.int .i64 (n : Int)] w fun e w' => e = .returned (.int .i64 ((padF n : Nat) : Int)) ∧ w = w' := by
  by_cases h0 : 1 ≤ n
  · exact pad_any n h0 (by omega) w
  · obtain rfl : n = 0 := by omega
    go_enter Try.func57, Try.ntmps57
    go_wp2
    go_ret
    exact ⟨rfl, rfl⟩
set_option maxRecDepth 100000 in
set_option maxHeartbeats 4000000 in
theorem padded_any (A : Option Addr) (n c : Nat) (bs : List UInt8) (w : World) (hs : SB w A n c bs) (hn : n ≤ 1000) :
    Calls Try.prog 51 #[.slice A n c] w (NewB 5 w (padG bs)) := by
  have HS := lib_hid hs
  have hl := lib_hid hs.len
  have hcm := hs.max
  have hnc := hs.cap
  obtain ⟨q, Hq, hq⟩ : ∃ q, Hid (padF n = q) ∧ q ≤ 15 := ⟨_, lib_hid rfl, padF_le n⟩
  have HPd : Hid (∀ W, Calls Try.prog 57 #[.int .i64 (n : Int)] W fun e w' => e = .returned (.int .i64 (q : Int)) ∧ W = w') := fun W => by rw [← Hq.out]; exact padAll_any n (by omega) W
  clear hs
  go_enter Try.func51, Try.ntmps51
  go_wp2_with fail
  refine (HPd.out w).mono ?_
  rintro e w1 ⟨rfl, rfl⟩
  go_wp2_with (refine wpList_make_blk rfl _ _ 26 rfl 5 (.int .u8 0) 1 Try.underlying26 Try.infoByte rfl .i64 .i64 q rfl rfl (by omega) (by omega) ?_; intro w2 hB2 hg2 hl2)
  obtain ⟨q2, Hq2⟩ : ∃ q2, Hid (w2.heap.size = q2) := ⟨_, lib_hid rfl⟩
  obtain ⟨q1, Hq1⟩ : ∃ q1, Hid (w.heap.size = q1) := ⟨_, lib_hid rfl⟩
  rw [Hq1.out] at hB2 ⊢
  have hz : SB w2 (some ⟨q1, 0, none⟩) q q (List.replicate q 0) := by
    have h0 : Blk w2 q1 5 ((List.replicate q (0 : UInt8)).map b8).toArray := by rw [List.map_replicate, List.toArray_replicate]; exact hB2
    have := h0.row (o := 0) (n := q) (c := q) (by omega) (by simp) (by unfold maxLen; omega)
    rw [List.drop_zero, List.take_of_length_le (by simp)] at this
    exact this
  obtain ⟨W3, HW3⟩ : ∃ W3, Hid (w2.alloc (.cells #[.slice A n c, .slice (some ⟨q1, 0, none⟩) q q] 26) = W3) := ⟨_, lib_hid rfl⟩
  have HRw : Hid (RowsB W3 (some ⟨q2, 0, none⟩) 2 2 [bs, List.replicate q 0]) := by
    unfold Hid; rw [← HW3.out, ← Hq2.out]
    exact rows_two (Blk.new w2 26 _) ((HS.out.grows hg2).grows ((Grows.refl w2).alloc _)) (hz.grows ((Grows.refl w2).alloc _))
  have HG3 : Hid (Grows w W3) := by unfold Hid; rw [← HW3.out]; exact hg2.alloc _
  rw [HW3.out, Hq2.out]
  clear hz hB2 hg2 hl2 HW3
  refine (concat_any [bs, List.replicate q 0] _ _ _ W3 HRw.out (by omega) (by show (bs ++ (List.replicate q 0 ++ [])).length ≤ _; rw [List.append_nil, List.length_append, List.length_replicate, hl.out]; omega)).mono ?_
  rintro e w5 ⟨C, nc, cc, hnc5, rfl, hg5, ho5⟩
  have hF : flatB [bs, List.replicate q 0] = padG bs := by
    show bs ++ (List.replicate q 0 ++ []) = _
    unfold padG
    rw [List.append_nil, hl.out, Hq.out]
  rw [hF] at hnc5 ho5
  have HN := lib_hid hnc5.out
  have HO := lib_hid (own_base ho5 HG3.out.size)
  have HGo := lib_hid (HG3.out.trans hg5)
  clear hg5 ho5 hnc5 hF HRw
  go_wp2
  go_ret
  exact ⟨C, nc, cc, HN, rfl, HGo.out, HO.out⟩
def padL : List (List UInt8) → List UInt8
  | [] => []
  | x :: l => padG x ++ padL l
theorem padL_app : ∀ l m, padL (l ++ m) = padL l ++ padL m
  | [], _ => rfl
  | x :: l, m => by rw [List.cons_append, padL, padL, padL_app l m, List.append_assoc]
theorem padL_take (ls : List (List UInt8)) (k : Nat) (hk : k < ls.length) : padL (ls.take (k + 1)) = padL (ls.take k) ++ padG (ls.getD k []) := by
  rw [List.take_add_one, padL_app, List.getD_eq_getElem?_getD, List.getElem?_eq_getElem hk]
  simp [padL]
theorem splice_cons (old : List Value) (o : Nat) (v : Value) (r : List Value) (h : o + 1 + r.length ≤ old.length) : splice (old.set o v) (o + 1) r = splice old o (v :: r) := by
  unfold splice
  have hd : (old.set o v).drop (o + 1 + r.length) = old.drop (o + (v :: r).length) := by
    rw [List.drop_set_of_lt (by omega), List.length_cons]; congr 1; omega
  have ht : (old.set o v).take (o + 1) = old.take o ++ [v] := by
    rw [List.take_add_one, List.getElem?_set_self (by omega), List.take_set_of_le (Nat.le_refl _)]
    rfl
  rw [hd, ht]
  simp
theorem blk_setCells (g : Nat) (t : TypeId) : ∀ (vs : List Value) (o : Nat) (w : World) (cs : Array Value), Blk w g t cs → o + vs.length ≤ cs.size → Blk (w.setCells g o vs) g t (splice cs.toList o vs).toArray
  | [], o, w, cs, h, ho => by
    unfold splice
    simpa [World.setCells] using h
  | v :: r, o, w, cs, h, ho => by
    rw [List.length_cons] at ho
    have h1 := blk_setCells g t r (o + 1) (w.setCell ⟨g, o, none⟩ v) (cs.setIfInBounds o v) (h.set o v) (by rw [Array.size_setIfInBounds]; omega)
    rw [Array.toList_setIfInBounds, splice_cons cs.toList o v r (by have := Array.length_toList (xs := cs); omega)] at h1
    exact h1
theorem blk_setAll {w : World} {g : Nat} {t : TypeId} {cs : Array Value} {vs : List Value} (h : Blk w g t cs) (hl : vs.length = cs.size) : Blk (w.setCells g 0 vs) g t vs.toArray := by
  have := blk_setCells g t vs 0 w cs h (by omega)
  unfold splice at this
  rw [List.take_zero, List.nil_append, Nat.zero_add, hl, List.drop_of_length_le (by rw [Array.length_toList]; exact Nat.le_refl _), List.append_nil] at this
  exact this
theorem keeps_setCells (g : Nat) : ∀ (vs : List Value) (o : Nat) (w : World), Keeps (fun k => k = g) w (w.setCells g o vs)
  | [], _, w => Keeps.refl _ w
  | v :: r, o, w => (keeps_set w ⟨g, o, none⟩ v).trans (keeps_setCells g r (o + 1) _) (fun _ h _ => h)
theorem blk_there {w : World} {g n : Nat} {t : TypeId} {cs : Array Value} (h : Blk w g t cs) (hn : cs.size = n) : w.there g 0 n := fun j hj => by
  rw [Nat.zero_add]
  exact ⟨by rw [h.cell, Array.getElem?_eq_getElem (by omega)]; rfl, h.frozen j⟩
end Go.Proofs.Ythcmdjaccjghjaa
