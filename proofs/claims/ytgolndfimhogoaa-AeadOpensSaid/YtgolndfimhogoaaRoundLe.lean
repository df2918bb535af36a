/-
  The program's double round is the reference's, in plain Lean.
-/
import Derived.Test.YtgolndfimhogoaaChacha9
namespace Go.Proofs.Ytgolndfimhogoaa
open Go Go.RowKit

theorem sixteen {α : Type} : ∀ (s : List α), s.length = 16 → ∃ x0 x1 x2 x3 x4 x5 x6 x7 x8 x9 x10 x11 x12 x13 x14 x15 : α, s = x0 :: x1 :: x2 :: x3 :: x4 :: x5 :: x6 :: x7 :: x8 :: x9 :: x10 :: x11 :: x12 :: x13 :: x14 :: x15 :: []
  | [x0, x1, x2, x3, x4, x5, x6, x7, x8, x9, x10, x11, x12, x13, x14, x15], _ => ⟨x0, x1, x2, x3, x4, x5, x6, x7, x8, x9, x10, x11, x12, x13, x14, x15, rfl⟩
theorem quad0 (s : List UInt32) (h : s.length = 16) : qAt 0 0 s = quarterS s 0 4 8 12 := by
  obtain ⟨x0, x1, x2, x3, x4, x5, x6, x7, x8, x9, x10, x11, x12, x13, x14, x15, rfl⟩ := sixteen s h
  rfl
theorem quad1 (s : List UInt32) (h : s.length = 16) : qAt 0 1 s = quarterS s 1 5 9 13 := by
  obtain ⟨x0, x1, x2, x3, x4, x5, x6, x7, x8, x9, x10, x11, x12, x13, x14, x15, rfl⟩ := sixteen s h
  rfl
theorem quad2 (s : List UInt32) (h : s.length = 16) : qAt 0 2 s = quarterS s 2 6 10 14 := by
  obtain ⟨x0, x1, x2, x3, x4, x5, x6, x7, x8, x9, x10, x11, x12, x13, x14, x15, rfl⟩ := sixteen s h
  rfl
theorem quad3 (s : List UInt32) (h : s.length = 16) : qAt 0 3 s = quarterS s 3 7 11 15 := by
  obtain ⟨x0, x1, x2, x3, x4, x5, x6, x7, x8, x9, x10, x11, x12, x13, x14, x15, rfl⟩ := sixteen s h
  rfl
theorem quad4 (s : List UInt32) (h : s.length = 16) : qAt 1 0 s = quarterS s 0 5 10 15 := by
  obtain ⟨x0, x1, x2, x3, x4, x5, x6, x7, x8, x9, x10, x11, x12, x13, x14, x15, rfl⟩ := sixteen s h
  rfl
theorem quad5 (s : List UInt32) (h : s.length = 16) : qAt 1 1 s = quarterS s 1 6 11 12 := by
  obtain ⟨x0, x1, x2, x3, x4, x5, x6, x7, x8, x9, x10, x11, x12, x13, x14, x15, rfl⟩ := sixteen s h
  rfl
theorem quad6 (s : List UInt32) (h : s.length = 16) : qAt 1 2 s = quarterS s 2 7 8 13 := by
  obtain ⟨x0, x1, x2, x3, x4, x5, x6, x7, x8, x9, x10, x11, x12, x13, x14, x15, rfl⟩ := sixteen s h
  rfl
theorem quad7 (s : List UInt32) (h : s.length = 16) : qAt 1 3 s = quarterS s 3 4 9 14 := by
  obtain ⟨x0, x1, x2, x3, x4, x5, x6, x7, x8, x9, x10, x11, x12, x13, x14, x15, rfl⟩ := sixteen s h
  rfl
theorem quarterS_len (s : List UInt32) (a b c d : Nat) : (quarterS s a b c d).length = s.length := by simp [quarterS, addS_len, xorS_len]
def roundS (s : List UInt32) : List UInt32 := quarterS (quarterS (quarterS (quarterS (quarterS (quarterS (quarterS (quarterS s 0 4 8 12) 1 5 9 13) 2 6 10 14) 3 7 11 15) 0 5 10 15) 1 6 11 12) 2 7 8 13) 3 4 9 14
theorem round_eq (s : List UInt32) (h : s.length = 16) : midN 2 s = roundS s := by
  show qAt 1 3 (qAt 1 2 (qAt 1 1 (qAt 1 0 (qAt 0 3 (qAt 0 2 (qAt 0 1 (qAt 0 0 s))))))) = _
  unfold roundS
  rw [quad0 _ h, quad1 _ (by simp [quarterS_len, h]), quad2 _ (by simp [quarterS_len, h]), quad3 _ (by simp [quarterS_len, h]), quad4 _ (by simp [quarterS_len, h]), quad5 _ (by simp [quarterS_len, h]), quad6 _ (by simp [quarterS_len, h]), quad7 _ (by simp [quarterS_len, h])]

end Go.Proofs.Ytgolndfimhogoaa
