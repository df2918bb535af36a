/-
  The walks of ghash.Pad and of the helpers of layer 6's laws.
-/
import Derived.Test.YthcmdjaccjghjaaGhashLe
import Derived.Deep.Cut
namespace Go.Proofs.Ythcmdjaccjghjaa
open Go Go.RowKit
set_option linter.unusedSimpArgs false


def padF (n : Nat) : Nat := (16 - n % 16) % 16
set_option maxHeartbeats 1000000 in
theorem pad_any (n : Nat) (h0 : 1 ≤ n) (h1 : n ≤ 4611686018427387904) (w : World) :
    Calls Try.prog 57 #[.int .i64 (n : Int)] w fun e w' => e = .returned (.int .i64 (padF n : Nat)) ∧ w = w' := by
  have hlt : ¬ (n : Int) < 1 := by omega
  obtain ⟨r, hr, Hr, hr16⟩ : ∃ r : Nat, (n : Int).tmod 16 = (r : Int) ∧ Hid (n % 16 = r) ∧ r < 16 := ⟨n % 16, by rw [Int.tmod_eq_emod_of_nonneg (by omega)]; omega, lib_hid rfl, Nat.mod_lt _ (by omega)⟩
  obtain ⟨q, hq, Hq⟩ : ∃ q : Nat, (16 - (r : Int)).tmod 16 = (q : Int) ∧ Hid ((16 - r) % 16 = q) := ⟨(16 - r) % 16, by rw [Int.tmod_eq_emod_of_nonneg (by omega)]; omega, lib_hid rfl⟩
  go_enter Try.func57, Try.ntmps57
  go_wp2
  go_ret
  exact ⟨by unfold padF; rw [Hr.out, Hq.out]; rfl, rfl⟩

/-- Both, after k rounds. -/
def bothP (xs ys : List UInt8) (k : Nat) : List UInt8 := (List.zipWith (· ^^^ ·) (xs.take k) (ys.take k)) ++ xs.drop k
theorem bothP_len (xs ys : List UInt8) (k : Nat) (hx : xs.length = 16) (hy : ys.length = 16) (hk : k ≤ 16) : (bothP xs ys k).length = 16 := by simp [bothP, hx, hy]; omega
theorem bothP_at (xs ys : List UInt8) (k : Nat) (hx : xs.length = 16) (hy : ys.length = 16) (hk : k < 16) : (bothP xs ys k)[k]? = xs[k]? := by
  unfold bothP
  rw [List.getElem?_append_right (by simp [hx, hy]; omega)]
  simp [hx, hy, show min k 16 = k by omega]
theorem bothP_step (xs ys : List UInt8) (k : Nat) (hx : xs.length = 16) (hy : ys.length = 16) (hk : k < 16) : (bothP xs ys k).set k (xs[k]! ^^^ ys[k]!) = bothP xs ys (k + 1) := by
  apply List.ext_getElem?
  intro i
  have e1 : xs[k]! = xs[k]'(by omega) := by simp [show k < xs.length by omega]
  have e2 : ys[k]! = ys[k]'(by omega) := by simp [show k < ys.length by omega]
  rw [e1, e2, List.getElem?_set]
  unfold bothP
  by_cases hi : k = i
  · subst hi
    rw [if_pos rfl, if_pos (by simp [hx, hy]; omega), List.getElem?_append_left (by simp [hx, hy]; omega)]
    simp [List.getElem?_zipWith, List.getElem?_take, show k < xs.length by omega, show k < ys.length by omega]
  · rw [if_neg hi]
    by_cases hl : i < k
    · rw [List.getElem?_append_left (by simp [hx, hy]; omega), List.getElem?_append_left (by simp [hx, hy]; omega)]
      simp [List.getElem?_zipWith, List.getElem?_take, hl, show i < k + 1 by omega]
    · rw [List.getElem?_append_right (by simp [hx, hy]; omega), List.getElem?_append_right (by simp [hx, hy]; omega)]
      simp [hx, hy, show min k 16 = k by omega, show min (k + 1) 16 = k + 1 by omega]
      congr 1; omega
theorem bothP_zero (xs ys : List UInt8) : bothP xs ys 0 = xs := by simp [bothP]
theorem bothP_all (xs ys : List UInt8) (hx : xs.length = 16) (hy : ys.length = 16) : bothP xs ys 16 = List.zipWith (· ^^^ ·) xs ys := by
  unfold bothP
  rw [List.take_of_length_le (by omega), List.take_of_length_le (by omega), List.drop_of_length_le (by omega), List.append_nil]

def powB (n : Nat) : List UInt8 := (List.replicate 16 (0 : UInt8)).set (n / 8) (128 >>> UInt8.ofNat (n % 8))
theorem powB_len (n : Nat) : (powB n).length = 16 := by simp [powB]
theorem NB_pow : ∀ n, n < 128 → NB (powB n) = 2 ^ (127 - n) := by decide +kernel
end Go.Proofs.Ythcmdjaccjghjaa
