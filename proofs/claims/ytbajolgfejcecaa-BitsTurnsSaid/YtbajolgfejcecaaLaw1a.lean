/-
  The walks of the laws of layer 1: BitsTurns.
-/
import Derived.Test.YtbajolgfejcecaaAwake1
namespace Go.Proofs.Ytbajolgfejcecaa
open Go Go.RowKit

theorem turns_back (x : UInt32) (a : Int) : leftF (leftF x a) (-a) = x := by
  rw [leftF_add]; exact leftF_zero _ _ (by omega)
theorem turns_whole (x : UInt32) : leftF x 32 = x := leftF_zero _ _ rfl

set_option maxHeartbeats 400000 in
theorem walk_BitsTurns (x : UInt32) (a : Int) (b : Int) (w : World) (ha : -32768 ≤ a ∧ a ≤ 32767) (hb : -32768 ≤ b ∧ b ≤ 32767) :
    Calls Try.prog 3 #[.int .u32 x.toNat, .int .i16 a, .int .i16 b] w fun e w' => e = .returned (.bool true) ∧ Below w.heap.size w w' := by
  obtain ⟨ha1, ha2⟩ := ha
  obtain ⟨hb1, hb2⟩ := hb
  have c2 : ∀ W, Calls Try.prog 11 #[.int .u32 (leftF x a).toNat, .int .i64 (-a)] W fun e w' => e = .returned (.int .u32 x.toNat) ∧ W = w' := fun W => by
    have := left_any (leftF x a) (-a) W
    rw [turns_back] at this
    exact this
  have c3 : ∀ W, Calls Try.prog 11 #[.int .u32 x.toNat, .int .i64 32] W fun e w' => e = .returned (.int .u32 x.toNat) ∧ W = w' := fun W => by
    have := left_any x 32 W
    rw [turns_whole] at this
    exact this
  have c4 : ∀ W, Calls Try.prog 11 #[.int .u32 (leftF x a).toNat, .int .i64 b] W fun e w' => e = .returned (.int .u32 (leftF x (a + b)).toNat) ∧ W = w' := fun W => by
    have := left_any (leftF x a) b W
    rw [leftF_add] at this
    exact this
  have C2 := lib_hid c2
  have C3 := lib_hid c3
  have C4 := lib_hid c4
  clear c2 c3 c4
  go_enter Try.func3, Try.ntmps3
  go_wp2_with fail
  refine (left_any x a w).mono ?_
  rintro e w' ⟨rfl, rfl⟩
  go_wp2_with fail
  refine (C2.out _).mono ?_
  rintro e w' ⟨rfl, rfl⟩
  go_wp2_with fail
  refine (C3.out _).mono ?_
  rintro e w' ⟨rfl, rfl⟩
  go_wp2_with fail
  refine (left_any x a w).mono ?_
  rintro e w' ⟨rfl, rfl⟩
  go_wp2_with fail
  refine (C4.out _).mono ?_
  rintro e w' ⟨rfl, rfl⟩
  go_wp2_with fail
  refine (left_any x (a + b) w).mono ?_
  rintro e w' ⟨rfl, rfl⟩
  go_wp2_with fail
  refine (awake_any w).mono ?_
  rintro e w' ⟨rfl, hg⟩
  go_wp2
  go_ret
  exact ⟨rfl, hg⟩

end Go.Proofs.Ytbajolgfejcecaa
