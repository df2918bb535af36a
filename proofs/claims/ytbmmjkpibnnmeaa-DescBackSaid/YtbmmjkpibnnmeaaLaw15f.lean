/-
  The walk of DescBack.
-/
import Derived.Test.YtbmmjkpibnnmeaaBack
import Derived.Test.YtbmmjkpibnnmeaaSame
import Derived.Test.YtbmmjkpibnnmeaaDesc5
import Derived.Test.YtbmmjkpibnnmeaaOpenSpan
namespace Go.Proofs.Ytbmmjkpibnnmeaa
open Go Go.RowKit
set_option linter.unusedSimpArgs false
set_option linter.unusedVariables false


set_option maxRecDepth 100000 in
set_option maxHeartbeats 4000000 in
theorem walk_DescBack (A : Option Addr) (n c : Nat) (bs : List UInt8) (B : Option Addr) (m d : Nat) (l : List (Int × Int)) (w : World) (hs1 : SB w A n c bs) (hs2 : SpanR w B m d l) :
    Calls Try.prog 11 #[.slice A n c, .slice B m d] w fun e w' => e = .returned (.bool true) ∧ Below w.heap.size w w' := by
  by_cases h1 : 300 < n
  · have h1i : (300 : Int) < (n : Int) := by omega
    go_enter Try.func11, Try.ntmps11
    go_wp2
    go_ret
    exact ⟨rfl, Grows.refl w⟩
  by_cases h2 : 30 < m
  · have h1i : ¬ (300 : Int) < (n : Int) := by omega
    have h2i : (30 : Int) < (m : Int) := by omega
    go_enter Try.func11, Try.ntmps11
    go_wp2
    go_ret
    exact ⟨rfl, Grows.refl w⟩
  have h1i : ¬ (300 : Int) < (n : Int) := by omega
  have h2i : ¬ (30 : Int) < (m : Int) := by omega
  have H1 := lib_hid hs1
  have H2 := lib_hid hs2
  have hm30 : m ≤ 30 := by omega
  have hn300 : n ≤ 300 := by omega
  obtain ⟨L, E, HD⟩ : ∃ L E, Hid (decR bs = (L, E)) := ⟨_, _, lib_hid rfl⟩
  obtain ⟨M, F, HE⟩ : ∃ M F, Hid (encR l = (M, F)) := ⟨_, _, lib_hid rfl⟩
  have HLl : Hid (L.length ≤ 8) := lib_hid (by have := decR_len bs; rw [HD.out] at this; exact this)
  have HMl : Hid (M.length ≤ 64) := lib_hid (by have := encR_len l; rw [HE.out] at this; exact this)
  have hEe : E = 0 ∨ E = 17 ∨ E = 10 := by have := decR_err bs; rw [HD.out] at this; exact this
  have hFe : F = 0 ∨ F = 1 ∨ F = 10 := by have := encR_err l; rw [HE.out] at this; exact this
  have Hsp : Hid (∀ W, Grows w W → Calls Try.prog 14 #[.slice B m d] W (NewS 28 W l)) := fun W hW => spans15_any l B m d W (H2.out.grows hW) (by omega)
  have He : Hid (∀ W A n c, SpanR W A n c l → n ≤ 30 → Calls Try.prog 34 #[.slice A n c] W (NewEn W M F)) := fun W A n c h hn => by have := encode_any l A n c W h (by omega); rw [HE.out] at this; exact this
  have Hd : Hid (∀ W, Grows w W → Calls Try.prog 32 #[.slice A n c] W (NewSE 28 W L E)) := fun W hW => by have := decode_any A n c bs W (H1.out.grows hW) (by omega); rw [HD.out] at this; exact this
  have Hsa : Hid (∀ W A n c B k d, SpanR W A n c l → SpanR W B k d l → n ≤ 30 → k ≤ 30 → Calls Try.prog 36 #[.slice A n c, .slice B k d] W fun e w' => e = .returned (.bool true) ∧ Grows W w') := fun W A n c B k d h1 h2 hn hk => by
    have := same_any l l A B n c k d W h1 h2 (by omega) (by omega)
    rw [decide_eq_true rfl] at this; exact this
  have HA := lib_hid (fun W => awake15_any W)
  have Hll : Hid (l.length = m) := lib_hid hs2.len
  have hG0 : Grows w w := Grows.refl w
  clear hs1 hs2 h1 h2
  go_enter Try.func11, Try.ntmps11
  go_wp2_with fail
  refine (Hsp.out _ hG0).mono ?_
  rintro e w1 ⟨A1, n1, c1, hn1, rfl, hg1, ho1⟩
  have hG1 := hG0.trans hg1
  have HS1 := lib_hid (SpanR.own ho1)
  have Hn1 := lib_hid hn1.out
  clear ho1 hn1
  go_wp2_with fail
  refine (He.out _ _ _ _ HS1.out (by have := Hn1.out; have := Hll.out; omega)).mono ?_
  rintro e w2 ⟨A2, n2, c2, hn2, rfl, hg2, ho2⟩
  have hG2 := hG1.trans hg2
  have HS2 := lib_hid (id ho2)
  have Hn2 := lib_hid hn2.out
  clear ho2 hn2
  rcases hFe with rfl | rfl | rfl
  · skip
    have Hdm : Hid (∀ W A n c, SB W A n c M → n ≤ 64 → Calls Try.prog 32 #[.slice A n c] W (NewSE 28 W l 0)) := fun W A n c h hn => by
      have := decode_any A n c M W h (by omega)
      have e := encR_back l (by rw [HE.out])
      rw [HE.out] at e
      rw [e] at this; exact this
    have hn64 : n2 ≤ 64 := by have := Hn2.out; have := HMl.out; omega
    go_wp2_with fail
    refine (Hdm.out _ _ _ _ HS2.out hn64).mono ?_
    rintro e w3 ⟨A3, n3, c3, hn3, rfl, hg3, ho3⟩
    have hG3 := hG2.trans hg3
    have HS3 := lib_hid (SpanR.own ho3)
    have Hn3 := lib_hid hn3.out
    clear ho3 hn3
    have hn30 : n3 ≤ 30 := by have := Hn3.out; have := Hll.out; omega
    go_wp2_with fail
    refine (Hsa.out _ _ _ _ _ _ _ HS3.out (H2.out.grows hG3) hn30 (by omega)).mono ?_
    rintro e w4 ⟨rfl, hg4⟩
    have hG4 := hG3.trans hg4
    go_wp2_with fail
    refine (Hd.out _ hG4).mono ?_
    rintro e w5 ⟨A5, n5, c5, hn5, rfl, hg5, ho5⟩
    have hG5 := hG4.trans hg5
    have HS5 := lib_hid (SpanR.own ho5)
    have Hn5 := lib_hid hn5.out
    clear ho5 hn5
    rcases hEe with rfl | rfl | rfl
    · have Hen : Hid (∀ W A n c, SpanR W A n c L → n ≤ 8 → Calls Try.prog 34 #[.slice A n c] W (NewEn W bs 0)) := fun W A n c h hn => by
        have := encode_any L A n c W h (by omega)
        have e := decR_back bs (by rw [HD.out])
        rw [HD.out] at e
        rw [e] at this; exact this
      have hn8 : n5 ≤ 8 := by have := Hn5.out; have := HLl.out; omega
      go_wp2_with fail
      refine (Hen.out _ _ _ _ HS5.out hn8).mono ?_
      rintro e w6 ⟨A6, n6, c6, hn6, rfl, hg6, ho6⟩
      have hG6 := hG5.trans hg6
      have HS6 := lib_hid (id ho6)
      have Hn6 := lib_hid hn6.out
      clear ho6 hn6
      have cv1 := run_string_SB (P := Try.prog) Try.underlying44 Try.underlying5 Try.underlying9 (show SB w6 A6 n6 c6 bs from HS6.out)
      have cv2 := run_string_SB (P := Try.prog) Try.underlying44 Try.underlying5 Try.underlying9 (H1.out.grows hG6)
      go_wp2_with fail
      refine (HA.out _).mono ?_
      rintro e w7 ⟨rfl, hg7⟩
      have hG7 := hG6.trans hg7
      go_wp2
      go_ret
      exact ⟨rfl, hG7⟩
    · skip
      go_wp2_with fail
      refine (HA.out _).mono ?_
      rintro e w7 ⟨rfl, hg7⟩
      have hG7 := hG5.trans hg7
      go_wp2
      go_ret
      exact ⟨rfl, hG7⟩
    · skip
      go_wp2_with fail
      refine (HA.out _).mono ?_
      rintro e w7 ⟨rfl, hg7⟩
      have hG7 := hG5.trans hg7
      go_wp2
      go_ret
      exact ⟨rfl, hG7⟩
  · skip
    go_wp2_with fail
    refine (Hd.out _ hG2).mono ?_
    rintro e w3 ⟨A3, n3, c3, hn3, rfl, hg3, ho3⟩
    have hG3 := hG2.trans hg3
    have HS3 := lib_hid (SpanR.own ho3)
    have Hn3 := lib_hid hn3.out
    clear ho3 hn3
    rcases hEe with rfl | rfl | rfl
    · have Hen : Hid (∀ W A n c, SpanR W A n c L → n ≤ 8 → Calls Try.prog 34 #[.slice A n c] W (NewEn W bs 0)) := fun W A n c h hn => by
        have := encode_any L A n c W h (by omega)
        have e := decR_back bs (by rw [HD.out])
        rw [HD.out] at e
        rw [e] at this; exact this
      have hn8 : n3 ≤ 8 := by have := Hn3.out; have := HLl.out; omega
      go_wp2_with fail
      refine (Hen.out _ _ _ _ HS3.out hn8).mono ?_
      rintro e w4 ⟨A4, n4, c4, hn4, rfl, hg4, ho4⟩
      have hG4 := hG3.trans hg4
      have HS4 := lib_hid (id ho4)
      have Hn4 := lib_hid hn4.out
      clear ho4 hn4
      have cv1 := run_string_SB (P := Try.prog) Try.underlying44 Try.underlying5 Try.underlying9 (show SB w4 A4 n4 c4 bs from HS4.out)
      have cv2 := run_string_SB (P := Try.prog) Try.underlying44 Try.underlying5 Try.underlying9 (H1.out.grows hG4)
      go_wp2_with fail
      refine (HA.out _).mono ?_
      rintro e w5 ⟨rfl, hg5⟩
      have hG5 := hG4.trans hg5
      go_wp2
      go_ret
      exact ⟨rfl, hG5⟩
    · skip
      go_wp2_with fail
      refine (HA.out _).mono ?_
      rintro e w5 ⟨rfl, hg5⟩
      have hG5 := hG3.trans hg5
      go_wp2
      go_ret
      exact ⟨rfl, hG5⟩
    · skip
      go_wp2_with fail
      refine (HA.out _).mono ?_
      rintro e w5 ⟨rfl, hg5⟩
      have hG5 := hG3.trans hg5
      go_wp2
      go_ret
      exact ⟨rfl, hG5⟩
  · skip
    go_wp2_with fail
    refine (Hd.out _ hG2).mono ?_
    rintro e w3 ⟨A3, n3, c3, hn3, rfl, hg3, ho3⟩
    have hG3 := hG2.trans hg3
    have HS3 := lib_hid (SpanR.own ho3)
    have Hn3 := lib_hid hn3.out
    clear ho3 hn3
    rcases hEe with rfl | rfl | rfl
    · have Hen : Hid (∀ W A n c, SpanR W A n c L → n ≤ 8 → Calls Try.prog 34 #[.slice A n c] W (NewEn W bs 0)) := fun W A n c h hn => by
        have := encode_any L A n c W h (by omega)
        have e := decR_back bs (by rw [HD.out])
        rw [HD.out] at e
        rw [e] at this; exact this
      have hn8 : n3 ≤ 8 := by have := Hn3.out; have := HLl.out; omega
      go_wp2_with fail
      refine (Hen.out _ _ _ _ HS3.out hn8).mono ?_
      rintro e w4 ⟨A4, n4, c4, hn4, rfl, hg4, ho4⟩
      have hG4 := hG3.trans hg4
      have HS4 := lib_hid (id ho4)
      have Hn4 := lib_hid hn4.out
      clear ho4 hn4
      have cv1 := run_string_SB (P := Try.prog) Try.underlying44 Try.underlying5 Try.underlying9 (show SB w4 A4 n4 c4 bs from HS4.out)
      have cv2 := run_string_SB (P := Try.prog) Try.underlying44 Try.underlying5 Try.underlying9 (H1.out.grows hG4)
      go_wp2_with fail
      refine (HA.out _).mono ?_
      rintro e w5 ⟨rfl, hg5⟩
      have hG5 := hG4.trans hg5
      go_wp2
      go_ret
      exact ⟨rfl, hG5⟩
    · skip
      go_wp2_with fail
      refine (HA.out _).mono ?_
      rintro e w5 ⟨rfl, hg5⟩
      have hG5 := hG3.trans hg5
      go_wp2
      go_ret
      exact ⟨rfl, hG5⟩
    · skip
      go_wp2_with fail
      refine (HA.out _).mono ?_
      rintro e w5 ⟨rfl, hg5⟩
      have hG5 := hG3.trans hg5
      go_wp2
      go_ret
      exact ⟨rfl, hG5⟩
end Go.Proofs.Ytbmmjkpibnnmeaa
