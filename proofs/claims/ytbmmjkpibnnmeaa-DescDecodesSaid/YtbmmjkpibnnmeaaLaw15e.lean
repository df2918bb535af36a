/-
  The walk of DescDecodes.
-/
import Derived.Test.YtbmmjkpibnnmeaaBack
import Derived.Test.YtbmmjkpibnnmeaaSame
import Derived.Test.YtbmmjkpibnnmeaaDesc5
import Derived.Test.YtbmmjkpibnnmeaaOpenSpan
namespace Go.Proofs.Ytbmmjkpibnnmeaa
open Go Go.RowKit
set_option linter.unusedSimpArgs false
set_option linter.unusedVariables false


set_option maxRecDepth 100000 in
set_option maxHeartbeats 4000000 in
theorem walk_DescDecodes (A : Option Addr) (n c : Nat) (bs : List UInt8) (B : Option Addr) (m d : Nat) (l : List (Int × Int)) (w : World) (hs1 : SB w A n c bs) (hs2 : SpanR w B m d l) :
    Calls Try.prog 10 #[.slice A n c, .slice B m d] w fun e w' => e = .returned (.bool true) ∧ Below w.heap.size w w' := by
  by_cases h1 : 300 < n
  · have h1i : (300 : Int) < (n : Int) := by omega
    go_enter Try.func10, Try.ntmps10
    go_wp2
    go_ret
    exact ⟨rfl, Grows.refl w⟩
  by_cases h2 : 30 < m
  · have h1i : ¬ (300 : Int) < (n : Int) := by omega
    have h2i : (30 : Int) < (m : Int) := by omega
    go_enter Try.func10, Try.ntmps10
    go_wp2
    go_ret
    exact ⟨rfl, Grows.refl w⟩
  have h1i : ¬ (300 : Int) < (n : Int) := by omega
  have h2i : ¬ (30 : Int) < (m : Int) := by omega
  have H1 := lib_hid hs1
  have H2 := lib_hid hs2
  have hm30 : m ≤ 30 := by omega
  have hn300 : n ≤ 300 := by omega
  obtain ⟨L, E, HD⟩ : ∃ L E, Hid (decR bs = (L, E)) := ⟨_, _, lib_hid rfl⟩
  obtain ⟨M, F, HE⟩ : ∃ M F, Hid (encR l = (M, F)) := ⟨_, _, lib_hid rfl⟩
  have HLl : Hid (L.length ≤ 8) := lib_hid (by have := decR_len bs; rw [HD.out] at this; exact this)
  have Hd : Hid (∀ W, Grows w W → Calls Try.prog 32 #[.slice A n c] W (NewSE 28 W L E)) := fun W hW => by have := decode_any A n c bs W (H1.out.grows hW) (by omega); rw [HD.out] at this; exact this
  have Hrd : Hid (∀ W, Grows w W → Calls Try.prog 33 #[.slice A n c] W (NewSE 29 W L E)) := fun W hW => by have := refDecode_any A n c bs W (H1.out.grows hW) (by omega); rw [HD.out] at this; exact this
  have Hsp : Hid (∀ W, Grows w W → Calls Try.prog 14 #[.slice B m d] W (NewS 28 W l)) := fun W hW => spans15_any l B m d W (H2.out.grows hW) (by omega)
  have He : Hid (∀ W A n c, SpanR W A n c l → n ≤ 30 → Calls Try.prog 34 #[.slice A n c] W (NewEn W M F)) := fun W A n c h hn => by have := encode_any l A n c W h (by omega); rw [HE.out] at this; exact this
  have Hre : Hid (∀ W, Grows w W → Calls Try.prog 35 #[.slice B m d] W (NewEn W M F)) := fun W hW => by have := refEncode_any l B m d W (H2.out.grows hW) (by omega); rw [HE.out] at this; exact this
  have Hsa : Hid (∀ W A n c B k d, SpanR W A n c L → SpanR W B k d L → n ≤ 8 → k ≤ 8 → Calls Try.prog 36 #[.slice A n c, .slice B k d] W fun e w' => e = .returned (.bool true) ∧ Grows W w') := fun W A n c B k d h1 h2 hn hk => by
    have := same_any L L A B n c k d W h1 h2 (by omega) (by omega)
    rw [decide_eq_true rfl] at this; exact this
  have HA := lib_hid (fun W => awake15_any W)
  have Hll : Hid (l.length = m) := lib_hid hs2.len
  have hG0 : Grows w w := Grows.refl w
  clear hs1 hs2 h1 h2
  go_enter Try.func10, Try.ntmps10
  go_wp2_with fail
  refine (Hd.out _ hG0).mono ?_
  rintro e w1 ⟨A1, n1, c1, hn1, rfl, hg1, ho1⟩
  have hG1 := hG0.trans hg1
  have HS1 := lib_hid (SpanR.own ho1)
  have Hn1 := lib_hid hn1.out
  clear ho1 hn1
  go_wp2_with fail
  refine (Hrd.out _ hG1).mono ?_
  rintro e w2 ⟨A2, n2, c2, hn2, rfl, hg2, ho2⟩
  have hG2 := hG1.trans hg2
  have HS2 := lib_hid (SpanR.own ho2)
  have Hn2 := lib_hid hn2.out
  clear ho2 hn2
  go_wp2_with fail
  refine (Hsp.out _ hG2).mono ?_
  rintro e w3 ⟨A3, n3, c3, hn3, rfl, hg3, ho3⟩
  have hG3 := hG2.trans hg3
  have HS3 := lib_hid (SpanR.own ho3)
  have Hn3 := lib_hid hn3.out
  clear ho3 hn3
  go_wp2_with fail
  refine (He.out _ _ _ _ HS3.out (by have := Hn3.out; have := Hll.out; omega)).mono ?_
  rintro e w4 ⟨A4, n4, c4, hn4, rfl, hg4, ho4⟩
  have hG4 := hG3.trans hg4
  have HS4 := lib_hid (id ho4)
  have Hn4 := lib_hid hn4.out
  clear ho4 hn4
  go_wp2_with fail
  refine (Hre.out _ hG4).mono ?_
  rintro e w5 ⟨A5, n5, c5, hn5, rfl, hg5, ho5⟩
  have hG5 := hG4.trans hg5
  have HS5 := lib_hid (id ho5)
  have Hn5 := lib_hid hn5.out
  clear ho5 hn5
  have hn8 : n1 ≤ 8 := by have := Hn1.out; have := HLl.out; omega
  have hn9 : n2 ≤ 8 := by have := Hn2.out; have := HLl.out; omega
  have HT1 := lib_hid (HS1.out.grows (hg2.trans (hg3.trans (hg4.trans hg5))))
  have HT2 := lib_hid (HS2.out.grows (hg3.trans (hg4.trans hg5)))
  go_wp2_with fail
  refine (Hsa.out _ _ _ _ _ _ _ HT1.out HT2.out hn8 hn9).mono ?_
  rintro e w6 ⟨rfl, hg6⟩
  have hG6 := hG5.trans hg6
  have cv1 := run_string_SB (P := Try.prog) Try.underlying44 Try.underlying5 Try.underlying9 (show SB w6 A4 n4 c4 M from HS4.out.grows (hg5.trans hg6))
  have cv2 := run_string_SB (P := Try.prog) Try.underlying44 Try.underlying5 Try.underlying9 (show SB w6 A5 n5 c5 M from HS5.out.grows hg6)
  clear hg1 hg2 hg3 hg4 hg5 hg6 hG0 hG1 hG2 hG3 hG4 hG5
  go_wp2_with fail
  refine (HA.out _).mono ?_
  rintro e w7 ⟨rfl, hg7⟩
  have hG7 := hG6.trans hg7
  go_wp2
  go_ret
  exact ⟨rfl, hG7⟩
end Go.Proofs.Ytbmmjkpibnnmeaa
