/-
  The walk of DescMeets.
-/
import Derived.Test.YtbmmjkpibnnmeaaDesc6
import Derived.Test.YtbmmjkpibnnmeaaLaw15a
import Derived.Deep.Cut
namespace Go.Proofs.Ytbmmjkpibnnmeaa
open Go Go.RowKit
set_option linter.unusedSimpArgs false


set_option maxRecDepth 100000 in
set_option maxHeartbeats 4000000 in
theorem walk_DescMeets (A : Option Addr) (N c : Nat) (a : List (Int × Int)) (B : Option Addr) (K d : Nat) (b : List (Int × Int)) (w : World) (hs1 : SpanR w A N c a) (hs2 : SpanR w B K d b) :
    Calls Try.prog 5 #[.slice A N c, .slice B K d] w fun e w' => e = .returned (.bool true) ∧ Below w.heap.size w w' := by
  have H1 := lib_hid hs1
  have H2 := lib_hid hs2
  have hll1 := lib_hid hs1.len
  have hll2 := lib_hid hs2.len
  obtain ⟨r1, Hr1⟩ : ∃ r, Hid (smallB a = r) := ⟨_, lib_hid rfl⟩
  obtain ⟨r2, Hr2⟩ : ∃ r, Hid (smallB b = r) := ⟨_, lib_hid rfl⟩
  have Hsm1 : Hid (Calls Try.prog 12 #[.slice A N c] w fun e w' => e = .returned (.bool r1) ∧ w = w') := by
    rw [← Hr1.out]; exact small_any a A N c w hs1
  have Hsm2 : Hid (Calls Try.prog 12 #[.slice B K d] w fun e w' => e = .returned (.bool r2) ∧ w = w') := by
    rw [← Hr2.out]; exact small_any b B K d w hs2
  clear hs1 hs2
  cases r1
  · go_enter Try.func5, Try.ntmps5
    go_wp2_with fail
    refine Hsm1.out.mono ?_
    rintro e w1 ⟨rfl, rfl⟩
    go_wp2
    go_ret
    exact ⟨rfl, Grows.refl w⟩
  cases r2
  · go_enter Try.func5, Try.ntmps5
    go_wp2_with fail
    refine Hsm1.out.mono ?_
    rintro e w1 ⟨rfl, rfl⟩
    go_wp2_with fail
    refine Hsm2.out.mono ?_
    rintro e w1 ⟨rfl, rfl⟩
    go_wp2
    go_ret
    exact ⟨rfl, Grows.refl w⟩
  obtain ⟨h12a, hoka⟩ := smallB_le Hr1.out
  obtain ⟨h12b, hokb⟩ := smallB_le Hr2.out
  have Hoka : Hid (∀ q ∈ a, okSp q) := lib_hid hoka
  have Hokb : Hid (∀ q ∈ b, okSp q) := lib_hid hokb
  have hN : N ≤ 12 := by rw [hll1.out] at h12a; exact h12a
  have hK : K ≤ 12 := by rw [hll2.out] at h12b; exact h12b
  have Hspa := lib_hid (fun W (hW : Grows w W) => spans15_any a A N c W (H1.out.grows hW) (by omega))
  have Hspb := lib_hid (fun W (hW : Grows w W) => spans15_any b B K d W (H2.out.grows hW) (by omega))
  have bda := rT_bd Hoka.out
  have bdb := rT_bd Hokb.out
  obtain ⟨ta, la, ha, Hra⟩ : ∃ t l h, Hid (rT a = (t, l, h)) := ⟨_, _, _, lib_hid rfl⟩
  obtain ⟨tb, lb, hb, Hrb⟩ : ∃ t l h, Hid (rT b = (t, l, h)) := ⟨_, _, _, lib_hid rfl⟩
  have HRa : Hid (∀ W A n c, SpanR W A n c a → Calls Try.prog 17 #[.slice A n c] W fun e w' => e = .returned (cx la ha) ∧ Grows W w') := fun W A n c h => by
    have := reachL_any a A n c W Hoka.out h
    rw [Hra.out] at this; exact this
  have HRb : Hid (∀ W A n c, SpanR W A n c b → Calls Try.prog 17 #[.slice A n c] W fun e w' => e = .returned (cx lb hb) ∧ Grows W w') := fun W A n c h => by
    have := reachL_any b A n c W Hokb.out h
    rw [Hrb.out] at this; exact this
  rw [Hra.out] at bda
  rw [Hrb.out] at bdb
  simp only at bda bdb
  have Hbd := lib_hid (And.intro bda bdb)
  obtain ⟨m, Hm⟩ : ∃ m, Hid (meetB a b = m) := ⟨_, lib_hid rfl⟩
  have HMab : Hid (∀ W A B n c k d, SpanR W A n c a → SpanR W B k d b → Calls Try.prog 18 #[.slice A n c, .slice B k d] W fun e w' => e = .returned (.bool m) ∧ Grows W w') := fun W A B n c k d h1 h2 => by
    rw [← Hm.out]; exact meet_any a b A B n c k d W Hoka.out Hokb.out h1 h2
  have HMba : Hid (∀ W A B n c k d, SpanR W A n c b → SpanR W B k d a → Calls Try.prog 18 #[.slice A n c, .slice B k d] W fun e w' => e = .returned (.bool m) ∧ Grows W w') := fun W A B n c k d h1 h2 => by
    rw [← Hm.out, meetB_symm]; exact meet_any b a A B n c k d W Hokb.out Hoka.out h1 h2
  have hG0 : Grows w w := Grows.refl w
  clear h12a h12b hoka hokb bda bdb
  obtain ⟨ap, Hap⟩ : ∃ x, Hid (apartB a = x) := ⟨_, lib_hid rfl⟩
  have HAp : Hid (∀ W A n c, SpanR W A n c a → Calls Try.prog 21 #[.slice A n c] W fun e w' => e = .returned (.bool ap) ∧ Grows W w') := fun W A n c h => by
    rw [← Hap.out]; exact apart_any a A n c W Hoka.out h
  have HRap : Hid (∀ W, Grows w W → Calls Try.prog 22 #[.slice A N c] W fun e w' => e = .returned (.bool ap) ∧ Grows W w') := fun W hW => by
    rw [← Hap.out]; exact refApart_any a A N c W Hoka.out (H1.out.grows hW)
  have HRm : Hid (∀ W, Grows w W → Calls Try.prog 20 #[.slice A N c, .slice B K d] W fun e w' => e = .returned (.bool m) ∧ Grows W w') := fun W hW => by
    rw [← Hm.out]; exact refMeet_any a b A B N c K d W Hoka.out Hokb.out (H1.out.grows hW) (H2.out.grows hW)
  have HRR : Hid (Calls Try.prog 19 #[.slice A N c] w fun e w' => e = .returned (.tuple #[.int .i64 (la : Int), .int .i64 (ha : Int), .bool ta]) ∧ Grows w w') := by
    have := refReach_any a A N c w Hoka.out H1.out
    rw [Hra.out] at this; exact this
  have HA := lib_hid (fun W => awake15_any W)
  cases ta
  · have h0 := Hbd.out.1.2.2 rfl
    simp only [Prod.mk.injEq] at h0
    obtain ⟨rfl, rfl⟩ := h0
    rw [← cx00] at HRa
    have f1 : FloatKind.f64.format.order 0 0 = some .eq := by decide +kernel
    go_enter Try.func5, Try.ntmps5
    go_wp2_with fail
    refine Hsm1.out.mono ?_
    rintro e w1 ⟨rfl, rfl⟩
    go_wp2_with fail
    refine Hsm2.out.mono ?_
    rintro e w1 ⟨rfl, rfl⟩
    clear Hsm1 Hsm2
    go_wp2_with fail
    refine (HRR.out).mono ?_
    rintro e v1 ⟨rfl, hg1⟩
    have hG1 := hG0.trans hg1
    clear HRR
    go_wp2_with fail
    refine (Hspa.out _ hG1).mono ?_
    rintro e v2 ⟨A2, n2, c2, hn2, rfl, hg2, ho2⟩
    have HS2 := lib_hid (SpanR.own ho2)
    have hG2 := hG1.trans hg2
    clear ho2 hn2
    go_wp2_with fail
    refine (Hspb.out _ hG2).mono ?_
    rintro e v3 ⟨A3, n3, c3, hn3, rfl, hg3, ho3⟩
    have HS3 := lib_hid (SpanR.own ho3)
    have hG3 := hG2.trans hg3
    clear ho3 hn3
    have HS2 := lib_hid (HS2.out.grows hg3)
    go_wp2_with fail
    refine (HMab.out _ _ _ _ _ _ _ HS2.out HS3.out).mono ?_
    rintro e v4 ⟨rfl, hg4⟩
    have hG4 := hG3.trans hg4
    go_wp2_with fail
    refine (HRm.out _ hG4).mono ?_
    rintro e v5 ⟨rfl, hg5⟩
    have hG5 := hG4.trans hg5
    go_wp2_with fail
    refine (Hspa.out _ hG5).mono ?_
    rintro e v6 ⟨A6, n6, c6, hn6, rfl, hg6, ho6⟩
    have HS6 := lib_hid (SpanR.own ho6)
    have hG6 := hG5.trans hg6
    clear ho6 hn6
    go_wp2_with fail
    refine (HAp.out _ _ _ _ HS6.out).mono ?_
    rintro e v7 ⟨rfl, hg7⟩
    have hG7 := hG6.trans hg7
    go_wp2_with fail
    refine (HRap.out _ hG7).mono ?_
    rintro e v8 ⟨rfl, hg8⟩
    have hG8 := hG7.trans hg8
    go_wp2_with fail
    refine (Hspa.out _ hG8).mono ?_
    rintro e v9 ⟨A9, n9, c9, hn9, rfl, hg9, ho9⟩
    have HS9 := lib_hid (SpanR.own ho9)
    have hG9 := hG8.trans hg9
    clear ho9 hn9
    go_wp2_with fail
    refine (HRa.out _ _ _ _ HS9.out).mono ?_
    rintro e v10 ⟨rfl, hg10⟩
    have hG10 := hG9.trans hg10
    go_wp2_with fail
    refine (HA.out _).mono ?_
    rintro e v11 ⟨rfl, hg11⟩
    have hG11 := hG10.trans hg11
    go_wp2
    go_ret
    exact ⟨rfl, hG11⟩
  · have hla := Hbd.out.1.1
    have hha := Hbd.out.1.2.1
    have f1 := eq_yes la (by omega)
    have f2 := eq_yes ha (by omega)
    clear hla hha
    go_enter Try.func5, Try.ntmps5
    go_wp2_with fail
    refine Hsm1.out.mono ?_
    rintro e w1 ⟨rfl, rfl⟩
    go_wp2_with fail
    refine Hsm2.out.mono ?_
    rintro e w1 ⟨rfl, rfl⟩
    clear Hsm1 Hsm2
    go_wp2_with fail
    refine (HRR.out).mono ?_
    rintro e v1 ⟨rfl, hg1⟩
    have hG1 := hG0.trans hg1
    clear HRR
    go_wp2_with fail
    refine (Hspa.out _ hG1).mono ?_
    rintro e v2 ⟨A2, n2, c2, hn2, rfl, hg2, ho2⟩
    have HS2 := lib_hid (SpanR.own ho2)
    have hG2 := hG1.trans hg2
    clear ho2 hn2
    go_wp2_with fail
    refine (Hspb.out _ hG2).mono ?_
    rintro e v3 ⟨A3, n3, c3, hn3, rfl, hg3, ho3⟩
    have HS3 := lib_hid (SpanR.own ho3)
    have hG3 := hG2.trans hg3
    clear ho3 hn3
    have HS2 := lib_hid (HS2.out.grows hg3)
    go_wp2_with fail
    refine (HMab.out _ _ _ _ _ _ _ HS2.out HS3.out).mono ?_
    rintro e v4 ⟨rfl, hg4⟩
    have hG4 := hG3.trans hg4
    go_wp2_with fail
    refine (HRm.out _ hG4).mono ?_
    rintro e v5 ⟨rfl, hg5⟩
    have hG5 := hG4.trans hg5
    go_wp2_with fail
    refine (Hspa.out _ hG5).mono ?_
    rintro e v6 ⟨A6, n6, c6, hn6, rfl, hg6, ho6⟩
    have HS6 := lib_hid (SpanR.own ho6)
    have hG6 := hG5.trans hg6
    clear ho6 hn6
    go_wp2_with fail
    refine (HAp.out _ _ _ _ HS6.out).mono ?_
    rintro e v7 ⟨rfl, hg7⟩
    have hG7 := hG6.trans hg7
    go_wp2_with fail
    refine (HRap.out _ hG7).mono ?_
    rintro e v8 ⟨rfl, hg8⟩
    have hG8 := hG7.trans hg8
    go_wp2_with fail
    refine (Hspa.out _ hG8).mono ?_
    rintro e v9 ⟨A9, n9, c9, hn9, rfl, hg9, ho9⟩
    have HS9 := lib_hid (SpanR.own ho9)
    have hG9 := hG8.trans hg9
    clear ho9 hn9
    go_wp2_with fail
    refine (HRa.out _ _ _ _ HS9.out).mono ?_
    rintro e v10 ⟨rfl, hg10⟩
    have hG10 := hG9.trans hg10
    go_wp2_with fail
    refine (HA.out _).mono ?_
    rintro e v11 ⟨rfl, hg11⟩
    have hG11 := hG10.trans hg11
    go_wp2
    go_ret
    exact ⟨rfl, hG11⟩

end Go.Proofs.Ytbmmjkpibnnmeaa
