/-
  aes: double, turned, shift, mixed.
-/
import Derived.Test.YthcmdjaccjghjaaOps
import Derived.Test.YthcmdjaccjghjaaNum
import Derived.Test.YthcmdjaccjghjaaBits2
import Derived.Test.YthcmdjaccjghjaaArr16
namespace Go.Proofs.Ythcmdjaccjghjaa
open Go Go.RowKit
set_option linter.unusedSimpArgs false
set_option linter.unusedVariables false


def dblF (x : UInt8) : UInt8 := if 128 ≤ x.toNat then (x <<< 1) ^^^ 27 else x <<< 1
set_option maxRecDepth 100000 in
set_option maxHeartbeats 4000000 in
theorem double_any (x : UInt8) (w : World) : Calls Try.prog 20 #[.int .u8 (x.toNat : Int)] w fun e w' => e = .returned (.int .u8 ((dblF x).toNat : Int)) ∧ w = w' := by
  obtain ⟨a, Ha⟩ : ∃ a, Hid (x <<< 1 = a) := ⟨_, lib_hid rfl⟩
  obtain ⟨b, Hb⟩ : ∃ b, Hid (a ^^^ 27 = b) := ⟨_, lib_hid rfl⟩
  have h1 : IntKind.u8.wrap ((x.toNat : Int) * 2) = (a.toNat : Int) := by
    have := u8_shl x 1 (by omega)
    rw [show x <<< UInt8.ofNat 1 = x <<< 1 from rfl, Ha.out] at this
    exact this
  have h2 : bits .xor .u8 (a.toNat : Int) 27 = (b.toNat : Int) := by
    have := u8_xor a 27
    rw [Hb.out] at this
    exact this
  by_cases h : 128 ≤ x.toNat
  · have hi : (128 : Int) ≤ (x.toNat : Int) := by omega
    have Hd : Hid (dblF x = b) := by unfold Hid dblF; rw [if_pos h, Ha.out, Hb.out]
    rw [Hd.out]
    go_enter Try.func20, Try.ntmps20
    go_wp2
    go_ret
    exact ⟨rfl, rfl⟩
  · have hi : ¬ (128 : Int) ≤ (x.toNat : Int) := by omega
    have Hd : Hid (dblF x = a) := by unfold Hid dblF; rw [if_neg h, Ha.out]
    rw [Hd.out]
    go_enter Try.func20, Try.ntmps20
    go_wp2
    go_ret
    exact ⟨rfl, rfl⟩
/-- A byte with itself, turned round by one to j. -/
def turnedF (q : UInt8) : Nat → UInt8
  | 0 => q
  | j + 1 => turnedF q j ^^^ ((q <<< UInt8.ofNat (j + 1)) ||| (q >>> UInt8.ofNat (8 - (j + 1))))
set_option maxRecDepth 100000 in
set_option maxHeartbeats 4000000 in
theorem turned_any (q : UInt8) (w : World) : Calls Try.prog 45 #[.int .u8 (q.toNat : Int)] w fun e w' => e = .returned (.int .u8 ((turnedF q 4).toNat : Int)) ∧ Grows w w' := by
  go_enter Try.func45, Try.ntmps45
  go_wp2
  go_loopw [3, 4] (fun v i wr => ∃ j : Nat, j ≤ 4 ∧ i = .int .i64 ((j : Int) + 1) ∧ v = .int .u8 ((turnedF q j).toNat : Int) ∧ Grows w wr) (fun _ i _ => 5 - (intOf i).toNat)
  case atStart => exact ⟨0, by omega, rfl, rfl, Grows.refl w⟩
  case round =>
    obtain ⟨j, hj, rfl, rfl, hgr⟩ := hrel
    by_cases hlt : j < 4
    · rcases (show j = 0 ∨ j = 1 ∨ j = 2 ∨ j = 3 by omega) with rfl | rfl | rfl | rfl
      · obtain ⟨t, Ht⟩ : ∃ t, Hid (turnedF q 0 = t) := ⟨_, lib_hid rfl⟩
        obtain ⟨a, Ha⟩ : ∃ a, Hid (q <<< UInt8.ofNat 1 = a) := ⟨_, lib_hid rfl⟩
        obtain ⟨b, Hb⟩ : ∃ b, Hid (q >>> UInt8.ofNat 7 = b) := ⟨_, lib_hid rfl⟩
        obtain ⟨o, Ho⟩ : ∃ o, Hid (a ||| b = o) := ⟨_, lib_hid rfl⟩
        obtain ⟨z, Hz⟩ : ∃ z, Hid (t ^^^ o = z) := ⟨_, lib_hid rfl⟩
        have Hh1 : Hid (IntKind.u8.wrap ((q.toNat : Int) * 2) = (a.toNat : Int)) := by
          unfold Hid; have := u8_shl q 1 (by omega); rw [Ha.out] at this; exact this
        have Hh2 : Hid ((q.toNat : Int) / 128 = (b.toNat : Int)) := by
          unfold Hid; have := u8_shr q 7 (by omega); rw [Hb.out] at this; exact this
        have Hh3 : Hid (bits .or .u8 (a.toNat : Int) (b.toNat : Int) = (o.toNat : Int)) := by unfold Hid; rw [u8_or, Ho.out]
        have Hh4 : Hid (bits .xor .u8 (t.toNat : Int) (o.toNat : Int) = (z.toNat : Int)) := by unfold Hid; rw [u8_xor, Hz.out]
        have Hnx : Hid (turnedF q (0 + 1) = z) := by
          unfold Hid; rw [turnedF, Ht.out, Ha.out, Hb.out, Ho.out, Hz.out]
        rw [Ht.out]
        go_wp2
        apply wp_region_mono 11 ((.is _, []) :: (.is _, []) :: (.is _, []) :: (.is _, []) :: (.is _, []) :: (.is _, []) :: (.is _, []) :: (.is _, []) :: (.is _, []) :: (.is _, []) :: (.is _, []) :: []) (by kernel_rfl) (by kernel_rfl)
        iterate 3
          apply Mono.is0
          · kernel_rfl
          · intro W hW
            go_wp2
            refine ⟨rfl, rfl, Grows.refl _, ?_⟩
            unfold Oper.valAt
            go_simp
            rfl
          intro k1 a1 hk1 ha1
          simp only [Nat.reduceAdd] at hk1
          simp only [Act.put, List.setIfInBounds_toArray, List.set_cons_succ, List.set_cons_zero] at ha1
          subst hk1 ha1
        apply Mono.is0
        · kernel_rfl
        · intro W hW
          have hh := Hh1.out
          go_wp2
          refine ⟨rfl, rfl, Grows.refl _, ?_⟩
          unfold Oper.valAt
          go_simp
          rfl
        intro k1 a1 hk1 ha1
        simp only [Nat.reduceAdd] at hk1
        simp only [Act.put, List.setIfInBounds_toArray, List.set_cons_succ, List.set_cons_zero] at ha1
        subst hk1 ha1
        iterate 3
          apply Mono.is0
          · kernel_rfl
          · intro W hW
            go_wp2
            refine ⟨rfl, rfl, Grows.refl _, ?_⟩
            unfold Oper.valAt
            go_simp
            rfl
          intro k1 a1 hk1 ha1
          simp only [Nat.reduceAdd] at hk1
          simp only [Act.put, List.setIfInBounds_toArray, List.set_cons_succ, List.set_cons_zero] at ha1
          subst hk1 ha1
        apply Mono.is0
        · kernel_rfl
        · intro W hW
          have hh := Hh2.out
          go_wp2
          refine ⟨rfl, rfl, Grows.refl _, ?_⟩
          unfold Oper.valAt
          go_simp
          rfl
        intro k1 a1 hk1 ha1
        simp only [Nat.reduceAdd] at hk1
        simp only [Act.put, List.setIfInBounds_toArray, List.set_cons_succ, List.set_cons_zero] at ha1
        subst hk1 ha1
        apply Mono.is0
        · kernel_rfl
        · intro W hW
          have hh := Hh3.out
          go_wp2
          refine ⟨rfl, rfl, Grows.refl _, ?_⟩
          unfold Oper.valAt
          go_simp
          rfl
        intro k1 a1 hk1 ha1
        simp only [Nat.reduceAdd] at hk1
        simp only [Act.put, List.setIfInBounds_toArray, List.set_cons_succ, List.set_cons_zero] at ha1
        subst hk1 ha1
        apply Mono.is0
        · kernel_rfl
        · intro W hW
          have hh := Hh4.out
          go_wp2
          refine ⟨rfl, rfl, Grows.refl _, ?_⟩
          unfold Oper.valAt
          go_simp
          rfl
        intro k1 a1 hk1 ha1
        simp only [Nat.reduceAdd] at hk1
        simp only [Act.put, List.setIfInBounds_toArray, List.set_cons_succ, List.set_cons_zero] at ha1
        subst hk1 ha1
        apply Mono.is0
        · kernel_rfl
        · intro W hW
          go_wp2
          refine ⟨rfl, rfl, Grows.refl _, ?_⟩
          unfold Oper.valAt
          go_simp
          rfl
        intro k1 a1 hk1 ha1
        simp only [Nat.reduceAdd] at hk1
        simp only [Act.put, List.setIfInBounds_toArray, List.set_cons_succ, List.set_cons_zero] at ha1
        subst hk1 ha1
        refine Mono.done ?_
        intro wm hgm
        simp only [allF, List.drop_succ_cons, List.drop_nil]
        have hgw := hgr.trans hgm
        clear hgm
        go_wp2
        go_roundw
        case rel => exact ⟨0 + 1, by omega, rfl, by rw [Hnx.out], hgw⟩
        case measure => simp [intOf]
      · obtain ⟨t, Ht⟩ : ∃ t, Hid (turnedF q 1 = t) := ⟨_, lib_hid rfl⟩
        obtain ⟨a, Ha⟩ : ∃ a, Hid (q <<< UInt8.ofNat 2 = a) := ⟨_, lib_hid rfl⟩
        obtain ⟨b, Hb⟩ : ∃ b, Hid (q >>> UInt8.ofNat 6 = b) := ⟨_, lib_hid rfl⟩
        obtain ⟨o, Ho⟩ : ∃ o, Hid (a ||| b = o) := ⟨_, lib_hid rfl⟩
        obtain ⟨z, Hz⟩ : ∃ z, Hid (t ^^^ o = z) := ⟨_, lib_hid rfl⟩
        have Hh1 : Hid (IntKind.u8.wrap ((q.toNat : Int) * 4) = (a.toNat : Int)) := by
          unfold Hid; have := u8_shl q 2 (by omega); rw [Ha.out] at this; exact this
        have Hh2 : Hid ((q.toNat : Int) / 64 = (b.toNat : Int)) := by
          unfold Hid; have := u8_shr q 6 (by omega); rw [Hb.out] at this; exact this
        have Hh3 : Hid (bits .or .u8 (a.toNat : Int) (b.toNat : Int) = (o.toNat : Int)) := by unfold Hid; rw [u8_or, Ho.out]
        have Hh4 : Hid (bits .xor .u8 (t.toNat : Int) (o.toNat : Int) = (z.toNat : Int)) := by unfold Hid; rw [u8_xor, Hz.out]
        have Hnx : Hid (turnedF q (1 + 1) = z) := by
          unfold Hid; rw [turnedF, Ht.out, Ha.out, Hb.out, Ho.out, Hz.out]
        rw [Ht.out]
        go_wp2
        apply wp_region_mono 11 ((.is _, []) :: (.is _, []) :: (.is _, []) :: (.is _, []) :: (.is _, []) :: (.is _, []) :: (.is _, []) :: (.is _, []) :: (.is _, []) :: (.is _, []) :: (.is _, []) :: []) (by kernel_rfl) (by kernel_rfl)
        iterate 3
          apply Mono.is0
          · kernel_rfl
          · intro W hW
            go_wp2
            refine ⟨rfl, rfl, Grows.refl _, ?_⟩
            unfold Oper.valAt
            go_simp
            rfl
          intro k1 a1 hk1 ha1
          simp only [Nat.reduceAdd] at hk1
          simp only [Act.put, List.setIfInBounds_toArray, List.set_cons_succ, List.set_cons_zero] at ha1
          subst hk1 ha1
        apply Mono.is0
        · kernel_rfl
        · intro W hW
          have hh := Hh1.out
          go_wp2
          refine ⟨rfl, rfl, Grows.refl _, ?_⟩
          unfold Oper.valAt
          go_simp
          rfl
        intro k1 a1 hk1 ha1
        simp only [Nat.reduceAdd] at hk1
        simp only [Act.put, List.setIfInBounds_toArray, List.set_cons_succ, List.set_cons_zero] at ha1
        subst hk1 ha1
        iterate 3
          apply Mono.is0
          · kernel_rfl
          · intro W hW
            go_wp2
            refine ⟨rfl, rfl, Grows.refl _, ?_⟩
            unfold Oper.valAt
            go_simp
            rfl
          intro k1 a1 hk1 ha1
          simp only [Nat.reduceAdd] at hk1
          simp only [Act.put, List.setIfInBounds_toArray, List.set_cons_succ, List.set_cons_zero] at ha1
          subst hk1 ha1
        apply Mono.is0
        · kernel_rfl
        · intro W hW
          have hh := Hh2.out
          go_wp2
          refine ⟨rfl, rfl, Grows.refl _, ?_⟩
          unfold Oper.valAt
          go_simp
          rfl
        intro k1 a1 hk1 ha1
        simp only [Nat.reduceAdd] at hk1
        simp only [Act.put, List.setIfInBounds_toArray, List.set_cons_succ, List.set_cons_zero] at ha1
        subst hk1 ha1
        apply Mono.is0
        · kernel_rfl
        · intro W hW
          have hh := Hh3.out
          go_wp2
          refine ⟨rfl, rfl, Grows.refl _, ?_⟩
          unfold Oper.valAt
          go_simp
          rfl
        intro k1 a1 hk1 ha1
        simp only [Nat.reduceAdd] at hk1
        simp only [Act.put, List.setIfInBounds_toArray, List.set_cons_succ, List.set_cons_zero] at ha1
        subst hk1 ha1
        apply Mono.is0
        · kernel_rfl
        · intro W hW
          have hh := Hh4.out
          go_wp2
          refine ⟨rfl, rfl, Grows.refl _, ?_⟩
          unfold Oper.valAt
          go_simp
          rfl
        intro k1 a1 hk1 ha1
        simp only [Nat.reduceAdd] at hk1
        simp only [Act.put, List.setIfInBounds_toArray, List.set_cons_succ, List.set_cons_zero] at ha1
        subst hk1 ha1
        apply Mono.is0
        · kernel_rfl
        · intro W hW
          go_wp2
          refine ⟨rfl, rfl, Grows.refl _, ?_⟩
          unfold Oper.valAt
          go_simp
          rfl
        intro k1 a1 hk1 ha1
        simp only [Nat.reduceAdd] at hk1
        simp only [Act.put, List.setIfInBounds_toArray, List.set_cons_succ, List.set_cons_zero] at ha1
        subst hk1 ha1
        refine Mono.done ?_
        intro wm hgm
        simp only [allF, List.drop_succ_cons, List.drop_nil]
        have hgw := hgr.trans hgm
        clear hgm
        go_wp2
        go_roundw
        case rel => exact ⟨1 + 1, by omega, rfl, by rw [Hnx.out], hgw⟩
        case measure => simp [intOf]
      · obtain ⟨t, Ht⟩ : ∃ t, Hid (turnedF q 2 = t) := ⟨_, lib_hid rfl⟩
        obtain ⟨a, Ha⟩ : ∃ a, Hid (q <<< UInt8.ofNat 3 = a) := ⟨_, lib_hid rfl⟩
        obtain ⟨b, Hb⟩ : ∃ b, Hid (q >>> UInt8.ofNat 5 = b) := ⟨_, lib_hid rfl⟩
        obtain ⟨o, Ho⟩ : ∃ o, Hid (a ||| b = o) := ⟨_, lib_hid rfl⟩
        obtain ⟨z, Hz⟩ : ∃ z, Hid (t ^^^ o = z) := ⟨_, lib_hid rfl⟩
        have Hh1 : Hid (IntKind.u8.wrap ((q.toNat : Int) * 8) = (a.toNat : Int)) := by
          unfold Hid; have := u8_shl q 3 (by omega); rw [Ha.out] at this; exact this
        have Hh2 : Hid ((q.toNat : Int) / 32 = (b.toNat : Int)) := by
          unfold Hid; have := u8_shr q 5 (by omega); rw [Hb.out] at this; exact this
        have Hh3 : Hid (bits .or .u8 (a.toNat : Int) (b.toNat : Int) = (o.toNat : Int)) := by unfold Hid; rw [u8_or, Ho.out]
        have Hh4 : Hid (bits .xor .u8 (t.toNat : Int) (o.toNat : Int) = (z.toNat : Int)) := by unfold Hid; rw [u8_xor, Hz.out]
        have Hnx : Hid (turnedF q (2 + 1) = z) := by
          unfold Hid; rw [turnedF, Ht.out, Ha.out, Hb.out, Ho.out, Hz.out]
        rw [Ht.out]
        go_wp2
        apply wp_region_mono 11 ((.is _, []) :: (.is _, []) :: (.is _, []) :: (.is _, []) :: (.is _, []) :: (.is _, []) :: (.is _, []) :: (.is _, []) :: (.is _, []) :: (.is _, []) :: (.is _, []) :: []) (by kernel_rfl) (by kernel_rfl)
        iterate 3
          apply Mono.is0
          · kernel_rfl
          · intro W hW
            go_wp2
            refine ⟨rfl, rfl, Grows.refl _, ?_⟩
            unfold Oper.valAt
            go_simp
            rfl
          intro k1 a1 hk1 ha1
          simp only [Nat.reduceAdd] at hk1
          simp only [Act.put, List.setIfInBounds_toArray, List.set_cons_succ, List.set_cons_zero] at ha1
          subst hk1 ha1
        apply Mono.is0
        · kernel_rfl
        · intro W hW
          have hh := Hh1.out
          go_wp2
          refine ⟨rfl, rfl, Grows.refl _, ?_⟩
          unfold Oper.valAt
          go_simp
          rfl
        intro k1 a1 hk1 ha1
        simp only [Nat.reduceAdd] at hk1
        simp only [Act.put, List.setIfInBounds_toArray, List.set_cons_succ, List.set_cons_zero] at ha1
        subst hk1 ha1
        iterate 3
          apply Mono.is0
          · kernel_rfl
          · intro W hW
            go_wp2
            refine ⟨rfl, rfl, Grows.refl _, ?_⟩
            unfold Oper.valAt
            go_simp
            rfl
          intro k1 a1 hk1 ha1
          simp only [Nat.reduceAdd] at hk1
          simp only [Act.put, List.setIfInBounds_toArray, List.set_cons_succ, List.set_cons_zero] at ha1
          subst hk1 ha1
        apply Mono.is0
        · kernel_rfl
        · intro W hW
          have hh := Hh2.out
          go_wp2
          refine ⟨rfl, rfl, Grows.refl _, ?_⟩
          unfold Oper.valAt
          go_simp
          rfl
        intro k1 a1 hk1 ha1
        simp only [Nat.reduceAdd] at hk1
        simp only [Act.put, List.setIfInBounds_toArray, List.set_cons_succ, List.set_cons_zero] at ha1
        subst hk1 ha1
        apply Mono.is0
        · kernel_rfl
        · intro W hW
          have hh := Hh3.out
          go_wp2
          refine ⟨rfl, rfl, Grows.refl _, ?_⟩
          unfold Oper.valAt
          go_simp
          rfl
        intro k1 a1 hk1 ha1
        simp only [Nat.reduceAdd] at hk1
        simp only [Act.put, List.setIfInBounds_toArray, List.set_cons_succ, List.set_cons_zero] at ha1
        subst hk1 ha1
        apply Mono.is0
        · kernel_rfl
        · intro W hW
          have hh := Hh4.out
          go_wp2
          refine ⟨rfl, rfl, Grows.refl _, ?_⟩
          unfold Oper.valAt
          go_simp
          rfl
        intro k1 a1 hk1 ha1
        simp only [Nat.reduceAdd] at hk1
        simp only [Act.put, List.setIfInBounds_toArray, List.set_cons_succ, List.set_cons_zero] at ha1
        subst hk1 ha1
        apply Mono.is0
        · kernel_rfl
        · intro W hW
          go_wp2
          refine ⟨rfl, rfl, Grows.refl _, ?_⟩
          unfold Oper.valAt
          go_simp
          rfl
        intro k1 a1 hk1 ha1
        simp only [Nat.reduceAdd] at hk1
        simp only [Act.put, List.setIfInBounds_toArray, List.set_cons_succ, List.set_cons_zero] at ha1
        subst hk1 ha1
        refine Mono.done ?_
        intro wm hgm
        simp only [allF, List.drop_succ_cons, List.drop_nil]
        have hgw := hgr.trans hgm
        clear hgm
        go_wp2
        go_roundw
        case rel => exact ⟨2 + 1, by omega, rfl, by rw [Hnx.out], hgw⟩
        case measure => simp [intOf]
      · obtain ⟨t, Ht⟩ : ∃ t, Hid (turnedF q 3 = t) := ⟨_, lib_hid rfl⟩
        obtain ⟨a, Ha⟩ : ∃ a, Hid (q <<< UInt8.ofNat 4 = a) := ⟨_, lib_hid rfl⟩
        obtain ⟨b, Hb⟩ : ∃ b, Hid (q >>> UInt8.ofNat 4 = b) := ⟨_, lib_hid rfl⟩
        obtain ⟨o, Ho⟩ : ∃ o, Hid (a ||| b = o) := ⟨_, lib_hid rfl⟩
        obtain ⟨z, Hz⟩ : ∃ z, Hid (t ^^^ o = z) := ⟨_, lib_hid rfl⟩
        have Hh1 : Hid (IntKind.u8.wrap ((q.toNat : Int) * 16) = (a.toNat : Int)) := by
          unfold Hid; have := u8_shl q 4 (by omega); rw [Ha.out] at this; exact this
        have Hh2 : Hid ((q.toNat : Int) / 16 = (b.toNat : Int)) := by
          unfold Hid; have := u8_shr q 4 (by omega); rw [Hb.out] at this; exact this
        have Hh3 : Hid (bits .or .u8 (a.toNat : Int) (b.toNat : Int) = (o.toNat : Int)) := by unfold Hid; rw [u8_or, Ho.out]
        have Hh4 : Hid (bits .xor .u8 (t.toNat : Int) (o.toNat : Int) = (z.toNat : Int)) := by unfold Hid; rw [u8_xor, Hz.out]
        have Hnx : Hid (turnedF q (3 + 1) = z) := by
          unfold Hid; rw [turnedF, Ht.out, Ha.out, Hb.out, Ho.out, Hz.out]
        rw [Ht.out]
        go_wp2
        apply wp_region_mono 11 ((.is _, []) :: (.is _, []) :: (.is _, []) :: (.is _, []) :: (.is _, []) :: (.is _, []) :: (.is _, []) :: (.is _, []) :: (.is _, []) :: (.is _, []) :: (.is _, []) :: []) (by kernel_rfl) (by kernel_rfl)
        iterate 3
          apply Mono.is0
          · kernel_rfl
          · intro W hW
            go_wp2
            refine ⟨rfl, rfl, Grows.refl _, ?_⟩
            unfold Oper.valAt
            go_simp
            rfl
          intro k1 a1 hk1 ha1
          simp only [Nat.reduceAdd] at hk1
          simp only [Act.put, List.setIfInBounds_toArray, List.set_cons_succ, List.set_cons_zero] at ha1
          subst hk1 ha1
        apply Mono.is0
        · kernel_rfl
        · intro W hW
          have hh := Hh1.out
          go_wp2
          refine ⟨rfl, rfl, Grows.refl _, ?_⟩
          unfold Oper.valAt
          go_simp
          rfl
        intro k1 a1 hk1 ha1
        simp only [Nat.reduceAdd] at hk1
        simp only [Act.put, List.setIfInBounds_toArray, List.set_cons_succ, List.set_cons_zero] at ha1
        subst hk1 ha1
        iterate 3
          apply Mono.is0
          · kernel_rfl
          · intro W hW
            go_wp2
            refine ⟨rfl, rfl, Grows.refl _, ?_⟩
            unfold Oper.valAt
            go_simp
            rfl
          intro k1 a1 hk1 ha1
          simp only [Nat.reduceAdd] at hk1
          simp only [Act.put, List.setIfInBounds_toArray, List.set_cons_succ, List.set_cons_zero] at ha1
          subst hk1 ha1
        apply Mono.is0
        · kernel_rfl
        · intro W hW
          have hh := Hh2.out
          go_wp2
          refine ⟨rfl, rfl, Grows.refl _, ?_⟩
          unfold Oper.valAt
          go_simp
          rfl
        intro k1 a1 hk1 ha1
        simp only [Nat.reduceAdd] at hk1
        simp only [Act.put, List.setIfInBounds_toArray, List.set_cons_succ, List.set_cons_zero] at ha1
        subst hk1 ha1
        apply Mono.is0
        · kernel_rfl
        · intro W hW
          have hh := Hh3.out
          go_wp2
          refine ⟨rfl, rfl, Grows.refl _, ?_⟩
          unfold Oper.valAt
          go_simp
          rfl
        intro k1 a1 hk1 ha1
        simp only [Nat.reduceAdd] at hk1
        simp only [Act.put, List.setIfInBounds_toArray, List.set_cons_succ, List.set_cons_zero] at ha1
        subst hk1 ha1
        apply Mono.is0
        · kernel_rfl
        · intro W hW
          have hh := Hh4.out
          go_wp2
          refine ⟨rfl, rfl, Grows.refl _, ?_⟩
          unfold Oper.valAt
          go_simp
          rfl
        intro k1 a1 hk1 ha1
        simp only [Nat.reduceAdd] at hk1
        simp only [Act.put, List.setIfInBounds_toArray, List.set_cons_succ, List.set_cons_zero] at ha1
        subst hk1 ha1
        apply Mono.is0
        · kernel_rfl
        · intro W hW
          go_wp2
          refine ⟨rfl, rfl, Grows.refl _, ?_⟩
          unfold Oper.valAt
          go_simp
          rfl
        intro k1 a1 hk1 ha1
        simp only [Nat.reduceAdd] at hk1
        simp only [Act.put, List.setIfInBounds_toArray, List.set_cons_succ, List.set_cons_zero] at ha1
        subst hk1 ha1
        refine Mono.done ?_
        intro wm hgm
        simp only [allF, List.drop_succ_cons, List.drop_nil]
        have hgw := hgr.trans hgm
        clear hgm
        go_wp2
        go_roundw
        case rel => exact ⟨3 + 1, by omega, rfl, by rw [Hnx.out], hgw⟩
        case measure => simp [intOf]
    · have hji : ¬ (j : Int) + 1 ≤ 4 := by omega
      obtain rfl : j = 4 := by omega
      go_wp2
      go_ret
      exact ⟨rfl, hgr⟩
end Go.Proofs.Ythcmdjaccjghjaa
