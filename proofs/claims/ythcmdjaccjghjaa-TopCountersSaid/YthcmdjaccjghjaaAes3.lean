/-
  aes.mixed.
-/
import Derived.Test.YthcmdjaccjghjaaAes2
import Derived.Deep.Cut
namespace Go.Proofs.Ythcmdjaccjghjaa
open Go Go.RowKit
set_option linter.unusedSimpArgs false
set_option linter.unusedVariables false


theorem Try.size4b : (Try.prog.info? 50).map (·.size) = some 4 := by kernel_rfl
def mixG (a b c d : UInt8) : Nat → UInt8
  | 0 => (a ^^^ (a ^^^ b ^^^ c ^^^ d)) ^^^ dblF (a ^^^ b)
  | 1 => (b ^^^ (a ^^^ b ^^^ c ^^^ d)) ^^^ dblF (b ^^^ c)
  | 2 => (c ^^^ (a ^^^ b ^^^ c ^^^ d)) ^^^ dblF (c ^^^ d)
  | 3 => (d ^^^ (a ^^^ b ^^^ c ^^^ d)) ^^^ dblF (d ^^^ a)
  | _ => 0
def mixF (a b c d : UInt8) : List UInt8 := (List.range 4).map (mixG a b c d)
set_option maxRecDepth 100000 in
set_option maxHeartbeats 4000000 in
theorem mixed_any (a b c d : UInt8) (w : World) : Calls Try.prog 50 #[.agg #[.int .u8 (a.toNat : Int), .int .u8 (b.toNat : Int), .int .u8 (c.toNat : Int), .int .u8 (d.toNat : Int)]] w fun e w' => e = .returned (.agg ((mixF a b c d).map b8).toArray) ∧ Grows w w' := by
  obtain ⟨W0, HW0, hW0, hg0⟩ : ∃ W0 : World, Hid (W0 = ((w.alloc (.cells #[.int .u8 (a.toNat : Int), .int .u8 (b.toNat : Int), .int .u8 (c.toNat : Int), .int .u8 (d.toNat : Int)] 50)).alloc (.cells #[.int .u8 0, .int .u8 0, .int .u8 0, .int .u8 0] 50)).alloc (.cells #[.int .u8 0, .int .u8 0, .int .u8 0, .int .u8 0] 50)) ∧ W0.heap.size = w.heap.size + 3 ∧ Grows w W0 := ⟨_, lib_hid rfl, by simp, (((Grows.refl w).alloc _).alloc _).alloc _⟩
  have HB0 : Hid (Blk W0 w.heap.size 50 #[.int .u8 (a.toNat : Int), .int .u8 (b.toNat : Int), .int .u8 (c.toNat : Int), .int .u8 (d.toNat : Int)]) := by
    unfold Hid; rw [HW0.out]; have := ((Blk.new (w) 50 #[.int .u8 (a.toNat : Int), .int .u8 (b.toNat : Int), .int .u8 (c.toNat : Int), .int .u8 (d.toNat : Int)]).alloc (.cells #[.int .u8 0, .int .u8 0, .int .u8 0, .int .u8 0] 50)).alloc (.cells #[.int .u8 0, .int .u8 0, .int .u8 0, .int .u8 0] 50); simpa using this
  have HB1 : Hid (Blk W0 (w.heap.size + 1) 50 #[.int .u8 0, .int .u8 0, .int .u8 0, .int .u8 0]) := by
    unfold Hid; rw [HW0.out]; have := (Blk.new (w.alloc (.cells #[.int .u8 (a.toNat : Int), .int .u8 (b.toNat : Int), .int .u8 (c.toNat : Int), .int .u8 (d.toNat : Int)] 50)) 50 #[.int .u8 0, .int .u8 0, .int .u8 0, .int .u8 0]).alloc (.cells #[.int .u8 0, .int .u8 0, .int .u8 0, .int .u8 0] 50); simpa using this
  have HB2 : Hid (Blk W0 (w.heap.size + 2) 50 #[.int .u8 0, .int .u8 0, .int .u8 0, .int .u8 0]) := by
    unfold Hid; rw [HW0.out]; have := Blk.new ((w.alloc (.cells #[.int .u8 (a.toNat : Int), .int .u8 (b.toNat : Int), .int .u8 (c.toNat : Int), .int .u8 (d.toNat : Int)] 50)).alloc (.cells #[.int .u8 0, .int .u8 0, .int .u8 0, .int .u8 0] 50)) 50 #[.int .u8 0, .int .u8 0, .int .u8 0, .int .u8 0]; simpa using this
  obtain ⟨p0, Hp0⟩ : ∃ p0, Hid (w.heap.size = p0) := ⟨_, lib_hid rfl⟩
  rw [Hp0.out] at HB0 HB1 HB2
  obtain ⟨u1, Hu1⟩ : ∃ t, Hid (a ^^^ b = t) := ⟨_, lib_hid rfl⟩
  obtain ⟨u2, Hu2⟩ : ∃ t, Hid (u1 ^^^ c = t) := ⟨_, lib_hid rfl⟩
  obtain ⟨al, Hal0⟩ : ∃ t, Hid (u2 ^^^ d = t) := ⟨_, lib_hid rfl⟩
  have Hal : Hid (a ^^^ b ^^^ c ^^^ d = al) := by unfold Hid; rw [Hu1.out, Hu2.out, Hal0.out]
  have hx1 : bits .xor .u8 (a.toNat : Int) (b.toNat : Int) = (u1.toNat : Int) := by rw [u8_xor, Hu1.out]
  have hx2 : bits .xor .u8 (u1.toNat : Int) (c.toNat : Int) = (u2.toNat : Int) := by rw [u8_xor, Hu2.out]
  have hx3 : bits .xor .u8 (u2.toNat : Int) (d.toNat : Int) = (al.toNat : Int) := by rw [u8_xor, Hal0.out]
  go_enter Try.func50, Try.ntmps50
  go_upto_region 3 with fail
  rw [← HW0.out, Hp0.out]
  clear hx1 hx2 hx3
  go_wp2
  go_loopw [17] (fun i wr => ∃ k : Nat, k ≤ 4 ∧ i = .int .i64 (k : Int) ∧ Hid (Keeps (fun k => k = p0 + 1 + 1) W0 wr) ∧ Hid (Blk wr (p0 + 1 + 1) 50 (putsRow 4 (mixG a b c d) k))) (fun i _ => 4 - (intOf i).toNat)
  case atStart => exact ⟨0, Nat.zero_le _, rfl, lib_hid (Keeps.refl _ _), lib_hid (by rw [putsRow_zero]; exact HB2.out)⟩
  case round =>
    obtain ⟨k, hk, rfl, HK, HB⟩ := hrel
    by_cases hlt : k < 4
    · skip
      rcases (show k = 0 ∨ k = 1 ∨ k = 2 ∨ k = 3 by omega) with rfl | rfl | rfl | rfl
      · have HQ : Hid (∀ W, Grows wr W → W.cell? ⟨p0, 0, none⟩ = some (.int .u8 (a.toNat : Int)) ∧ W.cell? ⟨p0, 1, none⟩ = some (.int .u8 (b.toNat : Int))) := fun W hW => ⟨((HB0.out.keeps HK.out (by omega)).grows hW).cell 0, ((HB0.out.keeps HK.out (by omega)).grows hW).cell 1⟩
        obtain ⟨t1, Ht1⟩ : ∃ t, Hid (a ^^^ al = t) := ⟨_, lib_hid rfl⟩
        obtain ⟨t2, Ht2⟩ : ∃ t, Hid (a ^^^ b = t) := ⟨_, lib_hid rfl⟩
        obtain ⟨t3, Ht3⟩ : ∃ t, Hid (dblF t2 = t) := ⟨_, lib_hid rfl⟩
        obtain ⟨t4, Ht4⟩ : ∃ t, Hid (t1 ^^^ t3 = t) := ⟨_, lib_hid rfl⟩
        have Hh1 : Hid (bits .xor .u8 (a.toNat : Int) (al.toNat : Int) = (t1.toNat : Int)) := by unfold Hid; rw [u8_xor, Ht1.out]
        have Hh2 : Hid (bits .xor .u8 (a.toNat : Int) (b.toNat : Int) = (t2.toNat : Int)) := by unfold Hid; rw [u8_xor, Ht2.out]
        have Hh4 : Hid (bits .xor .u8 (t1.toNat : Int) (t3.toNat : Int) = (t4.toNat : Int)) := by unfold Hid; rw [u8_xor, Ht4.out]
        have HD : Hid (∀ W, Calls Try.prog 20 #[.int .u8 (t2.toNat : Int)] W fun e w' => e = .returned (.int .u8 (t3.toNat : Int)) ∧ W = w') := fun W => by rw [← Ht3.out]; exact double_any t2 W
        have Hg : Hid (mixG a b c d 0 = t4) := by
          unfold Hid; rw [show mixG a b c d 0 = (a ^^^ (a ^^^ b ^^^ c ^^^ d)) ^^^ dblF (a ^^^ b) from rfl, Hal.out, Ht1.out, Ht2.out, Ht3.out, Ht4.out]
        go_wp2
        apply wp_region_mono 18 ((.is _, []) :: (.is _, []) :: (.is _, []) :: (.is _, []) :: (.is _, []) :: (.is _, []) :: (.is _, []) :: (.is _, []) :: (.is _, []) :: (.is _, []) :: (.is _, []) :: (.is _, []) :: (.is _, []) :: (.is _, []) :: (.is _, []) :: (.is (.int .u8 (t3.toNat : Int)), []) :: (.is _, []) :: (.is _, []) :: []) (by kernel_rfl) (by kernel_rfl)
        iterate 3
          apply Mono.is0
          · kernel_rfl
          · intro W hW
            go_wp2
            refine ⟨rfl, rfl, Grows.refl _, ?_⟩
            unfold Oper.valAt
            go_simp
            rfl
          intro k1 a1 hk1 ha1
          simp only [Nat.reduceAdd] at hk1
          simp only [Act.put, List.setIfInBounds_toArray, List.set_cons_succ, List.set_cons_zero] at ha1
          subst hk1 ha1
        apply Mono.is0
        · kernel_rfl
        · intro W hW
          obtain ⟨q1, q2⟩ := HQ.out W hW
          go_wp2
          refine ⟨rfl, rfl, Grows.refl _, ?_⟩
          unfold Oper.valAt
          go_simp
          rfl
        intro k1 a1 hk1 ha1
        simp only [Nat.reduceAdd] at hk1
        simp only [Act.put, List.setIfInBounds_toArray, List.set_cons_succ, List.set_cons_zero] at ha1
        subst hk1 ha1
        apply Mono.is0
        · kernel_rfl
        · intro W hW
          go_wp2
          refine ⟨rfl, rfl, Grows.refl _, ?_⟩
          unfold Oper.valAt
          go_simp
          rfl
        intro k1 a1 hk1 ha1
        simp only [Nat.reduceAdd] at hk1
        simp only [Act.put, List.setIfInBounds_toArray, List.set_cons_succ, List.set_cons_zero] at ha1
        subst hk1 ha1
        apply Mono.is0
        · kernel_rfl
        · intro W hW
          have hh := Hh1.out
          go_wp2
          refine ⟨rfl, rfl, Grows.refl _, ?_⟩
          unfold Oper.valAt
          go_simp
          rfl
        intro k1 a1 hk1 ha1
        simp only [Nat.reduceAdd] at hk1
        simp only [Act.put, List.setIfInBounds_toArray, List.set_cons_succ, List.set_cons_zero] at ha1
        subst hk1 ha1
        iterate 2
          apply Mono.is0
          · kernel_rfl
          · intro W hW
            go_wp2
            refine ⟨rfl, rfl, Grows.refl _, ?_⟩
            unfold Oper.valAt
            go_simp
            rfl
          intro k1 a1 hk1 ha1
          simp only [Nat.reduceAdd] at hk1
          simp only [Act.put, List.setIfInBounds_toArray, List.set_cons_succ, List.set_cons_zero] at ha1
          subst hk1 ha1
        apply Mono.is0
        · kernel_rfl
        · intro W hW
          obtain ⟨q1, q2⟩ := HQ.out W hW
          go_wp2
          refine ⟨rfl, rfl, Grows.refl _, ?_⟩
          unfold Oper.valAt
          go_simp
          rfl
        intro k1 a1 hk1 ha1
        simp only [Nat.reduceAdd] at hk1
        simp only [Act.put, List.setIfInBounds_toArray, List.set_cons_succ, List.set_cons_zero] at ha1
        subst hk1 ha1
        iterate 4
          apply Mono.is0
          · kernel_rfl
          · intro W hW
            go_wp2
            refine ⟨rfl, rfl, Grows.refl _, ?_⟩
            unfold Oper.valAt
            go_simp
            rfl
          intro k1 a1 hk1 ha1
          simp only [Nat.reduceAdd] at hk1
          simp only [Act.put, List.setIfInBounds_toArray, List.set_cons_succ, List.set_cons_zero] at ha1
          subst hk1 ha1
        apply Mono.is0
        · kernel_rfl
        · intro W hW
          obtain ⟨q1, q2⟩ := HQ.out W hW
          go_wp2
          refine ⟨rfl, rfl, Grows.refl _, ?_⟩
          unfold Oper.valAt
          go_simp
          rfl
        intro k1 a1 hk1 ha1
        simp only [Nat.reduceAdd] at hk1
        simp only [Act.put, List.setIfInBounds_toArray, List.set_cons_succ, List.set_cons_zero] at ha1
        subst hk1 ha1
        apply Mono.is0
        · kernel_rfl
        · intro W hW
          have hh := Hh2.out
          go_wp2
          refine ⟨rfl, rfl, Grows.refl _, ?_⟩
          unfold Oper.valAt
          go_simp
          rfl
        intro k1 a1 hk1 ha1
        simp only [Nat.reduceAdd] at hk1
        simp only [Act.put, List.setIfInBounds_toArray, List.set_cons_succ, List.set_cons_zero] at ha1
        subst hk1 ha1
        apply Mono.is0
        · kernel_rfl
        · intro W hW 
          go_wp2_with fail
          refine (HD.out W).mono ?_
          rintro e w1 ⟨rfl, rfl⟩
          go_wp2
          exact ⟨rfl, rfl, Grows.refl _, rfl⟩
        intro k1 a1 hk1 ha1
        simp only [Nat.reduceAdd] at hk1
        simp only [Act.put, List.setIfInBounds_toArray, List.set_cons_succ, List.set_cons_zero] at ha1
        subst hk1 ha1
        apply Mono.is0
        · kernel_rfl
        · intro W hW
          have hh := Hh4.out
          go_wp2
          refine ⟨rfl, rfl, Grows.refl _, ?_⟩
          unfold Oper.valAt
          go_simp
          rfl
        intro k1 a1 hk1 ha1
        simp only [Nat.reduceAdd] at hk1
        simp only [Act.put, List.setIfInBounds_toArray, List.set_cons_succ, List.set_cons_zero] at ha1
        subst hk1 ha1
        apply Mono.is0
        · kernel_rfl
        · intro W hW
          go_wp2
          refine ⟨rfl, rfl, Grows.refl _, ?_⟩
          unfold Oper.valAt
          go_simp
          rfl
        intro k1 a1 hk1 ha1
        simp only [Nat.reduceAdd] at hk1
        simp only [Act.put, List.setIfInBounds_toArray, List.set_cons_succ, List.set_cons_zero] at ha1
        subst hk1 ha1
        refine Mono.done ?_
        intro wm hgm
        simp only [allF, List.drop_succ_cons, List.drop_zero]
        obtain ⟨v0, hv0⟩ := putsRow_cell 4 (mixG a b c d) 0 0 (by omega)
        have hbm := HB.out.grows hgm
        have hc2 : wm.cell? ⟨p0 + 1 + 1, 0, none⟩ = some v0 := by rw [hbm.cell]; exact hv0
        have hf2 := hbm.frozen 0
        have hb3 := hbm.set 0 (b8 (mixG a b c d 0))
        rw [putsRow_set 4 (mixG a b c d) 0 (by omega), Hg.out] at hb3
        have HB3 := lib_hid hb3
        have HK3 : Hid (Keeps (fun k => k = p0 + 1 + 1) W0 (wm.setCell ⟨p0 + 1 + 1, 0, none⟩ (b8 t4))) := lib_hid ((HK.out.trans (hgm.keeps (fun k => k = p0 + 1 + 1)) (fun _ h _ => h)).trans (keeps_set wm ⟨p0 + 1 + 1, 0, none⟩ (b8 t4)) (fun _ h _ => h))
        clear hv0 hb3 HB hbm hgm HQ Hh1 Hh2 Hh4 HD
        go_wp2
        go_roundw
        case rel => exact ⟨0 + 1, by omega, rfl, HK3, HB3⟩
        case measure => simp [intOf]
      · have HQ : Hid (∀ W, Grows wr W → W.cell? ⟨p0, 1, none⟩ = some (.int .u8 (b.toNat : Int)) ∧ W.cell? ⟨p0, 2, none⟩ = some (.int .u8 (c.toNat : Int))) := fun W hW => ⟨((HB0.out.keeps HK.out (by omega)).grows hW).cell 1, ((HB0.out.keeps HK.out (by omega)).grows hW).cell 2⟩
        obtain ⟨t1, Ht1⟩ : ∃ t, Hid (b ^^^ al = t) := ⟨_, lib_hid rfl⟩
        obtain ⟨t2, Ht2⟩ : ∃ t, Hid (b ^^^ c = t) := ⟨_, lib_hid rfl⟩
        obtain ⟨t3, Ht3⟩ : ∃ t, Hid (dblF t2 = t) := ⟨_, lib_hid rfl⟩
        obtain ⟨t4, Ht4⟩ : ∃ t, Hid (t1 ^^^ t3 = t) := ⟨_, lib_hid rfl⟩
        have Hh1 : Hid (bits .xor .u8 (b.toNat : Int) (al.toNat : Int) = (t1.toNat : Int)) := by unfold Hid; rw [u8_xor, Ht1.out]
        have Hh2 : Hid (bits .xor .u8 (b.toNat : Int) (c.toNat : Int) = (t2.toNat : Int)) := by unfold Hid; rw [u8_xor, Ht2.out]
        have Hh4 : Hid (bits .xor .u8 (t1.toNat : Int) (t3.toNat : Int) = (t4.toNat : Int)) := by unfold Hid; rw [u8_xor, Ht4.out]
        have HD : Hid (∀ W, Calls Try.prog 20 #[.int .u8 (t2.toNat : Int)] W fun e w' => e = .returned (.int .u8 (t3.toNat : Int)) ∧ W = w') := fun W => by rw [← Ht3.out]; exact double_any t2 W
        have Hg : Hid (mixG a b c d 1 = t4) := by
          unfold Hid; rw [show mixG a b c d 1 = (b ^^^ (a ^^^ b ^^^ c ^^^ d)) ^^^ dblF (b ^^^ c) from rfl, Hal.out, Ht1.out, Ht2.out, Ht3.out, Ht4.out]
        go_wp2
        apply wp_region_mono 18 ((.is _, []) :: (.is _, []) :: (.is _, []) :: (.is _, []) :: (.is _, []) :: (.is _, []) :: (.is _, []) :: (.is _, []) :: (.is _, []) :: (.is _, []) :: (.is _, []) :: (.is _, []) :: (.is _, []) :: (.is _, []) :: (.is _, []) :: (.is (.int .u8 (t3.toNat : Int)), []) :: (.is _, []) :: (.is _, []) :: []) (by kernel_rfl) (by kernel_rfl)
        iterate 3
          apply Mono.is0
          · kernel_rfl
          · intro W hW
            go_wp2
            refine ⟨rfl, rfl, Grows.refl _, ?_⟩
            unfold Oper.valAt
            go_simp
            rfl
          intro k1 a1 hk1 ha1
          simp only [Nat.reduceAdd] at hk1
          simp only [Act.put, List.setIfInBounds_toArray, List.set_cons_succ, List.set_cons_zero] at ha1
          subst hk1 ha1
        apply Mono.is0
        · kernel_rfl
        · intro W hW
          obtain ⟨q1, q2⟩ := HQ.out W hW
          go_wp2
          refine ⟨rfl, rfl, Grows.refl _, ?_⟩
          unfold Oper.valAt
          go_simp
          rfl
        intro k1 a1 hk1 ha1
        simp only [Nat.reduceAdd] at hk1
        simp only [Act.put, List.setIfInBounds_toArray, List.set_cons_succ, List.set_cons_zero] at ha1
        subst hk1 ha1
        apply Mono.is0
        · kernel_rfl
        · intro W hW
          go_wp2
          refine ⟨rfl, rfl, Grows.refl _, ?_⟩
          unfold Oper.valAt
          go_simp
          rfl
        intro k1 a1 hk1 ha1
        simp only [Nat.reduceAdd] at hk1
        simp only [Act.put, List.setIfInBounds_toArray, List.set_cons_succ, List.set_cons_zero] at ha1
        subst hk1 ha1
        apply Mono.is0
        · kernel_rfl
        · intro W hW
          have hh := Hh1.out
          go_wp2
          refine ⟨rfl, rfl, Grows.refl _, ?_⟩
          unfold Oper.valAt
          go_simp
          rfl
        intro k1 a1 hk1 ha1
        simp only [Nat.reduceAdd] at hk1
        simp only [Act.put, List.setIfInBounds_toArray, List.set_cons_succ, List.set_cons_zero] at ha1
        subst hk1 ha1
        iterate 2
          apply Mono.is0
          · kernel_rfl
          · intro W hW
            go_wp2
            refine ⟨rfl, rfl, Grows.refl _, ?_⟩
            unfold Oper.valAt
            go_simp
            rfl
          intro k1 a1 hk1 ha1
          simp only [Nat.reduceAdd] at hk1
          simp only [Act.put, List.setIfInBounds_toArray, List.set_cons_succ, List.set_cons_zero] at ha1
          subst hk1 ha1
        apply Mono.is0
        · kernel_rfl
        · intro W hW
          obtain ⟨q1, q2⟩ := HQ.out W hW
          go_wp2
          refine ⟨rfl, rfl, Grows.refl _, ?_⟩
          unfold Oper.valAt
          go_simp
          rfl
        intro k1 a1 hk1 ha1
        simp only [Nat.reduceAdd] at hk1
        simp only [Act.put, List.setIfInBounds_toArray, List.set_cons_succ, List.set_cons_zero] at ha1
        subst hk1 ha1
        iterate 4
          apply Mono.is0
          · kernel_rfl
          · intro W hW
            go_wp2
            refine ⟨rfl, rfl, Grows.refl _, ?_⟩
            unfold Oper.valAt
            go_simp
            rfl
          intro k1 a1 hk1 ha1
          simp only [Nat.reduceAdd] at hk1
          simp only [Act.put, List.setIfInBounds_toArray, List.set_cons_succ, List.set_cons_zero] at ha1
          subst hk1 ha1
        apply Mono.is0
        · kernel_rfl
        · intro W hW
          obtain ⟨q1, q2⟩ := HQ.out W hW
          go_wp2
          refine ⟨rfl, rfl, Grows.refl _, ?_⟩
          unfold Oper.valAt
          go_simp
          rfl
        intro k1 a1 hk1 ha1
        simp only [Nat.reduceAdd] at hk1
        simp only [Act.put, List.setIfInBounds_toArray, List.set_cons_succ, List.set_cons_zero] at ha1
        subst hk1 ha1
        apply Mono.is0
        · kernel_rfl
        · intro W hW
          have hh := Hh2.out
          go_wp2
          refine ⟨rfl, rfl, Grows.refl _, ?_⟩
          unfold Oper.valAt
          go_simp
          rfl
        intro k1 a1 hk1 ha1
        simp only [Nat.reduceAdd] at hk1
        simp only [Act.put, List.setIfInBounds_toArray, List.set_cons_succ, List.set_cons_zero] at ha1
        subst hk1 ha1
        apply Mono.is0
        · kernel_rfl
        · intro W hW 
          go_wp2_with fail
          refine (HD.out W).mono ?_
          rintro e w1 ⟨rfl, rfl⟩
          go_wp2
          exact ⟨rfl, rfl, Grows.refl _, rfl⟩
        intro k1 a1 hk1 ha1
        simp only [Nat.reduceAdd] at hk1
        simp only [Act.put, List.setIfInBounds_toArray, List.set_cons_succ, List.set_cons_zero] at ha1
        subst hk1 ha1
        apply Mono.is0
        · kernel_rfl
        · intro W hW
          have hh := Hh4.out
          go_wp2
          refine ⟨rfl, rfl, Grows.refl _, ?_⟩
          unfold Oper.valAt
          go_simp
          rfl
        intro k1 a1 hk1 ha1
        simp only [Nat.reduceAdd] at hk1
        simp only [Act.put, List.setIfInBounds_toArray, List.set_cons_succ, List.set_cons_zero] at ha1
        subst hk1 ha1
        apply Mono.is0
        · kernel_rfl
        · intro W hW
          go_wp2
          refine ⟨rfl, rfl, Grows.refl _, ?_⟩
          unfold Oper.valAt
          go_simp
          rfl
        intro k1 a1 hk1 ha1
        simp only [Nat.reduceAdd] at hk1
        simp only [Act.put, List.setIfInBounds_toArray, List.set_cons_succ, List.set_cons_zero] at ha1
        subst hk1 ha1
        refine Mono.done ?_
        intro wm hgm
        simp only [allF, List.drop_succ_cons, List.drop_zero]
        obtain ⟨v0, hv0⟩ := putsRow_cell 4 (mixG a b c d) 1 1 (by omega)
        have hbm := HB.out.grows hgm
        have hc2 : wm.cell? ⟨p0 + 1 + 1, 1, none⟩ = some v0 := by rw [hbm.cell]; exact hv0
        have hf2 := hbm.frozen 1
        have hb3 := hbm.set 1 (b8 (mixG a b c d 1))
        rw [putsRow_set 4 (mixG a b c d) 1 (by omega), Hg.out] at hb3
        have HB3 := lib_hid hb3
        have HK3 : Hid (Keeps (fun k => k = p0 + 1 + 1) W0 (wm.setCell ⟨p0 + 1 + 1, 1, none⟩ (b8 t4))) := lib_hid ((HK.out.trans (hgm.keeps (fun k => k = p0 + 1 + 1)) (fun _ h _ => h)).trans (keeps_set wm ⟨p0 + 1 + 1, 1, none⟩ (b8 t4)) (fun _ h _ => h))
        clear hv0 hb3 HB hbm hgm HQ Hh1 Hh2 Hh4 HD
        go_wp2
        go_roundw
        case rel => exact ⟨1 + 1, by omega, rfl, HK3, HB3⟩
        case measure => simp [intOf]
      · have HQ : Hid (∀ W, Grows wr W → W.cell? ⟨p0, 2, none⟩ = some (.int .u8 (c.toNat : Int)) ∧ W.cell? ⟨p0, 3, none⟩ = some (.int .u8 (d.toNat : Int))) := fun W hW => ⟨((HB0.out.keeps HK.out (by omega)).grows hW).cell 2, ((HB0.out.keeps HK.out (by omega)).grows hW).cell 3⟩
        obtain ⟨t1, Ht1⟩ : ∃ t, Hid (c ^^^ al = t) := ⟨_, lib_hid rfl⟩
        obtain ⟨t2, Ht2⟩ : ∃ t, Hid (c ^^^ d = t) := ⟨_, lib_hid rfl⟩
        obtain ⟨t3, Ht3⟩ : ∃ t, Hid (dblF t2 = t) := ⟨_, lib_hid rfl⟩
        obtain ⟨t4, Ht4⟩ : ∃ t, Hid (t1 ^^^ t3 = t) := ⟨_, lib_hid rfl⟩
        have Hh1 : Hid (bits .xor .u8 (c.toNat : Int) (al.toNat : Int) = (t1.toNat : Int)) := by unfold Hid; rw [u8_xor, Ht1.out]
        have Hh2 : Hid (bits .xor .u8 (c.toNat : Int) (d.toNat : Int) = (t2.toNat : Int)) := by unfold Hid; rw [u8_xor, Ht2.out]
        have Hh4 : Hid (bits .xor .u8 (t1.toNat : Int) (t3.toNat : Int) = (t4.toNat : Int)) := by unfold Hid; rw [u8_xor, Ht4.out]
        have HD : Hid (∀ W, Calls Try.prog 20 #[.int .u8 (t2.toNat : Int)] W fun e w' => e = .returned (.int .u8 (t3.toNat : Int)) ∧ W = w') := fun W => by rw [← Ht3.out]; exact double_any t2 W
        have Hg : Hid (mixG a b c d 2 = t4) := by
          unfold Hid; rw [show mixG a b c d 2 = (c ^^^ (a ^^^ b ^^^ c ^^^ d)) ^^^ dblF (c ^^^ d) from rfl, Hal.out, Ht1.out, Ht2.out, Ht3.out, Ht4.out]
        go_wp2
        apply wp_region_mono 18 ((.is _, []) :: (.is _, []) :: (.is _, []) :: (.is _, []) :: (.is _, []) :: (.is _, []) :: (.is _, []) :: (.is _, []) :: (.is _, []) :: (.is _, []) :: (.is _, []) :: (.is _, []) :: (.is _, []) :: (.is _, []) :: (.is _, []) :: (.is (.int .u8 (t3.toNat : Int)), []) :: (.is _, []) :: (.is _, []) :: []) (by kernel_rfl) (by kernel_rfl)
        iterate 3
          apply Mono.is0
          · kernel_rfl
          · intro W hW
            go_wp2
            refine ⟨rfl, rfl, Grows.refl _, ?_⟩
            unfold Oper.valAt
            go_simp
            rfl
          intro k1 a1 hk1 ha1
          simp only [Nat.reduceAdd] at hk1
          simp only [Act.put, List.setIfInBounds_toArray, List.set_cons_succ, List.set_cons_zero] at ha1
          subst hk1 ha1
        apply Mono.is0
        · kernel_rfl
        · intro W hW
          obtain ⟨q1, q2⟩ := HQ.out W hW
          go_wp2
          refine ⟨rfl, rfl, Grows.refl _, ?_⟩
          unfold Oper.valAt
          go_simp
          rfl
        intro k1 a1 hk1 ha1
        simp only [Nat.reduceAdd] at hk1
        simp only [Act.put, List.setIfInBounds_toArray, List.set_cons_succ, List.set_cons_zero] at ha1
        subst hk1 ha1
        apply Mono.is0
        · kernel_rfl
        · intro W hW
          go_wp2
          refine ⟨rfl, rfl, Grows.refl _, ?_⟩
          unfold Oper.valAt
          go_simp
          rfl
        intro k1 a1 hk1 ha1
        simp only [Nat.reduceAdd] at hk1
        simp only [Act.put, List.setIfInBounds_toArray, List.set_cons_succ, List.set_cons_zero] at ha1
        subst hk1 ha1
        apply Mono.is0
        · kernel_rfl
        · intro W hW
          have hh := Hh1.out
          go_wp2
          refine ⟨rfl, rfl, Grows.refl _, ?_⟩
          unfold Oper.valAt
          go_simp
          rfl
        intro k1 a1 hk1 ha1
        simp only [Nat.reduceAdd] at hk1
        simp only [Act.put, List.setIfInBounds_toArray, List.set_cons_succ, List.set_cons_zero] at ha1
        subst hk1 ha1
        iterate 2
          apply Mono.is0
          · kernel_rfl
          · intro W hW
            go_wp2
            refine ⟨rfl, rfl, Grows.refl _, ?_⟩
            unfold Oper.valAt
            go_simp
            rfl
          intro k1 a1 hk1 ha1
          simp only [Nat.reduceAdd] at hk1
          simp only [Act.put, List.setIfInBounds_toArray, List.set_cons_succ, List.set_cons_zero] at ha1
          subst hk1 ha1
        apply Mono.is0
        · kernel_rfl
        · intro W hW
          obtain ⟨q1, q2⟩ := HQ.out W hW
          go_wp2
          refine ⟨rfl, rfl, Grows.refl _, ?_⟩
          unfold Oper.valAt
          go_simp
          rfl
        intro k1 a1 hk1 ha1
        simp only [Nat.reduceAdd] at hk1
        simp only [Act.put, List.setIfInBounds_toArray, List.set_cons_succ, List.set_cons_zero] at ha1
        subst hk1 ha1
        iterate 4
          apply Mono.is0
          · kernel_rfl
          · intro W hW
            go_wp2
            refine ⟨rfl, rfl, Grows.refl _, ?_⟩
            unfold Oper.valAt
            go_simp
            rfl
          intro k1 a1 hk1 ha1
          simp only [Nat.reduceAdd] at hk1
          simp only [Act.put, List.setIfInBounds_toArray, List.set_cons_succ, List.set_cons_zero] at ha1
          subst hk1 ha1
        apply Mono.is0
        · kernel_rfl
        · intro W hW
          obtain ⟨q1, q2⟩ := HQ.out W hW
          go_wp2
          refine ⟨rfl, rfl, Grows.refl _, ?_⟩
          unfold Oper.valAt
          go_simp
          rfl
        intro k1 a1 hk1 ha1
        simp only [Nat.reduceAdd] at hk1
        simp only [Act.put, List.setIfInBounds_toArray, List.set_cons_succ, List.set_cons_zero] at ha1
        subst hk1 ha1
        apply Mono.is0
        · kernel_rfl
        · intro W hW
          have hh := Hh2.out
          go_wp2
          refine ⟨rfl, rfl, Grows.refl _, ?_⟩
          unfold Oper.valAt
          go_simp
          rfl
        intro k1 a1 hk1 ha1
        simp only [Nat.reduceAdd] at hk1
        simp only [Act.put, List.setIfInBounds_toArray, List.set_cons_succ, List.set_cons_zero] at ha1
        subst hk1 ha1
        apply Mono.is0
        · kernel_rfl
        · intro W hW 
          go_wp2_with fail
          refine (HD.out W).mono ?_
          rintro e w1 ⟨rfl, rfl⟩
          go_wp2
          exact ⟨rfl, rfl, Grows.refl _, rfl⟩
        intro k1 a1 hk1 ha1
        simp only [Nat.reduceAdd] at hk1
        simp only [Act.put, List.setIfInBounds_toArray, List.set_cons_succ, List.set_cons_zero] at ha1
        subst hk1 ha1
        apply Mono.is0
        · kernel_rfl
        · intro W hW
          have hh := Hh4.out
          go_wp2
          refine ⟨rfl, rfl, Grows.refl _, ?_⟩
          unfold Oper.valAt
          go_simp
          rfl
        intro k1 a1 hk1 ha1
        simp only [Nat.reduceAdd] at hk1
        simp only [Act.put, List.setIfInBounds_toArray, List.set_cons_succ, List.set_cons_zero] at ha1
        subst hk1 ha1
        apply Mono.is0
        · kernel_rfl
        · intro W hW
          go_wp2
          refine ⟨rfl, rfl, Grows.refl _, ?_⟩
          unfold Oper.valAt
          go_simp
          rfl
        intro k1 a1 hk1 ha1
        simp only [Nat.reduceAdd] at hk1
        simp only [Act.put, List.setIfInBounds_toArray, List.set_cons_succ, List.set_cons_zero] at ha1
        subst hk1 ha1
        refine Mono.done ?_
        intro wm hgm
        simp only [allF, List.drop_succ_cons, List.drop_zero]
        obtain ⟨v0, hv0⟩ := putsRow_cell 4 (mixG a b c d) 2 2 (by omega)
        have hbm := HB.out.grows hgm
        have hc2 : wm.cell? ⟨p0 + 1 + 1, 2, none⟩ = some v0 := by rw [hbm.cell]; exact hv0
        have hf2 := hbm.frozen 2
        have hb3 := hbm.set 2 (b8 (mixG a b c d 2))
        rw [putsRow_set 4 (mixG a b c d) 2 (by omega), Hg.out] at hb3
        have HB3 := lib_hid hb3
        have HK3 : Hid (Keeps (fun k => k = p0 + 1 + 1) W0 (wm.setCell ⟨p0 + 1 + 1, 2, none⟩ (b8 t4))) := lib_hid ((HK.out.trans (hgm.keeps (fun k => k = p0 + 1 + 1)) (fun _ h _ => h)).trans (keeps_set wm ⟨p0 + 1 + 1, 2, none⟩ (b8 t4)) (fun _ h _ => h))
        clear hv0 hb3 HB hbm hgm HQ Hh1 Hh2 Hh4 HD
        go_wp2
        go_roundw
        case rel => exact ⟨2 + 1, by omega, rfl, HK3, HB3⟩
        case measure => simp [intOf]
      · have HQ : Hid (∀ W, Grows wr W → W.cell? ⟨p0, 3, none⟩ = some (.int .u8 (d.toNat : Int)) ∧ W.cell? ⟨p0, 0, none⟩ = some (.int .u8 (a.toNat : Int))) := fun W hW => ⟨((HB0.out.keeps HK.out (by omega)).grows hW).cell 3, ((HB0.out.keeps HK.out (by omega)).grows hW).cell 0⟩
        obtain ⟨t1, Ht1⟩ : ∃ t, Hid (d ^^^ al = t) := ⟨_, lib_hid rfl⟩
        obtain ⟨t2, Ht2⟩ : ∃ t, Hid (d ^^^ a = t) := ⟨_, lib_hid rfl⟩
        obtain ⟨t3, Ht3⟩ : ∃ t, Hid (dblF t2 = t) := ⟨_, lib_hid rfl⟩
        obtain ⟨t4, Ht4⟩ : ∃ t, Hid (t1 ^^^ t3 = t) := ⟨_, lib_hid rfl⟩
        have Hh1 : Hid (bits .xor .u8 (d.toNat : Int) (al.toNat : Int) = (t1.toNat : Int)) := by unfold Hid; rw [u8_xor, Ht1.out]
        have Hh2 : Hid (bits .xor .u8 (d.toNat : Int) (a.toNat : Int) = (t2.toNat : Int)) := by unfold Hid; rw [u8_xor, Ht2.out]
        have Hh4 : Hid (bits .xor .u8 (t1.toNat : Int) (t3.toNat : Int) = (t4.toNat : Int)) := by unfold Hid; rw [u8_xor, Ht4.out]
        have HD : Hid (∀ W, Calls Try.prog 20 #[.int .u8 (t2.toNat : Int)] W fun e w' => e = .returned (.int .u8 (t3.toNat : Int)) ∧ W = w') := fun W => by rw [← Ht3.out]; exact double_any t2 W
        have Hg : Hid (mixG a b c d 3 = t4) := by
          unfold Hid; rw [show mixG a b c d 3 = (d ^^^ (a ^^^ b ^^^ c ^^^ d)) ^^^ dblF (d ^^^ a) from rfl, Hal.out, Ht1.out, Ht2.out, Ht3.out, Ht4.out]
        go_wp2
        apply wp_region_mono 18 ((.is _, []) :: (.is _, []) :: (.is _, []) :: (.is _, []) :: (.is _, []) :: (.is _, []) :: (.is _, []) :: (.is _, []) :: (.is _, []) :: (.is _, []) :: (.is _, []) :: (.is _, []) :: (.is _, []) :: (.is _, []) :: (.is _, []) :: (.is (.int .u8 (t3.toNat : Int)), []) :: (.is _, []) :: (.is _, []) :: []) (by kernel_rfl) (by kernel_rfl)
        iterate 3
          apply Mono.is0
          · kernel_rfl
          · intro W hW
            go_wp2
            refine ⟨rfl, rfl, Grows.refl _, ?_⟩
            unfold Oper.valAt
            go_simp
            rfl
          intro k1 a1 hk1 ha1
          simp only [Nat.reduceAdd] at hk1
          simp only [Act.put, List.setIfInBounds_toArray, List.set_cons_succ, List.set_cons_zero] at ha1
          subst hk1 ha1
        apply Mono.is0
        · kernel_rfl
        · intro W hW
          obtain ⟨q1, q2⟩ := HQ.out W hW
          go_wp2
          refine ⟨rfl, rfl, Grows.refl _, ?_⟩
          unfold Oper.valAt
          go_simp
          rfl
        intro k1 a1 hk1 ha1
        simp only [Nat.reduceAdd] at hk1
        simp only [Act.put, List.setIfInBounds_toArray, List.set_cons_succ, List.set_cons_zero] at ha1
        subst hk1 ha1
        apply Mono.is0
        · kernel_rfl
        · intro W hW
          go_wp2
          refine ⟨rfl, rfl, Grows.refl _, ?_⟩
          unfold Oper.valAt
          go_simp
          rfl
        intro k1 a1 hk1 ha1
        simp only [Nat.reduceAdd] at hk1
        simp only [Act.put, List.setIfInBounds_toArray, List.set_cons_succ, List.set_cons_zero] at ha1
        subst hk1 ha1
        apply Mono.is0
        · kernel_rfl
        · intro W hW
          have hh := Hh1.out
          go_wp2
          refine ⟨rfl, rfl, Grows.refl _, ?_⟩
          unfold Oper.valAt
          go_simp
          rfl
        intro k1 a1 hk1 ha1
        simp only [Nat.reduceAdd] at hk1
        simp only [Act.put, List.setIfInBounds_toArray, List.set_cons_succ, List.set_cons_zero] at ha1
        subst hk1 ha1
        iterate 2
          apply Mono.is0
          · kernel_rfl
          · intro W hW
            go_wp2
            refine ⟨rfl, rfl, Grows.refl _, ?_⟩
            unfold Oper.valAt
            go_simp
            rfl
          intro k1 a1 hk1 ha1
          simp only [Nat.reduceAdd] at hk1
          simp only [Act.put, List.setIfInBounds_toArray, List.set_cons_succ, List.set_cons_zero] at ha1
          subst hk1 ha1
        apply Mono.is0
        · kernel_rfl
        · intro W hW
          obtain ⟨q1, q2⟩ := HQ.out W hW
          go_wp2
          refine ⟨rfl, rfl, Grows.refl _, ?_⟩
          unfold Oper.valAt
          go_simp
          rfl
        intro k1 a1 hk1 ha1
        simp only [Nat.reduceAdd] at hk1
        simp only [Act.put, List.setIfInBounds_toArray, List.set_cons_succ, List.set_cons_zero] at ha1
        subst hk1 ha1
        iterate 4
          apply Mono.is0
          · kernel_rfl
          · intro W hW
            go_wp2
            refine ⟨rfl, rfl, Grows.refl _, ?_⟩
            unfold Oper.valAt
            go_simp
            rfl
          intro k1 a1 hk1 ha1
          simp only [Nat.reduceAdd] at hk1
          simp only [Act.put, List.setIfInBounds_toArray, List.set_cons_succ, List.set_cons_zero] at ha1
          subst hk1 ha1
        apply Mono.is0
        · kernel_rfl
        · intro W hW
          obtain ⟨q1, q2⟩ := HQ.out W hW
          go_wp2
          refine ⟨rfl, rfl, Grows.refl _, ?_⟩
          unfold Oper.valAt
          go_simp
          rfl
        intro k1 a1 hk1 ha1
        simp only [Nat.reduceAdd] at hk1
        simp only [Act.put, List.setIfInBounds_toArray, List.set_cons_succ, List.set_cons_zero] at ha1
        subst hk1 ha1
        apply Mono.is0
        · kernel_rfl
        · intro W hW
          have hh := Hh2.out
          go_wp2
          refine ⟨rfl, rfl, Grows.refl _, ?_⟩
          unfold Oper.valAt
          go_simp
          rfl
        intro k1 a1 hk1 ha1
        simp only [Nat.reduceAdd] at hk1
        simp only [Act.put, List.setIfInBounds_toArray, List.set_cons_succ, List.set_cons_zero] at ha1
        subst hk1 ha1
        apply Mono.is0
        · kernel_rfl
        · intro W hW 
          go_wp2_with fail
          refine (HD.out W).mono ?_
          rintro e w1 ⟨rfl, rfl⟩
          go_wp2
          exact ⟨rfl, rfl, Grows.refl _, rfl⟩
        intro k1 a1 hk1 ha1
        simp only [Nat.reduceAdd] at hk1
        simp only [Act.put, List.setIfInBounds_toArray, List.set_cons_succ, List.set_cons_zero] at ha1
        subst hk1 ha1
        apply Mono.is0
        · kernel_rfl
        · intro W hW
          have hh := Hh4.out
          go_wp2
          refine ⟨rfl, rfl, Grows.refl _, ?_⟩
          unfold Oper.valAt
          go_simp
          rfl
        intro k1 a1 hk1 ha1
        simp only [Nat.reduceAdd] at hk1
        simp only [Act.put, List.setIfInBounds_toArray, List.set_cons_succ, List.set_cons_zero] at ha1
        subst hk1 ha1
        apply Mono.is0
        · kernel_rfl
        · intro W hW
          go_wp2
          refine ⟨rfl, rfl, Grows.refl _, ?_⟩
          unfold Oper.valAt
          go_simp
          rfl
        intro k1 a1 hk1 ha1
        simp only [Nat.reduceAdd] at hk1
        simp only [Act.put, List.setIfInBounds_toArray, List.set_cons_succ, List.set_cons_zero] at ha1
        subst hk1 ha1
        refine Mono.done ?_
        intro wm hgm
        simp only [allF, List.drop_succ_cons, List.drop_zero]
        obtain ⟨v0, hv0⟩ := putsRow_cell 4 (mixG a b c d) 3 3 (by omega)
        have hbm := HB.out.grows hgm
        have hc2 : wm.cell? ⟨p0 + 1 + 1, 3, none⟩ = some v0 := by rw [hbm.cell]; exact hv0
        have hf2 := hbm.frozen 3
        have hb3 := hbm.set 3 (b8 (mixG a b c d 3))
        rw [putsRow_set 4 (mixG a b c d) 3 (by omega), Hg.out] at hb3
        have HB3 := lib_hid hb3
        have HK3 : Hid (Keeps (fun k => k = p0 + 1 + 1) W0 (wm.setCell ⟨p0 + 1 + 1, 3, none⟩ (b8 t4))) := lib_hid ((HK.out.trans (hgm.keeps (fun k => k = p0 + 1 + 1)) (fun _ h _ => h)).trans (keeps_set wm ⟨p0 + 1 + 1, 3, none⟩ (b8 t4)) (fun _ h _ => h))
        clear hv0 hb3 HB hbm hgm HQ Hh1 Hh2 Hh4 HD
        go_wp2
        go_roundw
        case rel => exact ⟨3 + 1, by omega, rfl, HK3, HB3⟩
        case measure => simp [intOf]
    · have hki : ¬ (k : Int) < 4 := by omega
      obtain rfl : k = 4 := by omega
      obtain ⟨res, hres⟩ : ∃ res, Hid (((mixF a b c d).map b8).toArray = res) := ⟨_, lib_hid rfl⟩
      have hcl : res.size = 4 := by rw [← hres.out]; simp [mixF]
      have hca : res.all (·.oneCell') = true := by rw [← hres.out]; exact cells_all _
      have HB4 : Blk wr (p0 + 1 + 1) 50 res := by
        have := HB.out
        rw [show putsRow 4 (mixG a b c d) 4 = res from by rw [← hres.out]; unfold mixF; rw [← putsRow_all]] at this
        exact this
      have HB1' := HB1.out.keeps HK.out (by omega)
      have hb0 : Below p0 W0 wr := HK.out.below (by have := Hp0.out; omega) (by intro i hi; omega)
      go_wp2_with (first
        | (refine wpList_load_blk rfl _ _ rfl (p0 + 1 + 1) rfl _ res _ HB4 Try.underlying50 rfl (by rw [Try.size4b, hcl]) ?_)
        | (refine wpList_store_blk rfl _ _ _ rfl (p0 + 1) res rfl rfl _ _ HB1' (by rw [Try.size4b, hcl]) (by simp [hcl]) hca p0 W0 hb0 (by omega) ?_; intro w5 HR6 hb5 hgr5))
      refine bodyPost_ret (results_cell_row rfl _ _ (p0 + 1) _ res _ _ rfl HR6 Try.underlying50 rfl (by rw [Try.size4b, hcl])) rfl ?_
      exact ⟨by rw [hres.out], Below.trans hg0 (by rw [Hp0.out]; exact hb5)⟩
end Go.Proofs.Ythcmdjaccjghjaa
