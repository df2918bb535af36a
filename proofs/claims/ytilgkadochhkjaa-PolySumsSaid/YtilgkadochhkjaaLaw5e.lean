/-
  The walk of the law of layer 5: PolySums.
-/
import Derived.Test.YtilgkadochhkjaaPolyR5
import Derived.Deep.Cut
namespace Go.Proofs.Ytilgkadochhkjaa
open Go Go.RowKit
set_option linter.unusedSimpArgs false
set_option linter.unusedVariables false


set_option maxRecDepth 100000 in
set_option maxHeartbeats 4000000 in
theorem walk_PolySums (key : List UInt8) (A : Option Addr) (l c : Nat) (bs : List UInt8) (w : World) (hk : key.length = 32) (hs : SB w A l c bs) :
    Calls Try.prog 3 #[.agg (key.map b8).toArray, .slice A l c] w fun e w' => e = .returned (.bool true) ∧ Below w.heap.size w w' := by
  have hlen := lib_hid hs.len
  by_cases hbig : 600 < l
  · have h1 : (600 : Int) < l := by omega
    clear hs hk
    go_enter Try.func3, Try.ntmps3
    go_wp2
    go_ret
    exact ⟨rfl, (Grows.refl w).alloc _⟩
  · have h1 : ¬ (600 : Int) < l := by omega
    obtain ⟨k1, Hk1, k1l⟩ : ∃ k1, Hid (key.take 16 = k1) ∧ Hid (k1.length = 16) := ⟨_, lib_hid rfl, by unfold Hid; rw [List.length_take, hk]; rfl⟩
    obtain ⟨cl, Hcl, cll⟩ : ∃ cl, Hid (clampF k1 = cl) ∧ Hid (cl.length = 16) := ⟨_, lib_hid rfl, by unfold Hid; rw [clampF_len, k1l.out]⟩
    obtain ⟨sum, Hsum, suml⟩ : ∃ x, Hid (polyF key bs = x) ∧ Hid (x.length = 16) := ⟨_, lib_hid rfl, polyF_len _ _⟩
    have HSum : Hid (∀ W, SB W A l c bs → Calls Try.prog 9 #[.agg (key.map b8).toArray, .slice A l c] W fun e w' => e = .returned (.agg (sum.map b8).toArray) ∧ Grows W w') := fun W h => by
      have := poly_any key bs hk A l c W h (by omega)
      rw [Hsum.out] at this; exact this
    have HRef : Hid (∀ W, SB W A l c bs → Calls Try.prog 10 #[.agg (key.map b8).toArray, .slice A l c] W (NewB 5 W sum)) := fun W h => by
      have := refSum05_any key bs hk A l c W h (by omega)
      rw [refPoly_eq key bs hk, Hsum.out] at this; exact this
    have HC0 : Hid (∀ W, Calls Try.prog 11 #[.agg (k1.map b8).toArray] W fun e w' => e = .returned (.agg (cl.map b8).toArray) ∧ Grows W w') := fun W => by rw [← Hcl.out]; exact clamp_any k1 k1l.out W
    have HC1 : Hid (∀ W, Calls Try.prog 12 #[.agg (k1.map b8).toArray] W fun e w' => e = .returned (.agg (cl.map b8).toArray) ∧ Grows W w') := fun W => by rw [← Hcl.out]; exact refClamp_any k1 k1l.out W
    obtain ⟨W0, HW0, hW0, hg0⟩ : ∃ W0 : World, Hid (W0 = w.alloc (.cells (key.map b8).toArray 22)) ∧ Hid (W0.heap.size = w.heap.size + 1) ∧ Grows w W0 := ⟨_, lib_hid rfl, by unfold Hid; simp, (Grows.refl w).alloc _⟩
    have HK0 : Hid (Blk W0 w.heap.size 22 (key.map b8).toArray) := by unfold Hid; rw [HW0.out]; exact Blk.new _ _ _
    have HS0 := lib_hid (hs.grows hg0)
    have keyl := lib_hid hk
    obtain ⟨g5, Hg5⟩ : ∃ x, Hid (W0.heap.size = x) := ⟨_, lib_hid rfl⟩
    obtain ⟨W1, HW1⟩ : ∃ W1 : World, Hid (W1 = W0.alloc (.cells ((List.replicate 16 (0 : UInt8)).map b8).toArray 24)) := ⟨_, lib_hid rfl⟩
    have HF1 : Hid (Blk W1 g5 24 ((firstL key 0).map b8).toArray) := by
      unfold Hid; rw [HW1.out, ← Hg5.out]; exact Blk.new W0 _ _
    have hg1 : Grows W0 W1 := by rw [HW1.out]; exact (Grows.refl _).alloc _
    have HW0' := HW0.out
    have HW1' := HW1.out
    rw [← zeros16] at HW1'
    clear hs hk HW0 HW1
    go_enter Try.func3, Try.ntmps3
    go_upto_region 3 with fail
    rw [← HW0']
    clear HW0'
    go_upto_region 4 with fail
    rw [← HW1', Hg5.out]
    clear HW1' h1
    go_wp2_with fail
    go_loopw [6] (fun v wr => ∃ k : Nat, k ≤ 16 ∧ v = .int .i64 (k : Int) ∧ Grows W0 wr ∧ Hid (Blk wr g5 24 ((firstL key k).map b8).toArray)) (fun v _ => 16 - (intOf v).toNat)
    case atStart => exact ⟨0, by omega, rfl, hg1, HF1⟩
    case round =>
      clear HF1 hg1
      obtain ⟨k, hk, rfl, hgr, HF⟩ := hrel
      by_cases hlt : k < 16
      · have hki : (k : Int) < 16 := by omega
        obtain ⟨x, Hx⟩ : ∃ x, Hid (key.getD k 0 = x) := ⟨_, lib_hid rfl⟩
        have c0 : wr.cell? ⟨w.heap.size, k, none⟩ = some (.int .u8 (x.toNat : Int)) := by rw [← Hx.out]; exact cell8 (HK0.out.grows hgr) k (by rw [keyl.out]; omega)
        obtain ⟨y, Hy⟩ : ∃ x, Hid ((firstL key k).getD k 0 = x) := ⟨_, lib_hid rfl⟩
        have c1 : wr.cell? ⟨g5, k, none⟩ = some (.int .u8 (y.toNat : Int)) := by rw [← Hy.out]; exact cell8 HF.out k (by rw [firstL_len key keyl.out k hk]; omega)
        have f1 := HF.out.frozen k
        obtain ⟨W2, HW2⟩ : ∃ X : World, Hid (X = wr.setCell ⟨g5, k, none⟩ (b8 x)) := ⟨_, lib_hid rfl⟩
        have HF2 : Hid (Blk W2 g5 24 ((firstL key (k + 1)).map b8).toArray) := by
          have := blk_set8 HF.out k x
          unfold Hid; rw [HW2.out, ← firstL_succ key keyl.out k hlt, Hx.out]
          exact this
        have hg2 : Grows W0 W2 := by rw [HW2.out]; exact hgr.setCell (p := ⟨g5, k, none⟩) (by show W0.heap.size ≤ g5; rw [Hg5.out]; exact Nat.le_refl _) _
        have HW2' := HW2.out
        have HLt := lib_hid hlt
        clear HF hgr HW2 hlt
        go_upto_region 6 with fail
        rw [← HW2']
        clear HW2' c0 c1 f1
        go_wp2_with fail
        go_roundw
        case rel => exact ⟨k + 1, HLt.out, by go_num, hg2, HF2⟩
        case measure => simp [intOf]; omega
      · have Hk : Hid (k = 16) := by unfold Hid; omega
        have hki : ¬ (k : Int) < 16 := by omega
        have HF2 : Hid (Blk wr g5 24 (k1.map b8).toArray) := by have := HF.out; rw [Hk.out, firstL_all, Hk1.out] at this; exact this
        obtain ⟨res, Hres, hrl⟩ : ∃ r : Array Value, Hid ((key.map b8).toArray = r) ∧ Hid (r.size = 32) := ⟨_, lib_hid rfl, by unfold Hid; simp [keyl.out]⟩
        have HKr : Hid (Blk wr w.heap.size 22 res) := by unfold Hid; rw [← Hres.out]; exact HK0.out.grows hgr
        have HSr := lib_hid (HS0.out.grows hgr)
        rw [Hres.out] at HSum
        clear HF hlt hk
        go_upto_region 8 with fail
        clear hki
        go_wp2_with (refine wpList_load_blk rfl _ _ rfl w.heap.size rfl 22 res _ HKr.out Try.underlying22 rfl (by rw [Try.size32k, hrl.out]) ?_)
        refine (HSum.out _ HSr.out).mono ?_
        rintro e w3 ⟨rfl, hg3⟩
        have hgr3 := hgr.trans hg3
        have HF3 := lib_hid (HF2.out.grows hg3)
        have HS3 := lib_hid (HSr.out.grows hg3)
        have HK3 := lib_hid (HKr.out.grows hg3)
        clear HF2 HSr HKr hgr hg3
        obtain ⟨g7, Hg7⟩ : ∃ x, Hid (w3.heap.size = x) := ⟨_, lib_hid rfl⟩
        obtain ⟨sa, Hsa, sal, saa⟩ : ∃ r : Array Value, Hid ((sum.map b8).toArray = r) ∧ Hid (r.size = 16) ∧ Hid (r.all (·.oneCell') = true) := ⟨_, lib_hid rfl, by unfold Hid; simp [suml.out], cells_all _⟩
        rw [Hsa.out]
        go_upto_region 9 with (refine wpList_store_blk rfl _ _ _ rfl w3.heap.size sa rfl rfl 24 _ (Blk.new w3 _ _) (by rw [Try.size16, sal.out]) (by simp [sal.out]) saa.out w3.heap.size _ (Below.refl _ _) (Nat.le_refl _) ?_; intro w4 HR6 hb5 hgr5; have HR7 := lib_hid HR6; have hgr7 := lib_hid hgr5; clear HR6 hb5 hgr5)
        have hgr34 : Grows w3 w4 := ((Grows.refl w3).alloc _).grown hgr7.out (fun k e => by cases e; exact Nat.le_refl _)
        have HF4 : Hid (Blk w4 g5 24 (k1.map b8).toArray) := HF3.out.grows hgr34
        have HS4 := lib_hid (HS3.out.grows hgr34)
        have HK4 : Hid (Blk w4 w.heap.size 22 (key.map b8).toArray) := by unfold Hid; rw [Hres.out]; exact HK3.out.grows hgr34
        have HSB : Hid (∀ W, Grows w4 W → SB W (some ⟨g7, 0, none⟩) 16 16 sum) := fun W hW => by
          have h1 := HR7.out.grows hW
          rw [← Hsa.out, Hg7.out] at h1
          have h2 := Blk.part8 h1 0 16 16 (by omega) (by rw [suml.out]; omega) (by unfold maxLen; omega)
          rw [List.drop_zero, List.take_of_length_le (by rw [suml.out]; omega)] at h2
          exact h2
        have hgw := (hg0.trans hgr3).trans hgr34
        rw [Hg7.out]
        clear HR7 hgr7 hgr34 hgr3 HF3 HS3 HK3 Hg7
        apply wp_region_mono 18 ((.is _, []) :: (.is _, []) :: (.is (.agg ((key).map b8).toArray), []) :: (.is _, []) :: (.pr (fun v W => ∃ A n c, v = .slice A n c ∧ SB W A n c (sum)), []) :: (.is _, [4]) :: (.is _, []) :: (.is _, []) :: (.is (.agg ((k1).map b8).toArray), []) :: (.is (.agg ((cl).map b8).toArray), []) :: (.is (.agg ((k1).map b8).toArray), []) :: (.is (.agg ((cl).map b8).toArray), []) :: (.is (.bool true), []) :: (.is _, []) :: (.is _, []) :: (.is (.bool true), []) :: (.is _, []) :: (.is _, []) :: []) (by kernel_rfl) (by kernel_rfl)
        apply Mono.is0
        · kernel_rfl
        · intro W hW
          go_wp2
          refine ⟨rfl, rfl, Grows.refl _, ?_⟩
          unfold Oper.valAt
          go_simp
          rfl
        intro k1 a1 hk1 ha1
        simp only [Nat.reduceAdd] at hk1
        simp only [Act.put, List.setIfInBounds_toArray, List.set_cons_succ, List.set_cons_zero] at ha1
        subst hk1 ha1
        apply Mono.is0
        · kernel_rfl
        · intro W hW
          have cv := run_string_SB (P := Try.prog) Try.underlying23 Try.underlying5 Try.underlying9 (HSB.out W hW)
          go_wp2
          refine ⟨rfl, rfl, Grows.refl _, ?_⟩
          unfold Oper.valAt
          go_simp
          rfl
        intro k1 a1 hk1 ha1
        simp only [Nat.reduceAdd] at hk1
        simp only [Act.put, List.setIfInBounds_toArray, List.set_cons_succ, List.set_cons_zero] at ha1
        subst hk1 ha1
        apply Mono.is0
        · kernel_rfl
        · intro W hW 
          go_wp2_with (refine wpList_load_blk (by kernel_rfl) _ _ rfl (w.heap.size) rfl 22 ((key).map b8).toArray _ (HK4.out.grows hW) Try.underlying22 rfl (by rw [Try.size32k]; simp [keyl.out]) ?_)
          exact ⟨rfl, rfl, Grows.refl _, rfl⟩
        intro k1 a1 hk1 ha1
        simp only [Nat.reduceAdd] at hk1
        simp only [Act.put, List.setIfInBounds_toArray, List.set_cons_succ, List.set_cons_zero] at ha1
        subst hk1 ha1
        apply Mono.is0
        · kernel_rfl
        · intro W hW
          go_wp2
          refine ⟨rfl, rfl, Grows.refl _, ?_⟩
          unfold Oper.valAt
          go_simp
          rfl
        intro k1 a1 hk1 ha1
        simp only [Nat.reduceAdd] at hk1
        simp only [Act.put, List.setIfInBounds_toArray, List.set_cons_succ, List.set_cons_zero] at ha1
        subst hk1 ha1
        apply Mono.pr0
        · kernel_rfl
        · exact fun v W W' hW ⟨A, n, c, h1, h2⟩ => ⟨A, n, c, h1, h2.grows hW⟩
        · intro W hW 
          go_wp2_with fail
          refine (HRef.out W (HS4.out.grows hW)).mono ?_
          rintro e w1 ⟨A1, n1, c1, hn1, rfl, hg1, ho1⟩
          go_wp2
          exact ⟨rfl, rfl, hg1, A1, n1, c1, rfl, SB.own ho1⟩
        intro v4
        intro k1 a1 hk1 ha1
        simp only [Nat.reduceAdd] at hk1
        simp only [Act.put, List.setIfInBounds_toArray, List.set_cons_succ, List.set_cons_zero] at ha1
        subst hk1 ha1
        apply Mono.is1
        · kernel_rfl
        · intro W hW f0
          obtain ⟨A1, n1, c1, rfl, hs⟩ := f0
          have cv := run_string_SB (P := Try.prog) Try.underlying23 Try.underlying5 Try.underlying9 hs
          go_wp2
          refine ⟨rfl, rfl, Grows.refl _, ?_⟩
          unfold Oper.valAt
          go_simp
          rfl
        intro k1 a1 hk1 ha1
        simp only [Nat.reduceAdd] at hk1
        simp only [Act.put, List.setIfInBounds_toArray, List.set_cons_succ, List.set_cons_zero] at ha1
        subst hk1 ha1
        iterate 2
          apply Mono.is0
          · kernel_rfl
          · intro W hW
            go_wp2
            refine ⟨rfl, rfl, Grows.refl _, ?_⟩
            unfold Oper.valAt
            go_simp
            rfl
          intro k1 a1 hk1 ha1
          simp only [Nat.reduceAdd] at hk1
          simp only [Act.put, List.setIfInBounds_toArray, List.set_cons_succ, List.set_cons_zero] at ha1
          subst hk1 ha1
        apply Mono.is0
        · kernel_rfl
        · intro W hW 
          go_wp2_with (refine wpList_load_blk (by kernel_rfl) _ _ rfl (g5) rfl 24 ((k1).map b8).toArray _ (HF4.out.grows hW) Try.underlying24 rfl (by rw [Try.size16]; simp [k1l.out]) ?_)
          exact ⟨rfl, rfl, Grows.refl _, rfl⟩
        intro k1 a1 hk1 ha1
        simp only [Nat.reduceAdd] at hk1
        simp only [Act.put, List.setIfInBounds_toArray, List.set_cons_succ, List.set_cons_zero] at ha1
        subst hk1 ha1
        apply Mono.is0
        · kernel_rfl
        · intro W hW 
          go_wp2_with fail
          refine (HC0.out W).mono ?_
          rintro e w1 ⟨rfl, hg1⟩
          go_wp2
          exact ⟨rfl, rfl, hg1, rfl⟩
        intro k1 a1 hk1 ha1
        simp only [Nat.reduceAdd] at hk1
        simp only [Act.put, List.setIfInBounds_toArray, List.set_cons_succ, List.set_cons_zero] at ha1
        subst hk1 ha1
        apply Mono.is0
        · kernel_rfl
        · intro W hW 
          go_wp2_with (refine wpList_load_blk (by kernel_rfl) _ _ rfl (g5) rfl 24 ((k1).map b8).toArray _ (HF4.out.grows hW) Try.underlying24 rfl (by rw [Try.size16]; simp [k1l.out]) ?_)
          exact ⟨rfl, rfl, Grows.refl _, rfl⟩
        intro k1 a1 hk1 ha1
        simp only [Nat.reduceAdd] at hk1
        simp only [Act.put, List.setIfInBounds_toArray, List.set_cons_succ, List.set_cons_zero] at ha1
        subst hk1 ha1
        apply Mono.is0
        · kernel_rfl
        · intro W hW 
          go_wp2_with fail
          refine (HC1.out W).mono ?_
          rintro e w1 ⟨rfl, hg1⟩
          go_wp2
          exact ⟨rfl, rfl, hg1, rfl⟩
        intro k1 a1 hk1 ha1
        simp only [Nat.reduceAdd] at hk1
        simp only [Act.put, List.setIfInBounds_toArray, List.set_cons_succ, List.set_cons_zero] at ha1
        subst hk1 ha1
        apply Mono.is0
        · kernel_rfl
        · intro W hW 
          have he : (Op.equalIn 10000 24 (.agg ((cl).map b8).toArray) (.agg ((cl).map b8).toArray)).run Try.prog W = .ok true W := (run_equalIn_bytes W 9998 24 5 16 (cl) (cl) cll.out cll.out Try.arr16 Try.underlying5 Try.sizeByte).trans (by rw [beq_self_eq_true])
          go_wp2
          refine ⟨rfl, rfl, Grows.refl _, ?_⟩
          unfold Oper.valAt
          go_simp
        intro k1 a1 hk1 ha1
        simp only [Nat.reduceAdd] at hk1
        simp only [Act.put, List.setIfInBounds_toArray, List.set_cons_succ, List.set_cons_zero] at ha1
        subst hk1 ha1
        iterate 2
          apply Mono.is0
          · kernel_rfl
          · intro W hW
            go_wp2
            refine ⟨rfl, rfl, Grows.refl _, ?_⟩
            unfold Oper.valAt
            go_simp
            rfl
          intro k1 a1 hk1 ha1
          simp only [Nat.reduceAdd] at hk1
          simp only [Act.put, List.setIfInBounds_toArray, List.set_cons_succ, List.set_cons_zero] at ha1
          subst hk1 ha1
        apply Mono.is0
        · kernel_rfl
        · intro W hW 
          go_wp2_with fail
          refine (awake5_any W).mono ?_
          rintro e w1 ⟨rfl, hg1⟩
          go_wp2
          exact ⟨rfl, rfl, hg1, rfl⟩
        intro k1 a1 hk1 ha1
        simp only [Nat.reduceAdd] at hk1
        simp only [Act.put, List.setIfInBounds_toArray, List.set_cons_succ, List.set_cons_zero] at ha1
        subst hk1 ha1
        iterate 2
          apply Mono.is0
          · kernel_rfl
          · intro W hW
            go_wp2
            refine ⟨rfl, rfl, Grows.refl _, ?_⟩
            unfold Oper.valAt
            go_simp
            rfl
          intro k1 a1 hk1 ha1
          simp only [Nat.reduceAdd] at hk1
          simp only [Act.put, List.setIfInBounds_toArray, List.set_cons_succ, List.set_cons_zero] at ha1
          subst hk1 ha1
        refine Mono.done ?_
        intro wm hgm
        simp only [allF, List.drop_succ_cons, List.drop_nil]
        intro g4
        go_wp2
        go_ret
        exact ⟨rfl, hgw.trans hgm⟩

end Go.Proofs.Ytilgkadochhkjaa
