/-
  The walks of the laws of layer 5: PolyShift.
-/
import Derived.Test.YtilgkadochhkjaaLaw5a
import Derived.Test.YtilgkadochhkjaaMonoF
import Derived.Deep.Cut
namespace Go.Proofs.Ytilgkadochhkjaa
open Go Go.RowKit
set_option linter.unusedSimpArgs false


theorem wrap64_u8 (x : UInt8) : wrap64 (x.toNat : Int) = (x.toNat : Int) := by have := u8_lt x; unfold wrap64; omega
theorem shift_step (sa sb key : List UInt8) (i cy : Nat) (x y z : UInt8) (sal : sa.length = 16) (sbl : sb.length = 16) (keyl : key.length = 32) (hi : i < 16) (hs : leN sa = (leN sb + leN (key.drop 16)) % 340282366920938463463374607431768211456)
    (hx : sb.getD i 0 = x) (hy : key.getD (16 + i) 0 = y) (hz : sa.getD i 0 = z) (hc : cy = (leN sb % 256 ^ i + leN (key.drop 16) % 256 ^ i) / 256 ^ i) :
    (x.toNat + y.toNat + cy) % 256 = z.toNat ∧ (x.toNat + y.toNat + cy) / 256 = (leN sb % 256 ^ (i + 1) + leN (key.drop 16) % 256 ^ (i + 1)) / 256 ^ (i + 1) := by
  have kd : (key.drop 16).length = 16 := by rw [List.length_drop, keyl]
  have e1 := leN_digit sb i (by omega)
  have e2 := leN_digit (key.drop 16) i (by omega)
  have e3 := leN_digit sa i (by omega)
  have f1 : sb[i] = x := by rw [← hx, List.getD_eq_getElem?_getD, List.getElem?_eq_getElem (by omega)]; rfl
  have f2 : (key.drop 16)[i] = y := by rw [← hy, ← getD_drop, List.getD_eq_getElem?_getD, List.getElem?_eq_getElem (by omega)]; rfl
  have f3 : sa[i] = z := by rw [← hz, List.getD_eq_getElem?_getD, List.getElem?_eq_getElem (by omega)]; rfl
  rw [f1] at e1
  rw [f2] at e2
  rw [f3, hs, mod_digit _ _ hi] at e3
  have d := carry_digit (leN sb) (leN (key.drop 16)) (256 ^ i) (Nat.pow_pos (by decide))
  rw [e1, e2, ← hc, e3] at d
  rw [Nat.pow_succ]
  exact ⟨d.1.symm, d.2.symm⟩

set_option maxRecDepth 100000 in
set_option maxHeartbeats 4000000 in
theorem walk_PolyShift (key : List UInt8) (A : Option Addr) (l c : Nat) (bs : List UInt8) (w : World) (hk : key.length = 32) (hs : SB w A l c bs) :
    Calls Try.prog 6 #[.agg (key.map b8).toArray, .slice A l c] w fun e w' => e = .returned (.bool true) ∧ Below w.heap.size w w' := by
  have hlen := lib_hid hs.len
  by_cases hbig : 600 < l
  · have h1 : (600 : Int) < l := by omega
    clear hs hk
    go_enter Try.func6, Try.ntmps6
    go_wp2
    go_ret
    exact ⟨rfl, (Grows.refl w).alloc _⟩
  · have h1 : ¬ (600 : Int) < l := by omega
    obtain ⟨W0, HW0, hg0⟩ : ∃ W0 : World, Hid (W0 = w.alloc (.cells (key.map b8).toArray 22)) ∧ Grows w W0 := ⟨_, lib_hid rfl, (Grows.refl w).alloc _⟩
    have HK0 : Hid (Blk W0 w.heap.size 22 (key.map b8).toArray) := by unfold Hid; rw [HW0.out]; exact Blk.new _ _ _
    have keyl := lib_hid hk
    obtain ⟨pl, Hpl, pll⟩ : ∃ x, Hid (key.take 16 ++ (List.replicate 16 (0 : UInt8)) = x) ∧ Hid (x.length = 32) := ⟨_, lib_hid rfl, by unfold Hid; rw [List.length_append, List.length_take, hk]; rfl⟩
    obtain ⟨sa, Hsa, sal⟩ : ∃ x, Hid (polyF key bs = x) ∧ Hid (x.length = 16) := ⟨_, lib_hid rfl, polyF_len _ _⟩
    obtain ⟨sb, Hsb, sbl⟩ : ∃ x, Hid (polyF pl bs = x) ∧ Hid (x.length = 16) := ⟨_, lib_hid rfl, polyF_len _ _⟩
    have Hsh : Hid (leN sa = (leN sb + leN (key.drop 16)) % 340282366920938463463374607431768211456) := by
      unfold Hid; rw [← Hsa.out, ← Hsb.out, ← Hpl.out]; exact poly_shift key bs hk
    have HsK : Hid (∀ W, SB W A l c bs → Calls Try.prog 9 #[.agg (key.map b8).toArray, .slice A l c] W fun e w' => e = .returned (.agg (sa.map b8).toArray) ∧ Grows W w') := fun W h => by
      have := poly_any key bs hk A l c W h (by omega)
      rw [Hsa.out] at this; exact this
    have HsP : Hid (∀ W, SB W A l c bs → Calls Try.prog 9 #[.agg (pl.map b8).toArray, .slice A l c] W fun e w' => e = .returned (.agg (sb.map b8).toArray) ∧ Grows W w') := fun W h => by
      have := poly_any pl bs pll.out A l c W h (by omega)
      rw [Hsb.out] at this; exact this
    obtain ⟨T, HT⟩ : ∃ x, Hid (leN sb = x) := ⟨_, lib_hid rfl⟩
    obtain ⟨Kn, HKn⟩ : ∃ x, Hid (leN (key.drop 16) = x) := ⟨_, lib_hid rfl⟩
    obtain ⟨va, Hva, hval, hvaa⟩ : ∃ r : Array Value, Hid ((sa.map b8).toArray = r) ∧ r.size = 16 ∧ r.all (·.oneCell') = true := ⟨_, lib_hid rfl, by simp [sal.out], cells_all _⟩
    obtain ⟨vb, Hvb, hvbl, hvba⟩ : ∃ r : Array Value, Hid ((sb.map b8).toArray = r) ∧ r.size = 16 ∧ r.all (·.oneCell') = true := ⟨_, lib_hid rfl, by simp [sbl.out], cells_all _⟩
    obtain ⟨resk, Hresk, hrkl, hrka⟩ : ∃ r : Array Value, Hid ((key.map b8).toArray = r) ∧ r.size = 32 ∧ r.all (·.oneCell') = true := ⟨_, lib_hid rfl, by simp [hk], cells_all _⟩
    have HKr0 : Hid (Blk W0 w.heap.size 22 resk) := by unfold Hid; rw [← Hresk.out]; exact HK0.out
    have HS0 := lib_hid (hs.grows hg0)
    have HW0' := HW0.out
    clear hs hk
    go_enter Try.func6, Try.ntmps6
    go_upto_region 3 with fail
    rw [← HW0']
    clear HW0'
    obtain ⟨g5, Hg5⟩ : ∃ x, Hid (W0.heap.size = x) := ⟨_, lib_hid rfl⟩
    go_upto_region 4 with (first
      | (refine wpList_load_blk rfl _ _ rfl w.heap.size rfl 22 resk _ HKr0.out Try.underlying22 rfl (by rw [Try.size32k, hrkl]) ?_)
      | (refine wpList_store_blk rfl _ _ _ rfl W0.heap.size resk rfl rfl 22 _ (Blk.new _ _ _) (by rw [Try.size32k, hrkl]) (by simp [hrkl]) hrka W0.heap.size W0 ((Grows.refl W0).alloc _) (Nat.le_refl _) ?_; intro w4 H4 hb4 hgr4))
    rw [Hg5.out] at H4
    rw [Hg5.out]
    have hg04 : Grows W0 w4 := hb4
    have S_p : Hid (Blk w4 g5 22 ((mixL 16 pl key).map b8).toArray) := by
      unfold Hid
      have e : mixL 16 pl key = key := by
        rw [← Hpl.out]; unfold mixL
        rw [List.take_left' (by rw [List.length_take, keyl.out]; rfl), List.take_append_drop]
      rw [e, Hresk.out]; exact H4
    clear HKr0 H4 hb4 hgr4
    go_wp2_with fail
    go_loopw [6] (fun v wr => ∃ k : Nat, 16 ≤ k ∧ k ≤ 32 ∧ v = .int .i64 (k : Int) ∧ Grows W0 wr ∧ Hid (Blk wr (g5) 22 ((mixL k pl key).map b8).toArray)) (fun v _ => 32 - (intOf v).toNat)
    case atStart => exact ⟨16, Nat.le_refl _, by omega, rfl, hg04, S_p⟩
    case round =>
      clear S_p
      obtain ⟨k, hk0, hk, rfl, hgr, X_p⟩ := hrel
      by_cases hlt : k < 32
      · have hki : (k : Int) < 32 := by omega
        have co_p := cell8 X_p.out k (by rw [mixL_len _ _ _ (by rw [pll.out, keyl.out])]; rw [keyl.out]; omega)
        have fo_p := X_p.out.frozen k
        obtain ⟨w2, Hw2⟩ : ∃ X : World, Hid (X = wr.setCell ⟨g5, k, none⟩ (.int .u8 0)) := ⟨_, lib_hid rfl⟩
        have hgr2 : Grows W0 w2 := by
          rw [Hw2.out]
          exact hgr.setCell (p := ⟨g5, k, none⟩) (by show W0.heap.size ≤ g5; rw [← Hg5.out]; exact Nat.le_refl _) _
        have Y_p : Hid (Blk w2 (g5) 22 ((mixL (k + 1) pl key).map b8).toArray) := by
          unfold Hid; rw [Hw2.out, ← mixL_set k pl key (by rw [pll.out, keyl.out]) (by rw [keyl.out]; omega), show (pl).getD k 0 = 0 by rw [← Hpl.out, getD_right _ _ _ (by rw [List.length_take, keyl.out]; omega), getD_zeros]]
          exact (blk_set8 X_p.out k 0)
        have Hw2' := Hw2.out
        clear X_p hgr
        go_wp2_with fail
        rw [← Hw2']
        clear Hw2'
        go_roundw
        case rel => exact ⟨k + 1, by omega, by omega, by go_num, hgr2, Y_p⟩
        case measure => simp [intOf]; omega
      · have Hk : Hid (k = 32) := by unfold Hid; omega
        have HPr : Hid (Blk wr g5 22 (pl.map b8).toArray) := by
          have := X_p; rw [Hk.out, mixL_all 32 pl key (by rw [pll.out, keyl.out]) (by rw [keyl.out]; omega)] at this; exact this
        have HKr : Hid (Blk wr w.heap.size 22 (key.map b8).toArray) := HK0.out.grows hgr
        have HSr : Hid (SB wr A l c bs) := HS0.out.grows hgr
        have hgwr := hg0.trans hgr
        have hg5r : g5 < wr.heap.size := HPr.out.lt
        clear X_p hgr
        obtain ⟨wo, ewo⟩ : ∃ wo : World, wo = wr := ⟨_, rfl⟩
        subst ewo
        go_upto_region 8 with fail
        apply wp_region_monoF [6, 7] Grows grows_rel (fun _ _ h => Grows.le h) 8 ((.is (.agg ((key).map b8).toArray), []) :: (.is _, []) :: (.is (.agg ((sa).map b8).toArray), []) :: (.is (.agg ((pl).map b8).toArray), []) :: (.is _, []) :: (.is (.agg ((sb).map b8).toArray), []) :: (.pr (fun v W => ∃ b, v = .pointer (some ⟨b, 0, none⟩) ∧ wo.heap.size ≤ b ∧ Blk W b 24 #[.int .u8 0, .int .u8 0, .int .u8 0, .int .u8 0, .int .u8 0, .int .u8 0, .int .u8 0, .int .u8 0, .int .u8 0, .int .u8 0, .int .u8 0, .int .u8 0, .int .u8 0, .int .u8 0, .int .u8 0, .int .u8 0]), []) :: (.pr (fun v W => ∃ b, v = .pointer (some ⟨b, 0, none⟩) ∧ wo.heap.size ≤ b ∧ Blk W b 24 #[.int .u8 0, .int .u8 0, .int .u8 0, .int .u8 0, .int .u8 0, .int .u8 0, .int .u8 0, .int .u8 0, .int .u8 0, .int .u8 0, .int .u8 0, .int .u8 0, .int .u8 0, .int .u8 0, .int .u8 0, .int .u8 0]), []) :: []) (by kernel_rfl) (by kernel_rfl)
        apply MonoF.is0
        · kernel_rfl
        · rfl
        · intro W hW 
          go_wp2_with (refine wpList_load_blk (by kernel_rfl) _ _ rfl (w.heap.size) rfl 22 ((key).map b8).toArray _ (HKr.out.grows hW) Try.underlying22 rfl (by rw [Try.size32k]; simp [keyl.out]) ?_)
          exact ⟨rfl, rfl, Grows.refl _, rfl⟩
        intro k1 a1 hk1 ha1
        simp only [Nat.reduceAdd] at hk1
        simp only [Act.put, List.setIfInBounds_toArray, List.set_cons_succ, List.set_cons_zero] at ha1
        subst hk1 ha1
        apply MonoF.is0
        · kernel_rfl
        · rfl
        · intro W hW
          go_wp2
          refine ⟨rfl, rfl, Grows.refl _, ?_⟩
          unfold Oper.valAt
          go_simp
          rfl
        intro k1 a1 hk1 ha1
        simp only [Nat.reduceAdd] at hk1
        simp only [Act.put, List.setIfInBounds_toArray, List.set_cons_succ, List.set_cons_zero] at ha1
        subst hk1 ha1
        apply MonoF.is0
        · kernel_rfl
        · rfl
        · intro W hW 
          go_wp2_with fail
          refine (HsK.out W (HSr.out.grows hW)).mono ?_
          rintro e w1 ⟨rfl, hg1⟩
          go_wp2
          exact ⟨rfl, rfl, hg1, rfl⟩
        intro k1 a1 hk1 ha1
        simp only [Nat.reduceAdd] at hk1
        simp only [Act.put, List.setIfInBounds_toArray, List.set_cons_succ, List.set_cons_zero] at ha1
        subst hk1 ha1
        apply MonoF.is0
        · kernel_rfl
        · rfl
        · intro W hW 
          go_wp2_with (refine wpList_load_blk (by kernel_rfl) _ _ rfl (g5) rfl 22 ((pl).map b8).toArray _ (HPr.out.grows hW) Try.underlying22 rfl (by rw [Try.size32k]; simp [pll.out]) ?_)
          exact ⟨rfl, rfl, Grows.refl _, rfl⟩
        intro k1 a1 hk1 ha1
        simp only [Nat.reduceAdd] at hk1
        simp only [Act.put, List.setIfInBounds_toArray, List.set_cons_succ, List.set_cons_zero] at ha1
        subst hk1 ha1
        apply MonoF.is0
        · kernel_rfl
        · rfl
        · intro W hW
          go_wp2
          refine ⟨rfl, rfl, Grows.refl _, ?_⟩
          unfold Oper.valAt
          go_simp
          rfl
        intro k1 a1 hk1 ha1
        simp only [Nat.reduceAdd] at hk1
        simp only [Act.put, List.setIfInBounds_toArray, List.set_cons_succ, List.set_cons_zero] at ha1
        subst hk1 ha1
        apply MonoF.is0
        · kernel_rfl
        · rfl
        · intro W hW 
          go_wp2_with fail
          refine (HsP.out W (HSr.out.grows hW)).mono ?_
          rintro e w1 ⟨rfl, hg1⟩
          go_wp2
          exact ⟨rfl, rfl, hg1, rfl⟩
        intro k1 a1 hk1 ha1
        simp only [Nat.reduceAdd] at hk1
        simp only [Act.put, List.setIfInBounds_toArray, List.set_cons_succ, List.set_cons_zero] at ha1
        subst hk1 ha1
        apply MonoF.new0
        · kernel_rfl
        · rfl
        · exact fun v W W' hW ⟨b, h1, h2, h3⟩ => ⟨b, h1, h2, h3.grows hW⟩
        · intro W hW 
          have hle := hW.le
          go_wp2
          exact ⟨rfl, rfl, (Grows.refl _).alloc _, ⟨_, rfl, hle, Blk.new _ _ _⟩, ⟨_, rfl, Nat.le_refl _, by simp⟩⟩
        intro v6
        intro k1 a1 hk1 ha1
        simp only [Nat.reduceAdd] at hk1
        simp only [Act.put, List.setIfInBounds_toArray, List.set_cons_succ, List.set_cons_zero] at ha1
        subst hk1 ha1
        apply MonoF.new0
        · kernel_rfl
        · rfl
        · exact fun v W W' hW ⟨b, h1, h2, h3⟩ => ⟨b, h1, h2, h3.grows hW⟩
        · intro W hW 
          have hle := hW.le
          go_wp2
          exact ⟨rfl, rfl, (Grows.refl _).alloc _, ⟨_, rfl, hle, Blk.new _ _ _⟩, ⟨_, rfl, Nat.le_refl _, by simp⟩⟩
        intro v7
        intro k1 a1 hk1 ha1
        simp only [Nat.reduceAdd] at hk1
        simp only [Act.put, List.setIfInBounds_toArray, List.set_cons_succ, List.set_cons_zero] at ha1
        subst hk1 ha1
        refine MonoF.done ?_
        intro wm hgm hap
        simp only [allF, List.drop_succ_cons, List.drop_zero]
        intro gy7 gy6
        obtain ⟨g7, rfl, hl7, hb7⟩ := gy6
        obtain ⟨g8, rfl, hl8, hb8⟩ := gy7
        have hne : g8 ≠ g7 := fun e => hap.1 _ (List.mem_singleton.2 rfl) (by rw [e])
        clear hap
        have HBA := lib_hid hb7
        have HBB := lib_hid hb8
        have HK1 := lib_hid (HKr.out.grows hgm)
        have hgw := hgwr.trans hgm
        have hlt0 := HKr.out.lt
        rw [Hva.out, Hvb.out]
        clear hb7 hb8
        go_upto_region 9 with (first
          | (refine wpList_store_blk rfl _ _ _ rfl g7 va rfl rfl 24 _ HBA.out (by rw [Try.size16, hval]) (by simp [hval]) hvaa g7 wm (Below.refl _ _) (Nat.le_refl _) ?_; intro w5 H5 hb5 hg5)
          | (refine wpList_store_blk rfl _ _ _ rfl g8 vb rfl rfl 24 _ (HBB.out.grown hg5 (fun e => hne (Option.some.inj e))) (by rw [Try.size16, hvbl]) (by simp [hvbl]) hvba g8 w5 (Below.refl _ _) (Nat.le_refl _) ?_; intro w6 H7 hb7 hg7))
        have HB7 : Hid (Blk w6 g7 24 (sa.map b8).toArray) := by unfold Hid; rw [Hva.out]; exact H5.grown hg7 (fun e => hne (Option.some.inj e).symm)
        have HB8 : Hid (Blk w6 g8 24 (sb.map b8).toArray) := by unfold Hid; rw [Hvb.out]; exact H7
        have HK6 : Hid (Blk w6 w.heap.size 22 (key.map b8).toArray) := (HK1.out.grown hg5 (fun e => by have := Option.some.inj e; omega)).grown hg7 (fun e => by have := Option.some.inj e; omega)
        have hw7 : w.heap.size ≤ g7 := by omega
        have hw8 : w.heap.size ≤ g8 := by omega
        have hgw6 : Grows w w6 := (hgw.grown hg5 (fun k e => by have := Option.some.inj e; omega)).grown hg7 (fun k e => by have := Option.some.inj e; omega)
        clear H5 H7 hb5 hb7 hg5 hg7 hgw HBA HBB HK1 hgm hgwr HPr HKr HSr HsK HsP
        clear hl7 hl8 hlt0 hw7 hw8 hg5r hne hbig h1
        go_wp2_with fail
        go_loopw [9, 10, 11] (fun cv iv _ wr => ∃ i cy : Nat, i ≤ 16 ∧ iv = .int .i64 (i : Int) ∧ cv = .int .i64 (cy : Int) ∧ cy ≤ 1 ∧ Hid (cy = (T % 256 ^ i + Kn % 256 ^ i) / 256 ^ i) ∧ Grows w6 wr) (fun _ iv _ _ => 16 - (intOf iv).toNat)
        case atStart => exact ⟨0, 0, by omega, rfl, rfl, by omega, lib_hid (by simp [Nat.mod_one]), Grows.refl _⟩
        case round =>
          obtain ⟨i, cy, hi, rfl, rfl, hcy, Hcy, hgr⟩ := hrel
          by_cases hlt : i < 16
          · have hki : (i : Int) < 16 := by omega
            obtain ⟨x, Hx⟩ : ∃ x, Hid (sb.getD i 0 = x) := ⟨_, lib_hid rfl⟩
            obtain ⟨y, Hy⟩ : ∃ x, Hid (key.getD (16 + i) 0 = x) := ⟨_, lib_hid rfl⟩
            obtain ⟨z, Hz⟩ : ∃ x, Hid (sa.getD i 0 = x) := ⟨_, lib_hid rfl⟩
            have q8 : Hid (∀ W, Grows wr W → W.cell? ⟨g8, i, none⟩ = some (b8 x)) := fun W hW => by rw [← Hx.out]; exact cell8 (HB8.out.grows (hgr.trans hW)) _ (by rw [sbl.out]; exact hlt)
            have q7 : Hid (∀ W, Grows wr W → W.cell? ⟨g7, i, none⟩ = some (b8 z)) := fun W hW => by rw [← Hz.out]; exact cell8 (HB7.out.grows (hgr.trans hW)) _ (by rw [sal.out]; exact hlt)
            have qk : Hid (∀ W, Grows wr W → W.cell? ⟨w.heap.size, 16 + i, none⟩ = some (b8 y)) := fun W hW => by rw [← Hy.out]; exact cell8 (HK6.out.grows (hgr.trans hW)) _ (by rw [keyl.out]; omega)
            have hx := u8_lt x
            have hy := u8_lt y
            obtain ⟨n1, Hn1, hn1, hn1b⟩ : ∃ n : Nat, Hid (x.toNat + y.toNat = n) ∧ (x.toNat : Int) + (y.toNat : Int) = (n : Int) ∧ n ≤ 510 := ⟨_, lib_hid rfl, by omega, by omega⟩
            obtain ⟨n2, Hn2, hn2, hn2b⟩ : ∃ n : Nat, Hid (n1 + cy = n) ∧ (n1 : Int) + (cy : Int) = (n : Int) ∧ n ≤ 511 := ⟨_, lib_hid rfl, by omega, by omega⟩
            have Hd := lib_hid (shift_step sa sb key i cy x y z sal.out sbl.out keyl.out hlt Hsh.out Hx.out Hy.out Hz.out (by rw [← HT.out, ← HKn.out] at Hcy; exact Hcy.out))
            have hz : IntKind.u8.wrap ((n2 : Int) % 256) = (z.toNat : Int) := by
              have h1 : n2 % 256 = z.toNat := by rw [← Hn2.out, ← Hn1.out]; exact Hd.out.1
              have h2 := u8_lt z
              rw [IntKind.wrap_u8]
              omega
            have hzt : (n2 : Int).tmod 256 = (n2 : Int) % 256 := Int.tmod_eq_emod_of_nonneg (by omega)
            obtain ⟨c2, Hc2, hc2, hc2b, hc2t⟩ : ∃ c : Nat, Hid (n2 / 256 = c) ∧ (n2 : Int) / 256 = (c : Int) ∧ c ≤ 1 ∧ (n2 : Int).tdiv 256 = (c : Int) := ⟨_, lib_hid rfl, by omega, by omega, by rw [Int.tdiv_eq_ediv_of_nonneg (by omega)]; omega⟩
            have Hc2b := lib_hid hc2b
            have Hcy2 : Hid (c2 = (T % 256 ^ (i + 1) + Kn % 256 ^ (i + 1)) / 256 ^ (i + 1)) := by
              have h1 := Hd.out.2
              unfold Hid
              rw [← Hc2.out, ← Hn2.out, ← Hn1.out, h1, HT.out, HKn.out]
            have HZ := lib_hid (And.intro hz (And.intro hzt (And.intro hc2 hc2t)))
            clear Hcy hz hzt hc2 hc2t
            have hxi : (x.toNat : Int) < 256 := by omega
            have hyi : (y.toNat : Int) < 256 := by omega
            go_upto_region 13 with fail
            apply wp_region_mono 12 ((.is _, []) :: (.is _, []) :: (.is _, []) :: (.is _, []) :: (.is _, []) :: (.is _, []) :: (.is _, []) :: (.is _, []) :: (.is _, []) :: (.is _, []) :: (.is _, []) :: (.is _, []) :: []) (by kernel_rfl) (by kernel_rfl)
            iterate 2
              apply Mono.is0
              · kernel_rfl
              · intro W hW
                go_wp2
                refine ⟨rfl, rfl, Grows.refl _, ?_⟩
                unfold Oper.valAt
                go_simp
                rfl
              intro k1 a1 hk1 ha1
              simp only [Nat.reduceAdd] at hk1
              simp only [Act.put, List.setIfInBounds_toArray, List.set_cons_succ, List.set_cons_zero] at ha1
              subst hk1 ha1
            apply Mono.is0
            · kernel_rfl
            · intro W hW
              have q8 := q8.out W hW
              go_wp2
              refine ⟨rfl, rfl, Grows.refl _, ?_⟩
              unfold Oper.valAt
              go_simp
              rfl
            intro k1 a1 hk1 ha1
            simp only [Nat.reduceAdd] at hk1
            simp only [Act.put, List.setIfInBounds_toArray, List.set_cons_succ, List.set_cons_zero] at ha1
            subst hk1 ha1
            iterate 3
              apply Mono.is0
              · kernel_rfl
              · intro W hW
                go_wp2
                refine ⟨rfl, rfl, Grows.refl _, ?_⟩
                unfold Oper.valAt
                go_simp
                rfl
              intro k1 a1 hk1 ha1
              simp only [Nat.reduceAdd] at hk1
              simp only [Act.put, List.setIfInBounds_toArray, List.set_cons_succ, List.set_cons_zero] at ha1
              subst hk1 ha1
            apply Mono.is0
            · kernel_rfl
            · intro W hW
              have hki := hki
              go_wp2
              refine ⟨rfl, rfl, Grows.refl _, ?_⟩
              unfold Oper.valAt
              go_simp
              rfl
            intro k1 a1 hk1 ha1
            simp only [Nat.reduceAdd] at hk1
            simp only [Act.put, List.setIfInBounds_toArray, List.set_cons_succ, List.set_cons_zero] at ha1
            subst hk1 ha1
            apply Mono.is0
            · kernel_rfl
            · intro W hW
              have qk := qk.out W hW
              go_wp2
              refine ⟨rfl, rfl, Grows.refl _, ?_⟩
              unfold Oper.valAt
              go_simp
              rfl
            intro k1 a1 hk1 ha1
            simp only [Nat.reduceAdd] at hk1
            simp only [Act.put, List.setIfInBounds_toArray, List.set_cons_succ, List.set_cons_zero] at ha1
            subst hk1 ha1
            apply Mono.is0
            · kernel_rfl
            · intro W hW
              go_wp2
              refine ⟨rfl, rfl, Grows.refl _, ?_⟩
              unfold Oper.valAt
              go_simp
              rfl
            intro k1 a1 hk1 ha1
            simp only [Nat.reduceAdd] at hk1
            simp only [Act.put, List.setIfInBounds_toArray, List.set_cons_succ, List.set_cons_zero] at ha1
            subst hk1 ha1
            apply Mono.is0
            · kernel_rfl
            · intro W hW
              have hn1 := hn1
              go_wp2
              refine ⟨rfl, rfl, Grows.refl _, ?_⟩
              unfold Oper.valAt
              go_simp
              rfl
            intro k1 a1 hk1 ha1
            simp only [Nat.reduceAdd] at hk1
            simp only [Act.put, List.setIfInBounds_toArray, List.set_cons_succ, List.set_cons_zero] at ha1
            subst hk1 ha1
            apply Mono.is0
            · kernel_rfl
            · intro W hW
              go_wp2
              refine ⟨rfl, rfl, Grows.refl _, ?_⟩
              unfold Oper.valAt
              go_simp
              rfl
            intro k1 a1 hk1 ha1
            simp only [Nat.reduceAdd] at hk1
            simp only [Act.put, List.setIfInBounds_toArray, List.set_cons_succ, List.set_cons_zero] at ha1
            subst hk1 ha1
            apply Mono.is0
            · kernel_rfl
            · intro W hW
              have hn2 := hn2
              go_wp2
              refine ⟨rfl, rfl, Grows.refl _, ?_⟩
              unfold Oper.valAt
              go_simp
              rfl
            intro k1 a1 hk1 ha1
            simp only [Nat.reduceAdd] at hk1
            simp only [Act.put, List.setIfInBounds_toArray, List.set_cons_succ, List.set_cons_zero] at ha1
            subst hk1 ha1
            refine Mono.done ?_
            intro wm hgm
            simp only [allF, List.drop_succ_cons, List.drop_zero]
            have qz := q7.out wm hgm
            have hgr2 := hgr.trans hgm
            obtain ⟨hz, hzt, hc2, hc2t⟩ := HZ.out
            clear q8 q7 qk hgm hn1 hn2 hxi hyi hx hy
            go_wp2
            all_goals try (exfalso; omega)
            go_roundw
            case rel => exact ⟨i + 1, c2, by omega, by go_num, rfl, Hc2b.out, Hcy2, hgr2⟩
            case measure => simp [intOf]; omega
          · have hgw7 := hgw6.trans hgr
            clear HK6 HB7 HB8
            go_wp2_with fail
            refine (awake5_any wr).mono ?_
            rintro e w9 ⟨rfl, hg9⟩
            go_wp2
            go_ret
            exact ⟨rfl, hgw7.trans hg9⟩

end Go.Proofs.Ytilgkadochhkjaa
