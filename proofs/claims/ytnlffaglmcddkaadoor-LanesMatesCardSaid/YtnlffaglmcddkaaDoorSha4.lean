/-
  The walks of sha.Out and sha.Pad.
-/
import Derived.Test.YtnlffaglmcddkaaDoorSha3
import Derived.Test.YtnlffaglmcddkaaDoorBits2
import Derived.Test.YtnlffaglmcddkaaDoorCopyG
import Derived.Deep.Cut
import Derived.BigRegion
import Derived.RegionTactic
import Derived.Outline
import Derived.Great.BuildSlice
namespace Go.Proofs.YtnlffaglmcddkaaDoor
open Go Go.RowKit
set_option linter.unusedSimpArgs false


attribute [local irreducible] schedF moreW firstW blockF roundsF sumsF
/-- The bytes of a state, k words of it. -/
def outW (ws : List UInt32) : Nat → List UInt8
  | 0 => List.replicate 32 0
  | k + 1 => splice (outW ws k) (4 * k) (putBigF (ws.getD k 0).toUInt64 4)
theorem putBigF4 (x : UInt64) : (putBigF x 4).length = 4 := by simp [putBigF, putLittleF]
theorem outW_len (ws : List UInt32) (k : Nat) (hk : k ≤ 8) : (outW ws k).length = 32 := by
  induction k with
  | zero => rfl
  | succ k ih => rw [outW]; simp [splice, ih (by omega), putBigF4]; omega
theorem outW_zero (ws : List UInt32) : outW ws 0 = List.replicate 32 0 := rfl
def outF (h : V8) : List UInt8 := outW h.list 8
theorem outF_len (h : V8) : (outF h).length = 32 := outW_len _ 8 (by omega)
theorem outF_of (h : V8) (ws : List UInt32) (hw : h.list = ws) (k : Nat) (hk : k = 8) : outF h = outW ws k := by subst hw hk; rfl
theorem Tryd.size32B : (Tryd.prog.info? 32).map (·.size) = some 32 := by kernel_rfl
theorem Tryd.arr8 : Tryd.prog.underlying 51 = some (.array 8 50) := by kernel_rfl
attribute [local irreducible] outW outF

set_option maxRecDepth 100000 in
set_option maxHeartbeats 4000000 in
theorem out_any (h : V8) (w : World) :
    Calls Tryd.prog 25 #[.agg h.vals] w fun e w' => e = .returned (.agg ((outF h).map b8).toArray) ∧ Grows w w' := by
  obtain ⟨ws, Hws, Hwl⟩ : ∃ ws, Hid (h.list = ws) ∧ Hid (ws.length = 8) := ⟨_, lib_hid rfl, lib_hid rfl⟩
  have Hres : Hid (∀ k, k = 8 → outF h = outW ws k) := outF_of h ws Hws.out
  obtain ⟨rs, Hrs, hrl, hra⟩ : ∃ rs : Array Value, Hid (((outF h).map b8).toArray = rs) ∧ rs.size = 32 ∧ rs.all (·.oneCell') = true := ⟨_, lib_hid rfl, by simp [outF_len], cells_all _⟩
  have Hres2 : Hid (∀ k, k = 8 → ((outW ws k).map b8).toArray = rs) := fun k hk => by rw [← Hres.out k hk]; exact Hrs
  have Hrl := lib_hid (And.intro hrl hra)
  rw [show h.vals = (ws.map b32).toArray by rw [← Hws.out]; rfl, Hrs.out]
  clear Hrs Hres Hws hrl hra
  have Hz : Hid (#[.int .u8 0, .int .u8 0, .int .u8 0, .int .u8 0, .int .u8 0, .int .u8 0, .int .u8 0, .int .u8 0, .int .u8 0, .int .u8 0, .int .u8 0, .int .u8 0, .int .u8 0, .int .u8 0, .int .u8 0, .int .u8 0, .int .u8 0, .int .u8 0, .int .u8 0, .int .u8 0, .int .u8 0, .int .u8 0, .int .u8 0, .int .u8 0, .int .u8 0, .int .u8 0, .int .u8 0, .int .u8 0, .int .u8 0, .int .u8 0, .int .u8 0, .int .u8 0] = ((List.replicate 32 (0 : UInt8)).map b8).toArray) := lib_hid rfl
  obtain ⟨zc, Hzc, Hzl⟩ : ∃ zc : Array Value, Hid (#[.int .u8 0, .int .u8 0, .int .u8 0, .int .u8 0, .int .u8 0, .int .u8 0, .int .u8 0, .int .u8 0, .int .u8 0, .int .u8 0, .int .u8 0, .int .u8 0, .int .u8 0, .int .u8 0, .int .u8 0, .int .u8 0, .int .u8 0, .int .u8 0, .int .u8 0, .int .u8 0, .int .u8 0, .int .u8 0, .int .u8 0, .int .u8 0, .int .u8 0, .int .u8 0, .int .u8 0, .int .u8 0, .int .u8 0, .int .u8 0, .int .u8 0, .int .u8 0] = zc) ∧ Hid (zc.size = 32) := ⟨_, lib_hid rfl, lib_hid rfl⟩
  obtain ⟨W0, HW0, hg0⟩ : ∃ W0 : World, Hid (W0 = ((w.alloc (.cells (ws.map b32).toArray 51)).alloc (.cells #[.int .u8 0, .int .u8 0, .int .u8 0, .int .u8 0, .int .u8 0, .int .u8 0, .int .u8 0, .int .u8 0, .int .u8 0, .int .u8 0, .int .u8 0, .int .u8 0, .int .u8 0, .int .u8 0, .int .u8 0, .int .u8 0, .int .u8 0, .int .u8 0, .int .u8 0, .int .u8 0, .int .u8 0, .int .u8 0, .int .u8 0, .int .u8 0, .int .u8 0, .int .u8 0, .int .u8 0, .int .u8 0, .int .u8 0, .int .u8 0, .int .u8 0, .int .u8 0] 32)).alloc (.cells #[.int .u8 0, .int .u8 0, .int .u8 0, .int .u8 0, .int .u8 0, .int .u8 0, .int .u8 0, .int .u8 0, .int .u8 0, .int .u8 0, .int .u8 0, .int .u8 0, .int .u8 0, .int .u8 0, .int .u8 0, .int .u8 0, .int .u8 0, .int .u8 0, .int .u8 0, .int .u8 0, .int .u8 0, .int .u8 0, .int .u8 0, .int .u8 0, .int .u8 0, .int .u8 0, .int .u8 0, .int .u8 0, .int .u8 0, .int .u8 0, .int .u8 0, .int .u8 0] 32)) ∧ Grows w W0 := ⟨_, lib_hid rfl, (((Grows.refl w).alloc _).alloc _).alloc _⟩
  obtain ⟨g0, Hg0⟩ : ∃ g, Hid (w.heap.size = g) := ⟨_, lib_hid rfl⟩
  obtain ⟨gR, HgR⟩ : ∃ g, Hid (w.heap.size + 1 = g) := ⟨_, lib_hid rfl⟩
  obtain ⟨gO, HgO⟩ : ∃ g, Hid (w.heap.size + 1 + 1 = g) := ⟨_, lib_hid rfl⟩
  have HB0 : Hid (Blk W0 g0 51 (ws.map b32).toArray) := by
    unfold Hid; rw [HW0.out, ← Hg0.out]; exact ((Blk.new w _ _).alloc _).alloc _
  have HBR : Hid (Blk W0 gR 32 zc) := by
    unfold Hid; rw [HW0.out, ← HgR.out, ← Hzc.out]
    have := (Blk.new (w.alloc (.cells (ws.map b32).toArray 51)) 32 #[.int .u8 0, .int .u8 0, .int .u8 0, .int .u8 0, .int .u8 0, .int .u8 0, .int .u8 0, .int .u8 0, .int .u8 0, .int .u8 0, .int .u8 0, .int .u8 0, .int .u8 0, .int .u8 0, .int .u8 0, .int .u8 0, .int .u8 0, .int .u8 0, .int .u8 0, .int .u8 0, .int .u8 0, .int .u8 0, .int .u8 0, .int .u8 0, .int .u8 0, .int .u8 0, .int .u8 0, .int .u8 0, .int .u8 0, .int .u8 0, .int .u8 0, .int .u8 0]).alloc (.cells #[.int .u8 0, .int .u8 0, .int .u8 0, .int .u8 0, .int .u8 0, .int .u8 0, .int .u8 0, .int .u8 0, .int .u8 0, .int .u8 0, .int .u8 0, .int .u8 0, .int .u8 0, .int .u8 0, .int .u8 0, .int .u8 0, .int .u8 0, .int .u8 0, .int .u8 0, .int .u8 0, .int .u8 0, .int .u8 0, .int .u8 0, .int .u8 0, .int .u8 0, .int .u8 0, .int .u8 0, .int .u8 0, .int .u8 0, .int .u8 0, .int .u8 0, .int .u8 0] 32)
    simpa using this
  have HBO : Hid (Blk W0 gO 32 ((outW ws 0).map b8).toArray) := by
    unfold Hid; rw [HW0.out, ← HgO.out, outW_zero, ← Hz.out]
    have := Blk.new ((w.alloc (.cells (ws.map b32).toArray 51)).alloc (.cells #[.int .u8 0, .int .u8 0, .int .u8 0, .int .u8 0, .int .u8 0, .int .u8 0, .int .u8 0, .int .u8 0, .int .u8 0, .int .u8 0, .int .u8 0, .int .u8 0, .int .u8 0, .int .u8 0, .int .u8 0, .int .u8 0, .int .u8 0, .int .u8 0, .int .u8 0, .int .u8 0, .int .u8 0, .int .u8 0, .int .u8 0, .int .u8 0, .int .u8 0, .int .u8 0, .int .u8 0, .int .u8 0, .int .u8 0, .int .u8 0, .int .u8 0, .int .u8 0] 32)) 32 #[.int .u8 0, .int .u8 0, .int .u8 0, .int .u8 0, .int .u8 0, .int .u8 0, .int .u8 0, .int .u8 0, .int .u8 0, .int .u8 0, .int .u8 0, .int .u8 0, .int .u8 0, .int .u8 0, .int .u8 0, .int .u8 0, .int .u8 0, .int .u8 0, .int .u8 0, .int .u8 0, .int .u8 0, .int .u8 0, .int .u8 0, .int .u8 0, .int .u8 0, .int .u8 0, .int .u8 0, .int .u8 0, .int .u8 0, .int .u8 0, .int .u8 0, .int .u8 0]
    simpa using this
  have Hne : Hid (w.heap.size ≤ gR ∧ w.heap.size ≤ gO ∧ gR ≠ gO ∧ g0 ≠ gO) := by have := Hg0.out; have := HgR.out; have := HgO.out; unfold Hid; omega
  have Hg := lib_hid hg0
  clear hg0 Hzc Hz
  go_enter Tryd.func25, Tryd.ntmps25
  go_upto_region 2 with fail
  rw [← HW0.out, HgO.out, HgR.out, Hg0.out]
  clear HW0 HgO HgR Hg0
  go_wp2_with (refine wpList_load_blk rfl _ _ rfl g0 rfl _ (ws.map b32).toArray _ HB0.out rfl rfl (by rw [Tryd.size8]; simp [Hwl.out]) ?_)
  go_loopw [7] (fun v wr => ∃ k : Nat, k ≤ 8 ∧ v = .int .i64 (k : Int) ∧ Hid (Grows w wr) ∧ Hid (Blk wr gR 32 zc) ∧ Hid (Blk wr gO 32 ((outW ws k).map b8).toArray)) (fun v _ => 8 - (intOf v).toNat)
  case atStart => exact ⟨0, by omega, rfl, Hg, HBR, HBO⟩
  case round =>
    clear Hg HBR HBO HB0
    obtain ⟨k, hk, rfl, Hgr, HBR, HBO⟩ := hrel
    by_cases hlt : k < 8
    · have hki : (k : Int) < 8 := by omega
      obtain ⟨x, Hx⟩ : ∃ x, Hid (ws.getD k 0 = x) := ⟨_, lib_hid rfl⟩
      obtain ⟨x64, Hx64, hx64⟩ : ∃ v : UInt64, Hid (x.toUInt64 = v) ∧ Hid (IntKind.u64.wrap (x.toNat : Int) = (v.toNat : Int)) := ⟨_, lib_hid rfl, lib_hid (u64_of_u32 _)⟩
      have Hstep : Hid (outW ws (k + 1) = splice (outW ws k) (4 * k) (putBigF x64 4)) := by unfold Hid; rw [outW, Hx.out, Hx64.out]
      have Hol := lib_hid (outW_len ws k hk)
      have hslc := run_slice_arr_l (P := Tryd.prog) Tryd.underlying32 Tryd.sizeByte gO (4 * k) (4 * (k : Int)) (by omega) (by omega)
      have hix := fun W => run_index_arr (P := Tryd.prog) Tryd.arr8 Tryd.size32 _ rfl Tryd.underlying50 (ws.map b32).toArray (.int .u32 (x.toNat : Int)) .i64 k hlt (by
        rw [← Hx.out]
        simp only [List.getElem?_toArray, List.getElem?_map]
        rw [List.getElem?_eq_getElem (by rw [Hwl.out]; exact hlt), List.getD_eq_getElem?_getD, List.getElem?_eq_getElem (by rw [Hwl.out]; exact hlt)]
        rfl) W
      have Hlt := lib_hid hlt
      have Hki := lib_hid hki
      go_upto_region 5 with fail
      clear hki hix hlt hk
      apply wp_region_mono 6 ((.is _, []) :: (.is _, []) :: (.is _, []) :: (.is _, []) :: (.is _, []) :: (.pr (fun v W => ∃ A n c, v = .slice A n c ∧ SB W A n c (putBigF x64 4)), []) :: []) (by kernel_rfl) (by kernel_rfl)
      apply Mono.is0
      · kernel_rfl
      · intro W hW
        go_wp2
        refine ⟨rfl, rfl, Grows.refl _, ?_⟩
        unfold Oper.valAt
        go_simp
        rfl
      intro k1 a1 hk1 ha1
      simp only [Nat.reduceAdd] at hk1
      simp only [Act.put, List.setIfInBounds_toArray, List.set_cons_succ, List.set_cons_zero] at ha1
      subst hk1 ha1
      apply Mono.is0
      · kernel_rfl
      · intro W hW
        have q0 := Hki.out
        go_wp2
        refine ⟨rfl, rfl, Grows.refl _, ?_⟩
        unfold Oper.valAt
        go_simp
        rfl
      intro k1 a1 hk1 ha1
      simp only [Nat.reduceAdd] at hk1
      simp only [Act.put, List.setIfInBounds_toArray, List.set_cons_succ, List.set_cons_zero] at ha1
      subst hk1 ha1
      apply Mono.is0
      · kernel_rfl
      · intro W hW
        have q0 := Hki.out
        have hcc := hslc W
        go_wp2
        refine ⟨rfl, rfl, Grows.refl _, ?_⟩
        unfold Oper.valAt
        go_simp
        rfl
      intro k1 a1 hk1 ha1
      simp only [Nat.reduceAdd] at hk1
      simp only [Act.put, List.setIfInBounds_toArray, List.set_cons_succ, List.set_cons_zero] at ha1
      subst hk1 ha1
      apply Mono.is0
      · kernel_rfl
      · intro W hW
        go_wp2
        refine ⟨rfl, rfl, Grows.refl _, ?_⟩
        unfold Oper.valAt
        go_simp
        rfl
      intro k1 a1 hk1 ha1
      simp only [Nat.reduceAdd] at hk1
      simp only [Act.put, List.setIfInBounds_toArray, List.set_cons_succ, List.set_cons_zero] at ha1
      subst hk1 ha1
      apply Mono.is0
      · kernel_rfl
      · intro W hW
        have hcc := hx64.out
        go_wp2
        refine ⟨rfl, rfl, Grows.refl _, ?_⟩
        unfold Oper.valAt
        go_simp
        rfl
      intro k1 a1 hk1 ha1
      simp only [Nat.reduceAdd] at hk1
      simp only [Act.put, List.setIfInBounds_toArray, List.set_cons_succ, List.set_cons_zero] at ha1
      subst hk1 ha1
      apply Mono.pr0
      · kernel_rfl
      · exact fun v W W' hW ⟨A, n, c, h1, h2⟩ => ⟨A, n, c, h1, h2.grows hW⟩
      · intro W hW 
        go_wp2_with fail
        refine (putBig_any x64 4 W (by omega)).mono ?_
        rintro e w1 ⟨A1, n1, c1, hn1, rfl, hg1, ho1⟩
        go_wp2
        exact ⟨rfl, rfl, hg1, A1, n1, c1, rfl, SB.own ho1⟩
      intro v5
      intro k1 a1 hk1 ha1
      simp only [Nat.reduceAdd] at hk1
      simp only [Act.put, List.setIfInBounds_toArray, List.set_cons_succ, List.set_cons_zero] at ha1
      subst hk1 ha1
      refine Mono.done ?_
      intro wm hgm
      simp only [allF, List.drop_succ_cons, List.drop_zero]
      intro g5
      obtain ⟨A2, n2, c2, rfl, hs2⟩ := g5
      have Hn2 : Hid (n2 = 4) := by have := hs2.len; rw [putBigF4] at this; exact this.symm
      have hn2 := Hn2.out
      subst hn2
      have HS2 := lib_hid hs2
      have HO2 := lib_hid (HBO.out.grows hgm)
      have HR2 := lib_hid (HBR.out.grows hgm)
      have Hg2 : Hid (Grows w wm) := Hgr.out.trans hgm
      obtain ⟨ad, had⟩ : ∃ ad, A2 = some ad := by
        rcases A2 with _ | ad
        · have := HS2.out.2.1; have := HS2.out.2.2.2.1 rfl; omega
        · exact ⟨_, rfl⟩
      subst had
      clear hs2 HBO HBR hslc Hgr hgm Hn2
      have hki := Hki.out
      go_wp2_with (refine wpList_copy_g rfl _ _ 28 28 rfl 5 Tryd.underlying28 Tryd.sizeByte gO (4 * k) (32 - 4 * k) (32 - 4 * k) rfl ad 4 c2 rfl _ 32 HO2.out _ HS2.out (by have := Hlt.out; omega) (by have := Hlt.out; rw [Hol.out]; omega) ?_; intro w3 HB3 hg3)
      have HB4 : Hid (Blk w3 gO 32 ((outW ws (k + 1)).map b8).toArray) := by unfold Hid; rw [Hstep.out]; exact HB3
      have HR4 : Hid (Blk w3 gR 32 zc) := HR2.out.grown hg3 (by simp [Hne.out.2.2.1])
      have Hg4 : Hid (Grows w w3) := Hg2.out.grown hg3 (fun k hk => by cases hk; exact Hne.out.2.1)
      clear HB3 hg3 HO2 HR2 Hg2
      go_wp2
      go_roundw
      case rel => exact ⟨k + 1, by have := Hlt.out; omega, by go_num, Hg4, HR4, HB4⟩
      case measure => have := Hlt.out; simp [intOf]; omega
    · have hki : ¬ (k : Int) < 8 := by omega
      have HB5 : Hid (Blk wr gO 32 rs) := by rw [← Hres2.out k (by omega)]; exact HBO
      clear HBO hlt
      go_upto_region 7 with fail
      clear hki
      go_upto_region 8 with (first
        | (refine wpList_load_blk rfl _ _ rfl gO rfl _ rs _ HB5.out rfl rfl (by rw [Tryd.size32B, Hrl.out.1]) ?_)
        | (refine wpList_store_blk rfl _ _ _ rfl gR rs rfl rfl 32 _ HBR.out (by rw [Tryd.size32B, Hrl.out.1]) (by rw [Hrl.out.1, Hzl.out]) Hrl.out.2 w.heap.size w Hgr.out Hne.out.1 ?_; intro w6 H6 hb6 hg6))
      go_wp2
      refine bodyPost_ret (results_cell_row rfl _ _ gR _ _ _ _ rfl H6 Tryd.underlying32 rfl (by rw [Tryd.size32B, Hrl.out.1])) rfl ?_
      exact ⟨rfl, hb6⟩

end Go.Proofs.YtnlffaglmcddkaaDoor
