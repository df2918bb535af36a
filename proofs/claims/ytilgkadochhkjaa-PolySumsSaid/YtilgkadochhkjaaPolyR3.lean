/-
  The walk of palfreyref05.reduced.
-/
import Derived.Test.YtilgkadochhkjaaPolyR2
import Derived.Deep.Cut
namespace Go.Proofs.Ytilgkadochhkjaa
open Go Go.RowKit
set_option linter.unusedSimpArgs false

theorem folded_digits (v : Nat) (hv : v < 256 ^ 40) (w : World) :
    Calls Try.prog 25 #[.agg (iL (digL 40 v))] w fun e w' => e = .returned (.agg (iL (digL 40 (foldN v)))) ∧ Grows w w' := by
  have := folded_any (digL 40 v) (digL_len 40 v) (digL_bd 40 v) w
  rw [folded_v v hv] at this
  exact this
theorem mostB_succ (u k : Nat) : mostB u (k + 1) = (mostB u k && decide (u / 256 ^ (k + 1) % 256 = 255)) := by
  unfold mostB
  rw [show allB (u / 256) (k + 1) = (allB (u / 256) k && decide (u / 256 / 256 ^ k % 256 = 255)) from rfl, Nat.div_div_eq_div_mul u 256, show 256 * 256 ^ k = 256 ^ (k + 1) by rw [Nat.pow_succ, Nat.mul_comm]]
  simp only [Bool.and_assoc]
theorem zeroNum (w : World) : (zeroValue 40).run Try.prog w = .ok (.agg (iL (List.replicate 40 0))) w := by kernel_rfl

set_option maxRecDepth 100000 in
set_option maxHeartbeats 4000000 in
theorem reduced_any (v : Nat) (hv : v < 1361129467683753853853498429727072845824 * 1361129467683753853853498429727072845824) (w : World) :
    Calls Try.prog 17 #[.agg (iL (digL 40 v))] w fun e w' => e = .returned (.agg (iL (digL 40 (v % pP)))) ∧ Grows w w' := by
  have h40 : (1361129467683753853853498429727072845824 * 1361129467683753853853498429727072845824 : Nat) < 256 ^ 40 := by decide
  obtain ⟨hu, hup⟩ := foldI_six v hv
  obtain ⟨D, HD, Dl, Da⟩ : ∃ D : Nat → Array Value, Hid (D = fun k => iL (digL 40 (foldI k v))) ∧ Hid (∀ k, (D k).size = 40) ∧ Hid (∀ k, (D k).all (·.oneCell') = true) :=
    ⟨_, lib_hid rfl, fun k => by simp only [iL_size, digL_len], fun k => iL_all _⟩
  have HCf : Hid (∀ k W, Calls Try.prog 25 #[.agg (D k)] W fun e w' => e = .returned (.agg (D (k + 1))) ∧ Grows W w') := fun k W => by
    rw [HD.out]
    exact folded_digits (foldI k v) (Nat.lt_of_le_of_lt (foldI_le v k) (Nat.lt_trans hv h40)) W
  obtain ⟨u, Hu⟩ : ∃ u, Hid (foldI 6 v = u) := ⟨_, lib_hid rfl⟩
  rw [Hu.out] at hu hup
  obtain ⟨res, Hres, hrl, hra⟩ : ∃ r : Array Value, Hid (iL (digL 40 (v % pP)) = r) ∧ Hid (r.size = 40) ∧ Hid (r.all (·.oneCell') = true) := ⟨_, lib_hid rfl, by unfold Hid; rw [iL_size, digL_len], iL_all _⟩
  rw [Hres.out, show iL (digL 40 v) = D 0 by rw [HD.out]; rfl]
  have Hmost : Hid (pP ≤ u → ∃ x : Nat, u % 256 = x ∧ res = iL ((x - 251) :: List.replicate 39 0)) := fun h => ⟨_, rfl, by rw [← Hres.out, ← hup, most_digits u hu h]⟩
  have Hless : Hid (¬ pP ≤ u → D 6 = res) := fun h => by rw [← Hres.out, ← hup, less_digits u h, HD.out, ← Hu.out]
  have HD6 : Hid (∀ i, i < 40 → ∀ W, Blk W w.heap.size 40 (D 6) → W.cell? ⟨w.heap.size, i, none⟩ = some (.int .i64 ((u / 256 ^ i % 256 : Nat) : Int))) := fun i hi W hB => by
    rw [HD.out] at hB
    have := cellL hB i (by rw [digL_len]; exact hi)
    rw [digL_at _ _ _ hi, Hu.out] at this
    exact this
  obtain ⟨z, Hz, Hzl⟩ : ∃ z, Hid (iL (List.replicate 40 0) = z) ∧ Hid (z.size = 40) := ⟨_, lib_hid rfl, by unfold Hid; rw [iL_size]; simp⟩
  obtain ⟨W0, HW0, hg0⟩ : ∃ W0 : World, Hid (W0 = (w.alloc (.cells (D 0) 40)).alloc (.cells (iL (List.replicate 40 0)) 40)) ∧ Grows w W0 := ⟨_, lib_hid rfl, ((Grows.refl w).alloc _).alloc _⟩
  have HB0 : Hid (Blk W0 w.heap.size 40 (D 0)) := by
    unfold Hid; rw [HW0.out]; have := (Blk.new (w) 40 (D 0)).alloc (.cells (iL (List.replicate 40 0)) 40); simpa using this
  have HB1 : Hid (Blk W0 (w.heap.size + 1) 40 z) := by
    unfold Hid; rw [HW0.out, ← Hz.out]; have := Blk.new (w.alloc (.cells (D 0) 40)) 40 (iL (List.replicate 40 0)); simpa using this
  have HW0' := HW0.out
  have Hm15 := lib_hid (most_v u hu)
  clear hv h40 HD HW0 hu hup Hu
  go_enter Try.func17, Try.ntmps17
  go_upto_region 1 with (refine wpList_alloc_arr rfl 40 rfl _ zero40 ?_)
  rw [← HW0']
  clear HW0'
  go_wp2_with fail
  go_loopw [3] (fun i wr => ∃ k : Nat, k ≤ 6 ∧ i = .int .i64 (k : Int) ∧ Grows w wr ∧ Hid (Blk wr w.heap.size 40 (D k)) ∧ Hid (Blk wr (w.heap.size + 1) 40 z)) (fun i _ => 6 - (intOf i).toNat)
  case atStart => exact ⟨0, by omega, rfl, hg0, HB0, HB1⟩
  case round =>
    clear HB0 HB1 hg0
    obtain ⟨k, hk, rfl, hgr, HN, HZ⟩ := hrel
    by_cases hlt : k < 6
    · have hki : (k : Int) < 6 := by omega
      go_wp2_with (refine wpList_load_blk rfl _ _ rfl w.heap.size rfl 40 (D k) _ HN.out Try.underlying40 rfl (by rw [Try.size40, Dl.out]) ?_)
      refine (HCf.out k _).mono ?_
      rintro e w3 ⟨rfl, hg3⟩
      have HN3 := lib_hid (HN.out.grows hg3)
      have HZ3 := lib_hid (HZ.out.grows hg3)
      have hgr3 := hgr.trans hg3
      have hl1 := Dl.out (k + 1)
      have hl0 := Dl.out k
      have ha1 := Da.out (k + 1)
      clear HN HZ hgr hg3
      obtain ⟨d1, Hd1⟩ : ∃ d, Hid (D (k + 1) = d) := ⟨_, lib_hid rfl⟩
      rw [Hd1.out] at hl1 ha1
      rw [Hd1.out]
      have hl1' := lib_hid hl1
      have hl0' := lib_hid hl0
      have ha1' := lib_hid ha1
      clear hl1 hl0 ha1
      go_wp2_with (refine wpList_store_blk rfl _ _ _ rfl w.heap.size d1 rfl rfl 40 _ HN3.out (by rw [Try.size40, hl1'.out]) (by rw [hl0'.out, hl1'.out]) ha1'.out w.heap.size w3 (Below.refl _ _) (Nat.le_refl _) ?_; intro w5 HR6 hb5 hgr5; have HR7 := lib_hid HR6; have hgr7 := lib_hid hgr5; clear HR6 hb5 hgr5)
      have HN5 : Hid (Blk w5 w.heap.size 40 (D (k + 1))) := by unfold Hid; rw [Hd1.out]; exact HR7.out
      have HZ5 : Hid (Blk w5 (w.heap.size + 1) 40 z) := HZ3.out.grown hgr7.out (by simp)
      have hg5 : Grows w w5 := hgr3.grown hgr7.out (fun k e => by cases e; exact Nat.le_refl _)
      clear HN3 HZ3 HR7 hgr7 hgr3
      go_roundw
      case rel => exact ⟨k + 1, by omega, by go_num, hg5, HN5, HZ5⟩
      case measure => simp [intOf]; omega
    · have Hk : Hid (k = 6) := by unfold Hid; omega
      have hki : ¬ (k : Int) < 6 := by omega
      have HN6 : Hid (Blk wr w.heap.size 40 (D 6)) := by have := HN.out; rw [Hk.out] at this; exact this
      clear HN hlt hk
      obtain ⟨wo, ewo⟩ : ∃ wo : World, wo = wr := ⟨_, rfl⟩
      subst ewo
      go_upto_region 5 with fail
      clear hki
      go_cut [4] from 12 (fun b wx => b = .bool (mostB u 0) ∧ wx = wo)
      case first =>
        obtain ⟨x, Hx, hxb⟩ : ∃ x : Nat, Hid (u / 256 ^ 16 % 256 = x) ∧ (x : Int) ≤ 255 := ⟨_, lib_hid rfl, by have := Nat.mod_lt (u / 256 ^ 16) (show 0 < 256 by omega); omega⟩
        obtain ⟨y, Hy, hyb⟩ : ∃ x : Nat, Hid (u % 256 = x) ∧ (x : Int) ≤ 255 := ⟨_, lib_hid rfl, by omega⟩
        have c16 : wo.cell? ⟨w.heap.size, 16, none⟩ = some (.int .i64 (x : Int)) := by rw [← Hx.out]; exact HD6.out 16 (by omega) wo HN6.out
        have c0 : wo.cell? ⟨w.heap.size, 0, none⟩ = some (.int .i64 (y : Int)) := by
          rw [← Hy.out]; have := HD6.out 0 (by omega) wo HN6.out
          rw [Nat.pow_zero, Nat.div_one] at this; exact this
        have Hm : Hid (mostB u 0 = (decide (x = 3) && decide (251 ≤ y))) := by unfold Hid mostB allB; rw [Hx.out, Hy.out, Bool.and_true]
        have hgo := hgr
        clear HN6 HZ hgr
        by_cases h3 : x = 3
        · have k3 : ((x : Int) == 3) = true := beq_iff_eq.2 (by omega)
          by_cases h251 : 251 ≤ y
          · have k0 : (251 : Int) ≤ (y : Int) := by omega
            have Hm2 : Hid (mostB u 0 = true) := by unfold Hid; rw [Hm.out, decide_eq_true h3, decide_eq_true h251]; rfl
            clear h3 h251 Hm
            go_wp2_with fail
            go_meet
            case rel => exact ⟨by rw [Hm2.out], rfl⟩
          · have k0 : ¬ (251 : Int) ≤ (y : Int) := by omega
            have Hm2 : Hid (mostB u 0 = false) := by unfold Hid; rw [Hm.out, decide_eq_false h251, Bool.and_false]
            clear h3 h251 Hm
            go_wp2_with fail
            go_meet
            case rel => exact ⟨by rw [Hm2.out], rfl⟩
        · have k3 : ((x : Int) == 3) = false := beq_false_of_ne (by omega)
          have Hm2 : Hid (mostB u 0 = false) := by unfold Hid; rw [Hm.out, decide_eq_false h3, Bool.false_and]
          clear h3 Hm
          go_wp2_with fail
          go_meet
          case rel => exact ⟨by rw [Hm2.out], rfl⟩
      case rest =>
        obtain ⟨rfl, rfl⟩ := hcut
        go_wp2_with fail
        go_loopw [4, 5] (fun b iv wx => ∃ k i : Nat, k ≤ 15 ∧ Hid (i = k + 1) ∧ b = .bool (mostB u k) ∧ iv = .int .i64 (i : Int) ∧ wx = wc) (fun _ i _ => 16 - (intOf i).toNat)
        case atStart => exact ⟨0, 1, by omega, lib_hid rfl, rfl, rfl, rfl⟩
        case round =>
          obtain ⟨k, i, hk, Hi, rfl, rfl, rfl⟩ := hrel
          by_cases hlt : k < 15
          · have hki : (i : Int) < 16 := by have := Hi.out; omega
            have hib : (i : Int) < 40 := by omega
            have Hlt := lib_hid hlt
            obtain ⟨x, Hx, hxb⟩ : ∃ x : Nat, Hid (u / 256 ^ i % 256 = x) ∧ (x : Int) ≤ 255 := ⟨_, lib_hid rfl, by have := Nat.mod_lt (u / 256 ^ i) (show 0 < 256 by omega); omega⟩
            have ci : wr.cell? ⟨w.heap.size, i, none⟩ = some (.int .i64 (x : Int)) := by rw [← Hx.out]; exact HD6.out i (by omega) _ HN6.out
            have Hm : Hid (mostB u (k + 1) = (mostB u k && decide (x = 255))) := by unfold Hid; rw [mostB_succ, ← Hi.out, Hx.out]
            have hgo := lib_hid (And.intro HN6.out (And.intro HZ.out hgr))
            clear HN6 HZ hgr hlt hk
            obtain ⟨b, Hb⟩ : ∃ b, Hid (mostB u k = b) := ⟨_, lib_hid rfl⟩
            rw [Hb.out] at Hm ⊢
            cases b with
            | true =>
              by_cases h3 : x = 255
              · have k3 : ((x : Int) == 255) = true := beq_iff_eq.2 (by omega)
                have Hm2 : Hid (mostB u (k + 1) = true) := by unfold Hid; rw [Hm.out, decide_eq_true h3]; rfl
                clear h3 Hm
                go_wp2_with fail
                go_roundw
                case rel => exact ⟨k + 1, i + 1, by have := Hlt.out; omega, by have := Hi.out; unfold Hid; omega, by rw [Hm2.out], by go_num, trivial⟩
                case measure => simp [intOf]; omega
              · have k3 : ((x : Int) == 255) = false := beq_false_of_ne (by omega)
                have Hm2 : Hid (mostB u (k + 1) = false) := by unfold Hid; rw [Hm.out, decide_eq_false h3]; rfl
                clear h3 Hm
                go_wp2_with fail
                go_roundw
                case rel => exact ⟨k + 1, i + 1, by have := Hlt.out; omega, by have := Hi.out; unfold Hid; omega, by rw [Hm2.out], by go_num, trivial⟩
                case measure => simp [intOf]; omega
            | false =>
              have Hm2 : Hid (mostB u (k + 1) = false) := by unfold Hid; rw [Hm.out]; rfl
              clear Hm ci
              go_wp2_with fail
              go_roundw
              case rel => exact ⟨k + 1, i + 1, by have := Hlt.out; omega, by have := Hi.out; unfold Hid; omega, by rw [Hm2.out], by go_num, trivial⟩
              case measure => simp [intOf]; omega
          · have Hk : Hid (k = 15) := by unfold Hid; omega
            have hki : ¬ (i : Int) < 16 := by have := Hi.out; omega
            rw [Hk.out]
            have hrl := hrl.out
            have hra := hra.out
            by_cases hp : pP ≤ u
            · rw [Hm15.out.2 hp]
              obtain ⟨x, Hx, hres⟩ := Hmost.out hp
              have hx : 251 ≤ x ∧ x ≤ 255 := by
                have h1 := (Hm15.out).2 hp
                unfold mostB at h1
                rw [Bool.and_eq_true, Bool.and_eq_true, decide_eq_true_iff, decide_eq_true_iff] at h1
                omega
              obtain ⟨d, hd, Hd⟩ : ∃ d : Nat, (x : Int) - 251 = (d : Int) ∧ Hid (d = x - 251) := ⟨x - 251, by omega, lib_hid rfl⟩
              have c0 : wr.cell? ⟨w.heap.size, 0, none⟩ = some (.int .i64 (x : Int)) := by
                have := HD6.out 0 (by omega) _ HN6.out
                rw [Nat.pow_zero, Nat.div_one, Hx] at this; exact this
              have hxb : (x : Int) ≤ 255 := by omega
              have hdb : (d : Int) ≤ 255 := by omega
              have Hres2 : Hid (res = iL (d :: List.replicate 39 0)) := by unfold Hid; rw [hres, Hd.out]
              have hrl2 : Hid ((iL (d :: List.replicate 39 0)).size = 40) := by unfold Hid; rw [← Hres2.out]; exact hrl
              have hra2 := lib_hid (iL_all (d :: List.replicate 39 0))
              clear hrl hra hres hx Hx
              have zl := Hzl
              clear HN6
              go_wp2_with (refine wpList_store_blk rfl _ _ _ rfl (w.heap.size + 1) (iL (d :: List.replicate 39 0)) rfl rfl 40 _ HZ.out (by rw [Try.size40, hrl2.out]) (by rw [zl.out, hrl2.out]) hra2.out (w.heap.size + 1) wr (Below.refl _ _) (Nat.le_refl _) ?_; intro w5 HR6 hb5 hgr5)
              refine bodyPost_ret (results_cell_row rfl _ _ (w.heap.size + 1) _ _ _ _ rfl HR6 Try.underlying40 rfl (by rw [Try.size40, hrl2.out])) rfl ?_
              exact ⟨by rw [Hres2.out], Below.trans hgr (hb5.mono (by omega))⟩
            · rw [show mostB u 15 = false from Bool.eq_false_iff.2 (fun e => hp (Hm15.out.1 e))]
              have HR : Hid (Blk wr w.heap.size 40 res) := by have := HN6.out; rw [Hless.out hp] at this; exact this
              have zl := Hzl.out
              clear HN6
              go_wp2_with (first
                | (refine wpList_load_blk rfl _ _ rfl w.heap.size rfl 40 res _ HR.out Try.underlying40 rfl (by rw [Try.size40, hrl]) ?_)
                | (refine wpList_store_blk rfl _ _ _ rfl (w.heap.size + 1) res rfl rfl 40 _ HZ.out (by rw [Try.size40, hrl]) (by rw [zl, hrl]) hra (w.heap.size + 1) wr (Below.refl _ _) (Nat.le_refl _) ?_; intro w5 HR6 hb5 hgr5))
              refine bodyPost_ret (results_cell_row rfl _ _ (w.heap.size + 1) _ res _ _ rfl HR6 Try.underlying40 rfl (by rw [Try.size40, hrl])) rfl ?_
              exact ⟨rfl, Below.trans hgr (hb5.mono (by omega))⟩

end Go.Proofs.Ytilgkadochhkjaa
