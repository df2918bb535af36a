/-
  The walk of PolySmall.
-/
import Derived.Test.YtilgkadochhkjaaLaw5b
import Derived.Test.YtilgkadochhkjaaPolySmall
import Derived.Deep.Cut
namespace Go.Proofs.Ytilgkadochhkjaa
open Go Go.RowKit
set_option linter.unusedSimpArgs false


set_option maxRecDepth 100000 in
set_option maxHeartbeats 4000000 in
theorem walk_PolySmall (r b : UInt8) (s : UInt16) (w : World) :
    Calls Try.prog 8 #[.int .u8 r.toNat, .int .u8 b.toNat, .int .u16 s.toNat] w fun e w' => e = .returned (.bool true) ∧ Below w.heap.size w w' := by
  obtain ⟨key, Hkey, keyl⟩ : ∃ k : List UInt8, Hid (smallKey r s = k) ∧ Hid (k.length = 32) := ⟨_, lib_hid rfl, by unfold Hid smallKey; simp⟩
  obtain ⟨pf, Hpf, pfl⟩ : ∃ k : List UInt8, Hid (polyF key [b] = k) ∧ Hid (k.length = 16) := ⟨_, lib_hid rfl, polyF_len _ _⟩
  have Hsum : Hid (∀ g W, SB W (some ⟨g, 0, none⟩) 1 1 [b] → Calls Try.prog 9 #[.agg (key.map b8).toArray, .slice (some ⟨g, 0, none⟩) 1 1] W fun e w' => e = .returned (.agg (pf.map b8).toArray) ∧ Grows W w') := fun g W h => by
    rw [← Hpf.out]; exact poly_any key [b] keyl.out _ 1 1 W h (by omega)
  obtain ⟨n, Hn, hnb⟩ : ∃ n : Nat, Hid ((r.toNat % 16) * (b.toNat + 256) + s.toNat = n) ∧ n ≤ 80000 := ⟨_, lib_hid rfl, by
    have := u8_lt b
    have := u16_lt s
    have := Nat.mul_le_mul (show r.toNat % 16 ≤ 15 by omega) (show b.toNat + 256 ≤ 511 by omega)
    omega⟩
  have Hle : Hid (leN pf = n) := by unfold Hid; rw [← Hpf.out, ← Hkey.out, small_law, Hn.out]
  obtain ⟨q, Hq, hq, hqb, hqm⟩ : ∃ q : UInt8, Hid (UInt8.ofNat (r.toNat % 16) = q) ∧ (r.toNat : Int).tmod 16 = (q.toNat : Int) ∧ (q.toNat : Int) < 16 ∧ (r.toNat : Int) % 16 = (q.toNat : Int) := by
    have e : (UInt8.ofNat (r.toNat % 16)).toNat = r.toNat % 16 := by rw [UInt8.toNat_ofNat']; omega
    exact ⟨_, lib_hid rfl, by rw [e, Int.tmod_eq_emod_of_nonneg (by omega)]; omega, by rw [e]; omega, by rw [e]; omega⟩
  obtain ⟨lo, Hlo, hlo⟩ : ∃ x : UInt8, Hid (s.toUInt8 = x) ∧ IntKind.u8.wrap (s.toNat : Int) = (x.toNat : Int) := ⟨_, lib_hid rfl, u8_of_u16 s⟩
  obtain ⟨sh, Hsh, hsh⟩ : ∃ x : UInt16, Hid (s >>> 8 = x) ∧ (s.toNat : Int) / 256 = (x.toNat : Int) := ⟨_, lib_hid rfl, u16_shr s 8 (by decide)⟩
  obtain ⟨hi, Hhi, hhi⟩ : ∃ x : UInt8, Hid (sh.toUInt8 = x) ∧ IntKind.u8.wrap (sh.toNat : Int) = (x.toNat : Int) := ⟨_, lib_hid rfl, u8_of_u16 sh⟩
  have hnn : (q.toNat : Int) * ((b.toNat : Int) + 256) + (s.toNat : Int) = (n : Int) := by
    have e : q.toNat = r.toNat % 16 := by omega
    rw [← Hn.out, ← e]; simp
  have HKL : Hid ((#[.int .u8 (q.toNat : Int), .int .u8 0, .int .u8 0, .int .u8 0, .int .u8 0, .int .u8 0, .int .u8 0, .int .u8 0, .int .u8 0, .int .u8 0, .int .u8 0, .int .u8 0, .int .u8 0, .int .u8 0, .int .u8 0, .int .u8 0, .int .u8 (lo.toNat : Int), .int .u8 (hi.toNat : Int), .int .u8 0, .int .u8 0, .int .u8 0, .int .u8 0, .int .u8 0, .int .u8 0, .int .u8 0, .int .u8 0, .int .u8 0, .int .u8 0, .int .u8 0, .int .u8 0, .int .u8 0, .int .u8 0] : Array Value) = (key.map b8).toArray) := by
    unfold Hid; rw [← Hkey.out, smallKey, Hq.out, Hlo.out, Hsh.out, Hhi.out]; rfl
  obtain ⟨W1, HW1⟩ : ∃ X : World, Hid (X = w.alloc (.cells #[.int .u8 (q.toNat : Int), .int .u8 0, .int .u8 0, .int .u8 0, .int .u8 0, .int .u8 0, .int .u8 0, .int .u8 0, .int .u8 0, .int .u8 0, .int .u8 0, .int .u8 0, .int .u8 0, .int .u8 0, .int .u8 0, .int .u8 0, .int .u8 (lo.toNat : Int), .int .u8 (hi.toNat : Int), .int .u8 0, .int .u8 0, .int .u8 0, .int .u8 0, .int .u8 0, .int .u8 0, .int .u8 0, .int .u8 0, .int .u8 0, .int .u8 0, .int .u8 0, .int .u8 0, .int .u8 0, .int .u8 0] 22)) := ⟨_, lib_hid rfl⟩
  have HK1 : Hid (Blk W1 w.heap.size 22 (key.map b8).toArray) := by unfold Hid; rw [HW1.out, HKL.out]; exact Blk.new _ _ _
  have hgw1 : Grows w W1 := by rw [HW1.out]; exact (Grows.refl w).alloc _
  have HW1' := HW1.out
  clear HKL HW1
  go_enter Try.func8, Try.ntmps8
  go_upto_region 4 with fail
  rw [← HW1']
  clear HW1' hlo hhi hsh
  have hbi : (b.toNat : Int) < 256 := by have := u8_lt b; omega
  have hsi : (s.toNat : Int) < 65536 := by have := u16_lt s; omega
  obtain ⟨n1, hn1, hn1b⟩ : ∃ n1 : Nat, (q.toNat : Int) * ((b.toNat : Int) + 256) = (n1 : Int) ∧ n1 ≤ 80000 := ⟨q.toNat * (b.toNat + 256), by simp, by
    have := Nat.mul_le_mul (show q.toNat ≤ 15 by omega) (show b.toNat + 256 ≤ 511 by omega)
    omega⟩
  rw [hn1] at hnn
  obtain ⟨g9, Hg9⟩ : ∃ x, Hid (W1.heap.size = x) := ⟨_, lib_hid rfl⟩
  obtain ⟨W2, HW2⟩ : ∃ X : World, Hid (X = W1.alloc (.cells #[.int .u8 0, .int .u8 0, .int .u8 0, .int .u8 0, .int .u8 0, .int .u8 0, .int .u8 0, .int .u8 0, .int .u8 0, .int .u8 0, .int .u8 0, .int .u8 0, .int .u8 0, .int .u8 0, .int .u8 0, .int .u8 0] 24)) := ⟨_, lib_hid rfl⟩
  go_upto_region 6 with fail
  rw [← HW2.out, Hg9.out]
  have hg2 : Grows W1 W2 := by rw [HW2.out]; exact (Grows.refl _).alloc _
  have S_z : Hid (Blk W2 g9 24 ((mixL 0 pf (List.replicate 16 (0 : UInt8))).map b8).toArray) := by
    unfold Hid; rw [HW2.out, ← Hg9.out, show mixL 0 pf (List.replicate 16 (0 : UInt8)) = (List.replicate 16 (0 : UInt8)) from rfl, ← zeros16]; exact Blk.new _ _ _
  have Hnb := lib_hid hnb
  clear hn1 hn1b hnn hbi hsi hqb hqm hq
  go_wp2_with fail
  go_loopw [8, 10] (fun nv iv wr => ∃ i m : Nat, i ≤ 16 ∧ iv = .int .i64 (i : Int) ∧ nv = .int .i64 (m : Int) ∧ m ≤ 80000 ∧ Hid (m = n / 256 ^ i) ∧ Grows W1 wr ∧ Hid (Blk wr g9 24 ((mixL i pf (List.replicate 16 (0 : UInt8))).map b8).toArray)) (fun _ iv _ => 16 - (intOf iv).toNat)
  case atStart => exact ⟨0, n, by omega, rfl, rfl, Hnb.out, lib_hid (by simp), hg2, S_z⟩
  case round =>
    clear S_z hg2
    obtain ⟨i, m, hi, rfl, rfl, hmb, Hm, hgr, X_z⟩ := hrel
    by_cases hlt : i < 16
    · have hki : (i : Int) < 16 := by omega
      obtain ⟨z, Hz⟩ : ∃ x, Hid (pf.getD i 0 = x) := ⟨_, lib_hid rfl⟩
      have hd : m % 256 = z.toNat := by
        have := leN_digit pf i (by rw [pfl.out]; exact hlt)
        rw [Hle.out, ← Hm.out] at this
        rw [this, ← Hz.out, List.getD_eq_getElem?_getD, List.getElem?_eq_getElem (by rw [pfl.out]; exact hlt)]; rfl
      have hz : IntKind.u8.wrap ((m : Int) % 256) = (z.toNat : Int) := by
        have h2 := u8_lt z
        rw [IntKind.wrap_u8]
        omega
      have hzt : (m : Int).tmod 256 = (m : Int) % 256 := Int.tmod_eq_emod_of_nonneg (by omega)
      obtain ⟨c2, Hc2, hc2, hc2b, hc2t⟩ : ∃ c : Nat, Hid (m / 256 = c) ∧ (m : Int) / 256 = (c : Int) ∧ c ≤ 80000 ∧ (m : Int).tdiv 256 = (c : Int) := ⟨_, lib_hid rfl, by omega, by omega, by rw [Int.tdiv_eq_ediv_of_nonneg (by omega)]; omega⟩
      have Hc : Hid (c2 = n / 256 ^ (i + 1)) := by
        unfold Hid; rw [← Hc2.out, Hm.out, Nat.pow_succ, Nat.div_div_eq_div_mul]
      have co := cell8 X_z.out i (by rw [mixL_len _ _ _ (by rw [pfl.out]; simp)]; simp; omega)
      have fo := X_z.out.frozen i
      obtain ⟨w2, Hw2⟩ : ∃ X : World, Hid (X = wr.setCell ⟨g9, i, none⟩ (.int .u8 z.toNat)) := ⟨_, lib_hid rfl⟩
      have hgr2 : Grows W1 w2 := by
        rw [Hw2.out]
        exact hgr.setCell (p := ⟨g9, i, none⟩) (by show W1.heap.size ≤ g9; rw [← Hg9.out]; exact Nat.le_refl _) _
      have Y_z : Hid (Blk w2 g9 24 ((mixL (i + 1) pf (List.replicate 16 (0 : UInt8))).map b8).toArray) := by
        unfold Hid; rw [Hw2.out, ← mixL_set i pf (List.replicate 16 (0 : UInt8)) (by rw [pfl.out]; simp) (by simp; omega), Hz.out]
        exact blk_set8 X_z.out i z
      have Hcb := lib_hid hc2b
      have Hw2' := Hw2.out
      clear X_z hgr hd hc2b
      go_wp2_with fail
      rw [← Hw2']
      clear Hw2'
      go_roundw
      case rel => exact ⟨i + 1, c2, by omega, by go_num, rfl, Hcb.out, Hc, hgr2, Y_z⟩
      case measure => simp [intOf]; omega
    · have Hk : Hid (i = 16) := by unfold Hid; omega
      have hki : ¬ (i : Int) < 16 := by omega
      have HKr : Hid (Blk wr w.heap.size 22 (key.map b8).toArray) := HK1.out.grows hgr
      have HBr : Hid (Blk wr g9 24 (pf.map b8).toArray) := by
        have := X_z; rw [Hk.out, mixL_all 16 pf (List.replicate 16 (0 : UInt8)) (by rw [pfl.out]; simp) (by simp)] at this; exact this
      have hgw := hgw1.trans hgr
      clear X_z hgr
      go_upto_region 11 with fail
      clear hki hlt hmb hi Hm
      apply wp_region_mono 10 ((.is (.agg ((key).map b8).toArray), []) :: (.is _, []) :: (.pr (fun v W => ∃ g, v = .slice (some ⟨g, 0, none⟩) 1 1 ∧ SB W (some ⟨g, 0, none⟩) 1 1 [b]), []) :: (.is (.agg (pf.map b8).toArray), [2]) :: (.is (.agg ((pf).map b8).toArray), []) :: (.is (.bool true), []) :: (.is _, []) :: (.is (.bool true), []) :: (.is _, []) :: (.is _, []) :: []) (by kernel_rfl) (by kernel_rfl)
      apply Mono.is0
      · kernel_rfl
      · intro W hW 
        go_wp2_with (refine wpList_load_blk (by kernel_rfl) _ _ rfl (w.heap.size) rfl 22 ((key).map b8).toArray _ (HKr.out.grows hW) Try.underlying22 rfl (by rw [Try.size32k]; simp [keyl.out]) ?_)
        exact ⟨rfl, rfl, Grows.refl _, rfl⟩
      intro k1 a1 hk1 ha1
      simp only [Nat.reduceAdd] at hk1
      simp only [Act.put, List.setIfInBounds_toArray, List.set_cons_succ, List.set_cons_zero] at ha1
      subst hk1 ha1
      apply Mono.is0
      · kernel_rfl
      · intro W hW
        go_wp2
        refine ⟨rfl, rfl, Grows.refl _, ?_⟩
        unfold Oper.valAt
        go_simp
        rfl
      intro k1 a1 hk1 ha1
      simp only [Nat.reduceAdd] at hk1
      simp only [Act.put, List.setIfInBounds_toArray, List.set_cons_succ, List.set_cons_zero] at ha1
      subst hk1 ha1
      apply Mono.pr0
      · kernel_rfl
      · exact fun v W W' hW ⟨g, h1, h2⟩ => ⟨g, h1, h2.grows hW⟩
      · intro W hW 
        go_wp2
        exact ⟨rfl, rfl, (Grows.refl _).alloc _, _, rfl, one_row W 5 (b8 b)⟩
      intro v2
      intro k1 a1 hk1 ha1
      simp only [Nat.reduceAdd] at hk1
      simp only [Act.put, List.setIfInBounds_toArray, List.set_cons_succ, List.set_cons_zero] at ha1
      subst hk1 ha1
      apply Mono.is1
      · kernel_rfl
      · intro W hW f0
        obtain ⟨g1, rfl, h1⟩ := f0
        go_wp2_with fail
        refine (Hsum.out g1 W h1).mono ?_
        rintro e w1 ⟨rfl, hg1⟩
        go_wp2
        exact ⟨rfl, rfl, hg1, rfl⟩
      intro k1 a1 hk1 ha1
      simp only [Nat.reduceAdd] at hk1
      simp only [Act.put, List.setIfInBounds_toArray, List.set_cons_succ, List.set_cons_zero] at ha1
      subst hk1 ha1
      apply Mono.is0
      · kernel_rfl
      · intro W hW 
        go_wp2_with (refine wpList_load_blk (by kernel_rfl) _ _ rfl (g9) rfl 24 ((pf).map b8).toArray _ (HBr.out.grows hW) Try.underlying24 rfl (by rw [Try.size16]; simp [pfl.out]) ?_)
        exact ⟨rfl, rfl, Grows.refl _, rfl⟩
      intro k1 a1 hk1 ha1
      simp only [Nat.reduceAdd] at hk1
      simp only [Act.put, List.setIfInBounds_toArray, List.set_cons_succ, List.set_cons_zero] at ha1
      subst hk1 ha1
      apply Mono.is0
      · kernel_rfl
      · intro W hW 
        have he : (Op.equalIn 10000 24 (.agg ((pf).map b8).toArray) (.agg ((pf).map b8).toArray)).run Try.prog W = .ok true W := (run_equalIn_bytes W 9998 24 5 16 (pf) (pf) pfl.out pfl.out Try.arr16 Try.underlying5 Try.sizeByte).trans (by rw [beq_self_eq_true])
        go_wp2
        refine ⟨rfl, rfl, Grows.refl _, ?_⟩
        unfold Oper.valAt
        go_simp
      intro k1 a1 hk1 ha1
      simp only [Nat.reduceAdd] at hk1
      simp only [Act.put, List.setIfInBounds_toArray, List.set_cons_succ, List.set_cons_zero] at ha1
      subst hk1 ha1
      apply Mono.is0
      · kernel_rfl
      · intro W hW
        go_wp2
        refine ⟨rfl, rfl, Grows.refl _, ?_⟩
        unfold Oper.valAt
        go_simp
        rfl
      intro k1 a1 hk1 ha1
      simp only [Nat.reduceAdd] at hk1
      simp only [Act.put, List.setIfInBounds_toArray, List.set_cons_succ, List.set_cons_zero] at ha1
      subst hk1 ha1
      apply Mono.is0
      · kernel_rfl
      · intro W hW 
        go_wp2_with fail
        refine (awake5_any W).mono ?_
        rintro e w1 ⟨rfl, hg1⟩
        go_wp2
        exact ⟨rfl, rfl, hg1, rfl⟩
      intro k1 a1 hk1 ha1
      simp only [Nat.reduceAdd] at hk1
      simp only [Act.put, List.setIfInBounds_toArray, List.set_cons_succ, List.set_cons_zero] at ha1
      subst hk1 ha1
      iterate 2
        apply Mono.is0
        · kernel_rfl
        · intro W hW
          go_wp2
          refine ⟨rfl, rfl, Grows.refl _, ?_⟩
          unfold Oper.valAt
          go_simp
          rfl
        intro k1 a1 hk1 ha1
        simp only [Nat.reduceAdd] at hk1
        simp only [Act.put, List.setIfInBounds_toArray, List.set_cons_succ, List.set_cons_zero] at ha1
        subst hk1 ha1
      refine Mono.done ?_
      intro wm hgm
      simp only [allF, List.drop_succ_cons, List.drop_zero]
      intro g2
      go_wp2
      go_ret
      exact ⟨rfl, hgw.trans hgm⟩

end Go.Proofs.Ytilgkadochhkjaa
