/-
  The walks of the laws of layer 5: PolyParts.
-/
import Derived.Test.YtilgkadochhkjaaLaw5a
import Derived.Test.YtilgkadochhkjaaOpenRows
import Derived.Deep.Cut
namespace Go.Proofs.Ytilgkadochhkjaa
open Go Go.RowKit
set_option linter.unusedSimpArgs false


theorem zz_eq (W : World) : (Op.equalIn 10000 24 (.agg #[.int .u8 0, .int .u8 0, .int .u8 0, .int .u8 0, .int .u8 0, .int .u8 0, .int .u8 0, .int .u8 0, .int .u8 0, .int .u8 0, .int .u8 0, .int .u8 0, .int .u8 0, .int .u8 0, .int .u8 0, .int .u8 0]) (.agg #[.int .u8 0, .int .u8 0, .int .u8 0, .int .u8 0, .int .u8 0, .int .u8 0, .int .u8 0, .int .u8 0, .int .u8 0, .int .u8 0, .int .u8 0, .int .u8 0, .int .u8 0, .int .u8 0, .int .u8 0, .int .u8 0])).run Try.prog W = .ok true W := by
  rw [zeros16]
  exact (run_equalIn_bytes W 9998 24 5 16 (List.replicate 16 0) (List.replicate 16 0) rfl rfl Try.arr16 Try.underlying5 Try.sizeByte).trans (by rw [beq_self_eq_true])
theorem pwrite_nil (B : Option Addr) (m d : Nat) (w : World) : Calls Try.prog 15 #[.pointer none, .slice B m d] w fun e w' => e = .returned (.tuple #[]) ∧ w = w' := by
  go_enter Try.func15, Try.ntmps15
  go_wp2_with fail
  refine wp_scope_jumps 0 (fun _ _ => False) (fun _ _ => 0) rfl ?_ (fun _ _ h => h.elim)
  go_wp2_with fail
  (try simp only [Exit.jump])
  refine bodyPost_ret (results_none rfl _ _ _) rfl ?_
  exact ⟨rfl, rfl⟩
set_option maxRecDepth 100000 in
set_option maxHeartbeats 4000000 in
theorem psum_nil (w : World) : Calls Try.prog 16 #[.pointer none] w fun e w' => e = .returned (.agg #[.int .u8 0, .int .u8 0, .int .u8 0, .int .u8 0, .int .u8 0, .int .u8 0, .int .u8 0, .int .u8 0, .int .u8 0, .int .u8 0, .int .u8 0, .int .u8 0, .int .u8 0, .int .u8 0, .int .u8 0, .int .u8 0]) ∧ Grows w w' := by
  obtain ⟨W0, HW0, hW0, hg0⟩ : ∃ W0 : World, Hid (W0 = (w.alloc (.cells #[.int .u8 0, .int .u8 0, .int .u8 0, .int .u8 0, .int .u8 0, .int .u8 0, .int .u8 0, .int .u8 0, .int .u8 0, .int .u8 0, .int .u8 0, .int .u8 0, .int .u8 0, .int .u8 0, .int .u8 0, .int .u8 0] 24)).alloc (.cells #[.int .u8 0, .int .u8 0, .int .u8 0, .int .u8 0, .int .u8 0, .int .u8 0, .int .u8 0, .int .u8 0, .int .u8 0, .int .u8 0, .int .u8 0, .int .u8 0, .int .u8 0, .int .u8 0, .int .u8 0, .int .u8 0] 24)) ∧ W0.heap.size = w.heap.size + 2 ∧ Grows w W0 := ⟨_, lib_hid rfl, by simp, ((Grows.refl w).alloc _).alloc _⟩
  obtain ⟨res, Hres, hrl, hra⟩ : ∃ r : Array Value, Hid (#[.int .u8 0, .int .u8 0, .int .u8 0, .int .u8 0, .int .u8 0, .int .u8 0, .int .u8 0, .int .u8 0, .int .u8 0, .int .u8 0, .int .u8 0, .int .u8 0, .int .u8 0, .int .u8 0, .int .u8 0, .int .u8 0] = r) ∧ r.size = 16 ∧ r.all (·.oneCell') = true := ⟨_, lib_hid rfl, rfl, by rw [zeros16]; exact cells_all _⟩
  have HB0 : Hid (Blk W0 w.heap.size 24 res) := by unfold Hid; rw [HW0.out, ← Hres.out]; exact (Blk.new _ _ _).alloc _
  have HB1 : Hid (Blk W0 (w.heap.size + 1) 24 res) := by
    unfold Hid; rw [HW0.out, ← Hres.out]; have := Blk.new (w.alloc (.cells #[.int .u8 0, .int .u8 0, .int .u8 0, .int .u8 0, .int .u8 0, .int .u8 0, .int .u8 0, .int .u8 0, .int .u8 0, .int .u8 0, .int .u8 0, .int .u8 0, .int .u8 0, .int .u8 0, .int .u8 0, .int .u8 0] 24)) 24 #[.int .u8 0, .int .u8 0, .int .u8 0, .int .u8 0, .int .u8 0, .int .u8 0, .int .u8 0, .int .u8 0, .int .u8 0, .int .u8 0, .int .u8 0, .int .u8 0, .int .u8 0, .int .u8 0, .int .u8 0, .int .u8 0]; simpa using this
  have HW0' := HW0.out
  go_enter Try.func16, Try.ntmps16
  go_upto_region 3 with fail
  rw [← HW0']
  clear HW0' hW0
  go_wp2_with (first
    | (refine wpList_load_blk rfl _ _ rfl (w.heap.size + 1) rfl 24 res _ HB1.out Try.underlying24 rfl (by rw [Try.size16, hrl]) ?_)
    | (refine wpList_store_blk rfl _ _ _ rfl w.heap.size res rfl rfl 24 _ HB0.out (by rw [Try.size16, hrl]) (by simp [hrl]) hra w.heap.size W0 (Below.refl _ _) (Nat.le_refl _) ?_; intro w5 HR6 hb5 hgr5))
  refine bodyPost_ret (results_cell_row rfl _ _ w.heap.size _ res _ _ rfl HR6 Try.underlying24 rfl (by rw [Try.size16, hrl])) rfl ?_
  exact ⟨by rw [Hres.out], Below.trans hg0 hb5⟩

def preF (ls : List (List UInt8)) (i : Nat) : List UInt8 := (ls.take i).flatten
theorem preF_succ (ls : List (List UInt8)) (i : Nat) (h : i < ls.length) : preF ls (i + 1) = preF ls i ++ ls.getD i [] := by
  unfold preF
  rw [List.take_succ_eq_append_getElem h, List.flatten_append, List.getD_eq_getElem?_getD, List.getElem?_eq_getElem h]
  simp

set_option maxRecDepth 100000 in
set_option maxHeartbeats 4000000 in
theorem walk_PolyParts (key : List UInt8) (A : Option Addr) (l c : Nat) (ls : List (List UInt8)) (w : World) (hk : key.length = 32) (hs : RowsB w A l c ls) :
    Calls Try.prog 4 #[.agg (key.map b8).toArray, .slice A l c] w fun e w' => e = .returned (.bool true) ∧ Below w.heap.size w w' := by
  have hlen := lib_hid hs.1
  have hlc := hs.2.1
  by_cases hbig : 20 < l
  · have h1 : (20 : Int) < l := by omega
    clear hs hk
    go_enter Try.func4, Try.ntmps4
    go_wp2
    go_ret
    exact ⟨rfl, (Grows.refl w).alloc _⟩
  · have h1 : ¬ (20 : Int) < l := by omega
    obtain ⟨W0, HW0, hg0⟩ : ∃ W0 : World, Hid (W0 = w.alloc (.cells (key.map b8).toArray 22)) ∧ Grows w W0 := ⟨_, lib_hid rfl, (Grows.refl w).alloc _⟩
    have HK0 : Hid (Blk W0 w.heap.size 22 (key.map b8).toArray) := by unfold Hid; rw [HW0.out]; exact Blk.new _ _ _
    have keyl := lib_hid hk
    have HS0 := lib_hid (hs.grows hg0)
    have Hnew : Hid (∀ W, Calls Try.prog 14 #[.agg (key.map b8).toArray] W fun e w' => ∃ g, e = .returned (.pointer (some ⟨g, 0, none⟩)) ∧ Grows W w' ∧ PSt w' W.heap.size g none (kr0 key) (kr1 key) (ks0 key) (ks1 key) []) := pnew_any key hk
    have Hps : Hid (∀ (B : Option Addr) (m d : Nat) (xs : List UInt8) W, SB W B m d xs → m ≤ 1000000 → Calls Try.prog 9 #[.agg (key.map b8).toArray, .slice B m d] W fun e w' => e = .returned (.agg ((polyF key xs).map b8).toArray) ∧ Grows W w') := fun B m d xs W h hm => poly_any key xs hk B m d W h hm
    have HW0' := HW0.out
    clear hs hk
    go_enter Try.func4, Try.ntmps4
    go_upto_region 3 with fail
    rw [← HW0']
    clear HW0'
    go_wp2_with (refine wpList_load_blk rfl _ _ rfl w.heap.size rfl 22 (key.map b8).toArray _ HK0.out Try.underlying22 rfl (by rw [Try.size32k]; simp [keyl.out]) ?_)
    refine (Hnew.out W0).mono ?_
    rintro e w1 ⟨g, rfl, hg1, hP1⟩
    have HP1 := lib_hid hP1
    have hgb : W0.heap.size ≤ g := hP1.1
    clear hP1
    go_wp2_with fail
    go_loopw [4, 6, 7] (fun v4 v iv wr => ∃ (i n ce : Nat) (C : Option Addr) (rb : Option Nat), i ≤ l ∧ iv = .int .i64 (i : Int) ∧ v = .slice C n ce ∧ v4 = .bool false ∧ n ≤ 100 * i ∧ Grows W0 wr ∧ Hid (n = (preF ls i).length) ∧ Hid (OwnAt wr W0.heap.size C n ce ((preF ls i).map b8)) ∧ Hid (PSt wr W0.heap.size g rb (kr0 key) (kr1 key) (ks0 key) (ks1 key) (preF ls i)) ∧ Hid (blkOf C ≠ some g) ∧ Hid (∀ b, blkOf C = some b → rb ≠ some b)) (fun _ _ iv _ => l - (intOf iv).toNat)
    case atStart => exact ⟨0, 0, 0, none, none, by omega, rfl, rfl, rfl, by omega, hg1, lib_hid rfl, OwnAt.nil _ _, HP1, lib_hid (fun h => by cases h), lib_hid (fun b h => by cases h)⟩
    case round =>
      obtain ⟨i, n, ce, C, rb, hi, rfl, rfl, rfl, hn, hgr, Hn, HO, HP, Hne, Hrb⟩ := hrel
      by_cases hlt : i < l
      · have hki : (i : Int) < l := by omega
        obtain ⟨row, Hrow⟩ : ∃ x, Hid (ls.getD i [] = x) := ⟨_, lib_hid rfl⟩
        obtain ⟨bA, oA, rfl, hbA, hcA⟩ := HS0.out.2.2.2.2 (by omega)
        obtain ⟨Ai, ci, hc1, hc2⟩ := hcA i hlt
        rw [Hrow.out] at hc1 hc2
        obtain ⟨m, Hm⟩ : ∃ m, Hid (row.length = m) := ⟨_, lib_hid rfl⟩
        rw [Hm.out] at hc1 hc2
        have HSi : Hid (SB W0 Ai m ci row) := hc2
        have HCi : Hid (∀ W, Grows W0 W → W.cell? ⟨bA, oA + i, none⟩ = some (.slice Ai m ci)) := fun W hW => (hW.cell (p := ⟨bA, oA + i, none⟩) hbA).trans hc1
        clear hc1 hc2 hcA
        have q1 := HCi.out wr hgr
        by_cases hbg : 100 < m
        · have h100 : (100 : Int) < m := by omega
          have hgw := hg0.trans hgr
          clear HP1
          go_wp2
          go_ret
          exact ⟨rfl, hgw⟩
        · have h100 : ¬ (100 : Int) < m := by omega
          obtain ⟨nx, Hnx⟩ : ∃ x, Hid (preF ls i ++ row = x) := ⟨_, lib_hid rfl⟩
          have Hsucc : Hid (preF ls (i + 1) = nx) := by unfold Hid; rw [preF_succ ls i (by rw [hlen.out]; exact hlt), Hrow.out, Hnx.out]
          have hle := hgr.le
          have hPlt := HP.out.lt
          clear HP1
          go_wp2_with fail
          refine (pwrite_any g W0.heap.size rb (kr0 key) (kr1 key) (ks0 key) (ks1 key) (preF ls i) row Ai m ci wr HP.out (HSi.out.grows hgr) (by omega) hle).mono ?_
          rintro e w2 ⟨rfl, rb2, hP2, hK2, hloc2⟩
          rw [Hnx.out] at hP2
          have HP2 := lib_hid hP2
          have HO2 : Hid (OwnAt w2 W0.heap.size C n ce ((preF ls i).map b8)) := HO.out.keeps hK2 (fun p hp e => by
            have hb : blkOf C = some p.block := by rw [hp]; rfl
            rcases e with e | e
            · exact Hne.out (by rw [hb, e])
            · exact Hrb.out p.block hb e)
          have hb2 : Below W0.heap.size wr w2 := hK2.below hle (fun k hk => by
            rcases hk with e | e
            · rw [e]; exact hgb
            · exact (hPlt.2 k e).1)
          have hgr2 : Grows W0 w2 := Below.trans hgr hb2
          have hrb2 : Hid (∀ b, blkOf C = some b → rb2 ≠ some b) := fun b hb e => by
            rcases hloc2 with h | ⟨k, h, hk⟩
            · exact Hrb.out b hb (by rw [← h]; exact e)
            · rw [h] at e
              have := Option.some.inj e
              obtain ⟨p, hp, hpb⟩ := Option.map_eq_some_iff.1 hb
              have := HO.out.lt p hp
              omega
          have hP2lt := HP2.out.lt
          have q2 := HCi.out w2 hgr2
          have hle2 := hgr2.le
          clear hP2 hK2 hloc2 hb2 HO HP Hrb hPlt q1
          go_upto_region 12 with (at_builtin; refine wpList_append_at rfl _ _ 23 23 rfl W0.heap.size 5 (.int .u8 0) 1 Try.underlying23 Try.infoByte rfl C n ce _ rfl HO2.out (.slice Ai m ci) rfl m _ ((HSi.out.grows hgr2).src Try.underlying23 (b8_one _)) (by omega) (by omega) hle2 ?_; intro C3 c3 w3 hO3 hG3 hloc3)
          rw [← List.map_append, Hnx.out] at hO3
          obtain ⟨n3, Hn3, hn3⟩ : ∃ x, Hid (n + m = x) ∧ x ≤ 100 * (i + 1) := ⟨_, lib_hid rfl, by omega⟩
          rw [Hn3.out] at hO3 ⊢
          have Hn3' : Hid (n3 = nx.length) := by unfold Hid; rw [← Hn3.out, ← Hnx.out, List.length_append, Hn.out, Hm.out]
          have HO3 := lib_hid hO3
          have hk3 := keeps_grown hG3
          have HP3 : Hid (PSt w3 W0.heap.size g rb2 (kr0 key) (kr1 key) (ks0 key) (ks1 key) nx) := HP2.out.keeps hk3 (fun e => Hne.out e) (fun b hb e => hrb2.out b e hb)
          have hgr3 : Grows W0 w3 := hgr2.grown hG3 (fun k e => by obtain ⟨p, hp, hpb⟩ := Option.map_eq_some_iff.1 e; have := HO2.out.base_le p hp; omega)
          have Hne3 : Hid (blkOf C3 ≠ some g) := fun e => by
            rcases hloc3 with h | h
            · exact Hne.out (by rw [← h]; exact e)
            · rw [h] at e; have := Option.some.inj e; have := hP2lt.1; omega
          have Hrb3 : Hid (∀ b, blkOf C3 = some b → rb2 ≠ some b) := fun b hb e => by
            rcases hloc3 with h | h
            · exact hrb2.out b (by rw [← h]; exact hb) e
            · rw [h] at hb
              have h5 := Option.some.inj hb
              have h6 := (hP2lt.2 b e).2
              omega
          have HK3 := lib_hid (HK0.out.grows hgr3)
          obtain ⟨v, Hv, vl⟩ : ∃ x, Hid (polyF key nx = x) ∧ Hid (x.length = 16) := ⟨_, lib_hid rfl, polyF_len _ _⟩
          have HsS : Hid (∀ W, Grows w3 W → Calls Try.prog 16 #[.pointer (some ⟨g, 0, none⟩)] W fun e w' => e = .returned (.agg (v.map b8).toArray) ∧ Grows W w') := fun W hW => by
            rw [← Hv.out]; exact psum_any g W0.heap.size rb2 (kr0 key) (kr1 key) (ks0 key) (ks1 key) nx W (HP3.out.grows hW)
          have HsP : Hid (∀ W, Grows w3 W → Calls Try.prog 9 #[.agg (key.map b8).toArray, .slice C3 n3 c3] W fun e w' => e = .returned (.agg (v.map b8).toArray) ∧ Grows W w') := fun W hW => by
            rw [← Hv.out]; exact Hps.out C3 n3 c3 nx W ((show SB w3 C3 n3 c3 nx from HO3.out.row).grows hW) (by omega)
          clear hO3 hG3 hloc3 hk3 q2 hP2lt HP2 HO2 hrb2 hgr2
          apply wp_region_mono 6 ((.is _, []) :: (.is (.agg ((v).map b8).toArray), []) :: (.is (.agg ((key).map b8).toArray), []) :: (.is _, []) :: (.is (.agg ((v).map b8).toArray), []) :: (.is (.bool false), []) :: []) (by kernel_rfl) (by kernel_rfl)
          apply Mono.is0
          · kernel_rfl
          · intro W hW
            go_wp2
            refine ⟨rfl, rfl, Grows.refl _, ?_⟩
            unfold Oper.valAt
            go_simp
            rfl
          intro k1 a1 hk1 ha1
          simp only [Nat.reduceAdd] at hk1
          simp only [Act.put, List.setIfInBounds_toArray, List.set_cons_succ, List.set_cons_zero] at ha1
          subst hk1 ha1
          apply Mono.is0
          · kernel_rfl
          · intro W hW 
            go_wp2_with fail
            refine (HsS.out W hW).mono ?_
            rintro e w1 ⟨rfl, hg1⟩
            go_wp2
            exact ⟨rfl, rfl, hg1, rfl⟩
          intro k1 a1 hk1 ha1
          simp only [Nat.reduceAdd] at hk1
          simp only [Act.put, List.setIfInBounds_toArray, List.set_cons_succ, List.set_cons_zero] at ha1
          subst hk1 ha1
          apply Mono.is0
          · kernel_rfl
          · intro W hW 
            go_wp2_with (refine wpList_load_blk (by kernel_rfl) _ _ rfl (w.heap.size) rfl 22 ((key).map b8).toArray _ (HK3.out.grows hW) Try.underlying22 rfl (by rw [Try.size32k]; simp [keyl.out]) ?_)
            exact ⟨rfl, rfl, Grows.refl _, rfl⟩
          intro k1 a1 hk1 ha1
          simp only [Nat.reduceAdd] at hk1
          simp only [Act.put, List.setIfInBounds_toArray, List.set_cons_succ, List.set_cons_zero] at ha1
          subst hk1 ha1
          apply Mono.is0
          · kernel_rfl
          · intro W hW
            go_wp2
            refine ⟨rfl, rfl, Grows.refl _, ?_⟩
            unfold Oper.valAt
            go_simp
            rfl
          intro k1 a1 hk1 ha1
          simp only [Nat.reduceAdd] at hk1
          simp only [Act.put, List.setIfInBounds_toArray, List.set_cons_succ, List.set_cons_zero] at ha1
          subst hk1 ha1
          apply Mono.is0
          · kernel_rfl
          · intro W hW 
            go_wp2_with fail
            refine (HsP.out W hW).mono ?_
            rintro e w1 ⟨rfl, hg1⟩
            go_wp2
            exact ⟨rfl, rfl, hg1, rfl⟩
          intro k1 a1 hk1 ha1
          simp only [Nat.reduceAdd] at hk1
          simp only [Act.put, List.setIfInBounds_toArray, List.set_cons_succ, List.set_cons_zero] at ha1
          subst hk1 ha1
          apply Mono.is0
          · kernel_rfl
          · intro W hW 
            have he : (Op.equalIn 10000 24 (.agg ((v).map b8).toArray) (.agg ((v).map b8).toArray)).run Try.prog W = .ok true W := (run_equalIn_bytes W 9998 24 5 16 (v) (v) vl.out vl.out Try.arr16 Try.underlying5 Try.sizeByte).trans (by rw [beq_self_eq_true])
            go_wp2
            refine ⟨rfl, rfl, Grows.refl _, ?_⟩
            unfold Oper.valAt
            go_simp
          intro k1 a1 hk1 ha1
          simp only [Nat.reduceAdd] at hk1
          simp only [Act.put, List.setIfInBounds_toArray, List.set_cons_succ, List.set_cons_zero] at ha1
          subst hk1 ha1
          refine Mono.done ?_
          intro wm hgm
          simp only [allF, List.drop_succ_cons, List.drop_nil]
          have hgr4 := hgr3.trans hgm
          have HO4 := lib_hid (HO3.out.grows hgm)
          have HP4 := lib_hid (HP3.out.grows hgm)
          clear HsS HsP hgm HO3 HP3 HK3
          go_wp2
          go_roundw
          case rel => exact ⟨i + 1, n3, c3, C3, rb2, by omega, by go_num, rfl, rfl, hn3, hgr4, by unfold Hid; rw [Hsucc.out]; exact Hn3'.out, by unfold Hid; rw [Hsucc.out]; exact HO4.out, by unfold Hid; rw [Hsucc.out]; exact HP4.out, Hne3, Hrb3⟩
          case measure => simp [intOf]; omega
      · have hki : ¬ (i : Int) < l := by omega
        obtain ⟨v, Hv, vl⟩ : ∃ x, Hid (polyF key (preF ls i) = x) ∧ Hid (x.length = 16) := ⟨_, lib_hid rfl, polyF_len _ _⟩
        have hgw := hg0.trans hgr
        clear HP1
        go_wp2_with fail
        refine (pwrite_nil _ _ _ _).mono ?_
        rintro e w2 ⟨rfl, rfl⟩
        go_upto_region 16 with fail
        obtain ⟨w3, HW3⟩ : ∃ X : World, Hid (X = wr.alloc (.cells #[.int .u8 1] 5)) := ⟨_, lib_hid rfl⟩
        rw [← HW3.out]
        have hg3 : Grows wr w3 := by rw [HW3.out]; exact (Grows.refl _).alloc _
        have HK3 := lib_hid (HK0.out.grows (hgr.trans hg3))
        have HsS : Hid (∀ W, Grows w3 W → Calls Try.prog 16 #[.pointer (some ⟨g, 0, none⟩)] W fun e w' => e = .returned (.agg (v.map b8).toArray) ∧ Grows W w') := fun W hW => by
          rw [← Hv.out]; exact psum_any g W0.heap.size rb (kr0 key) (kr1 key) (ks0 key) (ks1 key) (preF ls i) W (HP.out.grows (hg3.trans hW))
        have HsP : Hid (∀ W, Grows w3 W → Calls Try.prog 9 #[.agg (key.map b8).toArray, .slice C n ce] W fun e w' => e = .returned (.agg (v.map b8).toArray) ∧ Grows W w') := fun W hW => by
          rw [← Hv.out]; exact Hps.out C n ce (preF ls i) W ((show SB wr C n ce (preF ls i) from HO.out.row).grows (hg3.trans hW)) (by omega)
        have hgw3 := hgw.trans hg3
        clear HO HP hg3
        apply wp_region_mono 16 ((.is _, []) :: (.is (.agg ((v).map b8).toArray), []) :: (.is (.agg ((key).map b8).toArray), []) :: (.is _, []) :: (.is (.agg ((v).map b8).toArray), []) :: (.is (.bool true), []) :: (.is _, []) :: (.is _, []) :: (.is (.agg #[.int .u8 0, .int .u8 0, .int .u8 0, .int .u8 0, .int .u8 0, .int .u8 0, .int .u8 0, .int .u8 0, .int .u8 0, .int .u8 0, .int .u8 0, .int .u8 0, .int .u8 0, .int .u8 0, .int .u8 0, .int .u8 0]), []) :: (.is _, []) :: (.is (.bool true), []) :: (.is _, []) :: (.is _, []) :: (.is (.bool true), []) :: (.is _, []) :: (.is _, []) :: []) (by kernel_rfl) (by kernel_rfl)
        apply Mono.is0
        · kernel_rfl
        · intro W hW
          go_wp2
          refine ⟨rfl, rfl, Grows.refl _, ?_⟩
          unfold Oper.valAt
          go_simp
          rfl
        intro k1 a1 hk1 ha1
        simp only [Nat.reduceAdd] at hk1
        simp only [Act.put, List.setIfInBounds_toArray, List.set_cons_succ, List.set_cons_zero] at ha1
        subst hk1 ha1
        apply Mono.is0
        · kernel_rfl
        · intro W hW 
          go_wp2_with fail
          refine (HsS.out W hW).mono ?_
          rintro e w1 ⟨rfl, hg1⟩
          go_wp2
          exact ⟨rfl, rfl, hg1, rfl⟩
        intro k1 a1 hk1 ha1
        simp only [Nat.reduceAdd] at hk1
        simp only [Act.put, List.setIfInBounds_toArray, List.set_cons_succ, List.set_cons_zero] at ha1
        subst hk1 ha1
        apply Mono.is0
        · kernel_rfl
        · intro W hW 
          go_wp2_with (refine wpList_load_blk (by kernel_rfl) _ _ rfl (w.heap.size) rfl 22 ((key).map b8).toArray _ (HK3.out.grows hW) Try.underlying22 rfl (by rw [Try.size32k]; simp [keyl.out]) ?_)
          exact ⟨rfl, rfl, Grows.refl _, rfl⟩
        intro k1 a1 hk1 ha1
        simp only [Nat.reduceAdd] at hk1
        simp only [Act.put, List.setIfInBounds_toArray, List.set_cons_succ, List.set_cons_zero] at ha1
        subst hk1 ha1
        apply Mono.is0
        · kernel_rfl
        · intro W hW
          go_wp2
          refine ⟨rfl, rfl, Grows.refl _, ?_⟩
          unfold Oper.valAt
          go_simp
          rfl
        intro k1 a1 hk1 ha1
        simp only [Nat.reduceAdd] at hk1
        simp only [Act.put, List.setIfInBounds_toArray, List.set_cons_succ, List.set_cons_zero] at ha1
        subst hk1 ha1
        apply Mono.is0
        · kernel_rfl
        · intro W hW 
          go_wp2_with fail
          refine (HsP.out W hW).mono ?_
          rintro e w1 ⟨rfl, hg1⟩
          go_wp2
          exact ⟨rfl, rfl, hg1, rfl⟩
        intro k1 a1 hk1 ha1
        simp only [Nat.reduceAdd] at hk1
        simp only [Act.put, List.setIfInBounds_toArray, List.set_cons_succ, List.set_cons_zero] at ha1
        subst hk1 ha1
        apply Mono.is0
        · kernel_rfl
        · intro W hW 
          have he : (Op.equalIn 10000 24 (.agg ((v).map b8).toArray) (.agg ((v).map b8).toArray)).run Try.prog W = .ok true W := (run_equalIn_bytes W 9998 24 5 16 (v) (v) vl.out vl.out Try.arr16 Try.underlying5 Try.sizeByte).trans (by rw [beq_self_eq_true])
          go_wp2
          refine ⟨rfl, rfl, Grows.refl _, ?_⟩
          unfold Oper.valAt
          go_simp
        intro k1 a1 hk1 ha1
        simp only [Nat.reduceAdd] at hk1
        simp only [Act.put, List.setIfInBounds_toArray, List.set_cons_succ, List.set_cons_zero] at ha1
        subst hk1 ha1
        iterate 2
          apply Mono.is0
          · kernel_rfl
          · intro W hW
            go_wp2
            refine ⟨rfl, rfl, Grows.refl _, ?_⟩
            unfold Oper.valAt
            go_simp
            rfl
          intro k1 a1 hk1 ha1
          simp only [Nat.reduceAdd] at hk1
          simp only [Act.put, List.setIfInBounds_toArray, List.set_cons_succ, List.set_cons_zero] at ha1
          subst hk1 ha1
        apply Mono.is0
        · kernel_rfl
        · intro W hW 
          go_wp2_with fail
          refine (psum_nil W).mono ?_
          rintro e w1 ⟨rfl, hg1⟩
          go_wp2
          exact ⟨rfl, rfl, hg1, rfl⟩
        intro k1 a1 hk1 ha1
        simp only [Nat.reduceAdd] at hk1
        simp only [Act.put, List.setIfInBounds_toArray, List.set_cons_succ, List.set_cons_zero] at ha1
        subst hk1 ha1
        apply Mono.is0
        · kernel_rfl
        · intro W hW
          go_wp2
          refine ⟨rfl, rfl, Grows.refl _, ?_⟩
          unfold Oper.valAt
          go_simp
          rfl
        intro k1 a1 hk1 ha1
        simp only [Nat.reduceAdd] at hk1
        simp only [Act.put, List.setIfInBounds_toArray, List.set_cons_succ, List.set_cons_zero] at ha1
        subst hk1 ha1
        apply Mono.is0
        · kernel_rfl
        · intro W hW 
          have he := zz_eq W
          go_wp2
          refine ⟨rfl, rfl, Grows.refl _, ?_⟩
          unfold Oper.valAt
          go_simp
        intro k1 a1 hk1 ha1
        simp only [Nat.reduceAdd] at hk1
        simp only [Act.put, List.setIfInBounds_toArray, List.set_cons_succ, List.set_cons_zero] at ha1
        subst hk1 ha1
        iterate 2
          apply Mono.is0
          · kernel_rfl
          · intro W hW
            go_wp2
            refine ⟨rfl, rfl, Grows.refl _, ?_⟩
            unfold Oper.valAt
            go_simp
            rfl
          intro k1 a1 hk1 ha1
          simp only [Nat.reduceAdd] at hk1
          simp only [Act.put, List.setIfInBounds_toArray, List.set_cons_succ, List.set_cons_zero] at ha1
          subst hk1 ha1
        apply Mono.is0
        · kernel_rfl
        · intro W hW 
          go_wp2_with fail
          refine (awake5_any W).mono ?_
          rintro e w1 ⟨rfl, hg1⟩
          go_wp2
          exact ⟨rfl, rfl, hg1, rfl⟩
        intro k1 a1 hk1 ha1
        simp only [Nat.reduceAdd] at hk1
        simp only [Act.put, List.setIfInBounds_toArray, List.set_cons_succ, List.set_cons_zero] at ha1
        subst hk1 ha1
        iterate 2
          apply Mono.is0
          · kernel_rfl
          · intro W hW
            go_wp2
            refine ⟨rfl, rfl, Grows.refl _, ?_⟩
            unfold Oper.valAt
            go_simp
            rfl
          intro k1 a1 hk1 ha1
          simp only [Nat.reduceAdd] at hk1
          simp only [Act.put, List.setIfInBounds_toArray, List.set_cons_succ, List.set_cons_zero] at ha1
          subst hk1 ha1
        refine Mono.done ?_
        intro wm hgm
        simp only [allF, List.drop_succ_cons, List.drop_nil]
        go_wp2
        go_ret
        exact ⟨rfl, hgw3.trans hgm⟩

end Go.Proofs.Ytilgkadochhkjaa
