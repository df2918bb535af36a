/-
  The walks of the laws of layer 5: PolyNought, PolyClamp.
-/
import Derived.Test.YtilgkadochhkjaaPolyLe
import Derived.Deep.Cut
namespace Go.Proofs.Ytilgkadochhkjaa
open Go Go.RowKit
set_option linter.unusedSimpArgs false


def mixL (k : Nat) (xs ys : List UInt8) : List UInt8 := xs.take k ++ ys.drop k
theorem mixL_len (k : Nat) (xs ys : List UInt8) (h : xs.length = ys.length) : (mixL k xs ys).length = ys.length := by unfold mixL; rw [List.length_append, List.length_take, List.length_drop]; omega
theorem mixL_all (k : Nat) (xs ys : List UInt8) (h : xs.length = ys.length) (hk : ys.length ≤ k) : mixL k xs ys = xs := by unfold mixL; rw [List.take_of_length_le (by omega), List.drop_of_length_le hk, List.append_nil]
theorem mixL_set (k : Nat) (xs ys : List UInt8) (h : xs.length = ys.length) (hk : k < ys.length) : (mixL k xs ys).set k (xs.getD k 0) = mixL (k + 1) xs ys := by
  have h2 : (xs.take k).length = k := by rw [List.length_take]; omega
  unfold mixL
  rw [List.set_append_right _ _ (by omega), h2, Nat.sub_self, List.drop_eq_getElem_cons hk, List.set_cons_zero, List.take_succ_eq_append_getElem (by omega), List.append_assoc, List.getD_eq_getElem?_getD, List.getElem?_eq_getElem (by omega)]
  rfl
theorem cell8 {w : World} {g : Nat} {t : TypeId} {bs : List UInt8} (h : Blk w g t (bs.map b8).toArray) (i : Nat) (hi : i < bs.length) : w.cell? ⟨g, i, none⟩ = some (b8 (bs.getD i 0)) := by
  rw [h.cell, List.getElem?_toArray, List.getElem?_map, List.getElem?_eq_getElem hi, List.getD_eq_getElem?_getD, List.getElem?_eq_getElem hi]
  rfl
theorem blk_set8 {w : World} {g : Nat} {t : TypeId} {s : List UInt8} (h : Blk w g t (s.map b8).toArray) (i : Nat) (u : UInt8) : Blk (w.setCell ⟨g, i, none⟩ (b8 u)) g t ((s.set i u).map b8).toArray := by
  have := h.set i (b8 u)
  rw [List.setIfInBounds_toArray, ← List.map_set] at this
  exact this
theorem getD_zeros (n k : Nat) : (List.replicate n (0 : UInt8)).getD k 0 = 0 := by
  rw [List.getD_eq_getElem?_getD, List.getElem?_replicate]; split <;> rfl
theorem getD_drop (xs : List UInt8) (n k : Nat) : (xs.drop n).getD k 0 = xs.getD (n + k) 0 := by rw [List.getD_eq_getElem?_getD, List.getD_eq_getElem?_getD, List.getElem?_drop]
theorem getD_take (xs : List UInt8) (n k : Nat) (h : k < n) : (xs.take n).getD k 0 = xs.getD k 0 := by rw [List.getD_eq_getElem?_getD, List.getD_eq_getElem?_getD, List.getElem?_take, if_pos h]
theorem getD_left (xs ys : List UInt8) (k : Nat) (h : k < xs.length) : (xs ++ ys).getD k 0 = xs.getD k 0 := by rw [List.getD_eq_getElem?_getD, List.getD_eq_getElem?_getD, List.getElem?_append_left h]
theorem getD_right (xs ys : List UInt8) (k : Nat) (h : xs.length ≤ k) : (xs ++ ys).getD k 0 = ys.getD (k - xs.length) 0 := by rw [List.getD_eq_getElem?_getD, List.getD_eq_getElem?_getD, List.getElem?_append_right h]

set_option maxRecDepth 100000 in
set_option maxHeartbeats 4000000 in
theorem walk_PolyNought (key : List UInt8) (A : Option Addr) (l c : Nat) (bs : List UInt8) (w : World) (hk : key.length = 32) (hs : SB w A l c bs) :
    Calls Try.prog 5 #[.agg (key.map b8).toArray, .slice A l c] w fun e w' => e = .returned (.bool true) ∧ Below w.heap.size w w' := by
  have hlen := lib_hid hs.len
  by_cases hbig : 600 < l
  · have h1 : (600 : Int) < l := by omega
    clear hs hk
    go_enter Try.func5, Try.ntmps5
    go_wp2
    go_ret
    exact ⟨rfl, (Grows.refl w).alloc _⟩
  · have h1 : ¬ (600 : Int) < l := by omega
    obtain ⟨W0, HW0, hg0⟩ : ∃ W0 : World, Hid (W0 = w.alloc (.cells (key.map b8).toArray 22)) ∧ Grows w W0 := ⟨_, lib_hid rfl, (Grows.refl w).alloc _⟩
    have HK0 : Hid (Blk W0 w.heap.size 22 (key.map b8).toArray) := by unfold Hid; rw [HW0.out]; exact Blk.new _ _ _
    have keyl := lib_hid hk
    obtain ⟨sec, Hsec, secl⟩ : ∃ x, Hid (key.drop 16 = x) ∧ Hid (x.length = 16) := ⟨_, lib_hid rfl, by unfold Hid; rw [List.length_drop, hk]⟩
    obtain ⟨nk, Hnk, nkl⟩ : ∃ x, Hid ((List.replicate 16 (0 : UInt8)) ++ sec = x) ∧ Hid (x.length = 32) := ⟨_, lib_hid rfl, by unfold Hid; rw [List.length_append, secl.out]; rfl⟩
    have HsN : Hid (∀ W, SB W A l c bs → Calls Try.prog 9 #[.agg (nk.map b8).toArray, .slice A l c] W fun e w' => e = .returned (.agg (sec.map b8).toArray) ∧ Grows W w') := fun W h => by
      have := poly_any nk bs nkl.out A l c W h (by omega)
      rw [← Hnk.out, ← Hsec.out, poly_nought key bs hk] at this
      rw [← Hnk.out, ← Hsec.out]; exact this
    have Hs0 : Hid (∀ W, Calls Try.prog 9 #[.agg (key.map b8).toArray, .slice none 0 0] W fun e w' => e = .returned (.agg (sec.map b8).toArray) ∧ Grows W w') := fun W => by
      have := poly_any key [] hk none 0 0 W (SB.nil W) (by omega)
      rw [poly_nothing key hk, Hsec.out] at this; exact this
    obtain ⟨res, Hres, hrl, hra⟩ : ∃ r : Array Value, Hid ((key.map b8).toArray = r) ∧ r.size = 32 ∧ r.all (·.oneCell') = true := ⟨_, lib_hid rfl, by simp [hk], cells_all _⟩
    have HKr : Hid (Blk W0 w.heap.size 22 res) := by unfold Hid; rw [← Hres.out]; exact HK0.out
    have HS0 := lib_hid (hs.grows hg0)
    have HW0' := HW0.out
    clear hs hk
    go_enter Try.func5, Try.ntmps5
    go_upto_region 3 with fail
    rw [← HW0']
    clear HW0'
    obtain ⟨g5, Hg5⟩ : ∃ x, Hid (W0.heap.size = x) := ⟨_, lib_hid rfl⟩
    go_upto_region 4 with (first
      | (refine wpList_load_blk rfl _ _ rfl w.heap.size rfl 22 res _ HKr.out Try.underlying22 rfl (by rw [Try.size32k, hrl]) ?_)
      | (refine wpList_store_blk rfl _ _ _ rfl W0.heap.size res rfl rfl 22 _ (Blk.new _ _ _) (by rw [Try.size32k, hrl]) (by simp [hrl]) hra W0.heap.size W0 ((Grows.refl W0).alloc _) (Nat.le_refl _) ?_; intro w4 H4 hb4 hgr4))
    rw [Hg5.out] at H4
    rw [Hg5.out]
    obtain ⟨g6, Hg6⟩ : ∃ x, Hid (w4.heap.size = x) := ⟨_, lib_hid rfl⟩
    obtain ⟨W2, HW2⟩ : ∃ X : World, Hid (X = w4.alloc (.cells #[.int .u8 0, .int .u8 0, .int .u8 0, .int .u8 0, .int .u8 0, .int .u8 0, .int .u8 0, .int .u8 0, .int .u8 0, .int .u8 0, .int .u8 0, .int .u8 0, .int .u8 0, .int .u8 0, .int .u8 0, .int .u8 0] 24)) := ⟨_, lib_hid rfl⟩
    go_upto_region 5 with fail
    rw [← HW2.out, Hg6.out]
    have h56 : g5 < g6 := by rw [← Hg6.out]; exact H4.lt
    have hg24 : Grows W0 W2 := by rw [HW2.out]; exact (show Grows W0 w4 from hb4).alloc _
    have hw5 : w.heap.size ≤ g5 := by rw [← Hg5.out]; exact hg0.le
    have S_n : Hid (Blk W2 g5 22 ((mixL 0 nk key).map b8).toArray) := by
      unfold Hid; rw [HW2.out, show mixL 0 nk key = key from rfl, Hres.out]; exact H4.alloc _
    have S_s : Hid (Blk W2 g6 24 ((mixL 0 sec (List.replicate 16 (0 : UInt8))).map b8).toArray) := by
      unfold Hid; rw [HW2.out, ← Hg6.out, show mixL 0 sec (List.replicate 16 (0 : UInt8)) = (List.replicate 16 (0 : UInt8)) from rfl, ← zeros16]; exact Blk.new _ _ _
    clear HKr H4 hb4 hgr4
    go_wp2_with fail
    go_loopw [7] (fun v wr => ∃ k : Nat, 0 ≤ k ∧ k ≤ 16 ∧ v = .int .i64 (k : Int) ∧ Grows W0 wr ∧ Hid (Blk wr (g5) 22 ((mixL k nk key).map b8).toArray) ∧ Hid (Blk wr (g6) 24 ((mixL k sec (List.replicate 16 (0 : UInt8))).map b8).toArray)) (fun v _ => 16 - (intOf v).toNat)
    case atStart => exact ⟨0, Nat.le_refl _, by omega, rfl, hg24, S_n, S_s⟩
    case round =>
      clear S_n S_s
      obtain ⟨k, hk0, hk, rfl, hgr, X_n, X_s⟩ := hrel
      by_cases hlt : k < 16
      · have hki : (k : Int) < 16 := by omega
        have co_n := cell8 X_n.out k (by rw [mixL_len _ _ _ (by rw [nkl.out, keyl.out])]; rw [keyl.out]; omega)
        have fo_n := X_n.out.frozen k
        obtain ⟨x_s, Hx_s⟩ : ∃ x, Hid ((key).getD (16 + k) 0 = x) := ⟨_, lib_hid rfl⟩
        have cr_s : wr.cell? ⟨w.heap.size, 16 + k, none⟩ = some (b8 x_s) := by
          rw [← Hx_s.out]; exact cell8 (HK0.out.grows hgr) _ (by rw [keyl.out]; omega)
        have co_s := cell8 X_s.out k (by rw [mixL_len _ _ _ (by rw [secl.out]; simp)]; simp; omega)
        have fo_s := X_s.out.frozen k
        obtain ⟨w2, Hw2⟩ : ∃ X : World, Hid (X = (wr.setCell ⟨g5, k, none⟩ (.int .u8 0)).setCell ⟨g6, k, none⟩ (.int .u8 x_s.toNat)) := ⟨_, lib_hid rfl⟩
        have hgr2 : Grows W0 w2 := by
          rw [Hw2.out]
          exact (hgr.setCell (p := ⟨g5, k, none⟩) (by show W0.heap.size ≤ g5; rw [← Hg5.out]; exact Nat.le_refl _) _).setCell (p := ⟨g6, k, none⟩) (by show W0.heap.size ≤ g6; rw [← Hg5.out] at h56; omega) _
        have Y_n : Hid (Blk w2 (g5) 22 ((mixL (k + 1) nk key).map b8).toArray) := by
          unfold Hid; rw [Hw2.out, ← mixL_set k nk key (by rw [nkl.out, keyl.out]) (by rw [keyl.out]; omega), show (nk).getD k 0 = 0 by rw [← Hnk.out, getD_left _ _ _ (by simp; omega), getD_zeros]]
          exact ((blk_set8 X_n.out k 0).far (p := ⟨g6, k, none⟩) (by show g5 ≠ g6; omega) _)
        have Y_s : Hid (Blk w2 (g6) 24 ((mixL (k + 1) sec (List.replicate 16 (0 : UInt8))).map b8).toArray) := by
          unfold Hid; rw [Hw2.out, ← mixL_set k sec (List.replicate 16 (0 : UInt8)) (by rw [secl.out]; simp) (by simp; omega), show (sec).getD k 0 = x_s by rw [← Hsec.out, getD_drop]; exact Hx_s.out]
          exact (blk_set8 (X_s.out.far (p := ⟨g5, k, none⟩) (by show g6 ≠ g5; omega) _) k x_s)
        have Hw2' := Hw2.out
        clear X_n X_s hgr
        go_wp2_with fail
        rw [← Hw2']
        clear Hw2'
        go_roundw
        case rel => exact ⟨k + 1, by omega, by omega, by go_num, hgr2, Y_n, Y_s⟩
        case measure => simp [intOf]; omega
      · have Hk : Hid (k = 16) := by unfold Hid; omega
        have FN : Hid (Blk wr g5 22 (nk.map b8).toArray) := by
          have := X_n; rw [Hk.out, show mixL 16 nk key = nk by rw [← Hnk.out]; unfold mixL; rw [List.take_left' (by simp), Hsec.out]] at this; exact this
        have F6 : Hid (Blk wr g6 24 (sec.map b8).toArray) := by
          have := X_s; rw [Hk.out, mixL_all 16 sec (List.replicate 16 (0 : UInt8)) (by rw [secl.out]; simp) (by simp)] at this; exact this
        clear X_n X_s
        go_wp2_with fail
        apply wp_region_mono 15 ((.is (.agg ((nk).map b8).toArray), []) :: (.is _, []) :: (.is (.agg ((sec).map b8).toArray), []) :: (.is (.agg ((sec).map b8).toArray), []) :: (.is (.bool true), []) :: (.is _, []) :: (.is (.agg ((key).map b8).toArray), []) :: (.is (.agg ((sec).map b8).toArray), []) :: (.is (.agg ((sec).map b8).toArray), []) :: (.is (.bool true), []) :: (.is _, []) :: (.is _, []) :: (.is (.bool true), []) :: (.is _, []) :: (.is _, []) :: []) (by kernel_rfl) (by kernel_rfl)
        apply Mono.is0
        · kernel_rfl
        · intro W hW 
          go_wp2_with (refine wpList_load_blk (by kernel_rfl) _ _ rfl (g5) rfl 22 ((nk).map b8).toArray _ (FN.out.grows hW) Try.underlying22 rfl (by rw [Try.size32k]; simp [nkl.out]) ?_)
          exact ⟨rfl, rfl, Grows.refl _, rfl⟩
        intro k1 a1 hk1 ha1
        simp only [Nat.reduceAdd] at hk1
        simp only [Act.put, List.setIfInBounds_toArray, List.set_cons_succ, List.set_cons_zero] at ha1
        subst hk1 ha1
        apply Mono.is0
        · kernel_rfl
        · intro W hW
          go_wp2
          refine ⟨rfl, rfl, Grows.refl _, ?_⟩
          unfold Oper.valAt
          go_simp
          rfl
        intro k1 a1 hk1 ha1
        simp only [Nat.reduceAdd] at hk1
        simp only [Act.put, List.setIfInBounds_toArray, List.set_cons_succ, List.set_cons_zero] at ha1
        subst hk1 ha1
        apply Mono.is0
        · kernel_rfl
        · intro W hW 
          go_wp2_with fail
          refine (HsN.out W (HS0.out.grows (hgr.trans hW))).mono ?_
          rintro e w1 ⟨rfl, hg1⟩
          go_wp2
          exact ⟨rfl, rfl, hg1, rfl⟩
        intro k1 a1 hk1 ha1
        simp only [Nat.reduceAdd] at hk1
        simp only [Act.put, List.setIfInBounds_toArray, List.set_cons_succ, List.set_cons_zero] at ha1
        subst hk1 ha1
        apply Mono.is0
        · kernel_rfl
        · intro W hW 
          go_wp2_with (refine wpList_load_blk (by kernel_rfl) _ _ rfl (g6) rfl 24 ((sec).map b8).toArray _ (F6.out.grows hW) Try.underlying24 rfl (by rw [Try.size16]; simp [secl.out]) ?_)
          exact ⟨rfl, rfl, Grows.refl _, rfl⟩
        intro k1 a1 hk1 ha1
        simp only [Nat.reduceAdd] at hk1
        simp only [Act.put, List.setIfInBounds_toArray, List.set_cons_succ, List.set_cons_zero] at ha1
        subst hk1 ha1
        apply Mono.is0
        · kernel_rfl
        · intro W hW 
          have he : (Op.equalIn 10000 24 (.agg ((sec).map b8).toArray) (.agg ((sec).map b8).toArray)).run Try.prog W = .ok true W := (run_equalIn_bytes W 9998 24 5 16 (sec) (sec) secl.out secl.out Try.arr16 Try.underlying5 Try.sizeByte).trans (by rw [beq_self_eq_true])
          go_wp2
          refine ⟨rfl, rfl, Grows.refl _, ?_⟩
          unfold Oper.valAt
          go_simp
        intro k1 a1 hk1 ha1
        simp only [Nat.reduceAdd] at hk1
        simp only [Act.put, List.setIfInBounds_toArray, List.set_cons_succ, List.set_cons_zero] at ha1
        subst hk1 ha1
        apply Mono.is0
        · kernel_rfl
        · intro W hW
          go_wp2
          refine ⟨rfl, rfl, Grows.refl _, ?_⟩
          unfold Oper.valAt
          go_simp
          rfl
        intro k1 a1 hk1 ha1
        simp only [Nat.reduceAdd] at hk1
        simp only [Act.put, List.setIfInBounds_toArray, List.set_cons_succ, List.set_cons_zero] at ha1
        subst hk1 ha1
        apply Mono.is0
        · kernel_rfl
        · intro W hW 
          go_wp2_with (refine wpList_load_blk (by kernel_rfl) _ _ rfl w.heap.size rfl 22 ((key).map b8).toArray _ (HK0.out.grows (hgr.trans hW)) Try.underlying22 rfl (by rw [Try.size32k]; simp [keyl.out]) ?_)
          exact ⟨rfl, rfl, Grows.refl _, rfl⟩
        intro k1 a1 hk1 ha1
        simp only [Nat.reduceAdd] at hk1
        simp only [Act.put, List.setIfInBounds_toArray, List.set_cons_succ, List.set_cons_zero] at ha1
        subst hk1 ha1
        apply Mono.is0
        · kernel_rfl
        · intro W hW 
          go_wp2_with fail
          refine (Hs0.out W).mono ?_
          rintro e w1 ⟨rfl, hg1⟩
          go_wp2
          exact ⟨rfl, rfl, hg1, rfl⟩
        intro k1 a1 hk1 ha1
        simp only [Nat.reduceAdd] at hk1
        simp only [Act.put, List.setIfInBounds_toArray, List.set_cons_succ, List.set_cons_zero] at ha1
        subst hk1 ha1
        apply Mono.is0
        · kernel_rfl
        · intro W hW 
          go_wp2_with (refine wpList_load_blk (by kernel_rfl) _ _ rfl (g6) rfl 24 ((sec).map b8).toArray _ (F6.out.grows hW) Try.underlying24 rfl (by rw [Try.size16]; simp [secl.out]) ?_)
          exact ⟨rfl, rfl, Grows.refl _, rfl⟩
        intro k1 a1 hk1 ha1
        simp only [Nat.reduceAdd] at hk1
        simp only [Act.put, List.setIfInBounds_toArray, List.set_cons_succ, List.set_cons_zero] at ha1
        subst hk1 ha1
        apply Mono.is0
        · kernel_rfl
        · intro W hW 
          have he : (Op.equalIn 10000 24 (.agg ((sec).map b8).toArray) (.agg ((sec).map b8).toArray)).run Try.prog W = .ok true W := (run_equalIn_bytes W 9998 24 5 16 (sec) (sec) secl.out secl.out Try.arr16 Try.underlying5 Try.sizeByte).trans (by rw [beq_self_eq_true])
          go_wp2
          refine ⟨rfl, rfl, Grows.refl _, ?_⟩
          unfold Oper.valAt
          go_simp
        intro k1 a1 hk1 ha1
        simp only [Nat.reduceAdd] at hk1
        simp only [Act.put, List.setIfInBounds_toArray, List.set_cons_succ, List.set_cons_zero] at ha1
        subst hk1 ha1
        iterate 2
          apply Mono.is0
          · kernel_rfl
          · intro W hW
            go_wp2
            refine ⟨rfl, rfl, Grows.refl _, ?_⟩
            unfold Oper.valAt
            go_simp
            rfl
          intro k1 a1 hk1 ha1
          simp only [Nat.reduceAdd] at hk1
          simp only [Act.put, List.setIfInBounds_toArray, List.set_cons_succ, List.set_cons_zero] at ha1
          subst hk1 ha1
        apply Mono.is0
        · kernel_rfl
        · intro W hW 
          go_wp2_with fail
          refine (awake5_any W).mono ?_
          rintro e w1 ⟨rfl, hg1⟩
          go_wp2
          exact ⟨rfl, rfl, hg1, rfl⟩
        intro k1 a1 hk1 ha1
        simp only [Nat.reduceAdd] at hk1
        simp only [Act.put, List.setIfInBounds_toArray, List.set_cons_succ, List.set_cons_zero] at ha1
        subst hk1 ha1
        iterate 2
          apply Mono.is0
          · kernel_rfl
          · intro W hW
            go_wp2
            refine ⟨rfl, rfl, Grows.refl _, ?_⟩
            unfold Oper.valAt
            go_simp
            rfl
          intro k1 a1 hk1 ha1
          simp only [Nat.reduceAdd] at hk1
          simp only [Act.put, List.setIfInBounds_toArray, List.set_cons_succ, List.set_cons_zero] at ha1
          subst hk1 ha1
        refine Mono.done ?_
        intro wm hgm
        simp only [allF, List.drop_succ_cons, List.drop_nil]
        go_wp2
        go_ret
        exact ⟨rfl, (hg0.trans hgr).trans hgm⟩


set_option maxRecDepth 100000 in
set_option maxHeartbeats 4000000 in
theorem walk_PolyClamp (key : List UInt8) (A : Option Addr) (l cA : Nat) (bs : List UInt8) (w : World) (hk : key.length = 32) (hs : SB w A l cA bs) :
    Calls Try.prog 7 #[.agg (key.map b8).toArray, .slice A l cA] w fun e w' => e = .returned (.bool true) ∧ Below w.heap.size w w' := by
  have hlen := lib_hid hs.len
  by_cases hbig : 600 < l
  · have h1 : (600 : Int) < l := by omega
    clear hs hk
    go_enter Try.func7, Try.ntmps7
    go_wp2
    go_ret
    exact ⟨rfl, (Grows.refl w).alloc _⟩
  · have h1 : ¬ (600 : Int) < l := by omega
    obtain ⟨W0, HW0, hg0⟩ : ∃ W0 : World, Hid (W0 = w.alloc (.cells (key.map b8).toArray 22)) ∧ Grows w W0 := ⟨_, lib_hid rfl, (Grows.refl w).alloc _⟩
    have HK0 : Hid (Blk W0 w.heap.size 22 (key.map b8).toArray) := by unfold Hid; rw [HW0.out]; exact Blk.new _ _ _
    have keyl := lib_hid hk
    obtain ⟨k16, Hk16, k16l⟩ : ∃ x, Hid (key.take 16 = x) ∧ Hid (x.length = 16) := ⟨_, lib_hid rfl, by unfold Hid; rw [List.length_take, hk]; rfl⟩
    obtain ⟨c, Hc, cl⟩ : ∃ x, Hid (clampF k16 = x) ∧ Hid (x.length = 16) := ⟨_, lib_hid rfl, by unfold Hid; rw [clampF_len]; exact k16l.out⟩
    obtain ⟨oth, Hoth, othl⟩ : ∃ x, Hid (c ++ key.drop 16 = x) ∧ Hid (x.length = 32) := ⟨_, lib_hid rfl, by unfold Hid; rw [List.length_append, cl.out, List.length_drop, hk]⟩
    obtain ⟨res6, Hres6, res6l⟩ : ∃ x, Hid (polyF key bs = x) ∧ Hid (x.length = 16) := ⟨_, lib_hid rfl, polyF_len _ _⟩
    have HsO : Hid (∀ W, SB W A l cA bs → Calls Try.prog 9 #[.agg (oth.map b8).toArray, .slice A l cA] W fun e w' => e = .returned (.agg (res6.map b8).toArray) ∧ Grows W w') := fun W h => by
      have := poly_any oth bs othl.out A l cA W h (by omega)
      rw [← Hoth.out, ← Hc.out, ← Hk16.out, poly_clamp key bs hk, Hres6.out] at this
      rw [← Hoth.out, ← Hc.out, ← Hk16.out]; exact this
    have HsK : Hid (∀ W, SB W A l cA bs → Calls Try.prog 9 #[.agg (key.map b8).toArray, .slice A l cA] W fun e w' => e = .returned (.agg (res6.map b8).toArray) ∧ Grows W w') := fun W h => by
      have := poly_any key bs hk A l cA W h (by omega)
      rw [Hres6.out] at this; exact this
    have Hck : Hid (∀ W, Calls Try.prog 11 #[.agg (k16.map b8).toArray] W fun e w' => e = .returned (.agg (c.map b8).toArray) ∧ Grows W w') := fun W => by rw [← Hc.out]; exact clamp_any k16 k16l.out W
    have Hcc : Hid (∀ W, Calls Try.prog 11 #[.agg (c.map b8).toArray] W fun e w' => e = .returned (.agg (c.map b8).toArray) ∧ Grows W w') := fun W => by
      have := clamp_any c cl.out W
      rw [← Hc.out, clamp_clamp _ k16l.out, Hc.out] at this; exact this
    obtain ⟨resk, Hresk, hrkl, hrka⟩ : ∃ r : Array Value, Hid ((key.map b8).toArray = r) ∧ r.size = 32 ∧ r.all (·.oneCell') = true := ⟨_, lib_hid rfl, by simp [hk], cells_all _⟩
    obtain ⟨cv, Hcv, hcvl, hcva⟩ : ∃ r : Array Value, Hid ((c.map b8).toArray = r) ∧ r.size = 16 ∧ r.all (·.oneCell') = true := ⟨_, lib_hid rfl, by simp [cl.out], cells_all _⟩
    have HS0 := lib_hid (hs.grows hg0)
    have HW0' := HW0.out
    clear hs hk
    go_enter Try.func7, Try.ntmps7
    go_upto_region 3 with fail
    rw [← HW0']
    clear HW0'
    obtain ⟨g5, Hg5⟩ : ∃ x, Hid (W0.heap.size = x) := ⟨_, lib_hid rfl⟩
    obtain ⟨W1, HW1⟩ : ∃ X : World, Hid (X = W0.alloc (.cells #[.int .u8 0, .int .u8 0, .int .u8 0, .int .u8 0, .int .u8 0, .int .u8 0, .int .u8 0, .int .u8 0, .int .u8 0, .int .u8 0, .int .u8 0, .int .u8 0, .int .u8 0, .int .u8 0, .int .u8 0, .int .u8 0] 24)) := ⟨_, lib_hid rfl⟩
    go_upto_region 4 with fail
    rw [← HW1.out, Hg5.out]
    have hg01 : Grows W0 W1 := by rw [HW1.out]; exact (Grows.refl _).alloc _
    have S_h : Hid (Blk W1 g5 24 ((mixL 0 k16 (List.replicate 16 (0 : UInt8))).map b8).toArray) := by
      unfold Hid; rw [HW1.out, ← Hg5.out, show mixL 0 k16 (List.replicate 16 (0 : UInt8)) = (List.replicate 16 (0 : UInt8)) from rfl, ← zeros16]; exact Blk.new _ _ _
    go_wp2_with fail
    go_loopw [6] (fun v wr => ∃ k : Nat, 0 ≤ k ∧ k ≤ 16 ∧ v = .int .i64 (k : Int) ∧ Grows W0 wr ∧ Hid (Blk wr (g5) 24 ((mixL k k16 (List.replicate 16 (0 : UInt8))).map b8).toArray)) (fun v _ => 16 - (intOf v).toNat)
    case atStart => exact ⟨0, Nat.le_refl _, by omega, rfl, hg01, S_h⟩
    case round =>
      clear S_h
      obtain ⟨k, hk0, hk, rfl, hgr, X_h⟩ := hrel
      by_cases hlt : k < 16
      · have hki : (k : Int) < 16 := by omega
        obtain ⟨x_h, Hx_h⟩ : ∃ x, Hid ((key).getD (k) 0 = x) := ⟨_, lib_hid rfl⟩
        have cr_h : wr.cell? ⟨w.heap.size, k, none⟩ = some (b8 x_h) := by
          rw [← Hx_h.out]; exact cell8 (HK0.out.grows hgr) _ (by rw [keyl.out]; omega)
        have co_h := cell8 X_h.out k (by rw [mixL_len _ _ _ (by rw [k16l.out]; simp)]; simp; omega)
        have fo_h := X_h.out.frozen k
        obtain ⟨w2, Hw2⟩ : ∃ X : World, Hid (X = wr.setCell ⟨g5, k, none⟩ (.int .u8 x_h.toNat)) := ⟨_, lib_hid rfl⟩
        have hgr2 : Grows W0 w2 := by
          rw [Hw2.out]
          exact hgr.setCell (p := ⟨g5, k, none⟩) (by show W0.heap.size ≤ g5; rw [← Hg5.out]; exact Nat.le_refl _) _
        have Y_h : Hid (Blk w2 (g5) 24 ((mixL (k + 1) k16 (List.replicate 16 (0 : UInt8))).map b8).toArray) := by
          unfold Hid; rw [Hw2.out, ← mixL_set k k16 (List.replicate 16 (0 : UInt8)) (by rw [k16l.out]; simp) (by simp; omega), show (k16).getD k 0 = x_h by rw [← Hk16.out, getD_take _ _ _ (by omega)]; exact Hx_h.out]
          exact (blk_set8 X_h.out k x_h)
        have Hw2' := Hw2.out
        clear X_h hgr
        go_wp2_with fail
        rw [← Hw2']
        clear Hw2'
        go_roundw
        case rel => exact ⟨k + 1, by omega, by omega, by go_num, hgr2, Y_h⟩
        case measure => simp [intOf]; omega
      · have Hk : Hid (k = 16) := by unfold Hid; omega
        have F5 : Hid (Blk wr g5 24 (k16.map b8).toArray) := by
          have := X_h; rw [Hk.out, mixL_all 16 k16 (List.replicate 16 (0 : UInt8)) (by rw [k16l.out]; simp) (by simp)] at this; exact this
        clear X_h
        obtain ⟨wo, ewo⟩ : ∃ wo : World, wo = wr := ⟨_, rfl⟩
        subst ewo
        go_wp2_with (refine wpList_load_blk rfl _ _ rfl g5 rfl 24 (k16.map b8).toArray _ F5.out Try.underlying24 rfl (by rw [Try.size16]; simp [k16l.out]) ?_)
        refine (Hck.out wo).mono ?_
        rintro e w4 ⟨rfl, hg4⟩
        rw [Hcv.out]
        obtain ⟨g7, Hg7⟩ : ∃ x, Hid (w4.heap.size = x) := ⟨_, lib_hid rfl⟩
        have HK4 := lib_hid (HK0.out.grows (hgr.trans hg4))
        have HKr4 : Hid (Blk w4 w.heap.size 22 resk) := by unfold Hid; rw [← Hresk.out]; exact HK4.out
        have hgw4 := hg0.trans (hgr.trans hg4)
        go_upto_region 9 with (refine wpList_store_blk rfl _ _ _ rfl w4.heap.size cv rfl rfl 24 _ (Blk.new _ _ _) (by rw [Try.size16, hcvl]) (by simp [hcvl]) hcva w4.heap.size w4 ((Grows.refl w4).alloc _) (Nat.le_refl _) ?_; intro w5 H5 hb5 hgr5)
        rw [Hg7.out] at H5
        rw [Hg7.out]
        have hg45 : Grows w4 w5 := hb5
        have H7 : Hid (Blk w5 g7 24 (c.map b8).toArray) := by unfold Hid; rw [Hcv.out]; exact H5
        have HK5 := lib_hid (HK4.out.grows hg45)
        have HKr5 := lib_hid (HKr4.out.grows hg45)
        have HS5 := lib_hid (HS0.out.grows ((hgr.trans hg4).trans hg45))
        have hgw5 := hgw4.trans hg45
        obtain ⟨g8, Hg8⟩ : ∃ x, Hid (w5.heap.size = x) := ⟨_, lib_hid rfl⟩
        go_upto_region 10 with (first
          | (refine wpList_load_blk rfl _ _ rfl w.heap.size rfl 22 resk _ HKr5.out Try.underlying22 rfl (by rw [Try.size32k, hrkl]) ?_)
          | (refine wpList_store_blk rfl _ _ _ rfl w5.heap.size resk rfl rfl 22 _ (Blk.new _ _ _) (by rw [Try.size32k, hrkl]) (by simp [hrkl]) hrka w5.heap.size w5 ((Grows.refl w5).alloc _) (Nat.le_refl _) ?_; intro w6 H6 hb6 hgr6))
        rw [Hg8.out] at H6
        rw [Hg8.out]
        have hg56 : Grows w5 w6 := hb6
        have S_o : Hid (Blk w6 g8 22 ((mixL 0 oth key).map b8).toArray) := by unfold Hid; rw [show mixL 0 oth key = key from rfl, Hresk.out]; exact H6
        clear F5 HK4 HKr4 HKr5 hgw4 H5 hb5 hgr5 hg45 H6 hb6 hgr6 hgr hg4
        go_wp2_with fail
        go_loopw [9] (fun v wr => ∃ k : Nat, 0 ≤ k ∧ k ≤ 16 ∧ v = .int .i64 (k : Int) ∧ Grows w5 wr ∧ Hid (Blk wr (g8) 22 ((mixL k oth key).map b8).toArray)) (fun v _ => 16 - (intOf v).toNat)
        case atStart => exact ⟨0, Nat.le_refl _, by omega, rfl, hg56, S_o⟩
        case round =>
          clear S_o
          obtain ⟨k, hk0, hk, rfl, hgr, X_o⟩ := hrel
          by_cases hlt : k < 16
          · have hki : (k : Int) < 16 := by omega
            obtain ⟨x_o, Hx_o⟩ : ∃ x, Hid ((c).getD (k) 0 = x) := ⟨_, lib_hid rfl⟩
            have cr_o : wr.cell? ⟨g7, k, none⟩ = some (b8 x_o) := by
              rw [← Hx_o.out]; exact cell8 (H7.out.grows hgr) _ (by rw [cl.out]; omega)
            have co_o := cell8 X_o.out k (by rw [mixL_len _ _ _ (by rw [othl.out, keyl.out])]; rw [keyl.out]; omega)
            have fo_o := X_o.out.frozen k
            obtain ⟨w2, Hw2⟩ : ∃ X : World, Hid (X = wr.setCell ⟨g8, k, none⟩ (.int .u8 x_o.toNat)) := ⟨_, lib_hid rfl⟩
            have hgr2 : Grows w5 w2 := by
              rw [Hw2.out]
              exact hgr.setCell (p := ⟨g8, k, none⟩) (by show w5.heap.size ≤ g8; rw [← Hg8.out]; exact Nat.le_refl _) _
            have Y_o : Hid (Blk w2 (g8) 22 ((mixL (k + 1) oth key).map b8).toArray) := by
              unfold Hid; rw [Hw2.out, ← mixL_set k oth key (by rw [othl.out, keyl.out]) (by rw [keyl.out]; omega), show (oth).getD k 0 = x_o by rw [← Hoth.out, getD_left _ _ _ (by rw [cl.out]; omega)]; exact Hx_o.out]
              exact (blk_set8 X_o.out k x_o)
            have Hw2' := Hw2.out
            clear X_o hgr
            go_wp2_with fail
            rw [← Hw2']
            clear Hw2'
            go_roundw
            case rel => exact ⟨k + 1, by omega, by omega, by go_num, hgr2, Y_o⟩
            case measure => simp [intOf]; omega
          · have Hk : Hid (k = 16) := by unfold Hid; omega
            have F8 : Hid (Blk wr g8 22 (oth.map b8).toArray) := by
              have := X_o; rw [Hk.out, show mixL 16 oth key = oth by rw [← Hoth.out]; unfold mixL; rw [List.take_left' cl.out]] at this; exact this
            have F7 : Hid (Blk wr g7 24 (c.map b8).toArray) := H7.out.grows hgr
            have HK7 : Hid (Blk wr w.heap.size 22 (key.map b8).toArray) := HK5.out.grows hgr
            have HS7 : Hid (SB wr A l cA bs) := HS5.out.grows hgr
            clear X_o
            go_wp2_with fail
            apply wp_region_mono 17 ((.is (.agg ((c).map b8).toArray), []) :: (.is (.agg ((c).map b8).toArray), []) :: (.is (.agg ((c).map b8).toArray), []) :: (.is (.bool true), []) :: (.is _, []) :: (.is (.agg ((oth).map b8).toArray), []) :: (.is _, []) :: (.is (.agg ((res6).map b8).toArray), []) :: (.is (.agg ((key).map b8).toArray), []) :: (.is _, []) :: (.is (.agg ((res6).map b8).toArray), []) :: (.is (.bool true), []) :: (.is _, []) :: (.is _, []) :: (.is (.bool true), []) :: (.is _, []) :: (.is _, []) :: []) (by kernel_rfl) (by kernel_rfl)
            apply Mono.is0
            · kernel_rfl
            · intro W hW 
              go_wp2_with (refine wpList_load_blk (by kernel_rfl) _ _ rfl (g7) rfl 24 ((c).map b8).toArray _ (F7.out.grows hW) Try.underlying24 rfl (by rw [Try.size16]; simp [cl.out]) ?_)
              exact ⟨rfl, rfl, Grows.refl _, rfl⟩
            intro k1 a1 hk1 ha1
            simp only [Nat.reduceAdd] at hk1
            simp only [Act.put, List.setIfInBounds_toArray, List.set_cons_succ, List.set_cons_zero] at ha1
            subst hk1 ha1
            apply Mono.is0
            · kernel_rfl
            · intro W hW 
              go_wp2_with fail
              refine (Hcc.out W).mono ?_
              rintro e w1 ⟨rfl, hg1⟩
              go_wp2
              exact ⟨rfl, rfl, hg1, rfl⟩
            intro k1 a1 hk1 ha1
            simp only [Nat.reduceAdd] at hk1
            simp only [Act.put, List.setIfInBounds_toArray, List.set_cons_succ, List.set_cons_zero] at ha1
            subst hk1 ha1
            apply Mono.is0
            · kernel_rfl
            · intro W hW 
              go_wp2_with (refine wpList_load_blk (by kernel_rfl) _ _ rfl (g7) rfl 24 ((c).map b8).toArray _ (F7.out.grows hW) Try.underlying24 rfl (by rw [Try.size16]; simp [cl.out]) ?_)
              exact ⟨rfl, rfl, Grows.refl _, rfl⟩
            intro k1 a1 hk1 ha1
            simp only [Nat.reduceAdd] at hk1
            simp only [Act.put, List.setIfInBounds_toArray, List.set_cons_succ, List.set_cons_zero] at ha1
            subst hk1 ha1
            apply Mono.is0
            · kernel_rfl
            · intro W hW 
              have he : (Op.equalIn 10000 24 (.agg ((c).map b8).toArray) (.agg ((c).map b8).toArray)).run Try.prog W = .ok true W := (run_equalIn_bytes W 9998 24 5 16 (c) (c) cl.out cl.out Try.arr16 Try.underlying5 Try.sizeByte).trans (by rw [beq_self_eq_true])
              go_wp2
              refine ⟨rfl, rfl, Grows.refl _, ?_⟩
              unfold Oper.valAt
              go_simp
            intro k1 a1 hk1 ha1
            simp only [Nat.reduceAdd] at hk1
            simp only [Act.put, List.setIfInBounds_toArray, List.set_cons_succ, List.set_cons_zero] at ha1
            subst hk1 ha1
            apply Mono.is0
            · kernel_rfl
            · intro W hW
              go_wp2
              refine ⟨rfl, rfl, Grows.refl _, ?_⟩
              unfold Oper.valAt
              go_simp
              rfl
            intro k1 a1 hk1 ha1
            simp only [Nat.reduceAdd] at hk1
            simp only [Act.put, List.setIfInBounds_toArray, List.set_cons_succ, List.set_cons_zero] at ha1
            subst hk1 ha1
            apply Mono.is0
            · kernel_rfl
            · intro W hW 
              go_wp2_with (refine wpList_load_blk (by kernel_rfl) _ _ rfl (g8) rfl 22 ((oth).map b8).toArray _ (F8.out.grows hW) Try.underlying22 rfl (by rw [Try.size32k]; simp [othl.out]) ?_)
              exact ⟨rfl, rfl, Grows.refl _, rfl⟩
            intro k1 a1 hk1 ha1
            simp only [Nat.reduceAdd] at hk1
            simp only [Act.put, List.setIfInBounds_toArray, List.set_cons_succ, List.set_cons_zero] at ha1
            subst hk1 ha1
            apply Mono.is0
            · kernel_rfl
            · intro W hW
              go_wp2
              refine ⟨rfl, rfl, Grows.refl _, ?_⟩
              unfold Oper.valAt
              go_simp
              rfl
            intro k1 a1 hk1 ha1
            simp only [Nat.reduceAdd] at hk1
            simp only [Act.put, List.setIfInBounds_toArray, List.set_cons_succ, List.set_cons_zero] at ha1
            subst hk1 ha1
            apply Mono.is0
            · kernel_rfl
            · intro W hW 
              go_wp2_with fail
              refine (HsO.out W (HS7.out.grows hW)).mono ?_
              rintro e w1 ⟨rfl, hg1⟩
              go_wp2
              exact ⟨rfl, rfl, hg1, rfl⟩
            intro k1 a1 hk1 ha1
            simp only [Nat.reduceAdd] at hk1
            simp only [Act.put, List.setIfInBounds_toArray, List.set_cons_succ, List.set_cons_zero] at ha1
            subst hk1 ha1
            apply Mono.is0
            · kernel_rfl
            · intro W hW 
              go_wp2_with (refine wpList_load_blk (by kernel_rfl) _ _ rfl (w.heap.size) rfl 22 ((key).map b8).toArray _ (HK7.out.grows hW) Try.underlying22 rfl (by rw [Try.size32k]; simp [keyl.out]) ?_)
              exact ⟨rfl, rfl, Grows.refl _, rfl⟩
            intro k1 a1 hk1 ha1
            simp only [Nat.reduceAdd] at hk1
            simp only [Act.put, List.setIfInBounds_toArray, List.set_cons_succ, List.set_cons_zero] at ha1
            subst hk1 ha1
            apply Mono.is0
            · kernel_rfl
            · intro W hW
              go_wp2
              refine ⟨rfl, rfl, Grows.refl _, ?_⟩
              unfold Oper.valAt
              go_simp
              rfl
            intro k1 a1 hk1 ha1
            simp only [Nat.reduceAdd] at hk1
            simp only [Act.put, List.setIfInBounds_toArray, List.set_cons_succ, List.set_cons_zero] at ha1
            subst hk1 ha1
            apply Mono.is0
            · kernel_rfl
            · intro W hW 
              go_wp2_with fail
              refine (HsK.out W (HS7.out.grows hW)).mono ?_
              rintro e w1 ⟨rfl, hg1⟩
              go_wp2
              exact ⟨rfl, rfl, hg1, rfl⟩
            intro k1 a1 hk1 ha1
            simp only [Nat.reduceAdd] at hk1
            simp only [Act.put, List.setIfInBounds_toArray, List.set_cons_succ, List.set_cons_zero] at ha1
            subst hk1 ha1
            apply Mono.is0
            · kernel_rfl
            · intro W hW 
              have he : (Op.equalIn 10000 24 (.agg ((res6).map b8).toArray) (.agg ((res6).map b8).toArray)).run Try.prog W = .ok true W := (run_equalIn_bytes W 9998 24 5 16 (res6) (res6) res6l.out res6l.out Try.arr16 Try.underlying5 Try.sizeByte).trans (by rw [beq_self_eq_true])
              go_wp2
              refine ⟨rfl, rfl, Grows.refl _, ?_⟩
              unfold Oper.valAt
              go_simp
            intro k1 a1 hk1 ha1
            simp only [Nat.reduceAdd] at hk1
            simp only [Act.put, List.setIfInBounds_toArray, List.set_cons_succ, List.set_cons_zero] at ha1
            subst hk1 ha1
            iterate 2
              apply Mono.is0
              · kernel_rfl
              · intro W hW
                go_wp2
                refine ⟨rfl, rfl, Grows.refl _, ?_⟩
                unfold Oper.valAt
                go_simp
                rfl
              intro k1 a1 hk1 ha1
              simp only [Nat.reduceAdd] at hk1
              simp only [Act.put, List.setIfInBounds_toArray, List.set_cons_succ, List.set_cons_zero] at ha1
              subst hk1 ha1
            apply Mono.is0
            · kernel_rfl
            · intro W hW 
              go_wp2_with fail
              refine (awake5_any W).mono ?_
              rintro e w1 ⟨rfl, hg1⟩
              go_wp2
              exact ⟨rfl, rfl, hg1, rfl⟩
            intro k1 a1 hk1 ha1
            simp only [Nat.reduceAdd] at hk1
            simp only [Act.put, List.setIfInBounds_toArray, List.set_cons_succ, List.set_cons_zero] at ha1
            subst hk1 ha1
            iterate 2
              apply Mono.is0
              · kernel_rfl
              · intro W hW
                go_wp2
                refine ⟨rfl, rfl, Grows.refl _, ?_⟩
                unfold Oper.valAt
                go_simp
                rfl
              intro k1 a1 hk1 ha1
              simp only [Nat.reduceAdd] at hk1
              simp only [Act.put, List.setIfInBounds_toArray, List.set_cons_succ, List.set_cons_zero] at ha1
              subst hk1 ha1
            refine Mono.done ?_
            intro wm hgm
            simp only [allF, List.drop_succ_cons, List.drop_nil]
            go_wp2
            go_ret
            exact ⟨rfl, (hgw5.trans hgr).trans hgm⟩

end Go.Proofs.Ytilgkadochhkjaa
