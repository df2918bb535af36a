/-
  slices.Grow of nil, slices.Concat.
-/
import Derived.Test.YthcmdjaccjghjaaOwn
import Derived.Test.YthcmdjaccjghjaaOps
import Derived.Test.YthcmdjaccjghjaaOpenRows
import Derived.Test.YthcmdjaccjghjaaBits1
import Derived.Deep.Cut
namespace Go.Proofs.Ythcmdjaccjghjaa
open Go Go.RowKit
set_option linter.unusedSimpArgs false
set_option linter.unusedVariables false


theorem own_cut0 {w : World} {base n c : Nat} {t : TypeId} {A : Option Addr} {xs : List Value} (h : w.ownsRow base t 1 (.slice A n c) n xs) : w.ownsRow base t 1 (.slice A 0 c) 0 [] := by
  obtain ⟨h1, h2⟩ := h
  refine ⟨rfl, ?_⟩
  rcases h2 with ⟨hv, _⟩ | ⟨g, cap, cur, hv, hb, hh, hnc, hcm, hcs, _⟩
  · cases hv; exact Or.inl ⟨rfl, rfl⟩
  · cases hv; exact Or.inr ⟨g, _, cur, rfl, hb, hh, Nat.zero_le _, hcm, hcs, by simp⟩
set_option maxRecDepth 100000 in
set_option maxHeartbeats 4000000 in
theorem grow_any (n : Nat) (hn : n ≤ 1000000) (w : World) : Calls Try.prog 47 #[.slice none 0 0, .int .i64 (n : Int)] w fun e w' => ∃ A c, e = .returned (.slice A 0 c) ∧ Grows w w' ∧ w'.ownsRow w.heap.size 5 1 (.slice A 0 c) 0 [] := by
  by_cases h0 : n = 0
  · subst h0
    go_enter Try.func47, Try.ntmps47
    go_wp2
    go_ret
    exact ⟨none, 0, rfl, Grows.refl _, World.ownsRow_nil _ _ _ _⟩
  · have hpos : (0 : Int) < (n : Int) := by omega
    have hnm : (n : Int) ≤ 1000000 := by omega
    have hnn : ¬ (n : Int) < 0 := by omega
    have HN0 : Hid (w.ownsRow w.heap.size 5 1 (.slice none 0 0) 0 []) := lib_hid (World.ownsRow_nil _ _ _ _)
    clear h0
    go_enter Try.func47, Try.ntmps47
    go_wp2_with (at_builtin; go_loud (refine wpList_append_zeros rfl _ _ 26 3 rfl w.heap.size 5 .i64 (.int .u8 0) 1 Try.underlying26 Try.underlying3 Try.infoByte rfl rfl _ 0 [] rfl HN0.out n rfl (by omega) (by omega) (by omega) (by omega) (Nat.le_refl _) ?_); intro A1 c1 w1 ho1 hb1 hg1)
    go_ret
    refine ⟨A1, c1, rfl, hb1, own_cut0 ho1⟩
def flatB : List (List UInt8) → List UInt8
  | [] => []
  | x :: l => x ++ flatB l
theorem flatB_app : ∀ l m, flatB (l ++ m) = flatB l ++ flatB m
  | [], _ => rfl
  | x :: l, m => by rw [List.cons_append, flatB, flatB, flatB_app l m, List.append_assoc]
theorem flatB_take (ls : List (List UInt8)) (k : Nat) (hk : k < ls.length) : flatB (ls.take (k + 1)) = flatB (ls.take k) ++ ls.getD k [] := by
  rw [List.take_add_one, flatB_app, List.getD_eq_getElem?_getD, List.getElem?_eq_getElem hk]
  simp [flatB]
theorem flatB_le (ls : List (List UInt8)) (k : Nat) : (flatB (ls.take k)).length ≤ (flatB ls).length := by
  have h : flatB ls = flatB (ls.take k) ++ flatB (ls.drop k) := by rw [← flatB_app, List.take_append_drop]
  rw [h, List.length_append]
  omega
set_option maxRecDepth 100000 in
set_option maxHeartbeats 4000000 in
theorem concat_any (ls : List (List UInt8)) (A : Option Addr) (n c : Nat) (w : World) (hs : RowsB w A n c ls) (hn : n ≤ 1000) (hb : (flatB ls).length ≤ 1000000) :
    Calls Try.prog 22 #[.slice A n c] w (NewB 5 w (flatB ls)) := by
  have HS := lib_hid hs
  have hcap := hs.2.2.1
  unfold maxLen at hcap
  have hnc := hs.2.1
  have Hll := lib_hid hs.1
  obtain ⟨tot, Htot⟩ : ∃ tot, Hid ((flatB ls).length = tot) := ⟨_, lib_hid rfl⟩
  rw [Htot.out] at hb
  have Hle : Hid (∀ k, (flatB (ls.take k)).length ≤ tot) := fun k => by rw [← Htot.out]; exact flatB_le ls k
  have Hst : Hid (∀ k, k < n → flatB (ls.take (k + 1)) = flatB (ls.take k) ++ ls.getD k []) := fun k hk => flatB_take ls k (by rw [Hll.out]; exact hk)
  have Hfull : Hid (flatB (ls.take n) = flatB ls) := by unfold Hid; rw [List.take_of_length_le (by rw [Hll.out]; exact Nat.le_refl _)]
  have Hat : Hid (∀ W, Grows w W → ∀ k, k < n → ∃ b off Ai ci, A = some ⟨b, off, none⟩ ∧ W.cell? ⟨b, off + k, none⟩ = some (.slice Ai (ls.getD k []).length ci) ∧ SB W Ai (ls.getD k []).length ci (ls.getD k [])) := fun W hW k hk => by
    obtain ⟨b, off, e, hb, hc⟩ := HS.out.2.2.2.2 (by omega)
    obtain ⟨Ai, ci, h1, h2⟩ := hc k hk
    exact ⟨b, off, Ai, ci, e, (hW.cell (p := ⟨b, off + k, none⟩) hb).trans h1, h2.grows hW⟩
  have HG := lib_hid (grow_any tot (by omega) w)
  clear hs HS
  go_enter Try.func22, Try.ntmps22
  go_wp2
  go_loop [11, 3] (fun i s => ∃ (k t : Nat), k ≤ n ∧ i = .int .i64 (k : Int) ∧ s = .int .i64 (t : Int) ∧ Hid ((flatB (ls.take k)).length = t)) (fun i _ => n - (intOf i).toNat)
  case atStart => exact ⟨0, 0, Nat.zero_le _, rfl, rfl, lib_hid rfl⟩
  case round =>
    obtain ⟨k, t, hk, rfl, rfl, Ht⟩ := hrel
    have htb : (t : Int) ≤ 1000000 := by have := Hle.out k; have := Ht.out; omega
    by_cases hlt : k < n
    · have hki : (k : Int) < (n : Int) := by omega
      obtain ⟨b, off, Ai, ci, rfl, c1, _⟩ := Hat.out w (Grows.refl w) k hlt
      obtain ⟨m, Hm⟩ : ∃ m, Hid ((ls.getD k []).length = m) := ⟨_, lib_hid rfl⟩
      rw [Hm.out] at c1
      have Ht2 : Hid ((flatB (ls.take (k + 1))).length = t + m) := by unfold Hid; rw [Hst.out k hlt, List.length_append, Ht.out, Hm.out]
      have htm : (t : Int) + (m : Int) ≤ 1000000 := by have := Hle.out (k + 1); have := Ht2.out; omega
      have htn : ¬ (t : Int) + (m : Int) < 0 := by omega
      clear hlt Ht Hm
      go_wp2
      go_round
      case rel => exact ⟨k + 1, t + m, by omega, by go_num, by go_num, Ht2⟩
      case measure => simp [intOf]; omega
    · have hki : ¬ (k : Int) < (n : Int) := by omega
      obtain rfl : k = n := by omega
      obtain rfl : t = tot := by rw [← Ht.out, Hfull.out, Htot.out]
      clear hlt Ht
      go_wp2_with fail
      refine HG.out.mono ?_
      rintro e w1 ⟨G, cg, rfl, hg1, ho1⟩
      have HO1 := lib_hid ho1
      have Hg1 := lib_hid hg1
      have hle1 := hg1.le
      clear hg1 ho1 hki HG
      go_wp2
      go_loopw [27, 6] (fun i o wr => ∃ (j : Nat) (C : Option Addr) (m e : Nat), j ≤ k ∧ i = .int .i64 (j : Int) ∧ o = .slice C m e ∧ Grows w wr ∧ Hid (m = (flatB (ls.take j)).length) ∧ Hid (wr.ownsRow w.heap.size 5 1 (.slice C m e) m ((flatB (ls.take j)).map b8))) (fun i _ _ => k - (intOf i).toNat)
      case atStart => exact ⟨0, G, 0, cg, Nat.zero_le _, rfl, rfl, Hg1.out, lib_hid rfl, HO1⟩
      case round =>
        obtain ⟨j, C, m, e, hj, rfl, rfl, hgr, Hm, HO⟩ := hrel
        by_cases hlt : j < k
        · have hji : (j : Int) < (k : Int) := by omega
          obtain ⟨b, off, Ai, ci, rfl, c1, s1⟩ := Hat.out wr hgr j hlt
          obtain ⟨q, Hq⟩ : ∃ q, Hid ((ls.getD j []).length = q) := ⟨_, lib_hid rfl⟩
          rw [Hq.out] at c1 s1
          have HS1 := lib_hid s1
          have Hst2 := lib_hid (Hst.out j hlt)
          have hmq : m + q ≤ 1000000 := by have := Hle.out (j + 1); rw [Hst2.out, List.length_append, Hq.out] at this; have := Hm.out; omega
          have hwz := hgr.le
          clear s1 hlt
          go_wp2_with (at_builtin; go_loud (refine wpList_append2 rfl _ _ 26 rfl w.heap.size 5 (.int .u8 0) 1 Try.underlying26 Try.infoByte rfl C e m _ rfl HO.out Ai q ci _ rfl HS1.out (b8_one _) (by omega) (by omega) hwz ?_); intro A4 c4 w4 ho4 hG4 hl4)
          have hgr4 : Grows w w4 := hgr.grown hG4 (fun b hb => (own_lt HO.out b hb).1)
          have HO4 : Hid (w4.ownsRow w.heap.size 5 1 (.slice A4 (m + q) c4) (m + q) ((flatB (ls.take (j + 1))).map b8)) := by unfold Hid; rw [Hst2.out, List.map_append]; exact ho4
          have Hm4 : Hid (m + q = (flatB (ls.take (j + 1))).length) := by unfold Hid; rw [Hst2.out, List.length_append, ← Hm.out, Hq.out]
          clear ho4 hG4 hl4 HO HS1 c1
          go_roundw
          case rel => exact ⟨j + 1, A4, m + q, c4, by omega, by go_num, rfl, hgr4, Hm4, HO4⟩
          case measure => simp [intOf]; omega
        · have hji : ¬ (j : Int) < (k : Int) := by omega
          obtain rfl : j = k := by omega
          have h := HO.out
          have hm := Hm.out
          rw [Hfull.out] at h hm
          have HO2 := lib_hid h
          have Hm2 := lib_hid hm
          clear HO h hm Hm hlt
          go_wp2
          go_ret
          exact newB_mk rfl Hm2.out hgr HO2.out
end Go.Proofs.Ythcmdjaccjghjaa
