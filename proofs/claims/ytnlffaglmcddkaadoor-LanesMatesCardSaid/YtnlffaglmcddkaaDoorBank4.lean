/-
  The walk of run.
-/
import Derived.Test.YtnlffaglmcddkaaDoorBank3
import Derived.Deep.Cut
import Derived.ScopeJumps
import Derived.WalkMore
namespace Go.Proofs.YtnlffaglmcddkaaDoor
open Go Go.RowKit
set_option linter.unusedSimpArgs false
set_option linter.unusedVariables false


theorem fillS_ok (B : Nat → Nat) (hB : ∀ m, 1 ≤ B m) (N t : Nat) (hb : ∀ m, B m ≤ 1000000) : ∀ i n l, (fillS B N t).1.getD i none = some (n, l) → n < N ∧ 1 ≤ l ∧ l ≤ B n ∧ l ≤ 1000000 := by
  intro i n l h
  obtain ⟨f1, f2⟩ := fillF_ok B hB N t _ (runS_ok B hB N t).1 4 (Nat.le_refl _)
  by_cases hi : i < 4
  · have b := f1.2.2.1 i hi
    unfold fillS at h
    rw [h] at b
    obtain ⟨b1, b2, b3, _⟩ := b
    have := f1.2.1
    have := hb n
    exact ⟨by omega, b2, b3, by omega⟩
  · have hl : (fillS B N t).1.length = 4 := f1.1
    rw [List.getD_eq_getElem?_getD, List.getElem?_eq_none (by omega)] at h
    cases h
theorem ordF_le (B : Nat → Nat) (N t T : Nat) (h : t ≤ T) : (ordF B N t).length ≤ (ordF B N T).length := by
  obtain ⟨d, rfl⟩ := Nat.le.dest h
  induction d with
  | zero => exact Nat.le_refl _
  | succ d ih =>
    have e : ordF B N (t + (d + 1)) = ordF B N (t + d) ++ ordK B N (t + d + 1) 4 := by
      unfold ordF
      rw [← Nat.add_assoc, List.range_succ, List.flatMap_append]
      simp
    rw [e, List.length_append]
    have := ih (by omega)
    omega
theorem fillS_le (B : Nat → Nat) (hB : ∀ m, 1 ≤ B m) (N t : Nat) : (fillS B N t).2 ≤ N := (fillF_ok B hB N t _ (runS_ok B hB N t).1 4 (Nat.le_refl _)).1.2.1
theorem runS_le (B : Nat → Nat) (hB : ∀ m, 1 ≤ B m) (N t : Nat) : (runS B N t).2.1 ≤ N := (runS_ok B hB N t).1.2.1
theorem fillS_len (B : Nat → Nat) (hB : ∀ m, 1 ≤ B m) (N t : Nat) : (fillS B N t).1.length = 4 := (fillF_ok B hB N t _ (runS_ok B hB N t).1 4 (Nat.le_refl _)).1.1
theorem goF_mem (S : List LaneS) (hS : S.length = 4) (NN : Nat) (hV : ∀ i n l, S.getD i none = some (n, l) → n < NN) : ∀ n ∈ (goF S 4).2, n < NN := by
  intro n hn
  rw [(goF_is S hS 4 (Nat.le_refl _)).2.2, List.mem_flatMap] at hn
  obtain ⟨i, _, hi⟩ := hn
  cases e : S.getD i none with
  | none => rw [e] at hi; cases hi
  | some nl =>
    obtain ⟨m, l⟩ := nl
    rw [e] at hi
    simp only [outL] at hi
    split at hi
    · rw [List.mem_singleton] at hi; subst hi; exact hV i n l e
    · cases hi
/-- What run asks of the one who calls it: an invariant of the messages that have left and of the blocks that done may turn. -/
structure RunJ (H : Nat → Nat → V8) (B : Nat → Nat) (N g : Nat) (Fs Fb Fd : FuncId) (caps capb capd : Array Value) (J : List Nat → (Nat → Prop) → World → Prop) : Prop where
  lt : ∀ ws own W, J ws own W → (∀ b, own b → b < W.heap.size) ∧ ¬ own g
  keep : ∀ ws own W W', J ws own W → Keeps (fun b => b = g) W W' → J ws own W'
  size : ∀ ws own W n, J ws own W → n < N → Calls Tryd.prog Fs (#[.int .i64 (n : Int)] ++ caps) W fun e W' => e = .returned (.int .i64 (B n : Int)) ∧ Grows W W'
  block : ∀ ws own W (k : Int), J ws own W → DoesL H B N g k (N : Int) (.func (.func Fs) #[] caps) Fb capb W
  done : ∀ ws own W n b, J ws own W → n < N → ws.length < N → ¬ own b → Blk W b 53 (laneC ⟨(n : Int), H n 0, 0⟩).toArray →
    Calls Tryd.prog Fd (#[ptrV b] ++ capd) W fun e W' => e = .returned (.tuple #[]) ∧ Keeps own W W' ∧ ∃ own', J (ws ++ [n]) own' W' ∧ ∀ b, own' b → own b ∨ W.heap.size ≤ b
def RunW (H : Nat → Nat → V8) (B : Nat → Nat) (N g : Nat) (f : Value) (J : List Nat → (Nat → Prop) → World → Prop) (t : Nat) (W : World) : Prop :=
  (∃ own, J (runS B N t).2.2 own W) ∧ ∃ L, BankB W g L ((runS B N t).2.1 : Int) (N : Int) f ∧ LanesR H L (runS B N t).1
set_option maxRecDepth 100000 in
set_option maxHeartbeats 4000000 in
theorem run_any (H : Nat → Nat → V8) (B : Nat → Nat) (N g : Nat) (Fs Fb Fd : FuncId) (caps capb capd : Array Value) (J : List Nat → (Nat → Prop) → World → Prop) (w : World)
    (hJ : RunJ H B N g Fs Fb Fd caps capb capd J) (hB1 : ∀ m, 1 ≤ B m) (hBb : ∀ m, B m ≤ 1000000) (hN : N ≤ 1000) (hT : maxF B N ≤ 1000000000) (hH : ∀ n, n < N → H n (B n) = startV)
    (hcs : ∀ (args : Array Value) (W : World), Sem.run Tryd.prog (callFunc Fs args) W = .ok (.enter Fs args) W)
    (hcb : ∀ (args : Array Value) (W : World), Sem.run Tryd.prog (callFunc Fb args) W = .ok (.enter Fb args) W)
    (hcd : ∀ (args : Array Value) (W : World), Sem.run Tryd.prog (callFunc Fd args) W = .ok (.enter Fd args) W)
    (h0 : RunW H B N g (.func (.func Fs) #[] caps) J 0 w) :
    Calls Tryd.prog 21 #[.pointer (some ⟨g, 0, none⟩), .func (.func Fb) #[] capb, .func (.func Fd) #[] capd] w fun e w' => e = .returned (.int .i64 (maxF B N : Int)) ∧ ∃ own, J (ordF B N (maxF B N)) own w' := by
  obtain ⟨T, HTm⟩ : ∃ T, Hid (maxF B N = T) := ⟨_, lib_hid rfl⟩
  rw [HTm.out] at hT ⊢
  have HJ := lib_hid hJ
  have HH := lib_hid hH
  have HB1 := lib_hid hB1
  have HBb := lib_hid hBb
  have H0 := lib_hid h0
  have HN := lib_hid hN
  have HTb : Hid (T ≤ 1000000000) := lib_hid hT
  obtain ⟨f, Hf⟩ : ∃ f, Hid (Value.func (.func Fs) #[] caps = f) := ⟨_, lib_hid rfl⟩
  rw [Hf.out] at H0
  have HRF : Hid (∀ t W, RunW H B N g f J t W → Calls Tryd.prog 40 #[.pointer (some ⟨g, 0, none⟩)] W fun e w' => e = .returned (.bool (busyF (fillS B N t).1 4)) ∧ FillW H B N ((runS B N t).1, (runS B N t).2.1) g f W 4 w') := by
    intro t W ⟨⟨own, hj⟩, L, hb, hr⟩
    rw [← Hf.out] at hb ⊢
    exact refill_any H B N ((runS B N t).1, (runS B N t).2.1) g Fs caps L W hb hr HN.out (runS_le B HB1.out N t) HH.out hcs (fun n W' hn hk => HJ.out.size _ own W' n (HJ.out.keep _ own W W' hj hk) hn)
  have HSP : Hid (∀ t own W k L, J (runS B N t).2.2 own W → BankB W g L k (N : Int) f → LanesR H L (fillS B N t).1 → Calls Tryd.prog 41 #[.pointer (some ⟨g, 0, none⟩), .func (.func Fb) #[] capb] W fun e w' => ∃ A n c, e = .returned (.slice A n c) ∧ StepW H (fillS B N t).1 g k (N : Int) f W A n c 4 w') := by
    intro t own W k L hj hb hr
    refine step_any H B N (fillS B N t).1 g k (N : Int) f Fb capb L W hb hr (fillS_ok B HB1.out N t HBb.out) hcb ?_
    rw [← Hf.out]
    exact HJ.out.block _ own W k hj
  clear hJ hH hB1 hBb h0 hN hT hcs hcb
  go_enter Tryd.func21, Tryd.ntmps21
  go_wp2_with fail
  refine wp_scope_jumps 0 (fun a' W => ∃ (t : Nat) (u3 u4 u5 u8 u9 u10 u11 u12 u13 u14 u15 u16 u17 u18 u19 u20 u21 u22 u23 u24 u25 u26 u27 : Value), a' = { tmps := #[.pointer (some ⟨g, 0, none⟩), .func (.func Fb) #[] capb, .func (.func Fd) #[] capd, u3, u4, u5, .int .i64 0, .int .i64 (t : Int), u8, u9, u10, u11, u12, u13, u14, u15, u16, u17, u18, u19, u20, u21, u22, u23, u24, u25, u26, u27], defers := [] } ∧ t ≤ T ∧ Hid (RunW H B N g f J t W)) (fun a _ => T - (intOf (a.tmps.getD 7 undef)).toNat) rfl ?_ ?_
  · go_upto_region 2 with fail
    go_step3
    obtain ⟨t, Ht0, ht⟩ : ∃ t : Nat, Hid (t = 0) ∧ t ≤ T := ⟨0, lib_hid rfl, Nat.zero_le _⟩
    have HW : Hid (RunW H B N g f J t w) := by rw [Ht0.out]; exact H0
    obtain ⟨⟨own, hj⟩, _, _, _⟩ := HW.out
    have Hj := lib_hid hj
    have HC := lib_hid (HRF.out t w HW.out)
    clear hj HRF
    by_cases htT : t = T
    · have Hbz : Hid (busyF (fillS B N t).1 4 = false) := by unfold Hid; rw [htT, ← HTm.out]; exact busy_no B HB1.out N
      rw [Hbz.out] at HC
      have HtT := lib_hid htT
      clear htT ht Hbz
      go_wp2_with fail
      refine HC.out.mono ?_
      rintro e w1 ⟨rfl, hF1⟩
      have HE : Hid (∃ own, J (ordF B N T) own w1) := lib_hid ⟨own, by rw [← HtT.out, ← (runS_ok B HB1.out N t).2]; exact HJ.out.keep _ own _ _ Hj.out hF1.1⟩
      clear hF1 HC
      go_wp2
      (try simp only [Exit.jump])
      go_ret
      exact ⟨by rw [← HtT.out, Ht0.out]; rfl, HE.out⟩
    · have htl : t < T := by omega
      have Hbz : Hid (busyF (fillS B N t).1 4 = true) := busy_yes B HB1.out N t (by rw [HTm.out]; exact htl)
      rw [Hbz.out] at HC
      have Htl := lib_hid htl
      clear htT ht Hbz htl
      go_wp2_with fail
      refine HC.out.mono ?_
      rintro e w1 ⟨rfl, hF1⟩
      obtain ⟨hk1, L1, hb1, hr1⟩ := hF1
      have Hj1 := lib_hid (HJ.out.keep _ own _ _ Hj.out hk1)
      have hgb : g < w1.heap.size := hb1.2.lt
      have HC2 := lib_hid (HSP.out t own w1 _ L1 Hj1.out hb1 hr1)
      clear hk1 hb1 hr1 HC Hj HSP
      go_wp2_with fail
      refine HC2.out.mono ?_
      rintro e w2 ⟨A, n, c, rfl, hk2, ⟨L2, hb2, hr2⟩, hG2⟩
      obtain ⟨ms, Hms⟩ : ∃ ms, Hid ((goF (fillS B N t).1 4).2 = ms) := ⟨_, lib_hid rfl⟩
      have Hmem : Hid (∀ m ∈ ms, m < N) := by unfold Hid; rw [← Hms.out]; exact goF_mem _ (fillS_len B HB1.out N t) N (fun i n l h => (fillS_ok B HB1.out N t HBb.out i n l h).1)
      have hnl : ms.length = n := by rw [← Hms.out]; exact hG2.len
      rw [Hms.out] at hG2
      have hn4 : n ≤ 1000000 := by
        obtain ⟨ps, o1, _⟩ := hG2
        have h1 := (goF_is (fillS B N t).1 (fillS_len B HB1.out N t) 4 (Nat.le_refl _)).2.2
        have h2 : ∀ (l : List Nat), (l.flatMap fun i => outL ((fillS B N t).1.getD i none)).length ≤ l.length := fun l => by
          induction l with
          | nil => exact Nat.le_refl _
          | cons a l ih =>
            rw [List.flatMap_cons, List.length_append, List.length_cons]
            have : (outL ((fillS B N t).1.getD a none)).length ≤ 1 := by
              cases (fillS B N t).1.getD a none with
              | none => simp [outL]
              | some nl => obtain ⟨n, l⟩ := nl; simp only [outL]; split <;> simp
            omega
        have h3 := h2 (List.range 4)
        rw [← h1, Hms.out, List.length_range] at h3
        omega
      have Hlen : Hid ((runS B N t).2.2.length + ms.length ≤ N) := by
        unfold Hid
        rw [← Hms.out, ← List.length_append]
        show (runS B N (t + 1)).2.2.length ≤ N
        rw [(runS_ok B HB1.out N (t + 1)).2]
        have h1 := ordF_le B N (t + 1) T Htl.out
        rw [← HTm.out, ord_len B HB1.out N] at h1
        exact h1
      have HG2 := lib_hid hG2
      have Hb2 := lib_hid hb2
      have Hr2 := lib_hid hr2
      have Hnl := lib_hid hnl
      have Hk2 := lib_hid hk2
      obtain ⟨q1, q2⟩ := HJ.out.lt _ own w1 Hj1.out
      have HG2' := HG2
      obtain ⟨ps, o1, o2, o3, o4⟩ := hG2
      have hnc := o1.2.1
      have hcm := o1.2.2.1
      unfold maxLen at hcm
      have Hq1 := lib_hid q1
      have Hq2 := lib_hid q2
      have Hjw2 : Hid (J ((runS B N t).2.2 ++ ms.take 0) own w2) := by unfold Hid; rw [List.take_zero, List.append_nil]; exact HJ.out.keep _ own _ _ Hj1.out hk2
      have Ho2 := lib_hid o2
      have Ho3 := lib_hid o3
      have Ho4 := lib_hid o4
      have Ho1 := lib_hid o1
      have Hlt : Hid (∀ b ∈ ps, b < w2.heap.size) := fun b hb => by
        obtain ⟨j, hj⟩ := List.getElem?_of_mem hb
        have hjl : j < ps.length := (List.getElem?_eq_some_iff.1 hj).1
        exact (Ho4.out j b (ms[j]'(by have := Ho2.out; omega)) hj (List.getElem?_eq_getElem _)).lt
      clear hb2 hr2 hk2 o1 o2 o3 o4 q1 q2 hnl HC2 Hj1 HG2'
      go_wp2
      go_loopw [18] (fun i wr => ∃ j : Nat, j ≤ n ∧ i = .int .i64 j ∧ ∃ own' : Nat → Prop, Hid (J ((runS B N t).2.2 ++ ms.take j) own' wr) ∧ Hid (Keeps (fun b => (b < w1.heap.size ∨ w2.heap.size ≤ b) ∧ b ≠ g) w2 wr) ∧ Hid (∀ b, own' b → b < w1.heap.size ∨ w2.heap.size ≤ b)) (fun i _ => n - (intOf i).toNat)
      case atStart => exact ⟨0, Nat.zero_le _, rfl, own, Hjw2, lib_hid (Keeps.refl _ _), lib_hid (fun b hb => .inl (Hq1.out b hb))⟩
      case round =>
        obtain ⟨j, hj, rfl, own', HJr, HKr, Hor⟩ := hrel
        by_cases hlt : j < n
        · have hji : (j : Int) < (n : Int) := by omega
          have hpl : ps.length = n := by rw [Ho2.out]; exact Hnl.out
          obtain ⟨m, hm⟩ : ∃ m, ms[j]? = some m := ⟨ms[j]'(by have := Hnl.out; omega), List.getElem?_eq_getElem _⟩
          obtain ⟨b, hb⟩ : ∃ b, ps[j]? = some b := ⟨ps[j]'(by omega), List.getElem?_eq_getElem _⟩
          obtain ⟨b1, b2⟩ := Ho3.out b (List.mem_of_getElem? hb)
          have b3 := Hlt.out b (List.mem_of_getElem? hb)
          have hbo : ¬ own' b := fun h => by
            have := Hor.out b h
            omega
          have hrow := (Ho1.out.keeps HKr.out (fun p hp h => by
            have a := Ho1.out.base_le p hp
            have c := Ho1.out.lt p hp
            have := h.1
            omega)).row
          obtain ⟨bk, off, rfl, hbk, hc⟩ := hrow.2.2.2.2 (by omega)
          have hcell := hc j hlt
          rw [List.getElem?_map, hb] at hcell
          have hcell2 : wr.cell? ⟨bk, off + j, none⟩ = some (ptrV b) := hcell
          have hbl : Blk wr b 53 (laneC ⟨(m : Int), H m 0, 0⟩).toArray := (Ho4.out j b m hb hm).keeps HKr.out (fun h => by have := h.1; omega)
          have HD := lib_hid (HJ.out.done _ own' wr m b HJr.out (Hmem.out m (List.mem_of_getElem? hm)) (by rw [List.length_append, List.length_take]; have := Hlen.out; have := Hnl.out; omega) hbo hbl)
          have Hm := lib_hid hm
          have hsz := HKr.out.size
          have Hq3 := lib_hid (HJ.out.lt _ own' wr HJr.out).2
          clear hm hb b1 b2 b3 hbo hrow hc hcell hbl hbk hpl
          go_wp2_with fail
          refine HD.out.mono ?_
          rintro e w3 ⟨rfl, hk3, own3, hJ3, ho3⟩
          have HJ3 : Hid (J ((runS B N t).2.2 ++ ms.take (j + 1)) own3 w3) := by
            unfold Hid
            rw [List.take_add_one, Hm.out, ← List.append_assoc]
            exact hJ3
          have HK3 : Hid (Keeps (fun b => (b < w1.heap.size ∨ w2.heap.size ≤ b) ∧ b ≠ g) w2 w3) := lib_hid (HKr.out.trans (hk3.mono (fun i hi _ => ⟨Hor.out i hi, fun e => Hq3.out (by rw [← e]; exact hi)⟩)) (fun _ h _ => h))
          have Ho3' : Hid (∀ b, own3 b → b < w1.heap.size ∨ w2.heap.size ≤ b) := lib_hid (fun b hb => by
            rcases ho3 b hb with h | h
            · exact Hor.out b h
            · exact .inr (by omega))
          clear hJ3 hk3 ho3 HD HJr HKr Hor hcell2 hsz
          go_wp2
          go_roundw
          case rel => exact ⟨j + 1, by omega, by go_num, own3, HJ3, HK3, Ho3'⟩
          case measure => simp [intOf]; omega
        · have hjn : j = n := by omega
          have hki : ¬ (j : Int) < (n : Int) := by omega
          have HW' : Hid (RunW H B N g f J (t + 1) wr) := by
            have h1 := HJr.out
            rw [List.take_of_length_le (by have := Hnl.out; omega), ← Hms.out] at h1
            exact ⟨⟨own', h1⟩, L2, Hb2.out.keeps HKr.out (fun h => h.2 rfl), Hr2.out⟩
          have htl2 := Htl.out
          have htb : (t : Int) ≤ 1000000000 := by have := HTb.out; omega
          clear HJr HKr Hor Hjw2 Ho1 Ho2 Ho3 Ho4 HG2 Hb2 Hr2 Hk2 Hms Hmem Hnl HJ
          go_wp2
          go_step3
          exact ⟨rfl, 1, _, _, _, _, _, _, _, _, _, _, _, _, _, _, _, _, _, _, _, _, _, _, _, rfl, by have := Ht0.out; omega, by have h := HW'.out; rw [Ht0.out] at h; exact h⟩
  · rintro a' W ⟨t, u3, u4, u5, u8, u9, u10, u11, u12, u13, u14, u15, u16, u17, u18, u19, u20, u21, u22, u23, u24, u25, u26, u27, rfl, ht, HW⟩
    obtain ⟨⟨own, hj⟩, _, _, _⟩ := HW.out
    have Hj := lib_hid hj
    have HC := lib_hid (HRF.out t W HW.out)
    clear hj HRF
    by_cases htT : t = T
    · have Hbz : Hid (busyF (fillS B N t).1 4 = false) := by unfold Hid; rw [htT, ← HTm.out]; exact busy_no B HB1.out N
      rw [Hbz.out] at HC
      have HtT := lib_hid htT
      clear htT ht Hbz
      go_wp2_with fail
      refine HC.out.mono ?_
      rintro e w1 ⟨rfl, hF1⟩
      have HE : Hid (∃ own, J (ordF B N T) own w1) := lib_hid ⟨own, by rw [← HtT.out, ← (runS_ok B HB1.out N t).2]; exact HJ.out.keep _ own _ _ Hj.out hF1.1⟩
      clear hF1 HC
      go_wp2
      (try simp only [Exit.jump])
      go_ret
      exact ⟨by rw [← HtT.out]; rfl, HE.out⟩
    · have htl : t < T := by omega
      have Hbz : Hid (busyF (fillS B N t).1 4 = true) := busy_yes B HB1.out N t (by rw [HTm.out]; exact htl)
      rw [Hbz.out] at HC
      have Htl := lib_hid htl
      clear htT ht Hbz htl
      go_wp2_with fail
      refine HC.out.mono ?_
      rintro e w1 ⟨rfl, hF1⟩
      obtain ⟨hk1, L1, hb1, hr1⟩ := hF1
      have Hj1 := lib_hid (HJ.out.keep _ own _ _ Hj.out hk1)
      have hgb : g < w1.heap.size := hb1.2.lt
      have HC2 := lib_hid (HSP.out t own w1 _ L1 Hj1.out hb1 hr1)
      clear hk1 hb1 hr1 HC Hj HSP
      go_wp2_with fail
      refine HC2.out.mono ?_
      rintro e w2 ⟨A, n, c, rfl, hk2, ⟨L2, hb2, hr2⟩, hG2⟩
      obtain ⟨ms, Hms⟩ : ∃ ms, Hid ((goF (fillS B N t).1 4).2 = ms) := ⟨_, lib_hid rfl⟩
      have Hmem : Hid (∀ m ∈ ms, m < N) := by unfold Hid; rw [← Hms.out]; exact goF_mem _ (fillS_len B HB1.out N t) N (fun i n l h => (fillS_ok B HB1.out N t HBb.out i n l h).1)
      have hnl : ms.length = n := by rw [← Hms.out]; exact hG2.len
      rw [Hms.out] at hG2
      have hn4 : n ≤ 1000000 := by
        obtain ⟨ps, o1, _⟩ := hG2
        have h1 := (goF_is (fillS B N t).1 (fillS_len B HB1.out N t) 4 (Nat.le_refl _)).2.2
        have h2 : ∀ (l : List Nat), (l.flatMap fun i => outL ((fillS B N t).1.getD i none)).length ≤ l.length := fun l => by
          induction l with
          | nil => exact Nat.le_refl _
          | cons a l ih =>
            rw [List.flatMap_cons, List.length_append, List.length_cons]
            have : (outL ((fillS B N t).1.getD a none)).length ≤ 1 := by
              cases (fillS B N t).1.getD a none with
              | none => simp [outL]
              | some nl => obtain ⟨n, l⟩ := nl; simp only [outL]; split <;> simp
            omega
        have h3 := h2 (List.range 4)
        rw [← h1, Hms.out, List.length_range] at h3
        omega
      have Hlen : Hid ((runS B N t).2.2.length + ms.length ≤ N) := by
        unfold Hid
        rw [← Hms.out, ← List.length_append]
        show (runS B N (t + 1)).2.2.length ≤ N
        rw [(runS_ok B HB1.out N (t + 1)).2]
        have h1 := ordF_le B N (t + 1) T Htl.out
        rw [← HTm.out, ord_len B HB1.out N] at h1
        exact h1
      have HG2 := lib_hid hG2
      have Hb2 := lib_hid hb2
      have Hr2 := lib_hid hr2
      have Hnl := lib_hid hnl
      have Hk2 := lib_hid hk2
      obtain ⟨q1, q2⟩ := HJ.out.lt _ own w1 Hj1.out
      have HG2' := HG2
      obtain ⟨ps, o1, o2, o3, o4⟩ := hG2
      have hnc := o1.2.1
      have hcm := o1.2.2.1
      unfold maxLen at hcm
      have Hq1 := lib_hid q1
      have Hq2 := lib_hid q2
      have Hjw2 : Hid (J ((runS B N t).2.2 ++ ms.take 0) own w2) := by unfold Hid; rw [List.take_zero, List.append_nil]; exact HJ.out.keep _ own _ _ Hj1.out hk2
      have Ho2 := lib_hid o2
      have Ho3 := lib_hid o3
      have Ho4 := lib_hid o4
      have Ho1 := lib_hid o1
      have Hlt : Hid (∀ b ∈ ps, b < w2.heap.size) := fun b hb => by
        obtain ⟨j, hj⟩ := List.getElem?_of_mem hb
        have hjl : j < ps.length := (List.getElem?_eq_some_iff.1 hj).1
        exact (Ho4.out j b (ms[j]'(by have := Ho2.out; omega)) hj (List.getElem?_eq_getElem _)).lt
      clear hb2 hr2 hk2 o1 o2 o3 o4 q1 q2 hnl HC2 Hj1 HG2'
      go_wp2
      go_loopw [18] (fun i wr => ∃ j : Nat, j ≤ n ∧ i = .int .i64 j ∧ ∃ own' : Nat → Prop, Hid (J ((runS B N t).2.2 ++ ms.take j) own' wr) ∧ Hid (Keeps (fun b => (b < w1.heap.size ∨ w2.heap.size ≤ b) ∧ b ≠ g) w2 wr) ∧ Hid (∀ b, own' b → b < w1.heap.size ∨ w2.heap.size ≤ b)) (fun i _ => n - (intOf i).toNat)
      case atStart => exact ⟨0, Nat.zero_le _, rfl, own, Hjw2, lib_hid (Keeps.refl _ _), lib_hid (fun b hb => .inl (Hq1.out b hb))⟩
      case round =>
        obtain ⟨j, hj, rfl, own', HJr, HKr, Hor⟩ := hrel
        by_cases hlt : j < n
        · have hji : (j : Int) < (n : Int) := by omega
          have hpl : ps.length = n := by rw [Ho2.out]; exact Hnl.out
          obtain ⟨m, hm⟩ : ∃ m, ms[j]? = some m := ⟨ms[j]'(by have := Hnl.out; omega), List.getElem?_eq_getElem _⟩
          obtain ⟨b, hb⟩ : ∃ b, ps[j]? = some b := ⟨ps[j]'(by omega), List.getElem?_eq_getElem _⟩
          obtain ⟨b1, b2⟩ := Ho3.out b (List.mem_of_getElem? hb)
          have b3 := Hlt.out b (List.mem_of_getElem? hb)
          have hbo : ¬ own' b := fun h => by
            have := Hor.out b h
            omega
          have hrow := (Ho1.out.keeps HKr.out (fun p hp h => by
            have a := Ho1.out.base_le p hp
            have c := Ho1.out.lt p hp
            have := h.1
            omega)).row
          obtain ⟨bk, off, rfl, hbk, hc⟩ := hrow.2.2.2.2 (by omega)
          have hcell := hc j hlt
          rw [List.getElem?_map, hb] at hcell
          have hcell2 : wr.cell? ⟨bk, off + j, none⟩ = some (ptrV b) := hcell
          have hbl : Blk wr b 53 (laneC ⟨(m : Int), H m 0, 0⟩).toArray := (Ho4.out j b m hb hm).keeps HKr.out (fun h => by have := h.1; omega)
          have HD := lib_hid (HJ.out.done _ own' wr m b HJr.out (Hmem.out m (List.mem_of_getElem? hm)) (by rw [List.length_append, List.length_take]; have := Hlen.out; have := Hnl.out; omega) hbo hbl)
          have Hm := lib_hid hm
          have hsz := HKr.out.size
          have Hq3 := lib_hid (HJ.out.lt _ own' wr HJr.out).2
          clear hm hb b1 b2 b3 hbo hrow hc hcell hbl hbk hpl
          go_wp2_with fail
          refine HD.out.mono ?_
          rintro e w3 ⟨rfl, hk3, own3, hJ3, ho3⟩
          have HJ3 : Hid (J ((runS B N t).2.2 ++ ms.take (j + 1)) own3 w3) := by
            unfold Hid
            rw [List.take_add_one, Hm.out, ← List.append_assoc]
            exact hJ3
          have HK3 : Hid (Keeps (fun b => (b < w1.heap.size ∨ w2.heap.size ≤ b) ∧ b ≠ g) w2 w3) := lib_hid (HKr.out.trans (hk3.mono (fun i hi _ => ⟨Hor.out i hi, fun e => Hq3.out (by rw [← e]; exact hi)⟩)) (fun _ h _ => h))
          have Ho3' : Hid (∀ b, own3 b → b < w1.heap.size ∨ w2.heap.size ≤ b) := lib_hid (fun b hb => by
            rcases ho3 b hb with h | h
            · exact Hor.out b h
            · exact .inr (by omega))
          clear hJ3 hk3 ho3 HD HJr HKr Hor hcell2 hsz
          go_wp2
          go_roundw
          case rel => exact ⟨j + 1, by omega, by go_num, own3, HJ3, HK3, Ho3'⟩
          case measure => simp [intOf]; omega
        · have hjn : j = n := by omega
          have hki : ¬ (j : Int) < (n : Int) := by omega
          have HW' : Hid (RunW H B N g f J (t + 1) wr) := by
            have h1 := HJr.out
            rw [List.take_of_length_le (by have := Hnl.out; omega), ← Hms.out] at h1
            exact ⟨⟨own', h1⟩, L2, Hb2.out.keeps HKr.out (fun h => h.2 rfl), Hr2.out⟩
          have htl2 := Htl.out
          have htb : (t : Int) ≤ 1000000000 := by have := HTb.out; omega
          clear HJr HKr Hor Hjw2 Ho1 Ho2 Ho3 Ho4 HG2 Hb2 Hr2 Hk2 Hms Hmem Hnl HJ
          go_wp2
          go_step3
          refine ⟨rfl, ⟨t + 1, _, _, _, _, _, _, _, _, _, _, _, _, _, _, _, _, _, _, _, _, _, _, _, rfl, by omega, HW'⟩, ?_⟩
          show T - ((t : Int) + 1).toNat < T - (t : Int).toNat
          omega
end Go.Proofs.YtnlffaglmcddkaaDoor
