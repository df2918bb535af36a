/-
  The walk of refill.
-/
import Derived.Test.YtnlffaglmcddkaaDoorBank
import Derived.Deep.Cut
namespace Go.Proofs.YtnlffaglmcddkaaDoor
open Go Go.RowKit
set_option linter.unusedSimpArgs false
set_option linter.unusedVariables false


theorem splice_mid (A X C news : List Value) (o : Nat) (h : o + news.length ≤ X.length) : splice (A ++ (X ++ C)) (A.length + o) news = A ++ (splice X o news ++ C) := by
  unfold splice
  rw [List.take_length_add_append, Nat.add_assoc, List.drop_length_add_append, List.append_assoc]
  congr 1
  rw [List.take_append_of_le_length (by omega), List.drop_append_of_le_length (by omega)]
  simp only [List.append_assoc]
theorem lanes_split (L : List LaneV) (i : Nat) (x : LaneV) (hi : L[i]? = some x) : ∃ A C, A.length = i * 10 ∧ lanesC L = A ++ (laneC x ++ C) ∧ ∀ y, lanesC (L.set i y) = A ++ (laneC y ++ C) := by
  induction L generalizing i with
  | nil => cases hi
  | cons z L ih =>
    cases i with
    | zero =>
      obtain rfl : z = x := Option.some.inj hi
      exact ⟨[], lanesC L, rfl, rfl, fun y => rfl⟩
    | succ i =>
      obtain ⟨A, C, h1, h2, h3⟩ := ih i hi
      refine ⟨laneC z ++ A, C, by simp [laneC, h1]; omega, by rw [lanesC, h2, List.append_assoc], fun y => ?_⟩
      rw [List.set_cons_succ, lanesC, h3, List.append_assoc]
theorem bank_splice (L : List LaneV) (k N : Int) (f : Value) (i : Nat) (x y : LaneV) (hi : L[i]? = some x) (o : Nat) (news : List Value) (hn : o + news.length ≤ 10) (hy : splice (laneC x) o news = laneC y) :
    splice (bankC L k N f).toList (i * 10 + o) news = (bankC (L.set i y) k N f).toList := by
  obtain ⟨A, C, h1, h2, h3⟩ := lanes_split L i x hi
  unfold bankC
  simp only []
  rw [h2, h3, List.append_assoc, List.append_assoc, ← h1, splice_mid _ _ _ _ _ (by simpa [laneC] using hn), hy, List.append_assoc, List.append_assoc]
theorem fillI_other (B : Nat → Nat) (N : Nat) (s : List LaneS × Nat) (i j : Nat) (h : j ≠ i) : (fillI B N s i).1.getD j none = s.1.getD j none := by
  unfold fillI
  split
  · simp only
    rw [List.getD_eq_getElem?_getD, List.getElem?_set, if_neg (fun e => h e.symm), ← List.getD_eq_getElem?_getD]
  · rfl
theorem busyF_congr (L L2 : List LaneS) : ∀ j, (∀ i, i < j → L.getD i none = L2.getD i none) → busyF L j = busyF L2 j
  | 0, _ => rfl
  | j + 1, h => by rw [busyF, busyF, busyF_congr L L2 j (fun i hi => h i (by omega)), h j (by omega)]
theorem busy_fill (B : Nat → Nat) (N : Nat) (s : List LaneS × Nat) (j : Nat) : busyF (fillF B N s (j + 1)).1 (j + 1) = (busyF (fillF B N s j).1 j || ((fillF B N s (j + 1)).1.getD j none).isSome) := by
  rw [busyF, busyF_congr _ (fillF B N s j).1 j (fun i hi => by rw [fillF]; exact fillI_other B N _ j i (by omega))]
theorem fillF_len (B : Nat → Nat) (N : Nat) (s : List LaneS × Nat) (hs : s.1.length = 4) : ∀ j, (fillF B N s j).1.length = 4
  | 0 => hs
  | j + 1 => by
    rw [fillF, fillI]
    split
    · simp only [List.length_set]; exact fillF_len B N s hs j
    · exact fillF_len B N s hs j

/-- What the lanes' cells say. -/
def LaneR (H : Nat → Nat → V8) (x : LaneV) : LaneS → Prop
  | none => x.n = -1
  | some (n, l) => x = ⟨n, H n l, l⟩
def LanesR (H : Nat → Nat → V8) (L : List LaneV) (S : List LaneS) : Prop := S.length = 4 ∧ ∀ i x, L[i]? = some x → LaneR H x (S.getD i none)
theorem LanesR.set {H : Nat → Nat → V8} {L : List LaneV} {S : List LaneS} (h : LanesR H L S) (i : Nat) (hi : i < 4) (y : LaneV) (s : LaneS) (hy : LaneR H y s) : LanesR H (L.set i y) (S.set i s) :=
  ⟨by rw [List.length_set]; exact h.1, fun j x hj => by
    rw [List.getElem?_set] at hj
    rw [List.getD_eq_getElem?_getD, List.getElem?_set]
    have hl := h.1
    by_cases e : i = j
    · subst e
      rw [if_pos rfl] at hj ⊢
      split at hj
      · rw [if_pos (by omega)]
        obtain rfl := Option.some.inj hj
        exact hy
      · cases hj
    · rw [if_neg e] at hj ⊢
      rw [← List.getD_eq_getElem?_getD]
      exact h.2 j x hj⟩
/-- Behind j rounds of refill. -/
def FillW (H : Nat → Nat → V8) (B : Nat → Nat) (N : Nat) (s : List LaneS × Nat) (g : Nat) (f : Value) (w : World) (j : Nat) (W : World) : Prop :=
  Keeps (fun b => b = g) w W ∧ ∃ L, BankB W g L ((fillF B N s j).2 : Int) (N : Int) f ∧ LanesR H L (fillF B N s j).1

theorem FillW.grows {H : Nat → Nat → V8} {B : Nat → Nat} {N : Nat} {s : List LaneS × Nat} {g : Nat} {f : Value} {w : World} {j : Nat} {W W2 : World} (h : FillW H B N s g f w j W) (hg : Grows W W2) : FillW H B N s g f w j W2 :=
  ⟨h.1.trans (hg.keeps (fun b => b = g)) (fun _ h _ => h), by obtain ⟨L, h1, h2⟩ := h.2; exact ⟨L, h1.grows hg, h2⟩⟩
theorem Tryd.sizeLane : (Tryd.prog.info? 53).map (·.size) = some 10 := by kernel_rfl
theorem laneC_one (x : LaneV) : ∀ v ∈ laneC x, v.oneCell' = true := by
  intro v hv
  simp only [laneC, List.mem_cons, List.not_mem_nil, or_false] at hv
  rcases hv with rfl | rfl | rfl | rfl | rfl | rfl | rfl | rfl | rfl | rfl <;> rfl
set_option maxRecDepth 100000 in
set_option maxHeartbeats 4000000 in
theorem refill_any (H : Nat → Nat → V8) (B : Nat → Nat) (N : Nat) (s : List LaneS × Nat) (g : Nat) (F : FuncId) (caps : Array Value) (L : List LaneV) (w : World)
    (hB : BankB w g L (s.2 : Int) (N : Int) (.func (.func F) #[] caps)) (hR : LanesR H L s.1) (hN : N ≤ 1000) (hs : s.2 ≤ N) (hH : ∀ n, n < N → H n (B n) = startV)
    (hcf : ∀ (args : Array Value) (W : World), Sem.run Tryd.prog (callFunc F args) W = .ok (.enter F args) W)
    (hSZ : ∀ (n : Nat) (W : World), n < N → Keeps (fun b => b = g) w W → Calls Tryd.prog F (#[.int .i64 (n : Int)] ++ caps) W fun e W' => e = .returned (.int .i64 (B n : Int)) ∧ Grows W W') :
    Calls Tryd.prog 40 #[.pointer (some ⟨g, 0, none⟩)] w fun e w' => e = .returned (.bool (busyF (fillF B N s 4).1 4)) ∧ FillW H B N s g (.func (.func F) #[] caps) w 4 w' := by
  have HSZ := lib_hid hSZ
  have HH := lib_hid hH
  have H0 : Hid (FillW H B N s g (.func (.func F) #[] caps) w 0 w) := lib_hid ⟨Keeps.refl _ _, L, hB, hR⟩
  have HS := lib_hid hs
  have hlen : Hid (∀ j, (fillF B N s j).1.length = 4) := fillF_len B N s hR.1
  have hks : Hid (∀ j, (fillF B N s j).2 ≤ N) := fun j => by
    induction j with
    | zero => exact hs
    | succ j ih =>
      rw [fillF, fillI]
      split
      · rename_i h; exact h.2
      · exact ih
  clear hSZ hH hB hR hs
  go_enter Tryd.func40, Tryd.ntmps40
  go_wp2
  go_loopw [6, 3] (fun i b wr => ∃ j : Nat, j ≤ 4 ∧ i = .int .i64 j ∧ Hid (b = .bool (busyF (fillF B N s j).1 j)) ∧ Hid (FillW H B N s g (.func (.func F) #[] caps) w j wr)) (fun i _ _ => 4 - (intOf i).toNat)
  case atStart => exact ⟨0, by omega, rfl, lib_hid rfl, H0⟩
  case round =>
    obtain ⟨j, hj, rfl, Hb, HF⟩ := hrel
    by_cases hlt : j < 4
    · have hji : (j : Int) < 4 := by omega
      obtain ⟨L1, B1, R1⟩ := HF.out.2
      have K1 := HF.out.1
      have hl1 := hlen.out j
      have hk1 := hks.out j
      obtain ⟨b0, Hb0⟩ : ∃ b0, Hid (busyF (fillF B N s j).1 j = b0) := ⟨_, lib_hid rfl⟩
      have hbb := Hb.out
      rw [Hb0.out] at hbb
      subst hbb
      obtain ⟨S, k, HSk⟩ : ∃ S k, Hid (fillF B N s j = (S, k)) := ⟨_, _, lib_hid rfl⟩
      rw [HSk.out] at B1 R1 hl1 hk1
      simp only at B1 R1 hl1 hk1
      have HX : Hid (fillF B N s (j + 1) = fillI B N (S, k) j) := by unfold Hid; rw [fillF, HSk.out]
      obtain ⟨x, hx⟩ := B1.lane j hlt
      have hxr := R1.2 j x hx
      have HB := lib_hid B1
      have HR := lib_hid R1
      have HK := lib_hid K1
      have Hx := lib_hid hx
      have hsz : g < wr.heap.size := B1.2.lt
      have Hbf : ∀ c : Bool, Hid (((fillF B N s (j + 1)).1.getD j none).isSome = c) → Hid (busyF (fillF B N s (j + 1)).1 (j + 1) = (b0 || c)) := fun c hc => by
        unfold Hid; rw [busy_fill, hc.out, Hb0.out]
      have Hbf := lib_hid Hbf
      clear B1 R1 K1 hx HF Hb H0 hl1
      cases hS : S.getD j none with
      | none =>
        rw [hS] at hxr
        obtain ⟨n, h, l⟩ := x
        obtain rfl : n = -1 := hxr
        by_cases hkN : k < N
        · have HA : Hid (fillF B N s (j + 1) = (S.set j (some (k, B k)), k + 1)) := by unfold Hid; rw [HX.out, fillI]; simp only; rw [if_pos ⟨hS, hkN⟩]
          have Hbt : Hid (busyF (fillF B N s (j + 1)).1 (j + 1) = true) := by
            have := Hbf.out true (by unfold Hid; rw [HA.out]; simp only; rw [getD_setL _ _ _ _ (by have := HR.out.1; omega), if_pos rfl]; rfl)
            unfold Hid; rw [this.out, Bool.or_true]
          have HST : Hid (∀ W, Calls Tryd.prog 50 #[] W fun e w' => e = .returned (.agg (startV.list.map b32).toArray) ∧ Grows W w') := by rw [startV_list]; exact fun W => start_any W
          have HHk := lib_hid (HH.out k hkN)
          obtain ⟨V, HV⟩ : ∃ V, Hid (startV = V) := ⟨_, lib_hid rfl⟩
          rw [HV.out] at HST HHk
          clear HV
          obtain ⟨a1, a2, a3, a4, a5, a6, a7, a8⟩ := V
          replace HST : Hid (∀ W, Calls Tryd.prog 50 #[] W fun e1 w' => e1 = .returned (.agg #[b32 a1, b32 a2, b32 a3, b32 a4, b32 a5, b32 a6, b32 a7, b32 a8]) ∧ Grows W w') := HST
          have HSZ2 : Hid (∀ W, Grows wr W → Calls Tryd.prog F (#[.int .i64 (k : Int)] ++ caps) W fun e W' => e = .returned (.int .i64 (B k : Int)) ∧ Grows W W') := fun W hW => HSZ.out k W hkN (HK.out.trans (hW.keeps (fun b => b = g)) (fun _ h _ => h))
          obtain ⟨bk, Hbk⟩ : ∃ bk, Hid (B k = bk) := ⟨_, lib_hid rfl⟩
          rw [Hbk.out] at HSZ2 HA HHk
          have Hd := lib_hid (show decide ((k : Int) < (N : Int)) = true by simp; omega)
          have Hd2 := lib_hid (show decide (k < N) = true by simp; omega)
          have Hd0 := lib_hid (show True from trivial)
          have Hd02 := lib_hid (show True from trivial)
          have hkb : (k : Int) ≤ 1000 := by omega
          clear hS hkN HSZ HH Hbf
          go_upto_region 6 with fail
          apply wp_region_mono 16 ((.is _, []) :: (.is _, []) :: (.is _, []) :: (.is _, []) :: (.is _, []) :: (.is _, []) :: (.is _, []) :: (.is _, []) :: (.is _, []) :: (.is _, []) :: (.is _, []) :: (.is _, []) :: (.is _, []) :: (.is _, []) :: (.is _, []) :: (.is _, []) :: []) (by kernel_rfl) (by kernel_rfl)
          iterate 3
            apply Mono.is0
            · kernel_rfl
            · intro W hW
              go_wp2
              refine ⟨rfl, rfl, Grows.refl _, ?_⟩
              unfold Oper.valAt
              go_simp
              rfl
            intro k1 a1 hk1 ha1
            simp only [Nat.reduceAdd] at hk1
            simp only [Act.put, List.setIfInBounds_toArray, List.set_cons_succ, List.set_cons_zero] at ha1
            subst hk1 ha1
          apply Mono.is0
          · kernel_rfl
          · intro W hW
            have c0 := (HB.out.grows hW).celln Hx.out
            go_wp2
            refine ⟨rfl, rfl, Grows.refl _, ?_⟩
            unfold Oper.valAt
            go_simp
            rfl
          intro k1 a1 hk1 ha1
          simp only [Nat.reduceAdd] at hk1
          simp only [Act.put, List.setIfInBounds_toArray, List.set_cons_succ, List.set_cons_zero] at ha1
          subst hk1 ha1
          apply Mono.is0
          · kernel_rfl
          · intro W hW
            have hd := Hd0.out
            have hd2 := Hd02.out
            go_wp2
            refine ⟨rfl, rfl, Grows.refl _, ?_⟩
            unfold Oper.valAt
            go_simp
            rfl
          intro k1 a1 hk1 ha1
          simp only [Nat.reduceAdd] at hk1
          simp only [Act.put, List.setIfInBounds_toArray, List.set_cons_succ, List.set_cons_zero] at ha1
          subst hk1 ha1
          iterate 4
            apply Mono.is0
            · kernel_rfl
            · intro W hW
              go_wp2
              refine ⟨rfl, rfl, Grows.refl _, ?_⟩
              unfold Oper.valAt
              go_simp
              rfl
            intro k1 a1 hk1 ha1
            simp only [Nat.reduceAdd] at hk1
            simp only [Act.put, List.setIfInBounds_toArray, List.set_cons_succ, List.set_cons_zero] at ha1
            subst hk1 ha1
          apply Mono.is0
          · kernel_rfl
          · intro W hW
            have c0 := (HB.out.grows hW).cellk
            go_wp2
            refine ⟨rfl, rfl, Grows.refl _, ?_⟩
            unfold Oper.valAt
            go_simp
            rfl
          intro k1 a1 hk1 ha1
          simp only [Nat.reduceAdd] at hk1
          simp only [Act.put, List.setIfInBounds_toArray, List.set_cons_succ, List.set_cons_zero] at ha1
          subst hk1 ha1
          iterate 3
            apply Mono.is0
            · kernel_rfl
            · intro W hW
              go_wp2
              refine ⟨rfl, rfl, Grows.refl _, ?_⟩
              unfold Oper.valAt
              go_simp
              rfl
            intro k1 a1 hk1 ha1
            simp only [Nat.reduceAdd] at hk1
            simp only [Act.put, List.setIfInBounds_toArray, List.set_cons_succ, List.set_cons_zero] at ha1
            subst hk1 ha1
          apply Mono.is0
          · kernel_rfl
          · intro W hW
            have c0 := (HB.out.grows hW).cellN
            go_wp2
            refine ⟨rfl, rfl, Grows.refl _, ?_⟩
            unfold Oper.valAt
            go_simp
            rfl
          intro k1 a1 hk1 ha1
          simp only [Nat.reduceAdd] at hk1
          simp only [Act.put, List.setIfInBounds_toArray, List.set_cons_succ, List.set_cons_zero] at ha1
          subst hk1 ha1
          apply Mono.is0
          · kernel_rfl
          · intro W hW
            have hd := Hd.out
            have hd2 := Hd2.out
            go_wp2
            refine ⟨rfl, rfl, Grows.refl _, ?_⟩
            unfold Oper.valAt
            go_simp
            rfl
          intro k1 a1 hk1 ha1
          simp only [Nat.reduceAdd] at hk1
          simp only [Act.put, List.setIfInBounds_toArray, List.set_cons_succ, List.set_cons_zero] at ha1
          subst hk1 ha1
          apply Mono.is0
          · kernel_rfl
          · intro W hW
            go_wp2
            refine ⟨rfl, rfl, Grows.refl _, ?_⟩
            unfold Oper.valAt
            go_simp
            rfl
          intro k1 a1 hk1 ha1
          simp only [Nat.reduceAdd] at hk1
          simp only [Act.put, List.setIfInBounds_toArray, List.set_cons_succ, List.set_cons_zero] at ha1
          subst hk1 ha1
          refine Mono.done ?_
          intro wm hgm
          simp only [allF, List.drop_succ_cons, List.drop_nil]
          have hG1 := hgm
          clear hgm
          go_upto_region 7 with fail
          apply wp_region_mono 17 ((.is _, []) :: (.is _, []) :: (.is _, []) :: (.is _, []) :: (.is _, []) :: (.is (.agg #[b32 a1, b32 a2, b32 a3, b32 a4, b32 a5, b32 a6, b32 a7, b32 a8]), []) :: (.is _, []) :: (.is _, []) :: (.is _, []) :: (.is _, []) :: (.is _, []) :: (.is _, []) :: (.is _, []) :: (.is _, []) :: (.is (.int .i64 (bk : Int)), []) :: (.is _, []) :: (.is _, []) :: []) (by kernel_rfl) (by kernel_rfl)
          iterate 4
            apply Mono.is0
            · kernel_rfl
            · intro W hW
              go_wp2
              refine ⟨rfl, rfl, Grows.refl _, ?_⟩
              unfold Oper.valAt
              go_simp
              rfl
            intro k1 a1 hk1 ha1
            simp only [Nat.reduceAdd] at hk1
            simp only [Act.put, List.setIfInBounds_toArray, List.set_cons_succ, List.set_cons_zero] at ha1
            subst hk1 ha1
          apply Mono.is0
          · kernel_rfl
          · intro W hW
            have c0 := (HB.out.grows (hG1.trans hW)).cellk
            go_wp2
            refine ⟨rfl, rfl, Grows.refl _, ?_⟩
            unfold Oper.valAt
            go_simp
            rfl
          intro k1 a1 hk1 ha1
          simp only [Nat.reduceAdd] at hk1
          simp only [Act.put, List.setIfInBounds_toArray, List.set_cons_succ, List.set_cons_zero] at ha1
          subst hk1 ha1
          apply Mono.is0
          · kernel_rfl
          · intro W hW 
            go_wp2_with fail
            refine (HST.out W).mono ?_
            rintro e w1 ⟨rfl, hg1⟩
            go_wp2
            exact ⟨rfl, rfl, hg1, rfl⟩
          intro k1 a1 hk1 ha1
          simp only [Nat.reduceAdd] at hk1
          simp only [Act.put, List.setIfInBounds_toArray, List.set_cons_succ, List.set_cons_zero] at ha1
          subst hk1 ha1
          iterate 3
            apply Mono.is0
            · kernel_rfl
            · intro W hW
              go_wp2
              refine ⟨rfl, rfl, Grows.refl _, ?_⟩
              unfold Oper.valAt
              go_simp
              rfl
            intro k1 a1 hk1 ha1
            simp only [Nat.reduceAdd] at hk1
            simp only [Act.put, List.setIfInBounds_toArray, List.set_cons_succ, List.set_cons_zero] at ha1
            subst hk1 ha1
          apply Mono.is0
          · kernel_rfl
          · intro W hW
            have c0 := (HB.out.grows (hG1.trans hW)).cellf
            go_wp2
            refine ⟨rfl, rfl, Grows.refl _, ?_⟩
            unfold Oper.valAt
            go_simp
            rfl
          intro k1 a1 hk1 ha1
          simp only [Nat.reduceAdd] at hk1
          simp only [Act.put, List.setIfInBounds_toArray, List.set_cons_succ, List.set_cons_zero] at ha1
          subst hk1 ha1
          iterate 3
            apply Mono.is0
            · kernel_rfl
            · intro W hW
              go_wp2
              refine ⟨rfl, rfl, Grows.refl _, ?_⟩
              unfold Oper.valAt
              go_simp
              rfl
            intro k1 a1 hk1 ha1
            simp only [Nat.reduceAdd] at hk1
            simp only [Act.put, List.setIfInBounds_toArray, List.set_cons_succ, List.set_cons_zero] at ha1
            subst hk1 ha1
          apply Mono.is0
          · kernel_rfl
          · intro W hW
            have c0 := (HB.out.grows (hG1.trans hW)).cellk
            go_wp2
            refine ⟨rfl, rfl, Grows.refl _, ?_⟩
            unfold Oper.valAt
            go_simp
            rfl
          intro k1 a1 hk1 ha1
          simp only [Nat.reduceAdd] at hk1
          simp only [Act.put, List.setIfInBounds_toArray, List.set_cons_succ, List.set_cons_zero] at ha1
          subst hk1 ha1
          apply Mono.is0
          · kernel_rfl
          · intro W hW 
            go_wp2_with fail
            refine (HSZ2.out W (hG1.trans hW)).mono ?_
            rintro e w1 ⟨rfl, hg1⟩
            go_wp2
            exact ⟨rfl, rfl, hg1, rfl⟩
          intro k1 a1 hk1 ha1
          simp only [Nat.reduceAdd] at hk1
          simp only [Act.put, List.setIfInBounds_toArray, List.set_cons_succ, List.set_cons_zero] at ha1
          subst hk1 ha1
          iterate 2
            apply Mono.is0
            · kernel_rfl
            · intro W hW
              go_wp2
              refine ⟨rfl, rfl, Grows.refl _, ?_⟩
              unfold Oper.valAt
              go_simp
              rfl
            intro k1 a1 hk1 ha1
            simp only [Nat.reduceAdd] at hk1
            simp only [Act.put, List.setIfInBounds_toArray, List.set_cons_succ, List.set_cons_zero] at ha1
            subst hk1 ha1
          refine Mono.done ?_
          intro wm hgm
          simp only [allF, List.drop_succ_cons, List.drop_zero]
          have HG2 := lib_hid (hG1.trans hgm)
          have HB2 := lib_hid (HB.out.grows HG2.out)
          clear hG1 hgm HSZ2 HST hcf
          have hfit : ∀ y : LaneV, j * 10 + (laneC y).length ≤ (bankC L1 (k : Int) (N : Int) (.func (.func F) #[] caps)).toList.length := fun y => by
            have h := bankC_size L1 (k : Int) (N : Int) (.func (.func F) #[] caps) HB2.out.1
            rw [← Array.length_toList] at h
            rw [h]; simp [laneC]; omega
          refine wpList_store_part rfl _ _ _ rfl g (j * 10) (laneC ⟨(k : Int), ⟨a1, a2, a3, a4, a5, a6, a7, a8⟩, (bk : Int)⟩) rfl rfl 72 (bankC L1 (k : Int) (N : Int) (.func (.func F) #[] caps)).toList (by rw [Array.toArray_toList]; exact HB2.out.2) (by rw [Tryd.sizeLane]; rfl) (hfit _) (laneC_one _) 0 wm (Below.refl _ _) (Nat.zero_le _) ?_
          intro w5 HB5 _ hgr5
          go_upto_region 8 with fail
          obtain ⟨y, Hy⟩ : ∃ y : LaneV, Hid (y = ⟨(k : Int), ⟨a1, a2, a3, a4, a5, a6, a7, a8⟩, (bk : Int)⟩) := ⟨_, lib_hid rfl⟩
          rw [← Hy.out] at HB5
          have hyn : Hid (y.n = (k : Int)) := by unfold Hid; rw [Hy.out]
          have hsp := bank_splice L1 (k : Int) (N : Int) (.func (.func F) #[] caps) j _ y Hx.out 0 (laneC y) (by simp [laneC]) (by simp [splice, laneC])
          rw [Nat.add_zero] at hsp
          rw [hsp, Array.toArray_toList] at HB5
          have HB6 : Hid (BankB w5 g (L1.set j y) (k : Int) (N : Int) (.func (.func F) #[] caps)) := lib_hid ⟨by rw [List.length_set]; exact HB2.out.1, HB5⟩
          have HK5 : Hid (Keeps (fun b => b = g) w w5) := lib_hid ((HK.out.trans (HG2.out.keeps (fun b => b = g)) (fun _ h _ => h)).trans ((keeps_grown hgr5).mono (fun i h _ => (Option.some.inj h).symm)) (fun _ h _ => h))
          have hsz5 : g < w5.heap.size := HB6.out.2.lt
          have hc40 := HB6.out.cellk
          have hf40 := HB6.out.frozen 40
          clear HB5 hgr5 hsp HB2 HG2
          go_upto_region 9 with fail
          obtain ⟨w6, Hw6⟩ : ∃ w6 : World, Hid (w6 = w5.setCell ⟨g, 40, none⟩ (.int .i64 ((k : Int) + 1))) := ⟨_, lib_hid rfl⟩
          rw [← Hw6.out]
          have HB7 : Hid (BankB w6 g (L1.set j y) ((k + 1 : Nat) : Int) (N : Int) (.func (.func F) #[] caps)) := by unfold Hid; rw [Hw6.out]; exact HB6.out.next _
          have HK7 : Hid (Keeps (fun b => b = g) w w6) := by unfold Hid; rw [Hw6.out]; exact HK5.out.trans (keeps_set _ _ _) (fun _ h _ => h)
          have hyj : (L1.set j y)[j]? = some y := by
            rw [List.getElem?_set, if_pos rfl, if_pos (List.getElem?_eq_some_iff.1 Hx.out).1]
          have hcn := HB7.out.celln hyj
          rw [hyn.out] at hcn
          have hge : (0 : Int) ≤ (k : Int) := by omega
          have HF2 : Hid (FillW H B N s g (.func (.func F) #[] caps) w (j + 1) w6) := lib_hid ⟨HK7.out, L1.set j y, by rw [HA.out]; exact HB7.out, by
            rw [HA.out]
            exact HR.out.set j hlt y _ (by rw [Hy.out]; show _ = _; rw [HHk.out])⟩
          clear hyj hc40 hf40 HB6 HB7 HK7 HK5 Hw6 HB HK HR Hx hsz5 hsz
          cases b0
          · go_wp2
            go_roundw
            case rel => exact ⟨j + 1, by omega, by go_num, by unfold Hid; rw [Hbt.out], HF2⟩
            case measure => simp [intOf]; omega
          · go_wp2
            go_roundw
            case rel => exact ⟨j + 1, by omega, by go_num, by unfold Hid; rw [Hbt.out], HF2⟩
            case measure => simp [intOf]; omega
        · have HA : Hid (fillF B N s (j + 1) = (S, k)) := by unfold Hid; rw [HX.out, fillI]; simp only; rw [if_neg (fun h => hkN h.2)]
          have Hbt : Hid (busyF (fillF B N s (j + 1)).1 (j + 1) = b0) := by
            have := Hbf.out false (by unfold Hid; rw [HA.out]; simp only; rw [hS]; rfl)
            unfold Hid; rw [this.out, Bool.or_false]
          have Hd := lib_hid (show decide ((k : Int) < (N : Int)) = false by simp; omega)
          have Hd2 := lib_hid (show decide (k < N) = false by simp; omega)
          have Hd0 := lib_hid (show True from trivial)
          have Hd02 := lib_hid (show True from trivial)
          have HF2 : Hid (FillW H B N s g (.func (.func F) #[] caps) w (j + 1) wr) := lib_hid ⟨HK.out, L1, by rw [HA.out]; exact HB.out, by rw [HA.out]; exact HR.out⟩
          clear hS hkN HSZ HH Hbf
          go_upto_region 6 with fail
          apply wp_region_mono 16 ((.is _, []) :: (.is _, []) :: (.is _, []) :: (.is _, []) :: (.is _, []) :: (.is _, []) :: (.is _, []) :: (.is _, []) :: (.is _, []) :: (.is _, []) :: (.is _, []) :: (.is _, []) :: (.is _, []) :: (.is _, []) :: (.is _, []) :: (.is _, []) :: []) (by kernel_rfl) (by kernel_rfl)
          iterate 3
            apply Mono.is0
            · kernel_rfl
            · intro W hW
              go_wp2
              refine ⟨rfl, rfl, Grows.refl _, ?_⟩
              unfold Oper.valAt
              go_simp
              rfl
            intro k1 a1 hk1 ha1
            simp only [Nat.reduceAdd] at hk1
            simp only [Act.put, List.setIfInBounds_toArray, List.set_cons_succ, List.set_cons_zero] at ha1
            subst hk1 ha1
          apply Mono.is0
          · kernel_rfl
          · intro W hW
            have c0 := (HB.out.grows hW).celln Hx.out
            go_wp2
            refine ⟨rfl, rfl, Grows.refl _, ?_⟩
            unfold Oper.valAt
            go_simp
            rfl
          intro k1 a1 hk1 ha1
          simp only [Nat.reduceAdd] at hk1
          simp only [Act.put, List.setIfInBounds_toArray, List.set_cons_succ, List.set_cons_zero] at ha1
          subst hk1 ha1
          apply Mono.is0
          · kernel_rfl
          · intro W hW
            have hd := Hd0.out
            have hd2 := Hd02.out
            go_wp2
            refine ⟨rfl, rfl, Grows.refl _, ?_⟩
            unfold Oper.valAt
            go_simp
            rfl
          intro k1 a1 hk1 ha1
          simp only [Nat.reduceAdd] at hk1
          simp only [Act.put, List.setIfInBounds_toArray, List.set_cons_succ, List.set_cons_zero] at ha1
          subst hk1 ha1
          iterate 4
            apply Mono.is0
            · kernel_rfl
            · intro W hW
              go_wp2
              refine ⟨rfl, rfl, Grows.refl _, ?_⟩
              unfold Oper.valAt
              go_simp
              rfl
            intro k1 a1 hk1 ha1
            simp only [Nat.reduceAdd] at hk1
            simp only [Act.put, List.setIfInBounds_toArray, List.set_cons_succ, List.set_cons_zero] at ha1
            subst hk1 ha1
          apply Mono.is0
          · kernel_rfl
          · intro W hW
            have c0 := (HB.out.grows hW).cellk
            go_wp2
            refine ⟨rfl, rfl, Grows.refl _, ?_⟩
            unfold Oper.valAt
            go_simp
            rfl
          intro k1 a1 hk1 ha1
          simp only [Nat.reduceAdd] at hk1
          simp only [Act.put, List.setIfInBounds_toArray, List.set_cons_succ, List.set_cons_zero] at ha1
          subst hk1 ha1
          iterate 3
            apply Mono.is0
            · kernel_rfl
            · intro W hW
              go_wp2
              refine ⟨rfl, rfl, Grows.refl _, ?_⟩
              unfold Oper.valAt
              go_simp
              rfl
            intro k1 a1 hk1 ha1
            simp only [Nat.reduceAdd] at hk1
            simp only [Act.put, List.setIfInBounds_toArray, List.set_cons_succ, List.set_cons_zero] at ha1
            subst hk1 ha1
          apply Mono.is0
          · kernel_rfl
          · intro W hW
            have c0 := (HB.out.grows hW).cellN
            go_wp2
            refine ⟨rfl, rfl, Grows.refl _, ?_⟩
            unfold Oper.valAt
            go_simp
            rfl
          intro k1 a1 hk1 ha1
          simp only [Nat.reduceAdd] at hk1
          simp only [Act.put, List.setIfInBounds_toArray, List.set_cons_succ, List.set_cons_zero] at ha1
          subst hk1 ha1
          apply Mono.is0
          · kernel_rfl
          · intro W hW
            have hd := Hd.out
            have hd2 := Hd2.out
            go_wp2
            refine ⟨rfl, rfl, Grows.refl _, ?_⟩
            unfold Oper.valAt
            go_simp
            rfl
          intro k1 a1 hk1 ha1
          simp only [Nat.reduceAdd] at hk1
          simp only [Act.put, List.setIfInBounds_toArray, List.set_cons_succ, List.set_cons_zero] at ha1
          subst hk1 ha1
          apply Mono.is0
          · kernel_rfl
          · intro W hW
            go_wp2
            refine ⟨rfl, rfl, Grows.refl _, ?_⟩
            unfold Oper.valAt
            go_simp
            rfl
          intro k1 a1 hk1 ha1
          simp only [Nat.reduceAdd] at hk1
          simp only [Act.put, List.setIfInBounds_toArray, List.set_cons_succ, List.set_cons_zero] at ha1
          subst hk1 ha1
          refine Mono.done ?_
          intro wm hgm
          simp only [allF, List.drop_succ_cons, List.drop_nil]
          have HF3 : Hid (FillW H B N s g (.func (.func F) #[] caps) w (j + 1) wm) := lib_hid (HF2.out.grows hgm)
          have hcn := (HB.out.grows hgm).celln Hx.out
          clear HF2 hgm HB HK HR Hx hsz hcf
          cases b0
          · go_wp2
            go_roundw
            case rel => exact ⟨j + 1, by omega, by go_num, by unfold Hid; rw [Hbt.out], HF3⟩
            case measure => simp [intOf]; omega
          · go_wp2
            go_roundw
            case rel => exact ⟨j + 1, by omega, by go_num, by unfold Hid; rw [Hbt.out], HF3⟩
            case measure => simp [intOf]; omega
      | some nl =>
        obtain ⟨n, l⟩ := nl
        rw [hS] at hxr
        obtain rfl : x = ⟨(n : Int), H n l, (l : Int)⟩ := hxr
        have HA : Hid (fillF B N s (j + 1) = (S, k)) := by unfold Hid; rw [HX.out, fillI]; simp only; rw [if_neg (fun h => by rw [hS] at h; cases h.1)]
        have Hbt : Hid (busyF (fillF B N s (j + 1)).1 (j + 1) = true) := by
          have := Hbf.out true (by unfold Hid; rw [HA.out]; simp only; rw [hS]; rfl)
          unfold Hid; rw [this.out, Bool.or_true]
        have Hd0 := lib_hid (show decide ((n : Int) < 0) = false by simp)
        have Hd02 := lib_hid (show True from trivial)
        have HF2 : Hid (FillW H B N s g (.func (.func F) #[] caps) w (j + 1) wr) := lib_hid ⟨HK.out, L1, by rw [HA.out]; exact HB.out, by rw [HA.out]; exact HR.out⟩
        have hge : (0 : Int) ≤ (n : Int) := by omega
        clear hS HSZ HH Hbf
        go_upto_region 6 with fail
        apply wp_region_mono 16 ((.is _, []) :: (.is _, []) :: (.is _, []) :: (.is _, []) :: (.is _, []) :: (.is _, []) :: (.is undef, []) :: (.is undef, []) :: (.is undef, []) :: (.is undef, []) :: (.is undef, []) :: (.is undef, []) :: (.is undef, []) :: (.is undef, []) :: (.is undef, []) :: (.is _, []) :: []) (by kernel_rfl) (by kernel_rfl)
        iterate 3
          apply Mono.is0
          · kernel_rfl
          · intro W hW
            go_wp2
            refine ⟨rfl, rfl, Grows.refl _, ?_⟩
            unfold Oper.valAt
            go_simp
            rfl
          intro k1 a1 hk1 ha1
          simp only [Nat.reduceAdd] at hk1
          simp only [Act.put, List.setIfInBounds_toArray, List.set_cons_succ, List.set_cons_zero] at ha1
          subst hk1 ha1
        apply Mono.is0
        · kernel_rfl
        · intro W hW
          have c0 := (HB.out.grows hW).celln Hx.out
          go_wp2
          refine ⟨rfl, rfl, Grows.refl _, ?_⟩
          unfold Oper.valAt
          go_simp
          rfl
        intro k1 a1 hk1 ha1
        simp only [Nat.reduceAdd] at hk1
        simp only [Act.put, List.setIfInBounds_toArray, List.set_cons_succ, List.set_cons_zero] at ha1
        subst hk1 ha1
        apply Mono.is0
        · kernel_rfl
        · intro W hW
          have hd := Hd0.out
          have hd2 := Hd02.out
          go_wp2
          refine ⟨rfl, rfl, Grows.refl _, ?_⟩
          unfold Oper.valAt
          go_simp
          rfl
        intro k1 a1 hk1 ha1
        simp only [Nat.reduceAdd] at hk1
        simp only [Act.put, List.setIfInBounds_toArray, List.set_cons_succ, List.set_cons_zero] at ha1
        subst hk1 ha1
        apply Mono.is0
        · kernel_rfl
        · intro W hW
          go_wp2
          refine ⟨rfl, rfl, Grows.refl _, ?_⟩
          unfold Oper.valAt
          go_simp
          rfl
        intro k1 a1 hk1 ha1
        simp only [Nat.reduceAdd] at hk1
        simp only [Act.put, List.setIfInBounds_toArray, List.set_cons_succ, List.set_cons_zero] at ha1
        subst hk1 ha1
        apply Mono.no
        · kernel_rfl
        intro k1 a1 hk1 ha1
        simp only [Nat.reduceAdd] at hk1
        simp only [Act.put, List.setIfInBounds_toArray, List.set_cons_succ, List.set_cons_zero] at ha1
        subst hk1 ha1
        apply Mono.no
        · kernel_rfl
        intro k1 a1 hk1 ha1
        simp only [Nat.reduceAdd] at hk1
        simp only [Act.put, List.setIfInBounds_toArray, List.set_cons_succ, List.set_cons_zero] at ha1
        subst hk1 ha1
        apply Mono.no
        · kernel_rfl
        intro k1 a1 hk1 ha1
        simp only [Nat.reduceAdd] at hk1
        simp only [Act.put, List.setIfInBounds_toArray, List.set_cons_succ, List.set_cons_zero] at ha1
        subst hk1 ha1
        apply Mono.no
        · kernel_rfl
        intro k1 a1 hk1 ha1
        simp only [Nat.reduceAdd] at hk1
        simp only [Act.put, List.setIfInBounds_toArray, List.set_cons_succ, List.set_cons_zero] at ha1
        subst hk1 ha1
        apply Mono.no
        · kernel_rfl
        intro k1 a1 hk1 ha1
        simp only [Nat.reduceAdd] at hk1
        simp only [Act.put, List.setIfInBounds_toArray, List.set_cons_succ, List.set_cons_zero] at ha1
        subst hk1 ha1
        apply Mono.no
        · kernel_rfl
        intro k1 a1 hk1 ha1
        simp only [Nat.reduceAdd] at hk1
        simp only [Act.put, List.setIfInBounds_toArray, List.set_cons_succ, List.set_cons_zero] at ha1
        subst hk1 ha1
        apply Mono.no
        · kernel_rfl
        intro k1 a1 hk1 ha1
        simp only [Nat.reduceAdd] at hk1
        simp only [Act.put, List.setIfInBounds_toArray, List.set_cons_succ, List.set_cons_zero] at ha1
        subst hk1 ha1
        apply Mono.no
        · kernel_rfl
        intro k1 a1 hk1 ha1
        simp only [Nat.reduceAdd] at hk1
        simp only [Act.put, List.setIfInBounds_toArray, List.set_cons_succ, List.set_cons_zero] at ha1
        subst hk1 ha1
        apply Mono.no
        · kernel_rfl
        intro k1 a1 hk1 ha1
        simp only [Nat.reduceAdd] at hk1
        simp only [Act.put, List.setIfInBounds_toArray, List.set_cons_succ, List.set_cons_zero] at ha1
        subst hk1 ha1
        apply Mono.is0
        · kernel_rfl
        · intro W hW
          go_wp2
          refine ⟨rfl, rfl, Grows.refl _, ?_⟩
          unfold Oper.valAt
          go_simp
          rfl
        intro k1 a1 hk1 ha1
        simp only [Nat.reduceAdd] at hk1
        simp only [Act.put, List.setIfInBounds_toArray, List.set_cons_succ, List.set_cons_zero] at ha1
        subst hk1 ha1
        refine Mono.done ?_
        intro wm hgm
        simp only [allF, List.drop_succ_cons, List.drop_nil]
        have HF3 : Hid (FillW H B N s g (.func (.func F) #[] caps) w (j + 1) wm) := lib_hid (HF2.out.grows hgm)
        have hcn := (HB.out.grows hgm).celln Hx.out
        clear HF2 hgm HB HK HR Hx hsz hcf
        cases b0
        · go_wp2
          go_roundw
          case rel => exact ⟨j + 1, by omega, by go_num, by unfold Hid; rw [Hbt.out], HF3⟩
          case measure => simp [intOf]; omega
        · go_wp2
          go_roundw
          case rel => exact ⟨j + 1, by omega, by go_num, by unfold Hid; rw [Hbt.out], HF3⟩
          case measure => simp [intOf]; omega
    · obtain rfl : j = 4 := by omega
      have hki : ¬ (4 : Int) < 4 := by omega
      obtain ⟨b, Hbb⟩ : ∃ b, Hid (busyF (fillF B N s 4).1 4 = b) := ⟨_, lib_hid rfl⟩
      have hb := Hb.out
      rw [Hbb.out] at hb
      subst hb
      go_wp2
      go_ret
      exact ⟨by rw [Hbb.out]; rfl, HF.out⟩
end Go.Proofs.YtnlffaglmcddkaaDoor
