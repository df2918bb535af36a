/-
  The walk of step.
-/
import Derived.Test.YtnlffaglmcddkaaDoorBank2
import Derived.Test.YtnlffaglmcddkaaDoorSha7
import Derived.Deep.Cut
namespace Go.Proofs.YtnlffaglmcddkaaDoor
open Go Go.RowKit
set_option linter.unusedSimpArgs false
set_option linter.unusedVariables false


abbrev ptrV (b : Nat) : Value := .pointer (some ⟨b, 0, none⟩)
theorem Tryd.infoPtr : (Tryd.prog.info? 49).map (fun i => (i.zero, i.size, i.bytes)) = some (some (.pointer none), 1, 8) := by kernel_rfl
/-- The lanes that have left: a new slice of pointers to new lanes. -/
def GoneR (H : Nat → Nat → V8) (base : Nat) (W : World) (A : Option Addr) (n c : Nat) (ms : List Nat) : Prop :=
  ∃ ps : List Nat, OwnAt W base A n c (ps.map ptrV) ∧ ps.length = ms.length ∧ (∀ b ∈ ps, base ≤ b ∧ blkOf A ≠ some b) ∧ ∀ (j b m : Nat), ps[j]? = some b → ms[j]? = some m → Blk W b 53 (laneC ⟨(m : Int), H m 0, 0⟩).toArray
theorem GoneR.len {H : Nat → Nat → V8} {base : Nat} {W : World} {A : Option Addr} {n c : Nat} {ms : List Nat} (h : GoneR H base W A n c ms) : ms.length = n := by
  obtain ⟨ps, h1, h2, _⟩ := h
  rw [← h2, ← h1.1, List.length_map]
theorem GoneR.nil (H : Nat → Nat → V8) (base : Nat) (W : World) : GoneR H base W none 0 0 [] := ⟨[], OwnAt.nil W base, rfl, fun b hb => (by cases hb), fun j b m h => (by cases h)⟩
theorem GoneR.keeps {H : Nat → Nat → V8} {base : Nat} {W W' : World} {A : Option Addr} {n c : Nat} {ms : List Nat} {own : Nat → Prop} (h : GoneR H base W A n c ms) (k : Keeps own W W') (ho : ∀ b, base ≤ b → b < W.heap.size → ¬ own b) : GoneR H base W' A n c ms := by
  obtain ⟨ps, h1, h2, h3, h4⟩ := h
  refine ⟨ps, h1.keeps k (fun p hp => ho _ (h1.base_le p hp) (h1.lt p hp)), h2, h3, fun j b m hb hm => ?_⟩
  have hk := h4 j b m hb hm
  exact hk.keeps k (ho b (h3 b (List.mem_of_getElem? hb)).1 hk.lt)
theorem GoneR.push {H : Nat → Nat → V8} {base : Nat} {W W2 : World} {A A2 : Option Addr} {n c c2 b m : Nat} {ms : List Nat} (ps : List Nat)
    (h1 : OwnAt W base A n c (ps.map ptrV)) (h2 : ps.length = ms.length) (h3 : ∀ b ∈ ps, base ≤ b ∧ blkOf A ≠ some b) (h4 : ∀ (j b m : Nat), ps[j]? = some b → ms[j]? = some m → Blk W b 53 (laneC ⟨(m : Int), H m 0, 0⟩).toArray)
    (hb : base ≤ b) (hB : Blk W b 53 (laneC ⟨(m : Int), H m 0, 0⟩).toArray) (hA : blkOf A ≠ some b)
    (ho : OwnAt W2 base A2 (n + 1) c2 (ps.map ptrV ++ [ptrV b])) (hg : W.grownBy W2 (blkOf A)) (hl : blkOf A2 = blkOf A ∨ blkOf A2 = some W.heap.size) : GoneR H base W2 A2 (n + 1) c2 (ms ++ [m]) := by
  have hA2 : ∀ b, b < W.heap.size → blkOf A ≠ some b → blkOf A2 ≠ some b := fun b hb hne e => by
    rcases hl with h | h
    · exact hne (h.symm.trans e)
    · rw [h] at e; cases e; exact Nat.lt_irrefl _ hb
  have hlt : ∀ b ∈ ps, b < W.heap.size := fun b hb => by
    obtain ⟨j, hj⟩ := List.getElem?_of_mem hb
    have hjl : j < ps.length := (List.getElem?_eq_some_iff.1 hj).1
    exact (h4 j b (ms[j]'(by omega)) hj (List.getElem?_eq_getElem _)).lt
  refine ⟨ps ++ [b], by rw [List.map_append]; exact ho, by simp [h2], fun d hd => ?_, fun j d m' hd hm => ?_⟩
  · rw [List.mem_append, List.mem_singleton] at hd
    rcases hd with hd | rfl
    · exact ⟨(h3 d hd).1, hA2 d (hlt d hd) (h3 d hd).2⟩
    · exact ⟨hb, hA2 d hB.lt hA⟩
  · by_cases hj : j < ps.length
    · rw [List.getElem?_append_left hj] at hd
      rw [List.getElem?_append_left (by omega)] at hm
      exact (h4 j d m' hd hm).grown hg (fun e => (h3 d (List.mem_of_getElem? hd)).2 e.symm)
    · rw [List.getElem?_append_right (by omega)] at hd
      rw [List.getElem?_append_right (by omega), ← h2] at hm
      have hj0 : j - ps.length = 0 := by
        rcases Nat.eq_zero_or_pos (j - ps.length) with h | h
        · exact h
        · rw [List.getElem?_eq_none (by simp; omega)] at hd; cases hd
      rw [hj0] at hd hm
      obtain rfl := Option.some.inj hd
      obtain rfl := Option.some.inj hm
      exact hB.grown hg (fun e => hA e.symm)
theorem BankB.load {w : World} {g : Nat} {L : List LaneV} {k N : Int} {f : Value} (h : BankB w g L k N f) {i : Nat} {x : LaneV} (hi : L[i]? = some x) : ∀ j u, (laneC x)[j]? = some u → w.cell? ((⟨g, i * 10, none⟩ : Addr).add j) = some u := by
  intro j u hu
  have hj : j < 10 := by have := (List.getElem?_eq_some_iff.1 hu).1; simpa [laneC] using this
  rw [add_zero_spot, ← hu]
  exact h.cell hi j hj
theorem laneC_all (y : LaneV) : ((laneC y).toArray).all (·.oneCell') = true := by
  simp [laneC, Value.oneCell']
theorem goI_other (s : List LaneS × List Nat) (i j : Nat) (h : j ≠ i) : (goI s i).1.getD j none = s.1.getD j none := by
  unfold goI
  split
  · rfl
  · split
    · simp only
      rw [List.getD_eq_getElem?_getD, List.getElem?_set, if_neg (fun e => h e.symm), ← List.getD_eq_getElem?_getD]
    · simp only
      rw [List.getD_eq_getElem?_getD, List.getElem?_set, if_neg (fun e => h e.symm), ← List.getD_eq_getElem?_getD]
theorem goF_other (S : List LaneS) : ∀ j i, j ≤ i → (goF S j).1.getD i none = S.getD i none
  | 0, _, _ => rfl
  | j + 1, i, h => by rw [goF, goI_other _ _ _ (by omega), goF_other S j i (by omega)]
/-- Behind j rounds of step. -/
def StepW (H : Nat → Nat → V8) (S : List LaneS) (g : Nat) (k N : Int) (f : Value) (w : World) (A : Option Addr) (n c : Nat) (j : Nat) (W : World) : Prop :=
  Keeps (fun b => b = g) w W ∧ (∃ L, BankB W g L k N f ∧ LanesR H L (goF S j).1) ∧ GoneR H w.heap.size W A n c (goF S j).2
/-- What block does in a lane. -/
def DoesL (H : Nat → Nat → V8) (B : Nat → Nat) (NN : Nat) (g : Nat) (k N : Int) (f : Value) (F : FuncId) (caps : Array Value) (w : World) : Prop :=
  ∀ (i n l : Nat) (L : List LaneV) (W : World), i < 4 → n < NN → 1 ≤ l → l ≤ B n → Keeps (fun b => b = g) w W → BankB W g L k N f → L[i]? = some ⟨(n : Int), H n l, (l : Int)⟩ →
    Calls Tryd.prog F (#[.pointer (some ⟨g, i * 10, none⟩)] ++ caps) W fun e W' => e = .returned (.tuple #[]) ∧ Keeps (fun b => b = g) W W' ∧ BankB W' g (L.set i ⟨(n : Int), H n (l - 1), (l : Int)⟩) k N f
set_option maxRecDepth 100000 in
set_option maxHeartbeats 4000000 in
theorem step_any (H : Nat → Nat → V8) (B : Nat → Nat) (NN : Nat) (S : List LaneS) (g : Nat) (k N : Int) (f : Value) (F : FuncId) (caps : Array Value) (L : List LaneV) (w : World)
    (hB : BankB w g L k N f) (hR : LanesR H L S) (hV : ∀ i n l, S.getD i none = some (n, l) → n < NN ∧ 1 ≤ l ∧ l ≤ B n ∧ l ≤ 1000000)
    (hcf : ∀ (args : Array Value) (W : World), Sem.run Tryd.prog (callFunc F args) W = .ok (.enter F args) W)
    (hBL : DoesL H B NN g k N f F caps w) :
    Calls Tryd.prog 41 #[.pointer (some ⟨g, 0, none⟩), .func (.func F) #[] caps] w fun e w' => ∃ A n c, e = .returned (.slice A n c) ∧ StepW H S g k N f w A n c 4 w' := by
  have HBL := lib_hid hBL
  have HV := lib_hid hV
  have H0 : Hid (StepW H S g k N f w none 0 0 0 w) := lib_hid ⟨Keeps.refl _ _, ⟨L, hB, hR⟩, GoneR.nil _ _ _⟩
  have hgw : g < w.heap.size := hB.2.lt
  have hLn : Hid (∀ j, (goF S j).1.length = 4) := fun j => by
    induction j with
    | zero => exact hR.1
    | succ j ih =>
      rw [goF, goI]
      split
      · exact ih
      · split
        · simp only [List.length_set]; exact ih
        · simp only [List.length_set]; exact ih
  have hms : Hid (∀ j, (goF S j).2.length ≤ j) := fun j => by
    induction j with
    | zero => exact Nat.le_refl _
    | succ j ih =>
      rw [goF, goI]
      split
      · omega
      · split
        · simp only [List.length_append, List.length_singleton]; omega
        · simp only; omega
  clear hBL hV hB hR
  go_enter Tryd.func41, Tryd.ntmps41
  go_wp2
  go_loopw [9, 5] (fun i o wr => ∃ j : Nat, j ≤ 4 ∧ i = .int .i64 j ∧ ∃ A n c, o = .slice A n c ∧ Hid (StepW H S g k N f w A n c j wr)) (fun i _ _ => 4 - (intOf i).toNat)
  case atStart => exact ⟨0, by omega, rfl, none, 0, 0, rfl, H0⟩
  case round =>
    obtain ⟨j, hj, rfl, A, n0, c0, rfl, HW⟩ := hrel
    by_cases hlt : j < 4
    · have hji : (j : Int) < 4 := by omega
      obtain ⟨K1, ⟨L1, B1, R1⟩, G1⟩ := HW.out
      obtain ⟨S1, ms, HS1⟩ : ∃ S1 ms, Hid (goF S j = (S1, ms)) := ⟨_, _, lib_hid rfl⟩
      have HX : Hid (goF S (j + 1) = goI (S1, ms) j) := by unfold Hid; rw [goF, HS1.out]
      have hSj : S1.getD j none = S.getD j none := by
        have := goF_other S j j (Nat.le_refl _)
        rw [HS1.out] at this
        exact this
      have hl1 := hLn.out j
      rw [HS1.out] at R1 G1 hl1
      simp only at R1 G1 hl1
      obtain ⟨x, hx⟩ := B1.lane j hlt
      have hxr := R1.2 j x hx
      have HB := lib_hid B1
      have HR := lib_hid R1
      have HK := lib_hid K1
      have HG := lib_hid G1
      have Hx := lib_hid hx
      have hsz : g < wr.heap.size := B1.2.lt
      have cn := B1.celln hx
      clear B1 R1 K1 G1 hx HW H0
      cases hS : S1.getD j none with
      | none =>
        rw [hS] at hxr
        obtain ⟨n, h, l⟩ := x
        obtain rfl : n = -1 := hxr
        have HF2 : Hid (StepW H S g k N f w A n0 c0 (j + 1) wr) := by
          have e : goF S (j + 1) = (S1, ms) := by rw [HX.out, goI]; simp only; rw [hS]
          exact ⟨HK.out, ⟨L1, HB.out, by rw [e]; exact HR.out⟩, by rw [e]; exact HG.out⟩
        simp only at cn
        clear hS hSj HBL HV HX HB HR HK HG Hx hsz hcf hl1
        go_wp2
        go_roundw
        case rel => exact ⟨j + 1, by omega, by go_num, A, n0, c0, rfl, HF2⟩
        case measure => simp [intOf]; omega
      | some nl =>
        obtain ⟨n, l⟩ := nl
        rw [hS] at hxr hSj
        obtain rfl : x = ⟨(n : Int), H n l, (l : Int)⟩ := hxr
        obtain ⟨v1, v2, v3, v4⟩ := HV.out j n l hSj.symm
        obtain ⟨q, hq, Hq⟩ : ∃ q : Nat, (l : Int) - 1 = (q : Int) ∧ Hid (l = q + 1) := ⟨l - 1, by omega, by unfold Hid; omega⟩
        have hql : Hid (l - 1 = q) := by unfold Hid; omega
        have hlm : (l : Int) ≤ 1000000 := by omega
        have hl0 : (1 : Int) ≤ l := by omega
        have hqm : (q : Int) ≤ 1000000 := by omega
        have hn0 : ¬ (n : Int) < 0 := by omega
        have HC := lib_hid (HBL.out j n l L1 wr hlt v1 v2 v3 HK.out HB.out Hx.out)
        rw [hql.out] at HC
        simp only at cn
        have HSs := lib_hid hS
        clear hSj v1 v2 v3 v4 HBL HV hS
        go_wp2_with fail
        refine HC.out.mono ?_
        rintro e w1 ⟨rfl, hk1, hB1⟩
        have hj1 : (L1.set j ⟨(n : Int), H n q, (l : Int)⟩)[j]? = some ⟨(n : Int), H n q, (l : Int)⟩ := by
          rw [List.getElem?_set, if_pos rfl, if_pos (List.getElem?_eq_some_iff.1 Hx.out).1]
        have cl := hB1.celll hj1
        have fl := hB1.frozen (j * 10 + 9)
        have hsz1 : g < w1.heap.size := hB1.2.lt
        have Hj1 := lib_hid hj1
        have HB1 := lib_hid hB1
        have HK1 : Hid (Keeps (fun b => b = g) w w1) := lib_hid (HK.out.trans hk1 (fun _ h _ => h))
        have HG1 : Hid (GoneR H w.heap.size w1 A n0 c0 ms) := lib_hid (HG.out.keeps hk1 (fun b hb _ e => by omega))
        simp only at cl
        clear hB1 hk1 hj1 HC HB HK HG cn
        go_upto_region 9 with fail
        obtain ⟨w2, Hw2⟩ : ∃ w2 : World, Hid (w2 = w1.setCell ⟨g, j * 10 + 9, none⟩ (.int .i64 (q : Int))) := ⟨_, lib_hid rfl⟩
        rw [← Hw2.out]
        obtain ⟨y, Hy⟩ : ∃ y : LaneV, Hid (y = ⟨(n : Int), H n q, (q : Int)⟩) := ⟨_, lib_hid rfl⟩
        have HB2 : Hid (BankB w2 g ((L1.set j ⟨(n : Int), H n q, (l : Int)⟩).set j y) k N f) := by unfold Hid; rw [Hw2.out, Hy.out]; exact HB1.out.set Hj1.out 9 (by omega) rfl
        have HK2 : Hid (Keeps (fun b => b = g) w w2) := by unfold Hid; rw [Hw2.out]; exact HK1.out.trans (keeps_set _ _ _) (fun _ h _ => h)
        have HG2 : Hid (GoneR H w.heap.size w2 A n0 c0 ms) := by unfold Hid; rw [Hw2.out]; exact HG1.out.keeps (keeps_set _ _ _) (fun b hb _ e => by simp only at e; omega)
        rw [List.set_set] at HB2
        have Hj2 : Hid ((L1.set j y)[j]? = some y) := by
          unfold Hid
          rw [List.getElem?_set, if_pos rfl, if_pos (List.getElem?_eq_some_iff.1 Hx.out).1]
        have hyl : Hid (y.l = (q : Int)) := by unfold Hid; rw [Hy.out]
        have cl2 := HB2.out.celll Hj2.out
        rw [hyl.out] at cl2
        have hsz2 : g < w2.heap.size := HB2.out.2.lt
        clear Hw2 cl fl hsz1 Hj1 HB1 HK1 HG1 hq hcf
        by_cases hq0 : q = 0
        · have hq1 : ((q : Int) == 0) = true := by simp; omega
          have Hq0 := lib_hid hq0
          obtain ⟨ps, o1, o2, o3, o4⟩ := HG2.out
          have hnb : n0 ≤ 4 := by
            have a := HG2.out.len
            have b := hms.out j
            rw [HS1.out] at b
            simp only at b
            omega
          have HO1 := lib_hid o1
          have HO2 := lib_hid o2
          have HO3 := lib_hid o3
          have HO4 := lib_hid o4
          have hle : w.heap.size ≤ w2.heap.size := HK2.out.size
          have hlv := HB2.out.load Hj2.out
          have HLV := lib_hid hlv
          clear o1 o2 o3 o4 hlv hq0 hLn hms HS1
          go_upto_region 11 with (first | (refine wpList_load_at rfl _ _ rfl ⟨g, j * 10, none⟩ rfl (laneC y) _ Tryd.underlying53 rfl (by rw [Tryd.sizeLane]; rfl) HLV.out ?_) | (refine wpList_store_blk rfl _ _ _ rfl w2.heap.size (laneC y).toArray rfl rfl 53 _ (Blk.new _ _ _) (by rw [Tryd.sizeLane]; rfl) rfl (laneC_all y) w2.heap.size w2 ((Grows.refl w2).alloc _) (Nat.le_refl _) ?_; intro w3 HB3 hb3 hg3))
          have hs3 : w2.heap.size < w3.heap.size := HB3.lt
          have HG3 : Hid (Grows w2 w3) := lib_hid hb3
          have HB3' := lib_hid HB3
          have HOw : Hid (OwnAt (w3.alloc (.cells #[ptrV w2.heap.size] 49)) w.heap.size A n0 c0 (ps.map ptrV)) := lib_hid (HO1.out.grows (HG3.out.alloc _))
          have HRw : Hid (Row (w3.alloc (.cells #[ptrV w2.heap.size] 49)) (some ⟨w3.heap.size, 0, none⟩) 1 1 [ptrV w2.heap.size]) := lib_hid ((Blk.new w3 49 #[ptrV w2.heap.size]).row (o := 0) (n := 1) (c := 1) (Nat.le_refl _) (by simp) (by decide))
          have hle3 : w.heap.size ≤ (w3.alloc (.cells #[ptrV w2.heap.size] 49)).heap.size := by simp; omega
          clear hb3 HB3 hg3 cl2
          go_upto_region 12 with (at_builtin; refine wpList_append_at rfl _ _ 73 73 rfl w.heap.size 49 (.pointer none) 8 Tryd.underlying73 Tryd.infoPtr rfl A n0 c0 _ rfl HOw.out (.slice (some ⟨w3.heap.size, 0, none⟩) 1 1) rfl 1 [ptrV w2.heap.size] (Row.src HRw.out Tryd.underlying73 (by intro u hu; rw [List.mem_singleton.1 hu]; rfl)) (by omega) (by omega) hle3 ?_; intro A4 c4 w4 hO4 hG4 hl4)
          obtain ⟨W3, HW3⟩ : ∃ W3 : World, Hid (W3 = w3.alloc (.cells #[ptrV w2.heap.size] 49)) := ⟨_, lib_hid rfl⟩
          rw [← HW3.out] at hG4 hl4
          have hg23 : Grows w2 W3 := by rw [HW3.out]; exact HG3.out.alloc _
          have hAb : ∀ b, blkOf A = some b → b < w2.heap.size ∧ w.heap.size ≤ b := fun b hb => by
            obtain ⟨p, hp, rfl⟩ := Option.map_eq_some_iff.1 hb
            exact ⟨HO1.out.lt p hp, HO1.out.base_le p hp⟩
          have HG4 : Hid (GoneR H w.heap.size w4 A4 (n0 + 1) c4 (ms ++ [n])) := lib_hid (by
            refine GoneR.push (W := W3) (b := w2.heap.size) (c := c0) (A := A) (n := n0) ps ?_ HO2.out HO3.out (fun j b m hb hm => (HO4.out j b m hb hm).grows hg23) hle ?_ (fun e => by have := (hAb _ e).1; omega) hO4 hG4 hl4
            · rw [HW3.out]; exact HOw.out
            · have e : y = ⟨(n : Int), H n 0, 0⟩ := by rw [Hy.out, Hq0.out]; rfl
              rw [← e, HW3.out]; exact HB3'.out.alloc _)
          have hk4 : Keeps (fun b => blkOf A = some b) w2 w4 := (hg23.keeps _).trans (keeps_grown hG4) (fun _ h _ => h)
          have HB4 : Hid (BankB w4 g (L1.set j y) k N f) := lib_hid (HB2.out.keeps hk4 (fun e => by have := (hAb _ e).2; omega))
          have HK4 : Hid (Keeps (fun b => b = g) w w4) := lib_hid (HK2.out.trans hk4 (fun i hi hlt => by have := (hAb _ hi).2; omega))
          have hsz4 : g < w4.heap.size := HB4.out.2.lt
          have cn4 := HB4.out.celln Hj2.out
          have fn4 := HB4.out.frozen (j * 10)
          clear hO4 hG4 hl4 HW3 hg23 hAb hk4 HOw HRw hle3 hs3 HG3 HB3' HO1 HO2 HO3 HO4 HLV HB2 HK2 HG2 hsz2 hsz
          go_upto_region 13 with fail
          obtain ⟨w5, Hw5⟩ : ∃ w5 : World, Hid (w5 = w4.setCell ⟨g, j * 10, none⟩ (.int .i64 (-1))) := ⟨_, lib_hid rfl⟩
          rw [← Hw5.out]
          have HF2 : Hid (StepW H S g k N f w A4 (n0 + 1) c4 (j + 1) w5) := by
            have e : goF S (j + 1) = (S1.set j none, ms ++ [n]) := by rw [HX.out, goI]; simp only; rw [HSs.out]; simp only; rw [if_pos (by have := Hq.out; have := Hq0.out; omega)]
            have hset := HB4.out.set Hj2.out (y := ⟨-1, y.h, y.l⟩) (v := .int .i64 (-1)) 0 (by omega) rfl
            rw [List.set_set] at hset
            unfold Hid
            rw [Hw5.out]
            exact ⟨HK4.out.trans (keeps_set _ _ _) (fun _ h _ => h), ⟨_, hset, by rw [e]; exact HR.out.set j hlt _ none rfl⟩, by rw [e]; exact HG4.out.keeps (keeps_set _ _ _) (fun b hb _ e => by simp only at e; omega)⟩
          clear HX HSs HR Hx Hy HB4 HK4 HG4 Hj2 hyl Hw5 cn4 fn4
          go_wp2
          go_roundw
          case rel => exact ⟨j + 1, by omega, by go_num, A4, n0 + 1, c4, rfl, HF2⟩
          case measure => simp [intOf]; omega
        · have hq1 : ((q : Int) == 0) = false := by simp; omega
          have HF2 : Hid (StepW H S g k N f w A n0 c0 (j + 1) w2) := by
            have e : goF S (j + 1) = (S1.set j (some (n, q)), ms) := by rw [HX.out, goI]; simp only; rw [HSs.out]; simp only; rw [if_neg (by have := Hq.out; omega), hql.out]
            exact ⟨HK2.out, ⟨L1.set j y, HB2.out, by rw [e]; exact HR.out.set j hlt y _ Hy.out⟩, by rw [e]; exact HG2.out⟩
          clear HX HSs HR HK2 HG2 Hx Hy HB2 Hj2 hyl hq0
          go_wp2
          go_roundw
          case rel => exact ⟨j + 1, by omega, by go_num, A, n0, c0, rfl, HF2⟩
          case measure => simp [intOf]; omega
    · obtain rfl : j = 4 := by omega
      have hki : ¬ (4 : Int) < 4 := by omega
      go_wp2
      go_ret
      exact ⟨A, n0, c0, rfl, HW.out⟩
end Go.Proofs.YtnlffaglmcddkaaDoor
