/-
  The closures of lanes.Sums.
-/
import Derived.Test.YtnlffaglmcddkaaDoorBank4
import Derived.Test.YtnlffaglmcddkaaDoorConcat
import Derived.Test.YtnlffaglmcddkaaDoorSha9
import Derived.Deep.Cut
namespace Go.Proofs.YtnlffaglmcddkaaDoor
open Go Go.RowKit
set_option linter.unusedSimpArgs false
set_option linter.unusedVariables false

theorem run_sl_lo {P : Program} {t e : TypeId} (ht : P.underlying t = some (.slice e)) (hs : (P.info? e).map (·.size) = some 1) (bk off n c lo : Nat) (l : Int) (hl : l = lo) (h1 : lo ≤ n) (h3 : lo < c) (W : World) :
    Sem.run P (Instr.slice t (.slice (some ⟨bk, off, none⟩) n c) (some (.int .i64 l)) none none) W = .ok (.slice (some ⟨bk, off + lo, none⟩) (n - lo) (c - lo)) W := by
  have e2 : P.elem t = e := by simp [Program.elem, ht]
  obtain ⟨i, hi', hi1⟩ := Option.map_eq_some_iff.1 hs
  have hz : (sizeOf e).run P W = .ok 1 W := by simp [sizeOf, typeInfo, hi', hi1]
  subst hl
  rw [run_slice_l (w := W) t (some ⟨bk, off, none⟩) n c (by rw [e2]; exact ht) .i64 lo (by omega) (by omega), e2, hz]
  simp only [Result.andThen_ok, sliced, Int.toNat_natCast, Nat.mul_one]
  rw [if_neg (by omega)]
  simp [add_zero_spot]

/-- A slice of rows of bytes, all in the call's own memory. -/
def RowsO (base : Nat) (w : World) (P : Option Addr) (n c : Nat) (ps : List (List UInt8)) : Prop :=
  ps.length = n ∧ ∃ vs : List Value, w.ownsRow base 28 1 (.slice P n c) n vs ∧ ∀ (i : Nat) (bs : List UInt8), ps[i]? = some bs → ∃ Ai ci, vs[i]? = some (.slice Ai bs.length ci) ∧ w.ownsRow base 5 1 (.slice Ai bs.length ci) bs.length (bs.map b8)
theorem RowsO.keeps {own : Nat → Prop} {base : Nat} {w w' : World} {P : Option Addr} {n c : Nat} {ps : List (List UInt8)} (h : RowsO base w P n c ps) (k : Keeps own w w') (ho : ∀ g, base ≤ g → g < w.heap.size → ¬ own g) : RowsO base w' P n c ps := by
  have key : ∀ {e : TypeId} {v : Value} {m : Nat} {xs : List Value}, w.ownsRow base e 1 v m xs → w'.ownsRow base e 1 v m xs := by
    intro e v m xs ⟨h1, h2⟩
    refine ⟨h1, ?_⟩
    rcases h2 with h2 | ⟨g, cap, cur, hv, hb, hh, r⟩
    · exact Or.inl h2
    · exact Or.inr ⟨g, cap, cur, hv, hb, (show Blk w g e cur from hh).keeps k (ho g hb (Blk.lt hh)), r⟩
  obtain ⟨h1, vs, h2, h3⟩ := h
  refine ⟨h1, vs, key h2, fun i bs hi => ?_⟩
  obtain ⟨Ai, ci, a, b⟩ := h3 i bs hi
  exact ⟨Ai, ci, a, key b⟩
theorem RowsO.grows {base : Nat} {w w' : World} {P : Option Addr} {n c : Nat} {ps : List (List UInt8)} (h : RowsO base w P n c ps) (k : Grows w w') : RowsO base w' P n c ps := h.keeps (k.keeps (fun _ => False)) (fun _ _ _ h => h)
theorem RowsO.at {base : Nat} {w : World} {P : Option Addr} {n c : Nat} {ps : List (List UInt8)} (h : RowsO base w P n c ps) {i : Nat} {bs : List UInt8} (hi : ps[i]? = some bs) :
    ∃ b off Ai ci, P = some ⟨b, off, none⟩ ∧ w.cell? ⟨b, off + i, none⟩ = some (.slice Ai bs.length ci) ∧ SB w Ai bs.length ci bs := by
  obtain ⟨h1, vs, h2, h3⟩ := h
  obtain ⟨Ai, ci, a, b⟩ := h3 i bs hi
  have hin : i < n := by have := (List.getElem?_eq_some_iff.1 hi).1; omega
  obtain ⟨A', c', e', hr, _⟩ := own_form h2
  cases e'
  obtain ⟨g, off, e, hb, hc⟩ := hr.2.2.2.2 (by omega)
  exact ⟨g, off, Ai, ci, e, by rw [hc i hin, a], SB.own b⟩
theorem RowsO.cap {base : Nat} {w : World} {P : Option Addr} {n c : Nat} {ps : List (List UInt8)} (h : RowsO base w P n c ps) : n ≤ 9223372036854775807 := by
  obtain ⟨h1, vs, h2, h3⟩ := h
  obtain ⟨A', c', e', hr, _⟩ := own_form h2
  have a := hr.2.1
  have b := hr.2.2.1
  unfold maxLen at b
  omega
set_option maxRecDepth 100000 in
set_option maxHeartbeats 4000000 in
theorem sumSize_any (base bp N cp k q : Nat) (P : Option Addr) (ps : List (List UInt8)) (bs : List UInt8) (W : World) (hB : Blk W bp 22 #[.slice P N cp]) (hr : RowsO base W P N cp ps) (hk : ps[k]? = some bs) (hq : bs.length = 64 * q) (hqm : q ≤ 1000000) :
    Calls Tryd.prog 20 #[.int .i64 (k : Int), .pointer (some ⟨bp, 0, none⟩)] W fun e W' => e = .returned (.int .i64 (q : Int)) ∧ Grows W W' := by
  have c0 : W.cell? ⟨bp, 0, none⟩ = some (.slice P N cp) := hB.cell 0
  obtain ⟨b, off, Ai, ci, rfl, c1, _⟩ := hr.at hk
  have hkn : (k : Int) < (N : Int) := by have := (List.getElem?_eq_some_iff.1 hk).1; have := hr.1; omega
  have hNm : (N : Int) ≤ 9223372036854775807 := by have := hr.cap; omega
  obtain ⟨m, hm, hm2, Hm⟩ : ∃ m : Nat, (m : Int) / 64 = (q : Int) ∧ (m : Int).tdiv 64 = (q : Int) ∧ Hid (bs.length = m) := ⟨bs.length, by omega, by rw [Int.tdiv_eq_ediv_of_nonneg (by omega)]; omega, lib_hid rfl⟩
  rw [Hm.out] at c1
  have hmm : (m : Int) ≤ 64000000 := by have := Hm.out; omega
  clear hr hB hq hk Hm
  go_enter Tryd.func20, Tryd.ntmps20
  go_wp2
  go_ret
  exact ⟨rfl, Grows.refl _⟩

/-- The state behind j blocks of a text. -/
def stF (ks : List UInt32) (t : List UInt8) : Nat → V8
  | 0 => startV
  | j + 1 => blockF ks (stF ks t j) ((t.drop (64 * j)).take 64)
attribute [local irreducible] startV blockF stF
def laneU (x : LaneV) (h : V8) : LaneV := ⟨x.n, h, x.l⟩
set_option maxRecDepth 100000 in
set_option maxHeartbeats 4000000 in
theorem sumBlock_any {tK : TypeId} (ks : List UInt32) (hkl : ks.length = 64) (base bp N cp g i n l d : Nat) (P : Option Addr) (ps : List (List UInt8)) (bs : List UInt8) (L : List LaneV) (x : LaneV) (k NN : Int) (f : Value) (W : World)
    (HK : Hid (Blk W 0 tK (ks.map b32).toArray)) (hBp : Blk W bp 22 #[.slice P N cp]) (hr : RowsO base W P N cp ps) (hn : ps[n]? = some bs) (hB : BankB W g L k NN f) (hx : L[i]? = some x) (hxn : x.n = (n : Int)) (hxl : x.l = (l : Int))
    (hl : 1 ≤ l) (hd : bs.length = d + 64 * l) (hlm : l ≤ 1000000) (hdm : d ≤ 64000000) :
    Calls Tryd.prog 22 #[.pointer (some ⟨g, i * 10, none⟩), .pointer (some ⟨bp, 0, none⟩)] W fun e W' => e = .returned (.tuple #[]) ∧ Keeps (fun b => b = g) W W' ∧ BankB W' g (L.set i (laneU x (blockF ks x.h ((bs.drop d).take 64)))) k NN f := by
  obtain ⟨pk, po, Ai, ci, rfl, c1, hsb⟩ := hr.at hn
  have hnN : (n : Int) < (N : Int) := by have := (List.getElem?_eq_some_iff.1 hn).1; have := hr.1; omega
  have hNm : (N : Int) ≤ 9223372036854775807 := by have := hr.cap; omega
  obtain ⟨tb, to, rfl, htb, _⟩ := hsb.at (by omega)
  obtain ⟨m, Hm⟩ : ∃ m : Nat, Hid (bs.length = m) := ⟨_, lib_hid rfl⟩
  have Hmd : Hid (m = d + 64 * l) := by unfold Hid; rw [← Hm.out]; exact hd
  have hcm := hsb.max
  have hcc := hsb.cap
  unfold maxLen at hcm
  rw [Hm.out] at c1 hsb hcc
  have HT1 : Hid (∀ W', Grows W W' → W'.cell? ⟨pk, po + n, none⟩ = some (.slice (some ⟨tb, to, none⟩) m ci)) := fun W' hW => (hW.cell (p := ⟨pk, po + n, none⟩) (World.block_lt_of_cell? W ⟨pk, po + n, none⟩ c1)).trans c1
  have hmi : (m : Int) - 64 * (l : Int) = (d : Int) := by have := Hmd.out; omega
  have hml : (m : Int) ≤ 128000000 := by have := Hmd.out; omega
  have hli : (l : Int) ≤ 1000000 := by omega
  have hl1 : (1 : Int) ≤ l := by omega
  obtain ⟨r, Hr⟩ : ∃ r, Hid (m - d = r) := ⟨_, lib_hid rfl⟩
  have HSl : Hid (∀ W, (Instr.sliceAt 28 (.slice (some ⟨tb, to, none⟩) m ci) (some (.int .i64 (d : Int))) none none).run Tryd.prog W = .ok (.slice (some ⟨tb, to + d, none⟩) r (ci - d)) W) := fun W => by
    rw [← Hr.out]
    exact run_sl_lo Tryd.underlying28 Tryd.sizeByte tb to m ci d (d : Int) rfl (by have := Hmd.out; omega) (by have := Hmd.out; omega) W
  have HAr : Hid (∀ W2 : World, (Instr.arrayAt 55 (.slice (some ⟨tb, to + d, none⟩) r (ci - d))).run Tryd.prog W2 = .ok (.pointer (some ⟨tb, to + d, none⟩)) W2) := fun W2 => by
    have h64 : 64 ≤ r := by have := Hmd.out; have := Hr.out; omega
    simp [Instr.arrayAt, run_underlying Tryd.underlying55, Nat.not_lt.2 h64]
  obtain ⟨tk, Htk⟩ : ∃ tk, Hid ((bs.drop d).take 64 = tk) := ⟨_, lib_hid rfl⟩
  have htl : Hid (tk.length = 64) := by unfold Hid; rw [← Htk.out, List.length_take, List.length_drop, Hm.out, Hmd.out]; omega
  have HTk : Hid (∀ W', Grows W W' → ∀ j u, (tk.map b8)[j]? = some u → W'.cell? ((⟨tb, to + d, none⟩ : Addr).add j) = some u) := fun W' hW j u hu => by
    obtain ⟨b2, o2, e2, hb2, hc2⟩ := (hsb.grows hW).2.2.2.2 (by have := Hmd.out; omega)
    cases e2
    have hj : j < 64 := by have := (List.getElem?_eq_some_iff.1 hu).1; rw [List.length_map, htl.out] at this; exact this
    rw [add_zero_spot, Nat.add_assoc, hc2 (d + j) (by have := Hmd.out; omega), ← hu, ← Htk.out, List.map_take, List.map_drop, List.getElem?_take, if_pos hj, List.getElem?_drop]
  obtain ⟨xc, Hxc⟩ : ∃ xc : Array Value, Hid ((tk.map b8).toArray = xc) := ⟨_, lib_hid rfl⟩
  obtain ⟨hh, Hhh⟩ : ∃ hh, Hid (x.h = hh) := ⟨_, lib_hid rfl⟩
  obtain ⟨hv, Hhv⟩ : ∃ hv : Array Value, Hid ((hh.list.map b32).toArray = hv) := ⟨_, lib_hid rfl⟩
  obtain ⟨h2, Hh2⟩ : ∃ h2, Hid (blockF ks hh tk = h2) := ⟨_, lib_hid rfl⟩
  obtain ⟨rv, Hrv⟩ : ∃ rv : Array Value, Hid ((h2.list.map b32).toArray = rv) := ⟨_, lib_hid rfl⟩
  have HLh : Hid (∀ W', Grows W W' → ∀ j u, (hh.list.map b32)[j]? = some u → W'.cell? ((⟨g, i * 10 + 1, none⟩ : Addr).add j) = some u) := fun W' hW j u hu => by
    have hj : j < 8 := by have := (List.getElem?_eq_some_iff.1 hu).1; rw [List.length_map] at this; exact this
    have h := (hB.grows hW).cell hx (1 + j) (by omega)
    rw [add_zero_spot, Nat.add_assoc, h, ← hu, ← Hhh.out]
    show (laneC x)[1 + j]? = _
    rw [Nat.add_comm]
    have e : laneC x = .int .i64 x.n :: (x.h.list.map b32 ++ [.int .i64 x.l]) := rfl
    rw [e, List.getElem?_cons_succ, List.getElem?_append_left (by rw [List.length_map]; exact hj)]
  have HC : Hid (∀ W', Grows W W' → Calls Tryd.prog 23 #[.agg hv, .agg xc] W' fun e w' => e = .returned (.agg rv) ∧ Grows W' w') := fun W' hW => by
    have := block_any ks hkl hh tk W' htl.out (HK.out.grows hW)
    rw [Hh2.out] at this
    rw [← Hhv.out, ← Hxc.out, ← Hrv.out]
    exact this
  have HBp := lib_hid hBp
  have HB := lib_hid hB
  have Hx := lib_hid hx
  have Hxn := lib_hid hxn
  have Hxl := lib_hid hxl
  rw [Hhh.out, Htk.out, Hh2.out]
  clear hsb hd hn hr c1 hBp hB hx hxn hxl htb hkl HK
  go_enter Tryd.func22, Tryd.ntmps22
  go_wp2_with fail
  apply wp_region_mono 8 ((.is _, []) :: (.is _, []) :: (.is _, []) :: (.is _, []) :: (.is _, []) :: (.is _, []) :: (.is _, []) :: (.is _, []) :: []) (by kernel_rfl) (by kernel_rfl)
  apply Mono.is0
  · kernel_rfl
  · intro W hW
    have c0 : W.cell? ⟨bp, 0, none⟩ = some (.slice (some ⟨pk, po, none⟩) N cp) := (HBp.out.grows hW).cell 0
    go_wp2
    refine ⟨rfl, rfl, Grows.refl _, ?_⟩
    unfold Oper.valAt
    go_simp
    rfl
  intro k1 a1 hk1 ha1
  simp only [Nat.reduceAdd] at hk1
  simp only [Act.put, List.setIfInBounds_toArray, List.set_cons_succ, List.set_cons_zero] at ha1
  subst hk1 ha1
  iterate 3
    apply Mono.is0
    · kernel_rfl
    · intro W hW
      go_wp2
      refine ⟨rfl, rfl, Grows.refl _, ?_⟩
      unfold Oper.valAt
      go_simp
      rfl
    intro k1 a1 hk1 ha1
    simp only [Nat.reduceAdd] at hk1
    simp only [Act.put, List.setIfInBounds_toArray, List.set_cons_succ, List.set_cons_zero] at ha1
    subst hk1 ha1
  apply Mono.is0
  · kernel_rfl
  · intro W hW
    have c0 := (HB.out.grows hW).celln Hx.out
    rw [Hxn.out] at c0
    go_wp2
    refine ⟨rfl, rfl, Grows.refl _, ?_⟩
    unfold Oper.valAt
    go_simp
    rfl
  intro k1 a1 hk1 ha1
  simp only [Nat.reduceAdd] at hk1
  simp only [Act.put, List.setIfInBounds_toArray, List.set_cons_succ, List.set_cons_zero] at ha1
  subst hk1 ha1
  apply Mono.is0
  · kernel_rfl
  · intro W hW
    go_wp2
    refine ⟨rfl, rfl, Grows.refl _, ?_⟩
    unfold Oper.valAt
    go_simp
    rfl
  intro k1 a1 hk1 ha1
  simp only [Nat.reduceAdd] at hk1
  simp only [Act.put, List.setIfInBounds_toArray, List.set_cons_succ, List.set_cons_zero] at ha1
  subst hk1 ha1
  apply Mono.is0
  · kernel_rfl
  · intro W hW
    have c0 := HT1.out W hW
    go_wp2
    refine ⟨rfl, rfl, Grows.refl _, ?_⟩
    unfold Oper.valAt
    go_simp
    rfl
  intro k1 a1 hk1 ha1
  simp only [Nat.reduceAdd] at hk1
  simp only [Act.put, List.setIfInBounds_toArray, List.set_cons_succ, List.set_cons_zero] at ha1
  subst hk1 ha1
  apply Mono.is0
  · kernel_rfl
  · intro W hW
    go_wp2
    refine ⟨rfl, rfl, Grows.refl _, ?_⟩
    unfold Oper.valAt
    go_simp
    rfl
  intro k1 a1 hk1 ha1
  simp only [Nat.reduceAdd] at hk1
  simp only [Act.put, List.setIfInBounds_toArray, List.set_cons_succ, List.set_cons_zero] at ha1
  subst hk1 ha1
  refine Mono.done ?_
  intro wm hgm
  simp only [allF, List.drop_succ_cons, List.drop_nil]
  have hG1 := hgm
  clear hgm
  clear HT1
  go_upto_region 1 with fail
  apply wp_region_mono 20 ((.is _, []) :: (.is _, []) :: (.is _, []) :: (.is _, []) :: (.is (.agg hv), []) :: (.is _, []) :: (.is _, []) :: (.is _, []) :: (.is _, []) :: (.is _, []) :: (.is _, []) :: (.is _, []) :: (.is _, []) :: (.is _, []) :: (.is _, []) :: (.is _, []) :: (.is (.agg xc), []) :: (.is (.agg rv), []) :: (.is _, []) :: (.is _, []) :: []) (by kernel_rfl) (by kernel_rfl)
  iterate 4
    apply Mono.is0
    · kernel_rfl
    · intro W hW
      go_wp2
      refine ⟨rfl, rfl, Grows.refl _, ?_⟩
      unfold Oper.valAt
      go_simp
      rfl
    intro k1 a1 hk1 ha1
    simp only [Nat.reduceAdd] at hk1
    simp only [Act.put, List.setIfInBounds_toArray, List.set_cons_succ, List.set_cons_zero] at ha1
    subst hk1 ha1
  apply Mono.is0
  · kernel_rfl
  · intro W hW 
    go_wp2_with (refine wpList_load_at (by kernel_rfl) _ _ rfl ⟨g, i * 10 + 1, none⟩ rfl (hh.list.map b32) _ Tryd.underlying51 rfl (by rw [Tryd.size8]; rfl) (HLh.out W (hG1.trans hW)) ?_)
    rw [Hhv.out]
    exact ⟨rfl, rfl, Grows.refl _, rfl⟩
  intro k1 a1 hk1 ha1
  simp only [Nat.reduceAdd] at hk1
  simp only [Act.put, List.setIfInBounds_toArray, List.set_cons_succ, List.set_cons_zero] at ha1
  subst hk1 ha1
  iterate 6
    apply Mono.is0
    · kernel_rfl
    · intro W hW
      go_wp2
      refine ⟨rfl, rfl, Grows.refl _, ?_⟩
      unfold Oper.valAt
      go_simp
      rfl
    intro k1 a1 hk1 ha1
    simp only [Nat.reduceAdd] at hk1
    simp only [Act.put, List.setIfInBounds_toArray, List.set_cons_succ, List.set_cons_zero] at ha1
    subst hk1 ha1
  apply Mono.is0
  · kernel_rfl
  · intro W hW
    have c0 := (HB.out.grows (hG1.trans hW)).celll Hx.out
    rw [Hxl.out] at c0
    go_wp2
    refine ⟨rfl, rfl, Grows.refl _, ?_⟩
    unfold Oper.valAt
    go_simp
    rfl
  intro k1 a1 hk1 ha1
  simp only [Nat.reduceAdd] at hk1
  simp only [Act.put, List.setIfInBounds_toArray, List.set_cons_succ, List.set_cons_zero] at ha1
  subst hk1 ha1
  iterate 2
    apply Mono.is0
    · kernel_rfl
    · intro W hW
      go_wp2
      refine ⟨rfl, rfl, Grows.refl _, ?_⟩
      unfold Oper.valAt
      go_simp
      rfl
    intro k1 a1 hk1 ha1
    simp only [Nat.reduceAdd] at hk1
    simp only [Act.put, List.setIfInBounds_toArray, List.set_cons_succ, List.set_cons_zero] at ha1
    subst hk1 ha1
  apply Mono.is0
  · kernel_rfl
  · intro W hW
    have hsl := HSl.out W
    go_wp2
    refine ⟨rfl, rfl, Grows.refl _, ?_⟩
    unfold Oper.valAt
    go_simp
    rfl
  intro k1 a1 hk1 ha1
  simp only [Nat.reduceAdd] at hk1
  simp only [Act.put, List.setIfInBounds_toArray, List.set_cons_succ, List.set_cons_zero] at ha1
  subst hk1 ha1
  apply Mono.is0
  · kernel_rfl
  · intro W hW
    have har := HAr.out W
    go_wp2
    refine ⟨rfl, rfl, Grows.refl _, ?_⟩
    unfold Oper.valAt
    go_simp
    rfl
  intro k1 a1 hk1 ha1
  simp only [Nat.reduceAdd] at hk1
  simp only [Act.put, List.setIfInBounds_toArray, List.set_cons_succ, List.set_cons_zero] at ha1
  subst hk1 ha1
  apply Mono.is0
  · kernel_rfl
  · intro W hW 
    go_wp2_with (refine wpList_load_at (by kernel_rfl) _ _ rfl ⟨tb, to + d, none⟩ rfl (tk.map b8) _ Tryd.underlying55 rfl (by rw [Tryd.size64B, List.length_map, htl.out]) (HTk.out W (hG1.trans hW)) ?_)
    rw [Hxc.out]
    exact ⟨rfl, rfl, Grows.refl _, rfl⟩
  intro k1 a1 hk1 ha1
  simp only [Nat.reduceAdd] at hk1
  simp only [Act.put, List.setIfInBounds_toArray, List.set_cons_succ, List.set_cons_zero] at ha1
  subst hk1 ha1
  apply Mono.is0
  · kernel_rfl
  · intro W hW 
    go_wp2_with fail
    refine (HC.out W (hG1.trans hW)).mono ?_
    rintro e1 w1 ⟨rfl, hg1⟩
    go_wp2
    exact ⟨rfl, rfl, hg1, rfl⟩
  intro k1 a1 hk1 ha1
  simp only [Nat.reduceAdd] at hk1
  simp only [Act.put, List.setIfInBounds_toArray, List.set_cons_succ, List.set_cons_zero] at ha1
  subst hk1 ha1
  iterate 2
    apply Mono.is0
    · kernel_rfl
    · intro W hW
      go_wp2
      refine ⟨rfl, rfl, Grows.refl _, ?_⟩
      unfold Oper.valAt
      go_simp
      rfl
    intro k1 a1 hk1 ha1
    simp only [Nat.reduceAdd] at hk1
    simp only [Act.put, List.setIfInBounds_toArray, List.set_cons_succ, List.set_cons_zero] at ha1
    subst hk1 ha1
  refine Mono.done ?_
  intro wm hgm
  simp only [allF, List.drop_succ_cons, List.drop_zero]
  have hg2 := hG1.trans hgm
  have HBm := lib_hid (HB.out.grows hg2)
  have Hg2 := lib_hid hg2
  have hfit : (i * 10 + 1) + (h2.list.map b32).length ≤ (bankC L k NN f).toList.length := by
    have h := bankC_size L k NN f HBm.out.1
    have := (List.getElem?_eq_some_iff.1 Hx.out).1
    have := HBm.out.1
    rw [← Array.length_toList] at h
    rw [h]; simp [V8.list]; omega
  have hy : Value.agg rv = Value.agg (h2.list.map b32).toArray := by rw [Hrv.out]
  clear hgm hG1 hg2 HC HTk HLh HSl HAr HB
  refine wpList_store_part rfl _ _ _ rfl g (i * 10 + 1) (h2.list.map b32) rfl hy 72 (bankC L k NN f).toList (by rw [Array.toArray_toList]; exact HBm.out.2) (by rw [Tryd.size8]; rfl) hfit (fun v hv => by obtain ⟨q, _, rfl⟩ := List.mem_map.1 hv; rfl) 0 wm (Below.refl _ _) (Nat.zero_le _) ?_
  intro w5 HB5 _ hgr5
  have hsp := bank_splice L k NN f i x (laneU x h2) Hx.out 1 (h2.list.map b32) (by simp [V8.list]) (by simp [splice, laneC, laneU, V8.list])
  rw [hsp, Array.toArray_toList] at HB5
  have HB6 : Hid (BankB w5 g (L.set i (laneU x h2)) k NN f) := lib_hid ⟨by rw [List.length_set]; exact HBm.out.1, HB5⟩
  have HK6 : Hid (Keeps (fun b => b = g) W w5) := lib_hid ((Hg2.out.keeps _).trans ((keeps_grown hgr5).mono (fun i h _ => (Option.some.inj h).symm)) (fun _ h _ => h))
  clear HB5 hgr5 hsp HBm Hg2 hfit hy
  go_wp2
  go_end0
  exact ⟨rfl, HK6.out, HB6.out⟩

theorem flatB_len (os : List (List UInt8)) (h : ∀ o ∈ os, o.length = 32) : (flatB os).length = os.length * 32 := by
  induction os with
  | nil => rfl
  | cons x l ih => rw [flatB, List.length_append, h x (List.mem_cons_self ..), ih (fun o ho => h o (List.mem_cons_of_mem _ ho)), List.length_cons]; omega
theorem flatB_splice (os : List (List UInt8)) (h : ∀ o ∈ os, o.length = 32) (m : Nat) (hm : m < os.length) (y : List UInt8) (hy : y.length = 32) : splice (flatB os) (m * 32) y = flatB (os.set m y) := by
  induction os generalizing m with
  | nil => simp at hm
  | cons x l ih =>
    have hx := h x (List.mem_cons_self ..)
    cases m with
    | zero =>
      rw [List.set_cons_zero, flatB, flatB, splice, Nat.zero_mul, List.take_zero, List.nil_append, Nat.zero_add, List.drop_append_of_le_length (by omega), List.drop_of_length_le (by omega), List.nil_append]
    | succ m =>
      rw [List.set_cons_succ, flatB, flatB, ← ih (fun o ho => h o (List.mem_cons_of_mem _ ho)) m (by simpa using hm)]
      have e : (m + 1) * 32 = x.length + m * 32 := by omega
      unfold splice
      rw [e, List.take_length_add_append, Nat.add_assoc, List.drop_length_add_append, List.append_assoc]
theorem Tryd.size32O : (Tryd.prog.info? 32).map (·.size) = some 32 := by kernel_rfl
set_option maxRecDepth 100000 in
set_option maxHeartbeats 4000000 in
theorem sumDone_any (b bo go N m : Nat) (h : V8) (lf : Int) (os : List (List UInt8)) (W : World) (hBo : Blk W bo 24 #[.slice (some ⟨go, 0, none⟩) N N]) (hbl : Blk W b 53 (laneC ⟨(m : Int), h, lf⟩).toArray)
    (hgo : Blk W go 32 ((flatB os).map b8).toArray) (hol : ∀ o ∈ os, o.length = 32) (hos : os.length = N) (hm : m < N) (hN : N ≤ 1000) :
    Calls Tryd.prog 24 #[.pointer (some ⟨b, 0, none⟩), .pointer (some ⟨bo, 0, none⟩)] W fun e W' => e = .returned (.tuple #[]) ∧ Keeps (fun x => x = go) W W' ∧ Blk W' go 32 ((flatB (os.set m (outF h))).map b8).toArray := by
  obtain ⟨hv, Hhv⟩ : ∃ hv : Array Value, Hid ((h.list.map b32).toArray = hv) := ⟨_, lib_hid rfl⟩
  obtain ⟨o, Ho⟩ : ∃ o, Hid (outF h = o) := ⟨_, lib_hid rfl⟩
  have hol2 : Hid (o.length = 32) := by unfold Hid; rw [← Ho.out]; exact outF_len h
  obtain ⟨rv, Hrv⟩ : ∃ rv : Array Value, Hid ((o.map b8).toArray = rv) := ⟨_, lib_hid rfl⟩
  have HLh : Hid (∀ W', Grows W W' → ∀ j u, (h.list.map b32)[j]? = some u → W'.cell? ((⟨b, 1, none⟩ : Addr).add j) = some u) := fun W' hW j u hu => by
    have hj : j < 8 := by have := (List.getElem?_eq_some_iff.1 hu).1; rw [List.length_map] at this; exact this
    have e : (laneC ⟨(m : Int), h, lf⟩) = .int .i64 (m : Int) :: (h.list.map b32 ++ [.int .i64 lf]) := rfl
    rw [add_zero_spot, (hbl.grows hW).cell, List.getElem?_toArray, e, Nat.add_comm, List.getElem?_cons_succ, List.getElem?_append_left (by rw [List.length_map]; exact hj), hu]
  have HC : Hid (∀ W', Calls Tryd.prog 25 #[.agg hv] W' fun e w' => e = .returned (.agg rv) ∧ Grows W' w') := fun W' => by
    have := out_any h W'
    rw [Ho.out] at this
    rw [← Hhv.out, ← Hrv.out]
    exact this
  have HBo := lib_hid hBo
  have HBx := lib_hid hbl
  have HGo := lib_hid hgo
  have Hol := lib_hid hol
  have Hos := lib_hid hos
  have hmi : (m : Int) < (N : Int) := by omega
  have hNm : (N : Int) ≤ 1000 := by omega
  have Hm := lib_hid hm
  rw [Ho.out]
  clear hBo hbl hgo hol hos hm hN
  go_enter Tryd.func24, Tryd.ntmps24
  apply wp_region_mono 11 ((.is _, []) :: (.is _, []) :: (.is _, []) :: (.is _, []) :: (.is _, []) :: (.is _, []) :: (.is _, []) :: (.is _, []) :: (.is (.agg hv), []) :: (.is (.agg rv), []) :: (.is _, []) :: []) (by kernel_rfl) (by kernel_rfl)
  apply Mono.is0
  · kernel_rfl
  · intro W hW
    have c0 : W.cell? ⟨bo, 0, none⟩ = some (.slice (some ⟨go, 0, none⟩) N N) := (HBo.out.grows hW).cell 0
    go_wp2
    refine ⟨rfl, rfl, Grows.refl _, ?_⟩
    unfold Oper.valAt
    go_simp
    rfl
  intro k1 a1 hk1 ha1
  simp only [Nat.reduceAdd] at hk1
  simp only [Act.put, List.setIfInBounds_toArray, List.set_cons_succ, List.set_cons_zero] at ha1
  subst hk1 ha1
  iterate 3
    apply Mono.is0
    · kernel_rfl
    · intro W hW
      go_wp2
      refine ⟨rfl, rfl, Grows.refl _, ?_⟩
      unfold Oper.valAt
      go_simp
      rfl
    intro k1 a1 hk1 ha1
    simp only [Nat.reduceAdd] at hk1
    simp only [Act.put, List.setIfInBounds_toArray, List.set_cons_succ, List.set_cons_zero] at ha1
    subst hk1 ha1
  apply Mono.is0
  · kernel_rfl
  · intro W hW
    have c0 : W.cell? ⟨b, 0, none⟩ = some (.int .i64 (m : Int)) := (HBx.out.grows hW).cell 0
    go_wp2
    refine ⟨rfl, rfl, Grows.refl _, ?_⟩
    unfold Oper.valAt
    go_simp
    rfl
  intro k1 a1 hk1 ha1
  simp only [Nat.reduceAdd] at hk1
  simp only [Act.put, List.setIfInBounds_toArray, List.set_cons_succ, List.set_cons_zero] at ha1
  subst hk1 ha1
  iterate 3
    apply Mono.is0
    · kernel_rfl
    · intro W hW
      go_wp2
      refine ⟨rfl, rfl, Grows.refl _, ?_⟩
      unfold Oper.valAt
      go_simp
      rfl
    intro k1 a1 hk1 ha1
    simp only [Nat.reduceAdd] at hk1
    simp only [Act.put, List.setIfInBounds_toArray, List.set_cons_succ, List.set_cons_zero] at ha1
    subst hk1 ha1
  apply Mono.is0
  · kernel_rfl
  · intro W hW 
    go_wp2_with (refine wpList_load_at (by kernel_rfl) _ _ rfl ⟨b, 1, none⟩ rfl (h.list.map b32) _ Tryd.underlying51 rfl (by rw [Tryd.size8]; rfl) (HLh.out W hW) ?_)
    rw [Hhv.out]
    exact ⟨rfl, rfl, Grows.refl _, rfl⟩
  intro k1 a1 hk1 ha1
  simp only [Nat.reduceAdd] at hk1
  simp only [Act.put, List.setIfInBounds_toArray, List.set_cons_succ, List.set_cons_zero] at ha1
  subst hk1 ha1
  apply Mono.is0
  · kernel_rfl
  · intro W hW 
    go_wp2_with fail
    refine (HC.out W).mono ?_
    rintro e1 w1 ⟨rfl, hg1⟩
    go_wp2
    exact ⟨rfl, rfl, hg1, rfl⟩
  intro k1 a1 hk1 ha1
  simp only [Nat.reduceAdd] at hk1
  simp only [Act.put, List.setIfInBounds_toArray, List.set_cons_succ, List.set_cons_zero] at ha1
  subst hk1 ha1
  apply Mono.is0
  · kernel_rfl
  · intro W hW
    go_wp2
    refine ⟨rfl, rfl, Grows.refl _, ?_⟩
    unfold Oper.valAt
    go_simp
    rfl
  intro k1 a1 hk1 ha1
  simp only [Nat.reduceAdd] at hk1
  simp only [Act.put, List.setIfInBounds_toArray, List.set_cons_succ, List.set_cons_zero] at ha1
  subst hk1 ha1
  refine Mono.done ?_
  intro wm hgm
  simp only [allF, List.drop_succ_cons, List.drop_zero]
  have HGm := lib_hid (HGo.out.grows hgm)
  have Hgm := lib_hid hgm
  have hfit : m * 32 + (o.map b8).length ≤ ((flatB os).map b8).length := by
    rw [List.length_map, List.length_map, hol2.out, flatB_len os Hol.out, Hos.out]
    have := Hm.out
    omega
  have hy : Value.agg rv = Value.agg (o.map b8).toArray := by rw [Hrv.out]
  clear hgm HC HLh HGo HBo HBx
  refine wpList_store_part rfl _ _ _ rfl go (m * 32) (o.map b8) rfl hy 32 ((flatB os).map b8) HGm.out (by rw [Tryd.size32O, List.length_map, hol2.out]) hfit (b8_one o) 0 wm (Below.refl _ _) (Nat.zero_le _) ?_
  intro w5 HB5 _ hgr5
  rw [splice_map, flatB_splice os Hol.out m (by rw [Hos.out]; exact Hm.out) o hol2.out] at HB5
  have HB6 := lib_hid HB5
  have HK6 : Hid (Keeps (fun b => b = go) W w5) := lib_hid ((Hgm.out.keeps _).trans ((keeps_grown hgr5).mono (fun i h _ => (Option.some.inj h).symm)) (fun _ h _ => h))
  clear HB5 hgr5 HGm Hgm hfit hy
  go_wp2
  go_end0
  exact ⟨rfl, HK6.out, HB6.out⟩
end Go.Proofs.YtnlffaglmcddkaaDoor
